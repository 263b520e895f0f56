/- Readings of arguments as plain typed data: integers, bools, strings, slices, structs, and types that hold slices of themselves. Conditions: none. -/
import Derived.Test.YtgnggiibhkphjaaGreatDoorMem
import Derived.ProofKit
import Derived.Deep.Slices
import Derived.OpenShut
namespace Go.Proofs.YtgnggiibhkphjaaGreatDoor
open Go.ChangeShapes Go.WideShapes Go.RowKit Go.Deep

/-- What fits its kind. -/
def FitV : Value → Prop
  | .int .i64 n => -9223372036854775808 ≤ n ∧ n ≤ 9223372036854775807
  | .string s => s.size ≤ 9223372036854775807
  | _ => True
mutual
def FitD : Dat → Prop
  | .v x => FitV x
  | .s n cs => n ≤ 9223372036854775807 ∧ FitL cs
def FitL : List Dat → Prop
  | [] => True
  | d :: ds => FitD d ∧ FitL ds
end
theorem FitL_iff : ∀ {ds : List Dat}, FitL ds ↔ ∀ d ∈ ds, FitD d
  | [] => by simp [FitL]
  | d :: ds => by rw [FitL, FitL_iff (ds := ds)]; simp
theorem FitL_append {as bs : List Dat} : FitL (as ++ bs) ↔ FitL as ∧ FitL bs := by
  simp only [FitL_iff, List.mem_append]
  exact ⟨fun h => ⟨fun d hd => h d (.inl hd), fun d hd => h d (.inr hd)⟩, fun h d hd => hd.elim (h.1 d) (h.2 d)⟩
theorem FitL_flatMap {α : Type} {F : α → List Dat} {l : List α} : FitL (l.flatMap F) ↔ ∀ a ∈ l, FitL (F a) := by
  simp only [FitL_iff, List.mem_flatMap]
  exact ⟨fun h a ha d hd => h d ⟨a, ha, hd⟩, fun h d ⟨a, ha, hd⟩ => h a ha d hd⟩

/-- Cells that stand as values. -/
def RdV (w : World) (ds : List Dat) (cs : List Value) : Prop := cs.length = ds.length ∧ ∀ (j : Nat) (d : Dat), ds[j]? = some d → ∃ u, cs[j]? = some u ∧ Rd w w.heap.size d u

theorem RdV.nil (w : World) : RdV w [] [] := ⟨rfl, fun _ _ h => by simp at h⟩
theorem RdV.one {w : World} {d : Dat} {u : Value} (h : Rd w w.heap.size d u) : RdV w [d] [u] :=
  ⟨rfl, fun j x hx => by
    match j, hx with
    | 0, hx => simp at hx; subst hx; exact ⟨u, rfl, h⟩⟩
theorem RdV.one_inv {w : World} {d : Dat} {cs : List Value} (h : RdV w [d] cs) : ∃ u, cs = [u] ∧ Rd w w.heap.size d u := by
  obtain ⟨h1, h2⟩ := h
  match cs, h1 with
  | [u], _ =>
    obtain ⟨u', hu, hd⟩ := h2 0 d rfl
    simp at hu; subst hu
    exact ⟨_, rfl, hd⟩
theorem RdV.append {w : World} {as bs : List Dat} {us vs : List Value} (h : RdV w as us) (h' : RdV w bs vs) : RdV w (as ++ bs) (us ++ vs) := by
  refine ⟨by simp [h.1, h'.1], fun j d hj => ?_⟩
  by_cases hl : j < as.length
  · rw [List.getElem?_append_left hl] at hj
    obtain ⟨u, hu, hd⟩ := h.2 j d hj
    exact ⟨u, by rw [List.getElem?_append_left (by rw [h.1]; exact hl)]; exact hu, hd⟩
  · rw [List.getElem?_append_right (by omega)] at hj
    obtain ⟨u, hu, hd⟩ := h'.2 _ d hj
    exact ⟨u, by rw [List.getElem?_append_right (by rw [h.1]; omega), h.1]; exact hu, hd⟩

/-- Readings of type t by at most N steps give data of the form F, which fit. -/
def Opens {α : Type} (P : Program) (N : Nat) (t : TypeId) (F : α → List Dat) : Prop :=
  ∀ {H : Type} (enc : TypeId × Value → H) (w : World) (n : Nat) (cs : List Value) (x : DataW H × List MemPlace), n ≤ N → DataW.trod enc P w 0 (fun _ => true) true n t cs = some x → ∃ a, FitL (F a) ∧ RdV w (F a) cs

def intF (n : Int) : List Dat := [.v (.int .i64 n)]
def boolF (b : Bool) : List Dat := [.v (.bool b)]
def strF (s : ByteArray) : List Dat := [.v (.string s)]
def listF {α : Type} (F : α → List Dat) (l : List α) : List Dat := [.s l.length (l.flatMap F)]

theorem Opens.int {P : Program} {N : Nat} {t : TypeId} (ht : P.underlying t = some (.int .i64)) : Opens P N t intF := by
  intro H enc w n cs x _ h
  obtain ⟨m, rfl, _, hw⟩ := DataW.trod_int ht h
  refine ⟨m, ?_, RdV.one (by rw [Rd])⟩
  have hw' := bounds_i64 hw
  simp only [intF, FitL, FitD, FitV, and_true]
  omega
theorem Opens.bool {P : Program} {N : Nat} {t : TypeId} (ht : P.underlying t = some .bool) : Opens P N t boolF := by
  intro H enc w n cs x _ h
  obtain ⟨b, rfl, _⟩ := DataW.trod_bool ht h
  exact ⟨b, by simp [boolF, FitL, FitD, FitV], RdV.one (by rw [Rd])⟩
theorem Opens.string {P : Program} {N : Nat} {t : TypeId} (ht : P.underlying t = some .string) : Opens P N t strF := by
  intro H enc w n cs x _ h
  obtain ⟨s, rfl, _, hs⟩ := DataW.trod_string ht h
  exact ⟨s, by simp only [strF, FitL, FitD, FitV, and_true]; unfold maxLen at hs; omega, RdV.one (by rw [Rd])⟩

theorem Opens.mono {α : Type} {P : Program} {N M : Nat} {t : TypeId} {F : α → List Dat} (h : Opens P N t F) (hm : M ≤ N) : Opens P M t F := fun enc w n cs x hn hx => h enc w n cs x (by omega) hx
theorem Opens.map {α β : Type} {P : Program} {N : Nat} {t : TypeId} {F : α → List Dat} {G : β → List Dat} (h : Opens P N t F) (g : α → β) (hg : ∀ a, G (g a) = F a) : Opens P N t G := fun enc w n cs x hn hx => by
  obtain ⟨a, h1, h2⟩ := h enc w n cs x hn hx
  exact ⟨g a, by rw [hg]; exact h1, by rw [hg]; exact h2⟩

theorem RdV.mem {w : World} {B : Nat} {d : Dat} {u : Value} (h : Rd w B d u) (hB : B ≤ w.heap.size) : Rd w w.heap.size d u := h.mono hB

theorem Opens.slice {α : Type} {P : Program} {N c : Nat} {t e : TypeId} {F : α → List Dat} (ht : P.underlying t = some (.slice e)) (hc : P.cellsOf e = c) (hpos : 0 < c) (hF : ∀ a, (F a).length = c) (h : Opens P N e F) : Opens P (N + 1) t (listF F) := by
  intro H enc w n cs x hn hx
  rcases DataW.trod_slice ht hx with ⟨rfl, _⟩ | ⟨a, len, cap, elems, rest, m, hm, rfl, _, _, hl, hcap, hlen, hel, _, _⟩
  · refine ⟨[], by simp [listF, FitL, FitD], RdV.one ?_⟩
    rw [Rd]
    exact ⟨none, 0, rfl, Nat.le_refl _, by simp [maxLen], .inl rfl⟩
  · have each : ∀ i, i < len → ∃ b : α, FitL (F b) ∧ ∃ cs', w.cells? 0 (a.add (i * c)) c = some cs' ∧ RdV w (F b) cs' := by
      intro i hi
      have hb := hel i hi
      rw [List.getElem?_eq_getElem (by omega), Option.bind_eq_some_iff] at hb
      obtain ⟨cs', h1, h2⟩ := hb
      obtain ⟨b, h3, h4⟩ := h enc w m cs' _ (by omega) h2
      rw [hc] at h1
      exact ⟨b, h3, cs', h1, h4⟩
    have build : ∀ k, k ≤ len → ∃ l : List α, l.length = k ∧ (∀ i (hi : i < l.length), FitL (F l[i]) ∧ ∃ cs', w.cells? 0 (a.add (i * c)) c = some cs' ∧ RdV w (F l[i]) cs') := by
      intro k
      induction k with
      | zero => exact fun _ => ⟨[], rfl, fun i hi => by simp at hi⟩
      | succ k ih =>
        intro hk
        obtain ⟨l, hl1, hl2⟩ := ih (by omega)
        obtain ⟨b, hb1, hb2⟩ := each k (by omega)
        refine ⟨l ++ [b], by simp [hl1], fun i hi => ?_⟩
        by_cases hik : i < l.length
        · rw [List.getElem_append_left hik]; exact hl2 i hik
        · have : i = l.length := by simp at hi; omega
          subst this
          rw [List.getElem_concat_length (by rfl), hl1]
          exact ⟨hb1, hb2⟩
    obtain ⟨l, hl1, hl2⟩ := build len (Nat.le_refl _)
    have hfit : FitL (listF F l) := by
      simp only [listF, FitL, FitD, and_true]
      refine ⟨by unfold maxLen at hcap; omega, FitL_flatMap.2 fun b hb => ?_⟩
      obtain ⟨i, hi, rfl⟩ := List.getElem_of_mem hb
      exact (hl2 i hi).1
    refine ⟨l, hfit, RdV.one ?_⟩
    rw [Rd, hl1]
    refine ⟨some a, cap, rfl, hl, hcap, ?_⟩
    rcases Nat.eq_zero_or_pos len with h0 | h0
    · left
      have : l = [] := List.eq_nil_of_length_eq_zero (by omega)
      subst this; rfl
    · right
      have hcell0 : ∀ i (hi : i < l.length) j, j < c → ∃ u, w.cell? ((a.add (i * c)).add j) = some u := by
        intro i hi j hj
        obtain ⟨_, cs', h1, h2⟩ := hl2 i hi
        obtain ⟨_, h4, h5⟩ := World.cells?_some h1
        exact ⟨cs'[j]'(by omega), by rw [h5 j hj, List.getElem?_eq_getElem]⟩
      have hsp : a.spot = none := by
        obtain ⟨u, hu⟩ := hcell0 0 (by omega) 0 (by omega)
        have := World.cell?_spot hu
        simpa [Addr.add] using this
      obtain ⟨b, off, spot⟩ := a
      simp at hsp; subst hsp
      have hbl : b < w.heap.size := by
        obtain ⟨u, hu⟩ := hcell0 0 (by omega) 0 (by omega)
        have := World.block_lt_of_cell? w _ hu
        simpa [Addr.add] using this
      refine ⟨b, off, rfl, hbl, RdL_iff.2 fun j d hj => ?_⟩
      have hjl : j < (l.flatMap F).length := by
        rcases Nat.lt_or_ge j (l.flatMap F).length with h | h
        · exact h
        · rw [List.getElem?_eq_none h] at hj; cases hj
      rw [flatMap_length_of hF] at hjl
      have hq : j / c < l.length := by rw [Nat.div_lt_iff_lt_mul hpos]; exact hjl
      have hr : j % c < c := Nat.mod_lt _ hpos
      have hjj : j / c * c + j % c = j := by rw [Nat.mul_comm]; exact Nat.div_add_mod j c
      have hat := flatMap_at hF l (j / c) (j % c) hq hr
      rw [hjj, hj] at hat
      obtain ⟨_, cs', h1, h2⟩ := hl2 (j / c) hq
      obtain ⟨_, _, h5⟩ := World.cells?_some h1
      obtain ⟨u, hu, hd⟩ := h2.2 (j % c) d hat.symm
      refine ⟨u, ?_, hd⟩
      have := h5 (j % c) hr
      rw [hu, add_plain, add_plain, Nat.add_assoc, hjj] at this
      exact this

/-- The fields of a struct from an offset on. -/
def OpensFs {α : Type} (P : Program) (N : Nat) (fs : List Field) (off : Nat) (F : α → List Dat) : Prop :=
  ∀ {H : Type} (enc : TypeId × Value → H) (w : World) (n : Nat) (cs : List Value), n ≤ N → (∀ f ∈ fs, ∃ x, DataW.trod enc P w 0 (fun _ => true) true n f.type ((cs.drop f.offset).take (P.cellsOf f.type)) = some x) → cs.length = off + (fs.map fun f => P.cellsOf f.type).sum → ∃ a, FitL (F a) ∧ RdV w (F a) (cs.drop off)

theorem OpensFs.nil {P : Program} {N off : Nat} : OpensFs P N [] off (fun _ : Unit => []) := fun enc w n cs _ _ hl => ⟨(), trivial, by
  rw [List.drop_of_length_le (by simp at hl; omega)]; exact RdV.nil w⟩
theorem OpensFs.cons {α β : Type} {P : Program} {N off c : Nat} {f : Field} {fs : List Field} {F : α → List Dat} {G : β → List Dat} (ho : f.offset = off) (hc : P.cellsOf f.type = c) (h : Opens P N f.type F) (h' : OpensFs P N fs (off + c) G) :
    OpensFs P N (f :: fs) off (fun p : α × β => F p.1 ++ G p.2) := by
  intro H enc w n cs hn hf hl
  obtain ⟨x, hx⟩ := hf f (by simp)
  obtain ⟨a, a1, a2⟩ := h enc w n _ x hn hx
  simp only [List.map_cons, List.sum_cons] at hl
  obtain ⟨b, b1, b2⟩ := h' enc w n cs hn (fun g hg => hf g (by simp [hg])) (by omega)
  refine ⟨(a, b), FitL_append.2 ⟨a1, b1⟩, ?_⟩
  rw [ho, hc] at a2
  have e : cs.drop off = (cs.drop off).take c ++ cs.drop (off + c) := by rw [← List.drop_drop, List.take_append_drop]
  rw [e]
  exact a2.append b2
theorem Opens.struct {α : Type} {P : Program} {N : Nat} {t : TypeId} {fs : Array Field} {F : α → List Dat} (ht : P.underlying t = some (.struct fs)) (hc : P.cellsOf t = (fs.toList.map fun f => P.cellsOf f.type).sum) (h : OpensFs P N fs.toList 0 F) : Opens P (N + 1) t F := by
  intro H enc w n cs x hn hx
  obtain ⟨xs, m, hm, _, hl, hlen, hf⟩ := DataW.trod_struct ht hx
  have := h enc w m cs (by omega) (fun f hfm => by
    obtain ⟨i, hi, hfi⟩ := List.getElem_of_mem hfm
    have hi' : i < fs.size := by simpa using hi
    have h1 := hf i f (by rw [Array.getElem?_eq_getElem hi']; simpa using hfi)
    rw [List.getElem?_eq_getElem (by omega)] at h1
    exact ⟨_, h1⟩) (by rw [hl, hc, Nat.zero_add])
  simpa using this

/-- An argument that is one cell, read. -/
theorem Opens.arg {H : Type} {enc : TypeId × Value → H} {α : Type} {P : Program} {t e : TypeId} {F : α → List Dat} (hO : ∀ N, Opens P N t (listF F)) (ht : P.underlying t = some (.slice e)) {W : World} {r : Reach} {b0 : Nat} {v : Value} {d : DataW H} {ps : List MemPlace}
    (hv : Value.okWide P W r b0 t v) (h : DataW.Trod enc P W 0 (fun _ => true) true t v d ps) : ∃ l : List α, FitL (listF F l) ∧ Rd W W.heap.size (.s l.length (l.flatMap F)) v := by
  obtain ⟨a, len, cap, rfl⟩ := okWide_slice ht hv
  obtain ⟨n, hn⟩ := h
  obtain ⟨l, h1, h2⟩ := hO n enc W n _ _ (Nat.le_refl _) hn
  obtain ⟨u, hu, hd⟩ := RdV.one_inv h2
  simp [Value.cells] at hu
  subst hu
  exact ⟨l, h1, hd⟩

end Go.Proofs.YtgnggiibhkphjaaGreatDoor
