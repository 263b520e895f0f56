/- MakePart of both packages. Written by a program. -/
import Derived.Test.YtapmknkelihacaaDoorWrap
namespace Go.Proofs.YtapmknkelihacaaDoor
open Go.RowKit
/-- A block that holds values, and may be written. -/
def Box (W : World) (g : Nat) (vs : List Value) : Prop := ∀ j v, vs[j]? = some v → W.cell? ⟨g, j, none⟩ = some v ∧ W.frozen? ⟨g, j, none⟩ = false
theorem Box.keep {W W' : World} {g : Nat} {vs : List Value} {T : List Nat} (h : Box W g vs) (hc : Chg T W W') (hg : g < W.heap.size) (hT : g ∉ T) : Box W' g vs :=
  fun j v hj => ⟨(hc.cell (p := ⟨g, j, none⟩) hg hT).trans (h j v hj).1, (hc.frozen (p := ⟨g, j, none⟩) hg hT).trans (h j v hj).2⟩
theorem Box.new (w : World) (vs : List Value) (e : TypeId) : Box (w.alloc (.cells vs.toArray e)) w.heap.size vs := by
  intro j v hj
  exact ⟨cell_lit _ _ _ (by simpa using hj), by unfold World.frozen?; rw [heap_alloc_new]; simp⟩
theorem Box.newAt (w : World) (g : Nat) (vs : List Value) (e : TypeId) (hg : g = w.heap.size) : Box (w.alloc (.cells vs.toArray e)) g vs := by subst hg; exact Box.new w vs e
theorem Box.set {W : World} {g : Nat} {vs : List Value} (h : Box W g vs) (i : Nat) (v : Value) (hi : i < vs.length) : Box (W.setCell ⟨g, i, none⟩ v) g (vs.set i v) := by
  intro j u hj
  rw [List.getElem?_set] at hj
  obtain ⟨h1, h2⟩ := h i _ (List.getElem?_eq_getElem hi)
  by_cases hij : i = j
  · subst hij
    rw [if_pos rfl, if_pos hi] at hj
    cases hj
    exact ⟨World.cell?_setCell_same _ _ _ h1, by rw [World.frozen?_setCell]; exact h2⟩
  · rw [if_neg hij] at hj
    exact ⟨(World.cell?_setCell_other _ _ _ _ (by simp <;> omega)).trans (h j u hj).1, by rw [World.frozen?_setCell]; exact (h j u hj).2⟩
theorem part_rd {p : PartT} {w : World} {a b c d s3 s5 : Value} {S : List Nat} (h : HasL w (partF p) [a, b, c, s3, d, s5] S) : Rd w w.heap.size (cells p.core.cells) s3 ∧ Rd w w.heap.size (layers p.layers) s5 := by
  have h1 := h.1
  rw [partF_eq] at h1
  simp only [OwnL] at h1
  obtain ⟨u0, r0, _, _, e0, _, _, u1, r1, _, _, e1, _, _, u2, r2, _, _, e2, _, _, u3, r3, _, _, e3, _, o3, u4, r4, _, _, e4, _, _, u5, r5, _, _, e5, _, o5, _⟩ := h1
  cases e0; cases e1; cases e2; cases e3; cases e4; cases e5
  exact ⟨Own.rd _ _ _ o3, Own.rd _ _ _ o5⟩
theorem newT_bare (T : List Nat) {w w' : World} (hc : Chg T w w') (p : PartT) (h1 : p.core.cells = []) (h2 : p.layers = []) : NewT T w w' (partF p) [.string p.core.kind, .bool p.core.on, .bool p.core.broken, .slice none 0 0, .int .i64 p.core.count, .slice none 0 0] := by
  have o : ∀ {α : Type} (F : α → List Dat), Own w' (.s ([] : List α).length (([] : List α).flatMap F)) (.slice none 0 0) [] := fun F => by simp [Own]
  refine ⟨[], ⟨?_, List.nodup_nil⟩, by simp, hc⟩
  rw [partF_eq, h1, h2]
  have o1 : Own w' (cells []) (.slice none 0 0) [] := o cellF
  have o2 : Own w' (layers []) (.slice none 0 0) [] := o layerF
  simp only [OwnL]
  exact ⟨_, _, [], [], rfl, rfl, by simp [Own], _, _, [], [], rfl, rfl, by simp [Own], _, _, [], [], rfl, rfl, by simp [Own], _, _, [], [], rfl, rfl, o1, _, _, [], [], rfl, rfl, by simp [Own], _, _, [], [], rfl, rfl, o2, rfl, rfl⟩
theorem NewT.ends {w wq wr w2 w3 : World} {T U : List Nat} {ds : List Dat} {us : List Value} (h : NewT T wq wr ds us) (h0 : Chg [] w wq) (hT : ∀ x, x ∈ T → w.heap.size ≤ x) (h12 : Chg [] wr w2) (hU : ∀ x, x ∈ U → w.heap.size ≤ x ∧ x < wq.heap.size) (hc : Chg U w2 w3) : NewL w w3 ds us := by
  obtain ⟨S, h1, h2, h3⟩ := h
  exact ⟨S, (h1.keep h12 (by simp)).keep hc (fun x hx hxU => by have := h2 x hx; have := (hU x hxU).2; omega), fun x hx => Nat.le_trans h0.size (h2 x hx), ((h0.trans h3 (fun x hx => .inr (hT x hx))).trans0 h12).trans hc (fun x hx => .inr (hU x hx).1)⟩
theorem NewL.fresh {wq wr w2 w3 : World} {g : Nat} {ds : List Dat} {us : List Value} (h : NewL wr w2 ds us) (h0 : Chg [g] wq wr) (hg : g < wr.heap.size) (hc : Chg [g] w2 w3) : NewT [g] wq w3 ds us := by
  obtain ⟨S, h1, h2, h3⟩ := h
  exact ⟨S, h1.keep hc (fun x hx => by have := h2 x hx; simp; omega), fun x hx => Nat.le_trans h0.size (h2 x hx), (h0.trans0 h3).trans hc (fun x hx => .inl hx)⟩
theorem wrapOf_core (p : PartT) (n : ByteArray) : (wrapOf p n).1.core = p.core := by
  unfold wrapOf
  split
  · rfl
  · split
    · rfl
    · split
      · rfl
      · split <;> rfl
theorem wrapOf_len (p : PartT) (n : ByteArray) : (wrapOf p n).1.layers.length ≤ p.layers.length + 1 := by
  unfold wrapOf
  split
  · simp
  · split
    · simp
    · split
      · simp
      · split <;> simp
theorem makeFold_stop {p : PartT} {l : List ByteArray} {j : Nat} (hj : j < l.length) {q : PartT} {r : RepT} (hw : wrapOf p l[j] = (q, r)) (hc : ¬ r.code = 0) : makeFold p (l.drop j) = (zeroPart, r) := by
  rw [List.drop_eq_getElem_cons hj, makeFold, hw]
  simp only [hc, if_false]
theorem makeFold_step {p : PartT} {l : List ByteArray} {j : Nat} (hj : j < l.length) {q : PartT} {r : RepT} (hw : wrapOf p l[j] = (q, r)) (hc : r.code = 0) : makeFold p (l.drop j) = makeFold q (l.drop (j + 1)) := by
  rw [List.drop_eq_getElem_cons hj, makeFold, hw]
  simp only [hc, if_true]
theorem makeOf_none {k : ByteArray} {r : List ByteArray} (h : kindOf k = none) : makeOf (k :: r) = (zeroPart, repOf 7 0 0 0) := by rw [makeOf, h]
theorem makeOf_some {k : ByteArray} {r : List ByteArray} {f : Int} (h : kindOf k = some f) : makeOf (k :: r) = makeFold (newPart k) r := by rw [makeOf, h]
set_option maxRecDepth 100000 in
set_option maxHeartbeats 4000000 in
theorem makePart_impl_any (l : List ByteArray) (u : Value) (B : Nat) (w : World) (r : Rd w B (strs l) u) (hB : B ≤ w.heap.size) (hl : l.length ≤ 1048576) :
    Calls Tryd.prog 32 #[u] w (PartRep (makeOf l) w) := by
  obtain ⟨A, cap, rfl, h0, h1, hrow⟩ := strs_row r
  unfold maxLen at h1
  clear r
  have tt : w.heap.size < w.heap.size + 1 := Nat.lt_succ_self _
  have tt2 : w.heap.size < w.heap.size + 1 + 1 := by omega
  cases l with
  | nil =>
    go_enter Tryd.func32, Tryd.ntmps32
    go_wp2_with fail
    refine bodyPost_ret (v := .tuple #[.agg #[.string ⟨#[]⟩, .bool false, .bool false, .slice none 0 0, .int .i64 0, .slice none 0 0], .agg #[.int .i64 7, .int .i64 0, .string ⟨#[]⟩, .int .i64 0, .int .i64 0]]) (by simp only [results, Tryd.results32]; go_simp) rfl ?_
    rw [makeOf]
    refine ⟨none, 0, none, 0, rfl, ?_⟩
    exact (newT_bare [w.heap.size, w.heap.size + 1] (p := zeroPart) (by repeat (first | with_reducible exact Chg.refl _ _ | with_reducible refine Chg.drew ?_ | with_reducible refine Chg.alloc ?_ _ | with_reducible refine Chg.setCell ?_ (.inl (by simp)) _)) rfl rfl).done (w := w) (w0 := w) (by simp <;> omega) (Chg.refl _ _)
  | cons k rest =>
    obtain ⟨b, off, rfl, hb, q0⟩ := strs_cells hrow 0 (by simp)
    rw [Nat.add_zero] at q0
    simp only [List.getElem_cons_zero] at q0
    simp only [List.length_cons] at hl h0
    have hlenI : (0 : Int) < ((rest.length : Int) + 1) := by omega
    have hbw : b < w.heap.size := by omega
    have hlen1 : (1 : Int) ≤ (rest.length : Int) + 1 := by omega
    have hlen2 : (rest.length : Int) + 1 ≤ (cap : Int) := by omega
    have hlen3 : (1 : Int) ≤ (cap : Int) := by omega
    have hlenN : ((rest.length : Int) + 1 - 1) = (rest.length : Int) := by omega
    cases hk : kindOf k with
    | none =>
      have NP := Lib.hid (fun W => newPart_impl_none_any k hk W)
      have HK := Lib.hid (makeOf_none (r := rest) hk)
      clear hk
      go_enter Tryd.func32, Tryd.ntmps32
      go_wp2_with fail
      refine (NP.out _).mono ?_
      rintro e w1 ⟨rfl, c1⟩
      have E1 : Chg [] w w1 := Chg.trans0 (by repeat (first | with_reducible exact Chg.refl _ _ | with_reducible refine Chg.drew ?_ | with_reducible refine Chg.alloc ?_ _)) c1
      have t1 : w.heap.size + 1 < w1.heap.size := by have := c1.size; simp at this; omega
      have t1a : w.heap.size < w1.heap.size := by omega
      have a0 : w1.cell? ⟨w.heap.size, 0, none⟩ = some (.string ⟨#[]⟩) := (c1.cell (p := ⟨w.heap.size, 0, none⟩) (by simp <;> omega) (by simp)).trans (by go_simp)
      have a1 : w1.cell? ⟨w.heap.size, 1, none⟩ = some (.bool false) := (c1.cell (p := ⟨w.heap.size, 1, none⟩) (by simp <;> omega) (by simp)).trans (by go_simp)
      have a2 : w1.cell? ⟨w.heap.size, 2, none⟩ = some (.bool false) := (c1.cell (p := ⟨w.heap.size, 2, none⟩) (by simp <;> omega) (by simp)).trans (by go_simp)
      have a3 : w1.cell? ⟨w.heap.size, 3, none⟩ = some (.slice none 0 0) := (c1.cell (p := ⟨w.heap.size, 3, none⟩) (by simp <;> omega) (by simp)).trans (by go_simp)
      have a4 : w1.cell? ⟨w.heap.size, 4, none⟩ = some (.int .i64 0) := (c1.cell (p := ⟨w.heap.size, 4, none⟩) (by simp <;> omega) (by simp)).trans (by go_simp)
      have a5 : w1.cell? ⟨w.heap.size, 5, none⟩ = some (.slice none 0 0) := (c1.cell (p := ⟨w.heap.size, 5, none⟩) (by simp <;> omega) (by simp)).trans (by go_simp)
      have af0 : w1.frozen? ⟨w.heap.size, 0, none⟩ = false := (c1.frozen (p := ⟨w.heap.size, 0, none⟩) (by simp <;> omega) (by simp)).trans (by go_simp)
      have af1 : w1.frozen? ⟨w.heap.size, 1, none⟩ = false := (c1.frozen (p := ⟨w.heap.size, 1, none⟩) (by simp <;> omega) (by simp)).trans (by go_simp)
      have af2 : w1.frozen? ⟨w.heap.size, 2, none⟩ = false := (c1.frozen (p := ⟨w.heap.size, 2, none⟩) (by simp <;> omega) (by simp)).trans (by go_simp)
      have af3 : w1.frozen? ⟨w.heap.size, 3, none⟩ = false := (c1.frozen (p := ⟨w.heap.size, 3, none⟩) (by simp <;> omega) (by simp)).trans (by go_simp)
      have af4 : w1.frozen? ⟨w.heap.size, 4, none⟩ = false := (c1.frozen (p := ⟨w.heap.size, 4, none⟩) (by simp <;> omega) (by simp)).trans (by go_simp)
      have af5 : w1.frozen? ⟨w.heap.size, 5, none⟩ = false := (c1.frozen (p := ⟨w.heap.size, 5, none⟩) (by simp <;> omega) (by simp)).trans (by go_simp)
      have b0 : w1.cell? ⟨w.heap.size + 1, 0, none⟩ = some (.int .i64 0) := (c1.cell (p := ⟨w.heap.size + 1, 0, none⟩) (by simp <;> omega) (by simp)).trans (by go_simp)
      have b1 : w1.cell? ⟨w.heap.size + 1, 1, none⟩ = some (.int .i64 0) := (c1.cell (p := ⟨w.heap.size + 1, 1, none⟩) (by simp <;> omega) (by simp)).trans (by go_simp)
      have b2 : w1.cell? ⟨w.heap.size + 1, 2, none⟩ = some (.string ⟨#[]⟩) := (c1.cell (p := ⟨w.heap.size + 1, 2, none⟩) (by simp <;> omega) (by simp)).trans (by go_simp)
      have b3 : w1.cell? ⟨w.heap.size + 1, 3, none⟩ = some (.int .i64 0) := (c1.cell (p := ⟨w.heap.size + 1, 3, none⟩) (by simp <;> omega) (by simp)).trans (by go_simp)
      have b4 : w1.cell? ⟨w.heap.size + 1, 4, none⟩ = some (.int .i64 0) := (c1.cell (p := ⟨w.heap.size + 1, 4, none⟩) (by simp <;> omega) (by simp)).trans (by go_simp)
      have bf0 : w1.frozen? ⟨w.heap.size + 1, 0, none⟩ = false := (c1.frozen (p := ⟨w.heap.size + 1, 0, none⟩) (by simp <;> omega) (by simp)).trans (by go_simp)
      have bf1 : w1.frozen? ⟨w.heap.size + 1, 1, none⟩ = false := (c1.frozen (p := ⟨w.heap.size + 1, 1, none⟩) (by simp <;> omega) (by simp)).trans (by go_simp)
      have bf2 : w1.frozen? ⟨w.heap.size + 1, 2, none⟩ = false := (c1.frozen (p := ⟨w.heap.size + 1, 2, none⟩) (by simp <;> omega) (by simp)).trans (by go_simp)
      have bf3 : w1.frozen? ⟨w.heap.size + 1, 3, none⟩ = false := (c1.frozen (p := ⟨w.heap.size + 1, 3, none⟩) (by simp <;> omega) (by simp)).trans (by go_simp)
      have bf4 : w1.frozen? ⟨w.heap.size + 1, 4, none⟩ = false := (c1.frozen (p := ⟨w.heap.size + 1, 4, none⟩) (by simp <;> omega) (by simp)).trans (by go_simp)
      go_wp2_with fail
      have E1m : Chg [w.heap.size, w.heap.size + 1] w w1 := E1.mono (by simp)
      refine bodyPost_ret (v := .tuple #[.agg #[.string ⟨#[]⟩, .bool false, .bool false, .slice none 0 0, .int .i64 0, .slice none 0 0], .agg #[.int .i64 7, .int .i64 0, .string ⟨#[]⟩, .int .i64 0, .int .i64 0]]) (by simp only [results, Tryd.results32]; go_simp) rfl ?_
      rw [HK.out]
      refine ⟨none, 0, none, 0, rfl, ?_⟩
      exact (newT_bare [w.heap.size, w.heap.size + 1] (p := zeroPart) (by repeat (first | with_reducible exact E1m | with_reducible refine Chg.drew ?_ | with_reducible refine Chg.alloc ?_ _ | with_reducible refine Chg.setCell ?_ (.inl (by simp)) _)) rfl rfl).done (w := w) (w0 := w) (by simp <;> omega) (Chg.refl _ _)
    | some f =>
      have NP := Lib.hid (fun W => newPart_impl_some_any k hk W)
      have HK := Lib.hid (makeOf_some (r := rest) hk)
      clear hk
      go_enter Tryd.func32, Tryd.ntmps32
      go_wp2_with fail
      refine (NP.out _).mono ?_
      rintro e w1 ⟨rfl, c1⟩
      have E1 : Chg [] w w1 := Chg.trans0 (by repeat (first | with_reducible exact Chg.refl _ _ | with_reducible refine Chg.drew ?_ | with_reducible refine Chg.alloc ?_ _)) c1
      have t1 : w.heap.size + 1 < w1.heap.size := by have := c1.size; simp at this; omega
      have t1a : w.heap.size < w1.heap.size := by omega
      have bx0 : Box w1 (w.heap.size) [.string ⟨#[]⟩, .bool false, .bool false, .slice none 0 0, .int .i64 0, .slice none 0 0] := ((Box.new w [.string ⟨#[]⟩, .bool false, .bool false, .slice none 0 0, .int .i64 0, .slice none 0 0] 62).keep (T := []) ((Chg.refl _ _).alloc _) (by simp) (by simp)).keep c1 (by simp <;> omega) (by simp)
      have bx1 : Box w1 (w.heap.size + 1) [.int .i64 0, .int .i64 0, .string ⟨#[]⟩, .int .i64 0, .int .i64 0] := (Box.newAt (w.alloc (.cells #[.string ⟨#[]⟩, .bool false, .bool false, .slice none 0 0, .int .i64 0, .slice none 0 0] 62)) (w.heap.size + 1) [.int .i64 0, .int .i64 0, .string ⟨#[]⟩, .int .i64 0, .int .i64 0] 69 (by simp)).keep c1 (by simp <;> omega) (by simp)
      have Eq : Chg [] w (w1.alloc (.cells #[.string k, .bool false, .bool false, .slice none 0 0, .int .i64 0, .slice none 0 0] 62)) := E1.alloc _
      have BX0 := Lib.hid (bx0.keep ((Chg.refl [] w1).alloc (.cells #[.string k, .bool false, .bool false, .slice none 0 0, .int .i64 0, .slice none 0 0] 62)) t1a (by simp))
      have BX1 := Lib.hid (bx1.keep ((Chg.refl [] w1).alloc (.cells #[.string k, .bool false, .bool false, .slice none 0 0, .int .i64 0, .slice none 0 0] 62)) t1 (by simp))
      clear bx0 bx1 c1
      have hcore0 : (newPart k).core = ⟨k, false, false, [], 0⟩ := rfl
      have NT0 := Lib.hid (newT_bare [w1.heap.size] (w' := (w1.alloc (.cells #[.string k, .bool false, .bool false, .slice none 0 0, .int .i64 0, .slice none 0 0] 62))) (Chg.refl [w1.heap.size] (w1.alloc (.cells #[.string k, .bool false, .bool false, .slice none 0 0, .int .i64 0, .slice none 0 0] 62))) (newPart k) rfl rfl)
      have BX4 := Lib.hid (Box.new w1 [.string k, .bool false, .bool false, .slice none 0 0, .int .i64 0, .slice none 0 0] 62)
      go_wp2_with fail
      all_goals
        go_loopw [29] (fun i wr => ∃ (j : Nat) (p : PartT) (A4 : Option Addr) (cap4 : Nat) (A6 : Option Addr) (cap6 : Nat), j ≤ rest.length ∧ i = .int .i64 j ∧ makeOf (k :: rest) = makeFold p (rest.drop j) ∧ p.core = ⟨k, false, false, [], 0⟩ ∧ p.layers.length ≤ j ∧ Box wr w1.heap.size [.string p.core.kind, .bool p.core.on, .bool p.core.broken, .slice A4 p.core.cells.length cap4, .int .i64 p.core.count, .slice A6 p.layers.length cap6] ∧ Box wr w.heap.size [.string ⟨#[]⟩, .bool false, .bool false, .slice none 0 0, .int .i64 0, .slice none 0 0] ∧ Box wr (w.heap.size + 1) [.int .i64 0, .int .i64 0, .string ⟨#[]⟩, .int .i64 0, .int .i64 0] ∧ w1.heap.size < wr.heap.size ∧ NewT [w1.heap.size] (w1.alloc (.cells #[.string k, .bool false, .bool false, .slice none 0 0, .int .i64 0, .slice none 0 0] 62)) wr (partF p) [.string p.core.kind, .bool p.core.on, .bool p.core.broken, .slice A4 p.core.cells.length cap4, .int .i64 p.core.count, .slice A6 p.layers.length cap6]) (fun i _ => rest.length - (intOf i).toNat)
        case atStart => exact ⟨0, newPart k, none, 0, none, 0, Nat.zero_le _, rfl, HK.out, rfl, Nat.zero_le _, BX4.out, BX0.out, BX1.out, by simp, NT0.out⟩
        case round =>
          obtain ⟨j, p, A4, cap4, A6, cap6, hj, rfl, hfold, hcore, hlay, bx4, bx0, bx1, tq, hNT⟩ := hrel
          have hcl : p.core.cells = [] := by rw [hcore]
          have ELo : Chg [] w wr := hNT.elim fun S h => Eq.trans h.2.2 (fun x hx => .inr (by simp at hx; omega))
          have HF := Lib.hid hfold
          have HC := Lib.hid hcore
          have HT := Lib.hid hNT
          have BZ := Lib.hid bx0
          have BR := Lib.hid bx1
          have B4 := Lib.hid bx4
          have t0 : w.heap.size < wr.heap.size := by omega
          have t0a : w.heap.size + 1 < wr.heap.size := by omega
          have p0 : wr.cell? ⟨w1.heap.size, 0, none⟩ = some (.string p.core.kind) := (bx4 0 _ rfl).1
          have pf0 : wr.frozen? ⟨w1.heap.size, 0, none⟩ = false := (bx4 0 _ rfl).2
          have p1 : wr.cell? ⟨w1.heap.size, 1, none⟩ = some (.bool p.core.on) := (bx4 1 _ rfl).1
          have pf1 : wr.frozen? ⟨w1.heap.size, 1, none⟩ = false := (bx4 1 _ rfl).2
          have p2 : wr.cell? ⟨w1.heap.size, 2, none⟩ = some (.bool p.core.broken) := (bx4 2 _ rfl).1
          have pf2 : wr.frozen? ⟨w1.heap.size, 2, none⟩ = false := (bx4 2 _ rfl).2
          have p3 : wr.cell? ⟨w1.heap.size, 3, none⟩ = some (.slice A4 p.core.cells.length cap4) := (bx4 3 _ rfl).1
          have pf3 : wr.frozen? ⟨w1.heap.size, 3, none⟩ = false := (bx4 3 _ rfl).2
          have p4 : wr.cell? ⟨w1.heap.size, 4, none⟩ = some (.int .i64 p.core.count) := (bx4 4 _ rfl).1
          have pf4 : wr.frozen? ⟨w1.heap.size, 4, none⟩ = false := (bx4 4 _ rfl).2
          have p5 : wr.cell? ⟨w1.heap.size, 5, none⟩ = some (.slice A6 p.layers.length cap6) := (bx4 5 _ rfl).1
          have pf5 : wr.frozen? ⟨w1.heap.size, 5, none⟩ = false := (bx4 5 _ rfl).2
          clear hfold hcore hNT bx0 bx1 bx4 hcl
          by_cases hlt : j < rest.length
          · try (exfalso; omega)
            all_goals
              obtain ⟨b', off', e', hb', q1⟩ := strs_cells (hrow.chg0 ELo hB) (j + 1) (by simp; omega)
              cases e'
              simp only [List.getElem_cons_succ] at q1
              have q2 : wr.cell? ⟨b, off + 1 + j, none⟩ = some (.string rest[j]) := by rw [show off + 1 + j = off + (j + 1) by omega]; exact q1
              obtain ⟨q, rp, hq⟩ : ∃ q rp, wrapOf p rest[j] = (q, rp) := ⟨_, _, rfl⟩
              have hqc : q.core = p.core := by have := wrapOf_core p rest[j]; rw [hq] at this; exact this
              have hql : q.layers.length ≤ p.layers.length + 1 := by have := wrapOf_len p rest[j]; rw [hq] at this; exact this
              have hr := HT.out.elim (fun S h => part_rd h.1)
              have wr1 := wrap_impl_any p rest[j] _ _ wr.heap.size wr hr.1 hr.2 (Nat.le_refl _) (by omega) (by rw [HC.out]; simp) (by rw [HC.out]; simp)
              rw [hq] at wr1
              have WR := Lib.hid wr1
              have HQ := Lib.hid hq
              have HQC := Lib.hid hqc
              clear hr wr1 hq hqc
              go_wp2_with fail
              refine WR.out.mono ?_
              rintro e w2 ⟨A7, cap7, A8, cap8, rfl, hN⟩
              have c2 := hN.chg
              have HN2 := Lib.hid hN
              clear hN
              have bz2 := BZ.out.keep c2 t0 (by simp)
              have br2 := BR.out.keep c2 t0a (by simp)
              have b42 := B4.out.keep c2 tq (by simp)
              have z0 : w2.cell? ⟨w.heap.size, 0, none⟩ = some (.string ⟨#[]⟩) := (bz2 0 _ rfl).1
              have zf0 : w2.frozen? ⟨w.heap.size, 0, none⟩ = false := (bz2 0 _ rfl).2
              have z1 : w2.cell? ⟨w.heap.size, 1, none⟩ = some (.bool false) := (bz2 1 _ rfl).1
              have zf1 : w2.frozen? ⟨w.heap.size, 1, none⟩ = false := (bz2 1 _ rfl).2
              have z2 : w2.cell? ⟨w.heap.size, 2, none⟩ = some (.bool false) := (bz2 2 _ rfl).1
              have zf2 : w2.frozen? ⟨w.heap.size, 2, none⟩ = false := (bz2 2 _ rfl).2
              have z3 : w2.cell? ⟨w.heap.size, 3, none⟩ = some (.slice none 0 0) := (bz2 3 _ rfl).1
              have zf3 : w2.frozen? ⟨w.heap.size, 3, none⟩ = false := (bz2 3 _ rfl).2
              have z4 : w2.cell? ⟨w.heap.size, 4, none⟩ = some (.int .i64 0) := (bz2 4 _ rfl).1
              have zf4 : w2.frozen? ⟨w.heap.size, 4, none⟩ = false := (bz2 4 _ rfl).2
              have z5 : w2.cell? ⟨w.heap.size, 5, none⟩ = some (.slice none 0 0) := (bz2 5 _ rfl).1
              have zf5 : w2.frozen? ⟨w.heap.size, 5, none⟩ = false := (bz2 5 _ rfl).2
              have y0 : w2.cell? ⟨w.heap.size + 1, 0, none⟩ = some (.int .i64 0) := (br2 0 _ rfl).1
              have yf0 : w2.frozen? ⟨w.heap.size + 1, 0, none⟩ = false := (br2 0 _ rfl).2
              have y1 : w2.cell? ⟨w.heap.size + 1, 1, none⟩ = some (.int .i64 0) := (br2 1 _ rfl).1
              have yf1 : w2.frozen? ⟨w.heap.size + 1, 1, none⟩ = false := (br2 1 _ rfl).2
              have y2 : w2.cell? ⟨w.heap.size + 1, 2, none⟩ = some (.string ⟨#[]⟩) := (br2 2 _ rfl).1
              have yf2 : w2.frozen? ⟨w.heap.size + 1, 2, none⟩ = false := (br2 2 _ rfl).2
              have y3 : w2.cell? ⟨w.heap.size + 1, 3, none⟩ = some (.int .i64 0) := (br2 3 _ rfl).1
              have yf3 : w2.frozen? ⟨w.heap.size + 1, 3, none⟩ = false := (br2 3 _ rfl).2
              have y4 : w2.cell? ⟨w.heap.size + 1, 4, none⟩ = some (.int .i64 0) := (br2 4 _ rfl).1
              have yf4 : w2.frozen? ⟨w.heap.size + 1, 4, none⟩ = false := (br2 4 _ rfl).2
              have x0 : w2.cell? ⟨w1.heap.size, 0, none⟩ = some (.string p.core.kind) := (b42 0 _ rfl).1
              have xf0 : w2.frozen? ⟨w1.heap.size, 0, none⟩ = false := (b42 0 _ rfl).2
              have x1 : w2.cell? ⟨w1.heap.size, 1, none⟩ = some (.bool p.core.on) := (b42 1 _ rfl).1
              have xf1 : w2.frozen? ⟨w1.heap.size, 1, none⟩ = false := (b42 1 _ rfl).2
              have x2 : w2.cell? ⟨w1.heap.size, 2, none⟩ = some (.bool p.core.broken) := (b42 2 _ rfl).1
              have xf2 : w2.frozen? ⟨w1.heap.size, 2, none⟩ = false := (b42 2 _ rfl).2
              have x3 : w2.cell? ⟨w1.heap.size, 3, none⟩ = some (.slice A4 p.core.cells.length cap4) := (b42 3 _ rfl).1
              have xf3 : w2.frozen? ⟨w1.heap.size, 3, none⟩ = false := (b42 3 _ rfl).2
              have x4 : w2.cell? ⟨w1.heap.size, 4, none⟩ = some (.int .i64 p.core.count) := (b42 4 _ rfl).1
              have xf4 : w2.frozen? ⟨w1.heap.size, 4, none⟩ = false := (b42 4 _ rfl).2
              have x5 : w2.cell? ⟨w1.heap.size, 5, none⟩ = some (.slice A6 p.layers.length cap6) := (b42 5 _ rfl).1
              have xf5 : w2.frozen? ⟨w1.heap.size, 5, none⟩ = false := (b42 5 _ rfl).2
              have BZ2 := Lib.hid bz2
              have BR2 := Lib.hid br2
              have t2 : w1.heap.size < w2.heap.size := Nat.lt_of_lt_of_le tq c2.size
              have t2a : w.heap.size < w2.heap.size := by omega
              have t2b : w.heap.size + 1 < w2.heap.size := by omega
              have n1 : w1.heap.size ≠ w.heap.size := by omega
              have n2 : w1.heap.size ≠ w.heap.size + 1 := by omega
              have HC2 := Lib.hid c2
              clear bz2 br2 b42 c2
              by_cases hcode : rp.code = 0
              · have hd : (rp.code != 0) = false := by simp [hcode]
                have HCO := Lib.hid hcode
                clear hcode
                go_wp2_with fail
                go_roundw
                case rel =>
                  refine ⟨j + 1, q, A7, cap7, A8, cap8, by omega, by go_num, HF.out.trans (makeFold_step hlt HQ.out HCO.out), HQC.out.trans HC.out, by omega, ?_, BZ2.out.keep (T := [w1.heap.size]) (by repeat (first | with_reducible exact Chg.refl _ _ | with_reducible refine Chg.drew ?_ | with_reducible refine Chg.alloc ?_ _ | with_reducible refine Chg.setCell ?_ (.inl (by simp)) _)) t2a (by simp; omega), BR2.out.keep (T := [w1.heap.size]) (by repeat (first | with_reducible exact Chg.refl _ _ | with_reducible refine Chg.drew ?_ | with_reducible refine Chg.alloc ?_ _ | with_reducible refine Chg.setCell ?_ (.inl (by simp)) _)) t2b (by simp; omega), by simp [World.setCell]; omega, HN2.out.fresh (HT.out.elim fun S h => h.2.2) tq (by repeat (first | with_reducible exact Chg.refl _ _ | with_reducible refine Chg.drew ?_ | with_reducible refine Chg.alloc ?_ _ | with_reducible refine Chg.setCell ?_ (.inl (by simp)) _))⟩
                  have b42 := B4.out.keep HC2.out tq (by simp)
                  exact ((((((((b42.set 0 _ (by simp)).set 1 _ (by simp)).set 2 _ (by simp)).set 3 _ (by simp)).set 4 _ (by simp)).set 5 _ (by simp)).keep ((Chg.refl [] _).alloc _) (by simp [World.setCell]; omega) (by simp)).keep ((Chg.refl [] _).alloc _) (by simp [World.setCell]; omega) (by simp))
                case measure => simp [intOf]; omega
              · have EL2 : Chg [w.heap.size, w.heap.size + 1] w w2 := (ELo.trans0 HC2.out).mono (by simp)
                have hd : (rp.code != 0) = true := by simp [hcode]
                have HCO := Lib.hid hcode
                clear hcode
                go_wp2_with fail
                go_region
                all_goals
                  go_wp2_with fail
                  refine bodyPost_ret (v := .tuple #[.agg #[.string ⟨#[]⟩, .bool false, .bool false, .slice none 0 0, .int .i64 0, .slice none 0 0], .agg #[.int .i64 rp.code, .int .i64 rp.value, .string rp.text, .int .i64 rp.want, .int .i64 rp.had]]) (by simp only [results, Tryd.results32]; go_simp) rfl ?_
                  rw [HF.out, makeFold_stop hlt HQ.out HCO.out]
                  refine ⟨none, 0, none, 0, rfl, ?_⟩
                  exact (newT_bare [w.heap.size, w.heap.size + 1] (p := zeroPart) (by repeat (first | with_reducible exact EL2 | with_reducible refine Chg.drew ?_ | with_reducible refine Chg.alloc ?_ _ | with_reducible refine Chg.setCell ?_ (.inl (by simp)) _)) rfl rfl).done (w := w) (w0 := w) (by simp <;> omega) (Chg.refl _ _)
          · obtain rfl : j = rest.length := by omega
            have hr := HT.out.elim (fun S h => part_rd h.1)
            have FO := Lib.hid (fun W (hW : Chg [] wr W) => faceOf_impl_any p (.slice A4 p.core.cells.length cap4) _ wr.heap.size W (hr.2.chg0 hW (Nat.le_refl _)) hW.size)
            have bz2 := BZ.out
            have br2 := BR.out
            have z0 : wr.cell? ⟨w.heap.size, 0, none⟩ = some (.string ⟨#[]⟩) := (bz2 0 _ rfl).1
            have zf0 : wr.frozen? ⟨w.heap.size, 0, none⟩ = false := (bz2 0 _ rfl).2
            have z1 : wr.cell? ⟨w.heap.size, 1, none⟩ = some (.bool false) := (bz2 1 _ rfl).1
            have zf1 : wr.frozen? ⟨w.heap.size, 1, none⟩ = false := (bz2 1 _ rfl).2
            have z2 : wr.cell? ⟨w.heap.size, 2, none⟩ = some (.bool false) := (bz2 2 _ rfl).1
            have zf2 : wr.frozen? ⟨w.heap.size, 2, none⟩ = false := (bz2 2 _ rfl).2
            have z3 : wr.cell? ⟨w.heap.size, 3, none⟩ = some (.slice none 0 0) := (bz2 3 _ rfl).1
            have zf3 : wr.frozen? ⟨w.heap.size, 3, none⟩ = false := (bz2 3 _ rfl).2
            have z4 : wr.cell? ⟨w.heap.size, 4, none⟩ = some (.int .i64 0) := (bz2 4 _ rfl).1
            have zf4 : wr.frozen? ⟨w.heap.size, 4, none⟩ = false := (bz2 4 _ rfl).2
            have z5 : wr.cell? ⟨w.heap.size, 5, none⟩ = some (.slice none 0 0) := (bz2 5 _ rfl).1
            have zf5 : wr.frozen? ⟨w.heap.size, 5, none⟩ = false := (bz2 5 _ rfl).2
            have y0 : wr.cell? ⟨w.heap.size + 1, 0, none⟩ = some (.int .i64 0) := (br2 0 _ rfl).1
            have yf0 : wr.frozen? ⟨w.heap.size + 1, 0, none⟩ = false := (br2 0 _ rfl).2
            have y1 : wr.cell? ⟨w.heap.size + 1, 1, none⟩ = some (.int .i64 0) := (br2 1 _ rfl).1
            have yf1 : wr.frozen? ⟨w.heap.size + 1, 1, none⟩ = false := (br2 1 _ rfl).2
            have y2 : wr.cell? ⟨w.heap.size + 1, 2, none⟩ = some (.string ⟨#[]⟩) := (br2 2 _ rfl).1
            have yf2 : wr.frozen? ⟨w.heap.size + 1, 2, none⟩ = false := (br2 2 _ rfl).2
            have y3 : wr.cell? ⟨w.heap.size + 1, 3, none⟩ = some (.int .i64 0) := (br2 3 _ rfl).1
            have yf3 : wr.frozen? ⟨w.heap.size + 1, 3, none⟩ = false := (br2 3 _ rfl).2
            have y4 : wr.cell? ⟨w.heap.size + 1, 4, none⟩ = some (.int .i64 0) := (br2 4 _ rfl).1
            have yf4 : wr.frozen? ⟨w.heap.size + 1, 4, none⟩ = false := (br2 4 _ rfl).2
            clear hr bz2 br2
            go_wp2_with fail
            all_goals
              go_region_law (first | (go_simp; go_at_call 50; (with_reducible refine (FO.out _ (by first | exact Chg.refl _ _ | exact (Chg.refl _ _).drew | exact (Chg.refl _ _).drew.drew)).mono ?_); rintro e w4 ⟨rfl, c4d⟩; have c4 : Chg [] wr w4 := (by first | exact c4d | exact ((Chg.refl [] wr).drew).trans0 c4d | exact ((Chg.refl [] wr).drew.drew).trans0 c4d); have bz4 := BZ.out.keep c4 t0 (by simp); have br4 := BR.out.keep c4 t0a (by simp); have b44 := B4.out.keep c4 tq (by simp); have z40 : w4.cell? ⟨w.heap.size, 0, none⟩ = some (.string ⟨#[]⟩) := (bz4 0 _ rfl).1; have z4f0 : w4.frozen? ⟨w.heap.size, 0, none⟩ = false := (bz4 0 _ rfl).2; have z41 : w4.cell? ⟨w.heap.size, 1, none⟩ = some (.bool false) := (bz4 1 _ rfl).1; have z4f1 : w4.frozen? ⟨w.heap.size, 1, none⟩ = false := (bz4 1 _ rfl).2; have z42 : w4.cell? ⟨w.heap.size, 2, none⟩ = some (.bool false) := (bz4 2 _ rfl).1; have z4f2 : w4.frozen? ⟨w.heap.size, 2, none⟩ = false := (bz4 2 _ rfl).2; have z43 : w4.cell? ⟨w.heap.size, 3, none⟩ = some (.slice none 0 0) := (bz4 3 _ rfl).1; have z4f3 : w4.frozen? ⟨w.heap.size, 3, none⟩ = false := (bz4 3 _ rfl).2; have z44 : w4.cell? ⟨w.heap.size, 4, none⟩ = some (.int .i64 0) := (bz4 4 _ rfl).1; have z4f4 : w4.frozen? ⟨w.heap.size, 4, none⟩ = false := (bz4 4 _ rfl).2; have z45 : w4.cell? ⟨w.heap.size, 5, none⟩ = some (.slice none 0 0) := (bz4 5 _ rfl).1; have z4f5 : w4.frozen? ⟨w.heap.size, 5, none⟩ = false := (bz4 5 _ rfl).2; have y40 : w4.cell? ⟨w.heap.size + 1, 0, none⟩ = some (.int .i64 0) := (br4 0 _ rfl).1; have y4f0 : w4.frozen? ⟨w.heap.size + 1, 0, none⟩ = false := (br4 0 _ rfl).2; have y41 : w4.cell? ⟨w.heap.size + 1, 1, none⟩ = some (.int .i64 0) := (br4 1 _ rfl).1; have y4f1 : w4.frozen? ⟨w.heap.size + 1, 1, none⟩ = false := (br4 1 _ rfl).2; have y42 : w4.cell? ⟨w.heap.size + 1, 2, none⟩ = some (.string ⟨#[]⟩) := (br4 2 _ rfl).1; have y4f2 : w4.frozen? ⟨w.heap.size + 1, 2, none⟩ = false := (br4 2 _ rfl).2; have y43 : w4.cell? ⟨w.heap.size + 1, 3, none⟩ = some (.int .i64 0) := (br4 3 _ rfl).1; have y4f3 : w4.frozen? ⟨w.heap.size + 1, 3, none⟩ = false := (br4 3 _ rfl).2; have y44 : w4.cell? ⟨w.heap.size + 1, 4, none⟩ = some (.int .i64 0) := (br4 4 _ rfl).1; have y4f4 : w4.frozen? ⟨w.heap.size + 1, 4, none⟩ = false := (br4 4 _ rfl).2; have x40 : w4.cell? ⟨w1.heap.size, 0, none⟩ = some (.string p.core.kind) := (b44 0 _ rfl).1; have x4f0 : w4.frozen? ⟨w1.heap.size, 0, none⟩ = false := (b44 0 _ rfl).2; have x41 : w4.cell? ⟨w1.heap.size, 1, none⟩ = some (.bool p.core.on) := (b44 1 _ rfl).1; have x4f1 : w4.frozen? ⟨w1.heap.size, 1, none⟩ = false := (b44 1 _ rfl).2; have x42 : w4.cell? ⟨w1.heap.size, 2, none⟩ = some (.bool p.core.broken) := (b44 2 _ rfl).1; have x4f2 : w4.frozen? ⟨w1.heap.size, 2, none⟩ = false := (b44 2 _ rfl).2; have x43 : w4.cell? ⟨w1.heap.size, 3, none⟩ = some (.slice A4 p.core.cells.length cap4) := (b44 3 _ rfl).1; have x4f3 : w4.frozen? ⟨w1.heap.size, 3, none⟩ = false := (b44 3 _ rfl).2; have x44 : w4.cell? ⟨w1.heap.size, 4, none⟩ = some (.int .i64 p.core.count) := (b44 4 _ rfl).1; have x4f4 : w4.frozen? ⟨w1.heap.size, 4, none⟩ = false := (b44 4 _ rfl).2; have x45 : w4.cell? ⟨w1.heap.size, 5, none⟩ = some (.slice A6 p.layers.length cap6) := (b44 5 _ rfl).1; have x4f5 : w4.frozen? ⟨w1.heap.size, 5, none⟩ = false := (b44 5 _ rfl).2; have C4 := Lib.hid c4; have t4 : w1.heap.size < w4.heap.size := Nat.lt_of_lt_of_le tq c4.size; have t4a : w.heap.size < w4.heap.size := (by omega); have t4b : w.heap.size + 1 < w4.heap.size := (by omega); clear bz4 br4 b44; simp only []) | fail)
              all_goals
                go_wp2_with fail
                refine bodyPost_ret (v := .tuple #[.agg #[.string p.core.kind, .bool p.core.on, .bool p.core.broken, .slice A4 p.core.cells.length cap4, .int .i64 p.core.count, .slice A6 p.layers.length cap6], .agg #[.int .i64 0, .int .i64 (faceAt p p.layers.length), .string ⟨#[]⟩, .int .i64 0, .int .i64 0]]) (by simp only [results, Tryd.results32]; go_simp) rfl ?_
                rw [HF.out, List.drop_length, makeFold]
                refine ⟨A4, cap4, A6, cap6, rfl, ?_⟩
                exact NewT.ends (w := w) HT.out Eq (by simp; omega) C4.out (U := [w.heap.size, w.heap.size + 1]) (by simp <;> omega) (by repeat (first | with_reducible exact Chg.refl _ _ | with_reducible refine Chg.drew ?_ | with_reducible refine Chg.alloc ?_ _ | with_reducible refine Chg.setCell ?_ (.inl (by simp)) _))
set_option maxRecDepth 100000 in
set_option maxHeartbeats 4000000 in
theorem makePart_spec_any (l : List ByteArray) (u : Value) (B : Nat) (w : World) (r : Rd w B (strs l) u) (hB : B ≤ w.heap.size) (hl : l.length ≤ 1048576) :
    Calls Tryd.prog 30 #[u] w (PartRep (makeOf l) w) := by
  obtain ⟨A, cap, rfl, h0, h1, hrow⟩ := strs_row r
  unfold maxLen at h1
  clear r
  have tt : w.heap.size < w.heap.size + 1 := Nat.lt_succ_self _
  have tt2 : w.heap.size < w.heap.size + 1 + 1 := by omega
  cases l with
  | nil =>
    go_enter Tryd.func30, Tryd.ntmps30
    go_wp2_with fail
    refine bodyPost_ret (v := .tuple #[.agg #[.string ⟨#[]⟩, .bool false, .bool false, .slice none 0 0, .int .i64 0, .slice none 0 0], .agg #[.int .i64 7, .int .i64 0, .string ⟨#[]⟩, .int .i64 0, .int .i64 0]]) (by simp only [results, Tryd.results30]; go_simp) rfl ?_
    rw [makeOf]
    refine ⟨none, 0, none, 0, rfl, ?_⟩
    exact (newT_bare [w.heap.size, w.heap.size + 1] (p := zeroPart) (by repeat (first | with_reducible exact Chg.refl _ _ | with_reducible refine Chg.drew ?_ | with_reducible refine Chg.alloc ?_ _ | with_reducible refine Chg.setCell ?_ (.inl (by simp)) _)) rfl rfl).done (w := w) (w0 := w) (by simp <;> omega) (Chg.refl _ _)
  | cons k rest =>
    obtain ⟨b, off, rfl, hb, q0⟩ := strs_cells hrow 0 (by simp)
    rw [Nat.add_zero] at q0
    simp only [List.getElem_cons_zero] at q0
    simp only [List.length_cons] at hl h0
    have hlenI : (0 : Int) < ((rest.length : Int) + 1) := by omega
    have hbw : b < w.heap.size := by omega
    have hlen1 : (1 : Int) ≤ (rest.length : Int) + 1 := by omega
    have hlen2 : (rest.length : Int) + 1 ≤ (cap : Int) := by omega
    have hlen3 : (1 : Int) ≤ (cap : Int) := by omega
    have hlenN : ((rest.length : Int) + 1 - 1) = (rest.length : Int) := by omega
    cases hk : kindOf k with
    | none =>
      have NP := Lib.hid (fun W => newPart_spec_none_any k hk W)
      have HK := Lib.hid (makeOf_none (r := rest) hk)
      clear hk
      go_enter Tryd.func30, Tryd.ntmps30
      go_wp2_with fail
      refine (NP.out _).mono ?_
      rintro e w1 ⟨rfl, c1⟩
      have E1 : Chg [] w w1 := Chg.trans0 (by repeat (first | with_reducible exact Chg.refl _ _ | with_reducible refine Chg.drew ?_ | with_reducible refine Chg.alloc ?_ _)) c1
      have t1 : w.heap.size + 1 < w1.heap.size := by have := c1.size; simp at this; omega
      have t1a : w.heap.size < w1.heap.size := by omega
      have a0 : w1.cell? ⟨w.heap.size, 0, none⟩ = some (.string ⟨#[]⟩) := (c1.cell (p := ⟨w.heap.size, 0, none⟩) (by simp <;> omega) (by simp)).trans (by go_simp)
      have a1 : w1.cell? ⟨w.heap.size, 1, none⟩ = some (.bool false) := (c1.cell (p := ⟨w.heap.size, 1, none⟩) (by simp <;> omega) (by simp)).trans (by go_simp)
      have a2 : w1.cell? ⟨w.heap.size, 2, none⟩ = some (.bool false) := (c1.cell (p := ⟨w.heap.size, 2, none⟩) (by simp <;> omega) (by simp)).trans (by go_simp)
      have a3 : w1.cell? ⟨w.heap.size, 3, none⟩ = some (.slice none 0 0) := (c1.cell (p := ⟨w.heap.size, 3, none⟩) (by simp <;> omega) (by simp)).trans (by go_simp)
      have a4 : w1.cell? ⟨w.heap.size, 4, none⟩ = some (.int .i64 0) := (c1.cell (p := ⟨w.heap.size, 4, none⟩) (by simp <;> omega) (by simp)).trans (by go_simp)
      have a5 : w1.cell? ⟨w.heap.size, 5, none⟩ = some (.slice none 0 0) := (c1.cell (p := ⟨w.heap.size, 5, none⟩) (by simp <;> omega) (by simp)).trans (by go_simp)
      have af0 : w1.frozen? ⟨w.heap.size, 0, none⟩ = false := (c1.frozen (p := ⟨w.heap.size, 0, none⟩) (by simp <;> omega) (by simp)).trans (by go_simp)
      have af1 : w1.frozen? ⟨w.heap.size, 1, none⟩ = false := (c1.frozen (p := ⟨w.heap.size, 1, none⟩) (by simp <;> omega) (by simp)).trans (by go_simp)
      have af2 : w1.frozen? ⟨w.heap.size, 2, none⟩ = false := (c1.frozen (p := ⟨w.heap.size, 2, none⟩) (by simp <;> omega) (by simp)).trans (by go_simp)
      have af3 : w1.frozen? ⟨w.heap.size, 3, none⟩ = false := (c1.frozen (p := ⟨w.heap.size, 3, none⟩) (by simp <;> omega) (by simp)).trans (by go_simp)
      have af4 : w1.frozen? ⟨w.heap.size, 4, none⟩ = false := (c1.frozen (p := ⟨w.heap.size, 4, none⟩) (by simp <;> omega) (by simp)).trans (by go_simp)
      have af5 : w1.frozen? ⟨w.heap.size, 5, none⟩ = false := (c1.frozen (p := ⟨w.heap.size, 5, none⟩) (by simp <;> omega) (by simp)).trans (by go_simp)
      have b0 : w1.cell? ⟨w.heap.size + 1, 0, none⟩ = some (.int .i64 0) := (c1.cell (p := ⟨w.heap.size + 1, 0, none⟩) (by simp <;> omega) (by simp)).trans (by go_simp)
      have b1 : w1.cell? ⟨w.heap.size + 1, 1, none⟩ = some (.int .i64 0) := (c1.cell (p := ⟨w.heap.size + 1, 1, none⟩) (by simp <;> omega) (by simp)).trans (by go_simp)
      have b2 : w1.cell? ⟨w.heap.size + 1, 2, none⟩ = some (.string ⟨#[]⟩) := (c1.cell (p := ⟨w.heap.size + 1, 2, none⟩) (by simp <;> omega) (by simp)).trans (by go_simp)
      have b3 : w1.cell? ⟨w.heap.size + 1, 3, none⟩ = some (.int .i64 0) := (c1.cell (p := ⟨w.heap.size + 1, 3, none⟩) (by simp <;> omega) (by simp)).trans (by go_simp)
      have b4 : w1.cell? ⟨w.heap.size + 1, 4, none⟩ = some (.int .i64 0) := (c1.cell (p := ⟨w.heap.size + 1, 4, none⟩) (by simp <;> omega) (by simp)).trans (by go_simp)
      have bf0 : w1.frozen? ⟨w.heap.size + 1, 0, none⟩ = false := (c1.frozen (p := ⟨w.heap.size + 1, 0, none⟩) (by simp <;> omega) (by simp)).trans (by go_simp)
      have bf1 : w1.frozen? ⟨w.heap.size + 1, 1, none⟩ = false := (c1.frozen (p := ⟨w.heap.size + 1, 1, none⟩) (by simp <;> omega) (by simp)).trans (by go_simp)
      have bf2 : w1.frozen? ⟨w.heap.size + 1, 2, none⟩ = false := (c1.frozen (p := ⟨w.heap.size + 1, 2, none⟩) (by simp <;> omega) (by simp)).trans (by go_simp)
      have bf3 : w1.frozen? ⟨w.heap.size + 1, 3, none⟩ = false := (c1.frozen (p := ⟨w.heap.size + 1, 3, none⟩) (by simp <;> omega) (by simp)).trans (by go_simp)
      have bf4 : w1.frozen? ⟨w.heap.size + 1, 4, none⟩ = false := (c1.frozen (p := ⟨w.heap.size + 1, 4, none⟩) (by simp <;> omega) (by simp)).trans (by go_simp)
      go_wp2_with fail
      have E1m : Chg [w.heap.size, w.heap.size + 1] w w1 := E1.mono (by simp)
      refine bodyPost_ret (v := .tuple #[.agg #[.string ⟨#[]⟩, .bool false, .bool false, .slice none 0 0, .int .i64 0, .slice none 0 0], .agg #[.int .i64 7, .int .i64 0, .string ⟨#[]⟩, .int .i64 0, .int .i64 0]]) (by simp only [results, Tryd.results30]; go_simp) rfl ?_
      rw [HK.out]
      refine ⟨none, 0, none, 0, rfl, ?_⟩
      exact (newT_bare [w.heap.size, w.heap.size + 1] (p := zeroPart) (by repeat (first | with_reducible exact E1m | with_reducible refine Chg.drew ?_ | with_reducible refine Chg.alloc ?_ _ | with_reducible refine Chg.setCell ?_ (.inl (by simp)) _)) rfl rfl).done (w := w) (w0 := w) (by simp <;> omega) (Chg.refl _ _)
    | some f =>
      have NP := Lib.hid (fun W => newPart_spec_some_any k hk W)
      have HK := Lib.hid (makeOf_some (r := rest) hk)
      clear hk
      go_enter Tryd.func30, Tryd.ntmps30
      go_wp2_with fail
      refine (NP.out _).mono ?_
      rintro e w1 ⟨rfl, c1⟩
      have E1 : Chg [] w w1 := Chg.trans0 (by repeat (first | with_reducible exact Chg.refl _ _ | with_reducible refine Chg.drew ?_ | with_reducible refine Chg.alloc ?_ _)) c1
      have t1 : w.heap.size + 1 < w1.heap.size := by have := c1.size; simp at this; omega
      have t1a : w.heap.size < w1.heap.size := by omega
      have bx0 : Box w1 (w.heap.size) [.string ⟨#[]⟩, .bool false, .bool false, .slice none 0 0, .int .i64 0, .slice none 0 0] := ((Box.new w [.string ⟨#[]⟩, .bool false, .bool false, .slice none 0 0, .int .i64 0, .slice none 0 0] 62).keep (T := []) ((Chg.refl _ _).alloc _) (by simp) (by simp)).keep c1 (by simp <;> omega) (by simp)
      have bx1 : Box w1 (w.heap.size + 1) [.int .i64 0, .int .i64 0, .string ⟨#[]⟩, .int .i64 0, .int .i64 0] := (Box.newAt (w.alloc (.cells #[.string ⟨#[]⟩, .bool false, .bool false, .slice none 0 0, .int .i64 0, .slice none 0 0] 62)) (w.heap.size + 1) [.int .i64 0, .int .i64 0, .string ⟨#[]⟩, .int .i64 0, .int .i64 0] 69 (by simp)).keep c1 (by simp <;> omega) (by simp)
      have Eq : Chg [] w (w1.alloc (.cells #[.string k, .bool false, .bool false, .slice none 0 0, .int .i64 0, .slice none 0 0] 62)) := E1.alloc _
      have BX0 := Lib.hid (bx0.keep ((Chg.refl [] w1).alloc (.cells #[.string k, .bool false, .bool false, .slice none 0 0, .int .i64 0, .slice none 0 0] 62)) t1a (by simp))
      have BX1 := Lib.hid (bx1.keep ((Chg.refl [] w1).alloc (.cells #[.string k, .bool false, .bool false, .slice none 0 0, .int .i64 0, .slice none 0 0] 62)) t1 (by simp))
      clear bx0 bx1 c1
      have hcore0 : (newPart k).core = ⟨k, false, false, [], 0⟩ := rfl
      have NT0 := Lib.hid (newT_bare [w1.heap.size] (w' := (w1.alloc (.cells #[.string k, .bool false, .bool false, .slice none 0 0, .int .i64 0, .slice none 0 0] 62))) (Chg.refl [w1.heap.size] (w1.alloc (.cells #[.string k, .bool false, .bool false, .slice none 0 0, .int .i64 0, .slice none 0 0] 62))) (newPart k) rfl rfl)
      have BX4 := Lib.hid (Box.new w1 [.string k, .bool false, .bool false, .slice none 0 0, .int .i64 0, .slice none 0 0] 62)
      go_wp2_with fail
      all_goals
        go_loopw [29] (fun i wr => ∃ (j : Nat) (p : PartT) (A4 : Option Addr) (cap4 : Nat) (A6 : Option Addr) (cap6 : Nat), j ≤ rest.length ∧ i = .int .i64 j ∧ makeOf (k :: rest) = makeFold p (rest.drop j) ∧ p.core = ⟨k, false, false, [], 0⟩ ∧ p.layers.length ≤ j ∧ Box wr w1.heap.size [.string p.core.kind, .bool p.core.on, .bool p.core.broken, .slice A4 p.core.cells.length cap4, .int .i64 p.core.count, .slice A6 p.layers.length cap6] ∧ Box wr w.heap.size [.string ⟨#[]⟩, .bool false, .bool false, .slice none 0 0, .int .i64 0, .slice none 0 0] ∧ Box wr (w.heap.size + 1) [.int .i64 0, .int .i64 0, .string ⟨#[]⟩, .int .i64 0, .int .i64 0] ∧ w1.heap.size < wr.heap.size ∧ NewT [w1.heap.size] (w1.alloc (.cells #[.string k, .bool false, .bool false, .slice none 0 0, .int .i64 0, .slice none 0 0] 62)) wr (partF p) [.string p.core.kind, .bool p.core.on, .bool p.core.broken, .slice A4 p.core.cells.length cap4, .int .i64 p.core.count, .slice A6 p.layers.length cap6]) (fun i _ => rest.length - (intOf i).toNat)
        case atStart => exact ⟨0, newPart k, none, 0, none, 0, Nat.zero_le _, rfl, HK.out, rfl, Nat.zero_le _, BX4.out, BX0.out, BX1.out, by simp, NT0.out⟩
        case round =>
          obtain ⟨j, p, A4, cap4, A6, cap6, hj, rfl, hfold, hcore, hlay, bx4, bx0, bx1, tq, hNT⟩ := hrel
          have hcl : p.core.cells = [] := by rw [hcore]
          have ELo : Chg [] w wr := hNT.elim fun S h => Eq.trans h.2.2 (fun x hx => .inr (by simp at hx; omega))
          have HF := Lib.hid hfold
          have HC := Lib.hid hcore
          have HT := Lib.hid hNT
          have BZ := Lib.hid bx0
          have BR := Lib.hid bx1
          have B4 := Lib.hid bx4
          have t0 : w.heap.size < wr.heap.size := by omega
          have t0a : w.heap.size + 1 < wr.heap.size := by omega
          have p0 : wr.cell? ⟨w1.heap.size, 0, none⟩ = some (.string p.core.kind) := (bx4 0 _ rfl).1
          have pf0 : wr.frozen? ⟨w1.heap.size, 0, none⟩ = false := (bx4 0 _ rfl).2
          have p1 : wr.cell? ⟨w1.heap.size, 1, none⟩ = some (.bool p.core.on) := (bx4 1 _ rfl).1
          have pf1 : wr.frozen? ⟨w1.heap.size, 1, none⟩ = false := (bx4 1 _ rfl).2
          have p2 : wr.cell? ⟨w1.heap.size, 2, none⟩ = some (.bool p.core.broken) := (bx4 2 _ rfl).1
          have pf2 : wr.frozen? ⟨w1.heap.size, 2, none⟩ = false := (bx4 2 _ rfl).2
          have p3 : wr.cell? ⟨w1.heap.size, 3, none⟩ = some (.slice A4 p.core.cells.length cap4) := (bx4 3 _ rfl).1
          have pf3 : wr.frozen? ⟨w1.heap.size, 3, none⟩ = false := (bx4 3 _ rfl).2
          have p4 : wr.cell? ⟨w1.heap.size, 4, none⟩ = some (.int .i64 p.core.count) := (bx4 4 _ rfl).1
          have pf4 : wr.frozen? ⟨w1.heap.size, 4, none⟩ = false := (bx4 4 _ rfl).2
          have p5 : wr.cell? ⟨w1.heap.size, 5, none⟩ = some (.slice A6 p.layers.length cap6) := (bx4 5 _ rfl).1
          have pf5 : wr.frozen? ⟨w1.heap.size, 5, none⟩ = false := (bx4 5 _ rfl).2
          clear hfold hcore hNT bx0 bx1 bx4 hcl
          by_cases hlt : j < rest.length
          · try (exfalso; omega)
            all_goals
              obtain ⟨b', off', e', hb', q1⟩ := strs_cells (hrow.chg0 ELo hB) (j + 1) (by simp; omega)
              cases e'
              simp only [List.getElem_cons_succ] at q1
              have q2 : wr.cell? ⟨b, off + 1 + j, none⟩ = some (.string rest[j]) := by rw [show off + 1 + j = off + (j + 1) by omega]; exact q1
              obtain ⟨q, rp, hq⟩ : ∃ q rp, wrapOf p rest[j] = (q, rp) := ⟨_, _, rfl⟩
              have hqc : q.core = p.core := by have := wrapOf_core p rest[j]; rw [hq] at this; exact this
              have hql : q.layers.length ≤ p.layers.length + 1 := by have := wrapOf_len p rest[j]; rw [hq] at this; exact this
              have hr := HT.out.elim (fun S h => part_rd h.1)
              have wr1 := wrap_spec_any p rest[j] _ _ wr.heap.size wr hr.1 hr.2 (Nat.le_refl _) (by omega) (by rw [HC.out]; simp) (by rw [HC.out]; simp)
              rw [hq] at wr1
              have WR := Lib.hid wr1
              have HQ := Lib.hid hq
              have HQC := Lib.hid hqc
              clear hr wr1 hq hqc
              go_wp2_with fail
              refine WR.out.mono ?_
              rintro e w2 ⟨A7, cap7, A8, cap8, rfl, hN⟩
              have c2 := hN.chg
              have HN2 := Lib.hid hN
              clear hN
              have bz2 := BZ.out.keep c2 t0 (by simp)
              have br2 := BR.out.keep c2 t0a (by simp)
              have b42 := B4.out.keep c2 tq (by simp)
              have z0 : w2.cell? ⟨w.heap.size, 0, none⟩ = some (.string ⟨#[]⟩) := (bz2 0 _ rfl).1
              have zf0 : w2.frozen? ⟨w.heap.size, 0, none⟩ = false := (bz2 0 _ rfl).2
              have z1 : w2.cell? ⟨w.heap.size, 1, none⟩ = some (.bool false) := (bz2 1 _ rfl).1
              have zf1 : w2.frozen? ⟨w.heap.size, 1, none⟩ = false := (bz2 1 _ rfl).2
              have z2 : w2.cell? ⟨w.heap.size, 2, none⟩ = some (.bool false) := (bz2 2 _ rfl).1
              have zf2 : w2.frozen? ⟨w.heap.size, 2, none⟩ = false := (bz2 2 _ rfl).2
              have z3 : w2.cell? ⟨w.heap.size, 3, none⟩ = some (.slice none 0 0) := (bz2 3 _ rfl).1
              have zf3 : w2.frozen? ⟨w.heap.size, 3, none⟩ = false := (bz2 3 _ rfl).2
              have z4 : w2.cell? ⟨w.heap.size, 4, none⟩ = some (.int .i64 0) := (bz2 4 _ rfl).1
              have zf4 : w2.frozen? ⟨w.heap.size, 4, none⟩ = false := (bz2 4 _ rfl).2
              have z5 : w2.cell? ⟨w.heap.size, 5, none⟩ = some (.slice none 0 0) := (bz2 5 _ rfl).1
              have zf5 : w2.frozen? ⟨w.heap.size, 5, none⟩ = false := (bz2 5 _ rfl).2
              have y0 : w2.cell? ⟨w.heap.size + 1, 0, none⟩ = some (.int .i64 0) := (br2 0 _ rfl).1
              have yf0 : w2.frozen? ⟨w.heap.size + 1, 0, none⟩ = false := (br2 0 _ rfl).2
              have y1 : w2.cell? ⟨w.heap.size + 1, 1, none⟩ = some (.int .i64 0) := (br2 1 _ rfl).1
              have yf1 : w2.frozen? ⟨w.heap.size + 1, 1, none⟩ = false := (br2 1 _ rfl).2
              have y2 : w2.cell? ⟨w.heap.size + 1, 2, none⟩ = some (.string ⟨#[]⟩) := (br2 2 _ rfl).1
              have yf2 : w2.frozen? ⟨w.heap.size + 1, 2, none⟩ = false := (br2 2 _ rfl).2
              have y3 : w2.cell? ⟨w.heap.size + 1, 3, none⟩ = some (.int .i64 0) := (br2 3 _ rfl).1
              have yf3 : w2.frozen? ⟨w.heap.size + 1, 3, none⟩ = false := (br2 3 _ rfl).2
              have y4 : w2.cell? ⟨w.heap.size + 1, 4, none⟩ = some (.int .i64 0) := (br2 4 _ rfl).1
              have yf4 : w2.frozen? ⟨w.heap.size + 1, 4, none⟩ = false := (br2 4 _ rfl).2
              have x0 : w2.cell? ⟨w1.heap.size, 0, none⟩ = some (.string p.core.kind) := (b42 0 _ rfl).1
              have xf0 : w2.frozen? ⟨w1.heap.size, 0, none⟩ = false := (b42 0 _ rfl).2
              have x1 : w2.cell? ⟨w1.heap.size, 1, none⟩ = some (.bool p.core.on) := (b42 1 _ rfl).1
              have xf1 : w2.frozen? ⟨w1.heap.size, 1, none⟩ = false := (b42 1 _ rfl).2
              have x2 : w2.cell? ⟨w1.heap.size, 2, none⟩ = some (.bool p.core.broken) := (b42 2 _ rfl).1
              have xf2 : w2.frozen? ⟨w1.heap.size, 2, none⟩ = false := (b42 2 _ rfl).2
              have x3 : w2.cell? ⟨w1.heap.size, 3, none⟩ = some (.slice A4 p.core.cells.length cap4) := (b42 3 _ rfl).1
              have xf3 : w2.frozen? ⟨w1.heap.size, 3, none⟩ = false := (b42 3 _ rfl).2
              have x4 : w2.cell? ⟨w1.heap.size, 4, none⟩ = some (.int .i64 p.core.count) := (b42 4 _ rfl).1
              have xf4 : w2.frozen? ⟨w1.heap.size, 4, none⟩ = false := (b42 4 _ rfl).2
              have x5 : w2.cell? ⟨w1.heap.size, 5, none⟩ = some (.slice A6 p.layers.length cap6) := (b42 5 _ rfl).1
              have xf5 : w2.frozen? ⟨w1.heap.size, 5, none⟩ = false := (b42 5 _ rfl).2
              have BZ2 := Lib.hid bz2
              have BR2 := Lib.hid br2
              have t2 : w1.heap.size < w2.heap.size := Nat.lt_of_lt_of_le tq c2.size
              have t2a : w.heap.size < w2.heap.size := by omega
              have t2b : w.heap.size + 1 < w2.heap.size := by omega
              have n1 : w1.heap.size ≠ w.heap.size := by omega
              have n2 : w1.heap.size ≠ w.heap.size + 1 := by omega
              have HC2 := Lib.hid c2
              clear bz2 br2 b42 c2
              by_cases hcode : rp.code = 0
              · have hd : (rp.code != 0) = false := by simp [hcode]
                have HCO := Lib.hid hcode
                clear hcode
                go_wp2_with fail
                go_roundw
                case rel =>
                  refine ⟨j + 1, q, A7, cap7, A8, cap8, by omega, by go_num, HF.out.trans (makeFold_step hlt HQ.out HCO.out), HQC.out.trans HC.out, by omega, ?_, BZ2.out.keep (T := [w1.heap.size]) (by repeat (first | with_reducible exact Chg.refl _ _ | with_reducible refine Chg.drew ?_ | with_reducible refine Chg.alloc ?_ _ | with_reducible refine Chg.setCell ?_ (.inl (by simp)) _)) t2a (by simp; omega), BR2.out.keep (T := [w1.heap.size]) (by repeat (first | with_reducible exact Chg.refl _ _ | with_reducible refine Chg.drew ?_ | with_reducible refine Chg.alloc ?_ _ | with_reducible refine Chg.setCell ?_ (.inl (by simp)) _)) t2b (by simp; omega), by simp [World.setCell]; omega, HN2.out.fresh (HT.out.elim fun S h => h.2.2) tq (by repeat (first | with_reducible exact Chg.refl _ _ | with_reducible refine Chg.drew ?_ | with_reducible refine Chg.alloc ?_ _ | with_reducible refine Chg.setCell ?_ (.inl (by simp)) _))⟩
                  have b42 := B4.out.keep HC2.out tq (by simp)
                  exact ((((((((b42.set 0 _ (by simp)).set 1 _ (by simp)).set 2 _ (by simp)).set 3 _ (by simp)).set 4 _ (by simp)).set 5 _ (by simp)).keep ((Chg.refl [] _).alloc _) (by simp [World.setCell]; omega) (by simp)).keep ((Chg.refl [] _).alloc _) (by simp [World.setCell]; omega) (by simp))
                case measure => simp [intOf]; omega
              · have EL2 : Chg [w.heap.size, w.heap.size + 1] w w2 := (ELo.trans0 HC2.out).mono (by simp)
                have hd : (rp.code != 0) = true := by simp [hcode]
                have HCO := Lib.hid hcode
                clear hcode
                go_wp2_with fail
                go_region
                all_goals
                  go_wp2_with fail
                  refine bodyPost_ret (v := .tuple #[.agg #[.string ⟨#[]⟩, .bool false, .bool false, .slice none 0 0, .int .i64 0, .slice none 0 0], .agg #[.int .i64 rp.code, .int .i64 rp.value, .string rp.text, .int .i64 rp.want, .int .i64 rp.had]]) (by simp only [results, Tryd.results30]; go_simp) rfl ?_
                  rw [HF.out, makeFold_stop hlt HQ.out HCO.out]
                  refine ⟨none, 0, none, 0, rfl, ?_⟩
                  exact (newT_bare [w.heap.size, w.heap.size + 1] (p := zeroPart) (by repeat (first | with_reducible exact EL2 | with_reducible refine Chg.drew ?_ | with_reducible refine Chg.alloc ?_ _ | with_reducible refine Chg.setCell ?_ (.inl (by simp)) _)) rfl rfl).done (w := w) (w0 := w) (by simp <;> omega) (Chg.refl _ _)
          · obtain rfl : j = rest.length := by omega
            have hr := HT.out.elim (fun S h => part_rd h.1)
            have FO := Lib.hid (fun W (hW : Chg [] wr W) => faceOf_spec_any p (.slice A4 p.core.cells.length cap4) _ wr.heap.size W (hr.2.chg0 hW (Nat.le_refl _)) hW.size)
            have bz2 := BZ.out
            have br2 := BR.out
            have z0 : wr.cell? ⟨w.heap.size, 0, none⟩ = some (.string ⟨#[]⟩) := (bz2 0 _ rfl).1
            have zf0 : wr.frozen? ⟨w.heap.size, 0, none⟩ = false := (bz2 0 _ rfl).2
            have z1 : wr.cell? ⟨w.heap.size, 1, none⟩ = some (.bool false) := (bz2 1 _ rfl).1
            have zf1 : wr.frozen? ⟨w.heap.size, 1, none⟩ = false := (bz2 1 _ rfl).2
            have z2 : wr.cell? ⟨w.heap.size, 2, none⟩ = some (.bool false) := (bz2 2 _ rfl).1
            have zf2 : wr.frozen? ⟨w.heap.size, 2, none⟩ = false := (bz2 2 _ rfl).2
            have z3 : wr.cell? ⟨w.heap.size, 3, none⟩ = some (.slice none 0 0) := (bz2 3 _ rfl).1
            have zf3 : wr.frozen? ⟨w.heap.size, 3, none⟩ = false := (bz2 3 _ rfl).2
            have z4 : wr.cell? ⟨w.heap.size, 4, none⟩ = some (.int .i64 0) := (bz2 4 _ rfl).1
            have zf4 : wr.frozen? ⟨w.heap.size, 4, none⟩ = false := (bz2 4 _ rfl).2
            have z5 : wr.cell? ⟨w.heap.size, 5, none⟩ = some (.slice none 0 0) := (bz2 5 _ rfl).1
            have zf5 : wr.frozen? ⟨w.heap.size, 5, none⟩ = false := (bz2 5 _ rfl).2
            have y0 : wr.cell? ⟨w.heap.size + 1, 0, none⟩ = some (.int .i64 0) := (br2 0 _ rfl).1
            have yf0 : wr.frozen? ⟨w.heap.size + 1, 0, none⟩ = false := (br2 0 _ rfl).2
            have y1 : wr.cell? ⟨w.heap.size + 1, 1, none⟩ = some (.int .i64 0) := (br2 1 _ rfl).1
            have yf1 : wr.frozen? ⟨w.heap.size + 1, 1, none⟩ = false := (br2 1 _ rfl).2
            have y2 : wr.cell? ⟨w.heap.size + 1, 2, none⟩ = some (.string ⟨#[]⟩) := (br2 2 _ rfl).1
            have yf2 : wr.frozen? ⟨w.heap.size + 1, 2, none⟩ = false := (br2 2 _ rfl).2
            have y3 : wr.cell? ⟨w.heap.size + 1, 3, none⟩ = some (.int .i64 0) := (br2 3 _ rfl).1
            have yf3 : wr.frozen? ⟨w.heap.size + 1, 3, none⟩ = false := (br2 3 _ rfl).2
            have y4 : wr.cell? ⟨w.heap.size + 1, 4, none⟩ = some (.int .i64 0) := (br2 4 _ rfl).1
            have yf4 : wr.frozen? ⟨w.heap.size + 1, 4, none⟩ = false := (br2 4 _ rfl).2
            clear hr bz2 br2
            go_wp2_with fail
            all_goals
              go_region_law (first | (go_simp; go_at_call 47; (with_reducible refine (FO.out _ (by first | exact Chg.refl _ _ | exact (Chg.refl _ _).drew | exact (Chg.refl _ _).drew.drew)).mono ?_); rintro e w4 ⟨rfl, c4d⟩; have c4 : Chg [] wr w4 := (by first | exact c4d | exact ((Chg.refl [] wr).drew).trans0 c4d | exact ((Chg.refl [] wr).drew.drew).trans0 c4d); have bz4 := BZ.out.keep c4 t0 (by simp); have br4 := BR.out.keep c4 t0a (by simp); have b44 := B4.out.keep c4 tq (by simp); have z40 : w4.cell? ⟨w.heap.size, 0, none⟩ = some (.string ⟨#[]⟩) := (bz4 0 _ rfl).1; have z4f0 : w4.frozen? ⟨w.heap.size, 0, none⟩ = false := (bz4 0 _ rfl).2; have z41 : w4.cell? ⟨w.heap.size, 1, none⟩ = some (.bool false) := (bz4 1 _ rfl).1; have z4f1 : w4.frozen? ⟨w.heap.size, 1, none⟩ = false := (bz4 1 _ rfl).2; have z42 : w4.cell? ⟨w.heap.size, 2, none⟩ = some (.bool false) := (bz4 2 _ rfl).1; have z4f2 : w4.frozen? ⟨w.heap.size, 2, none⟩ = false := (bz4 2 _ rfl).2; have z43 : w4.cell? ⟨w.heap.size, 3, none⟩ = some (.slice none 0 0) := (bz4 3 _ rfl).1; have z4f3 : w4.frozen? ⟨w.heap.size, 3, none⟩ = false := (bz4 3 _ rfl).2; have z44 : w4.cell? ⟨w.heap.size, 4, none⟩ = some (.int .i64 0) := (bz4 4 _ rfl).1; have z4f4 : w4.frozen? ⟨w.heap.size, 4, none⟩ = false := (bz4 4 _ rfl).2; have z45 : w4.cell? ⟨w.heap.size, 5, none⟩ = some (.slice none 0 0) := (bz4 5 _ rfl).1; have z4f5 : w4.frozen? ⟨w.heap.size, 5, none⟩ = false := (bz4 5 _ rfl).2; have y40 : w4.cell? ⟨w.heap.size + 1, 0, none⟩ = some (.int .i64 0) := (br4 0 _ rfl).1; have y4f0 : w4.frozen? ⟨w.heap.size + 1, 0, none⟩ = false := (br4 0 _ rfl).2; have y41 : w4.cell? ⟨w.heap.size + 1, 1, none⟩ = some (.int .i64 0) := (br4 1 _ rfl).1; have y4f1 : w4.frozen? ⟨w.heap.size + 1, 1, none⟩ = false := (br4 1 _ rfl).2; have y42 : w4.cell? ⟨w.heap.size + 1, 2, none⟩ = some (.string ⟨#[]⟩) := (br4 2 _ rfl).1; have y4f2 : w4.frozen? ⟨w.heap.size + 1, 2, none⟩ = false := (br4 2 _ rfl).2; have y43 : w4.cell? ⟨w.heap.size + 1, 3, none⟩ = some (.int .i64 0) := (br4 3 _ rfl).1; have y4f3 : w4.frozen? ⟨w.heap.size + 1, 3, none⟩ = false := (br4 3 _ rfl).2; have y44 : w4.cell? ⟨w.heap.size + 1, 4, none⟩ = some (.int .i64 0) := (br4 4 _ rfl).1; have y4f4 : w4.frozen? ⟨w.heap.size + 1, 4, none⟩ = false := (br4 4 _ rfl).2; have x40 : w4.cell? ⟨w1.heap.size, 0, none⟩ = some (.string p.core.kind) := (b44 0 _ rfl).1; have x4f0 : w4.frozen? ⟨w1.heap.size, 0, none⟩ = false := (b44 0 _ rfl).2; have x41 : w4.cell? ⟨w1.heap.size, 1, none⟩ = some (.bool p.core.on) := (b44 1 _ rfl).1; have x4f1 : w4.frozen? ⟨w1.heap.size, 1, none⟩ = false := (b44 1 _ rfl).2; have x42 : w4.cell? ⟨w1.heap.size, 2, none⟩ = some (.bool p.core.broken) := (b44 2 _ rfl).1; have x4f2 : w4.frozen? ⟨w1.heap.size, 2, none⟩ = false := (b44 2 _ rfl).2; have x43 : w4.cell? ⟨w1.heap.size, 3, none⟩ = some (.slice A4 p.core.cells.length cap4) := (b44 3 _ rfl).1; have x4f3 : w4.frozen? ⟨w1.heap.size, 3, none⟩ = false := (b44 3 _ rfl).2; have x44 : w4.cell? ⟨w1.heap.size, 4, none⟩ = some (.int .i64 p.core.count) := (b44 4 _ rfl).1; have x4f4 : w4.frozen? ⟨w1.heap.size, 4, none⟩ = false := (b44 4 _ rfl).2; have x45 : w4.cell? ⟨w1.heap.size, 5, none⟩ = some (.slice A6 p.layers.length cap6) := (b44 5 _ rfl).1; have x4f5 : w4.frozen? ⟨w1.heap.size, 5, none⟩ = false := (b44 5 _ rfl).2; have C4 := Lib.hid c4; have t4 : w1.heap.size < w4.heap.size := Nat.lt_of_lt_of_le tq c4.size; have t4a : w.heap.size < w4.heap.size := (by omega); have t4b : w.heap.size + 1 < w4.heap.size := (by omega); clear bz4 br4 b44; simp only []) | fail)
              all_goals
                go_wp2_with fail
                refine bodyPost_ret (v := .tuple #[.agg #[.string p.core.kind, .bool p.core.on, .bool p.core.broken, .slice A4 p.core.cells.length cap4, .int .i64 p.core.count, .slice A6 p.layers.length cap6], .agg #[.int .i64 0, .int .i64 (faceAt p p.layers.length), .string ⟨#[]⟩, .int .i64 0, .int .i64 0]]) (by simp only [results, Tryd.results30]; go_simp) rfl ?_
                rw [HF.out, List.drop_length, makeFold]
                refine ⟨A4, cap4, A6, cap6, rfl, ?_⟩
                exact NewT.ends (w := w) HT.out Eq (by simp; omega) C4.out (U := [w.heap.size, w.heap.size + 1]) (by simp <;> omega) (by repeat (first | with_reducible exact Chg.refl _ _ | with_reducible refine Chg.drew ?_ | with_reducible refine Chg.alloc ?_ _ | with_reducible refine Chg.setCell ?_ (.inl (by simp)) _))
end Go.Proofs.YtapmknkelihacaaDoor
