/- Append where some blocks that stood before (T) may turn meanwhile. Conditions: as the append law's: at most 2^47 bytes. -/
import Derived.Test.YtldpibnfhomfgaaGreatDoorApps
namespace Go.Proofs.YtldpibnfhomfgaaGreatDoor
open Go.RowKit

theorem ownsRow_chg {w w' : World} {base : Nat} {e : TypeId} {size n : Nat} {v : Value} {xs : List Value} {T : List Nat} (h : w.ownsRow base e size v n xs) (hc : Chg T w w') (hT : ∀ x ∈ T, x < base) : w'.ownsRow base e size v n xs := by
  refine ⟨h.1, h.2.imp id ?_⟩
  rintro ⟨g, cap, cur, h1, h2, h3, h4⟩
  exact ⟨g, cap, cur, h1, h2, (hc.block g (Array.getElem?_eq_some_iff.1 h3).1 (fun hx => by have := hT g hx; omega)).trans h3, h4⟩
/-- A datum made since w0, while of what was there only the blocks T have turned. -/
def NewS (T : List Nat) (w w' : World) (d : Dat) (u : Value) : Prop := ∃ S, Has w' d u S ∧ (∀ x, x ∈ S → w.heap.size ≤ x) ∧ Chg T w w'
theorem NewS.chg {T : List Nat} {w w' : World} {d : Dat} {u : Value} (h : NewS T w w' d u) : Chg T w w' := h.elim fun _ x => x.2.2
theorem NewT.chg {T : List Nat} {w w' : World} {ds : List Dat} {us : List Value} (h : NewT T w w' ds us) : Chg T w w' := h.elim fun _ x => x.2.2
theorem New.newS {T : List Nat} {w w' : World} {d : Dat} {u : Value} (h : New w w' d u) : NewS T w w' d u := h.elim fun S x => ⟨S, x.1, x.2.1, x.2.2.mono (by simp)⟩
theorem NewS.later {T : List Nat} {w w' w2 : World} {d : Dat} {u : Value} (h : NewS T w w' d u) (hc : Chg T w' w2) (hT : ∀ x ∈ T, x < w.heap.size) : NewS T w w2 d u :=
  h.elim fun S x => ⟨S, x.1.keep hc (fun y hy hyT => by have := x.2.1 y hy; have := hT y hyT; omega), x.2.1, x.2.2.trans hc (fun _ h => .inl h)⟩
theorem NewS.sooner {T : List Nat} {w0 w w' : World} {d : Dat} {u : Value} (h : NewS T w w' d u) (hc : Chg T w0 w) : NewS T w0 w' d u :=
  h.elim fun S x => ⟨S, x.1, fun y hy => Nat.le_trans hc.size (x.2.1 y hy), hc.trans x.2.2 (fun _ h => .inl h)⟩
theorem NewT.later {T : List Nat} {w w' w2 : World} {ds : List Dat} {us : List Value} (h : NewT T w w' ds us) (hc : Chg T w' w2) (hT : ∀ x ∈ T, x < w.heap.size) : NewT T w w2 ds us :=
  h.elim fun S x => ⟨S, x.1.keep hc (fun y hy hyT => by have := x.2.1 y hy; have := hT y hyT; omega), x.2.1, x.2.2.trans hc (fun _ h => .inl h)⟩
theorem NewT.sooner {T : List Nat} {w0 w w' : World} {ds : List Dat} {us : List Value} (h : NewT T w w' ds us) (hc : Chg T w0 w) : NewT T w0 w' ds us :=
  h.elim fun S x => ⟨S, x.1, fun y hy => Nat.le_trans hc.size (x.2.1 y hy), hc.trans x.2.2 (fun _ h => .inl h)⟩
/-- One datum more in front. -/
theorem NewT.cons_s {T : List Nat} {w wa w' : World} {d : Dat} {u : Value} {ds : List Dat} {us : List Value} (hA : NewS T w wa d u) (hT : ∀ x ∈ T, x < w.heap.size) (hr : NewT T wa w' ds us) : NewT T w w' (d :: ds) (u :: us) := by
  obtain ⟨S, a1, a2, a3⟩ := hA
  obtain ⟨U, b1, b2, b3⟩ := hr
  refine ⟨S ++ U, HasL.cons (a1.keep b3 (fun x hx hxT => by have := a2 x hx; have := hT x hxT; omega)) b1 (fun x hx hxU => ?_), fun x hx => ?_, a3.trans b3 (fun _ h => .inl h)⟩
  · have := a1.lt x hx; have := b2 x hxU; omega
  · rcases List.mem_append.1 hx with hx | hx
    · exact a2 x hx
    · have := b2 x hx; have := a3.size; omega
/-- The slice v of n elements reads as the cells ds; it, and all that is in it, was made since w0; of what was there only the blocks T have turned. -/
def AppT (T : List Nat) (w0 w : World) (e : TypeId) (size : Nat) (v : Value) (n : Nat) (ds : List Dat) : Prop :=
  ∃ xs S', w.ownsRow w0.heap.size e size v n xs ∧ OwnL w ds xs S' ∧ S'.Nodup ∧ (∀ x, x ∈ S' → w0.heap.size ≤ x) ∧ (∀ g, v.ownBlock = some g → g ∉ S') ∧ Chg T w0 w
section
variable {T : List Nat} {w0 w w' : World} {e : TypeId} {size n : Nat} {v : Value} {ds : List Dat}
theorem AppT.chg (h : AppT T w0 w e size v n ds) : Chg T w0 w := by
  obtain ⟨_, _, _, _, _, _, _, h⟩ := h
  exact h
theorem AppT.nil (w0 : World) (e : TypeId) (size : Nat) {w : World} (h : Chg T w0 w) : AppT T w0 w e size (.slice none 0 0) 0 [] :=
  ⟨[], [], World.ownsRow_nil _ _ _ _, by rw [OwnL]; exact ⟨rfl, rfl⟩, List.nodup_nil, by simp, by simp, h⟩
theorem AppT.later (h : AppT T w0 w e size v n ds) (hc : Chg T w w') (hT : ∀ x ∈ T, x < w0.heap.size) : AppT T w0 w' e size v n ds := by
  obtain ⟨xs, S', h1, h2, h3, h4, h5, h6⟩ := h
  exact ⟨xs, S', ownsRow_chg h1 hc hT, OwnL.keep hc ds xs S' (fun x hx hxT => by have := h4 x hx; have := hT x hxT; omega) h2, h3, h4, h5, h6.trans hc (fun _ h => .inl h)⟩
theorem AppT.new (h : AppT T w0 w e size v n ds) : NewS T w0 w (.s n ds) v := by
  obtain ⟨xs, S', h1, h2, h3, h4, h5, h6⟩ := h
  have hl := OwnL.length _ _ _ h2
  rcases h1.2 with ⟨rfl, rfl⟩ | ⟨g, cap, cur, rfl, hg, hh, hn, hm, hs, ht⟩
  · have hxs : xs = [] := List.eq_nil_of_length_eq_zero (by rw [h1.1]; simp)
    subst hxs
    have hds : ds = [] := List.eq_nil_of_length_eq_zero (by simpa using hl.symm)
    subst hds
    exact ⟨[], ⟨by rw [Own]; exact .inl ⟨rfl, rfl, rfl, rfl⟩, List.nodup_nil⟩, by simp, h6⟩
  · refine ⟨g :: S', ⟨?_, List.nodup_cons.2 ⟨h5 g rfl, h3⟩⟩, fun x hx => ?_, h6⟩
    · rw [Own]
      exact .inr ⟨g, cap, cur, e, xs, S', rfl, hn, hm, hh, by rw [← hl, h1.1]; exact ht, hl, h2, rfl⟩
    · rcases List.mem_cons.1 hx with rfl | hx
      · exact hg
      · exact h4 x hx
theorem AppT.form (h : AppT T w0 w e size v n ds) : ∃ A cap, v = .slice A n cap := by
  obtain ⟨xs, S', h1, _⟩ := h
  rcases h1.2 with ⟨rfl, rfl⟩ | ⟨g, cap, cur, rfl, _⟩
  · exact ⟨none, 0, rfl⟩
  · exact ⟨_, cap, rfl⟩
end
/-- Only blocks between two numbers have turned. -/
def Mid (a b : Nat) (w w' : World) : Prop := ∃ S, Chg S w w' ∧ ∀ x ∈ S, a ≤ x ∧ x < b
theorem Mid.cell {a b : Nat} {w w' : World} (h : Mid a b w w') {g : Nat} (hg : g < a ∨ b ≤ g) (hw : g < w.heap.size) (o : Nat) : w'.cell? ⟨g, o, none⟩ = w.cell? ⟨g, o, none⟩ := by
  obtain ⟨S, hc, hS⟩ := h
  exact hc.cell hw (fun hx => by have := hS g hx; omega)
theorem Mid.frozen {a b : Nat} {w w' : World} (h : Mid a b w w') {g : Nat} (hg : g < a ∨ b ≤ g) (hw : g < w.heap.size) (o : Nat) : w'.frozen? ⟨g, o, none⟩ = w.frozen? ⟨g, o, none⟩ := by
  obtain ⟨S, hc, hS⟩ := h
  exact hc.frozen hw (fun hx => by have := hS g hx; omega)
/-- 'append(out, x...)', x of m elements made since the world wr, in which out was last looked at. -/
theorem run_appT {P : Program} {T : List Nat} {w : World} (t ty e : TypeId) (z : Value) (size bytes : Nat) (ht : P.underlying t = some (.slice e)) (hinfo : (P.info? e).map (fun i => (i.zero, i.size, i.bytes)) = some (some z, size, bytes)) (hzs : z.cells.size = size) (hsz : 0 < size)
    {w0 wr : World} {v : Value} {n : Nat} {ds dsE : List Dat} {us : List Value} (hA : AppT T w0 wr e size v n ds) (hT : ∀ x ∈ T, x < w0.heap.size) (hN : NewT T wr w dsE us)
    (ad : Addr) (m c : Nat) (hl : us.length = m * size) (hnews : ∀ j u, us[j]? = some u → w.cell? (ad.add j) = some u) (h1 : ∀ u ∈ us, u.oneCell' = true)
    (h63 : n + m ≤ 1048577) (hb : bytes ≤ 65536) :
    ∃ A' cap' w', (Builtin.append_ #[t, t] ty #[v, .slice (some ad) m c]).run P w = .ok (.slice A' (n + m) cap') w' ∧ AppT T w0 w' e size (.slice A' (n + m) cap') (n + m) (ds ++ dsE) ∧ Mid w0.heap.size wr.heap.size w w' := by
  obtain ⟨i, hi, hzz⟩ := Option.map_eq_some_iff.1 hinfo
  simp only [Prod.mk.injEq] at hzz
  obtain ⟨hz, hsi, hby⟩ := hzz
  obtain ⟨xs, S', o1, o2, o3, o4, o5, o6⟩ := hA
  obtain ⟨S2, n1, n2, n3⟩ := hN
  have own := ownsRow_chg o1 n3 hT
  have hmul : (n + m) * bytes ≤ 1048577 * 65536 := Nat.mul_le_mul h63 hb
  obtain ⟨v', w', hr, p1, p2, _, p4⟩ := run_append_own_at (P := P) w w0.heap.size t ty e i z size bytes ht hi hz hsi hby hzs hsz v n xs own ad m c us hl hnews h1 (by unfold maxLen; omega) (by omega) (Nat.le_trans o6.size n3.size)
  have hown : ∀ k, v.ownBlock = some k → w0.heap.size ≤ k ∧ k < wr.heap.size := fun k hk => o1.lt k hk
  have hchg : Chg (match v.ownBlock with | some k => [k] | none => []) w w' := ⟨p2.os, p2.tape, p2.output, p2.size, fun k hk hn => p2.block k hk (fun e => by rw [← e] at hn; simp at hn)⟩
  have hdis : ∀ y, y ∈ S' ++ S2 → y ∉ (match v.ownBlock with | some k => [k] | none => []) := by
    intro y hy hyk
    cases hv : v.ownBlock with
    | none => rw [hv] at hyk; simp at hyk
    | some k =>
      rw [hv] at hyk
      simp at hyk
      subst hyk
      rcases List.mem_append.1 hy with hy | hy
      · exact o5 y hv hy
      · have := n2 y hy; have := (hown y hv).2; omega
  have hL : OwnL w' (ds ++ dsE) (xs ++ us) (S' ++ S2) := OwnL.keep hchg _ _ _ hdis (OwnL.append (OwnL.keep n3 ds xs S' (fun x hx hxT => by have := o4 x hx; have := hT x hxT; omega) o2) n1.1)
  have hmid : ∀ x ∈ (match v.ownBlock with | some k => [k] | none => []), w0.heap.size ≤ x ∧ x < wr.heap.size := by
    intro x hx
    cases hv : v.ownBlock with
    | none => rw [hv] at hx; simp at hx
    | some k => rw [hv] at hx; simp at hx; subst hx; exact hown _ hv
  have hApp : AppT T w0 w' e size v' (n + m) (ds ++ dsE) := by
    refine ⟨xs ++ us, S' ++ S2, p1, hL, List.nodup_append.2 ⟨o3, n1.2, fun y hy y' hy' ee => ?_⟩, fun y hy => ?_, fun k hk hkS => ?_, ?_⟩
    · subst ee
      have := OwnL.lt _ _ _ o2 y hy; have := n2 y hy'; omega
    · rcases List.mem_append.1 hy with hy | hy
      · exact o4 y hy
      · have := n2 y hy; have := o6.size; omega
    · rcases p4 with p4 | p4
      · exact hdis k hkS (by rw [← p4, hk]; simp)
      · rw [p4] at hk
        injection hk with hk
        subst hk
        rcases List.mem_append.1 hkS with hy | hy
        · have := OwnL.lt _ _ _ o2 _ hy; have := n3.size; omega
        · have := n1.lt _ hy; omega
    · exact (o6.trans n3 (fun _ h => .inl h)).trans hchg (fun y hy => .inr (hmid y hy).1)
  obtain ⟨A', cap', rfl⟩ := hApp.form
  exact ⟨A', cap', w', hr, hApp, _, hchg, hmid⟩
theorem wpList_appT {P : Program} {T : List Nat} {w : World} {ops : Array Oper} {rest : List Oper} {o : Oper} {a : Act} {Q : Exit → Act → World → Prop} (hgd : o.guard = none) (s x : Operand) (t : TypeId)
    (ho : o.op = .call { callee := .builtin .append, args := #[s, x], argTypes := #[t, t] })
    (e : TypeId) (z : Value) (size bytes : Nat) (ht : P.underlying t = some (.slice e)) (hinfo : (P.info? e).map (fun i => (i.zero, i.size, i.bytes)) = some (some z, size, bytes)) (hzs : z.cells.size = size) (hsz : 0 < size)
    {w0 wr : World} {v : Value} {n : Nat} {ds dsE : List Dat} {us : List Value} (hA : AppT T w0 wr e size v n ds) (hT : ∀ x ∈ T, x < w0.heap.size) (hN : NewT T wr w dsE us) (hs : a.eval s = v)
    (g m c : Nat) (hx : a.eval x = .slice (some ⟨g, 0, none⟩) m c) (hl : us.length = m * size) (hnews : ∀ j u, us[j]? = some u → w.cell? ⟨g, j, none⟩ = some u) (h1 : ∀ u ∈ us, u.oneCell' = true)
    (h63 : n + m ≤ 1048577) (hb : bytes ≤ 65536)
    (h : ∀ A' cap' w', AppT T w0 w' e size (.slice A' (n + m) cap') (n + m) (ds ++ dsE) → Mid w0.heap.size wr.heap.size w w' → wpList P ops Q rest (a.put o.dst (.slice A' (n + m) cap')) w') : wpList P ops Q (o :: rest) a w := by
  refine wpList_plain hgd fun K hK => ?_
  obtain ⟨A', cap', w', hr, h2, h3⟩ := run_appT (P := P) t o.type e z size bytes ht hinfo hzs hsz hA hT hN ⟨g, 0, none⟩ m c hl (fun j u hj => by
    have hadd : (⟨g, 0, none⟩ : Addr).add j = ⟨g, j, none⟩ := by unfold Addr.add; split <;> simp_all
    rw [hadd]; exact hnews j u hj) h1 h63 hb
  unfold Oper.wp execOp
  simp only [ho, resolve, invoke, builtin, Sem.run_bind, Sem.run_pure, Result.andThen_ok, List.map_toArray, List.map_cons, List.map_nil, hs, hx, hr]
  exact hK _ _ (h A' cap' w' h2 h3)
end Go.Proofs.YtldpibnfhomfgaaGreatDoor
