/- A slice of one's own that grows by append, its elements holding slices of their own. Conditions: as the append law's: at most 2^47 bytes. / append of several plain elements, read from a slice. Conditions: as the append law's: at most 2^47 bytes. / A slice that grows by append beside another that is owned: that one stays. Conditions: as the append law's. -/
import Derived.Test.YtldpibnfhomfgaaGreatDoorGround
import Derived.Maps.AppendAt
import Derived.Test.YtldpibnfhomfgaaGreatDoorTypes
namespace Go.Proofs.YtldpibnfhomfgaaGreatDoor
open Go.RowKit

/-- The slice v of n elements reads as the cells ds; it, and all that is in it, was made since w0. -/
def App (w0 w : World) (e : TypeId) (size : Nat) (v : Value) (n : Nat) (ds : List Dat) : Prop :=
  ∃ xs S', w.ownsRow w0.heap.size e size v n xs ∧ OwnL w ds xs S' ∧ S'.Nodup ∧ (∀ x, x ∈ S' → w0.heap.size ≤ x) ∧ (∀ g, v.ownBlock = some g → g ∉ S') ∧ Chg [] w0 w

theorem App.chg {w0 w : World} {e : TypeId} {size n : Nat} {v : Value} {ds : List Dat} (h : App w0 w e size v n ds) : Chg [] w0 w := by
  obtain ⟨_, _, _, _, _, _, _, h⟩ := h
  exact h
theorem App.nil (w0 : World) (e : TypeId) (size : Nat) {w : World} (h : Chg [] w0 w) : App w0 w e size (.slice none 0 0) 0 [] :=
  ⟨[], [], World.ownsRow_nil _ _ _ _, by rw [OwnL]; exact ⟨rfl, rfl⟩, List.nodup_nil, by simp, by simp, h⟩
theorem App.empty (w0 : World) (e : TypeId) (size : Nat) {w : World} (h : Chg [] w0 w) : App w0 (w.alloc (.cells #[] e)) e size (.slice (some ⟨w.heap.size, 0, none⟩) 0 0) 0 [] :=
  ⟨[], [], World.ownsRow_made w #[] 0 h.size (by simp [maxLen]) (by simp), by rw [OwnL]; exact ⟨rfl, rfl⟩, List.nodup_nil, by simp, by simp, h.alloc _⟩
theorem App.later {w0 w w' : World} {e : TypeId} {size n : Nat} {v : Value} {ds : List Dat} (h : App w0 w e size v n ds) (hc : Chg [] w w') : App w0 w' e size v n ds := by
  obtain ⟨xs, S', h1, h2, h3, h4, h5, h6⟩ := h
  have hg : w.grownBy w' none := ⟨hc.os, hc.tape, hc.output, hc.size, fun k hk _ => hc.block k hk (by simp)⟩
  exact ⟨xs, S', h1.kept hg (by cases hv : v.ownBlock <;> simp), OwnL.keep hc ds xs S' (by simp) h2, h3, h4, h5, h6.trans0 hc⟩
theorem App.new {w0 w : World} {e : TypeId} {size n : Nat} {v : Value} {ds : List Dat} (h : App w0 w e size v n ds) : New w0 w (.s n ds) v := by
  obtain ⟨xs, S', h1, h2, h3, h4, h5, h6⟩ := h
  have hl := OwnL.length _ _ _ h2
  rcases h1.2 with ⟨rfl, rfl⟩ | ⟨g, cap, cur, rfl, hg, hh, hn, hm, hs, ht⟩
  · have hxs : xs = [] := List.eq_nil_of_length_eq_zero (by rw [h1.1]; simp)
    subst hxs
    have hds : ds = [] := List.eq_nil_of_length_eq_zero (by simpa using hl.symm)
    subst hds
    exact ⟨[], ⟨by rw [Own]; exact .inl ⟨rfl, rfl, rfl, rfl⟩, List.nodup_nil⟩, by simp, h6⟩
  · refine ⟨g :: S', ⟨?_, List.nodup_cons.2 ⟨h5 g rfl, h3⟩⟩, fun x hx => ?_, h6⟩
    · rw [Own]
      exact .inr ⟨g, cap, cur, e, xs, S', rfl, hn, hm, hh, by rw [← hl, h1.1]; exact ht, hl, h2, rfl⟩
    · rcases List.mem_cons.1 hx with rfl | hx
      · exact hg
      · exact h4 x hx
theorem App.form {w0 w : World} {e : TypeId} {size n : Nat} {v : Value} {ds : List Dat} (h : App w0 w e size v n ds) : ∃ A cap, v = .slice A n cap := by
  obtain ⟨xs, S', h1, _⟩ := h
  rcases h1.2 with ⟨rfl, rfl⟩ | ⟨g, cap, cur, rfl, _⟩
  · exact ⟨none, 0, rfl⟩
  · exact ⟨_, cap, rfl⟩

/-- 'out = append(out, x)', x made since the world wr, in which out was last looked at. -/
theorem wpList_app {P : Program} {w : World} {ops : Array Oper} {rest : List Oper} {o : Oper} {a : Act} {Q : Exit → Act → World → Prop} (hgd : o.guard = none) (s x : Operand) (t : TypeId)
    (ho : o.op = .call { callee := .builtin .append, args := #[s, x], argTypes := #[t, t] })
    (e : TypeId) (z : Value) (size bytes : Nat) (ht : P.underlying t = some (.slice e)) (hinfo : (P.info? e).map (fun i => (i.zero, i.size, i.bytes)) = some (some z, size, bytes)) (hzs : z.cells.size = size) (hsz : 0 < size)
    {w0 wr : World} {v : Value} {n : Nat} {ds dsE : List Dat} {us : List Value} (hA : App w0 wr e size v n ds) (hN : NewL wr w dsE us) (hs : a.eval s = v)
    (g c : Nat) (hx : a.eval x = .slice (some ⟨g, 0, none⟩) 1 c) (hl : us.length = size) (hnews : ∀ j u, us[j]? = some u → w.cell? ⟨g, j, none⟩ = some u) (h1 : ∀ u ∈ us, u.oneCell' = true)
    (h63 : n + 1 ≤ 1048577) (hb : bytes ≤ 65536)
    (h : ∀ A' cap' w', App w0 w' e size (.slice A' (n + 1) cap') (n + 1) (ds ++ dsE) → wpList P ops Q rest (a.put o.dst (.slice A' (n + 1) cap')) w') : wpList P ops Q (o :: rest) a w := by
  obtain ⟨i, hi, hzz⟩ := Option.map_eq_some_iff.1 hinfo
  simp only [Prod.mk.injEq] at hzz
  obtain ⟨hz, hsi, hby⟩ := hzz
  obtain ⟨xs, S', o1, o2, o3, o4, o5, o6⟩ := hA
  obtain ⟨S2, n1, n2, n3⟩ := hN
  have hg0 : wr.grownBy w none := ⟨n3.os, n3.tape, n3.output, n3.size, fun k hk _ => n3.block k hk (by simp)⟩
  have own := o1.kept hg0 (by cases hv : v.ownBlock <;> simp)
  have hmul : (n + 1) * bytes ≤ 1048577 * 65536 := Nat.mul_le_mul h63 hb
  refine wpList_append_own_at w hgd s x t ho w0.heap.size e i z size bytes ht hi hz hsi hby hzs hsz v n xs hs own ⟨g, 0, none⟩ 1 c us hx (by rw [hl, Nat.one_mul]) (fun j u hj => by
    have hadd : (⟨g, 0, none⟩ : Addr).add j = ⟨g, j, none⟩ := by unfold Addr.add; split <;> simp_all
    rw [hadd]; exact hnews j u hj) h1 (by unfold maxLen; omega) (by omega) (Nat.le_trans o6.size n3.size) (fun v' w' p1 p2 _ p4 => ?_)
  have hown : ∀ k, v.ownBlock = some k → w0.heap.size ≤ k ∧ k < wr.heap.size := fun k hk => o1.lt k hk
  have hchg : Chg (match v.ownBlock with | some k => [k] | none => []) w w' := ⟨p2.os, p2.tape, p2.output, p2.size, fun k hk hn => p2.block k hk (fun e => by rw [← e] at hn; simp at hn)⟩
  have hdis : ∀ y, y ∈ S' ++ S2 → y ∉ (match v.ownBlock with | some k => [k] | none => []) := by
    intro y hy hyk
    cases hv : v.ownBlock with
    | none => rw [hv] at hyk; simp at hyk
    | some k =>
      rw [hv] at hyk
      simp at hyk
      subst hyk
      rcases List.mem_append.1 hy with hy | hy
      · exact o5 y hv hy
      · have := n2 y hy; have := (hown y hv).2; omega
  have hL : OwnL w' (ds ++ dsE) (xs ++ us) (S' ++ S2) := OwnL.keep hchg _ _ _ hdis (OwnL.append (OwnL.keep n3 ds xs S' (by simp) o2) n1.1)
  have hApp : App w0 w' e size v' (n + 1) (ds ++ dsE) := by
    refine ⟨xs ++ us, S' ++ S2, p1, hL, List.nodup_append.2 ⟨o3, n1.2, fun y hy y' hy' ee => ?_⟩, fun y hy => ?_, fun k hk hkS => ?_, ?_⟩
    · subst ee
      have := OwnL.lt _ _ _ o2 y hy; have := n2 y hy'; omega
    · rcases List.mem_append.1 hy with hy | hy
      · exact o4 y hy
      · have := n2 y hy; have := o6.size; omega
    · rcases p4 with p4 | p4
      · exact hdis k hkS (by rw [← p4, hk]; simp)
      · rw [p4] at hk
        injection hk with hk
        subst hk
        rcases List.mem_append.1 hkS with hy | hy
        · have := OwnL.lt _ _ _ o2 _ hy; have := n3.size; omega
        · have := n1.lt _ hy; omega
    · refine (o6.trans0 n3).trans hchg (fun y hy => ?_)
      cases hv : v.ownBlock with
      | none => rw [hv] at hy; simp at hy
      | some k => rw [hv] at hy; simp at hy; subst hy; exact .inr (hown _ hv).1
  obtain ⟨A', cap', rfl⟩ := hApp.form
  exact h A' cap' w' hApp

end Go.Proofs.YtldpibnfhomfgaaGreatDoor
namespace Go.Proofs.YtldpibnfhomfgaaGreatDoor
open Go.RowKit

theorem OwnL.plainN (w : World) : ∀ us : List Value, OwnL w (us.map Dat.v) us []
  | [] => by simp [OwnL]
  | u :: us => by
    rw [List.map_cons, OwnL]
    exact ⟨u, us, [], [], rfl, rfl, by simp [Own], OwnL.plainN w us⟩
end Go.Proofs.YtldpibnfhomfgaaGreatDoor
namespace Go.Proofs.YtldpibnfhomfgaaGreatDoor
open Go.RowKit

/-- The slice v grows; beside it u reads as d, through blocks S that are not v's. -/
def AppK (w0 w : World) (e : TypeId) (size : Nat) (v : Value) (n : Nat) (ds : List Dat) (d : Dat) (u : Value) (S : List Nat) : Prop :=
  App w0 w e size v n ds ∧ Has w d u S ∧ ∀ k, v.ownBlock = some k → k ∉ S
theorem AppK.later {w0 w w' : World} {e : TypeId} {size n : Nat} {v : Value} {ds : List Dat} {d : Dat} {u : Value} {S : List Nat} (h : AppK w0 w e size v n ds d u S) (hc : Chg [] w w') : AppK w0 w' e size v n ds d u S :=
  ⟨h.1.later hc, h.2.1.keep0 hc, h.2.2⟩
/-- What is made behind the first world. -/
theorem AppK.start {w0 w w' : World} {e : TypeId} {size n : Nat} {v : Value} {ds : List Dat} {d : Dat} {u : Value} (h : App w0 w e size v n ds) (hn : New w w' d u) : ∃ S, AppK w0 w' e size v n ds d u S := by
  obtain ⟨S, h1, h2, h3⟩ := hn
  refine ⟨S, h.later h3, h1, fun k hk hkS => ?_⟩
  have := h2 k hkS
  obtain ⟨xs, S', o1, _⟩ := h
  have := o1.lt k hk
  omega
/-- 'out = append(out, x)', x made since the world wr; what else is owned stays. -/
theorem wpList_appK {P : Program} {w : World} {ops : Array Oper} {rest : List Oper} {o : Oper} {a : Act} {Q : Exit → Act → World → Prop} (hgd : o.guard = none) (s x : Operand) (t : TypeId)
    (ho : o.op = .call { callee := .builtin .append, args := #[s, x], argTypes := #[t, t] })
    (e : TypeId) (z : Value) (size bytes : Nat) (ht : P.underlying t = some (.slice e)) (hinfo : (P.info? e).map (fun i => (i.zero, i.size, i.bytes)) = some (some z, size, bytes)) (hzs : z.cells.size = size) (hsz : 0 < size)
    {w0 wr : World} {v : Value} {n : Nat} {ds dsE : List Dat} {us : List Value} {dk : Dat} {uk : Value} {Sk : List Nat} (hK : AppK w0 wr e size v n ds dk uk Sk) (hN : NewL wr w dsE us) (hs : a.eval s = v)
    (g c : Nat) (hx : a.eval x = .slice (some ⟨g, 0, none⟩) 1 c) (hl : us.length = size) (hnews : ∀ j u, us[j]? = some u → w.cell? ⟨g, j, none⟩ = some u) (h1 : ∀ u ∈ us, u.oneCell' = true)
    (h63 : n + 1 ≤ 1048577) (hb : bytes ≤ 65536)
    (h : ∀ A' cap' w', AppK w0 w' e size (.slice A' (n + 1) cap') (n + 1) (ds ++ dsE) dk uk Sk → wpList P ops Q rest (a.put o.dst (.slice A' (n + 1) cap')) w') : wpList P ops Q (o :: rest) a w := by
  obtain ⟨i, hi, hzz⟩ := Option.map_eq_some_iff.1 hinfo
  simp only [Prod.mk.injEq] at hzz
  obtain ⟨hz, hsi, hby⟩ := hzz
  obtain ⟨⟨xs, S', o1, o2, o3, o4, o5, o6⟩, hk1, hk2⟩ := hK
  obtain ⟨S2, n1, n2, n3⟩ := hN
  have hg0 : wr.grownBy w none := ⟨n3.os, n3.tape, n3.output, n3.size, fun k hk _ => n3.block k hk (by simp)⟩
  have own := o1.kept hg0 (by cases hv : v.ownBlock <;> simp)
  have hmul : (n + 1) * bytes ≤ 1048577 * 65536 := Nat.mul_le_mul h63 hb
  refine wpList_append_own_at w hgd s x t ho w0.heap.size e i z size bytes ht hi hz hsi hby hzs hsz v n xs hs own ⟨g, 0, none⟩ 1 c us hx (by rw [hl, Nat.one_mul]) (fun j u hj => by
    have hadd : (⟨g, 0, none⟩ : Addr).add j = ⟨g, j, none⟩ := by unfold Addr.add; split <;> simp_all
    rw [hadd]; exact hnews j u hj) h1 (by unfold maxLen; omega) (by omega) (Nat.le_trans o6.size n3.size) (fun v' w' p1 p2 _ p4 => ?_)
  have hown : ∀ k, v.ownBlock = some k → w0.heap.size ≤ k ∧ k < wr.heap.size := fun k hk => o1.lt k hk
  have hchg : Chg (match v.ownBlock with | some k => [k] | none => []) w w' := ⟨p2.os, p2.tape, p2.output, p2.size, fun k hk hn => p2.block k hk (fun e => by rw [← e] at hn; simp at hn)⟩
  have hdis : ∀ y, y ∈ S' ++ S2 → y ∉ (match v.ownBlock with | some k => [k] | none => []) := by
    intro y hy hyk
    cases hv : v.ownBlock with
    | none => rw [hv] at hyk; simp at hyk
    | some k =>
      rw [hv] at hyk
      simp at hyk
      subst hyk
      rcases List.mem_append.1 hy with hy | hy
      · exact o5 y hv hy
      · have := n2 y hy; have := (hown y hv).2; omega
  have hL : OwnL w' (ds ++ dsE) (xs ++ us) (S' ++ S2) := OwnL.keep hchg _ _ _ hdis (OwnL.append (OwnL.keep n3 ds xs S' (by simp) o2) n1.1)
  have hApp : App w0 w' e size v' (n + 1) (ds ++ dsE) := by
    refine ⟨xs ++ us, S' ++ S2, p1, hL, List.nodup_append.2 ⟨o3, n1.2, fun y hy y' hy' ee => ?_⟩, fun y hy => ?_, fun k hk hkS => ?_, ?_⟩
    · subst ee
      have := OwnL.lt _ _ _ o2 y hy; have := n2 y hy'; omega
    · rcases List.mem_append.1 hy with hy | hy
      · exact o4 y hy
      · have := n2 y hy; have := o6.size; omega
    · rcases p4 with p4 | p4
      · exact hdis k hkS (by rw [← p4, hk]; simp)
      · rw [p4] at hk
        injection hk with hk
        subst hk
        rcases List.mem_append.1 hkS with hy | hy
        · have := OwnL.lt _ _ _ o2 _ hy; have := n3.size; omega
        · have := n1.lt _ hy; omega
    · refine (o6.trans0 n3).trans hchg (fun y hy => ?_)
      cases hv : v.ownBlock with
      | none => rw [hv] at hy; simp at hy
      | some k => rw [hv] at hy; simp at hy; subst hy; exact .inr (hown _ hv).1
  have hKK : AppK w0 w' e size v' (n + 1) (ds ++ dsE) dk uk Sk := by
    refine ⟨hApp, (hk1.keep0 n3).keep hchg (fun x hx hx2 => ?_), fun k hk hkS => ?_⟩
    · cases hv : v.ownBlock with
      | none => rw [hv] at hx2; simp at hx2
      | some k =>
        rw [hv] at hx2
        simp at hx2
        subst hx2
        exact hk2 _ hv hx
    · rcases p4 with p4 | p4
      · rw [p4] at hk; exact hk2 k hk hkS
      · rw [p4] at hk
        injection hk with hk
        subst hk
        have := hk1.lt _ hkS; have := n3.size; omega
  obtain ⟨A', cap', rfl⟩ := hApp.form
  exact h A' cap' w' hKK

end Go.Proofs.YtldpibnfhomfgaaGreatDoor
