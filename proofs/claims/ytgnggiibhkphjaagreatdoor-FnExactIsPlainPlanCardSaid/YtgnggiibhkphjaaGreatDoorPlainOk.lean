/- Plans without some kinds of actions: without, IsPlainPlan of both packages. Conditions: for the program's IsPlainPlan, the library's variables stand. Written by a program. -/
import Derived.Test.YtgnggiibhkphjaaGreatDoorPlanOk
namespace Go.Proofs.YtgnggiibhkphjaaGreatDoor
open Go.RowKit

mutual
/-- No action of two kinds, at any depth. -/
def ActionT.no (p q : Int) : ActionT → Prop
  | .mk op _ _ _ _ _ A B => (op ≠ p ∧ op ≠ q) ∧ noL p q A ∧ noL p q B
def noL (p q : Int) : List ActionT → Prop
  | [] => True
  | a :: l => a.no p q ∧ noL p q l
end
theorem ActionT.no_iff (p q : Int) (a : ActionT) : a.no p q ↔ (a.op ≠ p ∧ a.op ≠ q) ∧ noL p q a.A ∧ noL p q a.B := by
  cases a; rw [ActionT.no]; rfl
theorem noL_iff (p q : Int) : ∀ l : List ActionT, noL p q l ↔ ∀ a ∈ l, a.no p q
  | [] => by simp [noL]
  | a :: l => by rw [noL, noL_iff p q l]; simp
/-- A plain plan. -/
def PlainOk (l : List ActionT) : Prop := PlanOk l ∧ noL 10 3 l
def Without_spec (p q : Int) (l : List ActionT) : Prop := ∀ (u : Value) (B : Nat) (w : World), Rd w B (actions l) u → B ≤ w.heap.size →
  Calls Tryz.prog 24 #[u, .int .i64 p, .int .i64 q] w (BoolPost (noL p q l) w)
set_option maxRecDepth 100000 in
set_option maxHeartbeats 4000000 in
theorem without_spec_any (p q : Int) : ∀ l, Without_spec p q l := by
  refine ActionT.ind fun l ih => ?_
  intro u B w hr hB
  obtain ⟨A, cap, rfl, h0, h1, hrow⟩ := actions_row hr
  unfold maxLen at h1
  have IH := Lib.hid ih
  have HO := Lib.hid (noL_iff p q l)
  clear ih hr
  go_enter Tryz.func24, Tryz.ntmps24
  go_wp2_with fail
  go_loopw [11] (fun i wr => ∃ k : Nat, k ≤ l.length ∧ i = .int .i64 k ∧ Hid (∀ (j : Nat) (h : j < l.length), j < k → l[j].no p q) ∧ Chg [] w wr) (fun i _ => l.length - (intOf i).toNat)
  case atStart => exact ⟨0, Nat.zero_le _, rfl, fun j h h0 => absurd h0 (Nat.not_lt_zero _), Chg.refl _ _⟩
  case round =>
    obtain ⟨k, hk, rfl, HN, hc⟩ := hrel
    by_cases hlt : k < l.length
    · obtain ⟨b, off, uA, uB, rfl, hb, q0, q1, q2, q3, q4, q5, q6, q7, q8, q9, q10, rA, rB⟩ := actions_cells (hrow.chg0 hc hB) k hlt
      obtain ⟨A1, cap1, rfl, _, _, _⟩ := actions_row rA
      obtain ⟨A2, cap2, rfl, _, _, _⟩ := actions_row rB
      have hmem := List.getElem_mem hlt
      have hcs := hc.size
      have HOK := Lib.hid (l[k].no_iff p q)
      have IA := Lib.hid (fun W (hW : Chg [] wr W) => (IH.out _ hmem).1 _ B W (rA.chg0 hW (by omega)) (by have := hW.size; omega))
      have IB := Lib.hid (fun W (hW : Chg [] wr W) => (IH.out _ hmem).2 _ B W (rB.chg0 hW (by omega)) (by have := hW.size; omega))
      cases e1 : (l[k].op == p)
      · cases e2 : (l[k].op == q)
        · have E1 := Lib.hid (beq_eq_false_iff_ne.1 e1)
          have E2 := Lib.hid (beq_eq_false_iff_ne.1 e2)
          go_wp2_with fail
          refine (IA.out _ ((Chg.refl _ _).alloc _)).mono ?_
          rintro e w2 ⟨t, rfl, ht, c2⟩
          have f10 : w2.cell? ⟨wr.heap.size, 10, none⟩ = some (.slice A2 l[k].B.length cap2) := (c2.cell (p := ⟨wr.heap.size, 10, none⟩) (by simp) (by simp)).trans (by go_simp)
          have HT2 := Lib.hid ht
          have d2 : Chg [] wr w2 := ((Chg.refl _ _).alloc _).trans0 c2
          clear ht c2
          cases t
          · go_wp2_with fail
            go_ret
            exact BoolPost.of ⟨fun h => by simp at h, fun h => by have := HT2.out.2 (HOK.out.1 (HO.out.1 h _ hmem)).2.1; simp at this⟩ (hc.trans0 d2)
          · go_wp2_with fail
            refine (IB.out _ d2).mono ?_
            rintro e w3 ⟨t, rfl, ht, c3⟩
            have HT3 := Lib.hid ht
            have d3 : Chg [] wr w3 := d2.trans0 c3
            clear ht c3
            cases t
            · go_wp2_with fail
              go_ret
              exact BoolPost.of ⟨fun h => by simp at h, fun h => by have := HT3.out.2 (HOK.out.1 (HO.out.1 h _ hmem)).2.2; simp at this⟩ (hc.trans0 d3)
            · go_wp2_with fail
              go_roundw
              case rel => exact ⟨k + 1, by omega, by go_num, Lib.hid (fun j h hj => (Nat.lt_succ_iff_lt_or_eq.1 hj).elim (HN.out j h) (fun e => by subst e; exact HOK.out.2 ⟨⟨E1.out, E2.out⟩, HT2.out.1 (by simp), HT3.out.1 (by simp)⟩)), hc.trans0 d3⟩
              case measure => simp [intOf]; omega
        · have E2 := Lib.hid (beq_iff_eq.1 e2)
          go_wp2_with fail
          go_ret
          exact BoolPost.of ⟨fun h => by simp at h, fun h => absurd E2.out (HOK.out.1 (HO.out.1 h _ hmem)).1.2⟩ (hc.trans0 ((Chg.refl _ _).alloc _))
      · have E1 := Lib.hid (beq_iff_eq.1 e1)
        go_wp2_with fail
        go_ret
        exact BoolPost.of ⟨fun h => by simp at h, fun h => absurd E1.out (HOK.out.1 (HO.out.1 h _ hmem)).1.1⟩ (hc.trans0 ((Chg.refl _ _).alloc _))
    · obtain rfl : k = l.length := by omega
      go_wp2_with fail
      go_ret
      refine BoolPost.of ⟨fun _ => HO.out.2 fun a ha => ?_, fun _ => rfl⟩ hc
      obtain ⟨j, hj, rfl⟩ := List.getElem_of_mem ha
      exact HN.out j hj hj
def Without_impl (p q : Int) (l : List ActionT) : Prop := ∀ (u : Value) (B : Nat) (w : World), Rd w B (actions l) u → B ≤ w.heap.size →
  Calls Tryz.prog 25 #[u, .int .i64 p, .int .i64 q] w (BoolPost (noL p q l) w)
set_option maxRecDepth 100000 in
set_option maxHeartbeats 4000000 in
theorem without_impl_any (p q : Int) : ∀ l, Without_impl p q l := by
  refine ActionT.ind fun l ih => ?_
  intro u B w hr hB
  obtain ⟨A, cap, rfl, h0, h1, hrow⟩ := actions_row hr
  unfold maxLen at h1
  have IH := Lib.hid ih
  have HO := Lib.hid (noL_iff p q l)
  clear ih hr
  go_enter Tryz.func25, Tryz.ntmps25
  go_wp2_with fail
  go_loopw [11] (fun i wr => ∃ k : Nat, k ≤ l.length ∧ i = .int .i64 k ∧ Hid (∀ (j : Nat) (h : j < l.length), j < k → l[j].no p q) ∧ Chg [] w wr) (fun i _ => l.length - (intOf i).toNat)
  case atStart => exact ⟨0, Nat.zero_le _, rfl, fun j h h0 => absurd h0 (Nat.not_lt_zero _), Chg.refl _ _⟩
  case round =>
    obtain ⟨k, hk, rfl, HN, hc⟩ := hrel
    by_cases hlt : k < l.length
    · obtain ⟨b, off, uA, uB, rfl, hb, q0, q1, q2, q3, q4, q5, q6, q7, q8, q9, q10, rA, rB⟩ := actions_cells (hrow.chg0 hc hB) k hlt
      obtain ⟨A1, cap1, rfl, _, _, _⟩ := actions_row rA
      obtain ⟨A2, cap2, rfl, _, _, _⟩ := actions_row rB
      have hmem := List.getElem_mem hlt
      have hcs := hc.size
      have HOK := Lib.hid (l[k].no_iff p q)
      have IA := Lib.hid (fun W (hW : Chg [] wr W) => (IH.out _ hmem).1 _ B W (rA.chg0 hW (by omega)) (by have := hW.size; omega))
      have IB := Lib.hid (fun W (hW : Chg [] wr W) => (IH.out _ hmem).2 _ B W (rB.chg0 hW (by omega)) (by have := hW.size; omega))
      cases e1 : (l[k].op == p)
      · cases e2 : (l[k].op == q)
        · have E1 := Lib.hid (beq_eq_false_iff_ne.1 e1)
          have E2 := Lib.hid (beq_eq_false_iff_ne.1 e2)
          go_wp2_with fail
          refine (IA.out _ ((Chg.refl _ _).alloc _)).mono ?_
          rintro e w2 ⟨t, rfl, ht, c2⟩
          have f10 : w2.cell? ⟨wr.heap.size, 10, none⟩ = some (.slice A2 l[k].B.length cap2) := (c2.cell (p := ⟨wr.heap.size, 10, none⟩) (by simp) (by simp)).trans (by go_simp)
          have HT2 := Lib.hid ht
          have d2 : Chg [] wr w2 := ((Chg.refl _ _).alloc _).trans0 c2
          clear ht c2
          cases t
          · go_wp2_with fail
            go_ret
            exact BoolPost.of ⟨fun h => by simp at h, fun h => by have := HT2.out.2 (HOK.out.1 (HO.out.1 h _ hmem)).2.1; simp at this⟩ (hc.trans0 d2)
          · go_wp2_with fail
            refine (IB.out _ d2).mono ?_
            rintro e w3 ⟨t, rfl, ht, c3⟩
            have HT3 := Lib.hid ht
            have d3 : Chg [] wr w3 := d2.trans0 c3
            clear ht c3
            cases t
            · go_wp2_with fail
              go_ret
              exact BoolPost.of ⟨fun h => by simp at h, fun h => by have := HT3.out.2 (HOK.out.1 (HO.out.1 h _ hmem)).2.2; simp at this⟩ (hc.trans0 d3)
            · go_wp2_with fail
              go_roundw
              case rel => exact ⟨k + 1, by omega, by go_num, Lib.hid (fun j h hj => (Nat.lt_succ_iff_lt_or_eq.1 hj).elim (HN.out j h) (fun e => by subst e; exact HOK.out.2 ⟨⟨E1.out, E2.out⟩, HT2.out.1 (by simp), HT3.out.1 (by simp)⟩)), hc.trans0 d3⟩
              case measure => simp [intOf]; omega
        · have E2 := Lib.hid (beq_iff_eq.1 e2)
          go_wp2_with fail
          go_ret
          exact BoolPost.of ⟨fun h => by simp at h, fun h => absurd E2.out (HOK.out.1 (HO.out.1 h _ hmem)).1.2⟩ (hc.trans0 ((Chg.refl _ _).alloc _))
      · have E1 := Lib.hid (beq_iff_eq.1 e1)
        go_wp2_with fail
        go_ret
        exact BoolPost.of ⟨fun h => by simp at h, fun h => absurd E1.out (HOK.out.1 (HO.out.1 h _ hmem)).1.1⟩ (hc.trans0 ((Chg.refl _ _).alloc _))
    · obtain rfl : k = l.length := by omega
      go_wp2_with fail
      go_ret
      refine BoolPost.of ⟨fun _ => HO.out.2 fun a ha => ?_, fun _ => rfl⟩ hc
      obtain ⟨j, hj, rfl⟩ := List.getElem_of_mem ha
      exact HN.out j hj hj
set_option maxRecDepth 100000 in
set_option maxHeartbeats 2000000 in
theorem isPlainPlan_spec_any (l : List ActionT) (u : Value) (B : Nat) (w : World) (hW : actionsW l ≤ 1048576) (hr : Rd w B (actions l) u) (hB : B ≤ w.heap.size) :
    Calls Tryz.prog 11 #[u] w (BoolPost (PlainOk l) w) := by
  have PP := Lib.hid (isPlan_spec_law l u B w hW hr hB)
  have WO := Lib.hid (fun W (hc : Chg [] w W) => without_spec_any 10 3 l u B W (hr.chg0 hc hB) (Nat.le_trans hB hc.size))
  obtain ⟨A, cap, rfl, _, _, _⟩ := actions_row hr
  clear hr
  go_enter Tryz.func11, Tryz.ntmps11
  go_wp2_with fail
  refine PP.out.mono ?_
  rintro e w1 ⟨t, rfl, ht, c1⟩
  have HT := Lib.hid ht
  clear ht
  cases t
  · go_wp2_with fail
    go_ret
    exact BoolPost.of ⟨fun h => by simp at h, fun h => by have := HT.out.2 h.1; simp at this⟩ c1
  · go_wp2_with fail
    refine (WO.out _ c1).mono ?_
    rintro e w2 ⟨t, rfl, ht, c2⟩
    have HT2 := Lib.hid ht
    clear ht
    go_wp2_with fail
    go_ret
    exact BoolPost.of ⟨fun h => ⟨HT.out.1 (by simp), HT2.out.1 h⟩, fun h => HT2.out.2 h.2⟩ (c1.trans0 c2)
set_option maxRecDepth 100000 in
set_option maxHeartbeats 2000000 in
theorem isPlainPlan_impl_any (l : List ActionT) (u : Value) (B : Nat) (w : World) (hE : Env w) (hW : actionsW l ≤ 1048576) (hr : Rd w B (actions l) u) (hB : B ≤ w.heap.size) :
    Calls Tryz.prog 12 #[u] w (BoolPost (PlainOk l) w) := by
  have PP := Lib.hid (isPlan_impl_any l u B w hE hW hr hB)
  have WO := Lib.hid (fun W (hc : Chg [] w W) => without_impl_any 10 3 l u B W (hr.chg0 hc hB) (Nat.le_trans hB hc.size))
  obtain ⟨A, cap, rfl, _, _, _⟩ := actions_row hr
  clear hr
  go_enter Tryz.func12, Tryz.ntmps12
  go_wp2_with fail
  refine PP.out.mono ?_
  rintro e w1 ⟨t, rfl, ht, c1⟩
  have HT := Lib.hid ht
  clear ht
  cases t
  · go_wp2_with fail
    go_ret
    exact BoolPost.of ⟨fun h => by simp at h, fun h => by have := HT.out.2 h.1; simp at this⟩ c1
  · go_wp2_with fail
    refine (WO.out _ c1).mono ?_
    rintro e w2 ⟨t, rfl, ht, c2⟩
    have HT2 := Lib.hid ht
    clear ht
    go_wp2_with fail
    go_ret
    exact BoolPost.of ⟨fun h => ⟨HT.out.1 (by simp), HT2.out.1 h⟩, fun h => HT2.out.2 h.2⟩ (c1.trans0 c2)
theorem isPlainPlan_spec_law (l : List ActionT) (u : Value) (B : Nat) (w : World) (hW : actionsW l ≤ 1048576) (hr : Rd w B (actions l) u) (hB : B ≤ w.heap.size) :
    Calls Tryz.prog 11 #[u] w (BoolPost (PlainOk l) w) := isPlainPlan_spec_any l u B w hW hr hB
theorem isPlainPlan_impl_law {w : World} (hE : Env w) (l : List ActionT) (u : Value) (B : Nat) (hW : actionsW l ≤ 1048576) (hr : Rd w B (actions l) u) (hB : B ≤ w.heap.size) :
    Calls Tryz.prog 12 #[u] w (BoolPost (PlainOk l) w) := isPlainPlan_impl_any l u B w hE hW hr hB
end Go.Proofs.YtgnggiibhkphjaaGreatDoor
