/- IsPlan of the program. Conditions: the library's variables stand. -/
import Derived.Test.YtkgffhlpcjjobaaGreatDoorIsActP
import Derived.Test.YtkgffhlpcjjobaaGreatDoorIsActs
namespace Go.Proofs.YtkgffhlpcjjobaaGreatDoor
open Go.RowKit

set_option maxRecDepth 100000 in
set_option maxHeartbeats 2000000 in
theorem isPlan_impl_any (l : List ActionT) (u : Value) (B : Nat) (w : World) (hE : Env w) (hW : actionsW l ≤ 1048576) (hr : Rd w B (actions l) u) (hB : B ≤ w.heap.size) :
    Calls Tryz.prog 12 #[u] w (BoolPost (PlanOk l) w) := by
  have PS := Lib.hid (planSize_impl_law l u B w hW hr hB)
  have PD := Lib.hid (fun W (hc : Chg [] w W) => planDepth_impl_law l u B W hW (hr.chg0 hc hB) (Nat.le_trans hB hc.size))
  have PA := Lib.hid (fun W (hc : Chg [] w W) => areActions_any l u B W (hE.keep hc) hW (hr.chg0 hc hB) (Nat.le_trans hB hc.size))
  obtain ⟨A, cap, rfl, _, _, _⟩ := actions_row hr
  clear hr hW hE
  go_enter Tryz.func12, Tryz.ntmps12
  go_wp2_with fail
  refine PS.out.mono ?_
  rintro e w1 ⟨rfl, c1⟩
  by_cases h1 : sizeL l ≤ 14
  · go_wp2_with fail
    refine (PD.out _ c1).mono ?_
    rintro e w2 ⟨rfl, c2⟩
    by_cases h2 : depthL l ≤ 3
    · go_wp2_with fail
      refine (PA.out _ (c1.trans0 c2)).mono ?_
      rintro e w3 ⟨t, rfl, ht, c3⟩
      have HT := Lib.hid ht
      clear ht
      go_wp2_with fail
      all_goals (go_ret; exact BoolPost.of (by unfold PlanOk; have := HT.out; simp [h1, h2, this]) ((c1.trans0 c2).trans0 c3))
    · go_wp2_with fail
      go_ret
      exact BoolPost.of ⟨fun h => by simp at h, fun h => absurd h.2.1 h2⟩ (c1.trans0 c2)
  · go_wp2_with fail
    go_ret
    exact BoolPost.of ⟨fun h => by simp at h, fun h => absurd h.1 h1⟩ c1
theorem isPlan_impl_law {w : World} (hE : Env w) (l : List ActionT) (u : Value) (B : Nat) (hW : actionsW l ≤ 1048576) (hr : Rd w B (actions l) u) (hB : B ≤ w.heap.size) :
    Calls Tryz.prog 12 #[u] w (BoolPost (PlanOk l) w) := isPlan_impl_any l u B w hE hW hr hB
end Go.Proofs.YtkgffhlpcjjobaaGreatDoor
