/- FnExactIsPlainPlan: the walk of the law. Conditions: the library's variables stand. Written by a program. -/
import Derived.Test.YtgnggiibhkphjaaGreatDoorPlainOk
namespace Go.Proofs.YtgnggiibhkphjaaGreatDoor
open Go.RowKit

set_option maxRecDepth 100000 in
set_option maxHeartbeats 2000000 in
theorem isPlainPlan_law (l : List ActionT) (ul : Value) (B : Nat) (w : World) (hfl : FitL [actions l]) (rl_0 : Rd w B (actions l) ul) (hB : B ≤ w.heap.size) (hE : Env w) :
    Calls Tryz.prog 4 #[ul] w fun e w' => e = .returned (.bool true) ∧ Chg [] w w' := by
  have EH := Lib.hid (fun W (hc : Chg [] w W) => hE.keep hc)
  clear hE
  go_enter Tryz.func4, Tryz.ntmps4
  go_wp2_with fail
  refine (szActionS_any l _ _ B _ (by omega) (by omega) hfl rl_0 (by omega)).mono ?_; rintro e w1 ⟨z1, rfl, L1, c1⟩
  have bd1 := L1.bd (by omega)
  have b1 := Chg.size (c1)
  have rl_1 := Rd.chg0 rl_0 (c1) (by omega)
  have d1 : Chg [] w w1 := Chg.trans0 (Chg.refl [] w) c1
  go_wp2_with fail
  · go_ret
    exact ⟨rfl, d1⟩
  have hWl : actionsW l ≤ 1048576 ∧ (0 ≤ z1) := by simp only [Left] at L1; omega
  refine (toActionS_any l _ B _ (by omega) rl_1 (by omega)).mono ?_; intro e w2 G2; obtain ⟨A2, cap2, rfl, n2⟩ := G2.sl
  have b2 := Chg.size (n2.chg)
  have rl_2 := Rd.chg0 rl_1 (n2.chg) (by omega)
  have sl_2 := n2.rd
  have d2 : Chg [] w w2 := Chg.trans0 (d1) n2.chg
  go_wp2_with fail
  refine (isPlainPlan_spec_law l _ _ _ hWl.1  sl_2 (by omega)).mono ?_; rintro e w3 ⟨t3, rfl, ht3, c3⟩
  have b3 := Chg.size (c3)
  have rl_3 := Rd.chg0 rl_2 (c3) (by omega)
  have sl_3 := Rd.chg0 sl_2 (c3) (by omega)
  have d3 : Chg [] w w3 := Chg.trans0 (d2) (c3)
  go_wp2_with fail
  refine (toActionS_any l _ B _ (by omega) rl_3 (by omega)).mono ?_; intro e w4 G4; obtain ⟨A4, cap4, rfl, n4⟩ := G4.sl
  have b4 := Chg.size (n4.chg)
  have rl_4 := Rd.chg0 rl_3 (n4.chg) (by omega)
  have xl_4 := n4.rd
  have d4 : Chg [] w w4 := Chg.trans0 (d3) n4.chg
  go_wp2_with fail
  refine (isPlainPlan_impl_law (EH.out _ (d4)) l _ _ hWl.1  xl_4 (by omega)).mono ?_; rintro e w5 ⟨t5, rfl, ht5, c5⟩
  have b5 := Chg.size (c5)
  have rl_5 := Rd.chg0 rl_4 (c5) (by omega)
  have xl_5 := Rd.chg0 xl_4 (c5) (by omega)
  have d5 : Chg [] w w5 := Chg.trans0 (d4) (c5)
  obtain rfl : t5 = t3 := Bool.eq_iff_iff.2 (ht5.trans ht3.symm)
  go_wp2_with fail
  refine (toActionS_any l _ B _ (by omega) rl_5 (by omega)).mono ?_; intro e w6 G6; obtain ⟨A6, cap6, rfl, n6⟩ := G6.sl
  have b6 := Chg.size (n6.chg)
  have rl_6 := Rd.chg0 rl_5 (n6.chg) (by omega)
  have xl_6 := Rd.chg0 xl_5 (n6.chg) (by omega)
  have yl_6 := n6.rd
  have d6 : Chg [] w w6 := Chg.trans0 (d5) n6.chg
  go_wp2_with fail
  refine (eqActionS_same l _ _ _ _ _ xl_6 yl_6 (by omega) (by omega)).mono ?_; rintro e w7 ⟨rfl, c7⟩
  have b7 := Chg.size (c7)
  have rl_7 := Rd.chg0 rl_6 (c7) (by omega)
  have xl_7 := Rd.chg0 xl_6 (c7) (by omega)
  have yl_7 := Rd.chg0 yl_6 (c7) (by omega)
  have d7 : Chg [] w w7 := Chg.trans0 (d6) c7
  go_wp2_with fail
  go_ret
  exact ⟨rfl, d7⟩
end Go.Proofs.YtgnggiibhkphjaaGreatDoor
