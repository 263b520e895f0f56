/- FnExactSameSlots: the walk of the law. Written by a program. -/
import Derived.Test.YtnkkpmdlcekhhaaSame
namespace Go.Proofs.Ytnkkpmdlcekhhaa
open Go.RowKit

set_option maxRecDepth 100000 in
set_option maxHeartbeats 2000000 in
theorem sameSlots_law (l : List SlotT) (m : List SlotT) (ul : Value) (um : Value) (B : Nat) (w : World) (hfl : FitL [slots l]) (rl_0 : Rd w B (slots l) ul) (hfm : FitL [slots m]) (rm_0 : Rd w B (slots m) um) (hB : B ≤ w.heap.size) :
    Calls Try.prog 7 #[ul, um] w fun e w' => e = .returned (.bool true) ∧ Chg [] w w' := by
  go_enter Try.func7, Try.ntmps7
  go_wp2_with fail
  refine (szSlotS_any l _ _ B _ (by omega) (by omega) hfl rl_0 (by omega)).mono ?_; rintro e w1 ⟨z1, rfl, L1, c1⟩
  have bd1 := L1.bd (by omega)
  have b1 := Chg.size (c1)
  have rl_1 := Rd.chg0 rl_0 (c1) (by omega)
  have rm_1 := Rd.chg0 rm_0 (c1) (by omega)
  have d1 : Chg [] w w1 := Chg.trans0 (Chg.refl [] w) c1
  go_wp2_with fail
  · go_ret
    exact ⟨rfl, d1⟩
  have hWl : slotsW l ≤ 1048576 ∧ (0 ≤ z1) := by simp only [Left] at L1; omega
  refine (szSlotS_any m _ _ B _ (by omega) (by omega) hfm rm_1 (by omega)).mono ?_; rintro e w2 ⟨z2, rfl, L2, c2⟩
  have bd2 := L2.bd (by omega)
  have b2 := Chg.size (c2)
  have rl_2 := Rd.chg0 rl_1 (c2) (by omega)
  have rm_2 := Rd.chg0 rm_1 (c2) (by omega)
  have d2 : Chg [] w w2 := Chg.trans0 (d1) c2
  go_wp2_with fail
  · go_ret
    exact ⟨rfl, d2⟩
  have hWm : slotsW m ≤ 1048576 ∧ (0 ≤ z2) := by simp only [Left] at L2; omega
  refine (toSlotS_any l _ B _ (by omega) rl_2 (by omega)).mono ?_; intro e w3 G3; obtain ⟨A3, cap3, rfl, n3⟩ := G3.sl
  have b3 := Chg.size (n3.chg)
  have rl_3 := Rd.chg0 rl_2 (n3.chg) (by omega)
  have rm_3 := Rd.chg0 rm_2 (n3.chg) (by omega)
  have sl_3 := n3.rd
  have d3 : Chg [] w w3 := Chg.trans0 (d2) n3.chg
  go_wp2_with fail
  refine (toSlotS_any m _ B _ (by omega) rm_3 (by omega)).mono ?_; intro e w4 G4; obtain ⟨A4, cap4, rfl, n4⟩ := G4.sl
  have b4 := Chg.size (n4.chg)
  have rl_4 := Rd.chg0 rl_3 (n4.chg) (by omega)
  have rm_4 := Rd.chg0 rm_3 (n4.chg) (by omega)
  have sl_4 := Rd.chg0 sl_3 (n4.chg) (by omega)
  have sm_4 := n4.rd
  have d4 : Chg [] w w4 := Chg.trans0 (d3) n4.chg
  go_wp2_with fail
  refine (sameSlots_spec_any l m _ _ _ _ _   sl_4 sm_4 (by omega) (by omega)).mono ?_; rintro e w5 ⟨t5, rfl, ht5, c5⟩
  have b5 := Chg.size (c5)
  have rl_5 := Rd.chg0 rl_4 (c5) (by omega)
  have rm_5 := Rd.chg0 rm_4 (c5) (by omega)
  have sl_5 := Rd.chg0 sl_4 (c5) (by omega)
  have sm_5 := Rd.chg0 sm_4 (c5) (by omega)
  have d5 : Chg [] w w5 := Chg.trans0 (d4) (c5)
  go_wp2_with fail
  refine (toSlotS_any l _ B _ (by omega) rl_5 (by omega)).mono ?_; intro e w6 G6; obtain ⟨A6, cap6, rfl, n6⟩ := G6.sl
  have b6 := Chg.size (n6.chg)
  have rl_6 := Rd.chg0 rl_5 (n6.chg) (by omega)
  have rm_6 := Rd.chg0 rm_5 (n6.chg) (by omega)
  have xl_6 := n6.rd
  have d6 : Chg [] w w6 := Chg.trans0 (d5) n6.chg
  go_wp2_with fail
  refine (toSlotS_any m _ B _ (by omega) rm_6 (by omega)).mono ?_; intro e w7 G7; obtain ⟨A7, cap7, rfl, n7⟩ := G7.sl
  have b7 := Chg.size (n7.chg)
  have rl_7 := Rd.chg0 rl_6 (n7.chg) (by omega)
  have rm_7 := Rd.chg0 rm_6 (n7.chg) (by omega)
  have xl_7 := Rd.chg0 xl_6 (n7.chg) (by omega)
  have xm_7 := n7.rd
  have d7 : Chg [] w w7 := Chg.trans0 (d6) n7.chg
  go_wp2_with fail
  refine (sameSlots_impl_any l m _ _ _ _ _   xl_7 xm_7 (by omega) (by omega)).mono ?_; rintro e w8 ⟨t8, rfl, ht8, c8⟩
  have b8 := Chg.size (c8)
  have rl_8 := Rd.chg0 rl_7 (c8) (by omega)
  have rm_8 := Rd.chg0 rm_7 (c8) (by omega)
  have xl_8 := Rd.chg0 xl_7 (c8) (by omega)
  have xm_8 := Rd.chg0 xm_7 (c8) (by omega)
  have d8 : Chg [] w w8 := Chg.trans0 (d7) (c8)
  obtain rfl : t8 = t5 := Bool.eq_iff_iff.2 (ht8.trans ht5.symm)
  go_wp2_with fail
  refine (toSlotS_any l _ B _ (by omega) rl_8 (by omega)).mono ?_; intro e w9 G9; obtain ⟨A9, cap9, rfl, n9⟩ := G9.sl
  have b9 := Chg.size (n9.chg)
  have rl_9 := Rd.chg0 rl_8 (n9.chg) (by omega)
  have rm_9 := Rd.chg0 rm_8 (n9.chg) (by omega)
  have xl_9 := Rd.chg0 xl_8 (n9.chg) (by omega)
  have xm_9 := Rd.chg0 xm_8 (n9.chg) (by omega)
  have yl_9 := n9.rd
  have d9 : Chg [] w w9 := Chg.trans0 (d8) n9.chg
  go_wp2_with fail
  refine (eqSlotS_same l _ _ _ _ _ xl_9 yl_9 (by omega) (by omega)).mono ?_; rintro e w10 ⟨rfl, c10⟩
  have b10 := Chg.size (c10)
  have rl_10 := Rd.chg0 rl_9 (c10) (by omega)
  have rm_10 := Rd.chg0 rm_9 (c10) (by omega)
  have xl_10 := Rd.chg0 xl_9 (c10) (by omega)
  have xm_10 := Rd.chg0 xm_9 (c10) (by omega)
  have yl_10 := Rd.chg0 yl_9 (c10) (by omega)
  have d10 : Chg [] w w10 := Chg.trans0 (d9) c10
  go_wp2_with fail
  refine (toSlotS_any m _ B _ (by omega) rm_10 (by omega)).mono ?_; intro e w11 G11; obtain ⟨A11, cap11, rfl, n11⟩ := G11.sl
  have b11 := Chg.size (n11.chg)
  have rl_11 := Rd.chg0 rl_10 (n11.chg) (by omega)
  have rm_11 := Rd.chg0 rm_10 (n11.chg) (by omega)
  have xl_11 := Rd.chg0 xl_10 (n11.chg) (by omega)
  have xm_11 := Rd.chg0 xm_10 (n11.chg) (by omega)
  have ym_11 := n11.rd
  have d11 : Chg [] w w11 := Chg.trans0 (d10) n11.chg
  go_wp2_with fail
  refine (eqSlotS_same m _ _ _ _ _ xm_11 ym_11 (by omega) (by omega)).mono ?_; rintro e w12 ⟨rfl, c12⟩
  have b12 := Chg.size (c12)
  have rl_12 := Rd.chg0 rl_11 (c12) (by omega)
  have rm_12 := Rd.chg0 rm_11 (c12) (by omega)
  have xl_12 := Rd.chg0 xl_11 (c12) (by omega)
  have xm_12 := Rd.chg0 xm_11 (c12) (by omega)
  have ym_12 := Rd.chg0 ym_11 (c12) (by omega)
  have d12 : Chg [] w w12 := Chg.trans0 (d11) c12
  go_wp2_with fail
  go_ret
  exact ⟨rfl, d12⟩
end Go.Proofs.Ytnkkpmdlcekhhaa
