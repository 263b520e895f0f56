/- The walk of the law on CompareInputs: it returns true. Conditions: none beyond that the arguments read as lists. -/
import Derived.Test.YtnkkpmdlcekhhaaInts
namespace Go.Proofs.Ytnkkpmdlcekhhaa
open Go.RowKit

set_option maxHeartbeats 400000 in
theorem compareInputs_law (l m : List Int) (u v : Value) (B : Nat) (w : World) (hr : Rd w B (ints l) u) (hs : Rd w B (ints m) v) (hB : B ≤ w.heap.size) :
    Calls Try.prog 3 #[u, v] w fun e w' => e = .returned (.bool true) ∧ Chg [] w w' := by
  obtain ⟨A, cap, rfl, h0, h1, _⟩ := ints_row hr
  obtain ⟨A', cap', rfl, h0', h1', _⟩ := ints_row hs
  unfold maxLen at h1 h1'
  by_cases c1 : 1048576 < l.length
  · go_enter Try.func3, Try.ntmps3
    go_wp2_with fail
    go_ret
    exact ⟨rfl, Chg.refl _ _⟩
  · by_cases c2 : 1048576 < m.length
    · go_enter Try.func3, Try.ntmps3
      go_wp2_with fail
      go_ret
      exact ⟨rfl, Chg.refl _ _⟩
    · go_enter Try.func3, Try.ntmps3
      go_wp2_with fail
      refine (toIntS_any l _ B _ hr hB (by omega)).mono ?_; rintro e w1 ⟨x1, rfl, n1⟩
      have hr1 := hr.chg0 n1.chg hB; have hs1 := hs.chg0 n1.chg hB
      have b1 := n1.chg.size
      go_wp2_with fail
      refine (toIntS_any m _ B _ hs1 (by omega) (by omega)).mono ?_; rintro e w2 ⟨x2, rfl, n2⟩
      have hr2 := hr1.chg0 n2.chg (by omega); have hs2 := hs1.chg0 n2.chg (by omega)
      have b2 := n2.chg.size
      go_wp2_with fail
      refine (compareInputs_spec_any l m _ _ _ _ _ (n1.rd.chg0 n2.chg (Nat.le_refl _)) n2.rd (by omega) (Nat.le_refl _)).mono ?_; rintro e w3 ⟨rfl, c3⟩
      have hr3 := hr2.chg0 c3 (by omega); have hs3 := hs2.chg0 c3 (by omega)
      have b3 := c3.size
      go_wp2_with fail
      refine (toIntS_any l _ B _ hr3 (by omega) (by omega)).mono ?_; rintro e w4 ⟨x4, rfl, n4⟩
      have hr4 := hr3.chg0 n4.chg (by omega); have hs4 := hs3.chg0 n4.chg (by omega)
      have b4 := n4.chg.size
      go_wp2_with fail
      refine (toIntS_any m _ B _ hs4 (by omega) (by omega)).mono ?_; rintro e w5 ⟨x5, rfl, n5⟩
      have hr5 := hr4.chg0 n5.chg (by omega); have hs5 := hs4.chg0 n5.chg (by omega)
      have b5 := n5.chg.size
      have x4r := n4.rd.chg0 n5.chg (Nat.le_refl _)
      go_wp2_with fail
      refine (compareInputs_impl_any l m _ _ _ _ _ x4r n5.rd (by omega) (Nat.le_refl _)).mono ?_; rintro e w6 ⟨rfl, c6⟩
      have hr6 := hr5.chg0 c6 (by omega); have hs6 := hs5.chg0 c6 (by omega)
      have b6 := c6.size
      have x4s := x4r.chg0 c6 (by omega)
      have x5s := n5.rd.chg0 c6 (by omega)
      go_wp2_with fail
      refine (toIntS_any l _ B _ hr6 (by omega) (by omega)).mono ?_; rintro e w7 ⟨x7, rfl, n7⟩
      have b7 := n7.chg.size
      go_wp2_with fail
      refine (eqIntS_same l _ _ _ _ _ (x4s.chg0 n7.chg (by omega)) n7.rd (by omega) (Nat.le_refl _)).mono ?_; rintro e w8 ⟨rfl, c8⟩
      have hs8 := (hs6.chg0 n7.chg (by omega)).chg0 c8 (by omega)
      have b8 := c8.size
      go_wp2_with fail
      refine (toIntS_any m _ B _ hs8 (by omega) (by omega)).mono ?_; rintro e w9 ⟨x9, rfl, n9⟩
      have b9 := n9.chg.size
      go_wp2_with fail
      refine (eqIntS_same m _ _ _ _ _ (((x5s.chg0 n7.chg (by omega)).chg0 c8 (by omega)).chg0 n9.chg (by omega)) n9.rd (by omega) (Nat.le_refl _)).mono ?_; rintro e w10 ⟨rfl, c10⟩
      go_wp2_with fail
      go_ret
      exact ⟨rfl, ((((((((n1.chg.trans0 n2.chg).trans0 c3).trans0 n4.chg).trans0 n5.chg).trans0 c6).trans0 n7.chg).trans0 c8).trans0 n9.chg).trans0 c10⟩

end Go.Proofs.Ytnkkpmdlcekhhaa
