/- FnExactEndLine: the walk of the law. Conditions: the table of powers of ten and the names of the abilities stand in their variables. -/
import Derived.Test.YtapmknkelihacaaDoorEndLine
namespace Go.Proofs.YtapmknkelihacaaDoor
open Go.RowKit

set_option maxRecDepth 100000 in
set_option maxHeartbeats 4000000 in
theorem endLine_law (c0 c1 c2 c3 : Int) (l : List SlotT) (ul : Value) (B : Nat) (w : World) (hi0 : -9223372036854775808 ≤ c1) (hi1 : c1 ≤ 9223372036854775807) (hfl : FitL [slots l]) (rl_0 : Rd w B (slots l) ul) (hB : B ≤ w.heap.size) (hp : PowAt w) (ha : AbilAt w) :
    Calls Tryd.prog 4 #[.agg #[.int .i64 c0, .int .i64 c1, .int .i64 c2, .int .i64 c3], ul] w fun e w' => e = .returned (.bool true) ∧ Chg [] w w' := by
  go_enter Tryd.func4, Tryd.ntmps4
  go_wp2_with fail
  obtain ⟨wb, hwb⟩ : ∃ wb, wb = w.alloc (.cells #[.int .i64 c0, .int .i64 c1, .int .i64 c2, .int .i64 c3] 28) := ⟨_, rfl⟩
  have db : Chg [] w wb := hwb ▸ (Chg.refl [] w).alloc _
  have sb : w.heap.size < wb.heap.size := by rw [hwb]; simp
  have v0 : wb.cell? ⟨w.heap.size, 0, none⟩ = some (.int .i64 c0) := by rw [hwb]; go_simp
  have v1 : wb.cell? ⟨w.heap.size, 1, none⟩ = some (.int .i64 c1) := by rw [hwb]; go_simp
  have v2 : wb.cell? ⟨w.heap.size, 2, none⟩ = some (.int .i64 c2) := by rw [hwb]; go_simp
  have v3 : wb.cell? ⟨w.heap.size, 3, none⟩ = some (.int .i64 c3) := by rw [hwb]; go_simp
  have BX : Hid (∀ W, Chg [] wb W → W.cell? ⟨w.heap.size, 0, none⟩ = some (.int .i64 c0) ∧ W.cell? ⟨w.heap.size, 1, none⟩ = some (.int .i64 c1) ∧ W.cell? ⟨w.heap.size, 2, none⟩ = some (.int .i64 c2) ∧ W.cell? ⟨w.heap.size, 3, none⟩ = some (.int .i64 c3)) := fun W hc =>
    ⟨(hc.cell (p := ⟨w.heap.size, 0, none⟩) sb (by simp)).trans v0, (hc.cell (p := ⟨w.heap.size, 1, none⟩) sb (by simp)).trans v1, (hc.cell (p := ⟨w.heap.size, 2, none⟩) sb (by simp)).trans v2, (hc.cell (p := ⟨w.heap.size, 3, none⟩) sb (by simp)).trans v3⟩
  rw [← hwb]
  clear hwb v0 v1 v2 v3
  have rl_b := Rd.chg0 rl_0 db hB
  have hB' : B ≤ wb.heap.size := by omega
  have PP := Lib.hid (fun W (hc : Chg [] w W) => hp.keep hc)
  have AA := Lib.hid (fun W (hc : Chg [] w W) => ha.keep hc)
  clear hp ha
  refine (szSlotS_any l _ _ B _ (by omega) (by omega) hfl rl_b (by omega)).mono ?_; rintro e w1 ⟨z1, rfl, L1, k1⟩
  have bd1 := L1.bd (by omega)
  have b1 := Chg.size (k1)
  have rl_1 := Rd.chg0 rl_b (k1) (by omega)
  have d1 : Chg [] wb w1 := k1
  obtain ⟨p0, p1, p2, p3⟩ := BX.out _ d1
  go_wp2_with fail
  · go_ret
    exact ⟨rfl, db.trans0 d1⟩
  have hWl : slotsW l ≤ 1048576 := by simp only [Left] at L1; omega
  refine (toEnd_el ⟨c0, c1, c2, c3⟩ _ (Nat.zero_le _)).mono ?_; rintro e w2 ⟨rfl, n2⟩
  have k2 := n2.chg
  have b2 := Chg.size k2
  have rl_2 := Rd.chg0 rl_1 k2 (by omega)
  have d2 : Chg [] wb w2 := d1.trans0 k2
  clear n2 p0 p1 p2 p3
  go_wp2_with fail
  refine (toSlotS_any l _ B _ (by omega) rl_2 (by omega)).mono ?_; intro e w3 G3; obtain ⟨A3, cap3, rfl, n3⟩ := G3.sl
  have b3 := Chg.size (n3.chg)
  have rl_3 := Rd.chg0 rl_2 (n3.chg) (by omega)
  have sl_3 := n3.rd
  have d3 : Chg [] wb w3 := d2.trans0 n3.chg
  go_wp2_with fail
  refine (endLine_spec_any c0 c1 c2 c3 l _ _ _ hi0 hi1 hWl sl_3 (Nat.le_refl _)).mono ?_; rintro e w4 ⟨rfl, k4⟩
  have b4 := Chg.size (k4)
  have rl_4 := Rd.chg0 rl_3 (k4) (by omega)
  have d4 : Chg [] wb w4 := d3.trans0 k4
  go_wp2_with fail
  refine (toSlotS_any l _ B _ (by omega) rl_4 (by omega)).mono ?_; intro e w5 G5; obtain ⟨A5, cap5, rfl, n5⟩ := G5.sl
  have b5 := Chg.size (n5.chg)
  have rl_5 := Rd.chg0 rl_4 (n5.chg) (by omega)
  have xl_5 := n5.rd
  have d5 : Chg [] wb w5 := d4.trans0 n5.chg
  obtain ⟨p0, p1, p2, p3⟩ := BX.out _ d5
  go_wp2_with fail
  refine (toEnd_el ⟨c0, c1, c2, c3⟩ _ (Nat.zero_le _)).mono ?_; rintro e w6 ⟨rfl, n6⟩
  have k6 := n6.chg
  have b6 := Chg.size k6
  have rl_6 := Rd.chg0 rl_5 k6 (by omega)
  have xl_6 := Rd.chg0 xl_5 k6 (by omega)
  have d6 : Chg [] wb w6 := d5.trans0 k6
  clear n6 p0 p1 p2 p3
  go_wp2_with fail
  refine (endLine_impl_any c0 c1 c2 c3 l _ _ _ hi0 hi1 (PP.out _ (db.trans0 d6)) (AA.out _ (db.trans0 d6)) hWl xl_6 (by omega)).mono ?_; rintro e w7 ⟨rfl, k7⟩
  have b7 := Chg.size (k7)
  have rl_7 := Rd.chg0 rl_6 (k7) (by omega)
  have xl_7 := Rd.chg0 xl_6 (k7) (by omega)
  have d7 : Chg [] wb w7 := d6.trans0 k7
  go_wp2_with fail
  refine (toSlotS_any l _ B _ (by omega) rl_7 (by omega)).mono ?_; intro e w8 G8; obtain ⟨A8, cap8, rfl, n8⟩ := G8.sl
  have b8 := Chg.size (n8.chg)
  have xl_8 := Rd.chg0 xl_7 (n8.chg) (by omega)
  have yl_8 := n8.rd
  have d8 : Chg [] wb w8 := d7.trans0 n8.chg
  go_wp2_with fail
  refine (eqSlotS_same l _ _ _ _ _ xl_8 yl_8 (by omega) (by omega)).mono ?_; rintro e w9 ⟨rfl, k9⟩
  have d9 : Chg [] wb w9 := d8.trans0 k9
  go_wp2_with fail
  go_ret
  exact ⟨rfl, db.trans0 d9⟩
end Go.Proofs.YtapmknkelihacaaDoor
