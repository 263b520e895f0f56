/- FnExactShapesOf: the walk of the law. Written by a program. -/
import Derived.Test.YtnkkpmdlcekhhaaShapes
namespace Go.Proofs.Ytnkkpmdlcekhhaa
open Go.RowKit

theorem cellsN_le (l : List CellT) : cellsN l ≤ 2 * cellsW l := by
  induction l with
  | nil => simp [cellsN]
  | cons a l ih =>
    unfold cellsN cellsW cellsW1 at ih ⊢
    simp only [List.map_cons, List.sum_cons, List.length_cons]
    have : cellN a = 2 := rfl
    omega
theorem layersN_le (l : List LayerT) : layersN l ≤ 2 * layersW l := by
  induction l with
  | nil => simp [layersN]
  | cons a l ih =>
    unfold layersN layersW layersW1 at ih ⊢
    simp only [List.map_cons, List.sum_cons, List.length_cons]
    have : layerN a = 2 := rfl
    omega
theorem slotsN_le (l : List SlotT) : slotsN l ≤ 5 * slotsW l := by
  induction l with
  | nil => simp [slotsN]
  | cons a l ih =>
    unfold slotsN slotsW slotsW1 at ih ⊢
    simp only [List.map_cons, List.sum_cons, List.length_cons]
    have h1 := cellsN_le a.part.core.cells
    have h2 := layersN_le a.part.layers
    have h3 : slotN a = 5 + cellsN a.part.core.cells + layersN a.part.layers := rfl
    have h4 : slotW a = a.part.core.kind.size + cellsW a.part.core.cells + layersW a.part.layers := rfl
    omega

set_option maxRecDepth 100000 in
set_option maxHeartbeats 4000000 in
theorem shapesOf_law (l : List SlotT) (ul : Value) (B : Nat) (w : World) (hfl : FitL [slots l]) (rl_0 : Rd w B (slots l) ul) (hB : B ≤ w.heap.size) :
    Calls Try.prog 9 #[ul] w fun e w' => e = .returned (.bool true) ∧ Chg [] w w' := by
  go_enter Try.func9, Try.ntmps9
  go_wp2_with fail
  refine (szSlotS_any l _ _ B _ (by omega) (by omega) hfl rl_0 (by omega)).mono ?_; rintro e w1 ⟨z1, rfl, L1, c1⟩
  have bd1 := L1.bd (by omega)
  have b1 := Chg.size (c1)
  have rl_1 := Rd.chg0 rl_0 (c1) (by omega)
  have d1 : Chg [] w w1 := Chg.trans0 (Chg.refl [] w) (c1)
  go_wp2_with fail
  · go_ret
    exact ⟨rfl, d1⟩
  have hWl : slotsW l ≤ 1048576 ∧ (0 ≤ z1) := by simp only [Left] at L1; omega
  have hN := slotsN_le l
  have hWl1 := hWl.1
  have hS : strsN (shapes l) ≤ 1048576 := by rw [strsN_length]; unfold shapes; rw [List.length_map]; unfold slotsW at hWl1; omega
  refine (toSlotS_any l _ _ _ hWl.1 rl_1 (by omega)).mono ?_; intro e w2 G2; obtain ⟨A2, cap2, rfl, n2⟩ := G2.sl
  have hc2 := n2.chg
  have b2 := Chg.size (hc2)
  have rl_2 := Rd.chg0 rl_1 (hc2) (by omega)
  have d2 : Chg [] w w2 := Chg.trans0 (d1) (hc2)
  obtain ⟨St0, Ht0_2, lot0, _⟩ := n2
  have hit0 := Ht0_2.lt
  go_wp2_with fail
  refine (shapesOf_spec_any l _ _ _ hWl.1 Ht0_2.rd (by omega)).mono ?_; intro e w3 G3; obtain ⟨A3, cap3, rfl, n3⟩ := G3.sl
  have hc3 := n3.chg
  have b3 := Chg.size (hc3)
  have rl_3 := Rd.chg0 rl_2 (hc3) (by omega)
  have Ht0_3 := Has.keep0 Ht0_2 (hc3)
  have d3 : Chg [] w w3 := Chg.trans0 (d2) (hc3)
  obtain ⟨Sw0, Hw0_3, low0, _⟩ := n3
  have hiw0 := Hw0_3.lt
  go_wp2_with fail
  refine (toSlotS_any l _ _ _ hWl.1 rl_3 (by omega)).mono ?_; intro e w4 G4; obtain ⟨A4, cap4, rfl, n4⟩ := G4.sl
  have hc4 := n4.chg
  have b4 := Chg.size (hc4)
  have rl_4 := Rd.chg0 rl_3 (hc4) (by omega)
  have Hw0_4 := Has.keep0 Hw0_3 (hc4)
  have d4 : Chg [] w w4 := Chg.trans0 (d3) (hc4)
  obtain ⟨Sx0, Hx0_4, lox0, _⟩ := n4
  have hix0 := Hx0_4.lt
  go_wp2_with fail
  refine (shapesOf_impl_any l _ _ _ hWl.1 Hx0_4.rd (by omega)).mono ?_; intro e w5 G5; obtain ⟨A5, cap5, rfl, n5⟩ := G5.sl
  have hc5 := n5.chg
  have b5 := Chg.size (hc5)
  have rl_5 := Rd.chg0 rl_4 (hc5) (by omega)
  have Hw0_5 := Has.keep0 Hw0_4 (hc5)
  have Hx0_5 := Has.keep0 Hx0_4 (hc5)
  have d5 : Chg [] w w5 := Chg.trans0 (d4) (hc5)
  obtain ⟨Sg0, Hg0_5, log0, _⟩ := n5
  have hig0 := Hg0_5.lt
  go_wp2_with fail
  refine (eqStringS_same (shapes l) _ _ _ _ _ Hg0_5.rd Hw0_5.rd (by omega) (by omega)).mono ?_; rintro e w6 ⟨rfl, c6⟩
  have b6 := Chg.size (c6)
  have rl_6 := Rd.chg0 rl_5 (c6) (by omega)
  have Hw0_6 := Has.keep0 Hw0_5 (c6)
  have Hx0_6 := Has.keep0 Hx0_5 (c6)
  have Hg0_6 := Has.keep0 Hg0_5 (c6)
  have d6 : Chg [] w w6 := Chg.trans0 (d5) (c6)
  go_wp2_with fail
  refine (toSlotS_any l _ _ _ hWl.1 rl_6 (by omega)).mono ?_; intro e w7 G7; obtain ⟨A7, cap7, rfl, n7⟩ := G7.sl
  have hc7 := n7.chg
  have b7 := Chg.size (hc7)
  have rl_7 := Rd.chg0 rl_6 (hc7) (by omega)
  have Hw0_7 := Has.keep0 Hw0_6 (hc7)
  have Hx0_7 := Has.keep0 Hx0_6 (hc7)
  have Hg0_7 := Has.keep0 Hg0_6 (hc7)
  have d7 : Chg [] w w7 := Chg.trans0 (d6) (hc7)
  obtain ⟨St1, Ht1_7, lot1, _⟩ := n7
  have hit1 := Ht1_7.lt
  go_wp2_with fail
  refine (eqSlotS_same l _ _ _ _ _ Hx0_7.rd Ht1_7.rd (by omega) (by omega)).mono ?_; rintro e w8 ⟨rfl, c8⟩
  have b8 := Chg.size (c8)
  have rl_8 := Rd.chg0 rl_7 (c8) (by omega)
  have Hw0_8 := Has.keep0 Hw0_7 (c8)
  have Hx0_8 := Has.keep0 Hx0_7 (c8)
  have Hg0_8 := Has.keep0 Hg0_7 (c8)
  have Ht1_8 := Has.keep0 Ht1_7 (c8)
  have d8 : Chg [] w w8 := Chg.trans0 (d7) (c8)
  go_wp2_with fail
  refine (markSlotS_any l _ _ _ _ (by omega) (by omega) Hx0_8).mono ?_; rintro e w9 ⟨rfl, Hx0_9, c9⟩
  have b9 := Chg.size (c9)
  have rl_9 := Rd.chg rl_8 (c9) (by omega) (fun x hy => by (have := lox0 x hy; omega))
  have Hw0_9 := Has.keep Hw0_8 (c9) (fun x hx hy => by have h1 := hiw0 x hx; (have := lox0 x hy; omega))
  have Hg0_9 := Has.keep Hg0_8 (c9) (fun x hx hy => by have h1 := log0 x hx; (have := hix0 x hy; omega))
  have d9 : Chg [] w w9 := Chg.trans (d8) (c9) (fun x hy => .inr (by (have := lox0 x hy; omega)))
  go_wp2_with fail
  refine (eqStringS_same (shapes l) _ _ _ _ _ Hg0_9.rd Hw0_9.rd (by omega) (by omega)).mono ?_; rintro e w10 ⟨rfl, c10⟩
  have b10 := Chg.size (c10)
  have rl_10 := Rd.chg0 rl_9 (c10) (by omega)
  have Hw0_10 := Has.keep0 Hw0_9 (c10)
  have Hg0_10 := Has.keep0 Hg0_9 (c10)
  have d10 : Chg [] w w10 := Chg.trans0 (d9) (c10)
  go_wp2_with fail
  refine (markStringS_any (shapes l) _ _ _ _ (by omega) (by omega) Hg0_10).mono ?_; rintro e w11 ⟨rfl, Hg0_11, c11⟩
  have b11 := Chg.size (c11)
  have rl_11 := Rd.chg rl_10 (c11) (by omega) (fun x hy => by (have := log0 x hy; omega))
  have Hw0_11 := Has.keep Hw0_10 (c11) (fun x hx hy => by have h1 := hiw0 x hx; (have := log0 x hy; omega))
  have d11 : Chg [] w w11 := Chg.trans (d10) (c11) (fun x hy => .inr (by (have := log0 x hy; omega)))
  go_wp2_with fail
  refine (heldStringS_any (shapes l) _ _ _ _ (by omega) (by omega) Hg0_11.rd (by omega)).mono ?_; rintro e w12 ⟨rfl, c12⟩
  have b12 := Chg.size (c12)
  have rl_12 := Rd.chg0 rl_11 (c12) (by omega)
  have Hw0_12 := Has.keep0 Hw0_11 (c12)
  have Hg0_12 := Has.keep0 Hg0_11 (c12)
  have d12 : Chg [] w w12 := Chg.trans0 (d11) (c12)
  go_wp2_with fail
  refine (toSlotS_any l _ _ _ hWl.1 rl_12 (by omega)).mono ?_; intro e w13 G13; obtain ⟨A13, cap13, rfl, n13⟩ := G13.sl
  have hc13 := n13.chg
  have b13 := Chg.size (hc13)
  have rl_13 := Rd.chg0 rl_12 (hc13) (by omega)
  have Hw0_13 := Has.keep0 Hw0_12 (hc13)
  have Hg0_13 := Has.keep0 Hg0_12 (hc13)
  have d13 : Chg [] w w13 := Chg.trans0 (d12) (hc13)
  obtain ⟨St2, Ht2_13, lot2, _⟩ := n13
  have hit2 := Ht2_13.lt
  go_wp2_with fail
  refine (shapesOf_impl_any l _ _ _ hWl.1 Ht2_13.rd (by omega)).mono ?_; intro e w14 G14; obtain ⟨A14, cap14, rfl, n14⟩ := G14.sl
  have hc14 := n14.chg
  have b14 := Chg.size (hc14)
  have rl_14 := Rd.chg0 rl_13 (hc14) (by omega)
  have Hw0_14 := Has.keep0 Hw0_13 (hc14)
  have Hg0_14 := Has.keep0 Hg0_13 (hc14)
  have Ht2_14 := Has.keep0 Ht2_13 (hc14)
  have d14 : Chg [] w w14 := Chg.trans0 (d13) (hc14)
  obtain ⟨Sh0, Hh0_14, loh0, _⟩ := n14
  have hih0 := Hh0_14.lt
  go_wp2_with fail
  refine (eqStringS_same (shapes l) _ _ _ _ _ Hh0_14.rd Hw0_14.rd (by omega) (by omega)).mono ?_; rintro e w15 ⟨rfl, c15⟩
  have b15 := Chg.size (c15)
  have rl_15 := Rd.chg0 rl_14 (c15) (by omega)
  have Hw0_15 := Has.keep0 Hw0_14 (c15)
  have Hg0_15 := Has.keep0 Hg0_14 (c15)
  have Hh0_15 := Has.keep0 Hh0_14 (c15)
  have d15 : Chg [] w w15 := Chg.trans0 (d14) (c15)
  go_wp2_with fail
  refine (heldStringS_any (shapes l) _ _ _ _ (by omega) (by omega) Hg0_15.rd (by omega)).mono ?_; rintro e w16 ⟨rfl, c16⟩
  have b16 := Chg.size (c16)
  have rl_16 := Rd.chg0 rl_15 (c16) (by omega)
  have Hw0_16 := Has.keep0 Hw0_15 (c16)
  have Hg0_16 := Has.keep0 Hg0_15 (c16)
  have Hh0_16 := Has.keep0 Hh0_15 (c16)
  have d16 : Chg [] w w16 := Chg.trans0 (d15) (c16)
  go_wp2_with fail
  go_ret
  exact ⟨rfl, d16⟩
end Go.Proofs.Ytnkkpmdlcekhhaa
