/- FnExactEmptySlots: the walks of EmptySlots, and of the law. Written by a program. -/
import Derived.Test.YtnkkpmdlcekhhaaTSlot
namespace Go.Proofs.Ytnkkpmdlcekhhaa
open Go.RowKit

def slot0 : SlotT := ⟨false, ⟨⟨⟨#[]⟩, false, false, [], 0⟩, []⟩⟩
def noSlots : List SlotT := [slot0, slot0, slot0]
set_option maxRecDepth 100000 in
set_option maxHeartbeats 1000000 in
theorem emptySlots_spec_any (w : World) : Calls Try.prog 21 #[] w (Gives (slots noSlots) w) := by
  have hmk : ∀ W, (Instr.makeSlice 33 (.int .i64 3) (.int .i64 3)).run Try.prog W = .ok (.slice (some ⟨W.heap.size, 0, none⟩) 3 3) (W.alloc (.cells (madeCells (Value.agg #[.bool false, .string ⟨#[]⟩, .bool false, .bool false, .slice none 0 0, .int .i64 0, .slice none 0 0]).cells (3 * 7)) 71)) := fun W => run_make_rowN (P := Try.prog) 33 71 _ 7 88 Try.underlying33 slot_info .i64 .i64 3 3 (Nat.le_refl _) (by omega) (by omega) W
  have hn : New w (w.alloc (.cells (madeCells (Value.agg #[.bool false, .string ⟨#[]⟩, .bool false, .bool false, .slice none 0 0, .int .i64 0, .slice none 0 0]).cells (3 * 7)) 71)) (slots noSlots) (.slice (some ⟨w.heap.size, 0, none⟩) 3 3) := New.make w 71 _ 7 rfl (by omega) slotZ slotZ_own slotF noSlots 3 rfl (by unfold maxLen; omega)
  go_enter Try.func21, Try.ntmps21
  go_wp2_with fail
  go_ret
  exact ⟨_, rfl, hn⟩
set_option maxRecDepth 100000 in
set_option maxHeartbeats 1000000 in
theorem emptySlots_impl_any (w : World) : Calls Try.prog 22 #[] w (Gives (slots noSlots) w) := by
  have hmk : ∀ W, (Instr.makeSlice 33 (.int .i64 3) (.int .i64 3)).run Try.prog W = .ok (.slice (some ⟨W.heap.size, 0, none⟩) 3 3) (W.alloc (.cells (madeCells (Value.agg #[.bool false, .string ⟨#[]⟩, .bool false, .bool false, .slice none 0 0, .int .i64 0, .slice none 0 0]).cells (3 * 7)) 71)) := fun W => run_make_rowN (P := Try.prog) 33 71 _ 7 88 Try.underlying33 slot_info .i64 .i64 3 3 (Nat.le_refl _) (by omega) (by omega) W
  have hn : New w (w.alloc (.cells (madeCells (Value.agg #[.bool false, .string ⟨#[]⟩, .bool false, .bool false, .slice none 0 0, .int .i64 0, .slice none 0 0]).cells (3 * 7)) 71)) (slots noSlots) (.slice (some ⟨w.heap.size, 0, none⟩) 3 3) := New.make w 71 _ 7 rfl (by omega) slotZ slotZ_own slotF noSlots 3 rfl (by unfold maxLen; omega)
  go_enter Try.func22, Try.ntmps22
  go_wp2_with fail
  go_ret
  exact ⟨_, rfl, hn⟩
set_option maxRecDepth 100000 in
set_option maxHeartbeats 4000000 in
theorem emptySlots_law (w : World) :
    Calls Try.prog 6 #[] w fun e w' => e = .returned (.bool true) ∧ Chg [] w w' := by
  go_enter Try.func6, Try.ntmps6
  go_wp2_with fail
  refine (emptySlots_spec_any _).mono ?_; intro e w1 G1; obtain ⟨A1, cap1, rfl, n1⟩ := G1.sl
  have hc1 := n1.chg
  have b1 := Chg.size (hc1)
  have d1 : Chg [] w w1 := Chg.trans0 (Chg.refl [] w) (hc1)
  obtain ⟨Sw0, Hw0_1, low0, _⟩ := n1
  have hiw0 := Hw0_1.lt
  go_wp2_with fail
  refine (emptySlots_impl_any _).mono ?_; intro e w2 G2; obtain ⟨A2, cap2, rfl, n2⟩ := G2.sl
  have hc2 := n2.chg
  have b2 := Chg.size (hc2)
  have Hw0_2 := Has.keep0 Hw0_1 (hc2)
  have d2 : Chg [] w w2 := Chg.trans0 (d1) (hc2)
  obtain ⟨Sg0, Hg0_2, log0, _⟩ := n2
  have hig0 := Hg0_2.lt
  go_wp2_with fail
  refine (eqSlotS_same noSlots _ _ _ _ _ Hg0_2.rd Hw0_2.rd (by omega) (by omega)).mono ?_; rintro e w3 ⟨rfl, c3⟩
  have b3 := Chg.size (c3)
  have Hw0_3 := Has.keep0 Hw0_2 (c3)
  have Hg0_3 := Has.keep0 Hg0_2 (c3)
  have d3 : Chg [] w w3 := Chg.trans0 (d2) (c3)
  go_wp2_with fail
  refine (markSlotS_any noSlots _ _ _ _ (by omega) (by decide) Hg0_3).mono ?_; rintro e w4 ⟨rfl, Hg0_4, c4⟩
  have b4 := Chg.size (c4)
  have Hw0_4 := Has.keep Hw0_3 (c4) (fun x hx hy => by have := hiw0 x hx; have := log0 x hy; omega)
  have d4 : Chg [] w w4 := Chg.trans (d3) (c4) (fun x hx => .inr (by have := log0 x hx; omega))
  go_wp2_with fail
  refine (heldSlotS_any noSlots _ _ _ _ (by omega) (by decide) Hg0_4.rd (by omega)).mono ?_; rintro e w5 ⟨rfl, c5⟩
  have b5 := Chg.size (c5)
  have Hw0_5 := Has.keep0 Hw0_4 (c5)
  have Hg0_5 := Has.keep0 Hg0_4 (c5)
  have d5 : Chg [] w w5 := Chg.trans0 (d4) (c5)
  go_wp2_with fail
  refine (emptySlots_impl_any _).mono ?_; intro e w6 G6; obtain ⟨A6, cap6, rfl, n6⟩ := G6.sl
  have hc6 := n6.chg
  have b6 := Chg.size (hc6)
  have Hw0_6 := Has.keep0 Hw0_5 (hc6)
  have Hg0_6 := Has.keep0 Hg0_5 (hc6)
  have d6 : Chg [] w w6 := Chg.trans0 (d5) (hc6)
  obtain ⟨Sh0, Hh0_6, loh0, _⟩ := n6
  have hih0 := Hh0_6.lt
  go_wp2_with fail
  refine (eqSlotS_same noSlots _ _ _ _ _ Hh0_6.rd Hw0_6.rd (by omega) (by omega)).mono ?_; rintro e w7 ⟨rfl, c7⟩
  have b7 := Chg.size (c7)
  have Hw0_7 := Has.keep0 Hw0_6 (c7)
  have Hg0_7 := Has.keep0 Hg0_6 (c7)
  have Hh0_7 := Has.keep0 Hh0_6 (c7)
  have d7 : Chg [] w w7 := Chg.trans0 (d6) (c7)
  go_wp2_with fail
  refine (heldSlotS_any noSlots _ _ _ _ (by omega) (by decide) Hg0_7.rd (by omega)).mono ?_; rintro e w8 ⟨rfl, c8⟩
  have b8 := Chg.size (c8)
  have Hw0_8 := Has.keep0 Hw0_7 (c8)
  have Hg0_8 := Has.keep0 Hg0_7 (c8)
  have Hh0_8 := Has.keep0 Hh0_7 (c8)
  have d8 : Chg [] w w8 := Chg.trans0 (d7) (c8)
  go_wp2_with fail
  go_ret
  exact ⟨rfl, d8⟩
end Go.Proofs.Ytnkkpmdlcekhhaa
