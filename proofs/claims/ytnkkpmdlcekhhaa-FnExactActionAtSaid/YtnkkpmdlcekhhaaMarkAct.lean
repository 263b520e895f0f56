/- Marks of one action. Written by a program. -/
import Derived.Test.YtnkkpmdlcekhhaaActAt
namespace Go.Proofs.Ytnkkpmdlcekhhaa
open Go.RowKit
set_option maxRecDepth 100000 in
set_option maxHeartbeats 2000000 in
theorem markAction_top (a : ActionT) (u9 u10 : Value) (S9 S10 : List Nat) (k0 : Int) (w : World) (hk0 : 0 ≤ k0) (hkb : k0 + actionsN a.A + actionsN a.B ≤ 100000000) (h9 : Has w (actions a.A) u9 S9) (h10 : Has w (actions a.B) u10 S10) (hd : ∀ x, x ∈ S9 → x ∉ S10) :
    Calls Try.prog 34 #[.agg #[.int .i64 a.op, .int .i64 a.slot, .int .i64 a.other, .string a.word, .string a.call.method, .string a.call.key, .int .i64 a.call.value, .string a.call.text, .int .i64 a.face, u9, u10], .int .i64 k0] w fun e w' => e = .returned (.int .i64 (k0 + actionsN a.A + actionsN a.B)) ∧ Has w' (actions (actionsM a.A k0)) u9 S9 ∧ Has w' (actions (actionsM a.B (k0 + actionsN a.A))) u10 S10 ∧ Chg (S9 ++ S10) w w' := by
  obtain ⟨X9, xap9, rfl, _, _, _⟩ := actions_row h9.rd
  obtain ⟨X10, xap10, rfl, _, _, _⟩ := actions_row h10.rd
  have l9 := h9.lt
  have l10 := h10.lt
  go_enter Try.func34, Try.ntmps34
  go_wp2_with fail
  refine (markActionS_any a.A _ S9 k0 _ hk0 (by omega) (h9.keep0 ((Chg.refl _ _).alloc _))).mono ?_
  rintro e w1 ⟨rfl, m1, c1⟩
  have y1 : ∀ j, w1.cell? ⟨w.heap.size, j, none⟩ = (w.alloc (.cells #[.int .i64 a.op, .int .i64 a.slot, .int .i64 a.other, .string a.word, .string a.call.method, .string a.call.key, .int .i64 a.call.value, .string a.call.text, .int .i64 a.face, .slice X9 a.A.length xap9, .slice X10 a.B.length xap10] 45)).cell? ⟨w.heap.size, j, none⟩ := fun j => c1.cell (by simp) (fun hx => Nat.lt_irrefl _ (l9 _ hx))
  have z1 : ∀ j, w1.frozen? ⟨w.heap.size, j, none⟩ = (w.alloc (.cells #[.int .i64 a.op, .int .i64 a.slot, .int .i64 a.other, .string a.word, .string a.call.method, .string a.call.key, .int .i64 a.call.value, .string a.call.text, .int .i64 a.face, .slice X9 a.A.length xap9, .slice X10 a.B.length xap10] 45)).frozen? ⟨w.heap.size, j, none⟩ := fun j => c1.frozen (by simp) (fun hx => Nat.lt_irrefl _ (l9 _ hx))
  go_wp2_with fail
  refine (markActionS_any a.B _ S10 (k0 + actionsN a.A) _ (by omega) (by omega) ((h10.keep0 ((Chg.refl _ _).alloc _)).keep c1 (fun x hx hy => hd x hy hx))).mono ?_
  rintro e w2 ⟨rfl, m2, c2⟩
  go_wp2_with fail
  go_ret
  exact ⟨rfl, m1.keep c2 hd, m2, Chg.trans (Chg.mono (Chg.trans1 ((Chg.refl [] w).alloc _) c1) (fun x hx => .inl (by simp [hx]))) c2 (fun x hx => .inl (by simp [hx]))⟩
set_option maxRecDepth 100000 in
set_option maxHeartbeats 2000000 in
theorem heldAction_top (a : ActionT) (u9 u10 : Value) (B : Nat) (k0 : Int) (w : World) (hk0 : 0 ≤ k0) (hkb : k0 + actionsN a.A + actionsN a.B ≤ 100000000) (r9 : Rd w B (actions (actionsM a.A k0)) u9) (r10 : Rd w B (actions (actionsM a.B (k0 + actionsN a.A))) u10) (hB : B ≤ w.heap.size) :
    Calls Try.prog 35 #[.agg #[.int .i64 a.op, .int .i64 a.slot, .int .i64 a.other, .string a.word, .string a.call.method, .string a.call.key, .int .i64 a.call.value, .string a.call.text, .int .i64 a.face, u9, u10], .int .i64 k0] w fun e w' => e = .returned (.int .i64 (k0 + actionsN a.A + actionsN a.B)) ∧ Chg [] w w' := by
  obtain ⟨X9, xap9, rfl, _, _, _⟩ := actions_row r9
  obtain ⟨X10, xap10, rfl, _, _, _⟩ := actions_row r10
  go_enter Try.func35, Try.ntmps35
  go_wp2_with fail
  refine (heldActionS_any a.A _ B k0 _ hk0 (by omega) (r9.chg0 ((Chg.refl _ _).alloc _) hB) (by simp; omega)).mono ?_
  rintro e w1 ⟨rfl, c1⟩
  obtain ⟨y1, z1, s1⟩ := c1.cells
  have d1 : Chg [] w w1 := Chg.trans0 ((Chg.refl _ _).alloc _) c1
  have t1 : w.heap.size < w1.heap.size := by simp at s1; omega
  go_wp2_with fail
  refine (heldActionS_any a.B _ B (k0 + actionsN a.A) _ (by omega) (by omega) (r10.chg0 d1 hB) (by omega)).mono ?_
  rintro e w2 ⟨rfl, c2⟩
  go_wp2_with fail
  go_ret
  exact ⟨rfl, Chg.trans0 d1 c2⟩
end Go.Proofs.Ytnkkpmdlcekhhaa
