/- FnExactActionAt: the walk of the law. Written by a program. -/
import Derived.Test.YtnkkpmdlcekhhaaActAtS
import Derived.Test.YtnkkpmdlcekhhaaMarkAct
namespace Go.Proofs.Ytnkkpmdlcekhhaa
open Go.RowKit

set_option maxRecDepth 100000 in
set_option maxHeartbeats 4000000 in
theorem actionAt_law (l : List ActionT) (p : Int) (ul : Value) (B : Nat) (w : World) (hfl : FitL [actions l]) (rl_0 : Rd w B (actions l) ul) (hip : -9223372036854775808 ≤ p ∧ p ≤ 9223372036854775807) (hB : B ≤ w.heap.size) :
    Calls Try.prog 8 #[ul, .int .i64 p] w fun e w' => e = .returned (.bool true) ∧ Chg [] w w' := by
  go_enter Try.func8, Try.ntmps8
  go_wp2_with fail
  refine (szActionS_any l _ _ B _ (by omega) (by omega) hfl rl_0 (by omega)).mono ?_; rintro e w1 ⟨z1, rfl, L1, c1⟩
  have bd1 := L1.bd (by omega)
  have b1 := Chg.size (c1)
  have rl_1 := Rd.chg0 rl_0 (c1) (by omega)
  have d1 : Chg [] w w1 := Chg.trans0 (Chg.refl [] w) (c1)
  go_wp2_with fail
  · go_ret
    exact ⟨rfl, d1⟩
  have hWl : actionsW l ≤ 1048576 ∧ (0 ≤ z1) := by simp only [Left] at L1; omega
  refine (toActionS_any l _ _ _ hWl.1 rl_1 (by omega)).mono ?_; intro e w2 G2; obtain ⟨A2, cap2, rfl, n2⟩ := G2.sl
  have hc2 := n2.chg
  have b2 := Chg.size (hc2)
  have rl_2 := Rd.chg0 rl_1 (hc2) (by omega)
  have d2 : Chg [] w w2 := Chg.trans0 (d1) (hc2)
  obtain ⟨St0, Ht0_2, lot0, _⟩ := n2
  have hit0 := Ht0_2.lt
  go_wp2_with fail
  refine (actionAt_spec_any l _ p _ _ hWl.1 hip.1 hip.2 Ht0_2.rd (by omega)).mono ?_; rintro e w3 ⟨a, bb, A9_3, cap9_3, A10_3, cap10_3, hab, rfl, n3⟩
  have hc3 := n3.chg
  have b3 := Chg.size (hc3)
  have rl_3 := Rd.chg0 rl_2 (hc3) (by omega)
  have Ht0_3 := Has.keep0 Ht0_2 (hc3)
  have d3 : Chg [] w w3 := Chg.trans0 (d2) (hc3)
  obtain ⟨Sw0A, Sw0B, Hw0A_3, Hw0B_3, djw0, low0A, low0B⟩ := n3.halves
  have hiw0A := Hw0A_3.lt
  have hiw0B := Hw0B_3.lt
  have hsa := hab.size
  have hN := actionsN_size l
  have hNA := actionsN_size a.A
  have hNB := actionsN_size a.B
  have hsl := sizeL_W l
  have hWl1 := hWl.1
  go_wp2_with fail
  obtain ⟨w4, e4⟩ : ∃ x, x = w3.alloc (.cells #[.int .i64 a.op, .int .i64 a.slot, .int .i64 a.other, .string a.word, .string a.call.method, .string a.call.key, .int .i64 a.call.value, .string a.call.text, .int .i64 a.face, .slice A9_3 a.A.length cap9_3, .slice A10_3 a.B.length cap10_3] 45) := ⟨_, rfl⟩
  rw [← e4]
  have c4 : Chg [] w3 w4 := by rw [e4]; exact (Chg.refl _ _).alloc _
  have t4 : w3.heap.size < w4.heap.size := by rw [e4]; simp
  have b4 := Chg.size (c4)
  have rl_4 := Rd.chg0 rl_3 (c4) (by omega)
  have Ht0_4 := Has.keep0 Ht0_3 (c4)
  have Hw0A_4 := Has.keep0 Hw0A_3 (c4)
  have Hw0B_4 := Has.keep0 Hw0B_3 (c4)
  have d4 : Chg [] w w4 := Chg.trans0 (d3) (c4)
  have yw0_4 : ∀ o, w4.cell? ⟨w3.heap.size, o, none⟩ = (w3.alloc (.cells #[.int .i64 a.op, .int .i64 a.slot, .int .i64 a.other, .string a.word, .string a.call.method, .string a.call.key, .int .i64 a.call.value, .string a.call.text, .int .i64 a.face, .slice A9_3 a.A.length cap9_3, .slice A10_3 a.B.length cap10_3] 45)).cell? ⟨w3.heap.size, o, none⟩ := fun o => by rw [e4]
  have zw0_4 : ∀ o, w4.frozen? ⟨w3.heap.size, o, none⟩ = (w3.alloc (.cells #[.int .i64 a.op, .int .i64 a.slot, .int .i64 a.other, .string a.word, .string a.call.method, .string a.call.key, .int .i64 a.call.value, .string a.call.text, .int .i64 a.face, .slice A9_3 a.A.length cap9_3, .slice A10_3 a.B.length cap10_3] 45)).frozen? ⟨w3.heap.size, o, none⟩ := fun o => by rw [e4]
  clear e4
  have tbw0_4 := t4
  refine (toActionS_any l _ _ _ hWl.1 rl_4 (by omega)).mono ?_; intro e w5 G5; obtain ⟨A5, cap5, rfl, n5⟩ := G5.sl
  have hc5 := n5.chg
  have b5 := Chg.size (hc5)
  have rl_5 := Rd.chg0 rl_4 (hc5) (by omega)
  have Hw0A_5 := Has.keep0 Hw0A_4 (hc5)
  have Hw0B_5 := Has.keep0 Hw0B_4 (hc5)
  have tbw0_5 : w3.heap.size < w5.heap.size := by omega
  have yw0_5 := fun o => (Chg.cell (hc5) (p := ⟨w3.heap.size, o, none⟩) (show w3.heap.size < _ by omega) (by simp)).trans (yw0_4 o)
  have zw0_5 := fun o => (Chg.frozen (hc5) (p := ⟨w3.heap.size, o, none⟩) (show w3.heap.size < _ by omega) (by simp)).trans (zw0_4 o)
  have d5 : Chg [] w w5 := Chg.trans0 (d4) (hc5)
  obtain ⟨Sx0, Hx0_5, lox0, _⟩ := n5
  have hix0 := Hx0_5.lt
  go_wp2_with fail
  refine (actionAt_impl_any l _ p _ _ hWl.1 hip.1 hip.2 Hx0_5.rd (by omega)).mono ?_; rintro e w6 ⟨a6, bb6, A9_6, cap9_6, A10_6, cap10_6, hab6, rfl, n6⟩
  obtain ⟨rfl, rfl⟩ := AtIs.same hab6 hab
  have hc6 := n6.chg
  have b6 := Chg.size (hc6)
  have rl_6 := Rd.chg0 rl_5 (hc6) (by omega)
  have Hw0A_6 := Has.keep0 Hw0A_5 (hc6)
  have Hw0B_6 := Has.keep0 Hw0B_5 (hc6)
  have Hx0_6 := Has.keep0 Hx0_5 (hc6)
  have tbw0_6 : w3.heap.size < w6.heap.size := by omega
  have yw0_6 := fun o => (Chg.cell (hc6) (p := ⟨w3.heap.size, o, none⟩) (show w3.heap.size < _ by omega) (by simp)).trans (yw0_5 o)
  have zw0_6 := fun o => (Chg.frozen (hc6) (p := ⟨w3.heap.size, o, none⟩) (show w3.heap.size < _ by omega) (by simp)).trans (zw0_5 o)
  have d6 : Chg [] w w6 := Chg.trans0 (d5) (hc6)
  obtain ⟨Sg0A, Sg0B, Hg0A_6, Hg0B_6, djg0, log0A, log0B⟩ := n6.halves
  have hig0A := Hg0A_6.lt
  have hig0B := Hg0B_6.lt
  go_wp2_with fail
  obtain ⟨w7, e7⟩ : ∃ x, x = w6.alloc (.cells #[.int .i64 a.op, .int .i64 a.slot, .int .i64 a.other, .string a.word, .string a.call.method, .string a.call.key, .int .i64 a.call.value, .string a.call.text, .int .i64 a.face, .slice A9_6 a.A.length cap9_6, .slice A10_6 a.B.length cap10_6] 45) := ⟨_, rfl⟩
  rw [← e7]
  have c7 : Chg [] w6 w7 := by rw [e7]; exact (Chg.refl _ _).alloc _
  have t7 : w6.heap.size < w7.heap.size := by rw [e7]; simp
  have b7 := Chg.size (c7)
  have rl_7 := Rd.chg0 rl_6 (c7) (by omega)
  have Hw0A_7 := Has.keep0 Hw0A_6 (c7)
  have Hw0B_7 := Has.keep0 Hw0B_6 (c7)
  have Hx0_7 := Has.keep0 Hx0_6 (c7)
  have Hg0A_7 := Has.keep0 Hg0A_6 (c7)
  have Hg0B_7 := Has.keep0 Hg0B_6 (c7)
  have tbw0_7 : w3.heap.size < w7.heap.size := by omega
  have yw0_7 := fun o => (Chg.cell (c7) (p := ⟨w3.heap.size, o, none⟩) (show w3.heap.size < _ by omega) (by simp)).trans (yw0_6 o)
  have zw0_7 := fun o => (Chg.frozen (c7) (p := ⟨w3.heap.size, o, none⟩) (show w3.heap.size < _ by omega) (by simp)).trans (zw0_6 o)
  have d7 : Chg [] w w7 := Chg.trans0 (d6) (c7)
  have yg0_7 : ∀ o, w7.cell? ⟨w6.heap.size, o, none⟩ = (w6.alloc (.cells #[.int .i64 a.op, .int .i64 a.slot, .int .i64 a.other, .string a.word, .string a.call.method, .string a.call.key, .int .i64 a.call.value, .string a.call.text, .int .i64 a.face, .slice A9_6 a.A.length cap9_6, .slice A10_6 a.B.length cap10_6] 45)).cell? ⟨w6.heap.size, o, none⟩ := fun o => by rw [e7]
  have zg0_7 : ∀ o, w7.frozen? ⟨w6.heap.size, o, none⟩ = (w6.alloc (.cells #[.int .i64 a.op, .int .i64 a.slot, .int .i64 a.other, .string a.word, .string a.call.method, .string a.call.key, .int .i64 a.call.value, .string a.call.text, .int .i64 a.face, .slice A9_6 a.A.length cap9_6, .slice A10_6 a.B.length cap10_6] 45)).frozen? ⟨w6.heap.size, o, none⟩ := fun o => by rw [e7]
  clear e7
  have tbg0_7 := t7
  refine (eqAction_el a (eqActionS_same_all _) (eqActionS_same_all _) _ _ _ _ _ _ _ Hg0A_7.rd Hg0B_7.rd Hw0A_7.rd Hw0B_7.rd (by omega) (by omega)).mono ?_; rintro e w8 ⟨rfl, c8⟩
  have b8 := Chg.size (c8)
  have rl_8 := Rd.chg0 rl_7 (c8) (by omega)
  have Hw0A_8 := Has.keep0 Hw0A_7 (c8)
  have Hw0B_8 := Has.keep0 Hw0B_7 (c8)
  have Hx0_8 := Has.keep0 Hx0_7 (c8)
  have Hg0A_8 := Has.keep0 Hg0A_7 (c8)
  have Hg0B_8 := Has.keep0 Hg0B_7 (c8)
  have tbw0_8 : w3.heap.size < w8.heap.size := by omega
  have yw0_8 := fun o => (Chg.cell (c8) (p := ⟨w3.heap.size, o, none⟩) (show w3.heap.size < _ by omega) (by simp)).trans (yw0_7 o)
  have zw0_8 := fun o => (Chg.frozen (c8) (p := ⟨w3.heap.size, o, none⟩) (show w3.heap.size < _ by omega) (by simp)).trans (zw0_7 o)
  have tbg0_8 : w6.heap.size < w8.heap.size := by omega
  have yg0_8 := fun o => (Chg.cell (c8) (p := ⟨w6.heap.size, o, none⟩) (show w6.heap.size < _ by omega) (by simp)).trans (yg0_7 o)
  have zg0_8 := fun o => (Chg.frozen (c8) (p := ⟨w6.heap.size, o, none⟩) (show w6.heap.size < _ by omega) (by simp)).trans (zg0_7 o)
  have d8 : Chg [] w w8 := Chg.trans0 (d7) (c8)
  go_wp2_with fail
  refine (toActionS_any l _ _ _ hWl.1 rl_8 (by omega)).mono ?_; intro e w9 G9; obtain ⟨A9, cap9, rfl, n9⟩ := G9.sl
  have hc9 := n9.chg
  have b9 := Chg.size (hc9)
  have rl_9 := Rd.chg0 rl_8 (hc9) (by omega)
  have Hw0A_9 := Has.keep0 Hw0A_8 (hc9)
  have Hw0B_9 := Has.keep0 Hw0B_8 (hc9)
  have Hx0_9 := Has.keep0 Hx0_8 (hc9)
  have Hg0A_9 := Has.keep0 Hg0A_8 (hc9)
  have Hg0B_9 := Has.keep0 Hg0B_8 (hc9)
  have tbw0_9 : w3.heap.size < w9.heap.size := by omega
  have yw0_9 := fun o => (Chg.cell (hc9) (p := ⟨w3.heap.size, o, none⟩) (show w3.heap.size < _ by omega) (by simp)).trans (yw0_8 o)
  have zw0_9 := fun o => (Chg.frozen (hc9) (p := ⟨w3.heap.size, o, none⟩) (show w3.heap.size < _ by omega) (by simp)).trans (zw0_8 o)
  have tbg0_9 : w6.heap.size < w9.heap.size := by omega
  have yg0_9 := fun o => (Chg.cell (hc9) (p := ⟨w6.heap.size, o, none⟩) (show w6.heap.size < _ by omega) (by simp)).trans (yg0_8 o)
  have zg0_9 := fun o => (Chg.frozen (hc9) (p := ⟨w6.heap.size, o, none⟩) (show w6.heap.size < _ by omega) (by simp)).trans (zg0_8 o)
  have d9 : Chg [] w w9 := Chg.trans0 (d8) (hc9)
  obtain ⟨St1, Ht1_9, lot1, _⟩ := n9
  have hit1 := Ht1_9.lt
  go_wp2_with fail
  refine (eqActionS_same l _ _ _ _ _ Hx0_9.rd Ht1_9.rd (by omega) (by omega)).mono ?_; rintro e w10 ⟨rfl, c10⟩
  have b10 := Chg.size (c10)
  have rl_10 := Rd.chg0 rl_9 (c10) (by omega)
  have Hw0A_10 := Has.keep0 Hw0A_9 (c10)
  have Hw0B_10 := Has.keep0 Hw0B_9 (c10)
  have Hx0_10 := Has.keep0 Hx0_9 (c10)
  have Hg0A_10 := Has.keep0 Hg0A_9 (c10)
  have Hg0B_10 := Has.keep0 Hg0B_9 (c10)
  have Ht1_10 := Has.keep0 Ht1_9 (c10)
  have tbw0_10 : w3.heap.size < w10.heap.size := by omega
  have yw0_10 := fun o => (Chg.cell (c10) (p := ⟨w3.heap.size, o, none⟩) (show w3.heap.size < _ by omega) (by simp)).trans (yw0_9 o)
  have zw0_10 := fun o => (Chg.frozen (c10) (p := ⟨w3.heap.size, o, none⟩) (show w3.heap.size < _ by omega) (by simp)).trans (zw0_9 o)
  have tbg0_10 : w6.heap.size < w10.heap.size := by omega
  have yg0_10 := fun o => (Chg.cell (c10) (p := ⟨w6.heap.size, o, none⟩) (show w6.heap.size < _ by omega) (by simp)).trans (yg0_9 o)
  have zg0_10 := fun o => (Chg.frozen (c10) (p := ⟨w6.heap.size, o, none⟩) (show w6.heap.size < _ by omega) (by simp)).trans (zg0_9 o)
  have d10 : Chg [] w w10 := Chg.trans0 (d9) (c10)
  go_wp2_with fail
  refine (markActionS_any l _ _ _ _ (by omega) (by omega) Hx0_10).mono ?_; rintro e w11 ⟨rfl, Hx0_11, c11⟩
  have b11 := Chg.size (c11)
  have rl_11 := Rd.chg rl_10 (c11) (by omega) (fun x hy => by (have := lox0 x hy; omega))
  have Hw0A_11 := Has.keep Hw0A_10 (c11) (fun x hx hy => by have h1 := hiw0A x hx; (have := lox0 x hy; omega))
  have Hw0B_11 := Has.keep Hw0B_10 (c11) (fun x hx hy => by have h1 := hiw0B x hx; (have := lox0 x hy; omega))
  have Hg0A_11 := Has.keep Hg0A_10 (c11) (fun x hx hy => by have h1 := log0A x hx; (have := hix0 x hy; omega))
  have Hg0B_11 := Has.keep Hg0B_10 (c11) (fun x hx hy => by have h1 := log0B x hx; (have := hix0 x hy; omega))
  have tbw0_11 : w3.heap.size < w11.heap.size := by omega
  have yw0_11 := fun o => (Chg.cell (c11) (p := ⟨w3.heap.size, o, none⟩) (show w3.heap.size < _ by omega) (fun hy => by (have h0 : _ ≤ w3.heap.size := lox0 _ hy; omega))).trans (yw0_10 o)
  have zw0_11 := fun o => (Chg.frozen (c11) (p := ⟨w3.heap.size, o, none⟩) (show w3.heap.size < _ by omega) (fun hy => by (have h0 : _ ≤ w3.heap.size := lox0 _ hy; omega))).trans (zw0_10 o)
  have tbg0_11 : w6.heap.size < w11.heap.size := by omega
  have yg0_11 := fun o => (Chg.cell (c11) (p := ⟨w6.heap.size, o, none⟩) (show w6.heap.size < _ by omega) (fun hy => by (have h0 : w6.heap.size < _ := hix0 _ hy; omega))).trans (yg0_10 o)
  have zg0_11 := fun o => (Chg.frozen (c11) (p := ⟨w6.heap.size, o, none⟩) (show w6.heap.size < _ by omega) (fun hy => by (have h0 : w6.heap.size < _ := hix0 _ hy; omega))).trans (zg0_10 o)
  have d11 : Chg [] w w11 := Chg.trans (d10) (c11) (fun x hy => .inr (by (have := lox0 x hy; omega)))
  go_wp2_with fail
  refine (eqAction_el a (eqActionS_same_all _) (eqActionS_same_all _) _ _ _ _ _ _ _ Hg0A_11.rd Hg0B_11.rd Hw0A_11.rd Hw0B_11.rd (by omega) (by omega)).mono ?_; rintro e w12 ⟨rfl, c12⟩
  have b12 := Chg.size (c12)
  have rl_12 := Rd.chg0 rl_11 (c12) (by omega)
  have Hw0A_12 := Has.keep0 Hw0A_11 (c12)
  have Hw0B_12 := Has.keep0 Hw0B_11 (c12)
  have Hg0A_12 := Has.keep0 Hg0A_11 (c12)
  have Hg0B_12 := Has.keep0 Hg0B_11 (c12)
  have tbw0_12 : w3.heap.size < w12.heap.size := by omega
  have yw0_12 := fun o => (Chg.cell (c12) (p := ⟨w3.heap.size, o, none⟩) (show w3.heap.size < _ by omega) (by simp)).trans (yw0_11 o)
  have zw0_12 := fun o => (Chg.frozen (c12) (p := ⟨w3.heap.size, o, none⟩) (show w3.heap.size < _ by omega) (by simp)).trans (zw0_11 o)
  have tbg0_12 : w6.heap.size < w12.heap.size := by omega
  have yg0_12 := fun o => (Chg.cell (c12) (p := ⟨w6.heap.size, o, none⟩) (show w6.heap.size < _ by omega) (by simp)).trans (yg0_11 o)
  have zg0_12 := fun o => (Chg.frozen (c12) (p := ⟨w6.heap.size, o, none⟩) (show w6.heap.size < _ by omega) (by simp)).trans (zg0_11 o)
  have d12 : Chg [] w w12 := Chg.trans0 (d11) (c12)
  go_wp2_with fail
  refine (markAction_top a _ _ _ _ _ _ (by omega) (by omega) Hg0A_12 Hg0B_12 djg0).mono ?_; rintro e w13 ⟨rfl, Hg0A_13, Hg0B_13, c13⟩
  have b13 := Chg.size (c13)
  have rl_13 := Rd.chg rl_12 (c13) (by omega) (fun x hy => by exact Or.elim (List.mem_append.1 hy) (fun hy => by (have := log0A x hy; omega)) (fun hy => by (have := log0B x hy; omega)))
  have Hw0A_13 := Has.keep Hw0A_12 (c13) (fun x hx hy => by have h1 := hiw0A x hx; exact Or.elim (List.mem_append.1 hy) (fun hy => by (have := log0A x hy; omega)) (fun hy => by (have := log0B x hy; omega)))
  have Hw0B_13 := Has.keep Hw0B_12 (c13) (fun x hx hy => by have h1 := hiw0B x hx; exact Or.elim (List.mem_append.1 hy) (fun hy => by (have := log0A x hy; omega)) (fun hy => by (have := log0B x hy; omega)))
  have tbw0_13 : w3.heap.size < w13.heap.size := by omega
  have yw0_13 := fun o => (Chg.cell (c13) (p := ⟨w3.heap.size, o, none⟩) (show w3.heap.size < _ by omega) (fun hy => by exact Or.elim (List.mem_append.1 hy) (fun hy => by (have h0 : _ ≤ w3.heap.size := log0A _ hy; omega)) (fun hy => by (have h0 : _ ≤ w3.heap.size := log0B _ hy; omega)))).trans (yw0_12 o)
  have zw0_13 := fun o => (Chg.frozen (c13) (p := ⟨w3.heap.size, o, none⟩) (show w3.heap.size < _ by omega) (fun hy => by exact Or.elim (List.mem_append.1 hy) (fun hy => by (have h0 : _ ≤ w3.heap.size := log0A _ hy; omega)) (fun hy => by (have h0 : _ ≤ w3.heap.size := log0B _ hy; omega)))).trans (zw0_12 o)
  have tbg0_13 : w6.heap.size < w13.heap.size := by omega
  have yg0_13 := fun o => (Chg.cell (c13) (p := ⟨w6.heap.size, o, none⟩) (show w6.heap.size < _ by omega) (fun hy => by exact Or.elim (List.mem_append.1 hy) (fun hy => by (have h0 : w6.heap.size < _ := hig0A _ hy; omega)) (fun hy => by (have h0 : w6.heap.size < _ := hig0B _ hy; omega)))).trans (yg0_12 o)
  have zg0_13 := fun o => (Chg.frozen (c13) (p := ⟨w6.heap.size, o, none⟩) (show w6.heap.size < _ by omega) (fun hy => by exact Or.elim (List.mem_append.1 hy) (fun hy => by (have h0 : w6.heap.size < _ := hig0A _ hy; omega)) (fun hy => by (have h0 : w6.heap.size < _ := hig0B _ hy; omega)))).trans (zg0_12 o)
  have d13 : Chg [] w w13 := Chg.trans (d12) (c13) (fun x hy => .inr (by exact Or.elim (List.mem_append.1 hy) (fun hy => by (have := log0A x hy; omega)) (fun hy => by (have := log0B x hy; omega))))
  go_wp2_with fail
  refine (heldAction_top a _ _ _ _ _ (by omega) (by omega) Hg0A_13.rd Hg0B_13.rd (by omega)).mono ?_; rintro e w14 ⟨rfl, c14⟩
  have b14 := Chg.size (c14)
  have rl_14 := Rd.chg0 rl_13 (c14) (by omega)
  have Hw0A_14 := Has.keep0 Hw0A_13 (c14)
  have Hw0B_14 := Has.keep0 Hw0B_13 (c14)
  have Hg0A_14 := Has.keep0 Hg0A_13 (c14)
  have Hg0B_14 := Has.keep0 Hg0B_13 (c14)
  have tbw0_14 : w3.heap.size < w14.heap.size := by omega
  have yw0_14 := fun o => (Chg.cell (c14) (p := ⟨w3.heap.size, o, none⟩) (show w3.heap.size < _ by omega) (by simp)).trans (yw0_13 o)
  have zw0_14 := fun o => (Chg.frozen (c14) (p := ⟨w3.heap.size, o, none⟩) (show w3.heap.size < _ by omega) (by simp)).trans (zw0_13 o)
  have tbg0_14 : w6.heap.size < w14.heap.size := by omega
  have yg0_14 := fun o => (Chg.cell (c14) (p := ⟨w6.heap.size, o, none⟩) (show w6.heap.size < _ by omega) (by simp)).trans (yg0_13 o)
  have zg0_14 := fun o => (Chg.frozen (c14) (p := ⟨w6.heap.size, o, none⟩) (show w6.heap.size < _ by omega) (by simp)).trans (zg0_13 o)
  have d14 : Chg [] w w14 := Chg.trans0 (d13) (c14)
  go_wp2_with fail
  refine (toActionS_any l _ _ _ hWl.1 rl_14 (by omega)).mono ?_; intro e w15 G15; obtain ⟨A15, cap15, rfl, n15⟩ := G15.sl
  have hc15 := n15.chg
  have b15 := Chg.size (hc15)
  have rl_15 := Rd.chg0 rl_14 (hc15) (by omega)
  have Hw0A_15 := Has.keep0 Hw0A_14 (hc15)
  have Hw0B_15 := Has.keep0 Hw0B_14 (hc15)
  have Hg0A_15 := Has.keep0 Hg0A_14 (hc15)
  have Hg0B_15 := Has.keep0 Hg0B_14 (hc15)
  have tbw0_15 : w3.heap.size < w15.heap.size := by omega
  have yw0_15 := fun o => (Chg.cell (hc15) (p := ⟨w3.heap.size, o, none⟩) (show w3.heap.size < _ by omega) (by simp)).trans (yw0_14 o)
  have zw0_15 := fun o => (Chg.frozen (hc15) (p := ⟨w3.heap.size, o, none⟩) (show w3.heap.size < _ by omega) (by simp)).trans (zw0_14 o)
  have tbg0_15 : w6.heap.size < w15.heap.size := by omega
  have yg0_15 := fun o => (Chg.cell (hc15) (p := ⟨w6.heap.size, o, none⟩) (show w6.heap.size < _ by omega) (by simp)).trans (yg0_14 o)
  have zg0_15 := fun o => (Chg.frozen (hc15) (p := ⟨w6.heap.size, o, none⟩) (show w6.heap.size < _ by omega) (by simp)).trans (zg0_14 o)
  have d15 : Chg [] w w15 := Chg.trans0 (d14) (hc15)
  obtain ⟨St2, Ht2_15, lot2, _⟩ := n15
  have hit2 := Ht2_15.lt
  go_wp2_with fail
  refine (actionAt_impl_any l _ p _ _ hWl.1 hip.1 hip.2 Ht2_15.rd (by omega)).mono ?_; rintro e w16 ⟨a16, bb16, A9_16, cap9_16, A10_16, cap10_16, hab16, rfl, n16⟩
  obtain ⟨rfl, rfl⟩ := AtIs.same hab16 hab
  have hc16 := n16.chg
  have b16 := Chg.size (hc16)
  have rl_16 := Rd.chg0 rl_15 (hc16) (by omega)
  have Hw0A_16 := Has.keep0 Hw0A_15 (hc16)
  have Hw0B_16 := Has.keep0 Hw0B_15 (hc16)
  have Hg0A_16 := Has.keep0 Hg0A_15 (hc16)
  have Hg0B_16 := Has.keep0 Hg0B_15 (hc16)
  have Ht2_16 := Has.keep0 Ht2_15 (hc16)
  have tbw0_16 : w3.heap.size < w16.heap.size := by omega
  have yw0_16 := fun o => (Chg.cell (hc16) (p := ⟨w3.heap.size, o, none⟩) (show w3.heap.size < _ by omega) (by simp)).trans (yw0_15 o)
  have zw0_16 := fun o => (Chg.frozen (hc16) (p := ⟨w3.heap.size, o, none⟩) (show w3.heap.size < _ by omega) (by simp)).trans (zw0_15 o)
  have tbg0_16 : w6.heap.size < w16.heap.size := by omega
  have yg0_16 := fun o => (Chg.cell (hc16) (p := ⟨w6.heap.size, o, none⟩) (show w6.heap.size < _ by omega) (by simp)).trans (yg0_15 o)
  have zg0_16 := fun o => (Chg.frozen (hc16) (p := ⟨w6.heap.size, o, none⟩) (show w6.heap.size < _ by omega) (by simp)).trans (zg0_15 o)
  have d16 : Chg [] w w16 := Chg.trans0 (d15) (hc16)
  obtain ⟨Sh0A, Sh0B, Hh0A_16, Hh0B_16, djh0, loh0A, loh0B⟩ := n16.halves
  have hih0A := Hh0A_16.lt
  have hih0B := Hh0B_16.lt
  go_wp2_with fail
  obtain ⟨w17, e17⟩ : ∃ x, x = w16.alloc (.cells #[.int .i64 a.op, .int .i64 a.slot, .int .i64 a.other, .string a.word, .string a.call.method, .string a.call.key, .int .i64 a.call.value, .string a.call.text, .int .i64 a.face, .slice A9_16 a.A.length cap9_16, .slice A10_16 a.B.length cap10_16] 45) := ⟨_, rfl⟩
  rw [← e17]
  have c17 : Chg [] w16 w17 := by rw [e17]; exact (Chg.refl _ _).alloc _
  have t17 : w16.heap.size < w17.heap.size := by rw [e17]; simp
  have b17 := Chg.size (c17)
  have rl_17 := Rd.chg0 rl_16 (c17) (by omega)
  have Hw0A_17 := Has.keep0 Hw0A_16 (c17)
  have Hw0B_17 := Has.keep0 Hw0B_16 (c17)
  have Hg0A_17 := Has.keep0 Hg0A_16 (c17)
  have Hg0B_17 := Has.keep0 Hg0B_16 (c17)
  have Ht2_17 := Has.keep0 Ht2_16 (c17)
  have Hh0A_17 := Has.keep0 Hh0A_16 (c17)
  have Hh0B_17 := Has.keep0 Hh0B_16 (c17)
  have tbw0_17 : w3.heap.size < w17.heap.size := by omega
  have yw0_17 := fun o => (Chg.cell (c17) (p := ⟨w3.heap.size, o, none⟩) (show w3.heap.size < _ by omega) (by simp)).trans (yw0_16 o)
  have zw0_17 := fun o => (Chg.frozen (c17) (p := ⟨w3.heap.size, o, none⟩) (show w3.heap.size < _ by omega) (by simp)).trans (zw0_16 o)
  have tbg0_17 : w6.heap.size < w17.heap.size := by omega
  have yg0_17 := fun o => (Chg.cell (c17) (p := ⟨w6.heap.size, o, none⟩) (show w6.heap.size < _ by omega) (by simp)).trans (yg0_16 o)
  have zg0_17 := fun o => (Chg.frozen (c17) (p := ⟨w6.heap.size, o, none⟩) (show w6.heap.size < _ by omega) (by simp)).trans (zg0_16 o)
  have d17 : Chg [] w w17 := Chg.trans0 (d16) (c17)
  have yh0_17 : ∀ o, w17.cell? ⟨w16.heap.size, o, none⟩ = (w16.alloc (.cells #[.int .i64 a.op, .int .i64 a.slot, .int .i64 a.other, .string a.word, .string a.call.method, .string a.call.key, .int .i64 a.call.value, .string a.call.text, .int .i64 a.face, .slice A9_16 a.A.length cap9_16, .slice A10_16 a.B.length cap10_16] 45)).cell? ⟨w16.heap.size, o, none⟩ := fun o => by rw [e17]
  have zh0_17 : ∀ o, w17.frozen? ⟨w16.heap.size, o, none⟩ = (w16.alloc (.cells #[.int .i64 a.op, .int .i64 a.slot, .int .i64 a.other, .string a.word, .string a.call.method, .string a.call.key, .int .i64 a.call.value, .string a.call.text, .int .i64 a.face, .slice A9_16 a.A.length cap9_16, .slice A10_16 a.B.length cap10_16] 45)).frozen? ⟨w16.heap.size, o, none⟩ := fun o => by rw [e17]
  clear e17
  have tbh0_17 := t17
  refine (eqAction_el a (eqActionS_same_all _) (eqActionS_same_all _) _ _ _ _ _ _ _ Hh0A_17.rd Hh0B_17.rd Hw0A_17.rd Hw0B_17.rd (by omega) (by omega)).mono ?_; rintro e w18 ⟨rfl, c18⟩
  have b18 := Chg.size (c18)
  have rl_18 := Rd.chg0 rl_17 (c18) (by omega)
  have Hw0A_18 := Has.keep0 Hw0A_17 (c18)
  have Hw0B_18 := Has.keep0 Hw0B_17 (c18)
  have Hg0A_18 := Has.keep0 Hg0A_17 (c18)
  have Hg0B_18 := Has.keep0 Hg0B_17 (c18)
  have Hh0A_18 := Has.keep0 Hh0A_17 (c18)
  have Hh0B_18 := Has.keep0 Hh0B_17 (c18)
  have tbw0_18 : w3.heap.size < w18.heap.size := by omega
  have yw0_18 := fun o => (Chg.cell (c18) (p := ⟨w3.heap.size, o, none⟩) (show w3.heap.size < _ by omega) (by simp)).trans (yw0_17 o)
  have zw0_18 := fun o => (Chg.frozen (c18) (p := ⟨w3.heap.size, o, none⟩) (show w3.heap.size < _ by omega) (by simp)).trans (zw0_17 o)
  have tbg0_18 : w6.heap.size < w18.heap.size := by omega
  have yg0_18 := fun o => (Chg.cell (c18) (p := ⟨w6.heap.size, o, none⟩) (show w6.heap.size < _ by omega) (by simp)).trans (yg0_17 o)
  have zg0_18 := fun o => (Chg.frozen (c18) (p := ⟨w6.heap.size, o, none⟩) (show w6.heap.size < _ by omega) (by simp)).trans (zg0_17 o)
  have tbh0_18 : w16.heap.size < w18.heap.size := by omega
  have yh0_18 := fun o => (Chg.cell (c18) (p := ⟨w16.heap.size, o, none⟩) (show w16.heap.size < _ by omega) (by simp)).trans (yh0_17 o)
  have zh0_18 := fun o => (Chg.frozen (c18) (p := ⟨w16.heap.size, o, none⟩) (show w16.heap.size < _ by omega) (by simp)).trans (zh0_17 o)
  have d18 : Chg [] w w18 := Chg.trans0 (d17) (c18)
  go_wp2_with fail
  refine (heldAction_top a _ _ _ _ _ (by omega) (by omega) Hg0A_18.rd Hg0B_18.rd (by omega)).mono ?_; rintro e w19 ⟨rfl, c19⟩
  have b19 := Chg.size (c19)
  have rl_19 := Rd.chg0 rl_18 (c19) (by omega)
  have Hw0A_19 := Has.keep0 Hw0A_18 (c19)
  have Hw0B_19 := Has.keep0 Hw0B_18 (c19)
  have Hg0A_19 := Has.keep0 Hg0A_18 (c19)
  have Hg0B_19 := Has.keep0 Hg0B_18 (c19)
  have Hh0A_19 := Has.keep0 Hh0A_18 (c19)
  have Hh0B_19 := Has.keep0 Hh0B_18 (c19)
  have tbw0_19 : w3.heap.size < w19.heap.size := by omega
  have yw0_19 := fun o => (Chg.cell (c19) (p := ⟨w3.heap.size, o, none⟩) (show w3.heap.size < _ by omega) (by simp)).trans (yw0_18 o)
  have zw0_19 := fun o => (Chg.frozen (c19) (p := ⟨w3.heap.size, o, none⟩) (show w3.heap.size < _ by omega) (by simp)).trans (zw0_18 o)
  have tbg0_19 : w6.heap.size < w19.heap.size := by omega
  have yg0_19 := fun o => (Chg.cell (c19) (p := ⟨w6.heap.size, o, none⟩) (show w6.heap.size < _ by omega) (by simp)).trans (yg0_18 o)
  have zg0_19 := fun o => (Chg.frozen (c19) (p := ⟨w6.heap.size, o, none⟩) (show w6.heap.size < _ by omega) (by simp)).trans (zg0_18 o)
  have tbh0_19 : w16.heap.size < w19.heap.size := by omega
  have yh0_19 := fun o => (Chg.cell (c19) (p := ⟨w16.heap.size, o, none⟩) (show w16.heap.size < _ by omega) (by simp)).trans (yh0_18 o)
  have zh0_19 := fun o => (Chg.frozen (c19) (p := ⟨w16.heap.size, o, none⟩) (show w16.heap.size < _ by omega) (by simp)).trans (zh0_18 o)
  have d19 : Chg [] w w19 := Chg.trans0 (d18) (c19)
  go_wp2_with fail
  go_ret
  exact ⟨rfl, d19⟩
end Go.Proofs.Ytnkkpmdlcekhhaa
