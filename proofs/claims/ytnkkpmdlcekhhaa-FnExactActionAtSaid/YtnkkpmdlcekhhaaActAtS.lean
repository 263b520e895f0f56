/- ActionAt, of the reference. Written by a program. -/
import Derived.Test.YtnkkpmdlcekhhaaActAt
namespace Go.Proofs.Ytnkkpmdlcekhhaa
open Go.RowKit

def ActAtP_spec (l : List ActionT) : Prop := ∀ (u : Value) (p : Int) (B : Nat) (w : World), actionsW l ≤ 1048576 → -9223372036854775808 ≤ p → p ≤ 9223372036854775807 → Rd w B (actions l) u → B ≤ w.heap.size → Calls Try.prog 30 #[u, .int .i64 p] w (AtPost l p w)
set_option maxRecDepth 100000 in
set_option maxHeartbeats 2000000 in
theorem actionAt_spec_any : ∀ l, ActAtP_spec l := by
  refine ActionT.ind fun l ih => ?_
  intro u p B w hl hp0 hp1 hr hB
  have hll : l.length ≤ 1048576 := by unfold actionsW at hl; omega
  have hsl : sizeL l ≤ 1048576 := by have := sizeL_W l; omega
  obtain ⟨A, cap, rfl, h0, h1, hrow⟩ := actions_row hr
  unfold maxLen at h1
  have IH := Lib.hid ih
  clear ih hr
  go_enter Try.func30, Try.ntmps30
  go_wp2_with fail
  go_loopw [6, 13] (fun v i wr => ∃ (k : Nat) (q : Int), k ≤ l.length ∧ i = .int .i64 k ∧ v = .int .i64 q ∧ -9223372036854775808 ≤ q ∧ q ≤ 9223372036854775807 ∧ Hid ((0 ≤ q ∧ p = sizeL (l.take k) + q) ∨ (p < 0 ∧ (q < 0 ∨ 9223372036854775807 - (sizeL (l.take k) : Int) ≤ q))) ∧ Hid (Chg [] (w.alloc (.cells #[.int .i64 0, .int .i64 0, .int .i64 0, .string ⟨#[]⟩, .string ⟨#[]⟩, .string ⟨#[]⟩, .int .i64 0, .string ⟨#[]⟩, .int .i64 0, .slice none 0 0, .slice none 0 0] 45)) wr)) (fun _ i _ => l.length - (intOf i).toNat)
  case atStart => exact ⟨0, p, Nat.zero_le _, rfl, rfl, by assumption, by assumption, Lib.hid (by simp [sizeL]; omega), Lib.hid (Chg.refl _ _)⟩
  case round =>
    obtain ⟨k, q, hk, rfl, rfl, hq0, hq1, HP, HC⟩ := hrel
    have hc : Chg [] w wr := Chg.trans0 ((Chg.refl _ _).alloc _) HC.out
    obtain ⟨y0, z0, s0⟩ := HC.out.cells
    have t0 : w.heap.size < wr.heap.size := by simp at s0; omega
    have tt : w.heap.size < w.heap.size + 1 := by omega
    have hwB : B ≤ wr.heap.size := by omega
    have hcT : Chg [w.heap.size] w wr := hc.mono (by intro x hx; cases hx)
    by_cases hlt : k < l.length
    · obtain ⟨b, off, u9, u10, rfl, hb, q0, q1, q2, q3, q4, q5, q6, q7, q8, q9, q10, r9, r10⟩ := actions_cells (hrow.chg0 hc hB) k hlt
      have hmem := List.getElem_mem hlt
      have hwt := actionsW_mem hmem
      rw [actionW_eq] at hwt
      obtain ⟨X9, xap9, rfl, _, _, _⟩ := actions_row r9
      obtain ⟨X10, xap10, rfl, _, _, _⟩ := actions_row r10
      have hst := sizeL_take l k hlt
      have hsle := sizeL_le l (k + 1)
      have hsz := l[k].size_eq
      go_wp2_with fail
      refine (planSize_spec_any l[k].A _ B _ (by omega) (r9.chg0 ((Chg.refl _ _).alloc _) hwB) (by simp; omega)).mono ?_
      rintro e w1 ⟨rfl, e1⟩
      obtain ⟨y1, z1, s1⟩ := e1.cells
      have t1 : w.heap.size < w1.heap.size := by simp at s1; omega
      have t1' : wr.heap.size < w1.heap.size := by simp at s1; omega
      have t2 : w.heap.size < wr.heap.size + 1 := by omega
      have t3 : wr.heap.size < wr.heap.size + 1 := by omega
      have hw1 : Chg [] wr w1 := Chg.trans0 ((Chg.refl _ _).alloc _) e1
      go_wp2_with fail
      · -- the action itself
        have hq : q = 0 := by simpa using ‹(q == 0) = true›
        refine (l8Copies_any l[k].A _ B _ (by unfold actionsW at hl; omega) (r9.chg0 hw1 hwB) (by omega)).mono ?_
        intro e w2 G2; obtain ⟨A9, cap9, rfl, n2⟩ := G2.sl
        obtain ⟨y2, z2, s2⟩ := n2.chg.cells
        have hw2 : Chg [] wr w2 := Chg.trans0 hw1 n2.chg
        have t4 : w.heap.size < w2.heap.size := by omega
        have t5 : wr.heap.size < w2.heap.size := by omega
        have c1 : w2.cell? ⟨wr.heap.size, 9, none⟩ = some (.slice X9 l[k].A.length xap9) := by rw [y2 _ _ t1', y1 _ _ (by simp)]; go_simp
        go_wp2_with fail
        have w2s : wr.heap.size < (w2.setCell ⟨wr.heap.size, 9, none⟩ (.slice A9 l[k].A.length cap9)).heap.size := by simpa [World.setCell] using t5
        have w2t : w.heap.size < (w2.setCell ⟨wr.heap.size, 9, none⟩ (.slice A9 l[k].A.length cap9)).heap.size := by simpa [World.setCell] using t4
        refine (l8Copies_any l[k].B _ B _ (by unfold actionsW at hl; omega) (r10.chg0 (by repeat (first | with_reducible exact hw2 | with_reducible refine Chg.drew ?_ | with_reducible refine Chg.alloc ?_ _ | with_reducible refine Chg.setCell ?_ (.inr (by simp)) _)) hwB) (by simp [World.setCell]; omega)).mono ?_
        intro e w3 G3; obtain ⟨A10, cap10, rfl, n3⟩ := G3.sl
        obtain ⟨y3, z3, s3⟩ := n3.chg.cells
        have t6 : w.heap.size < w3.heap.size := by simp [World.setCell] at s3; omega
        have t7 : wr.heap.size < w3.heap.size := by simp [World.setCell] at s3; omega
        have c2 : w3.cell? ⟨wr.heap.size, 9, none⟩ = some (.slice A9 l[k].A.length cap9) := by rw [y3 _ _ w2s]; exact World.cell?_setCell_same _ _ _ c1
        have c3 : w3.cell? ⟨wr.heap.size, 10, none⟩ = some (.slice X10 l[k].B.length xap10) := by
          rw [y3 _ _ w2s, World.cell?_setCell_other _ _ _ _ (by simp), y2 _ _ t1', y1 _ _ (by simp)]; go_simp
        have c4 : (w3.setCell ⟨wr.heap.size, 10, none⟩ (.slice A10 l[k].B.length cap10)).cell? ⟨wr.heap.size, 10, none⟩ = some (.slice A10 l[k].B.length cap10) := World.cell?_setCell_same _ _ _ c3
        have tne : w.heap.size ≠ wr.heap.size := by omega
        have tne' : wr.heap.size ≠ w.heap.size := by omega
        have cz : ∀ o, w3.cell? ⟨w.heap.size, o, none⟩ = (w.alloc (.cells #[.int .i64 0, .int .i64 0, .int .i64 0, .string ⟨#[]⟩, .string ⟨#[]⟩, .string ⟨#[]⟩, .int .i64 0, .string ⟨#[]⟩, .int .i64 0, .slice none 0 0, .slice none 0 0] 45)).cell? ⟨w.heap.size, o, none⟩ := by
          intro o
          rw [y3 _ _ w2t, World.cell?_setCell_far _ _ _ _ tne', y2 _ _ t1, y1 _ _ (by simp; omega), World.cell?_alloc_lt _ _ _ t0, y0 _ _ (by simp)]
        go_wp2_with fail
        refine bodyPost_ret (v := .tuple #[.agg #[.int .i64 (l[k].op), .int .i64 (l[k].slot), .int .i64 (l[k].other), .string (l[k].word), .string (l[k].call.method), .string (l[k].call.key), .int .i64 (l[k].call.value), .string (l[k].call.text), .int .i64 (l[k].face), .slice A9 l[k].A.length cap9, .slice A10 l[k].B.length cap10], .bool true]) (by simp only [results, Try.results30]; go_simp) rfl ?_
        refine ⟨l[k], true, A9, cap9, A10, cap10, by rw [atI_self l k hlt p (by have := HP.out; omega)]; exact ⟨rfl, rfl⟩, rfl, ?_⟩
        rw [actionF_parts]
        refine NewT.start (T := [w.heap.size, wr.heap.size]) ?_ (by intro x hx; simp at hx; omega)
        refine NewT.cons_v ?_
        refine NewT.cons_v ?_
        refine NewT.cons_v ?_
        refine NewT.cons_v ?_
        refine NewT.cons_v ?_
        refine NewT.cons_v ?_
        refine NewT.cons_v ?_
        refine NewT.cons_v ?_
        refine NewT.cons_v ?_
        refine NewT.cons_new n2 (by intro x hx; simp at hx ⊢; omega) ((Chg.trans0 hc hw1).mono (by intro x hx; cases hx)) (Chg.refl _ _) ?_
        refine NewT.cons_new n3 (by intro x hx; simp [World.setCell] at hx ⊢; omega) (by repeat (first | with_reducible exact Chg.refl _ _ | with_reducible refine Chg.drew ?_ | with_reducible refine Chg.alloc ?_ _ | with_reducible refine Chg.setCell ?_ (.inl (by simp)) _)) (Chg.refl _ _) ?_
        refine NewT.nil ?_
        repeat (first | with_reducible exact Chg.refl _ _ | with_reducible refine Chg.drew ?_ | with_reducible refine Chg.alloc ?_ _ | with_reducible refine Chg.setCell ?_ (.inl (by simp)) _)
      · -- in A
        refine ((IH.out _ hmem).1 _ (q - 1) B _ (by unfold actionsW at hl; omega) (by omega) (by omega) (r9.chg0 hw1 hwB) (by omega)).mono ?_
        rintro e w2 ⟨a, bb, A9, cap9, A10, cap10, hab, rfl, n2⟩
        obtain ⟨y2, z2, s2⟩ := n2.chg.cells
        have t4 : w.heap.size < w2.heap.size := by omega
        go_wp2_with fail
        refine bodyPost_ret (v := .tuple #[.agg #[.int .i64 a.op, .int .i64 a.slot, .int .i64 a.other, .string a.word, .string a.call.method, .string a.call.key, .int .i64 a.call.value, .string a.call.text, .int .i64 a.face, .slice A9 a.A.length cap9, .slice A10 a.B.length cap10], .bool bb]) (by simp only [results, Try.results30]; go_simp) rfl ?_
        exact ⟨a, bb, A9, cap9, A10, cap10, by rw [atI_A l k hlt p (q - 1) (by omega) (by omega) (by have := HP.out; omega)]; exact hab, rfl, NewT.start (T := [w.heap.size]) (NewT.last_new n2 (by intro x hx; simp at hx ⊢; omega) ((Chg.trans0 hc hw1).mono (by intro x hx; cases hx)) (by repeat (first | with_reducible exact Chg.refl _ _ | with_reducible refine Chg.drew ?_ | with_reducible refine Chg.alloc ?_ _ | with_reducible refine Chg.setCell ?_ (.inl (by simp)) _))) (by intro x hx; simp at hx; omega)⟩
      · -- beyond A
        refine (planSize_spec_any l[k].B _ B _ (by omega) (r10.chg0 hw1 hwB) (by omega)).mono ?_
        rintro e w3 ⟨rfl, e3⟩
        obtain ⟨y3, z3, s3⟩ := e3.cells
        have t5 : w.heap.size < w3.heap.size := by omega
        have t6 : wr.heap.size < w3.heap.size := by omega
        have hw3 : Chg [] wr w3 := Chg.trans0 hw1 e3
        go_wp2_with fail
        · refine ((IH.out _ hmem).2 _ (q - 1 - sizeL l[k].A) B _ (by unfold actionsW at hl; omega) (by omega) (by omega) (r10.chg0 hw3 hwB) (by omega)).mono ?_
          rintro e w2 ⟨a, bb, A9, cap9, A10, cap10, hab, rfl, n2⟩
          obtain ⟨y2, z2, s2⟩ := n2.chg.cells
          have t4 : w.heap.size < w2.heap.size := by omega
          go_wp2_with fail
          refine bodyPost_ret (v := .tuple #[.agg #[.int .i64 a.op, .int .i64 a.slot, .int .i64 a.other, .string a.word, .string a.call.method, .string a.call.key, .int .i64 a.call.value, .string a.call.text, .int .i64 a.face, .slice A9 a.A.length cap9, .slice A10 a.B.length cap10], .bool bb]) (by simp only [results, Try.results30]; go_simp) rfl ?_
          exact ⟨a, bb, A9, cap9, A10, cap10, by rw [atI_B l k hlt p (q - 1 - sizeL l[k].A) (by omega) (by omega) (by have := HP.out; omega)]; exact hab, rfl, NewT.start (T := [w.heap.size]) (NewT.last_new n2 (by intro x hx; simp at hx ⊢; omega) ((Chg.trans0 hc hw3).mono (by intro x hx; cases hx)) (by repeat (first | with_reducible exact Chg.refl _ _ | with_reducible refine Chg.drew ?_ | with_reducible refine Chg.alloc ?_ _ | with_reducible refine Chg.setCell ?_ (.inl (by simp)) _))) (by intro x hx; simp at hx; omega)⟩
        · refine (planSize_spec_any l[k].B _ B _ (by omega) (r10.chg0 hw3 hwB) (by omega)).mono ?_
          rintro e w4 ⟨rfl, e4⟩
          have hw4 : Chg [] wr w4 := Chg.trans0 hw3 e4
          go_wp2_with fail
          go_roundw
          case rel => exact ⟨k + 1, _, by omega, by go_num, rfl, by omega, by omega, Lib.hid (by have := HP.out; omega), Lib.hid (Chg.trans0 HC.out hw4)⟩
          case measure => simp [intOf]; omega
      · -- below
        refine (planSize_spec_any l[k].B _ B _ (by omega) (r10.chg0 hw1 hwB) (by omega)).mono ?_
        rintro e w4 ⟨rfl, e4⟩
        have hw4 : Chg [] wr w4 := Chg.trans0 hw1 e4
        have hne : q ≠ 0 := by simpa using ‹(q == 0) = false›
        go_wp2_with fail
        go_roundw
        case rel => exact ⟨k + 1, _, by omega, by go_num, rfl, by simp only [wrap64]; omega, by simp only [wrap64]; omega, Lib.hid (by have := HP.out; simp only [wrap64]; omega), Lib.hid (Chg.trans0 HC.out hw4)⟩
        case measure => simp [intOf]; omega
    · obtain rfl : k = l.length := by omega
      rw [List.take_length] at HP
      go_wp2_with fail
      refine bodyPost_ret (v := .tuple #[.agg #[.int .i64 0, .int .i64 0, .int .i64 0, .string ⟨#[]⟩, .string ⟨#[]⟩, .string ⟨#[]⟩, .int .i64 0, .string ⟨#[]⟩, .int .i64 0, .slice none 0 0, .slice none 0 0], .bool false]) (by simp only [results, Try.results30]; go_simp) rfl ?_
      exact ⟨zeroA, false, none, 0, none, 0, by rw [atI_none l p (by have := HP.out; omega)]; exact ⟨rfl, rfl⟩, rfl, NewT.start (T := [w.heap.size]) (NewT.last_new (zeroA_new (Chg.refl [] wr)) (by intro x hx; simp at hx ⊢; omega) hcT (by repeat (first | with_reducible exact Chg.refl _ _ | with_reducible refine Chg.drew ?_ | with_reducible refine Chg.alloc ?_ _ | with_reducible refine Chg.setCell ?_ (.inl (by simp)) _))) (by intro x hx; simp at hx; omega)⟩
end Go.Proofs.Ytnkkpmdlcekhhaa
