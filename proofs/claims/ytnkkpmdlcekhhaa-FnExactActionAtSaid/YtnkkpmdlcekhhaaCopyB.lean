/- Copies of actions, of the reference. Written by a program. -/
import Derived.Test.YtnkkpmdlcekhhaaTAction
import Derived.Test.YtnkkpmdlcekhhaaApp
namespace Go.Proofs.Ytnkkpmdlcekhhaa
open Go.RowKit
def LCopyP (l : List ActionT) : Prop := ∀ (u : Value) (B : Nat) (w : World), actionsW l ≤ 1048576 → Rd w B (actions l) u → B ≤ w.heap.size → Calls Try.prog 54 #[u] w (Gives (actions l) w)
set_option maxRecDepth 100000 in
set_option maxHeartbeats 2000000 in
theorem l8Copies_any : ∀ l, LCopyP l := by
  refine ActionT.ind fun l ih => ?_
  intro u B w hl hr hB
  have hll : l.length ≤ 1048576 := by unfold actionsW at hl; omega
  obtain ⟨A, cap, rfl, h0, h1, hrow⟩ := actions_row hr
  unfold maxLen at h1
  have IH := Lib.hid ih
  clear ih hr
  go_enter Try.func54, Try.ntmps54
  go_wp2_with fail
  go_loopw [3, 9] (fun v i wr => ∃ (k : Nat) (A' : Option Addr) (cap' : Nat), k ≤ l.length ∧ i = .int .i64 k ∧ v = .slice A' k cap' ∧ App w wr 45 11 (.slice A' k cap') k ((l.take k).flatMap actionF)) (fun _ i _ => l.length - (intOf i).toNat)
  case atStart => exact ⟨0, _, 0, Nat.zero_le _, rfl, rfl, App.empty w _ _ (Chg.refl _ _)⟩
  case round =>
    obtain ⟨k, A', cap', hk, rfl, rfl, hh⟩ := hrel
    by_cases hlt : k < l.length
    · obtain ⟨b, off, u9, u10, rfl, hb, q0, q1, q2, q3, q4, q5, q6, q7, q8, q9, q10, r9, r10⟩ := actions_cells (hrow.chg0 hh.chg hB) k hlt
      have hmem := List.getElem_mem hlt
      have hwt := actionsW_mem hmem
      rw [actionW_eq] at hwt
      obtain ⟨X9, xap9, rfl, _, _, _⟩ := actions_row r9
      obtain ⟨X10, xap10, rfl, _, _, _⟩ := actions_row r10
      have hsz := hh.chg.size
      go_wp2_with fail
      refine ((IH.out _ hmem).1 _ B _ (by unfold actionsW at hl; omega) (r9.chg0 ((Chg.refl _ _).alloc _) (by omega)) (by simp; omega)).mono ?_
      intro e w1 G1; obtain ⟨A9, cap9, rfl, n1⟩ := G1.sl
      obtain ⟨y1, z1, s1⟩ := n1.chg.cells
      have d1 : Chg [] wr w1 := Chg.trans0 ((Chg.refl _ _).alloc _) n1.chg
      have t1 : wr.heap.size < w1.heap.size := by simp at s1; omega
      have c1 : w1.cell? ⟨wr.heap.size, 9, none⟩ = some (.slice X9 l[k].A.length xap9) := by rw [y1 _ _ (by simp)]; go_simp
      have tt : wr.heap.size < wr.heap.size + 1 := by omega
      go_wp2_with fail
      have w1s : wr.heap.size < (w1.setCell ⟨wr.heap.size, 9, none⟩ (.slice A9 l[k].A.length cap9)).heap.size := by simpa [World.setCell] using t1
      refine ((IH.out _ hmem).2 _ B _ (by unfold actionsW at hl; omega) (r10.chg0 (by repeat (first | with_reducible exact d1 | with_reducible refine Chg.drew ?_ | with_reducible refine Chg.alloc ?_ _ | with_reducible refine Chg.setCell ?_ (.inr (by simp; try omega)) _)) (by omega)) (by simp [World.setCell]; omega)).mono ?_
      intro e w2 G2; obtain ⟨A10, cap10, rfl, n2⟩ := G2.sl
      obtain ⟨y2, z2, s2⟩ := n2.chg.cells
      have t2 : wr.heap.size < w2.heap.size := by simp [World.setCell] at s2; omega
      have c2 : w2.cell? ⟨wr.heap.size, 9, none⟩ = some (.slice A9 l[k].A.length cap9) := by rw [y2 _ _ w1s]; exact World.cell?_setCell_same _ _ _ c1
      have c3 : w2.cell? ⟨wr.heap.size, 10, none⟩ = some (.slice X10 l[k].B.length xap10) := by
        rw [y2 _ _ w1s, World.cell?_setCell_other _ _ _ _ (by simp), y1 _ _ (by simp)]; go_simp
      have c4 : (w2.setCell ⟨wr.heap.size, 10, none⟩ (.slice A10 l[k].B.length cap10)).cell? ⟨wr.heap.size, 10, none⟩ = some (.slice A10 l[k].B.length cap10) := World.cell?_setCell_same _ _ _ c3
      have nn : NewL wr (w2.setCell ⟨wr.heap.size, 10, none⟩ (.slice A10 l[k].B.length cap10)) (actionF l[k]) [.int .i64 (l[k].op), .int .i64 (l[k].slot), .int .i64 (l[k].other), .string (l[k].word), .string (l[k].call.method), .string (l[k].call.key), .int .i64 (l[k].call.value), .string (l[k].call.text), .int .i64 (l[k].face), .slice A9 l[k].A.length cap9, .slice A10 l[k].B.length cap10] := by
        rw [actionF_parts]
        refine NewT.start (T := [wr.heap.size]) ?_ (by intro x hx; simp at hx; omega)
        refine NewT.cons_v ?_
        refine NewT.cons_v ?_
        refine NewT.cons_v ?_
        refine NewT.cons_v ?_
        refine NewT.cons_v ?_
        refine NewT.cons_v ?_
        refine NewT.cons_v ?_
        refine NewT.cons_v ?_
        refine NewT.cons_v ?_
        refine NewT.cons_new n1 (by intro x hx; simp at hx ⊢; omega) (by repeat (first | with_reducible exact Chg.refl _ _ | with_reducible refine Chg.drew ?_ | with_reducible refine Chg.alloc ?_ _ | with_reducible refine Chg.setCell ?_ (.inl (by simp)) _)) (Chg.refl _ _) ?_
        refine NewT.cons_new n2 (by intro x hx; simp at hx ⊢; omega) (by repeat (first | with_reducible exact Chg.refl _ _ | with_reducible refine Chg.drew ?_ | with_reducible refine Chg.alloc ?_ _ | with_reducible refine Chg.setCell ?_ (.inl (by simp)) _)) (Chg.refl _ _) ?_
        refine NewT.nil ?_
        repeat (first | with_reducible exact Chg.refl _ _ | with_reducible refine Chg.drew ?_ | with_reducible refine Chg.alloc ?_ _ | with_reducible refine Chg.setCell ?_ (.inl (by simp)) _)
      have hone : ∀ u ∈ ([.int .i64 (l[k].op), .int .i64 (l[k].slot), .int .i64 (l[k].other), .string (l[k].word), .string (l[k].call.method), .string (l[k].call.key), .int .i64 (l[k].call.value), .string (l[k].call.text), .int .i64 (l[k].face), .slice A9 l[k].A.length cap9, .slice A10 l[k].B.length cap10] : List Value), u.oneCell' = true := by intro u hu; simp at hu; rcases hu with rfl | rfl | rfl | rfl | rfl | rfl | rfl | rfl | rfl | rfl | rfl <;> rfl
      have hnw : ∀ j u, ([.int .i64 (l[k].op), .int .i64 (l[k].slot), .int .i64 (l[k].other), .string (l[k].word), .string (l[k].call.method), .string (l[k].call.key), .int .i64 (l[k].call.value), .string (l[k].call.text), .int .i64 (l[k].face), .slice A9 l[k].A.length cap9, .slice A10 l[k].B.length cap10] : List Value)[j]? = some u → ((w2.setCell ⟨wr.heap.size, 10, none⟩ (.slice A10 l[k].B.length cap10)).alloc (.cells #[.int .i64 (l[k].op), .int .i64 (l[k].slot), .int .i64 (l[k].other), .string (l[k].word), .string (l[k].call.method), .string (l[k].call.key), .int .i64 (l[k].call.value), .string (l[k].call.text), .int .i64 (l[k].face), .slice A9 l[k].A.length cap9, .slice A10 l[k].B.length cap10] 45)).cell? ⟨w2.heap.size, j, none⟩ = some u := by
        intro j u hj
        have hs : (w2.setCell ⟨wr.heap.size, 10, none⟩ (.slice A10 l[k].B.length cap10)).heap.size = w2.heap.size := by simp [World.setCell]
        rw [← hs, World.cell?_alloc_mark]
        simpa using hj
      have HNW := Lib.hid hnw; have HONE := Lib.hid hone
      clear hnw hone
      go_wp2_with (at_builtin; refine wpList_app rfl (.tmp 21) (.tmp 23) _ rfl 45 _ 11 152 Try.underlying29 action_info rfl (by omega) hh (nn.later ((Chg.refl _ _).alloc _)) rfl w2.heap.size 1 rfl rfl HNW.out HONE.out (by simp; omega) (by simp; try omega) ?_; intro A2 cap2 w3 hA2)
      go_roundw
      case rel => exact ⟨k + 1, A2, cap2, by omega, by go_num, by go_num, by rw [List.take_succ_eq_append_getElem hlt, List.flatMap_append]; simpa using hA2⟩
      case measure => simp [intOf]; omega
    · obtain rfl : k = l.length := by omega
      rw [List.take_length] at hh
      go_wp2_with fail
      go_ret
      exact ⟨_, rfl, hh.new⟩

end Go.Proofs.Ytnkkpmdlcekhhaa
