/- RunPlan of the program: what it answers. Conditions: bounds on sizes; the library's variables stand. Written by a program. -/
import Derived.Test.YtdlkbomojjmnlaaGreatDoorListI
import Derived.Test.YtdlkbomojjmnlaaGreatDoorPlOk
import Derived.Test.YtdlkbomojjmnlaaGreatDoorParts
set_option maxRecDepth 100000
set_option maxHeartbeats 8000000
namespace Go.Proofs.YtdlkbomojjmnlaaGreatDoor
open Go.RowKit
/-- An end, slots of one's own, a number. -/
def RunGives (r : EndT × List SlotT × Int) (w : World) (e : Ending) (w' : World) : Prop := ∃ A cap, e = .returned (.tuple #[.agg #[.int .i64 r.1.code, .int .i64 r.1.place, .int .i64 r.1.want, .int .i64 r.1.had], .slice A r.2.1.length cap, .int .i64 r.2.2]) ∧ New w w' (slots r.2.1) (.slice A r.2.1.length cap)
theorem runT_ok {l : List SlotT} {p : List ActionT} {input : List Int} (h1 : SlotsOk l) (h2 : PlanOk p) : runT l p input = ((runL input p 0 ⟨l, 0⟩).2, (runL input p 0 ⟨l, 0⟩).1.slots, (runL input p 0 ⟨l, 0⟩).1.taken) := by unfold runT; rw [if_pos ⟨h1, h2⟩]
theorem runT_no {l : List SlotT} {p : List ActionT} {input : List Int} (h : ¬ SlotsOk l ∨ ¬ PlanOk p) : runT l p input = (⟨3, 0, 0, 0⟩, l, 0) := by unfold runT; rw [if_neg (by intro k; rcases h with h | h; exact h k.1; exact h k.2)]
/-- Three slots of one's own. -/
theorem slots3 {l : List SlotT} (h3 : l.length = 3) {w : World} {e : Ending} {w' : World} (h : Gives (slots l) w e w') : ∃ g cap S, e = .returned (.slice (some ⟨g, 0, none⟩) 3 cap) ∧ Has w' (slots l) (.slice (some ⟨g, 0, none⟩) 3 cap) S ∧ (∀ x, x ∈ S → w.heap.size ≤ x) ∧ Chg [] w w' := by
 obtain ⟨A, cap, rfl, S, h1, h2, h4⟩ := h.sl
 obtain ⟨g, rfl, _⟩ := h1.own (by omega)
 unfold slots
 rw [h3] at h1 ⊢
 exact ⟨g, cap, S, rfl, h1, h2, h4⟩
theorem runPlan_impl_any (l : List SlotT) (m : List ActionT) (input : List Int) (us um ui : Value) (B : Nat) (w : World) (hl : l.length ≤ 1048576) (sm : ∀ s ∈ l, SlotSmall s) (hW : actionsW m ≤ 1048576) (rs : Rd w B (slots l) us) (rm : Rd w B (actions m) um) (ri : Rd w B (ints input) ui) (hB : B ≤ w.heap.size) (hE : Env w) :
  Calls Tryz.prog 13 #[us, um, ui] w (RunGives (runT l m input) w) := by
 obtain ⟨As, cs, rfl, _, _, _⟩ := slots_row rs
 obtain ⟨Am, cm, rfl, _, _, _⟩ := actions_row rm
 obtain ⟨Ai, ci, rfl, _, _, _⟩ := ints_row ri
 have isl := fun W (hW : Chg [] w W) => isSlots_impl_any l _ B W (rs.chg0 hW hB) (Nat.le_trans hB hW.size) sm
 have CP := Lib.hid (fun W (hW : Chg [] w W) => copySlots_any l _ B W hl sm (rs.chg0 hW hB) (Nat.le_trans hB hW.size))
 have ipl := fun W (hW2 : Chg [] w W) => isPlan_impl_any m _ B W (hE.keep hW2) hW (rm.chg0 hW2 hB) (Nat.le_trans hB hW2.size)
 by_cases n1 : SlotsOk l
 ·have IS := Lib.hid (fun W hW => (isl W hW).mono (BoolPost.pos n1))
  by_cases n2 : PlanOk m
  ·have IP := Lib.hid (fun W hW => (ipl W hW).mono (BoolPost.pos n2))
   have h3 : l.length = 3 := n1.1
   have CP3 := Lib.hid (fun W (hW : Chg [] w W) => (CP.out W hW).mono (fun _ _ h => slots3 h3 h))
   have EB := Lib.hid (EnvB.of hE)
   have hcost := plan_cost n2
   have LI := Lib.hid (fun r g cap S W (h1 : RB W r g cap (.slice Ai input.length ci) l 0 S) (hW0 : Chg [] w W) (hE0 : EnvB w.heap.size W) (hS : ∀ y, y ∈ r :: S → w.heap.size ≤ y) =>
    list_any m (.slice Am m.length cm) 0 r g cap (.slice Ai input.length ci) input l 0 S W w.heap.size n2.2.2 hW n1 h1 ((rm.chg0 hW0 hB).mono hB) ⟨hE0, hW0.size, (ri.chg0 hW0 hB).mono hB⟩ hS (Int.le_refl _) (by have := n2.1; omega) (Int.le_refl _) (by omega))
   rw [runT_ok n1 n2]
   obtain ⟨q, hq⟩ : ∃ q, q = runL input m 0 ⟨l, 0⟩ := ⟨_, rfl⟩
   rw [← hq] at LI ⊢
   have HL3 := Lib.hid h3
   clear h3 isl ipl rs rm ri hE hcost hq n1 n2 CP sm
   go_enter Tryz.func13, Tryz.ntmps13
   go_wp2_with fail
   refine (IS.out _ Chg.now).mono ?_
   rintro e w1 ⟨rfl, c1⟩
   have s1 := c1.size
   have v1 : w.heap.size + 1 ≤ w1.heap.size := by (try simp at s1) <;> omega
   have yc1 := c1.ce w.heap.size
   have zc1 := c1.fe w.heap.size
   have xc1 : w.heap.size < w1.heap.size := by omega
   clear s1
   have D1 : Hid (Chg [] w w1) := Lib.hid (Chg.trans0 Chg.now c1)
   clear c1
   go_wp2_with fail
   refine (IP.out _ (Chg.to D1.out)).mono ?_
   rintro e w2 ⟨rfl, c2⟩
   have s2 := c2.size
   have v2 : w1.heap.size ≤ w2.heap.size := by (try simp at s2) <;> omega
   have yc2 := c2.ce w.heap.size
   have zc2 := c2.fe w.heap.size
   have xc2 : w.heap.size < w2.heap.size := by omega
   clear s2
   have D2 : Hid (Chg [] w w2) := Lib.hid (Chg.trans0 (Chg.to D1.out) c2)
   clear c2
   go_wp2_with fail
   refine (CP3.out _ (Chg.to D2.out)).mono ?_
   rintro e w3 ⟨g, cap, S, rfl, hS, lS, c3⟩
   have s3 := c3.size
   have v3 : w2.heap.size ≤ w3.heap.size := by (try simp at s3) <;> omega
   have yc3 := c3.ce w.heap.size
   have zc3 := c3.fe w.heap.size
   have xc3 : w.heap.size < w3.heap.size := by omega
   clear s3
   have D3 : Hid (Chg [] w w3) := Lib.hid (Chg.trans0 (Chg.to D2.out) c3)
   have lo3 : Hid (∀ x, x ∈ S → w.heap.size + 1 ≤ x ∧ x < w3.heap.size) := Lib.hid (fun x hx => ⟨by have := lS x hx; (try simp at this) <;> omega, hS.lt x hx⟩)
   have HS := Lib.hid hS
   clear hS lS c3
   go_wp2_with fail
   refine (LI.out w3.heap.size g cap S _ ?_ (Chg.to D3.out) (EB.out.keep (S := []) (Chg.to D3.out) (by simp) (Nat.le_refl _)) (fun y hy => by
    rcases List.mem_cons.1 hy with rfl | hy
    ·omega
    ·have := lo3.out y hy; omega)).mono ?_
   ·exact ⟨by go_simp, by go_simp, by go_simp, by go_simp, HS.out.keep0 Chg.now, HL3.out, fun h => by have := lo3.out _ h; omega⟩
   rintro e w4 ⟨S4, rfl, rb4, hS4, c4⟩
   have s4 := c4.size
   have v4 : w3.heap.size + 1 ≤ w4.heap.size := by (try simp at s4) <;> omega
   have yc4 := c4.ce w.heap.size (hn := fun hx => by
    rcases List.mem_cons.1 hx with h | h
    ·(try simp at h) <;> omega
    ·have := lo3.out _ h; (try simp at this) <;> omega)
   have zc4 := c4.fe w.heap.size (hn := fun hx => by
    rcases List.mem_cons.1 hx with h | h
    ·(try simp at h) <;> omega
    ·have := lo3.out _ h; (try simp at this) <;> omega)
   have xc4 : w.heap.size < w4.heap.size := by omega
   clear s4
   have lo4 : Hid (∀ x, x ∈ S4 → w.heap.size + 1 ≤ x) := Lib.hid (fun x hx => by rcases hS4 x hx with h | h; (have := lo3.out x h; omega); ((try simp at h) <;> omega))
   have D4 : Hid (Chg [] w w4) := Lib.hid ((Chg.trans (S := w3.heap.size :: S) (Chg.mono (S := []) (Chg.to D3.out) (by simp)) c4 (fun x hx => .inl hx)).mono (fun x hx => .inr (by
    rcases List.mem_cons.1 hx with rfl | h
    ·omega
    ·have := lo3.out x h; omega)))
   obtain ⟨b0, b1, b2, bf2, bs, bl, br⟩ := rb4
   have hr4 : w3.heap.size < w4.heap.size := lt_of_cell b0
   have HS4 := Lib.hid bs
   have ec0 : w4.cell? ⟨w.heap.size, 0, none⟩ = some (.int .i64 0) := (yc4 0).trans (by go_simp)
   have ec1 : w4.cell? ⟨w.heap.size, 1, none⟩ = some (.int .i64 0) := (yc4 1).trans (by go_simp)
   have ec2 : w4.cell? ⟨w.heap.size, 2, none⟩ = some (.int .i64 0) := (yc4 2).trans (by go_simp)
   have ec3 : w4.cell? ⟨w.heap.size, 3, none⟩ = some (.int .i64 0) := (yc4 3).trans (by go_simp)
   clear yc4 hS4 c4 bs br
   have u4 : w.heap.size < w4.heap.size + 1 := by omega
   have u5 : w3.heap.size < w4.heap.size + 1 := by omega
   go_wp2_with fail
   go_region
   all_goals
    go_wp2_with fail
    refine bodyPost_ret (v := .tuple #[.agg #[.int .i64 q.2.code, .int .i64 q.2.place, .int .i64 q.2.want, .int .i64 q.2.had], .slice (some ⟨g, 0, none⟩) 3 cap, .int .i64 q.1.taken]) (by simp only [results, Tryz.results13]; go_simp) rfl ?_
    exact ⟨some ⟨g, 0, none⟩, cap, by dsimp only; rw [bl], S4, by dsimp only; rw [bl]; exact HS4.out.keep (S0 := [w.heap.size]) Chg.now (fun x hx => by have := lo4.out x hx; simp; omega), fun x hx => by have := lo4.out x hx; omega, (Chg.to D4.out)⟩
  ·have IP := Lib.hid (fun W hW => (ipl W hW).mono (BoolPost.neg n2))
   clear isl ipl rs rm ri hE sm
   go_enter Tryz.func13, Tryz.ntmps13
   go_wp2_with fail
   refine (IS.out _ Chg.now).mono ?_
   rintro e w1 ⟨rfl, c1⟩
   have s1 := c1.size
   have v1 : w.heap.size + 1 ≤ w1.heap.size := by (try simp at s1) <;> omega
   have yc1 := c1.ce w.heap.size
   have zc1 := c1.fe w.heap.size
   have xc1 : w.heap.size < w1.heap.size := by omega
   clear s1
   have D1 : Hid (Chg [] w w1) := Lib.hid (Chg.trans0 Chg.now c1)
   clear c1
   go_wp2_with fail
   refine (IP.out _ (Chg.to D1.out)).mono ?_
   rintro e w2 ⟨rfl, c2⟩
   have s2 := c2.size
   have v2 : w1.heap.size ≤ w2.heap.size := by (try simp at s2) <;> omega
   have yc2 := c2.ce w.heap.size
   have zc2 := c2.fe w.heap.size
   have xc2 : w.heap.size < w2.heap.size := by omega
   clear s2
   have D2 : Hid (Chg [] w w2) := Lib.hid (Chg.trans0 (Chg.to D1.out) c2)
   clear c2
   go_wp2_with fail
   refine (CP.out _ (Chg.to D2.out)).mono ?_
   rintro e w5 hG
   obtain ⟨A5, cap5, rfl, n5⟩ := hG.sl
   have c5 := n5.chg
   have s5 := c5.size
   have v5 : w2.heap.size ≤ w5.heap.size := by (try simp at s5) <;> omega
   have yc5 := c5.ce w.heap.size
   have zc5 := c5.fe w.heap.size
   have xc5 : w.heap.size < w5.heap.size := by omega
   clear s5
   skip
   obtain ⟨S5, h5, l5, _⟩ := n5
   have H5 := Lib.hid h5
   have L5 := Lib.hid l5
   have D5 : Hid (Chg [] w w5) := Lib.hid (Chg.trans0 (Chg.to D2.out) c5)
   clear h5 l5 c5 hG
   have ec0 : w5.cell? ⟨w.heap.size, 0, none⟩ = some (.int .i64 0) := (yc5 0).trans (by go_simp)
   have ec1 : w5.cell? ⟨w.heap.size, 1, none⟩ = some (.int .i64 0) := (yc5 1).trans (by go_simp)
   have ec2 : w5.cell? ⟨w.heap.size, 2, none⟩ = some (.int .i64 0) := (yc5 2).trans (by go_simp)
   have ec3 : w5.cell? ⟨w.heap.size, 3, none⟩ = some (.int .i64 0) := (yc5 3).trans (by go_simp)
   clear yc5
   go_wp2_with fail
   refine bodyPost_ret (v := .tuple #[.agg #[.int .i64 3, .int .i64 0, .int .i64 0, .int .i64 0], .slice A5 l.length cap5, .int .i64 0]) (by simp only [results, Tryz.results13]; go_simp) rfl ?_
   rw [runT_no (.inr n2)]
   exact ⟨A5, cap5, rfl, S5, H5.out.keep (S0 := [w.heap.size]) Chg.now (fun x hx => by have := L5.out x hx; (try simp at this) <;> simp <;> omega), fun x hx => by have := L5.out x hx; (try simp at this) <;> omega, (Chg.to D5.out)⟩
 ·have IS := Lib.hid (fun W hW => (isl W hW).mono (BoolPost.neg n1))
  clear isl ipl rs rm ri hE sm
  go_enter Tryz.func13, Tryz.ntmps13
  go_wp2_with fail
  refine (IS.out _ Chg.now).mono ?_
  rintro e w1 ⟨rfl, c1⟩
  have s1 := c1.size
  have v1 : w.heap.size + 1 ≤ w1.heap.size := by (try simp at s1) <;> omega
  have yc1 := c1.ce w.heap.size
  have zc1 := c1.fe w.heap.size
  have xc1 : w.heap.size < w1.heap.size := by omega
  clear s1
  have D1 : Hid (Chg [] w w1) := Lib.hid (Chg.trans0 Chg.now c1)
  clear c1
  go_wp2_with fail
  refine (CP.out _ (Chg.to D1.out)).mono ?_
  rintro e w5 hG
  obtain ⟨A5, cap5, rfl, n5⟩ := hG.sl
  have c5 := n5.chg
  have s5 := c5.size
  have v5 : w1.heap.size ≤ w5.heap.size := by (try simp at s5) <;> omega
  have yc5 := c5.ce w.heap.size
  have zc5 := c5.fe w.heap.size
  have xc5 : w.heap.size < w5.heap.size := by omega
  clear s5
  skip
  obtain ⟨S5, h5, l5, _⟩ := n5
  have H5 := Lib.hid h5
  have L5 := Lib.hid l5
  have D5 : Hid (Chg [] w w5) := Lib.hid (Chg.trans0 (Chg.to D1.out) c5)
  clear h5 l5 c5 hG
  have ec0 : w5.cell? ⟨w.heap.size, 0, none⟩ = some (.int .i64 0) := (yc5 0).trans (by go_simp)
  have ec1 : w5.cell? ⟨w.heap.size, 1, none⟩ = some (.int .i64 0) := (yc5 1).trans (by go_simp)
  have ec2 : w5.cell? ⟨w.heap.size, 2, none⟩ = some (.int .i64 0) := (yc5 2).trans (by go_simp)
  have ec3 : w5.cell? ⟨w.heap.size, 3, none⟩ = some (.int .i64 0) := (yc5 3).trans (by go_simp)
  clear yc5
  go_wp2_with fail
  refine bodyPost_ret (v := .tuple #[.agg #[.int .i64 3, .int .i64 0, .int .i64 0, .int .i64 0], .slice A5 l.length cap5, .int .i64 0]) (by simp only [results, Tryz.results13]; go_simp) rfl ?_
  rw [runT_no (.inl n1)]
  exact ⟨A5, cap5, rfl, S5, H5.out.keep (S0 := [w.heap.size]) Chg.now (fun x hx => by have := L5.out x hx; (try simp at this) <;> simp <;> omega), fun x hx => by have := L5.out x hx; (try simp at this) <;> omega, (Chg.to D5.out)⟩
end Go.Proofs.YtdlkbomojjmnlaaGreatDoor
