/- Plans and texts of plans, drawn: DrawFormatPlan, DrawParsePlan of the reference. Conditions: at most 4096 bytes, which read as bytes. Written by a program. -/
import Derived.Test.YtkgffhlpcjjobaaGreatDoorDraw5
import Derived.Test.YtkgffhlpcjjobaaGreatDoorTexts2
namespace Go.Proofs.YtkgffhlpcjjobaaGreatDoor
open Go.RowKit

theorem NewS.new0 {k : Nat} {w w1 w' : World} {d : Dat} {u : Value} (h : NewS [k] w1 w' d u) (hc : Chg [] w w1) (hk : w.heap.size ≤ k) : New w w' d u := by
  obtain ⟨S, h1, h2, h3⟩ := h
  exact ⟨S, h1, fun x hx => Nat.le_trans hc.size (h2 x hx), (hc.mono (T := [k]) (by simp)).trans h3 (fun _ h => .inl h) |>.mono (fun y hy => .inr (by simp at hy; omega))⟩
theorem Box.strs {x : World} {g : Nat} {L : List ByteArray} (B : Box x g (L.map Value.string)) : g < x.heap.size ∧ ∀ j (hj : j < L.length), x.cell? ⟨g, j, none⟩ = some (.string L[j]) := ⟨B.lt, fun j hj => B.c j _ (by simp [hj])⟩
theorem cur_new {k : Nat} {w w1 w' : World} (h : Chg [k] w1 w') (hc : Chg [] w w1) (hk : w.heap.size ≤ k) : Chg [] w w' := (hc.mono (T := [k]) (by simp)).trans h (fun _ h => .inl h) |>.mono (fun y hy => .inr (by simp at hy; omega))
theorem planT_size {l : List ActionT} (hW : actionsW l ≤ 1048576) : (planT l).size ≤ 100000000 := by
  unfold planT
  by_cases h : PlanOk l
  · rw [if_pos h]
    by_cases h0 : l.length = 0
    · rw [if_pos h0]; decide
    · rw [if_neg h0]
      exact Nat.le_trans (joinB_small (plan_small h.2.2 h.1 hW)) (by decide)
  · rw [if_neg h]; decide
set_option maxRecDepth 100000 in
set_option maxHeartbeats 4000000 in
theorem drawFormatPlan_any (A : Option Addr) (n cap : Nat) (w : World) (hn : n ≤ 4096) (hb : BytesAt w w.heap.size A n) :
    Calls Tryz.prog 9 #[.slice A n cap] w fun e w' => ∃ (l : List ActionT) (A : Option Addr) (cap : Nat), e = .returned (.slice A l.length cap) ∧ New w w' (actions l) (.slice A l.length cap) ∧ actionsW l ≤ 250000 := by
  have NE := Lib.hid (l1New_any A n cap w hn hb)
  clear hb
  go_enter Tryz.func9, Tryz.ntmps9
  go_wp2_with fail
  refine NE.out.mono ?_
  rintro e w1 ⟨k, rfl, hk, q1, c1⟩
  have AN := Lib.hid (l8Any_any k w1 q1)
  go_wp2_with fail
  refine AN.out.mono ?_
  rintro e w2 ⟨l, A2, cap2, rfl, N2, hW, q2⟩
  have N2 := Lib.hid N2
  go_wp2_with fail
  go_ret
  exact ⟨l, A2, cap2, rfl, N2.out.new0 c1 hk, hW⟩
set_option maxRecDepth 100000 in
set_option maxHeartbeats 8000000 in
theorem drawParsePlan_any (A : Option Addr) (n cap : Nat) (w : World) (hn : n ≤ 4096) (hb : BytesAt w w.heap.size A n) :
    Calls Tryz.prog 14 #[.slice A n cap] w fun e w' => ∃ s, e = .returned (.string s) ∧ Chg [] w w' := by
  have NE := Lib.hid (l1New_any A n cap w hn hb)
  have H0 := Lib.hid (show ∀ x ∈ ([⟨#[59]⟩, ⟨#[32]⟩, ⟨#[59, 32, 100, 114, 111, 112, 32, 48]⟩, ⟨#[32, 125]⟩, ⟨#[59, 32]⟩, ⟨#[59, 32, 105, 102, 32, 123, 32, 125, 32, 101, 108, 115, 101, 32, 123, 32, 125]⟩, ⟨#[59, 32, 108, 111, 111, 112, 32, 123, 32, 100, 114, 111, 112, 32, 49, 32, 125]⟩] : List ByteArray), x.size ≤ 100 from by decide)
  have H2 := Lib.hid (show ∀ x ∈ ([⟨#[32]⟩, ⟨#[59]⟩, ⟨#[125]⟩, ⟨#[123]⟩, ⟨#[120]⟩, ⟨#[]⟩] : List ByteArray), x.size ≤ 100 from by decide)
  clear hb
  go_enter Tryz.func14, Tryz.ntmps14
  go_wp2_with fail
  refine NE.out.mono ?_
  rintro e w1 ⟨k, rfl, hk, q1, c1⟩
  have DR := Lib.hid (l8Draw_any k w1 q1)
  have BL := Lib.hid (fun n W (hc : Cur W k) => l1Below_any k n W hc)
  have LS := Lib.hid (fun L g cap W hc h0 h1 hg hl hx => l1Str_any k L g cap W hc h0 h1 hg hl hx)
  go_wp2_with fail
  refine DR.out.mono ?_
  rintro e w2 ⟨l, A2, cap2, rfl, hA, _, hW, _, q2⟩
  have d2 := Lib.hid hA.chg
  have FS := Lib.hid (formatPlan_spec_any l _ _ w2 (Nat.le_trans hW (by decide)) hA.new.rd (Nat.le_refl _))
  have hz := planT_size (l := l) (Nat.le_trans hW (by decide))
  obtain ⟨s, hs⟩ : ∃ s, s = planT l := ⟨_, rfl⟩
  rw [← hs] at FS hz
  clear hA hs
  go_wp2_with fail
  refine FS.out.mono ?_
  rintro e w3 ⟨rfl, c3⟩
  have q3 := q2.keep0 c3
  have d3 := Lib.hid (d2.out.trans0 c3)
  clear FS c3 d2 q2
  go_wp2_with fail
  refine (BL.out 7 _ q3).mono ?_
  rintro e w4 ⟨r, rfl, ⟨r0, r7⟩, q4, c4⟩
  have d4 := Lib.hid (d3.out.trans c4 (fun x hx => .inl hx))
  have k4 := q4.lt
  clear c4 d3 q3 r7
  rcases (show r = 0 ∨ r = 1 ∨ r = 2 ∨ 3 ≤ r by omega) with rfl | rfl | rfl | h
  · go_wp2_with fail
    refine calls_name fun x4 hx4 => ?_
    have e4 : Chg [] w4 x4 := by rw [hx4]; exact Chg.now
    obtain ⟨lt4, LT4⟩ := lit_strsE (g := w4.heap.size) [⟨#[59]⟩, ⟨#[32]⟩, ⟨#[59, 32, 100, 114, 111, 112, 32, 48]⟩, ⟨#[32, 125]⟩, ⟨#[59, 32]⟩, ⟨#[59, 32, 105, 102, 32, 123, 32, 125, 32, 101, 108, 115, 101, 32, 123, 32, 125]⟩, ⟨#[59, 32, 108, 111, 111, 112, 32, 123, 32, 100, 114, 111, 112, 32, 49, 32, 125]⟩] hx4 rfl
    clear hx4
    refine (LS.out [⟨#[59]⟩, ⟨#[32]⟩, ⟨#[59, 32, 100, 114, 111, 112, 32, 48]⟩, ⟨#[32, 125]⟩, ⟨#[59, 32]⟩, ⟨#[59, 32, 105, 102, 32, 123, 32, 125, 32, 101, 108, 115, 101, 32, 123, 32, 125]⟩, ⟨#[59, 32, 108, 111, 111, 112, 32, 123, 32, 100, 114, 111, 112, 32, 49, 32, 125]⟩] w4.heap.size 7 _ (q4.keep0 e4) (by decide) (by decide) (by omega) lt4 LT4).mono ?_
    rintro e w5 ⟨y, rfl, hy, q5, c5⟩
    have zy := H0.out y hy
    obtain ⟨x, hx⟩ : ∃ x, x = s ++ y := ⟨_, rfl⟩
    have kx := cat_is (P := Tryz.prog) hx (by omega)
    have d5 := Lib.hid ((d4.out.trans0 e4).trans c5 (fun x hx => .inl hx))
    clear hx hy lt4 LT4 e4 c5
    go_wp2_with fail
    go_ret
    exact ⟨x, rfl, cur_new d5.out c1 hk⟩
  · go_wp2_with fail
    refine calls_name fun x4 hx4 => ?_
    have e4 : Chg [] w4 x4 := by rw [hx4]; exact Chg.now
    obtain ⟨lt4, LT4⟩ := lit_strsE (g := w4.heap.size) [⟨#[]⟩, ⟨#[110, 111, 116, 104, 105, 110, 103]⟩, ⟨#[110, 111, 116, 104, 105, 110, 103, 59, 32, 100, 114, 111, 112, 32, 48]⟩, ⟨#[105, 102, 32, 123, 32, 125]⟩, ⟨#[105, 102, 32, 123, 125, 32, 101, 108, 115, 101, 32, 123, 32, 125]⟩, ⟨#[108, 111, 111, 112, 32, 123, 32, 100, 114, 111, 112, 32, 48, 59, 32, 125]⟩, ⟨#[109, 97, 107, 101, 32, 48]⟩, ⟨#[109, 97, 107, 101, 32, 51, 32, 108, 97, 109, 112]⟩, ⟨#[99, 111, 112, 121, 32, 48, 32, 102, 114, 111, 109, 32, 48]⟩, ⟨#[97, 115, 107, 32, 48, 32, 107, 101, 101, 112, 43, 114, 117, 110]⟩, ⟨#[99, 97, 108, 108, 32, 48, 32, 76, 111, 97, 100, 32, 120]⟩, ⟨#[99, 97, 108, 108, 32, 48, 32, 76, 111, 97, 100, 32, 97, 61, 49]⟩, ⟨#[116, 114, 121, 32, 123, 32, 97, 115, 107, 32, 48, 32, 114, 117, 110, 32, 125, 32, 101, 108, 115, 101, 32, 123, 32, 108, 111, 111, 112, 32, 123, 32, 100, 114, 111, 112, 32, 49, 32, 125, 32, 125, 59, 32, 100, 114, 111, 112, 32, 48]⟩, ⟨#[125, 32, 100, 114, 111, 112, 32, 48]⟩, ⟨#[108, 111, 111, 112, 32, 123, 32, 108, 111, 111, 112, 32, 123, 32, 108, 111, 111, 112, 32, 123, 32, 100, 114, 111, 112, 32, 48, 32, 125, 32, 125, 32, 125]⟩, ⟨#[108, 111, 111, 112, 32, 123, 32, 108, 111, 111, 112, 32, 123, 32, 108, 111, 111, 112, 32, 123, 32, 108, 111, 111, 112, 32, 123, 32, 125, 32, 125, 32, 125, 32, 125]⟩, ⟨#[100, 114, 111, 112, 32, 32, 48]⟩, ⟨#[105, 102, 32, 123, 32, 100, 114, 111, 112, 32, 48, 32, 125, 32, 101, 108, 115, 101, 32, 100, 114, 111, 112, 32, 49]⟩] hx4 rfl
    clear hx4
    refine (LS.out [⟨#[]⟩, ⟨#[110, 111, 116, 104, 105, 110, 103]⟩, ⟨#[110, 111, 116, 104, 105, 110, 103, 59, 32, 100, 114, 111, 112, 32, 48]⟩, ⟨#[105, 102, 32, 123, 32, 125]⟩, ⟨#[105, 102, 32, 123, 125, 32, 101, 108, 115, 101, 32, 123, 32, 125]⟩, ⟨#[108, 111, 111, 112, 32, 123, 32, 100, 114, 111, 112, 32, 48, 59, 32, 125]⟩, ⟨#[109, 97, 107, 101, 32, 48]⟩, ⟨#[109, 97, 107, 101, 32, 51, 32, 108, 97, 109, 112]⟩, ⟨#[99, 111, 112, 121, 32, 48, 32, 102, 114, 111, 109, 32, 48]⟩, ⟨#[97, 115, 107, 32, 48, 32, 107, 101, 101, 112, 43, 114, 117, 110]⟩, ⟨#[99, 97, 108, 108, 32, 48, 32, 76, 111, 97, 100, 32, 120]⟩, ⟨#[99, 97, 108, 108, 32, 48, 32, 76, 111, 97, 100, 32, 97, 61, 49]⟩, ⟨#[116, 114, 121, 32, 123, 32, 97, 115, 107, 32, 48, 32, 114, 117, 110, 32, 125, 32, 101, 108, 115, 101, 32, 123, 32, 108, 111, 111, 112, 32, 123, 32, 100, 114, 111, 112, 32, 49, 32, 125, 32, 125, 59, 32, 100, 114, 111, 112, 32, 48]⟩, ⟨#[125, 32, 100, 114, 111, 112, 32, 48]⟩, ⟨#[108, 111, 111, 112, 32, 123, 32, 108, 111, 111, 112, 32, 123, 32, 108, 111, 111, 112, 32, 123, 32, 100, 114, 111, 112, 32, 48, 32, 125, 32, 125, 32, 125]⟩, ⟨#[108, 111, 111, 112, 32, 123, 32, 108, 111, 111, 112, 32, 123, 32, 108, 111, 111, 112, 32, 123, 32, 108, 111, 111, 112, 32, 123, 32, 125, 32, 125, 32, 125, 32, 125]⟩, ⟨#[100, 114, 111, 112, 32, 32, 48]⟩, ⟨#[105, 102, 32, 123, 32, 100, 114, 111, 112, 32, 48, 32, 125, 32, 101, 108, 115, 101, 32, 100, 114, 111, 112, 32, 49]⟩] w4.heap.size 18 _ (q4.keep0 e4) (by decide) (by decide) (by omega) lt4 LT4).mono ?_
    rintro e w5 ⟨y, rfl, hy, q5, c5⟩
    have d5 := Lib.hid ((d4.out.trans0 e4).trans c5 (fun x hx => .inl hx))
    clear hy lt4 LT4 e4 c5
    go_wp2_with fail
    go_ret
    exact ⟨y, rfl, cur_new d5.out c1 hk⟩
  · by_cases h3 : 3 < s.size
    · have h3i : (3 : Int) < (s.size : Int) := by omega
      go_wp2_with fail
      refine (BL.out s.size _ q4).mono ?_
      rintro e w5 ⟨i, rfl, ⟨i0, i1⟩, q5, c5⟩
      have i1 := i1 (by omega)
      obtain ⟨j, rfl⟩ : ∃ j : Nat, i = (j : Int) := ⟨i.toNat, by omega⟩
      have hj : j < s.size := by omega
      have d5 := Lib.hid (d4.out.trans c5 (fun x hx => .inl hx))
      have k5 := q5.lt
      have wj : IntKind.i64.wrap ((j : Int) + 1) = (j : Int) + 1 := wr_id (by omega) (by omega)
      obtain ⟨m, hm⟩ : ∃ m, m = j + 1 := ⟨_, rfl⟩
      have wj2 : (j : Int) + 1 = (m : Int) := by omega
      obtain ⟨t1, ht1⟩ : ∃ t, t = s.extract 0 j := ⟨_, rfl⟩
      obtain ⟨t2, ht2⟩ : ∃ t, t = s.extract m s.size := ⟨_, rfl⟩
      have z1 : t1.size ≤ 100000000 := by rw [ht1, ByteArray.size_extract]; omega
      have z2 : t2.size ≤ 100000000 := by rw [ht2, ByteArray.size_extract]; omega
      have SL1 : ∀ W, (Instr.slice 9 (.string s) none (some (.int .i64 (j : Int))) none).run Tryz.prog W = .ok (.string t1) W := fun W => by rw [run_slice_string_h W _ s Tryz.underlying9 .i64 j (by omega) (by omega), ht1]; simp
      have SL2 : ∀ W, (Instr.slice 9 (.string s) (some (.int .i64 ((j : Int) + 1))) none none).run Tryz.prog W = .ok (.string t2) W := fun W => by rw [wj2, run_slice_string_l W _ s Tryz.underlying9 .i64 m (by omega) (by omega), ht2]; simp
      have SC : ∀ y : ByteArray, ∃ u, u = t1 ++ y := fun y => ⟨_, rfl⟩
      clear ht1 ht2 c5 d4 q4 wj2 i0 i1 hm
      go_wp2_with fail
      go_region_law (first | (go_simp; go_at_call 40; (refine calls_name fun x4 hx4 => ?_); (have e4 : Chg [] w5 x4 := by rw [hx4]; exact Chg.now); (obtain ⟨lt4, LT4⟩ := Box.strs (x := x4) (g := w5.heap.size) (L := [⟨#[32]⟩, ⟨#[59]⟩, ⟨#[125]⟩, ⟨#[123]⟩, ⟨#[120]⟩, ⟨#[]⟩]) (by rw [hx4]; repeat (first | exact Box.new _ _ _ | refine Box.drew ?_ | refine Box.drewN ?_ _))); clear hx4; (refine (LS.out [⟨#[32]⟩, ⟨#[59]⟩, ⟨#[125]⟩, ⟨#[123]⟩, ⟨#[120]⟩, ⟨#[]⟩] w5.heap.size 6 _ (q5.keep0 e4) (by decide) (by decide) (by omega) lt4 LT4).mono ?_); rintro e w6 ⟨y, rfl, hy, q6, c6⟩; (have zy := H2.out y hy); (obtain ⟨u, hu⟩ := SC y); (have ku := cat_is (P := Tryz.prog) hu (by omega)); (have zu : u.size ≤ 100000100 := by rw [hu, ByteArray.size_append]; omega); (obtain ⟨v, hv⟩ : ∃ v, v = u ++ t2 := ⟨_, rfl⟩); (have kv := cat_is (P := Tryz.prog) hv (by omega)); (have d6 := Lib.hid ((d5.out.trans0 e4).trans c6 (fun x hx => .inl hx))); clear hu hv hy lt4 LT4 e4 c6; simp only []) | fail)
      all_goals
        go_wp2_with fail
        go_ret
        exact ⟨_, rfl, cur_new (Chg.to d6.out) c1 hk⟩
    · have h3i : ¬ (3 : Int) < (s.size : Int) := by omega
      go_wp2_with fail
      go_ret
      exact ⟨s, rfl, cur_new d4.out c1 hk⟩
  · have n0 : (r == 0) = false := by rw [beq_eq_false_iff_ne]; omega
    have n1 : (r == 1) = false := by rw [beq_eq_false_iff_ne]; omega
    have n2 : (r == 2) = false := by rw [beq_eq_false_iff_ne]; omega
    go_wp2_with fail
    go_ret
    exact ⟨s, rfl, cur_new d4.out c1 hk⟩
end Go.Proofs.YtkgffhlpcjjobaaGreatDoor
