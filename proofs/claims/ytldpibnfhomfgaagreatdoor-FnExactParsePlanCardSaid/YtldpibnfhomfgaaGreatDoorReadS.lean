/- ParsePlan of the reference answers with the plan whose text is given. Conditions: none. -/
import Derived.Test.YtldpibnfhomfgaaGreatDoorReadZ
import Derived.Test.YtldpibnfhomfgaaGreatDoorReadsP
namespace Go.Proofs.YtldpibnfhomfgaaGreatDoor
open Go.RowKit

theorem parseS_empty : parseT (⟨#[]⟩ : ByteArray) = none := parseT_none (fun _ l h e => planT_some h (by rw [e]; rfl))
theorem parseS_yes {s : ByteArray} {l : List ActionT} (hz : s.size ≤ 600) (h0 : s ≠ ⟨#[]⟩) (h : planT l = s) : parseT s = some l := by
  by_cases hp : PlanOk l
  · exact parseT_some hz hp h
  · exact absurd (h.symm.trans (planT_no hp)) h0
theorem parseS_no {s : ByteArray} {l : List ActionT} {r : List ByteArray} (hn : s ≠ nothingT) (hr : rdS 3 (splitS 32 s) = (l, r)) (h : planT l ≠ s) : parseT s = none := parseT_none (fun _ m h2 h3 => by
  have e := read_hit hn h2 h3
  rw [hr] at e
  dsimp only at e
  rw [e] at h
  exact h h3)
theorem l8Read_any : ∀ d, d ≤ 3 → RdC d
  | 0, _ => l8Read_0
  | d + 1, h => l8Read_succ (by omega) (l8Read_any d (by omega))
set_option maxRecDepth 100000 in
set_option maxHeartbeats 4000000 in
theorem parsePlan_spec_any (s : ByteArray) (w : World) :
    Calls Tryz.prog 4 #[.string s] w (ParseIs (parseT s) w) := by
  by_cases hn : s = nothingT
  · subst hn
    have HY := Lib.hid parse_nothing
    have hb : (nothingT.toList == [110, 111, 116, 104, 105, 110, 103]) = true := by rw [ByteArray.toList_eq]; rfl
    have hb2 : (nothingT.toList == []) = false := by rw [ByteArray.toList_eq]; rfl
    have hb3 : nothingT.size = 7 := rfl
    have hpl : planT [] = nothingT := planT_nil ⟨by decide, by decide, by simp [okL]⟩ rfl
    obtain ⟨s, hs⟩ : ∃ s, s = nothingT := ⟨_, rfl⟩
    rw [← hs] at HY hb hb2 hb3 hpl ⊢
    clear hs
    have hA : New w (w.alloc (.cells #[] 41)) (actions []) (.slice (some ⟨w.heap.size, 0, none⟩) 0 0) := (App.empty w 41 11 (Chg.refl _ _)).new
    have FP := Lib.hid (formatPlan_spec_any [] _ _ _ (by decide) hA.rd (Nat.le_refl _))
    rw [hpl] at FP
    have HA := Lib.hid hA
    clear hA hpl
    go_enter Tryz.func4, Tryz.ntmps4
    go_wp2_with fail
    refine FP.out.mono ?_
    rintro e w1 ⟨rfl, c1⟩
    go_wp2_with fail
    go_ret2
    exact ⟨[], _, 0, true, rfl, HA.out.later c1, fun _ => HY.out, fun h => by cases h⟩
  · have hb : (s.toList == [110, 111, 116, 104, 105, 110, 103]) = false := by
      have := str_ne hn
      rwa [show nothingT.toList = [110, 111, 116, 104, 105, 110, 103] by rw [ByteArray.toList_eq]; rfl] at this
    by_cases hz : s.size ≤ 600
    · have SP := Lib.hid (fun W => splitAt_one_any s 32 W (by omega))
      have hT := tot_split s
      have NO := Lib.hid (fun l r => parseS_no (l := l) (r := r) hn)
      have YES := Lib.hid (fun h0 l => parseS_yes (l := l) hz h0)
      have hwt := (rdS_W (M := 601) 3 (splitS 32 s) (by omega)).1
      have hlen := tot_len (splitS 32 s)
      obtain ⟨ws, hws⟩ : ∃ ws, ws = splitS 32 s := ⟨_, rfl⟩
      rw [← hws] at SP hT NO hwt hlen
      have HWT := Lib.hid hwt
      clear hws hn hwt
      by_cases h0 : s = ⟨#[]⟩
      · have HN := Lib.hid (h0 ▸ parseS_empty : parseT s = none)
        have hb2 : (s.toList == []) = true := by rw [h0, ByteArray.toList_eq]; rfl
        have HT := Lib.hid hT
        clear h0 NO YES hT
        go_enter Tryz.func4, Tryz.ntmps4
        go_wp2_with fail
        refine (SP.out _).mono ?_
        intro e w1 G
        obtain ⟨A, cap, rfl, hN⟩ := G.sl
        have RC := Lib.hid (l8Read_any 3 (by omega) ws 0 _ _ w1 hN.rd (Nat.le_refl _) (by have := HT.out; omega) (by omega))
        have D1 := Lib.hid (((Chg.refl [] w).alloc (.cells #[] 41)).trans0 hN.chg)
        clear hN G HT
        go_wp2_with fail
        refine RC.out.mono ?_
        rintro e w2 ⟨l, A2, c2, j, rfl, hN2, hr, hj⟩
        have D2 := Lib.hid (D1.out.trans0 hN2.chg)
        clear hN2 hr
        go_wp2_with fail
        go_ret2
        exact ⟨[], _, 0, false, rfl, (App.empty w 41 11 D2.out).new, fun h => (by cases h), fun _ => ⟨HN.out, rfl⟩⟩
      · have hb2 : (s.toList == []) = false := by
          have := str_ne h0
          rwa [show (⟨#[]⟩ : ByteArray).toList = [] by rw [ByteArray.toList_eq]] at this
        have YES2 := Lib.hid (YES.out h0)
        have HT := Lib.hid hT
        clear h0 YES hT
        go_enter Tryz.func4, Tryz.ntmps4
        go_wp2_with fail
        refine (SP.out _).mono ?_
        intro e w1 G
        obtain ⟨A, cap, rfl, hN⟩ := G.sl
        have RC := Lib.hid (l8Read_any 3 (by omega) ws 0 _ _ w1 hN.rd (Nat.le_refl _) (by have := HT.out; omega) (by omega))
        have D1 := Lib.hid (((Chg.refl [] w).alloc (.cells #[] 41)).trans0 hN.chg)
        clear hN G
        go_wp2_with fail
        refine RC.out.mono ?_
        rintro e w2 ⟨l, A2, c2, j, rfl, hN2, hr, hj⟩
        have D2 := Lib.hid (D1.out.trans0 hN2.chg)
        have HR := Lib.hid hr
        have hWl : actionsW l ≤ 1048576 := by
          have h := HWT.out
          rw [List.drop_zero] at hr
          rw [hr] at h
          dsimp only at h
          have := HT.out
          omega
        have FP := Lib.hid (formatPlan_spec_any l _ _ w2 hWl hN2.rd (Nat.le_refl _))
        have HN2 := Lib.hid (hN2.sooner D1.out)
        clear hN2 hr HT HWT hWl
        go_wp2_with fail
        refine FP.out.mono ?_
        rintro e w3 ⟨rfl, c3⟩
        by_cases ht : planT l = s
        · have HY := Lib.hid (YES2.out l ht)
          have hbt : ((planT l).toList == s.toList) = true := by rw [ht]; exact beq_self_eq_true _
          obtain ⟨t, htt⟩ : ∃ t, t = planT l := ⟨_, rfl⟩
          rw [← htt] at hbt ⊢
          clear htt ht
          go_wp2_with fail
          go_ret2
          exact ⟨l, A2, c2, true, rfl, HN2.out.later c3, fun _ => HY.out, fun h => by cases h⟩
        · have HN := Lib.hid (NO.out l _ (by have := HR.out; rwa [List.drop_zero] at this) ht)
          have hbt := str_ne ht
          have D3 := Lib.hid (D2.out.trans0 c3)
          obtain ⟨t, htt⟩ : ∃ t, t = planT l := ⟨_, rfl⟩
          rw [← htt] at hbt ⊢
          clear htt ht c3
          go_wp2_with fail
          go_ret2
          exact ⟨[], _, 0, false, rfl, (App.empty w 41 11 D3.out).new, fun h => (by cases h), fun _ => ⟨HN.out, rfl⟩⟩
    · have HN := Lib.hid (parseT_none (s := s) (fun h => absurd h hz))
      clear hn
      go_enter Tryz.func4, Tryz.ntmps4
      go_wp2_with fail
      go_ret2
      exact ⟨[], _, 0, false, rfl, (App.empty w 41 11 (Chg.refl _ _)).new, fun h => (by cases h), fun _ => ⟨HN.out, rfl⟩⟩
end Go.Proofs.YtldpibnfhomfgaaGreatDoor
