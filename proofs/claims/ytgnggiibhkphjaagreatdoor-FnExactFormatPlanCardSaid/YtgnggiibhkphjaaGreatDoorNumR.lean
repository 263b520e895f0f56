/- ParseNumber and l1In of the reference. -/
import Derived.Test.YtgnggiibhkphjaaGreatDoorNumP
import Derived.Test.YtgnggiibhkphjaaGreatDoorKinds
namespace Go.Proofs.YtgnggiibhkphjaaGreatDoor
open Go.RowKit

/-- How far the number may have gone behind k bytes. -/
def bd : Nat → Int
  | 0 => 0
  | 1 => 300
  | 2 => 3300
  | 3 => 33300
  | _ => 333300
theorem bd_step {k : Nat} (h : k < 4) : 10 * bd k + 255 ≤ bd (k + 1) ∧ 0 ≤ bd k ∧ bd (k + 1) ≤ 333300 := by
  match k, h with
  | 0, _ | 1, _ | 2, _ | 3, _ => decide
theorem bytes_take {s : ByteArray} {k : Nat} (h : k < s.size) : s.data.toList.take (k + 1) = s.data.toList.take k ++ [s[k]] := by
  have hl : k < s.data.toList.length := by rw [Array.length_toList]; exact h
  rw [List.take_succ_eq_append_getElem hl, Array.getElem_toList]
  rfl
theorem text_ne {a b : ByteArray} (h : a ≠ b) : (a.toList == b.toList) = false := by
  rw [beq_eq_false_iff_ne]
  intro e
  rw [ByteArray.toList_eq, ByteArray.toList_eq] at e
  exact h (ByteArray.ext (Array.toList_inj.1 e))
set_option maxRecDepth 100000 in
theorem l1In_any (x a b : Int) (w : World) :
    Calls Tryz.prog 43 #[.int .i64 x, .int .i64 a, .int .i64 b] w (BoolIs (a ≤ x ∧ x ≤ b) w) := by
  go_enter Tryz.func43, Tryz.ntmps43
  go_wp2_with fail
  all_goals (go_ret; refine ⟨_, rfl, ?_, rfl⟩; simp; try omega)
set_option maxRecDepth 100000 in
set_option maxHeartbeats 2000000 in
theorem parseNumber_spec_any (s : ByteArray) (w : World) (hs : s.size ≤ 1048576) :
    Calls Tryz.prog 80 #[.string s] w (OptPost (parseNum s) w) := by
  go_enter Tryz.func80, Tryz.ntmps80
  go_wp2_with fail
  go_loopw [4, 5] (fun n i wr => ∃ (k : Nat) (v : Int), k ≤ s.size ∧ k ≤ 4 ∧ n = .int .i64 v ∧ i = .int .i64 k ∧ Hid (v = valL 0 (s.data.toList.take k)) ∧ -bd k ≤ v ∧ v ≤ bd k ∧ Still w wr) (fun _ i _ => 4 - (intOf i).toNat)
  case atStart => exact ⟨0, 0, Nat.zero_le _, by omega, rfl, rfl, rfl, by decide, by decide, rfl⟩
  case round =>
    obtain ⟨k, v, hk, hk4, rfl, rfl, HV, hv0, hv1, rfl⟩ := hrel
    by_cases hlt : k < s.size ∧ k < 4
    · obtain ⟨hl1, hl2⟩ := hlt
      have hbs := bd_step hl2
      have hby : s[k].toNat ≤ 255 := by have := s[k].toNat_lt; omega
      go_wp2_with fail
      go_roundw
      case rel => exact ⟨k + 1, 10 * v + s[k].toNat - 48, by omega, by omega, by go_num, by go_num, Lib.hid (by rw [bytes_take hl1, valL_snoc, ← HV.out]), by omega, by omega, rfl⟩
      case measure => simp [intOf]; omega
    · have hbk : bd k ≤ 333300 := by
        match k, hk4 with
        | 0, _ | 1, _ | 2, _ | 3, _ | 4, _ => decide
      by_cases hN : ∃ n, NumOf s n
      · obtain ⟨n, hn⟩ := hN
        have hsz := hn.size
        have hz0 : ((s.size : Int) == 0) = false := beq_eq_false_iff_ne.2 (by omega)
        obtain rfl : k = s.size := by omega
        have hv : v = n := by rw [HV.out, List.take_of_length_le (by rw [Array.length_toList]; exact Nat.le_refl _)]; exact hn.val
        subst hv
        have h0 := hn.1
        have h9 := hn.2.1
        have FN := Lib.hid (fun W => formatNumber_spec_any v W (by omega) (by omega))
        rw [hn.2.2] at FN
        have HN := Lib.hid (parseNum_some hn)
        clear hn hv0 hv1 hbk
        go_wp2_with fail
        refine (FN.out _).mono ?_
        rintro e w1 ⟨rfl, c1⟩
        go_wp2_with fail
        go_ret2
        exact OptPost.of HN.out rfl c1
      · have HN := Lib.hid (parseNum_none hN)
        by_cases hz : s.size = 0
        · have hz0 : ((s.size : Int) == 0) = true := beq_iff_eq.2 (by omega)
          clear hN
          go_wp2_with fail
          all_goals (go_ret2; exact OptPost.of HN.out rfl (Chg.refl _ _))
        · have hz0 : ((s.size : Int) == 0) = false := beq_eq_false_iff_ne.2 (by omega)
          by_cases hv2 : v < 0
          · clear hN
            go_wp2_with fail
            all_goals (go_ret2; exact OptPost.of HN.out rfl (Chg.refl _ _))
          · by_cases hv3 : 999 < v
            · clear hN
              go_wp2_with fail
              all_goals (go_ret2; exact OptPost.of HN.out rfl (Chg.refl _ _))
            · have hne : ((numT v).toList == s.toList) = false := text_ne (fun e => hN ⟨v, by omega, by omega, e⟩)
              have FN := Lib.hid (fun W => formatNumber_spec_any v W (by omega) (by omega))
              clear hN
              obtain ⟨t, ht⟩ : ∃ t, t = numT v := ⟨_, rfl⟩
              rw [← ht] at FN hne
              clear ht
              go_wp2_with fail
              all_goals
                refine (FN.out _).mono ?_
                rintro e w1 ⟨rfl, c1⟩
                go_wp2_with fail
                go_ret2
                exact OptPost.of HN.out rfl c1
end Go.Proofs.YtgnggiibhkphjaaGreatDoor
