/- ParseFace of both packages. Conditions: for the program's, the names of the abilities stand in their variable. -/
import Derived.Test.YtldpibnfhomfgaaGreatDoorParses
namespace Go.Proofs.YtldpibnfhomfgaaGreatDoor
open Go.RowKit

theorem str_ne {a b : ByteArray} (h : a ≠ b) : (a.toList == b.toList) = false := by
  rw [beq_eq_false_iff_ne, ByteArray.toList_eq, ByteArray.toList_eq]
  exact fun e => h (list_inj e)
set_option maxRecDepth 100000 in
set_option maxHeartbeats 4000000 in
theorem parseFace_spec_any (s : ByteArray) (w : World) :
    Calls Tryz.prog 31 #[.string s] w (OptPost (faceOf s) w) := by
  have HS := Lib.hid (fun (k : Nat) (hk : k < 64) => faceOf_some (t := s) hk)
  have HN := Lib.hid (faceOf_none (t := s))
  go_enter Tryz.func31, Tryz.ntmps31
  go_wp2_with fail
  go_loopw [4] (fun i wr => ∃ k : Nat, k ≤ 64 ∧ i = .int .i64 k ∧ Chg [] w wr ∧ Hid (∀ j : Nat, j < k → faceT j ≠ s)) (fun i _ => 64 - (intOf i).toNat)
  case atStart => exact ⟨0, by omega, rfl, Chg.refl _ _, fun j hj => absurd hj (by omega)⟩
  case round =>
    obtain ⟨k, hk, rfl, hc, HJ⟩ := hrel
    by_cases hlt : k < 64
    · have FK := Lib.hid (fun W => formatFace_spec_any k W)
      by_cases ht : faceT k = s
      · have HO := Lib.hid (HS.out k hlt ht HJ.out)
        rw [ht] at FK
        clear ht
        go_wp2_with fail
        refine (FK.out _).mono ?_
        rintro e w1 ⟨rfl, c1⟩
        go_wp2_with fail
        go_ret2
        exact OptPost.of HO.out rfl (hc.trans0 c1)
      · have hb := str_ne ht
        have HJ2 : Hid (∀ j : Nat, j < k + 1 → faceT j ≠ s) := fun j hj => by
          rcases Nat.lt_or_ge j k with h | h
          · exact HJ.out j h
          · obtain rfl : j = k := by omega
            exact ht
        obtain ⟨t, hT⟩ : ∃ t : ByteArray, t = faceT k := ⟨_, rfl⟩
        rw [← hT] at FK hb
        clear hT ht
        go_wp2_with fail
        refine (FK.out _).mono ?_
        rintro e w1 ⟨rfl, c1⟩
        go_wp2_with fail
        go_roundw
        case rel => exact ⟨k + 1, by omega, by go_num, hc.trans0 c1, HJ2⟩
        case measure => simp [intOf]; omega
    · obtain rfl : k = 64 := by omega
      go_wp2_with fail
      go_ret2
      exact OptPost.of (HN.out HJ.out) rfl hc
set_option maxRecDepth 100000 in
set_option maxHeartbeats 4000000 in
theorem parseFace_impl_any (s : ByteArray) (w : World) (hg : AbilAt w) :
    Calls Tryz.prog 57 #[.string s] w (OptPost (faceOf s) w) := by
  have HS := Lib.hid (fun (k : Nat) (hk : k < 64) => faceOf_some (t := s) hk)
  have HN := Lib.hid (faceOf_none (t := s))
  have FF := Lib.hid (fun (k : Nat) W (hc : Chg [] w W) => formatFace_impl_any k W (hg.keep hc))
  clear hg
  go_enter Tryz.func57, Tryz.ntmps57
  go_wp2_with fail
  go_loopw [5] (fun i wr => ∃ k : Nat, k ≤ 64 ∧ i = .int .i64 k ∧ Chg [] w wr ∧ Hid (∀ j : Nat, j < k → faceT j ≠ s)) (fun i _ => 64 - (intOf i).toNat)
  case atStart => exact ⟨0, by omega, rfl, Chg.refl _ _, fun j hj => absurd hj (by omega)⟩
  case round =>
    obtain ⟨k, hk, rfl, hc, HJ⟩ := hrel
    by_cases hlt : k < 64
    · have FK := Lib.hid (FF.out k)
      by_cases ht : faceT k = s
      · have HO := Lib.hid (HS.out k hlt ht HJ.out)
        rw [ht] at FK
        clear ht
        go_wp2_with fail
        refine (FK.out _ hc).mono ?_
        rintro e w1 ⟨rfl, c1⟩
        go_wp2_with fail
        go_ret2
        exact OptPost.of HO.out rfl (hc.trans0 c1)
      · have hb := str_ne ht
        have HJ2 : Hid (∀ j : Nat, j < k + 1 → faceT j ≠ s) := fun j hj => by
          rcases Nat.lt_or_ge j k with h | h
          · exact HJ.out j h
          · obtain rfl : j = k := by omega
            exact ht
        obtain ⟨t, hT⟩ : ∃ t : ByteArray, t = faceT k := ⟨_, rfl⟩
        rw [← hT] at FK hb
        clear hT ht
        go_wp2_with fail
        refine (FK.out _ hc).mono ?_
        rintro e w1 ⟨rfl, c1⟩
        go_wp2_with fail
        go_roundw
        case rel => exact ⟨k + 1, by omega, by go_num, hc.trans0 c1, HJ2⟩
        case measure => simp [intOf]; omega
    · obtain rfl : k = 64 := by omega
      go_wp2_with fail
      go_ret2
      exact OptPost.of (HN.out HJ.out) rfl hc
end Go.Proofs.YtldpibnfhomfgaaGreatDoor
