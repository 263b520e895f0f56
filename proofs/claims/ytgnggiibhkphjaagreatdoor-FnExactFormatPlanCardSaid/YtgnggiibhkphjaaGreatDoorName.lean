/- Names and numbers: IsName of both packages, isNumber. -/
import Derived.Test.YtgnggiibhkphjaaGreatDoorSame
namespace Go.Proofs.YtgnggiibhkphjaaGreatDoor
open Go.RowKit

/-- The world stands as it was. -/
def Still (w wr : World) : Prop := wr = w
/-- A bool that tells p; the world stands as it is. -/
def BoolIs (p : Prop) (w : World) (e : Ending) (w' : World) : Prop := ∃ t : Bool, e = .returned (.bool t) ∧ (t = true ↔ p) ∧ w' = w
theorem BoolIs.pos {p : Prop} {w : World} (h : p) (e : Ending) (w' : World) (hb : BoolIs p w e w') : e = .returned (.bool true) ∧ w' = w := by
  obtain ⟨t, rfl, ht, c⟩ := hb
  obtain rfl : t = true := ht.2 h
  exact ⟨rfl, c⟩
theorem BoolIs.neg {p : Prop} {w : World} (h : ¬ p) (e : Ending) (w' : World) (hb : BoolIs p w e w') : e = .returned (.bool false) ∧ w' = w := by
  obtain ⟨t, rfl, ht, c⟩ := hb
  cases t
  · exact ⟨rfl, c⟩
  · exact absurd (ht.1 rfl) h
theorem BoolPost.pos {p : Prop} {w : World} (h : p) (e : Ending) (w' : World) (hb : BoolPost p w e w') : e = .returned (.bool true) ∧ Chg [] w w' := by
  obtain ⟨t, rfl, ht, c⟩ := hb
  obtain rfl : t = true := ht.2 h
  exact ⟨rfl, c⟩
theorem BoolPost.neg {p : Prop} {w : World} (h : ¬ p) (e : Ending) (w' : World) (hb : BoolPost p w e w') : e = .returned (.bool false) ∧ Chg [] w w' := by
  obtain ⟨t, rfl, ht, c⟩ := hb
  cases t
  · exact ⟨rfl, c⟩
  · exact absurd (ht.1 rfl) h
theorem BoolIs.chg {p : Prop} {w : World} (e : Ending) (w' : World) (hb : BoolIs p w e w') : BoolPost p w e w' := by
  obtain ⟨t, rfl, ht, rfl⟩ := hb
  exact ⟨t, rfl, ht, Chg.refl _ _⟩
/-- May byte b stand in place i of a name? -/
def nmByte (i : Nat) (b : UInt8) : Prop := (97 ≤ b.toNat ∧ b.toNat ≤ 122) ∨ (0 < i ∧ 48 ≤ b.toNat ∧ b.toNat ≤ 57)
/-- A name. -/
def IsNm (s : ByteArray) : Prop := 1 ≤ s.size ∧ s.size ≤ 8 ∧ ∀ (i : Nat) (h : i < s.size), nmByte i s[i]
/-- A number of the program. -/
def IsNum (n : Int) : Prop := 0 ≤ n ∧ n ≤ 999

set_option maxRecDepth 100000 in
theorem l1Letter_any (b : UInt8) (first : Bool) (w : World) :
    Calls Tryz.prog 88 #[.int .u8 b.toNat, .bool first] w (BoolIs ((97 ≤ b.toNat ∧ b.toNat ≤ 122) ∨ (first = false ∧ 48 ≤ b.toNat ∧ b.toNat ≤ 57)) w) := by
  go_enter Tryz.func88, Tryz.ntmps88
  go_wp2_with fail
  all_goals (go_ret; refine ⟨_, rfl, ?_, rfl⟩; simp; try omega)
set_option maxRecDepth 100000 in
theorem isNumber_any (n : Int) (w : World) :
    Calls Tryz.prog 71 #[.int .i64 n] w (BoolIs (IsNum n) w) := by
  go_enter Tryz.func71, Tryz.ntmps71
  go_wp2_with fail
  all_goals (go_ret; refine ⟨_, rfl, ?_, rfl⟩; unfold IsNum; simp; try omega)
set_option maxRecDepth 100000 in
theorem isName_spec_any (s : ByteArray) (w : World) (hs : s.size ≤ 1048576) :
    Calls Tryz.prog 74 #[.string s] w (BoolIs (IsNm s) w) := by
  go_enter Tryz.func74, Tryz.ntmps74
  go_wp2_with fail
  go_loopw [3] (fun i wr => ∃ k : Nat, k ≤ s.size ∧ i = .int .i64 k ∧ (∀ (j : Nat) (h : j < s.size), j < k → nmByte j s[j]) ∧ Still w wr) (fun i _ => s.size - (intOf i).toNat)
  case atStart => exact ⟨0, Nat.zero_le _, rfl, fun j h h0 => absurd h0 (Nat.not_lt_zero _), rfl⟩
  case round =>
    obtain ⟨k, hk, rfl, HN, rfl⟩ := hrel
    have HN := Lib.hid HN
    by_cases hlt : k < s.size
    · go_wp2_with fail
      refine (l1Letter_any s[k] ((k : Int) == 0) wr).mono ?_
      rintro e w1 ⟨t, rfl, ht, rfl⟩
      have hb : t = true ↔ nmByte k s[k] := by
        rw [ht]; unfold nmByte
        rw [beq_eq_false_iff_ne]
        omega
      have HT := Lib.hid hb
      clear ht hb
      cases t
      · go_wp2_with fail
        go_ret
        refine ⟨_, rfl, ⟨fun h => by simp at h, fun h => ?_⟩, rfl⟩
        have := HT.out.2 (h.2.2 k hlt)
        simp at this
      · go_wp2_with fail
        go_roundw
        case rel => exact ⟨k + 1, by omega, by go_num, fun j h hj => (Nat.lt_succ_iff_lt_or_eq.1 hj).elim (HN.out j h) (fun e => by subst e; exact HT.out.1 (by simp)), rfl⟩
        case measure => simp [intOf]; omega
    · obtain rfl : k = s.size := by omega
      go_wp2_with fail
      all_goals (go_ret; refine ⟨_, rfl, ?_, rfl⟩; have hall : ∀ (i : Nat) (h : i < s.size), nmByte i s[i] := fun i h => HN.out i h h; unfold IsNm; simp [hall]; try omega)
set_option maxRecDepth 100000 in
theorem isName_impl_any (s : ByteArray) (w : World) (hs : s.size ≤ 1048576) :
    Calls Tryz.prog 70 #[.string s] w (BoolIs (IsNm s) w) := by
  go_enter Tryz.func70, Tryz.ntmps70
  go_wp2_with fail
  · go_ret
    refine ⟨_, rfl, ⟨fun h => by simp at h, fun h => ?_⟩, rfl⟩
    have h0 : 0 < s.size := by assumption
    have := h.1; have := h.2.1; have := h.2.2 0 h0; unfold nmByte at this; omega
  · go_loopw [3] (fun i wr => ∃ k : Nat, k ≤ s.size ∧ i = .int .i64 k ∧ (∀ (j : Nat) (h : j < s.size), j < k → nmByte j s[j]) ∧ Still w wr) (fun i _ => s.size - (intOf i).toNat)
    case atStart => exact ⟨0, Nat.zero_le _, rfl, fun j h h0 => absurd h0 (Nat.not_lt_zero _), rfl⟩
    case round =>
      obtain ⟨k, hk, rfl, HN, rfl⟩ := hrel
      have HN := Lib.hid HN
      by_cases hlt : k < s.size
      · have hk0 : k = 0 → 97 ≤ s[k].toNat ∧ s[k].toNat ≤ 122 := fun e => by subst e; omega
        go_wp2_with fail
        all_goals first
          | (go_roundw
             case rel => exact ⟨k + 1, by omega, by go_num, fun j h hj => (Nat.lt_succ_iff_lt_or_eq.1 hj).elim (HN.out j h) (fun e => by subst e; unfold nmByte; omega), rfl⟩
             case measure => simp [intOf]; omega)
          | (go_ret
             refine ⟨_, rfl, ⟨fun h => by simp at h, fun h => ?_⟩, rfl⟩
             have := h.2.2 k hlt; unfold nmByte at this; omega)
      · obtain rfl : k = s.size := by omega
        go_wp2_with fail
        go_ret
        refine ⟨_, rfl, ⟨fun _ => ⟨by omega, by omega, fun i h => HN.out i h h⟩, fun _ => rfl⟩, rfl⟩
  all_goals
    go_ret
    refine ⟨_, rfl, ⟨fun h => by simp at h, fun h => ?_⟩, rfl⟩
    have := h.1; have := h.2.1
    first
      | omega
      | (have := h.2.2 0 (by omega); unfold nmByte at this; omega)
end Go.Proofs.YtgnggiibhkphjaaGreatDoor
