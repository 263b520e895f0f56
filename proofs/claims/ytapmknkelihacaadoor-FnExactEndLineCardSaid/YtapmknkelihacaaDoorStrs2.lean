/- Lists of texts: the walks of copy, equality, mark and held. -/
import Derived.Test.YtapmknkelihacaaDoorStrs
import Derived.Deep.RegionHeld3
import Derived.StillTailTactics
import Derived.Test.YtapmknkelihacaaDoorText
namespace Go.Proofs.YtapmknkelihacaaDoor
open Go.RowKit

def strN (_ : ByteArray) : Nat := 1
def strM (_ : ByteArray) (k : Int) : ByteArray := mt k
def strsN (l : List ByteArray) : Nat := (l.map strN).sum
def strsM (l : List ByteArray) (k : Int) : List ByteArray := mapK strM strN l k
theorem strsN_length (l : List ByteArray) : strsN l = l.length := by
  induction l with
  | nil => rfl
  | cons a l ih =>
    unfold strsN at ih ⊢
    rw [List.map_cons, List.sum_cons, ih, List.length_cons]
    show 1 + _ = _
    omega
theorem ret_text {k : IntKind} {a b : Int} (h : a = b) : Ending.returned (.int k a) = .returned (.int k b) := by rw [h]
theorem strC_eq (s : ByteArray) : strC s = [.v (.string s)] := rfl

set_option maxHeartbeats 400000 in
theorem toStringS_any (l : List ByteArray) (u : Value) (B : Nat) (w : World) (hl : strsW l ≤ 1048576) (hr : Rd w B (strs l) u) (hB : B ≤ w.heap.size) :
    Calls Tryd.prog 7 #[u] w (Gives (strs l) w) := by
  obtain ⟨A, cap, rfl, h0, h1, hrow⟩ := strs_row hr
  have hll : l.length ≤ 1048576 := by unfold strsW at hl; omega
  have hmk := fun W => run_make_row' (P := Tryd.prog) 22 9 (.string ⟨#[]⟩) 16 Tryd.underlying22 string_info rfl .i64 .i64 l.length (by omega) (by omega) W
  unfold maxLen at h1
  clear hr
  go_enter Tryd.func7, Tryd.ntmps7
  go_wp2
  go_loopw [4] (fun i wr => ∃ k : Nat, k ≤ l.length ∧ i = .int .i64 k ∧ New w wr (.s l.length (filled strC [.v (.string ⟨#[]⟩)] l k)) (.slice (some ⟨w.heap.size, 0, none⟩) l.length l.length)) (fun i _ => l.length - (intOf i).toNat)
  case atStart => exact ⟨0, Nat.zero_le _, rfl, by have := New.make w 9 #[.string ⟨#[]⟩] 1 rfl (by omega) [.v (.string ⟨#[]⟩)] (fun w => OwnL.plain w [.string ⟨#[]⟩]) strC l l.length rfl (by unfold maxLen; omega); rwa [Nat.mul_one] at this⟩
  case round =>
    obtain ⟨k, hk, rfl, hh⟩ := hrel
    by_cases hlt : k < l.length
    · obtain ⟨b, off, rfl, hb, hu⟩ := strs_cells (hrow.chg0 hh.chg hB) k hlt
      have hset := hh.fill strC_len rfl hlt (wx := wr) (us := [.string l[k]]) ⟨[], HasL.cons_v (HasL.nil _), by simp, Chg.refl _ _⟩
      obtain ⟨r1, x1, r2⟩ := hh.room (j := k) (by rw [filled_length strC_len rfl _ _ hk]; omega)
      rw [Nat.mul_one] at hset
      go_wp2
      go_roundw
      case rel => exact ⟨k + 1, by omega, by go_num, hset⟩
      case measure => simp [intOf]; omega
    · obtain rfl : k = l.length := by omega
      rw [filled_all] at hh
      go_wp2
      go_ret
      exact ⟨_, rfl, hh⟩
set_option maxHeartbeats 400000 in
theorem eqStringS_same (l : List ByteArray) (u v : Value) (B B' : Nat) (w : World) (hr : Rd w B (strs l) u) (hs : Rd w B' (strs l) v) (hB : B ≤ w.heap.size) (hB' : B' ≤ w.heap.size) :
    Calls Tryd.prog 9 #[u, v] w fun e w' => e = .returned (.bool true) ∧ Chg [] w w' := by
  obtain ⟨A, cap, rfl, h0, h1, hrow⟩ := strs_row hr
  obtain ⟨A', cap', rfl, h0', h1', hrow'⟩ := strs_row hs
  unfold maxLen at h1 h1'
  clear hr hs
  go_enter Tryd.func9, Tryd.ntmps9
  go_wp2
  go_loopw [5] (fun i wr => ∃ k : Nat, k ≤ l.length ∧ i = .int .i64 k ∧ Chg [] w wr) (fun i _ => l.length - (intOf i).toNat)
  case atStart => exact ⟨0, Nat.zero_le _, rfl, Chg.refl _ _⟩
  case round =>
    obtain ⟨k, hk, rfl, hh⟩ := hrel
    by_cases hlt : k < l.length
    · obtain ⟨b, off, rfl, hb, hu⟩ := strs_cells (hrow.chg0 hh hB) k hlt
      obtain ⟨b', off', rfl, hb', hu'⟩ := strs_cells (hrow'.chg0 hh hB') k hlt
      go_wp2
      go_quiet (fail)
      go_wp2
      go_roundw
      case rel => exact ⟨k + 1, by omega, by go_num, hh.drewN _⟩
      case measure => simp [intOf]; omega
    · obtain rfl : k = l.length := by omega
      go_wp2
      go_ret
      exact ⟨rfl, hh⟩
end Go.Proofs.YtapmknkelihacaaDoor
