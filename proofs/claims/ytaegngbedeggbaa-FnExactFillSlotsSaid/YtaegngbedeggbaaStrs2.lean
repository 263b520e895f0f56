/- Lists of texts: the walks of copy, equality, mark and held. -/
import Derived.Test.YtaegngbedeggbaaStrs
import Derived.Deep.RegionHeld3
import Derived.StillTailTactics
import Derived.Test.YtaegngbedeggbaaText
namespace Go.Proofs.Ytaegngbedeggbaa
open Go.RowKit

def strN (_ : ByteArray) : Nat := 1
def strM (_ : ByteArray) (k : Int) : ByteArray := mt k
def strsN (l : List ByteArray) : Nat := (l.map strN).sum
def strsM (l : List ByteArray) (k : Int) : List ByteArray := mapK strM strN l k
theorem strsN_length (l : List ByteArray) : strsN l = l.length := by
  induction l with
  | nil => rfl
  | cons a l ih =>
    unfold strsN at ih ⊢
    rw [List.map_cons, List.sum_cons, ih, List.length_cons]
    show 1 + _ = _
    omega
theorem ret_text {k : IntKind} {a b : Int} (h : a = b) : Ending.returned (.int k a) = .returned (.int k b) := by rw [h]
theorem strC_eq (s : ByteArray) : strC s = [.v (.string s)] := rfl

set_option maxHeartbeats 400000 in
theorem toStringS_any (l : List ByteArray) (u : Value) (B : Nat) (w : World) (hl : strsW l ≤ 1048576) (hr : Rd w B (strs l) u) (hB : B ≤ w.heap.size) :
    Calls Try.prog 40 #[u] w (Gives (strs l) w) := by
  obtain ⟨A, cap, rfl, h0, h1, hrow⟩ := strs_row hr
  have hll : l.length ≤ 1048576 := by unfold strsW at hl; omega
  have hmk := fun W => run_make_row' (P := Try.prog) 78 9 (.string ⟨#[]⟩) 16 Try.underlying78 string_info rfl .i64 .i64 l.length (by omega) (by omega) W
  unfold maxLen at h1
  clear hr
  go_enter Try.func40, Try.ntmps40
  go_wp2
  go_loopw [4] (fun i wr => ∃ k : Nat, k ≤ l.length ∧ i = .int .i64 k ∧ New w wr (.s l.length (filled strC [.v (.string ⟨#[]⟩)] l k)) (.slice (some ⟨w.heap.size, 0, none⟩) l.length l.length)) (fun i _ => l.length - (intOf i).toNat)
  case atStart => exact ⟨0, Nat.zero_le _, rfl, by have := New.make w 9 #[.string ⟨#[]⟩] 1 rfl (by omega) [.v (.string ⟨#[]⟩)] (fun w => OwnL.plain w [.string ⟨#[]⟩]) strC l l.length rfl (by unfold maxLen; omega); rwa [Nat.mul_one] at this⟩
  case round =>
    obtain ⟨k, hk, rfl, hh⟩ := hrel
    by_cases hlt : k < l.length
    · obtain ⟨b, off, rfl, hb, hu⟩ := strs_cells (hrow.chg0 hh.chg hB) k hlt
      have hset := hh.fill strC_len rfl hlt (wx := wr) (us := [.string l[k]]) ⟨[], HasL.cons_v (HasL.nil _), by simp, Chg.refl _ _⟩
      obtain ⟨r1, x1, r2⟩ := hh.room (j := k) (by rw [filled_length strC_len rfl _ _ hk]; omega)
      rw [Nat.mul_one] at hset
      go_wp2
      go_roundw
      case rel => exact ⟨k + 1, by omega, by go_num, hset⟩
      case measure => simp [intOf]; omega
    · obtain rfl : k = l.length := by omega
      rw [filled_all] at hh
      go_wp2
      go_ret
      exact ⟨_, rfl, hh⟩
set_option maxHeartbeats 400000 in
theorem eqStringS_same (l : List ByteArray) (u v : Value) (B B' : Nat) (w : World) (hr : Rd w B (strs l) u) (hs : Rd w B' (strs l) v) (hB : B ≤ w.heap.size) (hB' : B' ≤ w.heap.size) :
    Calls Try.prog 42 #[u, v] w fun e w' => e = .returned (.bool true) ∧ Chg [] w w' := by
  obtain ⟨A, cap, rfl, h0, h1, hrow⟩ := strs_row hr
  obtain ⟨A', cap', rfl, h0', h1', hrow'⟩ := strs_row hs
  unfold maxLen at h1 h1'
  clear hr hs
  go_enter Try.func42, Try.ntmps42
  go_wp2
  go_loopw [5] (fun i wr => ∃ k : Nat, k ≤ l.length ∧ i = .int .i64 k ∧ Chg [] w wr) (fun i _ => l.length - (intOf i).toNat)
  case atStart => exact ⟨0, Nat.zero_le _, rfl, Chg.refl _ _⟩
  case round =>
    obtain ⟨k, hk, rfl, hh⟩ := hrel
    by_cases hlt : k < l.length
    · obtain ⟨b, off, rfl, hb, hu⟩ := strs_cells (hrow.chg0 hh hB) k hlt
      obtain ⟨b', off', rfl, hb', hu'⟩ := strs_cells (hrow'.chg0 hh hB') k hlt
      go_wp2
      go_quiet (fail)
      go_wp2
      go_roundw
      case rel => exact ⟨k + 1, by omega, by go_num, hh.drewN _⟩
      case measure => simp [intOf]; omega
    · obtain rfl : k = l.length := by omega
      go_wp2
      go_ret
      exact ⟨rfl, hh⟩
set_option maxRecDepth 100000 in
set_option maxHeartbeats 2000000 in
theorem markStringS_any (l : List ByteArray) (u : Value) (S : List Nat) (k0 : Int) (w : World) (hk0 : 0 ≤ k0) (hkb : k0 + strsN l ≤ 100000000) (hh : Has w (strs l) u S) :
    Calls Try.prog 43 #[u, .int .i64 k0] w fun e w' => e = .returned (.int .i64 (k0 + strsN l)) ∧ Has w' (strs (strsM l k0)) u S ∧ Chg S w w' := by
  obtain ⟨A, cap, rfl, h0, h1, _⟩ := hh.rd.at_
  unfold maxLen at h1
  go_enter Try.func43, Try.ntmps43
  go_wp2_with fail
  go_loopw [1, 5] (fun r i wr => ∃ (i' : Nat) (k : Int), i' ≤ l.length ∧ i = .int .i64 i' ∧ r = .int .i64 k ∧ 0 ≤ k ∧ k ≤ 100000000 ∧ Hid (k = k0 + ((l.take i').map strN).sum) ∧ Has wr (.s l.length ((mapK strM strN (l.take i') k0 ++ l.drop i').flatMap strC)) (.slice A l.length cap) S ∧ Chg S w wr) (fun _ i _ => l.length - (intOf i).toNat)
  case atStart => exact ⟨0, k0, Nat.zero_le _, rfl, rfl, hk0, by omega, by simp [Hid], by simp only [List.take_zero, mapK, List.nil_append, List.drop_zero]; exact hh, Chg.refl _ _⟩
  case round =>
    obtain ⟨i, k, hi, rfl, rfl, hk1, hk2, hkq, H0, hc⟩ := hrel
    by_cases hlt : i < l.length
    · obtain ⟨g, rfl, hgS⟩ := H0.own (by omega)
      have hn1 : k + strN l[i] ≤ 100000000 := by
        have := sum_take strN l i hlt; have := sum_le strN l (i + 1); have := hkq.out; unfold strsN at hkb; omega
      unfold strN at hn1
      rw [marking_at l k0 i hlt, strC_eq] at H0
      have hX := marking_X (M := strM) (N := strN) strC_len l k0 i hlt
      rw [Nat.mul_one] at hX
      have P0 := H0
      go_wp2_with fail
      refine (markText_any _ _ (by omega)).mono ?_; rintro e w1 ⟨rfl, c1⟩
      have H1 := P0.keep0 c1
      have D1 : Chg S w w1 := Chg.trans0 (by repeat (first | with_reducible exact hc | with_reducible refine Chg.drew ?_ | with_reducible refine Chg.alloc ?_ _ | with_reducible refine Chg.setCell ?_ (.inl hgS) _)) c1
      obtain ⟨rf1_0, rx1_0, rc1_0⟩ := H1.room0 hX (by simp)
      have P1 := (H1.set0 hX rfl (.string (mt (k))))
      go_wp2_with fail
      go_roundw
      case rel =>
        have e1 : ((l.take (i + 1)).map strN).sum = ((l.take i).map strN).sum + strN l[i] := sum_take strN l i hlt
        have e2 := hkq.out
        refine ⟨i + 1, _, by omega, by go_num, rfl, by omega, by omega, ?_, ?_, ?_⟩
        · show _ = _; have e3 : strN l[i] = 1 := rfl
          rw [e1, e3]; omega
        · rw [marking_next l k0 i hlt, ← e2]; exact P1
        · repeat (first | with_reducible exact D1 | with_reducible refine Chg.drew ?_ | with_reducible refine Chg.alloc ?_ _ | with_reducible refine Chg.setCell ?_ (.inl hgS) _)
      case measure => simp [intOf]; omega
    · obtain rfl : i = l.length := by omega
      go_wp2_with fail
      go_ret
      have h5 := hkq.out
      rw [List.take_length, List.drop_length, List.append_nil] at H0
      rw [List.take_length] at h5
      refine ⟨ret_text h5, ?_, hc⟩
      show Has _ (.s (mapK strM strN l k0).length ((mapK strM strN l k0).flatMap strC)) _ _
      rw [mapK_length]
      exact H0
end Go.Proofs.Ytaegngbedeggbaa
