/- Walks over slices of integers: copies, comparison. Conditions: at most 1048576 elements. -/
import Derived.Test.YtnkkpmdlcekhhaaRows
import Derived.Test.YtnkkpmdlcekhhaaMem
import Derived.WalkKit
import Derived.WalkSpells
import Derived.WalkLawsBesides
import Derived.Lib.Hide
import Derived.Deep.LoopGhost
import Derived.Deep.OwnRows
import Derived.BigQuiet
import Derived.Deep.QuietTactic
namespace Go.Proofs.Ytnkkpmdlcekhhaa
open Go.RowKit

def intC (x : Int) : List Dat := [.v (.int .i64 x)]
def ints (l : List Int) : Dat := .s l.length (l.flatMap intC)
theorem intC_len (x : Int) : (intC x).length = 1 := rfl
theorem intC_at (l : List Int) (k : Nat) (h : k < l.length) : (l.flatMap intC)[k]? = some (.v (.int .i64 l[k])) := by
  have := flatMap_at intC_len l k 0 h (by omega)
  rw [Nat.mul_one, Nat.add_zero] at this
  exact this

theorem int_info : (Try.prog.info? 3).map (fun i => (i.zero, i.size, i.bytes)) = some (some (.int .i64 0), 1, 8) := by kernel_rfl


theorem ints_row {w : World} {B : Nat} {l : List Int} {u : Value} (h : Rd w B (ints l) u) : ∃ A cap, u = .slice A l.length cap ∧ l.length ≤ cap ∧ cap ≤ maxLen ∧ RowAt w B intC 1 l A := h.row intC_len (by omega)
theorem ints_cell {w : World} {B : Nat} {l : List Int} {A : Option Addr} (h : RowAt w B intC 1 l A) (k : Nat) (hk : k < l.length) : ∃ b off, A = some ⟨b, off, none⟩ ∧ b < B ∧ w.cell? ⟨b, off + k, none⟩ = some (.int .i64 l[k]) := by
  obtain ⟨b, off, rfl, hb, hx⟩ := h k hk
  obtain ⟨u, hu, hd⟩ := hx 0 _ rfl
  rw [Rd] at hd
  subst hd
  exact ⟨b, off, rfl, hb, by simpa using hu⟩

set_option maxHeartbeats 400000 in
theorem toIntS_any (l : List Int) (u : Value) (B : Nat) (w : World) (hr : Rd w B (ints l) u) (hB : B ≤ w.heap.size) (hl : l.length ≤ 1048576) :
    Calls Try.prog 11 #[u] w (Gives (ints l) w) := by
  obtain ⟨A, cap, rfl, h0, h1, hrow⟩ := ints_row hr
  have hmk := fun W => run_make_row' (P := Try.prog) 22 3 (.int .i64 0) 8 Try.underlying22 int_info rfl .i64 .i64 l.length (by omega) (by omega) W
  unfold maxLen at h1
  clear hr
  go_enter Try.func11, Try.ntmps11
  go_wp2
  go_loopw [4] (fun i wr => ∃ k : Nat, k ≤ l.length ∧ i = .int .i64 k ∧ New w wr (.s l.length (filled intC [.v (.int .i64 0)] l k)) (.slice (some ⟨w.heap.size, 0, none⟩) l.length l.length)) (fun i _ => l.length - (intOf i).toNat)
  case atStart => exact ⟨0, Nat.zero_le _, rfl, by have := New.make w 3 #[.int .i64 0] 1 rfl (by omega) [.v (.int .i64 0)] (fun w => OwnL.plain w [.int .i64 0]) intC l l.length rfl (by unfold maxLen; omega); rwa [Nat.mul_one] at this⟩
  case round =>
    obtain ⟨k, hk, rfl, hh⟩ := hrel
    by_cases hlt : k < l.length
    · obtain ⟨b, off, rfl, hb, hu⟩ := ints_cell (hrow.chg0 hh.chg hB) k hlt
      have hset := hh.fill intC_len rfl hlt (wx := wr) (us := [.int .i64 l[k]]) ⟨[], HasL.cons_v (HasL.nil _), by simp, Chg.refl _ _⟩
      obtain ⟨r1, x1, r2⟩ := hh.room (j := k) (by rw [filled_length intC_len rfl _ _ hk]; omega)
      rw [Nat.mul_one] at hset
      go_wp2
      go_roundw
      case rel => exact ⟨k + 1, by omega, by go_num, hset⟩
      case measure => simp [intOf]; omega
    · obtain rfl : k = l.length := by omega
      rw [filled_all] at hh
      go_wp2
      go_ret
      exact ⟨_, rfl, hh⟩

set_option maxHeartbeats 400000 in
theorem eqIntS_same (l : List Int) (u v : Value) (B B' : Nat) (w : World) (hr : Rd w B (ints l) u) (hs : Rd w B' (ints l) v) (hB : B ≤ w.heap.size) (hB' : B' ≤ w.heap.size) :
    Calls Try.prog 13 #[u, v] w fun e w' => e = .returned (.bool true) ∧ Chg [] w w' := by
  obtain ⟨A, cap, rfl, h0, h1, hrow⟩ := ints_row hr
  obtain ⟨A', cap', rfl, h0', h1', hrow'⟩ := ints_row hs
  unfold maxLen at h1 h1'
  clear hr hs
  go_enter Try.func13, Try.ntmps13
  go_wp2
  go_loopw [5] (fun i wr => ∃ k : Nat, k ≤ l.length ∧ i = .int .i64 k ∧ Chg [] w wr) (fun i _ => l.length - (intOf i).toNat)
  case atStart => exact ⟨0, Nat.zero_le _, rfl, Chg.refl _ _⟩
  case round =>
    obtain ⟨k, hk, rfl, hh⟩ := hrel
    by_cases hlt : k < l.length
    · obtain ⟨b, off, rfl, hb, hu⟩ := ints_cell (hrow.chg0 hh hB) k hlt
      obtain ⟨b', off', rfl, hb', hu'⟩ := ints_cell (hrow'.chg0 hh hB') k hlt
      go_wp2
      go_quiet (fail)
      go_wp2
      go_roundw
      case rel => exact ⟨k + 1, by omega, by go_num, hh.drewN _⟩
      case measure => simp [intOf]; omega
    · obtain rfl : k = l.length := by omega
      go_wp2
      go_ret
      exact ⟨rfl, hh⟩

theorem ret_int {k : IntKind} {a b : Int} (h : a = b) : Ending.returned (.int k a) = .returned (.int k b) := by rw [h]
/-- The first difference decides. -/
def cmpL : List Int → List Int → Int
  | a :: l, b :: m => if a < b then -1 else if b < a then 1 else cmpL l m
  | _, _ => 0
def cmpI (l m : List Int) : Int := if l.length < m.length then -1 else if m.length < l.length then 1 else cmpL l m
theorem cmpL_drop (l m : List Int) (k : Nat) (h : k < l.length) (h' : k < m.length) : cmpL (l.drop k) (m.drop k) = if l[k] < m[k] then -1 else if m[k] < l[k] then 1 else cmpL (l.drop (k + 1)) (m.drop (k + 1)) := by
  rw [List.drop_eq_getElem_cons h, List.drop_eq_getElem_cons h', cmpL]
theorem cmpL_end (l m : List Int) : cmpL (l.drop l.length) m = 0 := by
  rw [List.drop_of_length_le (Nat.le_refl _)]; cases m <;> rfl

set_option maxHeartbeats 400000 in
theorem compareInputs_spec_any (l m : List Int) (u v : Value) (B B' : Nat) (w : World) (hr : Rd w B (ints l) u) (hs : Rd w B' (ints m) v) (hB : B ≤ w.heap.size) (hB' : B' ≤ w.heap.size) :
    Calls Try.prog 10 #[u, v] w fun e w' => e = .returned (.int .i64 (cmpI l m)) ∧ Chg [] w w' := by
  obtain ⟨A, cap, rfl, h0, h1, hrow⟩ := ints_row hr
  obtain ⟨A', cap', rfl, h0', h1', hrow'⟩ := ints_row hs
  unfold maxLen at h1 h1'
  clear hr hs
  by_cases c1 : l.length < m.length
  · go_enter Try.func10, Try.ntmps10
    go_wp2
    go_ret
    exact ⟨ret_int (by rw [cmpI, if_pos c1]), Chg.refl _ _⟩
  · by_cases c2 : m.length < l.length
    · go_enter Try.func10, Try.ntmps10
      go_wp2
      go_ret
      exact ⟨ret_int (by rw [cmpI, if_neg (by omega), if_pos (by omega)]), Chg.refl _ _⟩
    · have hc0 : Hid (cmpI l m = cmpL (l.drop 0) (m.drop 0)) := by
        show cmpI l m = _
        rw [cmpI, if_neg c1, if_neg c2]; rfl
      go_enter Try.func10, Try.ntmps10
      go_wp2
      go_loopw [20] (fun i wr => ∃ k : Nat, k ≤ l.length ∧ i = .int .i64 k ∧ Chg [] w wr ∧ Hid (cmpI l m = cmpL (l.drop k) (m.drop k))) (fun i _ => l.length - (intOf i).toNat)
      case atStart => exact ⟨0, Nat.zero_le _, rfl, Chg.refl _ _, hc0⟩
      case round =>
        obtain ⟨k, hk, rfl, hh, hq⟩ := hrel
        by_cases hlt : k < l.length
        · have hlt' : k < m.length := by omega
          obtain ⟨b, off, rfl, hb, hu⟩ := ints_cell (hrow.chg0 hh hB) k hlt
          obtain ⟨b', off', rfl, hb', hu'⟩ := ints_cell (hrow'.chg0 hh hB') k hlt'
          have hq2 := hq.out
          rw [cmpL_drop l m k hlt hlt'] at hq2
          have HQ := Lib.hid hq2
          clear hq hq2 hc0
          by_cases d1 : l[k] < m[k]
          · go_wp2
            go_quiet (fail)
            go_wp2
            go_ret
            exact ⟨ret_int (by rw [HQ.out, if_pos d1]), hh.drewN _⟩
          · by_cases d2 : m[k] < l[k]
            · go_wp2
              go_quiet (fail)
              go_wp2
              go_quiet (fail)
              go_wp2
              go_ret
              exact ⟨ret_int (by rw [HQ.out, if_neg (by omega), if_pos (by omega)]), (hh.drewN _).drewN _⟩
            · go_wp2
              go_quiet (fail)
              go_wp2
              go_quiet (fail)
              go_wp2
              go_roundw
              case rel => exact ⟨k + 1, by omega, by go_num, (hh.drewN _), by rw [HQ.out, if_neg (by omega), if_neg (by omega)]; exact Lib.hid rfl⟩
              case measure => simp [intOf]; omega
        · obtain rfl : k = l.length := by omega
          go_wp2
          go_ret
          exact ⟨ret_int (by rw [hq.out, cmpL_end]), hh⟩

set_option maxHeartbeats 400000 in
theorem compareInputs_impl_any (l m : List Int) (u v : Value) (B B' : Nat) (w : World) (hr : Rd w B (ints l) u) (hs : Rd w B' (ints m) v) (hB : B ≤ w.heap.size) (hB' : B' ≤ w.heap.size) :
    Calls Try.prog 12 #[u, v] w fun e w' => e = .returned (.int .i64 (cmpI l m)) ∧ Chg [] w w' := by
  obtain ⟨A, cap, rfl, h0, h1, hrow⟩ := ints_row hr
  obtain ⟨A', cap', rfl, h0', h1', hrow'⟩ := ints_row hs
  unfold maxLen at h1 h1'
  clear hr hs
  by_cases c1 : l.length < m.length
  · go_enter Try.func12, Try.ntmps12
    go_wp2
    go_ret
    exact ⟨ret_int (by rw [cmpI, if_pos c1]), Chg.refl _ _⟩
  · by_cases c2 : m.length < l.length
    · go_enter Try.func12, Try.ntmps12
      go_wp2
      go_ret
      exact ⟨ret_int (by rw [cmpI, if_neg (by omega), if_pos (by omega)]), Chg.refl _ _⟩
    · have hc0 : Hid (cmpI l m = cmpL (l.drop 0) (m.drop 0)) := by
        show cmpI l m = _
        rw [cmpI, if_neg c1, if_neg c2]; rfl
      go_enter Try.func12, Try.ntmps12
      go_wp2
      go_loopw [20] (fun i wr => ∃ k : Nat, k ≤ l.length ∧ i = .int .i64 k ∧ Chg [] w wr ∧ Hid (cmpI l m = cmpL (l.drop k) (m.drop k))) (fun i _ => l.length - (intOf i).toNat)
      case atStart => exact ⟨0, Nat.zero_le _, rfl, Chg.refl _ _, hc0⟩
      case round =>
        obtain ⟨k, hk, rfl, hh, hq⟩ := hrel
        by_cases hlt : k < l.length
        · have hlt' : k < m.length := by omega
          obtain ⟨b, off, rfl, hb, hu⟩ := ints_cell (hrow.chg0 hh hB) k hlt
          obtain ⟨b', off', rfl, hb', hu'⟩ := ints_cell (hrow'.chg0 hh hB') k hlt'
          have hq2 := hq.out
          rw [cmpL_drop l m k hlt hlt'] at hq2
          have HQ := Lib.hid hq2
          clear hq hq2 hc0
          by_cases d1 : l[k] < m[k]
          · go_wp2
            go_quiet (fail)
            go_wp2
            go_ret
            exact ⟨ret_int (by rw [HQ.out, if_pos d1]), hh.drewN _⟩
          · by_cases d2 : m[k] < l[k]
            · go_wp2
              go_quiet (fail)
              go_wp2
              go_quiet (fail)
              go_wp2
              go_ret
              exact ⟨ret_int (by rw [HQ.out, if_neg (by omega), if_pos (by omega)]), (hh.drewN _).drewN _⟩
            · go_wp2
              go_quiet (fail)
              go_wp2
              go_quiet (fail)
              go_wp2
              go_roundw
              case rel => exact ⟨k + 1, by omega, by go_num, (hh.drewN _), by rw [HQ.out, if_neg (by omega), if_neg (by omega)]; exact Lib.hid rfl⟩
              case measure => simp [intOf]; omega
        · obtain rfl : k = l.length := by omega
          go_wp2
          go_ret
          exact ⟨ret_int (by rw [hq.out, cmpL_end]), hh⟩

end Go.Proofs.Ytnkkpmdlcekhhaa
