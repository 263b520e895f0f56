/- IsCells of both packages. Written by a program. -/
import Derived.Test.YtgnggiibhkphjaaGreatDoorFaces
namespace Go.Proofs.YtgnggiibhkphjaaGreatDoor
open Go.RowKit

/-- What is asked of cell k of a list. -/
def CellAt (l : List CellT) (k : Nat) (h : k < l.length) : Prop := IsNm l[k].key ∧ IsNum l[k].value ∧ (0 < k → Op.bytesLess (l[k - 1]'(by omega)).key.toList l[k].key.toList = true)
def CellsOk (l : List CellT) : Prop := l.length ≤ 4 ∧ ∀ (k : Nat) (h : k < l.length), CellAt l k h
theorem geq_string (a b : ByteArray) (W : World) : (binOp .geq 9 (.string a) (.string b)).run Tryz.prog W = .ok (.bool (!Op.bytesLess a.toList b.toList)) W := by
  simp [binOp, go_sem, Op.stringOp]
set_option maxRecDepth 100000 in
set_option maxHeartbeats 4000000 in
theorem isCells_impl_any (l : List CellT) (u : Value) (B : Nat) (w : World) (r : Rd w B (cells l) u) (hB : B ≤ w.heap.size) (hl : l.length ≤ 1048576) (hs : ∀ c ∈ l, c.key.size ≤ 1048576) :
    Calls Tryz.prog 68 #[u] w (BoolPost (CellsOk l) w) := by
  obtain ⟨A, cap, rfl, h0, h1, hrow⟩ := cells_row r
  unfold maxLen at h1
  clear r
  go_enter Tryz.func68, Tryz.ntmps68
  go_wp2_with fail
  · go_ret
    refine ⟨_, rfl, ⟨fun h => by simp at h, fun h => ?_⟩, Chg.refl _ _⟩
    have := h.1; omega
  · have hl4 : l.length ≤ 4 := by omega
    go_loopw [10] (fun i wr => ∃ k : Nat, k ≤ l.length ∧ i = .int .i64 k ∧ (∀ (j : Nat) (h : j < l.length), j < k → CellAt l j h) ∧ Chg [] w wr) (fun i _ => l.length - (intOf i).toNat)
    case atStart => exact ⟨0, Nat.zero_le _, rfl, fun j h h0 => absurd h0 (Nat.not_lt_zero _), Chg.refl _ _⟩
    case round =>
      obtain ⟨k, hk, rfl, HN, hc⟩ := hrel
      have HN := Lib.hid HN
      by_cases hlt : k < l.length
      · obtain ⟨b, off, rfl, hb, q0, q1⟩ := cells_cells (hrow.chg0 hc hB) k hlt
        have hsz := hc.size
        have hbw : b < wr.heap.size := by omega
        have hnm := fun W => isName_impl_any l[k].key W (hs _ (List.getElem_mem hlt))
        by_cases n1 : IsNm l[k].key
        · have NM := Lib.hid (fun W => (hnm W).mono (BoolIs.pos n1))
          clear hnm
          have hnu := fun W => isNumber_any l[k].value W
          by_cases n2 : IsNum l[k].value
          · have NU := Lib.hid (fun W => (hnu W).mono (BoolIs.pos n2))
            clear hnu
            by_cases hk0 : k = 0
            · have CA : Hid (CellAt l k hlt) := Lib.hid ⟨n1, n2, fun h => absurd hk0 (by omega)⟩
              subst hk0
              simp only [Nat.zero_mul, Nat.add_zero] at q0 q1
              clear n1 n2
              go_wp2_with fail
              go_quiet (first | (go_at_call 70; exact Calls.quiet_of_same (NM.out _)) | (go_at_call 71; exact Calls.quiet_of_same (NU.out _)) | fail)
              go_wp2_with fail
              go_roundw
              case rel => exact ⟨0 + 1, by omega, by go_num, fun j h hj => (Nat.lt_succ_iff_lt_or_eq.1 hj).elim (HN.out j h) (fun e => by subst e; exact CA.out), hc.trans0 (((Chg.refl _ _).alloc _).drewN _)⟩
              case measure => simp [intOf]; omega
            · have hkB : 0 < k := by omega
              have hkD : decide (0 < k) = true := by simp; omega
              have hk1 : (0 : Int) < (k : Int) := by omega
              obtain ⟨b', off', e', hb', p0, p1⟩ := cells_cells (hrow.chg0 hc hB) (k - 1) (by omega)
              cases e'
              have hgeq := geq_string (l[k - 1]'(by omega)).key l[k].key
              have hkN : ((k : Int) - 1).toNat = k - 1 := by omega
              have hi0 : (0 : Int) ≤ (k : Int) - 1 := by omega
              have hi1 : (k : Int) - 1 < (l.length : Int) := by omega
              have hiw : IntKind.i64.wrap ((k : Int) - 1) = (k : Int) - 1 := by simp [IntKind.wrap, IntKind.bits, IntKind.signed]; omega
              by_cases n3 : Op.bytesLess (l[k - 1]'(by omega)).key.toList l[k].key.toList = true
              · have CA : Hid (CellAt l k hlt) := Lib.hid ⟨n1, n2, fun _ => n3⟩
                clear n1 n2
                go_wp2_with fail
                go_quiet (first | (go_at_call 70; exact Calls.quiet_of_same (NM.out _)) | (go_at_call 71; exact Calls.quiet_of_same (NU.out _)) | fail)
                go_wp2_with fail
                go_roundw
                case rel => exact ⟨k + 1, by omega, by go_num, fun j h hj => (Nat.lt_succ_iff_lt_or_eq.1 hj).elim (HN.out j h) (fun e => by subst e; exact CA.out), hc.trans0 (((Chg.refl _ _).alloc _).drewN _)⟩
                case measure => simp [intOf]; omega
              · have CA : Hid (¬ CellAt l k hlt) := Lib.hid (fun h => n3 (h.2.2 (by omega)))
                clear n1 n2
                go_wp2_with fail
                go_quiet (first | (go_at_call 70; exact Calls.quiet_of_same (NM.out _)) | (go_at_call 71; exact Calls.quiet_of_same (NU.out _)) | fail)
                go_wp2_with fail
                go_ret
                refine ⟨_, rfl, ⟨fun h => by simp at h, fun h => ?_⟩, hc.trans0 (((Chg.refl _ _).alloc _).drewN _)⟩
                exact (CA.out (h.2 k hlt)).elim
          · have CA : Hid (¬ CellAt l k hlt) := Lib.hid (fun h => n2 h.2.1)
            have NU := Lib.hid (fun W => (hnu W).mono (BoolIs.neg n2))
            clear hnu n1 n2
            go_wp2_with fail
            go_quiet (first | (go_at_call 70; exact Calls.quiet_of_same (NM.out _)) | (go_at_call 71; exact Calls.quiet_of_same (NU.out _)) | fail)
            go_wp2_with fail
            go_ret
            refine ⟨_, rfl, ⟨fun h => by simp at h, fun h => ?_⟩, hc.trans0 (((Chg.refl _ _).alloc _).drewN _)⟩
            exact (CA.out (h.2 k hlt)).elim
        · have CA : Hid (¬ CellAt l k hlt) := Lib.hid (fun h => n1 h.1)
          have NM := Lib.hid (fun W => (hnm W).mono (BoolIs.neg n1))
          clear hnm n1
          go_wp2_with fail
          go_quiet (first | (go_at_call 70; exact Calls.quiet_of_same (NM.out _)) | fail)
          go_wp2_with fail
          go_ret
          refine ⟨_, rfl, ⟨fun h => by simp at h, fun h => ?_⟩, hc.trans0 (((Chg.refl _ _).alloc _).drewN _)⟩
          exact (CA.out (h.2 k hlt)).elim
      · obtain rfl : k = l.length := by omega
        go_wp2_with fail
        go_ret
        refine ⟨_, rfl, ⟨fun _ => ⟨by omega, fun i h => HN.out i h h⟩, fun _ => rfl⟩, hc⟩
set_option maxRecDepth 100000 in
set_option maxHeartbeats 4000000 in
theorem isCells_spec_any (l : List CellT) (u : Value) (B : Nat) (w : World) (r : Rd w B (cells l) u) (hB : B ≤ w.heap.size) (hl : l.length ≤ 1048576) (hs : ∀ c ∈ l, c.key.size ≤ 1048576) :
    Calls Tryz.prog 81 #[u] w (BoolPost (CellsOk l) w) := by
  obtain ⟨A, cap, rfl, h0, h1, hrow⟩ := cells_row r
  unfold maxLen at h1
  clear r
  go_enter Tryz.func81, Tryz.ntmps81
  go_wp2_with fail
  go_loopw [7] (fun i wr => ∃ k : Nat, k ≤ l.length ∧ i = .int .i64 k ∧ (∀ (j : Nat) (h : j < l.length), j < k → CellAt l j h) ∧ Chg [] w wr) (fun i _ => l.length - (intOf i).toNat)
  case atStart => exact ⟨0, Nat.zero_le _, rfl, fun j h h0 => absurd h0 (Nat.not_lt_zero _), Chg.refl _ _⟩
  case round =>
    obtain ⟨k, hk, rfl, HN, hc⟩ := hrel
    have HN := Lib.hid HN
    by_cases hlt : k < l.length
    · obtain ⟨b, off, rfl, hb, q0, q1⟩ := cells_cells (hrow.chg0 hc hB) k hlt
      have hsz := hc.size
      have hbw : b < wr.heap.size := by omega
      have hnm := fun W => isName_spec_any l[k].key W (hs _ (List.getElem_mem hlt))
      by_cases n1 : IsNm l[k].key
      · have NM := Lib.hid (fun W => (hnm W).mono (BoolIs.pos n1))
        clear hnm
        by_cases n2 : IsNum l[k].value
        · have v1 : 0 ≤ l[k].value := n2.1
          have v2 : l[k].value ≤ 999 := n2.2
          have v3 : decide (l[k].value < 0) = false := by simp; omega
          have v4 : decide (999 < l[k].value) = false := by simp; omega
          by_cases hk0 : k = 0
          · have CA : Hid (CellAt l k hlt) := Lib.hid ⟨n1, n2, fun h => absurd hk0 (by omega)⟩
            subst hk0
            simp only [Nat.zero_mul, Nat.add_zero] at q0 q1
            clear n1 n2
            go_wp2_with fail
            go_quiet (first | (go_at_call 74; exact Calls.quiet_of_same (NM.out _)) | fail)
            go_wp2_with fail
            go_roundw
            case rel => exact ⟨0 + 1, by omega, by go_num, fun j h hj => (Nat.lt_succ_iff_lt_or_eq.1 hj).elim (HN.out j h) (fun e => by subst e; exact CA.out), hc.trans0 (((Chg.refl _ _).alloc _).drewN _)⟩
            case measure => simp [intOf]; omega
          · have hkB : 0 < k := by omega
            have hkD : decide (0 < k) = true := by simp; omega
            have hk1 : (0 : Int) < (k : Int) := by omega
            obtain ⟨b', off', e', hb', p0, p1⟩ := cells_cells (hrow.chg0 hc hB) (k - 1) (by omega)
            cases e'
            have hgeq := geq_string (l[k - 1]'(by omega)).key l[k].key
            have hkN : ((k : Int) - 1).toNat = k - 1 := by omega
            have hi0 : (0 : Int) ≤ (k : Int) - 1 := by omega
            have hi1 : (k : Int) - 1 < (l.length : Int) := by omega
            have hiw : IntKind.i64.wrap ((k : Int) - 1) = (k : Int) - 1 := by simp [IntKind.wrap, IntKind.bits, IntKind.signed]; omega
            by_cases n3 : Op.bytesLess (l[k - 1]'(by omega)).key.toList l[k].key.toList = true
            · have CA : Hid (CellAt l k hlt) := Lib.hid ⟨n1, n2, fun _ => n3⟩
              clear n1 n2
              go_wp2_with fail
              go_quiet (first | (go_at_call 74; exact Calls.quiet_of_same (NM.out _)) | fail)
              go_wp2_with fail
              go_roundw
              case rel => exact ⟨k + 1, by omega, by go_num, fun j h hj => (Nat.lt_succ_iff_lt_or_eq.1 hj).elim (HN.out j h) (fun e => by subst e; exact CA.out), hc.trans0 (((Chg.refl _ _).alloc _).drewN _)⟩
              case measure => simp [intOf]; omega
            · have CA : Hid (¬ CellAt l k hlt) := Lib.hid (fun h => n3 (h.2.2 (by omega)))
              clear n1 n2
              go_wp2_with fail
              go_quiet (first | (go_at_call 74; exact Calls.quiet_of_same (NM.out _)) | fail)
              go_wp2_with fail
              go_ret
              refine ⟨_, rfl, ⟨fun h => by simp at h, fun h => ?_⟩, hc.trans0 (((Chg.refl _ _).alloc _).drewN _)⟩
              exact (CA.out (h.2 k hlt)).elim
        · have CA : Hid (¬ CellAt l k hlt) := Lib.hid (fun h => n2 h.2.1)
          by_cases v1 : l[k].value < 0
          · have v2 : decide (l[k].value < 0) = true := by simp; omega
            clear n1 n2
            go_wp2_with fail
            go_quiet (first | (go_at_call 74; exact Calls.quiet_of_same (NM.out _)) | fail)
            go_wp2_with fail
            go_ret
            refine ⟨_, rfl, ⟨fun h => by simp at h, fun h => ?_⟩, hc.trans0 (((Chg.refl _ _).alloc _).drewN _)⟩
            exact (CA.out (h.2 k hlt)).elim
          · have v2 : 999 < l[k].value := by unfold IsNum at n2; omega
            have v3 : 0 ≤ l[k].value := by omega
            have v4 : decide (l[k].value < 0) = false := by simp; omega
            have v5 : decide (999 < l[k].value) = true := by simp; omega
            clear n1 n2 v1
            go_wp2_with fail
            go_quiet (first | (go_at_call 74; exact Calls.quiet_of_same (NM.out _)) | fail)
            go_wp2_with fail
            go_ret
            refine ⟨_, rfl, ⟨fun h => by simp at h, fun h => ?_⟩, hc.trans0 (((Chg.refl _ _).alloc _).drewN _)⟩
            exact (CA.out (h.2 k hlt)).elim
      · have CA : Hid (¬ CellAt l k hlt) := Lib.hid (fun h => n1 h.1)
        have NM := Lib.hid (fun W => (hnm W).mono (BoolIs.neg n1))
        clear hnm n1
        go_wp2_with fail
        go_quiet (first | (go_at_call 74; exact Calls.quiet_of_same (NM.out _)) | fail)
        go_wp2_with fail
        go_ret
        refine ⟨_, rfl, ⟨fun h => by simp at h, fun h => ?_⟩, hc.trans0 (((Chg.refl _ _).alloc _).drewN _)⟩
        exact (CA.out (h.2 k hlt)).elim
    · obtain rfl : k = l.length := by omega
      go_wp2_with fail
      go_ret
      refine ⟨_, rfl, ⟨fun h => ⟨by simp at h; omega, fun i h => HN.out i h h⟩, fun h => by have := h.1; simp; omega⟩, hc⟩
end Go.Proofs.YtgnggiibhkphjaaGreatDoor
