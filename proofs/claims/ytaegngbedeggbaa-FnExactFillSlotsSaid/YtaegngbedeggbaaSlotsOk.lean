/- IsSlots of both packages. Written by a program. -/
import Derived.Test.YtaegngbedeggbaaPart
namespace Go.Proofs.Ytaegngbedeggbaa
open Go.RowKit

def zeroPart : PartT := ⟨⟨⟨#[]⟩, false, false, [], 0⟩, []⟩
theorem zeroPart_cells (W : World) : Rd W W.heap.size (cells zeroPart.core.cells) (.slice none 0 0) := by
  show Rd W W.heap.size (.s 0 []) _
  rw [Rd]
  exact ⟨none, 0, rfl, Nat.le_refl _, by simp [maxLen], .inl rfl⟩
theorem zeroPart_layers (W : World) : Rd W W.heap.size (layers zeroPart.layers) (.slice none 0 0) := by
  show Rd W W.heap.size (.s 0 []) _
  rw [Rd]
  exact ⟨none, 0, rfl, Nat.le_refl _, by simp [maxLen], .inl rfl⟩
def SlotOk (s : SlotT) : Prop := (s.full = true → PartOk s.part) ∧ (s.full = false → s.part = zeroPart)
def SlotsOk (l : List SlotT) : Prop := l.length = 3 ∧ ∀ (k : Nat) (h : k < l.length), SlotOk l[k]
def SlotSmall (s : SlotT) : Prop := s.part.core.cells.length ≤ 1048576 ∧ s.part.layers.length ≤ 1048576 ∧ ∀ c ∈ s.part.core.cells, c.key.size ≤ 1048576
theorem slotOk_off {s : SlotT} (h : s.full = false) (h1 : s.part = zeroPart) : SlotOk s := ⟨fun e => (by rw [h] at e; cases e), fun _ => h1⟩
theorem slotOk_on {s : SlotT} (h : s.full = true) (h1 : PartOk s.part) : SlotOk s := ⟨fun _ => h1, fun e => (by rw [h] at e; cases e)⟩
theorem slotOk_off_not {s : SlotT} (h : s.full = false) (h1 : ¬ s.part = zeroPart) : ¬ SlotOk s := fun hs => h1 (hs.2 h)
theorem slotOk_on_not {s : SlotT} (h : s.full = true) (h1 : ¬ PartOk s.part) : ¬ SlotOk s := fun hs => h1 (hs.1 h)
set_option maxRecDepth 100000 in
set_option maxHeartbeats 4000000 in
theorem isSlots_impl_any (l : List SlotT) (u : Value) (B : Nat) (w : World) (r : Rd w B (slots l) u) (hB : B ≤ w.heap.size) (hs : ∀ s ∈ l, SlotSmall s) :
    Calls Try.prog 9 #[u] w (BoolPost (SlotsOk l) w) := by
  obtain ⟨A, cap, rfl, h0, h1, hrow⟩ := slots_row r
  unfold maxLen at h1
  clear r
  by_cases n3 : l.length = 3
  · have hi3 : ((l.length : Int) != 3) = false := by simp; omega
    have N3 := Lib.hid n3
    clear n3
    go_enter Try.func9, Try.ntmps9
    go_wp2_with fail
    go_loopw [10] (fun i wr => ∃ k : Nat, k ≤ l.length ∧ i = .int .i64 k ∧ (∀ (j : Nat) (h : j < l.length), j < k → SlotOk l[j]) ∧ Chg [] w wr) (fun i _ => l.length - (intOf i).toNat)
    case atStart => exact ⟨0, Nat.zero_le _, rfl, fun j h h0 => absurd h0 (Nat.not_lt_zero _), Chg.refl _ _⟩
    case round =>
      obtain ⟨k, hk, rfl, HN, hc⟩ := hrel
      have HN := Lib.hid HN
      by_cases hlt : k < l.length
      · obtain ⟨b, off, u4, u6, rfl, hb, q0, q1, q2, q3, q4, q5, q6, r4, r6⟩ := slots_cells (hrow.chg0 hc hB) k hlt
        obtain ⟨A4, cap4, rfl, _, _, _⟩ := cells_row r4
        obtain ⟨A6, cap6, rfl, _, _, _⟩ := layers_row r6
        have ttr : wr.heap.size < wr.heap.size + 1 := Nat.lt_succ_self _
        have hBr : B ≤ wr.heap.size := by have := hc.size; omega
        have hbw : b < wr.heap.size := by omega
        have hsm := Lib.hid (hs _ (List.getElem_mem hlt))
        cases hf : l[k].full
        · simp only [hf] at q0
          have SP := fun W (hW : Chg [] wr W) => samePart_impl_any l[k].part zeroPart _ _ _ _ B W.heap.size W (r4.chg0 hW hBr) (r6.chg0 hW hBr) (zeroPart_cells W) (zeroPart_layers W) (by have := hW.size; omega) (Nat.le_refl _)
          by_cases n1 : l[k].part = zeroPart
          · have SP2 := Lib.hid (fun W (hW : Chg [] wr W) => (SP W hW).mono (BoolPost.pos n1))
            have CA : Hid (SlotOk l[k]) := Lib.hid (slotOk_off hf n1)
            clear n1 SP
            go_wp2_with fail
            refine (SP2.out _ ((Chg.refl _ _).alloc _)).mono ?_
            rintro e w2 ⟨rfl, c2⟩
            go_wp2_with fail
            go_roundw
            case rel => exact ⟨k + 1, by omega, by go_num, fun j h hj => (Nat.lt_succ_iff_lt_or_eq.1 hj).elim (HN.out j h) (fun e => by subst e; exact CA.out), ((hc.alloc _).trans0 c2)⟩
            case measure => simp [intOf]; omega
          · have SP2 := Lib.hid (fun W (hW : Chg [] wr W) => (SP W hW).mono (BoolPost.neg n1))
            have CA : Hid (¬ SlotOk l[k]) := Lib.hid (slotOk_off_not hf n1)
            clear n1 SP
            go_wp2_with fail
            refine (SP2.out _ ((Chg.refl _ _).alloc _)).mono ?_
            rintro e w2 ⟨rfl, c2⟩
            go_wp2_with fail
            go_ret
            exact ⟨_, rfl, ⟨fun h => by simp at h, fun h => (CA.out (h.2 k hlt)).elim⟩, ((hc.alloc _).trans0 c2)⟩
        · simp only [hf] at q0
          have SP := fun W (hW : Chg [] wr W) => isPart_impl_any l[k].part _ _ B W (r4.chg0 hW hBr) (r6.chg0 hW hBr) (by have := hW.size; omega) hsm.out.2.1 hsm.out.1 hsm.out.2.2
          by_cases n1 : PartOk l[k].part
          · have SP2 := Lib.hid (fun W (hW : Chg [] wr W) => (SP W hW).mono (BoolPost.pos n1))
            have CA : Hid (SlotOk l[k]) := Lib.hid (slotOk_on hf n1)
            clear n1 SP
            go_wp2_with fail
            refine (SP2.out _ ((Chg.refl _ _).alloc _)).mono ?_
            rintro e w2 ⟨rfl, c2⟩
            have x0 : w2.cell? ⟨wr.heap.size, 0, none⟩ = some (.bool true) := (c2.cell (p := ⟨wr.heap.size, 0, none⟩) (by simp) (by simp)).trans (by go_simp)
            go_wp2_with fail
            go_roundw
            case rel => exact ⟨k + 1, by omega, by go_num, fun j h hj => (Nat.lt_succ_iff_lt_or_eq.1 hj).elim (HN.out j h) (fun e => by subst e; exact CA.out), ((hc.alloc _).trans0 c2)⟩
            case measure => simp [intOf]; omega
          · have SP2 := Lib.hid (fun W (hW : Chg [] wr W) => (SP W hW).mono (BoolPost.neg n1))
            have CA : Hid (¬ SlotOk l[k]) := Lib.hid (slotOk_on_not hf n1)
            clear n1 SP
            go_wp2_with fail
            refine (SP2.out _ ((Chg.refl _ _).alloc _)).mono ?_
            rintro e w2 ⟨rfl, c2⟩
            go_wp2_with fail
            go_ret
            exact ⟨_, rfl, ⟨fun h => by simp at h, fun h => (CA.out (h.2 k hlt)).elim⟩, ((hc.alloc _).trans0 c2)⟩
      · obtain rfl : k = l.length := by omega
        go_wp2_with fail
        go_ret
        exact ⟨_, rfl, ⟨fun _ => ⟨N3.out, fun i h => HN.out i h h⟩, fun _ => rfl⟩, hc⟩
  · have hi3 : ((l.length : Int) != 3) = true := by simp; omega
    go_enter Try.func9, Try.ntmps9
    go_wp2_with fail
    go_ret
    exact ⟨_, rfl, ⟨fun h => by simp at h, fun h => (n3 h.1).elim⟩, Chg.refl _ _⟩
set_option maxRecDepth 100000 in
set_option maxHeartbeats 4000000 in
theorem isSlots_spec_any (l : List SlotT) (u : Value) (B : Nat) (w : World) (r : Rd w B (slots l) u) (hB : B ≤ w.heap.size) (hs : ∀ s ∈ l, SlotSmall s) :
    Calls Try.prog 7 #[u] w (BoolPost (SlotsOk l) w) := by
  obtain ⟨A, cap, rfl, h0, h1, hrow⟩ := slots_row r
  unfold maxLen at h1
  clear r
  go_enter Try.func7, Try.ntmps7
  go_wp2_with fail
  go_loopw [7] (fun i wr => ∃ k : Nat, k ≤ l.length ∧ i = .int .i64 k ∧ (∀ (j : Nat) (h : j < l.length), j < k → SlotOk l[j]) ∧ Chg [] w wr) (fun i _ => l.length - (intOf i).toNat)
  case atStart => exact ⟨0, Nat.zero_le _, rfl, fun j h h0 => absurd h0 (Nat.not_lt_zero _), Chg.refl _ _⟩
  case round =>
    obtain ⟨k, hk, rfl, HN, hc⟩ := hrel
    have HN := Lib.hid HN
    by_cases hlt : k < l.length
    · obtain ⟨b, off, u4, u6, rfl, hb, q0, q1, q2, q3, q4, q5, q6, r4, r6⟩ := slots_cells (hrow.chg0 hc hB) k hlt
      obtain ⟨A4, cap4, rfl, _, _, _⟩ := cells_row r4
      obtain ⟨A6, cap6, rfl, _, _, _⟩ := layers_row r6
      have ttr : wr.heap.size < wr.heap.size + 1 := Nat.lt_succ_self _
      have hBr : B ≤ wr.heap.size := by have := hc.size; omega
      have hbw : b < wr.heap.size := by omega
      have hsm := Lib.hid (hs _ (List.getElem_mem hlt))
      cases hf : l[k].full
      · simp only [hf] at q0
        have SP := fun W (hW : Chg [] wr W) => samePart_spec_any l[k].part zeroPart _ _ _ _ B W.heap.size W (r4.chg0 hW hBr) (r6.chg0 hW hBr) (zeroPart_cells W) (zeroPart_layers W) (by have := hW.size; omega) (Nat.le_refl _)
        by_cases n1 : l[k].part = zeroPart
        · have SP2 := Lib.hid (fun W (hW : Chg [] wr W) => (SP W hW).mono (BoolPost.pos n1))
          have CA : Hid (SlotOk l[k]) := Lib.hid (slotOk_off hf n1)
          clear n1 SP
          go_wp2_with fail
          refine (SP2.out _ ((Chg.refl _ _).alloc _)).mono ?_
          rintro e w2 ⟨rfl, c2⟩
          go_wp2_with fail
          go_roundw
          case rel => exact ⟨k + 1, by omega, by go_num, fun j h hj => (Nat.lt_succ_iff_lt_or_eq.1 hj).elim (HN.out j h) (fun e => by subst e; exact CA.out), ((hc.alloc _).trans0 c2)⟩
          case measure => simp [intOf]; omega
        · have SP2 := Lib.hid (fun W (hW : Chg [] wr W) => (SP W hW).mono (BoolPost.neg n1))
          have CA : Hid (¬ SlotOk l[k]) := Lib.hid (slotOk_off_not hf n1)
          clear n1 SP
          go_wp2_with fail
          refine (SP2.out _ ((Chg.refl _ _).alloc _)).mono ?_
          rintro e w2 ⟨rfl, c2⟩
          go_wp2_with fail
          go_ret
          exact ⟨_, rfl, ⟨fun h => by simp at h, fun h => (CA.out (h.2 k hlt)).elim⟩, ((hc.alloc _).trans0 c2)⟩
      · simp only [hf] at q0
        have SP := fun W (hW : Chg [] wr W) => isPart_spec_any l[k].part _ _ B W (r4.chg0 hW hBr) (r6.chg0 hW hBr) (by have := hW.size; omega) hsm.out.2.1 hsm.out.1 hsm.out.2.2
        by_cases n1 : PartOk l[k].part
        · have SP2 := Lib.hid (fun W (hW : Chg [] wr W) => (SP W hW).mono (BoolPost.pos n1))
          have CA : Hid (SlotOk l[k]) := Lib.hid (slotOk_on hf n1)
          clear n1 SP
          go_wp2_with fail
          refine (SP2.out _ ((Chg.refl _ _).alloc _)).mono ?_
          rintro e w2 ⟨rfl, c2⟩
          have x0 : w2.cell? ⟨wr.heap.size, 0, none⟩ = some (.bool true) := (c2.cell (p := ⟨wr.heap.size, 0, none⟩) (by simp) (by simp)).trans (by go_simp)
          go_wp2_with fail
          go_roundw
          case rel => exact ⟨k + 1, by omega, by go_num, fun j h hj => (Nat.lt_succ_iff_lt_or_eq.1 hj).elim (HN.out j h) (fun e => by subst e; exact CA.out), ((hc.alloc _).trans0 c2)⟩
          case measure => simp [intOf]; omega
        · have SP2 := Lib.hid (fun W (hW : Chg [] wr W) => (SP W hW).mono (BoolPost.neg n1))
          have CA : Hid (¬ SlotOk l[k]) := Lib.hid (slotOk_on_not hf n1)
          clear n1 SP
          go_wp2_with fail
          refine (SP2.out _ ((Chg.refl _ _).alloc _)).mono ?_
          rintro e w2 ⟨rfl, c2⟩
          go_wp2_with fail
          go_ret
          exact ⟨_, rfl, ⟨fun h => by simp at h, fun h => (CA.out (h.2 k hlt)).elim⟩, ((hc.alloc _).trans0 c2)⟩
    · obtain rfl : k = l.length := by omega
      go_wp2_with fail
      go_ret
      exact ⟨_, rfl, ⟨fun h => ⟨by simp at h; omega, fun i h => HN.out i h h⟩, fun h => by have := h.1; simp; omega⟩, hc⟩
end Go.Proofs.Ytaegngbedeggbaa
