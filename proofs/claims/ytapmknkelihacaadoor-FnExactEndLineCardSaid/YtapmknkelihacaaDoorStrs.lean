/- Lists of texts: as plain data; the walks of their size, copy and equality. -/
import Derived.Test.YtapmknkelihacaaDoorBase
namespace Go.Proofs.YtapmknkelihacaaDoor
open Go.RowKit

def strC (s : ByteArray) : List Dat := [.v (.string s)]
def strs (l : List ByteArray) : Dat := .s l.length (l.flatMap strC)
theorem strC_len (s : ByteArray) : (strC s).length = 1 := rfl
theorem strs_row {w : World} {B : Nat} {l : List ByteArray} {u : Value} (h : Rd w B (strs l) u) : ∃ A cap, u = .slice A l.length cap ∧ l.length ≤ cap ∧ cap ≤ maxLen ∧ RowAt w B strC 1 l A := h.row strC_len (by omega)
theorem strs_cells {w : World} {B : Nat} {l : List ByteArray} {A : Option Addr} (h : RowAt w B strC 1 l A) (k : Nat) (hk : k < l.length) : ∃ b off, A = some ⟨b, off, none⟩ ∧ b < B ∧ w.cell? ⟨b, off + k, none⟩ = some (.string l[k]) := by
  obtain ⟨b, off, rfl, hb, hx⟩ := h k hk
  obtain ⟨u, hu, hd⟩ := hx 0 _ rfl
  rw [Rd] at hd
  subst hd
  exact ⟨b, off, rfl, hb, by simpa using hu⟩
def strsW1 (l : List ByteArray) : Nat := (l.map ByteArray.size).sum
def strsW (l : List ByteArray) : Nat := l.length + strsW1 l
theorem string_info : (Tryd.prog.info? 9).map (fun i => (i.zero, i.size, i.bytes)) = some (some (.string ⟨#[]⟩), 1, 16) := by kernel_rfl

set_option maxRecDepth 100000 in
set_option maxHeartbeats 400000 in
theorem szStringS_any (l : List ByteArray) (left : Int) (u : Value) (B : Nat) (w : World) (h0 : 0 ≤ left) (hl : left ≤ 1048576) (hf : FitL [strs l]) (hr : Rd w B (strs l) u) (hBw : B ≤ w.heap.size) :
    Calls Tryd.prog 5 #[u, .int .i64 left] w (SzPost left (strsW l) w) := by
  obtain ⟨A, cap, rfl, h1, h2, hrow⟩ := strs_row hr
  unfold maxLen at h2
  have HF := Lib.hid hf
  clear hr hf
  go_enter Tryd.func5, Tryd.ntmps5
  go_wp2_with fail
  · go_ret
    exact ⟨_, rfl, Left.no (by unfold strsW; omega), Chg.refl _ _⟩
  go_loopw [1, 5] (fun r i wr => ∃ (k : Nat) (x : Int), k ≤ l.length ∧ i = .int .i64 k ∧ r = .int .i64 x ∧ Chg [] w wr ∧ 0 ≤ x ∧ x ≤ left ∧ Hid (x = left - l.length - strsW1 (l.take k))) (fun _ i _ => l.length - (intOf i).toNat)
  case atStart => exact ⟨0, _, Nat.zero_le _, rfl, rfl, Chg.refl _ _, by omega, by omega, by simp [strsW1, Hid]⟩
  case round =>
    obtain ⟨k, x, hk, rfl, rfl, hc, hx0, hxl, HX⟩ := hrel
    by_cases hlt : k < l.length
    · obtain ⟨b, off, rfl, hb, q0⟩ := strs_cells (hrow.chg0 hc hBw) k hlt
      have hsz : Hid (strsW1 (l.take (k + 1)) = strsW1 (l.take k) + l[k].size ∧ strsW1 (l.take (k + 1)) ≤ strsW1 l) := ⟨sum_take ByteArray.size l k hlt, sum_le ByteArray.size l (k + 1)⟩
      have hfk := FitL_flatMap.1 (FitL_slice HF.out) _ (List.getElem_mem hlt)
      simp only [strC, FitL, FitD, FitV, and_true] at hfk
      go_wp2_with fail
      · go_ret
        refine ⟨_, rfl, Left.no ?_, hc⟩
        have := HX.out; have := hsz.out
        unfold strsW
        omega
      · go_roundw
        case rel =>
          refine ⟨k + 1, _, by omega, by go_num, rfl, hc, by omega, by omega, ?_⟩
          have := HX.out; have := hsz.out
          show _ = _
          omega
        case measure => simp [intOf]; omega
    · go_wp2_with fail
      go_ret
      obtain rfl : k = l.length := by omega
      have h5 := HX.out
      rw [List.take_length] at h5
      exact ⟨_, rfl, Left.ok (by unfold strsW; omega) (by unfold strsW; omega), hc⟩

end Go.Proofs.YtapmknkelihacaaDoor
