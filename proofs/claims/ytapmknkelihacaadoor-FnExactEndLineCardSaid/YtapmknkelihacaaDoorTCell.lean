/- Cell: as plain data; the walks of its size, copy, equality, marks. Written by a program. -/
import Derived.Test.YtapmknkelihacaaDoorStrs
import Derived.Test.YtapmknkelihacaaDoorText
import Derived.Test.YtapmknkelihacaaDoorOpen
import Derived.StillTailTactics
import Derived.Deep.RegionHeld3
namespace Go.Proofs.YtapmknkelihacaaDoor
open Go.RowKit

structure CellT where
  key : ByteArray
  value : Int
def cellF (a : CellT) : List Dat := [.v (.string a.key)] ++ [.v (.int .i64 a.value)]
theorem cellF_eq (a : CellT) : cellF a = [.v (.string a.key), .v (.int .i64 a.value)] := rfl
theorem cellF_len (a : CellT) : (cellF a).length = 2 := rfl
def cells (l : List CellT) : Dat := .s l.length (l.flatMap cellF)
theorem cells_row {w : World} {B : Nat} {l : List CellT} {u : Value} (h : Rd w B (cells l) u) : ∃ A cap, u = .slice A l.length cap ∧ l.length ≤ cap ∧ cap ≤ maxLen ∧ RowAt w B cellF 2 l A := h.row cellF_len (by omega)
theorem cells_cells {w : World} {B : Nat} {l : List CellT} {A : Option Addr} (h : RowAt w B cellF 2 l A) (k : Nat) (hk : k < l.length) : ∃ b off, A = some ⟨b, off, none⟩ ∧ b < B ∧ w.cell? ⟨b, off + k * 2, none⟩ = some (.string (l[k].key)) ∧ w.cell? ⟨b, off + k * 2 + 1, none⟩ = some (.int .i64 (l[k].value)) := by
  obtain ⟨b, off, e, hb, hx⟩ := h k hk
  rw [cellF_eq] at hx
  obtain ⟨v0, e0, d0⟩ := hx 0 _ rfl
  obtain ⟨v1, e1, d1⟩ := hx 1 _ rfl
  rw [Rd] at d0 d1
  subst d0 d1
  exact ⟨b, off, e, hb, by simpa using e0, e1⟩

def cellW (a : CellT) : Nat := a.key.size
def cellsW1 (l : List CellT) : Nat := (l.map cellW).sum
def cellsW (l : List CellT) : Nat := l.length + cellsW1 l
theorem cellsW_mem {l : List CellT} {a : CellT} (h : a ∈ l) : cellW a ≤ cellsW1 l := sum_mem cellW h
def cellN (_ : CellT) : Nat := 2
def cellM (_ : CellT) (k : Int) : CellT := ⟨(mt (k)), (k + 1)⟩
def cellsN (l : List CellT) : Nat := (l.map cellN).sum
def cellsM (l : List CellT) (k : Int) : List CellT := mapK cellM cellN l k
set_option maxRecDepth 100000 in
set_option maxHeartbeats 1000000 in
theorem szCell_el (a : CellT) (left : Int) (w : World) (h0 : 0 ≤ left) (hl : left ≤ 1048576) (hf : FitL (cellF a)) :
    Calls Tryd.prog 100 #[.agg #[.string a.key, .int .i64 a.value], .int .i64 left] w (SzPost left (cellW a) w) := by
  simp only [cellF, FitL_append] at hf
  obtain ⟨f0, f1⟩ := hf
  simp only [FitL, FitD, FitV, and_true] at f0
  simp only [FitL, FitD, FitV, and_true] at f1
  go_enter Tryd.func100, Tryd.ntmps100
  go_wp2_with fail
  all_goals
    go_ret
    exact ⟨_, rfl, by (first | exact Left.no (by (try unfold Left at *); (try unfold cellW); omega) | exact Left.ok (by (try unfold Left at *); (try unfold cellW); omega) (by (try unfold Left at *); (try unfold cellW); omega)), (Chg.refl _ _).alloc _⟩

set_option maxRecDepth 100000 in
set_option maxHeartbeats 1000000 in
theorem szCellS_any (l : List CellT) (left : Int) (u : Value) (B : Nat) (w : World) (h0 : 0 ≤ left) (hl : left ≤ 1048576) (hf : FitL [cells l]) (hr : Rd w B (cells l) u) (hBw : B ≤ w.heap.size) :
    Calls Tryd.prog 79 #[u, .int .i64 left] w (SzPost left (cellsW l) w) := by
  obtain ⟨A, cap, rfl, h1, h2, hrow⟩ := cells_row hr
  unfold maxLen at h2
  have HF := Lib.hid hf
  clear hr hf
  go_enter Tryd.func79, Tryd.ntmps79
  go_wp2_with fail
  · go_ret
    exact ⟨_, rfl, Left.no (by unfold cellsW; omega), Chg.refl _ _⟩
  go_loopw [1, 5] (fun r i wr => ∃ (k : Nat) (x : Int), k ≤ l.length ∧ i = .int .i64 k ∧ r = .int .i64 x ∧ Chg [] w wr ∧ 0 ≤ x ∧ x ≤ left ∧ Hid (x = left - l.length - cellsW1 (l.take k))) (fun _ i _ => l.length - (intOf i).toNat)
  case atStart => exact ⟨0, _, Nat.zero_le _, rfl, rfl, Chg.refl _ _, by omega, by omega, by simp [cellsW1, Hid]⟩
  case round =>
    obtain ⟨k, x, hk, rfl, rfl, hc, hx0, hxl, HX⟩ := hrel
    by_cases hlt : k < l.length
    · obtain ⟨b, off, rfl, hb, q0, q1⟩ := cells_cells (hrow.chg0 hc hBw) k hlt
      have hsz : Hid (cellsW1 (l.take (k + 1)) = cellsW1 (l.take k) + cellW l[k] ∧ cellsW1 (l.take (k + 1)) ≤ cellsW1 l) := ⟨sum_take cellW l k hlt, sum_le cellW l (k + 1)⟩
      have hfk := Lib.hid (FitL_flatMap.1 (FitL_slice HF.out) _ (List.getElem_mem hlt))
      go_wp2_with fail
      refine (szCell_el l[k] _  _ (by omega) (by omega) hfk.out ).mono ?_
      rintro e w1 ⟨r1_, rfl, L1, C1⟩
      have D1 : Chg [] w w1 := hc.trans0 C1
      have bd1 := L1.bd (by omega)
      go_wp2_with fail
      · go_ret
        refine ⟨_, rfl, Left.no ?_, D1⟩
        have := HX.out; have := hsz.out
        simp only [Left] at L1
        unfold cellsW
        omega
      · go_roundw
        case rel =>
          refine ⟨k + 1, r1_, by omega, by go_num, rfl, D1, by omega, by omega, ?_⟩
          have := HX.out; have := hsz.out
          simp only [Left] at L1
          show r1_ = _
          omega
        case measure => simp [intOf]; omega
    · go_wp2_with fail
      go_ret
      obtain rfl : k = l.length := by omega
      have h5 := HX.out
      rw [List.take_length] at h5
      exact ⟨_, rfl, Left.ok (by unfold cellsW; omega) (by unfold cellsW; omega), hc⟩

set_option maxRecDepth 100000 in
set_option maxHeartbeats 2000000 in
theorem toCell_el (a : CellT) (w : World) (_hW : cellW a ≤ 1048576) :
    Calls Tryd.prog 101 #[.agg #[.string a.key, .int .i64 a.value]] w (fun e w' => e = .returned (.agg #[.string a.key, .int .i64 a.value]) ∧ NewL w w' (cellF a) [.string a.key, .int .i64 a.value]) := by
  go_enter Tryd.func101, Tryd.ntmps101
  go_wp2_with fail
  refine bodyPost_ret (v := .agg #[.string a.key, .int .i64 a.value]) (by simp only [results, Tryd.results101]; go_simp) rfl ⟨rfl, ?_⟩
  rw [cellF_eq]
  repeat refine NewL.cons_v ?_
  refine NewL.nil ?_
  repeat (first | with_reducible exact Chg.refl _ _ | with_reducible refine Chg.drew ?_ | with_reducible refine Chg.alloc ?_ _ | with_reducible refine Chg.setCell ?_ (.inr (by simp; try omega)) _)

theorem cell_info : (Tryd.prog.info? 132).map (fun i => (i.zero, i.size, i.bytes)) = some (some (.agg #[.string ⟨#[]⟩, .int .i64 0]), 2, 24) := by kernel_rfl
def cellZ : List Dat := [.v (.string ⟨#[]⟩), .v (.int .i64 0)]
theorem cellZ_own (w : World) : OwnL w cellZ [.string ⟨#[]⟩, .int .i64 0] [] := by
  have h : HasL w cellZ [.string ⟨#[]⟩, .int .i64 0] [] := by
    unfold cellZ
    repeat (first | with_reducible exact HasL.nil _ | with_reducible refine HasL.cons_v ?_ | with_reducible refine HasL.cons_nil ?_)
  exact h.1
set_option maxRecDepth 100000 in
set_option maxHeartbeats 1000000 in
theorem toCellS_any (l : List CellT) (u : Value) (B : Nat) (w : World) (hl : cellsW l ≤ 1048576) (hr : Rd w B (cells l) u) (hB : B ≤ w.heap.size) :
    Calls Tryd.prog 81 #[u] w (Gives (cells l) w) := by
  have hll : l.length ≤ 1048576 := by unfold cellsW at hl; omega
  obtain ⟨A, cap, rfl, h0, h1, hrow⟩ := cells_row hr
  have hmk := fun W => run_make_rowN (P := Tryd.prog) 57 132 _ 2 24 Tryd.underlying57 cell_info .i64 .i64 l.length l.length (Nat.le_refl _) (by omega) (by omega) W
  unfold maxLen at h1
  clear hr
  go_enter Tryd.func81, Tryd.ntmps81
  go_wp2_with fail
  go_loopw [4] (fun i wr => ∃ k : Nat, k ≤ l.length ∧ i = .int .i64 k ∧ New w wr (.s l.length (filled cellF cellZ l k)) (.slice (some ⟨w.heap.size, 0, none⟩) l.length l.length)) (fun i _ => l.length - (intOf i).toNat)
  case atStart => exact ⟨0, Nat.zero_le _, rfl, New.make w 132 _ 2 rfl (by omega) cellZ cellZ_own cellF l l.length rfl (by unfold maxLen; omega)⟩
  case round =>
    obtain ⟨k, hk, rfl, hh⟩ := hrel
    by_cases hlt : k < l.length
    · obtain ⟨b, off, rfl, hb, q0, q1⟩ := cells_cells (hrow.chg0 hh.chg hB) k hlt
      have hwt := cellsW_mem (List.getElem_mem hlt)
      go_wp2_with fail
      refine (toCell_el l[k]  _ (by unfold cellsW at hl; omega) ).mono ?_; rintro e w1 ⟨rfl, n1⟩
      have hset := hh.fill cellF_len rfl hlt n1
      have hh1 := hh.later n1.chg
      obtain ⟨rm0, x0, rc0⟩ := hh1.room (j := k * 2) (by rw [filled_length cellF_len rfl _ _ hk]; omega)
      obtain ⟨rm1, x1, rc1⟩ := hh1.room (j := k * 2 + 1) (by rw [filled_length cellF_len rfl _ _ hk]; omega)
      go_wp2_with fail
      go_roundw
      case rel => exact ⟨k + 1, by omega, by go_num, hset⟩
      case measure => simp [intOf]; omega
    · obtain rfl : k = l.length := by omega
      rw [filled_all] at hh
      go_wp2_with fail
      go_ret
      exact ⟨_, rfl, hh⟩

set_option maxRecDepth 100000 in
set_option maxHeartbeats 1000000 in
theorem eqCell_el (a : CellT) (w : World) :
    Calls Tryd.prog 105 #[.agg #[.string a.key, .int .i64 a.value], .agg #[.string a.key, .int .i64 a.value]] w fun e w' => e = .returned (.bool true) ∧ Chg [] w w' := by
  go_enter Tryd.func105, Tryd.ntmps105
  go_wp2_with fail
  go_ret
  exact ⟨rfl, ((Chg.refl _ _).alloc _).alloc _⟩

set_option maxRecDepth 100000 in
set_option maxHeartbeats 1000000 in
theorem eqCellS_same (l : List CellT) (u v : Value) (B B' : Nat) (w : World) (hr : Rd w B (cells l) u) (hs : Rd w B' (cells l) v) (hB : B ≤ w.heap.size) (hB' : B' ≤ w.heap.size) :
    Calls Tryd.prog 86 #[u, v] w fun e w' => e = .returned (.bool true) ∧ Chg [] w w' := by
  obtain ⟨A, cap, rfl, h0, h1, hrow⟩ := cells_row hr
  obtain ⟨A', cap', rfl, h0', h1', hrow'⟩ := cells_row hs
  unfold maxLen at h1 h1'
  clear hr hs
  go_enter Tryd.func86, Tryd.ntmps86
  go_wp2_with fail
  go_loopw [5] (fun i wr => ∃ k : Nat, k ≤ l.length ∧ i = .int .i64 k ∧ Chg [] w wr) (fun i _ => l.length - (intOf i).toNat)
  case atStart => exact ⟨0, Nat.zero_le _, rfl, Chg.refl _ _⟩
  case round =>
    obtain ⟨k, hk, rfl, hc⟩ := hrel
    by_cases hlt : k < l.length
    · obtain ⟨b, off, rfl, hb, q0, q1⟩ := cells_cells (hrow.chg0 hc hB) k hlt
      obtain ⟨b', off', rfl, hb', p0, p1⟩ := cells_cells (hrow'.chg0 hc hB') k hlt
      have el := fun W (_hW : Chg [] wr W) => eqCell_el l[k] W
      have EL := Lib.hid el
      clear el
      go_wp2_with fail
      go_still_tail 8, (by kernel_rfl)
      change wpList _ _ _ _ _ wr.drew
      go_wp2_with fail
      refine (EL.out _ ((Chg.refl _ _).drew)).mono ?_; rintro e w1 ⟨rfl, c1⟩
      go_wp2_with fail
      go_roundw
      case rel => exact ⟨k + 1, by omega, by go_num, hc.drew.trans0 c1⟩
      case measure => simp [intOf]; omega
    · obtain rfl : k = l.length := by omega
      go_wp2_with fail
      go_ret
      exact ⟨rfl, hc⟩

end Go.Proofs.YtapmknkelihacaaDoor
