/- Layer: as plain data; the walks of its size, copy, equality, marks. Written by a program. -/
import Derived.Test.YtapmknkelihacaaDoorStrs
import Derived.Test.YtapmknkelihacaaDoorText
import Derived.Test.YtapmknkelihacaaDoorOpen
import Derived.StillTailTactics
import Derived.Deep.RegionHeld3
namespace Go.Proofs.YtapmknkelihacaaDoor
open Go.RowKit

structure LayerT where
  name : ByteArray
  count : Int
def layerF (a : LayerT) : List Dat := [.v (.string a.name)] ++ [.v (.int .i64 a.count)]
theorem layerF_eq (a : LayerT) : layerF a = [.v (.string a.name), .v (.int .i64 a.count)] := rfl
theorem layerF_len (a : LayerT) : (layerF a).length = 2 := rfl
def layers (l : List LayerT) : Dat := .s l.length (l.flatMap layerF)
theorem layers_row {w : World} {B : Nat} {l : List LayerT} {u : Value} (h : Rd w B (layers l) u) : ∃ A cap, u = .slice A l.length cap ∧ l.length ≤ cap ∧ cap ≤ maxLen ∧ RowAt w B layerF 2 l A := h.row layerF_len (by omega)
theorem layers_cells {w : World} {B : Nat} {l : List LayerT} {A : Option Addr} (h : RowAt w B layerF 2 l A) (k : Nat) (hk : k < l.length) : ∃ b off, A = some ⟨b, off, none⟩ ∧ b < B ∧ w.cell? ⟨b, off + k * 2, none⟩ = some (.string (l[k].name)) ∧ w.cell? ⟨b, off + k * 2 + 1, none⟩ = some (.int .i64 (l[k].count)) := by
  obtain ⟨b, off, e, hb, hx⟩ := h k hk
  rw [layerF_eq] at hx
  obtain ⟨v0, e0, d0⟩ := hx 0 _ rfl
  obtain ⟨v1, e1, d1⟩ := hx 1 _ rfl
  rw [Rd] at d0 d1
  subst d0 d1
  exact ⟨b, off, e, hb, by simpa using e0, e1⟩

def layerW (a : LayerT) : Nat := a.name.size
def layersW1 (l : List LayerT) : Nat := (l.map layerW).sum
def layersW (l : List LayerT) : Nat := l.length + layersW1 l
theorem layersW_mem {l : List LayerT} {a : LayerT} (h : a ∈ l) : layerW a ≤ layersW1 l := sum_mem layerW h
def layerN (_ : LayerT) : Nat := 2
def layerM (_ : LayerT) (k : Int) : LayerT := ⟨(mt (k)), (k + 1)⟩
def layersN (l : List LayerT) : Nat := (l.map layerN).sum
def layersM (l : List LayerT) (k : Int) : List LayerT := mapK layerM layerN l k
set_option maxRecDepth 100000 in
set_option maxHeartbeats 1000000 in
theorem szLayer_el (a : LayerT) (left : Int) (w : World) (h0 : 0 ≤ left) (hl : left ≤ 1048576) (hf : FitL (layerF a)) :
    Calls Tryd.prog 80 #[.agg #[.string a.name, .int .i64 a.count], .int .i64 left] w (SzPost left (layerW a) w) := by
  simp only [layerF, FitL_append] at hf
  obtain ⟨f0, f1⟩ := hf
  simp only [FitL, FitD, FitV, and_true] at f0
  simp only [FitL, FitD, FitV, and_true] at f1
  go_enter Tryd.func80, Tryd.ntmps80
  go_wp2_with fail
  all_goals
    go_ret
    exact ⟨_, rfl, by (first | exact Left.no (by (try unfold Left at *); (try unfold layerW); omega) | exact Left.ok (by (try unfold Left at *); (try unfold layerW); omega) (by (try unfold Left at *); (try unfold layerW); omega)), (Chg.refl _ _).alloc _⟩

set_option maxRecDepth 100000 in
set_option maxHeartbeats 1000000 in
theorem szLayerS_any (l : List LayerT) (left : Int) (u : Value) (B : Nat) (w : World) (h0 : 0 ≤ left) (hl : left ≤ 1048576) (hf : FitL [layers l]) (hr : Rd w B (layers l) u) (hBw : B ≤ w.heap.size) :
    Calls Tryd.prog 53 #[u, .int .i64 left] w (SzPost left (layersW l) w) := by
  obtain ⟨A, cap, rfl, h1, h2, hrow⟩ := layers_row hr
  unfold maxLen at h2
  have HF := Lib.hid hf
  clear hr hf
  go_enter Tryd.func53, Tryd.ntmps53
  go_wp2_with fail
  · go_ret
    exact ⟨_, rfl, Left.no (by unfold layersW; omega), Chg.refl _ _⟩
  go_loopw [1, 5] (fun r i wr => ∃ (k : Nat) (x : Int), k ≤ l.length ∧ i = .int .i64 k ∧ r = .int .i64 x ∧ Chg [] w wr ∧ 0 ≤ x ∧ x ≤ left ∧ Hid (x = left - l.length - layersW1 (l.take k))) (fun _ i _ => l.length - (intOf i).toNat)
  case atStart => exact ⟨0, _, Nat.zero_le _, rfl, rfl, Chg.refl _ _, by omega, by omega, by simp [layersW1, Hid]⟩
  case round =>
    obtain ⟨k, x, hk, rfl, rfl, hc, hx0, hxl, HX⟩ := hrel
    by_cases hlt : k < l.length
    · obtain ⟨b, off, rfl, hb, q0, q1⟩ := layers_cells (hrow.chg0 hc hBw) k hlt
      have hsz : Hid (layersW1 (l.take (k + 1)) = layersW1 (l.take k) + layerW l[k] ∧ layersW1 (l.take (k + 1)) ≤ layersW1 l) := ⟨sum_take layerW l k hlt, sum_le layerW l (k + 1)⟩
      have hfk := Lib.hid (FitL_flatMap.1 (FitL_slice HF.out) _ (List.getElem_mem hlt))
      go_wp2_with fail
      refine (szLayer_el l[k] _  _ (by omega) (by omega) hfk.out ).mono ?_
      rintro e w1 ⟨r1_, rfl, L1, C1⟩
      have D1 : Chg [] w w1 := hc.trans0 C1
      have bd1 := L1.bd (by omega)
      go_wp2_with fail
      · go_ret
        refine ⟨_, rfl, Left.no ?_, D1⟩
        have := HX.out; have := hsz.out
        simp only [Left] at L1
        unfold layersW
        omega
      · go_roundw
        case rel =>
          refine ⟨k + 1, r1_, by omega, by go_num, rfl, D1, by omega, by omega, ?_⟩
          have := HX.out; have := hsz.out
          simp only [Left] at L1
          show r1_ = _
          omega
        case measure => simp [intOf]; omega
    · go_wp2_with fail
      go_ret
      obtain rfl : k = l.length := by omega
      have h5 := HX.out
      rw [List.take_length] at h5
      exact ⟨_, rfl, Left.ok (by unfold layersW; omega) (by unfold layersW; omega), hc⟩

set_option maxRecDepth 100000 in
set_option maxHeartbeats 2000000 in
theorem toLayer_el (a : LayerT) (w : World) (_hW : layerW a ≤ 1048576) :
    Calls Tryd.prog 82 #[.agg #[.string a.name, .int .i64 a.count]] w (fun e w' => e = .returned (.agg #[.string a.name, .int .i64 a.count]) ∧ NewL w w' (layerF a) [.string a.name, .int .i64 a.count]) := by
  go_enter Tryd.func82, Tryd.ntmps82
  go_wp2_with fail
  refine bodyPost_ret (v := .agg #[.string a.name, .int .i64 a.count]) (by simp only [results, Tryd.results82]; go_simp) rfl ⟨rfl, ?_⟩
  rw [layerF_eq]
  repeat refine NewL.cons_v ?_
  refine NewL.nil ?_
  repeat (first | with_reducible exact Chg.refl _ _ | with_reducible refine Chg.drew ?_ | with_reducible refine Chg.alloc ?_ _ | with_reducible refine Chg.setCell ?_ (.inr (by simp; try omega)) _)

theorem layer_info : (Tryd.prog.info? 89).map (fun i => (i.zero, i.size, i.bytes)) = some (some (.agg #[.string ⟨#[]⟩, .int .i64 0]), 2, 24) := by kernel_rfl
def layerZ : List Dat := [.v (.string ⟨#[]⟩), .v (.int .i64 0)]
theorem layerZ_own (w : World) : OwnL w layerZ [.string ⟨#[]⟩, .int .i64 0] [] := by
  have h : HasL w layerZ [.string ⟨#[]⟩, .int .i64 0] [] := by
    unfold layerZ
    repeat (first | with_reducible exact HasL.nil _ | with_reducible refine HasL.cons_v ?_ | with_reducible refine HasL.cons_nil ?_)
  exact h.1
set_option maxRecDepth 100000 in
set_option maxHeartbeats 1000000 in
theorem toLayerS_any (l : List LayerT) (u : Value) (B : Nat) (w : World) (hl : layersW l ≤ 1048576) (hr : Rd w B (layers l) u) (hB : B ≤ w.heap.size) :
    Calls Tryd.prog 56 #[u] w (Gives (layers l) w) := by
  have hll : l.length ≤ 1048576 := by unfold layersW at hl; omega
  obtain ⟨A, cap, rfl, h0, h1, hrow⟩ := layers_row hr
  have hmk := fun W => run_make_rowN (P := Tryd.prog) 60 89 _ 2 24 Tryd.underlying60 layer_info .i64 .i64 l.length l.length (Nat.le_refl _) (by omega) (by omega) W
  unfold maxLen at h1
  clear hr
  go_enter Tryd.func56, Tryd.ntmps56
  go_wp2_with fail
  go_loopw [4] (fun i wr => ∃ k : Nat, k ≤ l.length ∧ i = .int .i64 k ∧ New w wr (.s l.length (filled layerF layerZ l k)) (.slice (some ⟨w.heap.size, 0, none⟩) l.length l.length)) (fun i _ => l.length - (intOf i).toNat)
  case atStart => exact ⟨0, Nat.zero_le _, rfl, New.make w 89 _ 2 rfl (by omega) layerZ layerZ_own layerF l l.length rfl (by unfold maxLen; omega)⟩
  case round =>
    obtain ⟨k, hk, rfl, hh⟩ := hrel
    by_cases hlt : k < l.length
    · obtain ⟨b, off, rfl, hb, q0, q1⟩ := layers_cells (hrow.chg0 hh.chg hB) k hlt
      have hwt := layersW_mem (List.getElem_mem hlt)
      go_wp2_with fail
      refine (toLayer_el l[k]  _ (by unfold layersW at hl; omega) ).mono ?_; rintro e w1 ⟨rfl, n1⟩
      have hset := hh.fill layerF_len rfl hlt n1
      have hh1 := hh.later n1.chg
      obtain ⟨rm0, x0, rc0⟩ := hh1.room (j := k * 2) (by rw [filled_length layerF_len rfl _ _ hk]; omega)
      obtain ⟨rm1, x1, rc1⟩ := hh1.room (j := k * 2 + 1) (by rw [filled_length layerF_len rfl _ _ hk]; omega)
      go_wp2_with fail
      go_roundw
      case rel => exact ⟨k + 1, by omega, by go_num, hset⟩
      case measure => simp [intOf]; omega
    · obtain rfl : k = l.length := by omega
      rw [filled_all] at hh
      go_wp2_with fail
      go_ret
      exact ⟨_, rfl, hh⟩

set_option maxRecDepth 100000 in
set_option maxHeartbeats 1000000 in
theorem eqLayer_el (a : LayerT) (w : World) :
    Calls Tryd.prog 87 #[.agg #[.string a.name, .int .i64 a.count], .agg #[.string a.name, .int .i64 a.count]] w fun e w' => e = .returned (.bool true) ∧ Chg [] w w' := by
  go_enter Tryd.func87, Tryd.ntmps87
  go_wp2_with fail
  go_ret
  exact ⟨rfl, ((Chg.refl _ _).alloc _).alloc _⟩

set_option maxRecDepth 100000 in
set_option maxHeartbeats 1000000 in
theorem eqLayerS_same (l : List LayerT) (u v : Value) (B B' : Nat) (w : World) (hr : Rd w B (layers l) u) (hs : Rd w B' (layers l) v) (hB : B ≤ w.heap.size) (hB' : B' ≤ w.heap.size) :
    Calls Tryd.prog 63 #[u, v] w fun e w' => e = .returned (.bool true) ∧ Chg [] w w' := by
  obtain ⟨A, cap, rfl, h0, h1, hrow⟩ := layers_row hr
  obtain ⟨A', cap', rfl, h0', h1', hrow'⟩ := layers_row hs
  unfold maxLen at h1 h1'
  clear hr hs
  go_enter Tryd.func63, Tryd.ntmps63
  go_wp2_with fail
  go_loopw [5] (fun i wr => ∃ k : Nat, k ≤ l.length ∧ i = .int .i64 k ∧ Chg [] w wr) (fun i _ => l.length - (intOf i).toNat)
  case atStart => exact ⟨0, Nat.zero_le _, rfl, Chg.refl _ _⟩
  case round =>
    obtain ⟨k, hk, rfl, hc⟩ := hrel
    by_cases hlt : k < l.length
    · obtain ⟨b, off, rfl, hb, q0, q1⟩ := layers_cells (hrow.chg0 hc hB) k hlt
      obtain ⟨b', off', rfl, hb', p0, p1⟩ := layers_cells (hrow'.chg0 hc hB') k hlt
      have el := fun W (_hW : Chg [] wr W) => eqLayer_el l[k] W
      have EL := Lib.hid el
      clear el
      go_wp2_with fail
      go_still_tail 8, (by kernel_rfl)
      change wpList _ _ _ _ _ wr.drew
      go_wp2_with fail
      refine (EL.out _ ((Chg.refl _ _).drew)).mono ?_; rintro e w1 ⟨rfl, c1⟩
      go_wp2_with fail
      go_roundw
      case rel => exact ⟨k + 1, by omega, by go_num, hc.drew.trans0 c1⟩
      case measure => simp [intOf]; omega
    · obtain rfl : k = l.length := by omega
      go_wp2_with fail
      go_ret
      exact ⟨rfl, hc⟩

end Go.Proofs.YtapmknkelihacaaDoor
