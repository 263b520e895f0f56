/- Layer: as plain data; the walks of its size, copy, equality, marks. Written by a program. -/
import Derived.Test.YtaegngbedeggbaaStrs
import Derived.Test.YtaegngbedeggbaaText
import Derived.Test.YtaegngbedeggbaaOpen
import Derived.StillTailTactics
import Derived.Deep.RegionHeld3
namespace Go.Proofs.Ytaegngbedeggbaa
open Go.RowKit

structure LayerT where
  name : ByteArray
  count : Int
def layerF (a : LayerT) : List Dat := [.v (.string a.name)] ++ [.v (.int .i64 a.count)]
theorem layerF_eq (a : LayerT) : layerF a = [.v (.string a.name), .v (.int .i64 a.count)] := rfl
theorem layerF_len (a : LayerT) : (layerF a).length = 2 := rfl
def layers (l : List LayerT) : Dat := .s l.length (l.flatMap layerF)
theorem layers_row {w : World} {B : Nat} {l : List LayerT} {u : Value} (h : Rd w B (layers l) u) : ∃ A cap, u = .slice A l.length cap ∧ l.length ≤ cap ∧ cap ≤ maxLen ∧ RowAt w B layerF 2 l A := h.row layerF_len (by omega)
theorem layers_cells {w : World} {B : Nat} {l : List LayerT} {A : Option Addr} (h : RowAt w B layerF 2 l A) (k : Nat) (hk : k < l.length) : ∃ b off, A = some ⟨b, off, none⟩ ∧ b < B ∧ w.cell? ⟨b, off + k * 2, none⟩ = some (.string (l[k].name)) ∧ w.cell? ⟨b, off + k * 2 + 1, none⟩ = some (.int .i64 (l[k].count)) := by
  obtain ⟨b, off, e, hb, hx⟩ := h k hk
  rw [layerF_eq] at hx
  obtain ⟨v0, e0, d0⟩ := hx 0 _ rfl
  obtain ⟨v1, e1, d1⟩ := hx 1 _ rfl
  rw [Rd] at d0 d1
  subst d0 d1
  exact ⟨b, off, e, hb, by simpa using e0, e1⟩

def layerW (a : LayerT) : Nat := a.name.size
def layersW1 (l : List LayerT) : Nat := (l.map layerW).sum
def layersW (l : List LayerT) : Nat := l.length + layersW1 l
theorem layersW_mem {l : List LayerT} {a : LayerT} (h : a ∈ l) : layerW a ≤ layersW1 l := sum_mem layerW h
def layerN (_ : LayerT) : Nat := 2
def layerM (_ : LayerT) (k : Int) : LayerT := ⟨(mt (k)), (k + 1)⟩
def layersN (l : List LayerT) : Nat := (l.map layerN).sum
def layersM (l : List LayerT) (k : Int) : List LayerT := mapK layerM layerN l k
set_option maxRecDepth 100000 in
set_option maxHeartbeats 1000000 in
theorem szLayer_el (a : LayerT) (left : Int) (w : World) (h0 : 0 ≤ left) (hl : left ≤ 1048576) (hf : FitL (layerF a)) :
    Calls Try.prog 102 #[.agg #[.string a.name, .int .i64 a.count], .int .i64 left] w (SzPost left (layerW a) w) := by
  simp only [layerF, FitL_append] at hf
  obtain ⟨f0, f1⟩ := hf
  simp only [FitL, FitD, FitV, and_true] at f0
  simp only [FitL, FitD, FitV, and_true] at f1
  go_enter Try.func102, Try.ntmps102
  go_wp2_with fail
  all_goals
    go_ret
    exact ⟨_, rfl, by (first | exact Left.no (by (try unfold Left at *); (try unfold layerW); omega) | exact Left.ok (by (try unfold Left at *); (try unfold layerW); omega) (by (try unfold Left at *); (try unfold layerW); omega)), (Chg.refl _ _).alloc _⟩

set_option maxRecDepth 100000 in
set_option maxHeartbeats 1000000 in
theorem szLayerS_any (l : List LayerT) (left : Int) (u : Value) (B : Nat) (w : World) (h0 : 0 ≤ left) (hl : left ≤ 1048576) (hf : FitL [layers l]) (hr : Rd w B (layers l) u) (hBw : B ≤ w.heap.size) :
    Calls Try.prog 78 #[u, .int .i64 left] w (SzPost left (layersW l) w) := by
  obtain ⟨A, cap, rfl, h1, h2, hrow⟩ := layers_row hr
  unfold maxLen at h2
  have HF := Lib.hid hf
  clear hr hf
  go_enter Try.func78, Try.ntmps78
  go_wp2_with fail
  · go_ret
    exact ⟨_, rfl, Left.no (by unfold layersW; omega), Chg.refl _ _⟩
  go_loopw [1, 5] (fun r i wr => ∃ (k : Nat) (x : Int), k ≤ l.length ∧ i = .int .i64 k ∧ r = .int .i64 x ∧ Chg [] w wr ∧ 0 ≤ x ∧ x ≤ left ∧ Hid (x = left - l.length - layersW1 (l.take k))) (fun _ i _ => l.length - (intOf i).toNat)
  case atStart => exact ⟨0, _, Nat.zero_le _, rfl, rfl, Chg.refl _ _, by omega, by omega, by simp [layersW1, Hid]⟩
  case round =>
    obtain ⟨k, x, hk, rfl, rfl, hc, hx0, hxl, HX⟩ := hrel
    by_cases hlt : k < l.length
    · obtain ⟨b, off, rfl, hb, q0, q1⟩ := layers_cells (hrow.chg0 hc hBw) k hlt
      have hsz : Hid (layersW1 (l.take (k + 1)) = layersW1 (l.take k) + layerW l[k] ∧ layersW1 (l.take (k + 1)) ≤ layersW1 l) := ⟨sum_take layerW l k hlt, sum_le layerW l (k + 1)⟩
      have hfk := Lib.hid (FitL_flatMap.1 (FitL_slice HF.out) _ (List.getElem_mem hlt))
      go_wp2_with fail
      refine (szLayer_el l[k] _  _ (by omega) (by omega) hfk.out ).mono ?_
      rintro e w1 ⟨r1_, rfl, L1, C1⟩
      have D1 : Chg [] w w1 := hc.trans0 C1
      have bd1 := L1.bd (by omega)
      go_wp2_with fail
      · go_ret
        refine ⟨_, rfl, Left.no ?_, D1⟩
        have := HX.out; have := hsz.out
        simp only [Left] at L1
        unfold layersW
        omega
      · go_roundw
        case rel =>
          refine ⟨k + 1, r1_, by omega, by go_num, rfl, D1, by omega, by omega, ?_⟩
          have := HX.out; have := hsz.out
          simp only [Left] at L1
          show r1_ = _
          omega
        case measure => simp [intOf]; omega
    · go_wp2_with fail
      go_ret
      obtain rfl : k = l.length := by omega
      have h5 := HX.out
      rw [List.take_length] at h5
      exact ⟨_, rfl, Left.ok (by unfold layersW; omega) (by unfold layersW; omega), hc⟩

set_option maxRecDepth 100000 in
set_option maxHeartbeats 2000000 in
theorem toLayer_el (a : LayerT) (w : World) (_hW : layerW a ≤ 1048576) :
    Calls Try.prog 105 #[.agg #[.string a.name, .int .i64 a.count]] w (fun e w' => e = .returned (.agg #[.string a.name, .int .i64 a.count]) ∧ NewL w w' (layerF a) [.string a.name, .int .i64 a.count]) := by
  go_enter Try.func105, Try.ntmps105
  go_wp2_with fail
  refine bodyPost_ret (v := .agg #[.string a.name, .int .i64 a.count]) (by simp only [results, Try.results105]; go_simp) rfl ⟨rfl, ?_⟩
  rw [layerF_eq]
  repeat refine NewL.cons_v ?_
  refine NewL.nil ?_
  repeat (first | with_reducible exact Chg.refl _ _ | with_reducible refine Chg.drew ?_ | with_reducible refine Chg.alloc ?_ _ | with_reducible refine Chg.setCell ?_ (.inr (by simp; try omega)) _)

theorem layer_info : (Try.prog.info? 91).map (fun i => (i.zero, i.size, i.bytes)) = some (some (.agg #[.string ⟨#[]⟩, .int .i64 0]), 2, 24) := by kernel_rfl
def layerZ : List Dat := [.v (.string ⟨#[]⟩), .v (.int .i64 0)]
theorem layerZ_own (w : World) : OwnL w layerZ [.string ⟨#[]⟩, .int .i64 0] [] := by
  have h : HasL w layerZ [.string ⟨#[]⟩, .int .i64 0] [] := by
    unfold layerZ
    repeat (first | with_reducible exact HasL.nil _ | with_reducible refine HasL.cons_v ?_ | with_reducible refine HasL.cons_nil ?_)
  exact h.1
set_option maxRecDepth 100000 in
set_option maxHeartbeats 1000000 in
theorem toLayerS_any (l : List LayerT) (u : Value) (B : Nat) (w : World) (hl : layersW l ≤ 1048576) (hr : Rd w B (layers l) u) (hB : B ≤ w.heap.size) :
    Calls Try.prog 85 #[u] w (Gives (layers l) w) := by
  have hll : l.length ≤ 1048576 := by unfold layersW at hl; omega
  obtain ⟨A, cap, rfl, h0, h1, hrow⟩ := layers_row hr
  have hmk := fun W => run_make_rowN (P := Try.prog) 61 91 _ 2 24 Try.underlying61 layer_info .i64 .i64 l.length l.length (Nat.le_refl _) (by omega) (by omega) W
  unfold maxLen at h1
  clear hr
  go_enter Try.func85, Try.ntmps85
  go_wp2_with fail
  go_loopw [4] (fun i wr => ∃ k : Nat, k ≤ l.length ∧ i = .int .i64 k ∧ New w wr (.s l.length (filled layerF layerZ l k)) (.slice (some ⟨w.heap.size, 0, none⟩) l.length l.length)) (fun i _ => l.length - (intOf i).toNat)
  case atStart => exact ⟨0, Nat.zero_le _, rfl, New.make w 91 _ 2 rfl (by omega) layerZ layerZ_own layerF l l.length rfl (by unfold maxLen; omega)⟩
  case round =>
    obtain ⟨k, hk, rfl, hh⟩ := hrel
    by_cases hlt : k < l.length
    · obtain ⟨b, off, rfl, hb, q0, q1⟩ := layers_cells (hrow.chg0 hh.chg hB) k hlt
      have hwt := layersW_mem (List.getElem_mem hlt)
      go_wp2_with fail
      refine (toLayer_el l[k]  _ (by unfold layersW at hl; omega) ).mono ?_; rintro e w1 ⟨rfl, n1⟩
      have hset := hh.fill layerF_len rfl hlt n1
      have hh1 := hh.later n1.chg
      obtain ⟨rm0, x0, rc0⟩ := hh1.room (j := k * 2) (by rw [filled_length layerF_len rfl _ _ hk]; omega)
      obtain ⟨rm1, x1, rc1⟩ := hh1.room (j := k * 2 + 1) (by rw [filled_length layerF_len rfl _ _ hk]; omega)
      go_wp2_with fail
      go_roundw
      case rel => exact ⟨k + 1, by omega, by go_num, hset⟩
      case measure => simp [intOf]; omega
    · obtain rfl : k = l.length := by omega
      rw [filled_all] at hh
      go_wp2_with fail
      go_ret
      exact ⟨_, rfl, hh⟩

set_option maxRecDepth 100000 in
set_option maxHeartbeats 1000000 in
theorem eqLayer_el (a : LayerT) (w : World) :
    Calls Try.prog 108 #[.agg #[.string a.name, .int .i64 a.count], .agg #[.string a.name, .int .i64 a.count]] w fun e w' => e = .returned (.bool true) ∧ Chg [] w w' := by
  go_enter Try.func108, Try.ntmps108
  go_wp2_with fail
  go_ret
  exact ⟨rfl, ((Chg.refl _ _).alloc _).alloc _⟩

set_option maxRecDepth 100000 in
set_option maxHeartbeats 1000000 in
theorem eqLayerS_same (l : List LayerT) (u v : Value) (B B' : Nat) (w : World) (hr : Rd w B (layers l) u) (hs : Rd w B' (layers l) v) (hB : B ≤ w.heap.size) (hB' : B' ≤ w.heap.size) :
    Calls Try.prog 90 #[u, v] w fun e w' => e = .returned (.bool true) ∧ Chg [] w w' := by
  obtain ⟨A, cap, rfl, h0, h1, hrow⟩ := layers_row hr
  obtain ⟨A', cap', rfl, h0', h1', hrow'⟩ := layers_row hs
  unfold maxLen at h1 h1'
  clear hr hs
  go_enter Try.func90, Try.ntmps90
  go_wp2_with fail
  go_loopw [5] (fun i wr => ∃ k : Nat, k ≤ l.length ∧ i = .int .i64 k ∧ Chg [] w wr) (fun i _ => l.length - (intOf i).toNat)
  case atStart => exact ⟨0, Nat.zero_le _, rfl, Chg.refl _ _⟩
  case round =>
    obtain ⟨k, hk, rfl, hc⟩ := hrel
    by_cases hlt : k < l.length
    · obtain ⟨b, off, rfl, hb, q0, q1⟩ := layers_cells (hrow.chg0 hc hB) k hlt
      obtain ⟨b', off', rfl, hb', p0, p1⟩ := layers_cells (hrow'.chg0 hc hB') k hlt
      have el := fun W (_hW : Chg [] wr W) => eqLayer_el l[k] W
      have EL := Lib.hid el
      clear el
      go_wp2_with fail
      go_still_tail 8, (by kernel_rfl)
      change wpList _ _ _ _ _ wr.drew
      go_wp2_with fail
      refine (EL.out _ ((Chg.refl _ _).drew)).mono ?_; rintro e w1 ⟨rfl, c1⟩
      go_wp2_with fail
      go_roundw
      case rel => exact ⟨k + 1, by omega, by go_num, hc.drew.trans0 c1⟩
      case measure => simp [intOf]; omega
    · obtain rfl : k = l.length := by omega
      go_wp2_with fail
      go_ret
      exact ⟨rfl, hc⟩

set_option maxRecDepth 100000 in
set_option maxHeartbeats 2000000 in
theorem markLayerS_any (l : List LayerT) (u : Value) (S : List Nat) (k0 : Int) (w : World) (hk0 : 0 ≤ k0) (hkb : k0 + layersN l ≤ 100000000) (hh : Has w (layers l) u S) :
    Calls Try.prog 46 #[u, .int .i64 k0] w fun e w' => e = .returned (.int .i64 (k0 + layersN l)) ∧ Has w' (layers (layersM l k0)) u S ∧ Chg S w w' := by
  obtain ⟨A, cap, rfl, h0, h1, _⟩ := hh.rd.at_
  unfold maxLen at h1
  go_enter Try.func46, Try.ntmps46
  go_wp2_with fail
  go_loopw [1, 5] (fun r i wr => ∃ (i' : Nat) (k : Int), i' ≤ l.length ∧ i = .int .i64 i' ∧ r = .int .i64 k ∧ 0 ≤ k ∧ k ≤ 100000000 ∧ Hid (k = k0 + ((l.take i').map layerN).sum) ∧ Has wr (.s l.length ((mapK layerM layerN (l.take i') k0 ++ l.drop i').flatMap layerF)) (.slice A l.length cap) S ∧ Chg S w wr) (fun _ i _ => l.length - (intOf i).toNat)
  case atStart => exact ⟨0, k0, Nat.zero_le _, rfl, rfl, hk0, by omega, by simp [Hid], by simp only [List.take_zero, mapK, List.nil_append, List.drop_zero]; exact hh, Chg.refl _ _⟩
  case round =>
    obtain ⟨i, k, hi, rfl, rfl, hk1, hk2, hkq, H0, hc⟩ := hrel
    by_cases hlt : i < l.length
    · obtain ⟨g, rfl, hgS⟩ := H0.own (by omega)
      have hn1 : k + layerN l[i] ≤ 100000000 := by
        have := sum_take layerN l i hlt; have := sum_le layerN l (i + 1); have := hkq.out; unfold layersN at hkb; omega
      unfold layerN at hn1
      rw [marking_at l k0 i hlt, layerF_eq] at H0
      have hX := marking_X (M := layerM) (N := layerN) layerF_len l k0 i hlt
      have P0 := H0
      go_wp2_with fail
      refine (markText_any _ _ (by omega)).mono ?_; rintro e w1 ⟨rfl, c1⟩
      have H1 := P0.keep0 c1
      have D1 : Chg S w w1 := Chg.trans0 (by repeat (first | with_reducible exact hc | with_reducible refine Chg.drew ?_ | with_reducible refine Chg.alloc ?_ _ | with_reducible refine Chg.setCell ?_ (.inl hgS) _)) c1
      obtain ⟨rf1_0, rx1_0, rc1_0⟩ := H1.room0 hX (by simp)
      obtain ⟨rf1_1, rx1_1, rc1_1⟩ := H1.roomAt hX 1 (by simp)
      have P1 := ((H1.set0 hX rfl (.string (mt (k)))).setAt hX (j := 1) rfl (.int .i64 (k + 1)))
      go_wp2_with fail
      go_roundw
      case rel =>
        have e1 : ((l.take (i + 1)).map layerN).sum = ((l.take i).map layerN).sum + layerN l[i] := sum_take layerN l i hlt
        have e2 := hkq.out
        refine ⟨i + 1, _, by omega, by go_num, rfl, by omega, by omega, ?_, ?_, ?_⟩
        · show _ = _; have e3 : layerN l[i] = 2 := rfl
          rw [e1, e3]; omega
        · rw [marking_next l k0 i hlt, ← e2]; exact P1
        · repeat (first | with_reducible exact D1 | with_reducible refine Chg.drew ?_ | with_reducible refine Chg.alloc ?_ _ | with_reducible refine Chg.setCell ?_ (.inl hgS) _)
      case measure => simp [intOf]; omega
    · obtain rfl : i = l.length := by omega
      go_wp2_with fail
      go_ret
      have h5 := hkq.out
      rw [List.take_length, List.drop_length, List.append_nil] at H0
      rw [List.take_length] at h5
      refine ⟨ret_int h5, ?_, hc⟩
      show Has _ (.s (mapK layerM layerN l k0).length ((mapK layerM layerN l k0).flatMap layerF)) _ _
      rw [mapK_length]
      exact H0

set_option maxRecDepth 100000 in
set_option maxHeartbeats 2000000 in
theorem heldLayerS_any (l : List LayerT) (u : Value) (B : Nat) (k0 : Int) (w : World) (hk0 : 0 ≤ k0) (hkb : k0 + layersN l ≤ 100000000) (hr : Rd w B (layers (layersM l k0)) u) (hB : B ≤ w.heap.size) :
    Calls Try.prog 48 #[u, .int .i64 k0] w fun e w' => e = .returned (.int .i64 (k0 + layersN l)) ∧ Chg [] w w' := by
  obtain ⟨A, cap, rfl, h0, h1, hrow⟩ := layers_row hr
  have hlen : (layersM l k0).length = l.length := mapK_length l k0
  rw [hlen] at h0 ⊢
  unfold maxLen at h1
  clear hr
  have HL := Lib.hid hlen
  clear hlen
  go_enter Try.func48, Try.ntmps48
  go_wp2_with fail
  go_loopw [1, 5] (fun r i wr => ∃ (i' : Nat) (k : Int), i' ≤ l.length ∧ i = .int .i64 i' ∧ r = .int .i64 k ∧ 0 ≤ k ∧ k ≤ 100000000 ∧ Hid (k = k0 + ((l.take i').map layerN).sum) ∧ Chg [] w wr) (fun _ i _ => l.length - (intOf i).toNat)
  case atStart => exact ⟨0, k0, Nat.zero_le _, rfl, rfl, hk0, by omega, by simp [Hid], Chg.refl _ _⟩
  case round =>
    obtain ⟨i, k, hi, rfl, rfl, hk1, hk2, hkq, hc⟩ := hrel
    by_cases hlt : i < l.length
    · have hn1 : k + layerN l[i] ≤ 100000000 := by
        have := sum_take layerN l i hlt; have := sum_le layerN l (i + 1); have := hkq.out; unfold layersN at hkb; omega
      unfold layerN at hn1
      have hlt' : i < (layersM l k0).length := by rw [HL.out]; exact hlt
      have hget : (layersM l k0)[i] = layerM l[i] k := by rw [hkq.out]; exact mapK_get l k0 i hlt hlt'
      obtain ⟨b, off, rfl, hb, q0, q1⟩ := layers_cells (hrow.chg0 hc hB) i hlt' 
      rw [hget] at q0 q1
      replace q0 : wr.cell? ⟨b, off + i * 2, none⟩ = some (.string (mt (k))) := q0
      replace q1 : wr.cell? ⟨b, off + i * 2 + 1, none⟩ = some (.int .i64 (k + 1)) := q1
      have hb0 : b < wr.heap.size := by have := hc.size; omega
      have hB0 : B ≤ wr.heap.size := by have := hc.size; omega
      have Q0 := Lib.hid q0
      have Q1 := Lib.hid q1
      have E0 : Chg [] wr wr := Chg.refl _ _
      clear hget hb hlt' q0 q1
      go_wp2_with fail
      have p0 := (E0.cell (p := ⟨b, off + i * 2, none⟩) hb0 (by simp)).trans Q0.out
      go_region_held3 (fun w' => w'.cell? ⟨b, off + i * 2, none⟩ = some (.string (mt (k))) ∧ Chg [] wr w') (first | exact ⟨p0, E0.drew⟩ | exact ⟨((E0.drew.trans0 c1).cell (p := ⟨b, off + i * 2, none⟩) hb0 (by simp)).trans Q0.out, E0.drew.trans0 c1⟩) ((go_at_call 44; refine (markText_any _ _ (by omega)).mono ?_; rintro e w1 ⟨rfl, c1⟩))
      rename_i hH; obtain ⟨_, E1⟩ := hH
      clear p0
      have p1 := (E1.cell (p := ⟨b, off + i * 2 + 1, none⟩) hb0 (by simp)).trans Q1.out
      go_wp2_with fail
      go_roundw
      case rel =>
        have e1 : ((l.take (i + 1)).map layerN).sum = ((l.take i).map layerN).sum + layerN l[i] := sum_take layerN l i hlt
        have e2 := hkq.out
        have e3 : layerN l[i] = 2 := rfl
        refine ⟨i + 1, _, by omega, by go_num, rfl, by omega, by omega, ?_, hc.trans0 E1⟩
        show _ = _
        rw [e1, e3]; omega
      case measure => simp [intOf]; omega
    · obtain rfl : i = l.length := by omega
      go_wp2_with fail
      go_ret
      have h5 := hkq.out
      rw [List.take_length] at h5
      exact ⟨ret_int h5, hc⟩

end Go.Proofs.Ytaegngbedeggbaa
