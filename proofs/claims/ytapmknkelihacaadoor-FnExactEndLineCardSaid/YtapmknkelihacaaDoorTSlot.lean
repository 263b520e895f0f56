/- Slot: as plain data; the walks of its size, copy, equality, marks. Written by a program. -/
import Derived.Test.YtapmknkelihacaaDoorStrs
import Derived.Test.YtapmknkelihacaaDoorText
import Derived.Test.YtapmknkelihacaaDoorOpen
import Derived.StillTailTactics
import Derived.Deep.RegionHeld3
import Derived.Test.YtapmknkelihacaaDoorTPart
namespace Go.Proofs.YtapmknkelihacaaDoor
open Go.RowKit

structure SlotT where
  full : Bool
  part : PartT
def slotF (a : SlotT) : List Dat := [.v (.bool a.full)] ++ partF a.part
theorem slotF_eq (a : SlotT) : slotF a = [.v (.bool a.full), .v (.string a.part.core.kind), .v (.bool a.part.core.on), .v (.bool a.part.core.broken), cells a.part.core.cells, .v (.int .i64 a.part.core.count), layers a.part.layers] := rfl
theorem slotF_len (a : SlotT) : (slotF a).length = 7 := rfl
def slots (l : List SlotT) : Dat := .s l.length (l.flatMap slotF)
theorem slots_row {w : World} {B : Nat} {l : List SlotT} {u : Value} (h : Rd w B (slots l) u) : ∃ A cap, u = .slice A l.length cap ∧ l.length ≤ cap ∧ cap ≤ maxLen ∧ RowAt w B slotF 7 l A := h.row slotF_len (by omega)
theorem slots_cells {w : World} {B : Nat} {l : List SlotT} {A : Option Addr} (h : RowAt w B slotF 7 l A) (k : Nat) (hk : k < l.length) : ∃ b off u4 u6, A = some ⟨b, off, none⟩ ∧ b < B ∧ w.cell? ⟨b, off + k * 7, none⟩ = some (.bool (l[k].full)) ∧ w.cell? ⟨b, off + k * 7 + 1, none⟩ = some (.string (l[k].part.core.kind)) ∧ w.cell? ⟨b, off + k * 7 + 2, none⟩ = some (.bool (l[k].part.core.on)) ∧ w.cell? ⟨b, off + k * 7 + 3, none⟩ = some (.bool (l[k].part.core.broken)) ∧ w.cell? ⟨b, off + k * 7 + 4, none⟩ = some u4 ∧ w.cell? ⟨b, off + k * 7 + 5, none⟩ = some (.int .i64 (l[k].part.core.count)) ∧ w.cell? ⟨b, off + k * 7 + 6, none⟩ = some u6 ∧ Rd w B (cells (l[k].part.core.cells)) u4 ∧ Rd w B (layers (l[k].part.layers)) u6 := by
  obtain ⟨b, off, e, hb, hx⟩ := h k hk
  rw [slotF_eq] at hx
  obtain ⟨v0, e0, d0⟩ := hx 0 _ rfl
  obtain ⟨v1, e1, d1⟩ := hx 1 _ rfl
  obtain ⟨v2, e2, d2⟩ := hx 2 _ rfl
  obtain ⟨v3, e3, d3⟩ := hx 3 _ rfl
  obtain ⟨v4, e4, d4⟩ := hx 4 _ rfl
  obtain ⟨v5, e5, d5⟩ := hx 5 _ rfl
  obtain ⟨v6, e6, d6⟩ := hx 6 _ rfl
  rw [Rd] at d0 d1 d2 d3 d5
  subst d0 d1 d2 d3 d5
  exact ⟨b, off, v4, v6, e, hb, by simpa using e0, e1, e2, e3, e4, e5, e6, d4, d6⟩

def slotW (a : SlotT) : Nat := partW a.part
def slotsW1 (l : List SlotT) : Nat := (l.map slotW).sum
def slotsW (l : List SlotT) : Nat := l.length + slotsW1 l
theorem slotsW_mem {l : List SlotT} {a : SlotT} (h : a ∈ l) : slotW a ≤ slotsW1 l := sum_mem slotW h
def slotN (a : SlotT) : Nat := 5 + cellsN a.part.core.cells + layersN a.part.layers
def slotM (a : SlotT) (k : Int) : SlotT := ⟨((k) % 3 == 0), ⟨⟨(mt (k + 1)), ((k + 1 + 1) % 3 == 0), ((k + 1 + 1 + 1) % 3 == 0), (cellsM a.part.core.cells (k + 1 + 1 + 1 + 1)), (k + 1 + 1 + 1 + 1 + cellsN a.part.core.cells)⟩, (layersM a.part.layers (k + 1 + 1 + 1 + 1 + cellsN a.part.core.cells + 1))⟩⟩
def slotsN (l : List SlotT) : Nat := (l.map slotN).sum
def slotsM (l : List SlotT) (k : Int) : List SlotT := mapK slotM slotN l k
set_option maxRecDepth 100000 in
set_option maxHeartbeats 1000000 in
theorem szSlot_el (a : SlotT) (left : Int) (u4 u6 : Value) (B : Nat) (w : World) (h0 : 0 ≤ left) (hl : left ≤ 1048576) (hf : FitL (slotF a)) (r4 : Rd w B (cells a.part.core.cells) u4) (r6 : Rd w B (layers a.part.layers) u6) (hBw : B ≤ w.heap.size) :
    Calls Tryd.prog 20 #[.agg #[.bool a.full, .string a.part.core.kind, .bool a.part.core.on, .bool a.part.core.broken, u4, .int .i64 a.part.core.count, u6], .int .i64 left] w (SzPost left (slotW a) w) := by
  simp only [slotF, FitL_append] at hf
  obtain ⟨f0, f1⟩ := hf
  simp only [FitL, FitD, FitV, and_true] at f0
  have g1 := Lib.hid f1; clear f1
  go_enter Tryd.func20, Tryd.ntmps20
  go_wp2_with fail
  all_goals try (go_ret; exact ⟨_, rfl, by (first | exact Left.no (by (try unfold Left at *); (try unfold slotW); omega) | exact Left.ok (by (try unfold Left at *); (try unfold slotW); omega) (by (try unfold Left at *); (try unfold slotW); omega)), (Chg.refl _ _).alloc _⟩; done)
  refine (szPart_el a.part _ u4 u6 B _ (by omega) (by omega) g1.out (r4.chg0 (((Chg.refl _ _).alloc _)) hBw) (r6.chg0 (((Chg.refl _ _).alloc _)) hBw) (by simp; omega)).mono ?_; rintro e w1 ⟨r1_, rfl, L1, C1⟩
  have D1 : Chg [] w w1 := Chg.trans0 (((Chg.refl _ _).alloc _)) C1
  have bd1 := L1.bd (by omega)
  have s1 : w.heap.size < w1.heap.size := by have := C1.size; simp at this; omega
  obtain ⟨y1, _, _⟩ := C1.cells
  go_wp2_with fail
  all_goals
    go_ret
    exact ⟨_, rfl, by (first | exact Left.no (by (try unfold Left at *); (try unfold slotW); omega) | exact Left.ok (by (try unfold Left at *); (try unfold slotW); omega) (by (try unfold Left at *); (try unfold slotW); omega)), D1⟩

set_option maxRecDepth 100000 in
set_option maxHeartbeats 1000000 in
theorem szSlotS_any (l : List SlotT) (left : Int) (u : Value) (B : Nat) (w : World) (h0 : 0 ≤ left) (hl : left ≤ 1048576) (hf : FitL [slots l]) (hr : Rd w B (slots l) u) (hBw : B ≤ w.heap.size) :
    Calls Tryd.prog 10 #[u, .int .i64 left] w (SzPost left (slotsW l) w) := by
  obtain ⟨A, cap, rfl, h1, h2, hrow⟩ := slots_row hr
  unfold maxLen at h2
  have HF := Lib.hid hf
  clear hr hf
  go_enter Tryd.func10, Tryd.ntmps10
  go_wp2_with fail
  · go_ret
    exact ⟨_, rfl, Left.no (by unfold slotsW; omega), Chg.refl _ _⟩
  go_loopw [1, 5] (fun r i wr => ∃ (k : Nat) (x : Int), k ≤ l.length ∧ i = .int .i64 k ∧ r = .int .i64 x ∧ Chg [] w wr ∧ 0 ≤ x ∧ x ≤ left ∧ Hid (x = left - l.length - slotsW1 (l.take k))) (fun _ i _ => l.length - (intOf i).toNat)
  case atStart => exact ⟨0, _, Nat.zero_le _, rfl, rfl, Chg.refl _ _, by omega, by omega, by simp [slotsW1, Hid]⟩
  case round =>
    obtain ⟨k, x, hk, rfl, rfl, hc, hx0, hxl, HX⟩ := hrel
    by_cases hlt : k < l.length
    · obtain ⟨b, off, u4, u6, rfl, hb, q0, q1, q2, q3, q4, q5, q6, r4, r6⟩ := slots_cells (hrow.chg0 hc hBw) k hlt
      have hsz : Hid (slotsW1 (l.take (k + 1)) = slotsW1 (l.take k) + slotW l[k] ∧ slotsW1 (l.take (k + 1)) ≤ slotsW1 l) := ⟨sum_take slotW l k hlt, sum_le slotW l (k + 1)⟩
      have hfk := Lib.hid (FitL_flatMap.1 (FitL_slice HF.out) _ (List.getElem_mem hlt))
      go_wp2_with fail
      refine (szSlot_el l[k] _ u4 u6 B _ (by omega) (by omega) hfk.out r4 r6 (by have := hc.size; omega)).mono ?_
      rintro e w1 ⟨r1_, rfl, L1, C1⟩
      have D1 : Chg [] w w1 := hc.trans0 C1
      have bd1 := L1.bd (by omega)
      go_wp2_with fail
      · go_ret
        refine ⟨_, rfl, Left.no ?_, D1⟩
        have := HX.out; have := hsz.out
        simp only [Left] at L1
        unfold slotsW
        omega
      · go_roundw
        case rel =>
          refine ⟨k + 1, r1_, by omega, by go_num, rfl, D1, by omega, by omega, ?_⟩
          have := HX.out; have := hsz.out
          simp only [Left] at L1
          show r1_ = _
          omega
        case measure => simp [intOf]; omega
    · go_wp2_with fail
      go_ret
      obtain rfl : k = l.length := by omega
      have h5 := HX.out
      rw [List.take_length] at h5
      exact ⟨_, rfl, Left.ok (by unfold slotsW; omega) (by unfold slotsW; omega), hc⟩

set_option maxRecDepth 100000 in
set_option maxHeartbeats 2000000 in
theorem toSlot_el (a : SlotT) (u4 u6 : Value) (B : Nat) (w : World) (hW : slotW a ≤ 1048576) (r4 : Rd w B (cells a.part.core.cells) u4) (r6 : Rd w B (layers a.part.layers) u6) (hBw : B ≤ w.heap.size) :
    Calls Tryd.prog 25 #[.agg #[.bool a.full, .string a.part.core.kind, .bool a.part.core.on, .bool a.part.core.broken, u4, .int .i64 a.part.core.count, u6]] w (fun e w' => ∃ A4 cap4 A6 cap6, e = .returned (.agg #[.bool a.full, .string a.part.core.kind, .bool a.part.core.on, .bool a.part.core.broken, .slice A4 a.part.core.cells.length cap4, .int .i64 a.part.core.count, .slice A6 a.part.layers.length cap6]) ∧ NewL w w' (slotF a) [.bool a.full, .string a.part.core.kind, .bool a.part.core.on, .bool a.part.core.broken, .slice A4 a.part.core.cells.length cap4, .int .i64 a.part.core.count, .slice A6 a.part.layers.length cap6]) := by
  unfold slotW at hW
  go_enter Tryd.func25, Tryd.ntmps25
  go_wp2_with fail
  refine (toPart_el a.part u4 u6 B _ (by omega) (r4.chg0 (by repeat (first | with_reducible exact Chg.refl _ _ | with_reducible refine Chg.drew ?_ | with_reducible refine Chg.alloc ?_ _ | with_reducible refine Chg.setCell ?_ (.inr (by simp; try omega)) _)) hBw) (r6.chg0 (by repeat (first | with_reducible exact Chg.refl _ _ | with_reducible refine Chg.drew ?_ | with_reducible refine Chg.alloc ?_ _ | with_reducible refine Chg.setCell ?_ (.inr (by simp; try omega)) _)) hBw) (by simp; omega)).mono ?_; rintro e w1 ⟨A4, cap4, A6, cap6, rfl, n1⟩
  obtain ⟨y1, z1, s1⟩ := n1.chg.cells
  have d1 : Chg [] w w1 := Chg.trans0 (by repeat (first | with_reducible exact Chg.refl _ _ | with_reducible refine Chg.drew ?_ | with_reducible refine Chg.alloc ?_ _ | with_reducible refine Chg.setCell ?_ (.inr (by simp; try omega)) _)) n1.chg
  have t1 : w.heap.size + 1 + 1 < w1.heap.size := by simp at s1; omega
  have t1' : w.heap.size + 1 < w1.heap.size := by omega
  have t1'' : w.heap.size < w1.heap.size := by omega
  go_wp2_with fail
  refine bodyPost_ret (v := .agg #[.bool a.full, .string a.part.core.kind, .bool a.part.core.on, .bool a.part.core.broken, .slice A4 a.part.core.cells.length cap4, .int .i64 a.part.core.count, .slice A6 a.part.layers.length cap6]) (by simp only [results, Tryd.results25]; go_simp) rfl ⟨_, _, _, _, rfl, ?_⟩
  rw [slotF]
  refine NewT.start (T := [w.heap.size + 1, w.heap.size + 1 + 1]) ?_ (by intro x hx; simp at hx; omega)
  refine NewT.cons_v ?_
  refine NewT.last_new n1 (by intro x hx; simp at hx ⊢; omega) (by repeat (first | with_reducible exact Chg.refl _ _ | with_reducible refine Chg.drew ?_ | with_reducible refine Chg.alloc ?_ _ | with_reducible refine Chg.setCell ?_ (.inl (by simp)) _)) ?_
  repeat (first | with_reducible exact Chg.refl _ _ | with_reducible refine Chg.drew ?_ | with_reducible refine Chg.alloc ?_ _ | with_reducible refine Chg.setCell ?_ (.inl (by simp)) _)

theorem slot_info : (Tryd.prog.info? 64).map (fun i => (i.zero, i.size, i.bytes)) = some (some (.agg #[.bool false, .string ⟨#[]⟩, .bool false, .bool false, .slice none 0 0, .int .i64 0, .slice none 0 0]), 7, 88) := by kernel_rfl
def slotZ : List Dat := [.v (.bool false), .v (.string ⟨#[]⟩), .v (.bool false), .v (.bool false), .s 0 [], .v (.int .i64 0), .s 0 []]
theorem slotZ_own (w : World) : OwnL w slotZ [.bool false, .string ⟨#[]⟩, .bool false, .bool false, .slice none 0 0, .int .i64 0, .slice none 0 0] [] := by
  have h : HasL w slotZ [.bool false, .string ⟨#[]⟩, .bool false, .bool false, .slice none 0 0, .int .i64 0, .slice none 0 0] [] := by
    unfold slotZ
    repeat (first | with_reducible exact HasL.nil _ | with_reducible refine HasL.cons_v ?_ | with_reducible refine HasL.cons_nil ?_)
  exact h.1
set_option maxRecDepth 100000 in
set_option maxHeartbeats 1000000 in
theorem toSlotS_any (l : List SlotT) (u : Value) (B : Nat) (w : World) (hl : slotsW l ≤ 1048576) (hr : Rd w B (slots l) u) (hB : B ≤ w.heap.size) :
    Calls Tryd.prog 13 #[u] w (Gives (slots l) w) := by
  have hll : l.length ≤ 1048576 := by unfold slotsW at hl; omega
  obtain ⟨A, cap, rfl, h0, h1, hrow⟩ := slots_row hr
  have hmk := fun W => run_make_rowN (P := Tryd.prog) 34 64 _ 7 88 Tryd.underlying34 slot_info .i64 .i64 l.length l.length (Nat.le_refl _) (by omega) (by omega) W
  unfold maxLen at h1
  clear hr
  go_enter Tryd.func13, Tryd.ntmps13
  go_wp2_with fail
  go_loopw [4] (fun i wr => ∃ k : Nat, k ≤ l.length ∧ i = .int .i64 k ∧ New w wr (.s l.length (filled slotF slotZ l k)) (.slice (some ⟨w.heap.size, 0, none⟩) l.length l.length)) (fun i _ => l.length - (intOf i).toNat)
  case atStart => exact ⟨0, Nat.zero_le _, rfl, New.make w 64 _ 7 rfl (by omega) slotZ slotZ_own slotF l l.length rfl (by unfold maxLen; omega)⟩
  case round =>
    obtain ⟨k, hk, rfl, hh⟩ := hrel
    by_cases hlt : k < l.length
    · obtain ⟨b, off, u4, u6, rfl, hb, q0, q1, q2, q3, q4, q5, q6, r4, r6⟩ := slots_cells (hrow.chg0 hh.chg hB) k hlt
      have hwt := slotsW_mem (List.getElem_mem hlt)
      go_wp2_with fail
      refine (toSlot_el l[k] u4 u6 B _ (by unfold slotsW at hl; omega) r4 r6 (by have := hh.chg.size; omega)).mono ?_; rintro e w1 ⟨A4, cap4, A6, cap6, rfl, n1⟩
      have hset := hh.fill slotF_len rfl hlt n1
      have hh1 := hh.later n1.chg
      obtain ⟨rm0, x0, rc0⟩ := hh1.room (j := k * 7) (by rw [filled_length slotF_len rfl _ _ hk]; omega)
      obtain ⟨rm1, x1, rc1⟩ := hh1.room (j := k * 7 + 1) (by rw [filled_length slotF_len rfl _ _ hk]; omega)
      obtain ⟨rm2, x2, rc2⟩ := hh1.room (j := k * 7 + 2) (by rw [filled_length slotF_len rfl _ _ hk]; omega)
      obtain ⟨rm3, x3, rc3⟩ := hh1.room (j := k * 7 + 3) (by rw [filled_length slotF_len rfl _ _ hk]; omega)
      obtain ⟨rm4, x4, rc4⟩ := hh1.room (j := k * 7 + 4) (by rw [filled_length slotF_len rfl _ _ hk]; omega)
      obtain ⟨rm5, x5, rc5⟩ := hh1.room (j := k * 7 + 5) (by rw [filled_length slotF_len rfl _ _ hk]; omega)
      obtain ⟨rm6, x6, rc6⟩ := hh1.room (j := k * 7 + 6) (by rw [filled_length slotF_len rfl _ _ hk]; omega)
      go_wp2_with fail
      go_roundw
      case rel => exact ⟨k + 1, by omega, by go_num, hset⟩
      case measure => simp [intOf]; omega
    · obtain rfl : k = l.length := by omega
      rw [filled_all] at hh
      go_wp2_with fail
      go_ret
      exact ⟨_, rfl, hh⟩

set_option maxRecDepth 100000 in
set_option maxHeartbeats 1000000 in
theorem eqSlot_el (a : SlotT) (u4 u6 v4 v6 : Value) (B B' : Nat) (w : World) (r4 : Rd w B (cells a.part.core.cells) u4) (r6 : Rd w B (layers a.part.layers) u6) (s4 : Rd w B' (cells a.part.core.cells) v4) (s6 : Rd w B' (layers a.part.layers) v6) (hBw : B ≤ w.heap.size) (hBw' : B' ≤ w.heap.size) :
    Calls Tryd.prog 29 #[.agg #[.bool a.full, .string a.part.core.kind, .bool a.part.core.on, .bool a.part.core.broken, u4, .int .i64 a.part.core.count, u6], .agg #[.bool a.full, .string a.part.core.kind, .bool a.part.core.on, .bool a.part.core.broken, v4, .int .i64 a.part.core.count, v6]] w fun e w' => e = .returned (.bool true) ∧ Chg [] w w' := by
  go_enter Tryd.func29, Tryd.ntmps29
  go_wp2_with fail
  refine (eqPart_el a.part u4 u6 v4 v6 B B' _ (r4.chg0 (((Chg.refl _ _).alloc _).alloc _) hBw) (r6.chg0 (((Chg.refl _ _).alloc _).alloc _) hBw) (s4.chg0 (((Chg.refl _ _).alloc _).alloc _) hBw') (s6.chg0 (((Chg.refl _ _).alloc _).alloc _) hBw') (by simp; omega) (by simp; omega)).mono ?_; rintro e w1 ⟨rfl, c1⟩
  obtain ⟨y1, _, z1⟩ := c1.cells
  have d1 : Chg [] w w1 := Chg.trans0 (((Chg.refl _ _).alloc _).alloc _) c1
  have t1 : w.heap.size + 1 < w1.heap.size := by simp at z1; omega
  have t1' : w.heap.size < w1.heap.size := by omega
  go_wp2_with fail
  go_ret
  exact ⟨rfl, d1⟩

set_option maxRecDepth 100000 in
set_option maxHeartbeats 1000000 in
theorem eqSlotS_same (l : List SlotT) (u v : Value) (B B' : Nat) (w : World) (hr : Rd w B (slots l) u) (hs : Rd w B' (slots l) v) (hB : B ≤ w.heap.size) (hB' : B' ≤ w.heap.size) :
    Calls Tryd.prog 15 #[u, v] w fun e w' => e = .returned (.bool true) ∧ Chg [] w w' := by
  obtain ⟨A, cap, rfl, h0, h1, hrow⟩ := slots_row hr
  obtain ⟨A', cap', rfl, h0', h1', hrow'⟩ := slots_row hs
  unfold maxLen at h1 h1'
  clear hr hs
  go_enter Tryd.func15, Tryd.ntmps15
  go_wp2_with fail
  go_loopw [5] (fun i wr => ∃ k : Nat, k ≤ l.length ∧ i = .int .i64 k ∧ Chg [] w wr) (fun i _ => l.length - (intOf i).toNat)
  case atStart => exact ⟨0, Nat.zero_le _, rfl, Chg.refl _ _⟩
  case round =>
    obtain ⟨k, hk, rfl, hc⟩ := hrel
    by_cases hlt : k < l.length
    · obtain ⟨b, off, u4, u6, rfl, hb, q0, q1, q2, q3, q4, q5, q6, r4, r6⟩ := slots_cells (hrow.chg0 hc hB) k hlt
      obtain ⟨b', off', v4, v6, rfl, hb', p0, p1, p2, p3, p4, p5, p6, s4, s6⟩ := slots_cells (hrow'.chg0 hc hB') k hlt
      have el := fun W (hW : Chg [] wr W) => eqSlot_el l[k] u4 u6 v4 v6 B B' W (r4.chg0 hW (by have := hc.size; omega)) (r6.chg0 hW (by have := hc.size; omega)) (s4.chg0 hW (by have := hc.size; omega)) (s6.chg0 hW (by have := hc.size; omega)) (by have := hc.size; have := hW.size; omega) (by have := hc.size; have := hW.size; omega)
      have EL := Lib.hid el
      clear el
      go_wp2_with fail
      go_still_tail 8, (by kernel_rfl)
      change wpList _ _ _ _ _ wr.drew
      go_wp2_with fail
      refine (EL.out _ ((Chg.refl _ _).drew)).mono ?_; rintro e w1 ⟨rfl, c1⟩
      go_wp2_with fail
      go_roundw
      case rel => exact ⟨k + 1, by omega, by go_num, hc.drew.trans0 c1⟩
      case measure => simp [intOf]; omega
    · obtain rfl : k = l.length := by omega
      go_wp2_with fail
      go_ret
      exact ⟨rfl, hc⟩

end Go.Proofs.YtapmknkelihacaaDoor
