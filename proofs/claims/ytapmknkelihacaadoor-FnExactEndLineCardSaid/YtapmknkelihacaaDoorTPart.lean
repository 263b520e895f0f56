/- Part: as plain data; the walks of its size, copy, equality, marks. Written by a program. -/
import Derived.Test.YtapmknkelihacaaDoorStrs
import Derived.Test.YtapmknkelihacaaDoorText
import Derived.Test.YtapmknkelihacaaDoorOpen
import Derived.StillTailTactics
import Derived.Deep.RegionHeld3
import Derived.Test.YtapmknkelihacaaDoorTCore
import Derived.Test.YtapmknkelihacaaDoorTLayer
namespace Go.Proofs.YtapmknkelihacaaDoor
open Go.RowKit

structure PartT where
  core : CoreT
  layers : List LayerT
def partF (a : PartT) : List Dat := coreF a.core ++ [layers a.layers]
theorem partF_eq (a : PartT) : partF a = [.v (.string a.core.kind), .v (.bool a.core.on), .v (.bool a.core.broken), cells a.core.cells, .v (.int .i64 a.core.count), layers a.layers] := rfl
theorem partF_len (a : PartT) : (partF a).length = 6 := rfl
def parts (l : List PartT) : Dat := .s l.length (l.flatMap partF)
theorem parts_row {w : World} {B : Nat} {l : List PartT} {u : Value} (h : Rd w B (parts l) u) : ∃ A cap, u = .slice A l.length cap ∧ l.length ≤ cap ∧ cap ≤ maxLen ∧ RowAt w B partF 6 l A := h.row partF_len (by omega)
theorem parts_cells {w : World} {B : Nat} {l : List PartT} {A : Option Addr} (h : RowAt w B partF 6 l A) (k : Nat) (hk : k < l.length) : ∃ b off u3 u5, A = some ⟨b, off, none⟩ ∧ b < B ∧ w.cell? ⟨b, off + k * 6, none⟩ = some (.string (l[k].core.kind)) ∧ w.cell? ⟨b, off + k * 6 + 1, none⟩ = some (.bool (l[k].core.on)) ∧ w.cell? ⟨b, off + k * 6 + 2, none⟩ = some (.bool (l[k].core.broken)) ∧ w.cell? ⟨b, off + k * 6 + 3, none⟩ = some u3 ∧ w.cell? ⟨b, off + k * 6 + 4, none⟩ = some (.int .i64 (l[k].core.count)) ∧ w.cell? ⟨b, off + k * 6 + 5, none⟩ = some u5 ∧ Rd w B (cells (l[k].core.cells)) u3 ∧ Rd w B (layers (l[k].layers)) u5 := by
  obtain ⟨b, off, e, hb, hx⟩ := h k hk
  rw [partF_eq] at hx
  obtain ⟨v0, e0, d0⟩ := hx 0 _ rfl
  obtain ⟨v1, e1, d1⟩ := hx 1 _ rfl
  obtain ⟨v2, e2, d2⟩ := hx 2 _ rfl
  obtain ⟨v3, e3, d3⟩ := hx 3 _ rfl
  obtain ⟨v4, e4, d4⟩ := hx 4 _ rfl
  obtain ⟨v5, e5, d5⟩ := hx 5 _ rfl
  rw [Rd] at d0 d1 d2 d4
  subst d0 d1 d2 d4
  exact ⟨b, off, v3, v5, e, hb, by simpa using e0, e1, e2, e3, e4, e5, d3, d5⟩

def partW (a : PartT) : Nat := coreW a.core + layersW a.layers
def partsW1 (l : List PartT) : Nat := (l.map partW).sum
def partsW (l : List PartT) : Nat := l.length + partsW1 l
theorem partsW_mem {l : List PartT} {a : PartT} (h : a ∈ l) : partW a ≤ partsW1 l := sum_mem partW h
def partN (a : PartT) : Nat := 4 + cellsN a.core.cells + layersN a.layers
def partM (a : PartT) (k : Int) : PartT := ⟨⟨(mt (k)), ((k + 1) % 3 == 0), ((k + 1 + 1) % 3 == 0), (cellsM a.core.cells (k + 1 + 1 + 1)), (k + 1 + 1 + 1 + cellsN a.core.cells)⟩, (layersM a.layers (k + 1 + 1 + 1 + cellsN a.core.cells + 1))⟩
def partsN (l : List PartT) : Nat := (l.map partN).sum
def partsM (l : List PartT) (k : Int) : List PartT := mapK partM partN l k
set_option maxRecDepth 100000 in
set_option maxHeartbeats 1000000 in
theorem szPart_el (a : PartT) (left : Int) (u3 u5 : Value) (B : Nat) (w : World) (h0 : 0 ≤ left) (hl : left ≤ 1048576) (hf : FitL (partF a)) (r3 : Rd w B (cells a.core.cells) u3) (r5 : Rd w B (layers a.layers) u5) (hBw : B ≤ w.heap.size) :
    Calls Tryd.prog 34 #[.agg #[.string a.core.kind, .bool a.core.on, .bool a.core.broken, u3, .int .i64 a.core.count, u5], .int .i64 left] w (SzPost left (partW a) w) := by
  simp only [partF, FitL_append] at hf
  obtain ⟨f0, f1⟩ := hf
  have g0 := Lib.hid f0; clear f0
  have g1 := Lib.hid f1; clear f1
  go_enter Tryd.func34, Tryd.ntmps34
  go_wp2_with fail
  all_goals try (go_ret; exact ⟨_, rfl, by (first | exact Left.no (by (try unfold Left at *); (try unfold partW); omega) | exact Left.ok (by (try unfold Left at *); (try unfold partW); omega) (by (try unfold Left at *); (try unfold partW); omega)), (Chg.refl _ _).alloc _⟩; done)
  refine (szCore_el a.core _ u3 B _ (by omega) (by omega) g0.out (r3.chg0 (((Chg.refl _ _).alloc _)) hBw) (by simp; omega)).mono ?_; rintro e w1 ⟨r1_, rfl, L1, C1⟩
  have D1 : Chg [] w w1 := Chg.trans0 (((Chg.refl _ _).alloc _)) C1
  have bd1 := L1.bd (by omega)
  have s1 : w.heap.size < w1.heap.size := by have := C1.size; simp at this; omega
  obtain ⟨y1, _, _⟩ := C1.cells
  go_wp2_with fail
  all_goals try (go_ret; exact ⟨_, rfl, by (first | exact Left.no (by (try unfold Left at *); (try unfold partW); omega) | exact Left.ok (by (try unfold Left at *); (try unfold partW); omega) (by (try unfold Left at *); (try unfold partW); omega)), D1⟩; done)
  refine (szLayerS_any a.layers _ u5 B _ (by omega) (by omega) g1.out (r5.chg0 (D1) hBw) (by have := D1.size; omega)).mono ?_; rintro e w2 ⟨r2_, rfl, L2, C2⟩
  have D2 : Chg [] w w2 := Chg.trans0 (D1) C2
  have bd2 := L2.bd (by omega)
  have s2 : w.heap.size < w2.heap.size := by have := C2.size; omega
  obtain ⟨y2, _, _⟩ := C2.cells
  go_wp2_with fail
  all_goals
    go_ret
    exact ⟨_, rfl, by (first | exact Left.no (by (try unfold Left at *); (try unfold partW); omega) | exact Left.ok (by (try unfold Left at *); (try unfold partW); omega) (by (try unfold Left at *); (try unfold partW); omega)), D2⟩

set_option maxRecDepth 100000 in
set_option maxHeartbeats 2000000 in
theorem toPart_el (a : PartT) (u3 u5 : Value) (B : Nat) (w : World) (hW : partW a ≤ 1048576) (r3 : Rd w B (cells a.core.cells) u3) (r5 : Rd w B (layers a.layers) u5) (hBw : B ≤ w.heap.size) :
    Calls Tryd.prog 39 #[.agg #[.string a.core.kind, .bool a.core.on, .bool a.core.broken, u3, .int .i64 a.core.count, u5]] w (fun e w' => ∃ A3 cap3 A5 cap5, e = .returned (.agg #[.string a.core.kind, .bool a.core.on, .bool a.core.broken, .slice A3 a.core.cells.length cap3, .int .i64 a.core.count, .slice A5 a.layers.length cap5]) ∧ NewL w w' (partF a) [.string a.core.kind, .bool a.core.on, .bool a.core.broken, .slice A3 a.core.cells.length cap3, .int .i64 a.core.count, .slice A5 a.layers.length cap5]) := by
  unfold partW at hW
  go_enter Tryd.func39, Tryd.ntmps39
  go_wp2_with fail
  refine (toCore_el a.core u3 B _ (by omega) (r3.chg0 (by repeat (first | with_reducible exact Chg.refl _ _ | with_reducible refine Chg.drew ?_ | with_reducible refine Chg.alloc ?_ _ | with_reducible refine Chg.setCell ?_ (.inr (by simp; try omega)) _)) hBw) (by simp; omega)).mono ?_; rintro e w1 ⟨A3, cap3, rfl, n1⟩
  obtain ⟨y1, z1, s1⟩ := n1.chg.cells
  have d1 : Chg [] w w1 := Chg.trans0 (by repeat (first | with_reducible exact Chg.refl _ _ | with_reducible refine Chg.drew ?_ | with_reducible refine Chg.alloc ?_ _ | with_reducible refine Chg.setCell ?_ (.inr (by simp; try omega)) _)) n1.chg
  have t1 : w.heap.size + 1 + 1 < w1.heap.size := by simp at s1; omega
  have t1' : w.heap.size + 1 < w1.heap.size := by omega
  have t1'' : w.heap.size < w1.heap.size := by omega
  go_wp2_with fail
  refine (toLayerS_any a.layers u5 B _ (by omega) (r5.chg0 (by repeat (first | with_reducible exact d1 | with_reducible refine Chg.drew ?_ | with_reducible refine Chg.alloc ?_ _ | with_reducible refine Chg.setCell ?_ (.inr (by simp; try omega)) _)) hBw) (by simp; omega)).mono ?_; intro e w2 G2; obtain ⟨A5, cap5, rfl, n2⟩ := G2.sl
  obtain ⟨y2, z2, s2⟩ := n2.chg.cells
  have d2 : Chg [] w w2 := Chg.trans0 (by repeat (first | with_reducible exact d1 | with_reducible refine Chg.drew ?_ | with_reducible refine Chg.alloc ?_ _ | with_reducible refine Chg.setCell ?_ (.inr (by simp; try omega)) _)) n2.chg
  have t2 : w.heap.size + 1 + 1 < w2.heap.size := by simp at s2; omega
  have t2' : w.heap.size + 1 < w2.heap.size := by omega
  have t2'' : w.heap.size < w2.heap.size := by omega
  go_wp2_with fail
  refine bodyPost_ret (v := .agg #[.string a.core.kind, .bool a.core.on, .bool a.core.broken, .slice A3 a.core.cells.length cap3, .int .i64 a.core.count, .slice A5 a.layers.length cap5]) (by simp only [results, Tryd.results39]; go_simp) rfl ⟨_, _, _, _, rfl, ?_⟩
  rw [partF]
  refine NewT.start (T := [w.heap.size + 1, w.heap.size + 1 + 1]) ?_ (by intro x hx; simp at hx; omega)
  refine NewT.app_new n1 (by intro x hx; simp at hx ⊢; omega) (by repeat (first | with_reducible exact Chg.refl _ _ | with_reducible refine Chg.drew ?_ | with_reducible refine Chg.alloc ?_ _ | with_reducible refine Chg.setCell ?_ (.inl (by simp)) _)) (Chg.refl _ _) ?_
  refine NewT.cons_new n2 (by intro x hx; simp at hx ⊢; omega) (by repeat (first | with_reducible exact Chg.refl _ _ | with_reducible refine Chg.drew ?_ | with_reducible refine Chg.alloc ?_ _ | with_reducible refine Chg.setCell ?_ (.inl (by simp)) _)) (Chg.refl _ _) ?_
  refine NewT.nil ?_
  repeat (first | with_reducible exact Chg.refl _ _ | with_reducible refine Chg.drew ?_ | with_reducible refine Chg.alloc ?_ _ | with_reducible refine Chg.setCell ?_ (.inl (by simp)) _)

set_option maxRecDepth 100000 in
set_option maxHeartbeats 1000000 in
theorem eqPart_el (a : PartT) (u3 u5 v3 v5 : Value) (B B' : Nat) (w : World) (r3 : Rd w B (cells a.core.cells) u3) (r5 : Rd w B (layers a.layers) u5) (s3 : Rd w B' (cells a.core.cells) v3) (s5 : Rd w B' (layers a.layers) v5) (hBw : B ≤ w.heap.size) (hBw' : B' ≤ w.heap.size) :
    Calls Tryd.prog 44 #[.agg #[.string a.core.kind, .bool a.core.on, .bool a.core.broken, u3, .int .i64 a.core.count, u5], .agg #[.string a.core.kind, .bool a.core.on, .bool a.core.broken, v3, .int .i64 a.core.count, v5]] w fun e w' => e = .returned (.bool true) ∧ Chg [] w w' := by
  go_enter Tryd.func44, Tryd.ntmps44
  go_wp2_with fail
  refine (eqCore_el a.core u3 v3 B B' _ (r3.chg0 (((Chg.refl _ _).alloc _).alloc _) hBw) (s3.chg0 (((Chg.refl _ _).alloc _).alloc _) hBw') (by simp; omega) (by simp; omega)).mono ?_; rintro e w1 ⟨rfl, c1⟩
  obtain ⟨y1, _, z1⟩ := c1.cells
  have d1 : Chg [] w w1 := Chg.trans0 (((Chg.refl _ _).alloc _).alloc _) c1
  have t1 : w.heap.size + 1 < w1.heap.size := by simp at z1; omega
  have t1' : w.heap.size < w1.heap.size := by omega
  go_wp2_with fail
  refine (eqLayerS_same a.layers u5 v5 B B' _ (r5.chg0 (d1) hBw) (s5.chg0 (d1) hBw') (by have := d1.size; omega) (by have := d1.size; omega)).mono ?_; rintro e w2 ⟨rfl, c2⟩
  obtain ⟨y2, _, z2⟩ := c2.cells
  have d2 : Chg [] w w2 := Chg.trans0 (d1) c2
  have t2 : w.heap.size + 1 < w2.heap.size := by omega
  have t2' : w.heap.size < w2.heap.size := by omega
  go_wp2_with fail
  go_ret
  exact ⟨rfl, d2⟩

end Go.Proofs.YtapmknkelihacaaDoor
