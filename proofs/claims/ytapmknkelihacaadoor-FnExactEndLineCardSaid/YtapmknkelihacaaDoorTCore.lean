/- Core: as plain data; the walks of its size, copy, equality, marks. Written by a program. -/
import Derived.Test.YtapmknkelihacaaDoorStrs
import Derived.Test.YtapmknkelihacaaDoorText
import Derived.Test.YtapmknkelihacaaDoorOpen
import Derived.StillTailTactics
import Derived.Deep.RegionHeld3
import Derived.Test.YtapmknkelihacaaDoorTCell
namespace Go.Proofs.YtapmknkelihacaaDoor
open Go.RowKit

structure CoreT where
  kind : ByteArray
  on : Bool
  broken : Bool
  cells : List CellT
  count : Int
def coreF (a : CoreT) : List Dat := [.v (.string a.kind)] ++ ([.v (.bool a.on)] ++ ([.v (.bool a.broken)] ++ ([cells a.cells] ++ [.v (.int .i64 a.count)])))
theorem coreF_eq (a : CoreT) : coreF a = [.v (.string a.kind), .v (.bool a.on), .v (.bool a.broken), cells a.cells, .v (.int .i64 a.count)] := rfl
theorem coreF_len (a : CoreT) : (coreF a).length = 5 := rfl
def cores (l : List CoreT) : Dat := .s l.length (l.flatMap coreF)
theorem cores_row {w : World} {B : Nat} {l : List CoreT} {u : Value} (h : Rd w B (cores l) u) : ∃ A cap, u = .slice A l.length cap ∧ l.length ≤ cap ∧ cap ≤ maxLen ∧ RowAt w B coreF 5 l A := h.row coreF_len (by omega)
theorem cores_cells {w : World} {B : Nat} {l : List CoreT} {A : Option Addr} (h : RowAt w B coreF 5 l A) (k : Nat) (hk : k < l.length) : ∃ b off u3, A = some ⟨b, off, none⟩ ∧ b < B ∧ w.cell? ⟨b, off + k * 5, none⟩ = some (.string (l[k].kind)) ∧ w.cell? ⟨b, off + k * 5 + 1, none⟩ = some (.bool (l[k].on)) ∧ w.cell? ⟨b, off + k * 5 + 2, none⟩ = some (.bool (l[k].broken)) ∧ w.cell? ⟨b, off + k * 5 + 3, none⟩ = some u3 ∧ w.cell? ⟨b, off + k * 5 + 4, none⟩ = some (.int .i64 (l[k].count)) ∧ Rd w B (cells (l[k].cells)) u3 := by
  obtain ⟨b, off, e, hb, hx⟩ := h k hk
  rw [coreF_eq] at hx
  obtain ⟨v0, e0, d0⟩ := hx 0 _ rfl
  obtain ⟨v1, e1, d1⟩ := hx 1 _ rfl
  obtain ⟨v2, e2, d2⟩ := hx 2 _ rfl
  obtain ⟨v3, e3, d3⟩ := hx 3 _ rfl
  obtain ⟨v4, e4, d4⟩ := hx 4 _ rfl
  rw [Rd] at d0 d1 d2 d4
  subst d0 d1 d2 d4
  exact ⟨b, off, v3, e, hb, by simpa using e0, e1, e2, e3, e4, d3⟩

def coreW (a : CoreT) : Nat := a.kind.size + cellsW a.cells
def coresW1 (l : List CoreT) : Nat := (l.map coreW).sum
def coresW (l : List CoreT) : Nat := l.length + coresW1 l
theorem coresW_mem {l : List CoreT} {a : CoreT} (h : a ∈ l) : coreW a ≤ coresW1 l := sum_mem coreW h
def coreN (a : CoreT) : Nat := 4 + cellsN a.cells
def coreM (a : CoreT) (k : Int) : CoreT := ⟨(mt (k)), ((k + 1) % 3 == 0), ((k + 1 + 1) % 3 == 0), (cellsM a.cells (k + 1 + 1 + 1)), (k + 1 + 1 + 1 + cellsN a.cells)⟩
def coresN (l : List CoreT) : Nat := (l.map coreN).sum
def coresM (l : List CoreT) (k : Int) : List CoreT := mapK coreM coreN l k
set_option maxRecDepth 100000 in
set_option maxHeartbeats 1000000 in
theorem szCore_el (a : CoreT) (left : Int) (u3 : Value) (B : Nat) (w : World) (h0 : 0 ≤ left) (hl : left ≤ 1048576) (hf : FitL (coreF a)) (r3 : Rd w B (cells a.cells) u3) (hBw : B ≤ w.heap.size) :
    Calls Tryd.prog 52 #[.agg #[.string a.kind, .bool a.on, .bool a.broken, u3, .int .i64 a.count], .int .i64 left] w (SzPost left (coreW a) w) := by
  simp only [coreF, FitL_append] at hf
  obtain ⟨f0, f1, f2, f3, f4⟩ := hf
  simp only [FitL, FitD, FitV, and_true] at f0
  simp only [FitL, FitD, FitV, and_true] at f1
  simp only [FitL, FitD, FitV, and_true] at f2
  have g3 := Lib.hid f3; clear f3
  simp only [FitL, FitD, FitV, and_true] at f4
  go_enter Tryd.func52, Tryd.ntmps52
  go_wp2_with fail
  all_goals try (go_ret; exact ⟨_, rfl, by (first | exact Left.no (by (try unfold Left at *); (try unfold coreW); omega) | exact Left.ok (by (try unfold Left at *); (try unfold coreW); omega) (by (try unfold Left at *); (try unfold coreW); omega)), (Chg.refl _ _).alloc _⟩; done)
  refine (szCellS_any a.cells _ u3 B _ (by omega) (by omega) g3.out (r3.chg0 (((Chg.refl _ _).alloc _)) hBw) (by simp; omega)).mono ?_; rintro e w1 ⟨r1_, rfl, L1, C1⟩
  have D1 : Chg [] w w1 := Chg.trans0 (((Chg.refl _ _).alloc _)) C1
  have bd1 := L1.bd (by omega)
  have s1 : w.heap.size < w1.heap.size := by have := C1.size; simp at this; omega
  obtain ⟨y1, _, _⟩ := C1.cells
  go_wp2_with fail
  all_goals
    go_ret
    exact ⟨_, rfl, by (first | exact Left.no (by (try unfold Left at *); (try unfold coreW); omega) | exact Left.ok (by (try unfold Left at *); (try unfold coreW); omega) (by (try unfold Left at *); (try unfold coreW); omega)), D1⟩

set_option maxRecDepth 100000 in
set_option maxHeartbeats 2000000 in
theorem toCore_el (a : CoreT) (u3 : Value) (B : Nat) (w : World) (hW : coreW a ≤ 1048576) (r3 : Rd w B (cells a.cells) u3) (hBw : B ≤ w.heap.size) :
    Calls Tryd.prog 55 #[.agg #[.string a.kind, .bool a.on, .bool a.broken, u3, .int .i64 a.count]] w (fun e w' => ∃ A3 cap3, e = .returned (.agg #[.string a.kind, .bool a.on, .bool a.broken, .slice A3 a.cells.length cap3, .int .i64 a.count]) ∧ NewL w w' (coreF a) [.string a.kind, .bool a.on, .bool a.broken, .slice A3 a.cells.length cap3, .int .i64 a.count]) := by
  unfold coreW at hW
  go_enter Tryd.func55, Tryd.ntmps55
  go_wp2_with fail
  refine (toCellS_any a.cells u3 B _ (by omega) (r3.chg0 (by repeat (first | with_reducible exact Chg.refl _ _ | with_reducible refine Chg.drew ?_ | with_reducible refine Chg.alloc ?_ _ | with_reducible refine Chg.setCell ?_ (.inr (by simp; try omega)) _)) hBw) (by simp; omega)).mono ?_; intro e w1 G1; obtain ⟨A3, cap3, rfl, n1⟩ := G1.sl
  obtain ⟨y1, z1, s1⟩ := n1.chg.cells
  have d1 : Chg [] w w1 := Chg.trans0 (by repeat (first | with_reducible exact Chg.refl _ _ | with_reducible refine Chg.drew ?_ | with_reducible refine Chg.alloc ?_ _ | with_reducible refine Chg.setCell ?_ (.inr (by simp; try omega)) _)) n1.chg
  have t1 : w.heap.size + 1 + 1 < w1.heap.size := by simp at s1; omega
  have t1' : w.heap.size + 1 < w1.heap.size := by omega
  have t1'' : w.heap.size < w1.heap.size := by omega
  go_wp2_with fail
  refine bodyPost_ret (v := .agg #[.string a.kind, .bool a.on, .bool a.broken, .slice A3 a.cells.length cap3, .int .i64 a.count]) (by simp only [results, Tryd.results55]; go_simp) rfl ⟨_, _, rfl, ?_⟩
  rw [coreF]
  refine NewT.start (T := [w.heap.size + 1, w.heap.size + 1 + 1]) ?_ (by intro x hx; simp at hx; omega)
  refine NewT.cons_v ?_
  refine NewT.cons_v ?_
  refine NewT.cons_v ?_
  refine NewT.cons_new n1 (by intro x hx; simp at hx ⊢; omega) (by repeat (first | with_reducible exact Chg.refl _ _ | with_reducible refine Chg.drew ?_ | with_reducible refine Chg.alloc ?_ _ | with_reducible refine Chg.setCell ?_ (.inl (by simp)) _)) (Chg.refl _ _) ?_
  refine NewT.cons_v ?_
  refine NewT.nil ?_
  repeat (first | with_reducible exact Chg.refl _ _ | with_reducible refine Chg.drew ?_ | with_reducible refine Chg.alloc ?_ _ | with_reducible refine Chg.setCell ?_ (.inl (by simp)) _)

set_option maxRecDepth 100000 in
set_option maxHeartbeats 1000000 in
theorem eqCore_el (a : CoreT) (u3 v3 : Value) (B B' : Nat) (w : World) (r3 : Rd w B (cells a.cells) u3) (s3 : Rd w B' (cells a.cells) v3) (hBw : B ≤ w.heap.size) (hBw' : B' ≤ w.heap.size) :
    Calls Tryd.prog 62 #[.agg #[.string a.kind, .bool a.on, .bool a.broken, u3, .int .i64 a.count], .agg #[.string a.kind, .bool a.on, .bool a.broken, v3, .int .i64 a.count]] w fun e w' => e = .returned (.bool true) ∧ Chg [] w w' := by
  go_enter Tryd.func62, Tryd.ntmps62
  go_wp2_with fail
  refine (eqCellS_same a.cells u3 v3 B B' _ (r3.chg0 (((Chg.refl _ _).alloc _).alloc _) hBw) (s3.chg0 (((Chg.refl _ _).alloc _).alloc _) hBw') (by simp; omega) (by simp; omega)).mono ?_; rintro e w1 ⟨rfl, c1⟩
  obtain ⟨y1, _, z1⟩ := c1.cells
  have d1 : Chg [] w w1 := Chg.trans0 (((Chg.refl _ _).alloc _).alloc _) c1
  have t1 : w.heap.size + 1 < w1.heap.size := by simp at z1; omega
  have t1' : w.heap.size < w1.heap.size := by omega
  go_wp2_with fail
  go_ret
  exact ⟨rfl, d1⟩

end Go.Proofs.YtapmknkelihacaaDoor
