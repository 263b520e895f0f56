/- End: as plain data; the walks of its size, copy, equality, marks. Written by a program. -/
import Derived.Test.YtapmknkelihacaaDoorStrs
import Derived.Test.YtapmknkelihacaaDoorText
import Derived.Test.YtapmknkelihacaaDoorOpen
import Derived.StillTailTactics
import Derived.Deep.RegionHeld3
namespace Go.Proofs.YtapmknkelihacaaDoor
open Go.RowKit

structure EndT where
  code : Int
  place : Int
  want : Int
  had : Int
def endF (a : EndT) : List Dat := [.v (.int .i64 a.code)] ++ ([.v (.int .i64 a.place)] ++ ([.v (.int .i64 a.want)] ++ [.v (.int .i64 a.had)]))
theorem endF_eq (a : EndT) : endF a = [.v (.int .i64 a.code), .v (.int .i64 a.place), .v (.int .i64 a.want), .v (.int .i64 a.had)] := rfl
theorem endF_len (a : EndT) : (endF a).length = 4 := rfl
def ends (l : List EndT) : Dat := .s l.length (l.flatMap endF)
theorem ends_row {w : World} {B : Nat} {l : List EndT} {u : Value} (h : Rd w B (ends l) u) : ∃ A cap, u = .slice A l.length cap ∧ l.length ≤ cap ∧ cap ≤ maxLen ∧ RowAt w B endF 4 l A := h.row endF_len (by omega)
theorem ends_cells {w : World} {B : Nat} {l : List EndT} {A : Option Addr} (h : RowAt w B endF 4 l A) (k : Nat) (hk : k < l.length) : ∃ b off, A = some ⟨b, off, none⟩ ∧ b < B ∧ w.cell? ⟨b, off + k * 4, none⟩ = some (.int .i64 (l[k].code)) ∧ w.cell? ⟨b, off + k * 4 + 1, none⟩ = some (.int .i64 (l[k].place)) ∧ w.cell? ⟨b, off + k * 4 + 2, none⟩ = some (.int .i64 (l[k].want)) ∧ w.cell? ⟨b, off + k * 4 + 3, none⟩ = some (.int .i64 (l[k].had)) := by
  obtain ⟨b, off, e, hb, hx⟩ := h k hk
  rw [endF_eq] at hx
  obtain ⟨v0, e0, d0⟩ := hx 0 _ rfl
  obtain ⟨v1, e1, d1⟩ := hx 1 _ rfl
  obtain ⟨v2, e2, d2⟩ := hx 2 _ rfl
  obtain ⟨v3, e3, d3⟩ := hx 3 _ rfl
  rw [Rd] at d0 d1 d2 d3
  subst d0 d1 d2 d3
  exact ⟨b, off, e, hb, by simpa using e0, e1, e2, e3⟩

def endW (_ : EndT) : Nat := 0
def endsW1 (l : List EndT) : Nat := (l.map endW).sum
def endsW (l : List EndT) : Nat := l.length + endsW1 l
theorem endsW_mem {l : List EndT} {a : EndT} (h : a ∈ l) : endW a ≤ endsW1 l := sum_mem endW h
def endN (_ : EndT) : Nat := 4
def endM (_ : EndT) (k : Int) : EndT := ⟨(k), (k + 1), (k + 1 + 1), (k + 1 + 1 + 1)⟩
def endsN (l : List EndT) : Nat := (l.map endN).sum
def endsM (l : List EndT) (k : Int) : List EndT := mapK endM endN l k
set_option maxRecDepth 100000 in
set_option maxHeartbeats 2000000 in
theorem toEnd_el (a : EndT) (w : World) (_hW : endW a ≤ 1048576) :
    Calls Tryd.prog 12 #[.agg #[.int .i64 a.code, .int .i64 a.place, .int .i64 a.want, .int .i64 a.had]] w (fun e w' => e = .returned (.agg #[.int .i64 a.code, .int .i64 a.place, .int .i64 a.want, .int .i64 a.had]) ∧ NewL w w' (endF a) [.int .i64 a.code, .int .i64 a.place, .int .i64 a.want, .int .i64 a.had]) := by
  go_enter Tryd.func12, Tryd.ntmps12
  go_wp2_with fail
  refine bodyPost_ret (v := .agg #[.int .i64 a.code, .int .i64 a.place, .int .i64 a.want, .int .i64 a.had]) (by simp only [results, Tryd.results12]; go_simp) rfl ⟨rfl, ?_⟩
  rw [endF_eq]
  repeat refine NewL.cons_v ?_
  refine NewL.nil ?_
  repeat (first | with_reducible exact Chg.refl _ _ | with_reducible refine Chg.drew ?_ | with_reducible refine Chg.alloc ?_ _ | with_reducible refine Chg.setCell ?_ (.inr (by simp; try omega)) _)

end Go.Proofs.YtapmknkelihacaaDoor
