/- Call: as plain data; the walks of its size, copy, equality, marks. Written by a program. -/
import Derived.Test.YtgnggiibhkphjaaGreatDoorStrs
import Derived.Test.YtgnggiibhkphjaaGreatDoorText
import Derived.Test.YtgnggiibhkphjaaGreatDoorOpen
import Derived.StillTailTactics
import Derived.Deep.RegionHeld3
namespace Go.Proofs.YtgnggiibhkphjaaGreatDoor
open Go.RowKit

structure CallT where
  method : ByteArray
  key : ByteArray
  value : Int
  text : ByteArray
def callF (a : CallT) : List Dat := [.v (.string a.method)] ++ ([.v (.string a.key)] ++ ([.v (.int .i64 a.value)] ++ [.v (.string a.text)]))
theorem callF_eq (a : CallT) : callF a = [.v (.string a.method), .v (.string a.key), .v (.int .i64 a.value), .v (.string a.text)] := rfl
theorem callF_len (a : CallT) : (callF a).length = 4 := rfl
def calls (l : List CallT) : Dat := .s l.length (l.flatMap callF)
theorem calls_row {w : World} {B : Nat} {l : List CallT} {u : Value} (h : Rd w B (calls l) u) : ∃ A cap, u = .slice A l.length cap ∧ l.length ≤ cap ∧ cap ≤ maxLen ∧ RowAt w B callF 4 l A := h.row callF_len (by omega)
theorem calls_cells {w : World} {B : Nat} {l : List CallT} {A : Option Addr} (h : RowAt w B callF 4 l A) (k : Nat) (hk : k < l.length) : ∃ b off, A = some ⟨b, off, none⟩ ∧ b < B ∧ w.cell? ⟨b, off + k * 4, none⟩ = some (.string (l[k].method)) ∧ w.cell? ⟨b, off + k * 4 + 1, none⟩ = some (.string (l[k].key)) ∧ w.cell? ⟨b, off + k * 4 + 2, none⟩ = some (.int .i64 (l[k].value)) ∧ w.cell? ⟨b, off + k * 4 + 3, none⟩ = some (.string (l[k].text)) := by
  obtain ⟨b, off, e, hb, hx⟩ := h k hk
  rw [callF_eq] at hx
  obtain ⟨v0, e0, d0⟩ := hx 0 _ rfl
  obtain ⟨v1, e1, d1⟩ := hx 1 _ rfl
  obtain ⟨v2, e2, d2⟩ := hx 2 _ rfl
  obtain ⟨v3, e3, d3⟩ := hx 3 _ rfl
  rw [Rd] at d0 d1 d2 d3
  subst d0 d1 d2 d3
  exact ⟨b, off, e, hb, by simpa using e0, e1, e2, e3⟩

def callW (a : CallT) : Nat := a.method.size + a.key.size + a.text.size
def callsW1 (l : List CallT) : Nat := (l.map callW).sum
def callsW (l : List CallT) : Nat := l.length + callsW1 l
theorem callsW_mem {l : List CallT} {a : CallT} (h : a ∈ l) : callW a ≤ callsW1 l := sum_mem callW h
def callN (_ : CallT) : Nat := 4
def callM (_ : CallT) (k : Int) : CallT := ⟨(mt (k)), (mt (k + 1)), (k + 1 + 1), (mt (k + 1 + 1 + 1))⟩
def callsN (l : List CallT) : Nat := (l.map callN).sum
def callsM (l : List CallT) (k : Int) : List CallT := mapK callM callN l k
set_option maxRecDepth 100000 in
set_option maxHeartbeats 1000000 in
theorem szCall_el (a : CallT) (left : Int) (w : World) (h0 : 0 ≤ left) (hl : left ≤ 1048576) (hf : FitL (callF a)) :
    Calls Tryz.prog 29 #[.agg #[.string a.method, .string a.key, .int .i64 a.value, .string a.text], .int .i64 left] w (SzPost left (callW a) w) := by
  simp only [callF, FitL_append] at hf
  obtain ⟨f0, f1, f2, f3⟩ := hf
  simp only [FitL, FitD, FitV, and_true] at f0
  simp only [FitL, FitD, FitV, and_true] at f1
  simp only [FitL, FitD, FitV, and_true] at f2
  simp only [FitL, FitD, FitV, and_true] at f3
  go_enter Tryz.func29, Tryz.ntmps29
  go_wp2_with fail
  all_goals
    go_ret
    exact ⟨_, rfl, by (first | exact Left.no (by (try unfold Left at *); (try unfold callW); omega) | exact Left.ok (by (try unfold Left at *); (try unfold callW); omega) (by (try unfold Left at *); (try unfold callW); omega)), (Chg.refl _ _).alloc _⟩

set_option maxRecDepth 100000 in
set_option maxHeartbeats 2000000 in
theorem toCall_el (a : CallT) (w : World) (_hW : callW a ≤ 1048576) :
    Calls Tryz.prog 32 #[.agg #[.string a.method, .string a.key, .int .i64 a.value, .string a.text]] w (fun e w' => e = .returned (.agg #[.string a.method, .string a.key, .int .i64 a.value, .string a.text]) ∧ NewL w w' (callF a) [.string a.method, .string a.key, .int .i64 a.value, .string a.text]) := by
  go_enter Tryz.func32, Tryz.ntmps32
  go_wp2_with fail
  refine bodyPost_ret (v := .agg #[.string a.method, .string a.key, .int .i64 a.value, .string a.text]) (by simp only [results, Tryz.results32]; go_simp) rfl ⟨rfl, ?_⟩
  rw [callF_eq]
  repeat refine NewL.cons_v ?_
  refine NewL.nil ?_
  repeat (first | with_reducible exact Chg.refl _ _ | with_reducible refine Chg.drew ?_ | with_reducible refine Chg.alloc ?_ _ | with_reducible refine Chg.setCell ?_ (.inr (by simp; try omega)) _)

set_option maxRecDepth 100000 in
set_option maxHeartbeats 1000000 in
theorem eqCall_el (a : CallT) (w : World) :
    Calls Tryz.prog 34 #[.agg #[.string a.method, .string a.key, .int .i64 a.value, .string a.text], .agg #[.string a.method, .string a.key, .int .i64 a.value, .string a.text]] w fun e w' => e = .returned (.bool true) ∧ Chg [] w w' := by
  go_enter Tryz.func34, Tryz.ntmps34
  go_wp2_with fail
  go_ret
  exact ⟨rfl, ((Chg.refl _ _).alloc _).alloc _⟩

end Go.Proofs.YtgnggiibhkphjaaGreatDoor
