/- Call: as plain data; the walks of its size, copy, equality, marks. Written by a program. -/
import Derived.Test.YtapmknkelihacaaDoorStrs
import Derived.Test.YtapmknkelihacaaDoorText
import Derived.Test.YtapmknkelihacaaDoorOpen
import Derived.StillTailTactics
import Derived.Deep.RegionHeld3
namespace Go.Proofs.YtapmknkelihacaaDoor
open Go.RowKit

structure CallT where
  method : ByteArray
  key : ByteArray
  value : Int
  text : ByteArray
def callF (a : CallT) : List Dat := [.v (.string a.method)] ++ ([.v (.string a.key)] ++ ([.v (.int .i64 a.value)] ++ [.v (.string a.text)]))
theorem callF_eq (a : CallT) : callF a = [.v (.string a.method), .v (.string a.key), .v (.int .i64 a.value), .v (.string a.text)] := rfl
theorem callF_len (a : CallT) : (callF a).length = 4 := rfl
def calls (l : List CallT) : Dat := .s l.length (l.flatMap callF)
theorem calls_row {w : World} {B : Nat} {l : List CallT} {u : Value} (h : Rd w B (calls l) u) : ∃ A cap, u = .slice A l.length cap ∧ l.length ≤ cap ∧ cap ≤ maxLen ∧ RowAt w B callF 4 l A := h.row callF_len (by omega)
theorem calls_cells {w : World} {B : Nat} {l : List CallT} {A : Option Addr} (h : RowAt w B callF 4 l A) (k : Nat) (hk : k < l.length) : ∃ b off, A = some ⟨b, off, none⟩ ∧ b < B ∧ w.cell? ⟨b, off + k * 4, none⟩ = some (.string (l[k].method)) ∧ w.cell? ⟨b, off + k * 4 + 1, none⟩ = some (.string (l[k].key)) ∧ w.cell? ⟨b, off + k * 4 + 2, none⟩ = some (.int .i64 (l[k].value)) ∧ w.cell? ⟨b, off + k * 4 + 3, none⟩ = some (.string (l[k].text)) := by
  obtain ⟨b, off, e, hb, hx⟩ := h k hk
  rw [callF_eq] at hx
  obtain ⟨v0, e0, d0⟩ := hx 0 _ rfl
  obtain ⟨v1, e1, d1⟩ := hx 1 _ rfl
  obtain ⟨v2, e2, d2⟩ := hx 2 _ rfl
  obtain ⟨v3, e3, d3⟩ := hx 3 _ rfl
  rw [Rd] at d0 d1 d2 d3
  subst d0 d1 d2 d3
  exact ⟨b, off, e, hb, by simpa using e0, e1, e2, e3⟩

def callW (a : CallT) : Nat := a.method.size + a.key.size + a.text.size
def callsW1 (l : List CallT) : Nat := (l.map callW).sum
def callsW (l : List CallT) : Nat := l.length + callsW1 l
theorem callsW_mem {l : List CallT} {a : CallT} (h : a ∈ l) : callW a ≤ callsW1 l := sum_mem callW h
def callN (_ : CallT) : Nat := 4
def callM (_ : CallT) (k : Int) : CallT := ⟨(mt (k)), (mt (k + 1)), (k + 1 + 1), (mt (k + 1 + 1 + 1))⟩
def callsN (l : List CallT) : Nat := (l.map callN).sum
def callsM (l : List CallT) (k : Int) : List CallT := mapK callM callN l k
end Go.Proofs.YtapmknkelihacaaDoor
