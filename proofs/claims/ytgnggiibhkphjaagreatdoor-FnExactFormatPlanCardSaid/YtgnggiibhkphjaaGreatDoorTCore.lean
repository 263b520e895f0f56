/- Core: as plain data; the walks of its size, copy, equality, marks. Written by a program. -/
import Derived.Test.YtgnggiibhkphjaaGreatDoorStrs
import Derived.Test.YtgnggiibhkphjaaGreatDoorText
import Derived.Test.YtgnggiibhkphjaaGreatDoorOpen
import Derived.StillTailTactics
import Derived.Deep.RegionHeld3
import Derived.Test.YtgnggiibhkphjaaGreatDoorTCell
namespace Go.Proofs.YtgnggiibhkphjaaGreatDoor
open Go.RowKit

structure CoreT where
  kind : ByteArray
  on : Bool
  broken : Bool
  cells : List CellT
  count : Int
def coreF (a : CoreT) : List Dat := [.v (.string a.kind)] ++ ([.v (.bool a.on)] ++ ([.v (.bool a.broken)] ++ ([cells a.cells] ++ [.v (.int .i64 a.count)])))
theorem coreF_eq (a : CoreT) : coreF a = [.v (.string a.kind), .v (.bool a.on), .v (.bool a.broken), cells a.cells, .v (.int .i64 a.count)] := rfl
theorem coreF_len (a : CoreT) : (coreF a).length = 5 := rfl
def cores (l : List CoreT) : Dat := .s l.length (l.flatMap coreF)
theorem cores_row {w : World} {B : Nat} {l : List CoreT} {u : Value} (h : Rd w B (cores l) u) : ∃ A cap, u = .slice A l.length cap ∧ l.length ≤ cap ∧ cap ≤ maxLen ∧ RowAt w B coreF 5 l A := h.row coreF_len (by omega)
theorem cores_cells {w : World} {B : Nat} {l : List CoreT} {A : Option Addr} (h : RowAt w B coreF 5 l A) (k : Nat) (hk : k < l.length) : ∃ b off u3, A = some ⟨b, off, none⟩ ∧ b < B ∧ w.cell? ⟨b, off + k * 5, none⟩ = some (.string (l[k].kind)) ∧ w.cell? ⟨b, off + k * 5 + 1, none⟩ = some (.bool (l[k].on)) ∧ w.cell? ⟨b, off + k * 5 + 2, none⟩ = some (.bool (l[k].broken)) ∧ w.cell? ⟨b, off + k * 5 + 3, none⟩ = some u3 ∧ w.cell? ⟨b, off + k * 5 + 4, none⟩ = some (.int .i64 (l[k].count)) ∧ Rd w B (cells (l[k].cells)) u3 := by
  obtain ⟨b, off, e, hb, hx⟩ := h k hk
  rw [coreF_eq] at hx
  obtain ⟨v0, e0, d0⟩ := hx 0 _ rfl
  obtain ⟨v1, e1, d1⟩ := hx 1 _ rfl
  obtain ⟨v2, e2, d2⟩ := hx 2 _ rfl
  obtain ⟨v3, e3, d3⟩ := hx 3 _ rfl
  obtain ⟨v4, e4, d4⟩ := hx 4 _ rfl
  rw [Rd] at d0 d1 d2 d4
  subst d0 d1 d2 d4
  exact ⟨b, off, v3, e, hb, by simpa using e0, e1, e2, e3, e4, d3⟩

def coreW (a : CoreT) : Nat := a.kind.size + cellsW a.cells
def coresW1 (l : List CoreT) : Nat := (l.map coreW).sum
def coresW (l : List CoreT) : Nat := l.length + coresW1 l
theorem coresW_mem {l : List CoreT} {a : CoreT} (h : a ∈ l) : coreW a ≤ coresW1 l := sum_mem coreW h
def coreN (a : CoreT) : Nat := 4 + cellsN a.cells
def coreM (a : CoreT) (k : Int) : CoreT := ⟨(mt (k)), ((k + 1) % 3 == 0), ((k + 1 + 1) % 3 == 0), (cellsM a.cells (k + 1 + 1 + 1)), (k + 1 + 1 + 1 + cellsN a.cells)⟩
def coresN (l : List CoreT) : Nat := (l.map coreN).sum
def coresM (l : List CoreT) (k : Int) : List CoreT := mapK coreM coreN l k
end Go.Proofs.YtgnggiibhkphjaaGreatDoor
