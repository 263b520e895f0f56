/- Slot: as plain data; the walks of its size, copy, equality, marks. Written by a program. -/
import Derived.Test.YtgnggiibhkphjaaGreatDoorStrs
import Derived.Test.YtgnggiibhkphjaaGreatDoorText
import Derived.Test.YtgnggiibhkphjaaGreatDoorOpen
import Derived.StillTailTactics
import Derived.Deep.RegionHeld3
import Derived.Test.YtgnggiibhkphjaaGreatDoorTPart
namespace Go.Proofs.YtgnggiibhkphjaaGreatDoor
open Go.RowKit

structure SlotT where
  full : Bool
  part : PartT
def slotF (a : SlotT) : List Dat := [.v (.bool a.full)] ++ partF a.part
theorem slotF_eq (a : SlotT) : slotF a = [.v (.bool a.full), .v (.string a.part.core.kind), .v (.bool a.part.core.on), .v (.bool a.part.core.broken), cells a.part.core.cells, .v (.int .i64 a.part.core.count), layers a.part.layers] := rfl
theorem slotF_len (a : SlotT) : (slotF a).length = 7 := rfl
def slots (l : List SlotT) : Dat := .s l.length (l.flatMap slotF)
theorem slots_row {w : World} {B : Nat} {l : List SlotT} {u : Value} (h : Rd w B (slots l) u) : ∃ A cap, u = .slice A l.length cap ∧ l.length ≤ cap ∧ cap ≤ maxLen ∧ RowAt w B slotF 7 l A := h.row slotF_len (by omega)
theorem slots_cells {w : World} {B : Nat} {l : List SlotT} {A : Option Addr} (h : RowAt w B slotF 7 l A) (k : Nat) (hk : k < l.length) : ∃ b off u4 u6, A = some ⟨b, off, none⟩ ∧ b < B ∧ w.cell? ⟨b, off + k * 7, none⟩ = some (.bool (l[k].full)) ∧ w.cell? ⟨b, off + k * 7 + 1, none⟩ = some (.string (l[k].part.core.kind)) ∧ w.cell? ⟨b, off + k * 7 + 2, none⟩ = some (.bool (l[k].part.core.on)) ∧ w.cell? ⟨b, off + k * 7 + 3, none⟩ = some (.bool (l[k].part.core.broken)) ∧ w.cell? ⟨b, off + k * 7 + 4, none⟩ = some u4 ∧ w.cell? ⟨b, off + k * 7 + 5, none⟩ = some (.int .i64 (l[k].part.core.count)) ∧ w.cell? ⟨b, off + k * 7 + 6, none⟩ = some u6 ∧ Rd w B (cells (l[k].part.core.cells)) u4 ∧ Rd w B (layers (l[k].part.layers)) u6 := by
  obtain ⟨b, off, e, hb, hx⟩ := h k hk
  rw [slotF_eq] at hx
  obtain ⟨v0, e0, d0⟩ := hx 0 _ rfl
  obtain ⟨v1, e1, d1⟩ := hx 1 _ rfl
  obtain ⟨v2, e2, d2⟩ := hx 2 _ rfl
  obtain ⟨v3, e3, d3⟩ := hx 3 _ rfl
  obtain ⟨v4, e4, d4⟩ := hx 4 _ rfl
  obtain ⟨v5, e5, d5⟩ := hx 5 _ rfl
  obtain ⟨v6, e6, d6⟩ := hx 6 _ rfl
  rw [Rd] at d0 d1 d2 d3 d5
  subst d0 d1 d2 d3 d5
  exact ⟨b, off, v4, v6, e, hb, by simpa using e0, e1, e2, e3, e4, e5, e6, d4, d6⟩

def slotW (a : SlotT) : Nat := partW a.part
def slotsW1 (l : List SlotT) : Nat := (l.map slotW).sum
def slotsW (l : List SlotT) : Nat := l.length + slotsW1 l
theorem slotsW_mem {l : List SlotT} {a : SlotT} (h : a ∈ l) : slotW a ≤ slotsW1 l := sum_mem slotW h
def slotN (a : SlotT) : Nat := 5 + cellsN a.part.core.cells + layersN a.part.layers
def slotM (a : SlotT) (k : Int) : SlotT := ⟨((k) % 3 == 0), ⟨⟨(mt (k + 1)), ((k + 1 + 1) % 3 == 0), ((k + 1 + 1 + 1) % 3 == 0), (cellsM a.part.core.cells (k + 1 + 1 + 1 + 1)), (k + 1 + 1 + 1 + 1 + cellsN a.part.core.cells)⟩, (layersM a.part.layers (k + 1 + 1 + 1 + 1 + cellsN a.part.core.cells + 1))⟩⟩
def slotsN (l : List SlotT) : Nat := (l.map slotN).sum
def slotsM (l : List SlotT) (k : Int) : List SlotT := mapK slotM slotN l k
end Go.Proofs.YtgnggiibhkphjaaGreatDoor
