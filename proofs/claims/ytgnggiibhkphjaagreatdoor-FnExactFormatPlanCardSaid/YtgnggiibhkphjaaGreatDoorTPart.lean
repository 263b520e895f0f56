/- Part: as plain data; the walks of its size, copy, equality, marks. Written by a program. -/
import Derived.Test.YtgnggiibhkphjaaGreatDoorStrs
import Derived.Test.YtgnggiibhkphjaaGreatDoorText
import Derived.Test.YtgnggiibhkphjaaGreatDoorOpen
import Derived.StillTailTactics
import Derived.Deep.RegionHeld3
import Derived.Test.YtgnggiibhkphjaaGreatDoorTCore
import Derived.Test.YtgnggiibhkphjaaGreatDoorTLayer
namespace Go.Proofs.YtgnggiibhkphjaaGreatDoor
open Go.RowKit

structure PartT where
  core : CoreT
  layers : List LayerT
def partF (a : PartT) : List Dat := coreF a.core ++ [layers a.layers]
theorem partF_eq (a : PartT) : partF a = [.v (.string a.core.kind), .v (.bool a.core.on), .v (.bool a.core.broken), cells a.core.cells, .v (.int .i64 a.core.count), layers a.layers] := rfl
theorem partF_len (a : PartT) : (partF a).length = 6 := rfl
def parts (l : List PartT) : Dat := .s l.length (l.flatMap partF)
theorem parts_row {w : World} {B : Nat} {l : List PartT} {u : Value} (h : Rd w B (parts l) u) : ∃ A cap, u = .slice A l.length cap ∧ l.length ≤ cap ∧ cap ≤ maxLen ∧ RowAt w B partF 6 l A := h.row partF_len (by omega)
theorem parts_cells {w : World} {B : Nat} {l : List PartT} {A : Option Addr} (h : RowAt w B partF 6 l A) (k : Nat) (hk : k < l.length) : ∃ b off u3 u5, A = some ⟨b, off, none⟩ ∧ b < B ∧ w.cell? ⟨b, off + k * 6, none⟩ = some (.string (l[k].core.kind)) ∧ w.cell? ⟨b, off + k * 6 + 1, none⟩ = some (.bool (l[k].core.on)) ∧ w.cell? ⟨b, off + k * 6 + 2, none⟩ = some (.bool (l[k].core.broken)) ∧ w.cell? ⟨b, off + k * 6 + 3, none⟩ = some u3 ∧ w.cell? ⟨b, off + k * 6 + 4, none⟩ = some (.int .i64 (l[k].core.count)) ∧ w.cell? ⟨b, off + k * 6 + 5, none⟩ = some u5 ∧ Rd w B (cells (l[k].core.cells)) u3 ∧ Rd w B (layers (l[k].layers)) u5 := by
  obtain ⟨b, off, e, hb, hx⟩ := h k hk
  rw [partF_eq] at hx
  obtain ⟨v0, e0, d0⟩ := hx 0 _ rfl
  obtain ⟨v1, e1, d1⟩ := hx 1 _ rfl
  obtain ⟨v2, e2, d2⟩ := hx 2 _ rfl
  obtain ⟨v3, e3, d3⟩ := hx 3 _ rfl
  obtain ⟨v4, e4, d4⟩ := hx 4 _ rfl
  obtain ⟨v5, e5, d5⟩ := hx 5 _ rfl
  rw [Rd] at d0 d1 d2 d4
  subst d0 d1 d2 d4
  exact ⟨b, off, v3, v5, e, hb, by simpa using e0, e1, e2, e3, e4, e5, d3, d5⟩

def partW (a : PartT) : Nat := coreW a.core + layersW a.layers
def partsW1 (l : List PartT) : Nat := (l.map partW).sum
def partsW (l : List PartT) : Nat := l.length + partsW1 l
theorem partsW_mem {l : List PartT} {a : PartT} (h : a ∈ l) : partW a ≤ partsW1 l := sum_mem partW h
def partN (a : PartT) : Nat := 4 + cellsN a.core.cells + layersN a.layers
def partM (a : PartT) (k : Int) : PartT := ⟨⟨(mt (k)), ((k + 1) % 3 == 0), ((k + 1 + 1) % 3 == 0), (cellsM a.core.cells (k + 1 + 1 + 1)), (k + 1 + 1 + 1 + cellsN a.core.cells)⟩, (layersM a.layers (k + 1 + 1 + 1 + cellsN a.core.cells + 1))⟩
def partsN (l : List PartT) : Nat := (l.map partN).sum
def partsM (l : List PartT) (k : Int) : List PartT := mapK partM partN l k
end Go.Proofs.YtgnggiibhkphjaaGreatDoor
