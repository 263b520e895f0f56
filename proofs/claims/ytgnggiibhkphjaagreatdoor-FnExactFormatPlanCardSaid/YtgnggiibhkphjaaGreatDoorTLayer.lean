/- Layer: as plain data; the walks of its size, copy, equality, marks. Written by a program. -/
import Derived.Test.YtgnggiibhkphjaaGreatDoorStrs
import Derived.Test.YtgnggiibhkphjaaGreatDoorText
import Derived.Test.YtgnggiibhkphjaaGreatDoorOpen
import Derived.StillTailTactics
import Derived.Deep.RegionHeld3
namespace Go.Proofs.YtgnggiibhkphjaaGreatDoor
open Go.RowKit

structure LayerT where
  name : ByteArray
  count : Int
def layerF (a : LayerT) : List Dat := [.v (.string a.name)] ++ [.v (.int .i64 a.count)]
theorem layerF_eq (a : LayerT) : layerF a = [.v (.string a.name), .v (.int .i64 a.count)] := rfl
theorem layerF_len (a : LayerT) : (layerF a).length = 2 := rfl
def layers (l : List LayerT) : Dat := .s l.length (l.flatMap layerF)
theorem layers_row {w : World} {B : Nat} {l : List LayerT} {u : Value} (h : Rd w B (layers l) u) : ∃ A cap, u = .slice A l.length cap ∧ l.length ≤ cap ∧ cap ≤ maxLen ∧ RowAt w B layerF 2 l A := h.row layerF_len (by omega)
theorem layers_cells {w : World} {B : Nat} {l : List LayerT} {A : Option Addr} (h : RowAt w B layerF 2 l A) (k : Nat) (hk : k < l.length) : ∃ b off, A = some ⟨b, off, none⟩ ∧ b < B ∧ w.cell? ⟨b, off + k * 2, none⟩ = some (.string (l[k].name)) ∧ w.cell? ⟨b, off + k * 2 + 1, none⟩ = some (.int .i64 (l[k].count)) := by
  obtain ⟨b, off, e, hb, hx⟩ := h k hk
  rw [layerF_eq] at hx
  obtain ⟨v0, e0, d0⟩ := hx 0 _ rfl
  obtain ⟨v1, e1, d1⟩ := hx 1 _ rfl
  rw [Rd] at d0 d1
  subst d0 d1
  exact ⟨b, off, e, hb, by simpa using e0, e1⟩

def layerW (a : LayerT) : Nat := a.name.size
def layersW1 (l : List LayerT) : Nat := (l.map layerW).sum
def layersW (l : List LayerT) : Nat := l.length + layersW1 l
theorem layersW_mem {l : List LayerT} {a : LayerT} (h : a ∈ l) : layerW a ≤ layersW1 l := sum_mem layerW h
def layerN (_ : LayerT) : Nat := 2
def layerM (_ : LayerT) (k : Int) : LayerT := ⟨(mt (k)), (k + 1)⟩
def layersN (l : List LayerT) : Nat := (l.map layerN).sum
def layersM (l : List LayerT) (k : Int) : List LayerT := mapK layerM layerN l k
end Go.Proofs.YtgnggiibhkphjaaGreatDoor
