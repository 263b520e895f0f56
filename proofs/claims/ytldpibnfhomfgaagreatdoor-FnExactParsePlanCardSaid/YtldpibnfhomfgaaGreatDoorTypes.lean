/- Cell: as plain data; the walks of its size, copy, equality, marks. Written by a program. / Layer: as plain data; the walks of its size, copy, equality, marks. Written by a program. / Core: as plain data; the walks of its size, copy, equality, marks. Written by a program. / Part: as plain data; the walks of its size, copy, equality, marks. Written by a program. / Slot: as plain data; the walks of its size, copy, equality, marks. Written by a program. -/
import Derived.Test.YtldpibnfhomfgaaGreatDoorGround
import Derived.StillTailTactics
import Derived.Deep.RegionHeld3
namespace Go.Proofs.YtldpibnfhomfgaaGreatDoor
open Go.RowKit

structure CellT where
  key : ByteArray
  value : Int
def cellF (a : CellT) : List Dat := [.v (.string a.key)] ++ [.v (.int .i64 a.value)]
theorem cellF_eq (a : CellT) : cellF a = [.v (.string a.key), .v (.int .i64 a.value)] := rfl
theorem cellF_len (a : CellT) : (cellF a).length = 2 := rfl
def cells (l : List CellT) : Dat := .s l.length (l.flatMap cellF)
theorem cells_row {w : World} {B : Nat} {l : List CellT} {u : Value} (h : Rd w B (cells l) u) : ∃ A cap, u = .slice A l.length cap ∧ l.length ≤ cap ∧ cap ≤ maxLen ∧ RowAt w B cellF 2 l A := h.row cellF_len (by omega)
theorem cells_cells {w : World} {B : Nat} {l : List CellT} {A : Option Addr} (h : RowAt w B cellF 2 l A) (k : Nat) (hk : k < l.length) : ∃ b off, A = some ⟨b, off, none⟩ ∧ b < B ∧ w.cell? ⟨b, off + k * 2, none⟩ = some (.string (l[k].key)) ∧ w.cell? ⟨b, off + k * 2 + 1, none⟩ = some (.int .i64 (l[k].value)) := by
  obtain ⟨b, off, e, hb, hx⟩ := h k hk
  rw [cellF_eq] at hx
  obtain ⟨v0, e0, d0⟩ := hx 0 _ rfl
  obtain ⟨v1, e1, d1⟩ := hx 1 _ rfl
  rw [Rd] at d0 d1
  subst d0 d1
  exact ⟨b, off, e, hb, by simpa using e0, e1⟩

end Go.Proofs.YtldpibnfhomfgaaGreatDoor
namespace Go.Proofs.YtldpibnfhomfgaaGreatDoor
open Go.RowKit

structure LayerT where
  name : ByteArray
  count : Int
def layerF (a : LayerT) : List Dat := [.v (.string a.name)] ++ [.v (.int .i64 a.count)]
def layers (l : List LayerT) : Dat := .s l.length (l.flatMap layerF)
end Go.Proofs.YtldpibnfhomfgaaGreatDoor
namespace Go.Proofs.YtldpibnfhomfgaaGreatDoor
open Go.RowKit

structure CoreT where
  kind : ByteArray
  on : Bool
  broken : Bool
  cells : List CellT
  count : Int
end Go.Proofs.YtldpibnfhomfgaaGreatDoor
namespace Go.Proofs.YtldpibnfhomfgaaGreatDoor
open Go.RowKit

structure PartT where
  core : CoreT
  layers : List LayerT
end Go.Proofs.YtldpibnfhomfgaaGreatDoor
namespace Go.Proofs.YtldpibnfhomfgaaGreatDoor
open Go.RowKit

structure SlotT where
  full : Bool
  part : PartT
end Go.Proofs.YtldpibnfhomfgaaGreatDoor
