/- Cell: as plain data; the walks of its size, copy, equality, marks. Written by a program. / Layer: as plain data; the walks of its size, copy, equality, marks. Written by a program. / Core: as plain data; the walks of its size, copy, equality, marks. Written by a program. / Part: as plain data; the walks of its size, copy, equality, marks. Written by a program. / Slot: as plain data; the walks of its size, copy, equality, marks. Written by a program. -/
import Derived.Test.YtkgffhlpcjjobaaGreatDoorGround
import Derived.StillTailTactics
import Derived.Deep.RegionHeld3
namespace Go.Proofs.YtkgffhlpcjjobaaGreatDoor
open Go.RowKit

structure CellT where
  key : ByteArray
  value : Int
def cellF (a : CellT) : List Dat := [.v (.string a.key)] ++ [.v (.int .i64 a.value)]
theorem cellF_eq (a : CellT) : cellF a = [.v (.string a.key), .v (.int .i64 a.value)] := rfl
theorem cellF_len (a : CellT) : (cellF a).length = 2 := rfl
def cells (l : List CellT) : Dat := .s l.length (l.flatMap cellF)
theorem cells_row {w : World} {B : Nat} {l : List CellT} {u : Value} (h : Rd w B (cells l) u) : ∃ A cap, u = .slice A l.length cap ∧ l.length ≤ cap ∧ cap ≤ maxLen ∧ RowAt w B cellF 2 l A := h.row cellF_len (by omega)
theorem cells_cells {w : World} {B : Nat} {l : List CellT} {A : Option Addr} (h : RowAt w B cellF 2 l A) (k : Nat) (hk : k < l.length) : ∃ b off, A = some ⟨b, off, none⟩ ∧ b < B ∧ w.cell? ⟨b, off + k * 2, none⟩ = some (.string (l[k].key)) ∧ w.cell? ⟨b, off + k * 2 + 1, none⟩ = some (.int .i64 (l[k].value)) := by
  obtain ⟨b, off, e, hb, hx⟩ := h k hk
  rw [cellF_eq] at hx
  obtain ⟨v0, e0, d0⟩ := hx 0 _ rfl
  obtain ⟨v1, e1, d1⟩ := hx 1 _ rfl
  rw [Rd] at d0 d1
  subst d0 d1
  exact ⟨b, off, e, hb, by simpa using e0, e1⟩

def cellW (a : CellT) : Nat := a.key.size
def cellsW1 (l : List CellT) : Nat := (l.map cellW).sum
def cellsW (l : List CellT) : Nat := l.length + cellsW1 l
theorem cellsW_mem {l : List CellT} {a : CellT} (h : a ∈ l) : cellW a ≤ cellsW1 l := sum_mem cellW h
def cellN (_ : CellT) : Nat := 2
def cellM (_ : CellT) (k : Int) : CellT := ⟨(mt (k)), (k + 1)⟩
def cellsN (l : List CellT) : Nat := (l.map cellN).sum
def cellsM (l : List CellT) (k : Int) : List CellT := mapK cellM cellN l k
theorem cell_info : (Tryz.prog.info? 147).map (fun i => (i.zero, i.size, i.bytes)) = some (some (.agg #[.string ⟨#[]⟩, .int .i64 0]), 2, 24) := by kernel_rfl
end Go.Proofs.YtkgffhlpcjjobaaGreatDoor
namespace Go.Proofs.YtkgffhlpcjjobaaGreatDoor
open Go.RowKit

structure LayerT where
  name : ByteArray
  count : Int
def layerF (a : LayerT) : List Dat := [.v (.string a.name)] ++ [.v (.int .i64 a.count)]
theorem layerF_eq (a : LayerT) : layerF a = [.v (.string a.name), .v (.int .i64 a.count)] := rfl
theorem layerF_len (a : LayerT) : (layerF a).length = 2 := rfl
def layers (l : List LayerT) : Dat := .s l.length (l.flatMap layerF)
theorem layers_row {w : World} {B : Nat} {l : List LayerT} {u : Value} (h : Rd w B (layers l) u) : ∃ A cap, u = .slice A l.length cap ∧ l.length ≤ cap ∧ cap ≤ maxLen ∧ RowAt w B layerF 2 l A := h.row layerF_len (by omega)
theorem layers_cells {w : World} {B : Nat} {l : List LayerT} {A : Option Addr} (h : RowAt w B layerF 2 l A) (k : Nat) (hk : k < l.length) : ∃ b off, A = some ⟨b, off, none⟩ ∧ b < B ∧ w.cell? ⟨b, off + k * 2, none⟩ = some (.string (l[k].name)) ∧ w.cell? ⟨b, off + k * 2 + 1, none⟩ = some (.int .i64 (l[k].count)) := by
  obtain ⟨b, off, e, hb, hx⟩ := h k hk
  rw [layerF_eq] at hx
  obtain ⟨v0, e0, d0⟩ := hx 0 _ rfl
  obtain ⟨v1, e1, d1⟩ := hx 1 _ rfl
  rw [Rd] at d0 d1
  subst d0 d1
  exact ⟨b, off, e, hb, by simpa using e0, e1⟩

def layerW (a : LayerT) : Nat := a.name.size
def layersW1 (l : List LayerT) : Nat := (l.map layerW).sum
def layersW (l : List LayerT) : Nat := l.length + layersW1 l
theorem layersW_mem {l : List LayerT} {a : LayerT} (h : a ∈ l) : layerW a ≤ layersW1 l := sum_mem layerW h
def layerN (_ : LayerT) : Nat := 2
def layerM (_ : LayerT) (k : Int) : LayerT := ⟨(mt (k)), (k + 1)⟩
def layersN (l : List LayerT) : Nat := (l.map layerN).sum
def layersM (l : List LayerT) (k : Int) : List LayerT := mapK layerM layerN l k
theorem layer_info : (Tryz.prog.info? 90).map (fun i => (i.zero, i.size, i.bytes)) = some (some (.agg #[.string ⟨#[]⟩, .int .i64 0]), 2, 24) := by kernel_rfl
end Go.Proofs.YtkgffhlpcjjobaaGreatDoor
namespace Go.Proofs.YtkgffhlpcjjobaaGreatDoor
open Go.RowKit

structure CoreT where
  kind : ByteArray
  on : Bool
  broken : Bool
  cells : List CellT
  count : Int
def coreF (a : CoreT) : List Dat := [.v (.string a.kind)] ++ ([.v (.bool a.on)] ++ ([.v (.bool a.broken)] ++ ([cells a.cells] ++ [.v (.int .i64 a.count)])))
theorem coreF_eq (a : CoreT) : coreF a = [.v (.string a.kind), .v (.bool a.on), .v (.bool a.broken), cells a.cells, .v (.int .i64 a.count)] := rfl
theorem coreF_len (a : CoreT) : (coreF a).length = 5 := rfl
def cores (l : List CoreT) : Dat := .s l.length (l.flatMap coreF)
theorem cores_row {w : World} {B : Nat} {l : List CoreT} {u : Value} (h : Rd w B (cores l) u) : ∃ A cap, u = .slice A l.length cap ∧ l.length ≤ cap ∧ cap ≤ maxLen ∧ RowAt w B coreF 5 l A := h.row coreF_len (by omega)
theorem cores_cells {w : World} {B : Nat} {l : List CoreT} {A : Option Addr} (h : RowAt w B coreF 5 l A) (k : Nat) (hk : k < l.length) : ∃ b off u3, A = some ⟨b, off, none⟩ ∧ b < B ∧ w.cell? ⟨b, off + k * 5, none⟩ = some (.string (l[k].kind)) ∧ w.cell? ⟨b, off + k * 5 + 1, none⟩ = some (.bool (l[k].on)) ∧ w.cell? ⟨b, off + k * 5 + 2, none⟩ = some (.bool (l[k].broken)) ∧ w.cell? ⟨b, off + k * 5 + 3, none⟩ = some u3 ∧ w.cell? ⟨b, off + k * 5 + 4, none⟩ = some (.int .i64 (l[k].count)) ∧ Rd w B (cells (l[k].cells)) u3 := by
  obtain ⟨b, off, e, hb, hx⟩ := h k hk
  rw [coreF_eq] at hx
  obtain ⟨v0, e0, d0⟩ := hx 0 _ rfl
  obtain ⟨v1, e1, d1⟩ := hx 1 _ rfl
  obtain ⟨v2, e2, d2⟩ := hx 2 _ rfl
  obtain ⟨v3, e3, d3⟩ := hx 3 _ rfl
  obtain ⟨v4, e4, d4⟩ := hx 4 _ rfl
  rw [Rd] at d0 d1 d2 d4
  subst d0 d1 d2 d4
  exact ⟨b, off, v3, e, hb, by simpa using e0, e1, e2, e3, e4, d3⟩

def coreW (a : CoreT) : Nat := a.kind.size + cellsW a.cells
def coresW1 (l : List CoreT) : Nat := (l.map coreW).sum
def coresW (l : List CoreT) : Nat := l.length + coresW1 l
theorem coresW_mem {l : List CoreT} {a : CoreT} (h : a ∈ l) : coreW a ≤ coresW1 l := sum_mem coreW h
def coreN (a : CoreT) : Nat := 4 + cellsN a.cells
def coreM (a : CoreT) (k : Int) : CoreT := ⟨(mt (k)), ((k + 1) % 3 == 0), ((k + 1 + 1) % 3 == 0), (cellsM a.cells (k + 1 + 1 + 1)), (k + 1 + 1 + 1 + cellsN a.cells)⟩
def coresN (l : List CoreT) : Nat := (l.map coreN).sum
def coresM (l : List CoreT) (k : Int) : List CoreT := mapK coreM coreN l k
theorem core_info : (Tryz.prog.info? 52).map (fun i => (i.zero, i.size, i.bytes)) = some (some (.agg #[.string ⟨#[]⟩, .bool false, .bool false, .slice none 0 0, .int .i64 0]), 5, 56) := by kernel_rfl
end Go.Proofs.YtkgffhlpcjjobaaGreatDoor
namespace Go.Proofs.YtkgffhlpcjjobaaGreatDoor
open Go.RowKit

structure PartT where
  core : CoreT
  layers : List LayerT
def partF (a : PartT) : List Dat := coreF a.core ++ [layers a.layers]
theorem partF_eq (a : PartT) : partF a = [.v (.string a.core.kind), .v (.bool a.core.on), .v (.bool a.core.broken), cells a.core.cells, .v (.int .i64 a.core.count), layers a.layers] := rfl
theorem partF_len (a : PartT) : (partF a).length = 6 := rfl
def parts (l : List PartT) : Dat := .s l.length (l.flatMap partF)
theorem parts_row {w : World} {B : Nat} {l : List PartT} {u : Value} (h : Rd w B (parts l) u) : ∃ A cap, u = .slice A l.length cap ∧ l.length ≤ cap ∧ cap ≤ maxLen ∧ RowAt w B partF 6 l A := h.row partF_len (by omega)
theorem parts_cells {w : World} {B : Nat} {l : List PartT} {A : Option Addr} (h : RowAt w B partF 6 l A) (k : Nat) (hk : k < l.length) : ∃ b off u3 u5, A = some ⟨b, off, none⟩ ∧ b < B ∧ w.cell? ⟨b, off + k * 6, none⟩ = some (.string (l[k].core.kind)) ∧ w.cell? ⟨b, off + k * 6 + 1, none⟩ = some (.bool (l[k].core.on)) ∧ w.cell? ⟨b, off + k * 6 + 2, none⟩ = some (.bool (l[k].core.broken)) ∧ w.cell? ⟨b, off + k * 6 + 3, none⟩ = some u3 ∧ w.cell? ⟨b, off + k * 6 + 4, none⟩ = some (.int .i64 (l[k].core.count)) ∧ w.cell? ⟨b, off + k * 6 + 5, none⟩ = some u5 ∧ Rd w B (cells (l[k].core.cells)) u3 ∧ Rd w B (layers (l[k].layers)) u5 := by
  obtain ⟨b, off, e, hb, hx⟩ := h k hk
  rw [partF_eq] at hx
  obtain ⟨v0, e0, d0⟩ := hx 0 _ rfl
  obtain ⟨v1, e1, d1⟩ := hx 1 _ rfl
  obtain ⟨v2, e2, d2⟩ := hx 2 _ rfl
  obtain ⟨v3, e3, d3⟩ := hx 3 _ rfl
  obtain ⟨v4, e4, d4⟩ := hx 4 _ rfl
  obtain ⟨v5, e5, d5⟩ := hx 5 _ rfl
  rw [Rd] at d0 d1 d2 d4
  subst d0 d1 d2 d4
  exact ⟨b, off, v3, v5, e, hb, by simpa using e0, e1, e2, e3, e4, e5, d3, d5⟩

def partW (a : PartT) : Nat := coreW a.core + layersW a.layers
def partsW1 (l : List PartT) : Nat := (l.map partW).sum
def partsW (l : List PartT) : Nat := l.length + partsW1 l
theorem partsW_mem {l : List PartT} {a : PartT} (h : a ∈ l) : partW a ≤ partsW1 l := sum_mem partW h
def partN (a : PartT) : Nat := 4 + cellsN a.core.cells + layersN a.layers
def partM (a : PartT) (k : Int) : PartT := ⟨⟨(mt (k)), ((k + 1) % 3 == 0), ((k + 1 + 1) % 3 == 0), (cellsM a.core.cells (k + 1 + 1 + 1)), (k + 1 + 1 + 1 + cellsN a.core.cells)⟩, (layersM a.layers (k + 1 + 1 + 1 + cellsN a.core.cells + 1))⟩
def partsN (l : List PartT) : Nat := (l.map partN).sum
def partsM (l : List PartT) (k : Int) : List PartT := mapK partM partN l k
theorem part_info : (Tryz.prog.info? 55).map (fun i => (i.zero, i.size, i.bytes)) = some (some (.agg #[.string ⟨#[]⟩, .bool false, .bool false, .slice none 0 0, .int .i64 0, .slice none 0 0]), 6, 80) := by kernel_rfl
end Go.Proofs.YtkgffhlpcjjobaaGreatDoor
namespace Go.Proofs.YtkgffhlpcjjobaaGreatDoor
open Go.RowKit

structure SlotT where
  full : Bool
  part : PartT
def slotF (a : SlotT) : List Dat := [.v (.bool a.full)] ++ partF a.part
theorem slotF_eq (a : SlotT) : slotF a = [.v (.bool a.full), .v (.string a.part.core.kind), .v (.bool a.part.core.on), .v (.bool a.part.core.broken), cells a.part.core.cells, .v (.int .i64 a.part.core.count), layers a.part.layers] := rfl
theorem slotF_len (a : SlotT) : (slotF a).length = 7 := rfl
def slots (l : List SlotT) : Dat := .s l.length (l.flatMap slotF)
theorem slots_row {w : World} {B : Nat} {l : List SlotT} {u : Value} (h : Rd w B (slots l) u) : ∃ A cap, u = .slice A l.length cap ∧ l.length ≤ cap ∧ cap ≤ maxLen ∧ RowAt w B slotF 7 l A := h.row slotF_len (by omega)
theorem slots_cells {w : World} {B : Nat} {l : List SlotT} {A : Option Addr} (h : RowAt w B slotF 7 l A) (k : Nat) (hk : k < l.length) : ∃ b off u4 u6, A = some ⟨b, off, none⟩ ∧ b < B ∧ w.cell? ⟨b, off + k * 7, none⟩ = some (.bool (l[k].full)) ∧ w.cell? ⟨b, off + k * 7 + 1, none⟩ = some (.string (l[k].part.core.kind)) ∧ w.cell? ⟨b, off + k * 7 + 2, none⟩ = some (.bool (l[k].part.core.on)) ∧ w.cell? ⟨b, off + k * 7 + 3, none⟩ = some (.bool (l[k].part.core.broken)) ∧ w.cell? ⟨b, off + k * 7 + 4, none⟩ = some u4 ∧ w.cell? ⟨b, off + k * 7 + 5, none⟩ = some (.int .i64 (l[k].part.core.count)) ∧ w.cell? ⟨b, off + k * 7 + 6, none⟩ = some u6 ∧ Rd w B (cells (l[k].part.core.cells)) u4 ∧ Rd w B (layers (l[k].part.layers)) u6 := by
  obtain ⟨b, off, e, hb, hx⟩ := h k hk
  rw [slotF_eq] at hx
  obtain ⟨v0, e0, d0⟩ := hx 0 _ rfl
  obtain ⟨v1, e1, d1⟩ := hx 1 _ rfl
  obtain ⟨v2, e2, d2⟩ := hx 2 _ rfl
  obtain ⟨v3, e3, d3⟩ := hx 3 _ rfl
  obtain ⟨v4, e4, d4⟩ := hx 4 _ rfl
  obtain ⟨v5, e5, d5⟩ := hx 5 _ rfl
  obtain ⟨v6, e6, d6⟩ := hx 6 _ rfl
  rw [Rd] at d0 d1 d2 d3 d5
  subst d0 d1 d2 d3 d5
  exact ⟨b, off, v4, v6, e, hb, by simpa using e0, e1, e2, e3, e4, e5, e6, d4, d6⟩

def slotW (a : SlotT) : Nat := partW a.part
def slotsW1 (l : List SlotT) : Nat := (l.map slotW).sum
def slotsW (l : List SlotT) : Nat := l.length + slotsW1 l
theorem slotsW_mem {l : List SlotT} {a : SlotT} (h : a ∈ l) : slotW a ≤ slotsW1 l := sum_mem slotW h
def slotN (a : SlotT) : Nat := 5 + cellsN a.part.core.cells + layersN a.part.layers
def slotM (a : SlotT) (k : Int) : SlotT := ⟨((k) % 3 == 0), ⟨⟨(mt (k + 1)), ((k + 1 + 1) % 3 == 0), ((k + 1 + 1 + 1) % 3 == 0), (cellsM a.part.core.cells (k + 1 + 1 + 1 + 1)), (k + 1 + 1 + 1 + 1 + cellsN a.part.core.cells)⟩, (layersM a.part.layers (k + 1 + 1 + 1 + 1 + cellsN a.part.core.cells + 1))⟩⟩
def slotsN (l : List SlotT) : Nat := (l.map slotN).sum
def slotsM (l : List SlotT) (k : Int) : List SlotT := mapK slotM slotN l k
theorem slot_info : (Tryz.prog.info? 57).map (fun i => (i.zero, i.size, i.bytes)) = some (some (.agg #[.bool false, .string ⟨#[]⟩, .bool false, .bool false, .slice none 0 0, .int .i64 0, .slice none 0 0]), 7, 88) := by kernel_rfl
end Go.Proofs.YtkgffhlpcjjobaaGreatDoor
