/- Cell: as plain data; the walks of its size, copy, equality, marks. Written by a program. / Layer: as plain data; the walks of its size, copy, equality, marks. Written by a program. / Core: as plain data; the walks of its size, copy, equality, marks. Written by a program. / Part: as plain data; the walks of its size, copy, equality, marks. Written by a program. / Slot: as plain data; the walks of its size, copy, equality, marks. Written by a program. -/
import Derived.Test.YtdlkbomojjmnlaaGreatDoorGround
import Derived.StillTailTactics
import Derived.Deep.RegionHeld3
set_option maxRecDepth 100000
set_option maxHeartbeats 2000000
namespace Go.Proofs.YtdlkbomojjmnlaaGreatDoor
open Go.RowKit

structure CellT where
 key:ByteArray
 value:Int
def cellF (a:CellT):List Dat:=[.v (.string a.key)] ++ [.v (.int .i64 a.value)]
theorem cellF_eq (a:CellT):cellF a=[.v (.string a.key),.v (.int .i64 a.value)]:=rfl
theorem cellF_len (a:CellT):(cellF a).length=2:=rfl
def cells (l:List CellT):Dat:=.s l.length (l.flatMap cellF)
theorem cells_row {w:World} {B:Nat} {l:List CellT} {u:Value} (h:Rd w B (cells l) u):∃A cap,u= .slice A l.length cap/\l.length<=cap/\cap<=maxLen/\RowAt w B cellF 2 l A:=h.row cellF_len (by omega)
theorem cells_cells {w:World} {B:Nat} {l:List CellT} {A:Option Addr} (h:RowAt w B cellF 2 l A) (k:Nat) (hk:k<l.length):∃b off,A=some ⟨b,off,none⟩/\b<B/\w.cell? ⟨b,off+k * 2,none⟩=some (.string (l[k].key))/\w.cell? ⟨b,off+k * 2+1,none⟩=some (.int .i64 (l[k].value)):=by
 obtain⟨b,off,e,hb,hx⟩:=h k hk
 rw [cellF_eq] at hx
 obtain⟨v0,e0,d0⟩:=hx 0 _ rfl
 obtain⟨v1,e1,d1⟩:=hx 1 _ rfl
 rw [Rd] at d0 d1
 subst d0 d1
 exact⟨b,off,e,hb,by simpa using e0,e1⟩

def cellW (a:CellT):Nat:=a.key.size
def cellsW1 (l:List CellT):Nat:=(l.map cellW).sum
def cellsW (l:List CellT):Nat:=l.length+cellsW1 l
theorem cell_info:(Tryz.prog.info? 188).map (fun i=>(i.zero,i.size,i.bytes))=some (some (.agg #[.string ⟨#[]⟩,.int .i64 0]),2,24):=by kernel_rfl
structure LayerT where
 name:ByteArray
 count:Int
def layerF (a:LayerT):List Dat:=[.v (.string a.name)] ++ [.v (.int .i64 a.count)]
theorem layerF_eq (a:LayerT):layerF a=[.v (.string a.name),.v (.int .i64 a.count)]:=rfl
theorem layerF_len (a:LayerT):(layerF a).length=2:=rfl
def layers (l:List LayerT):Dat:=.s l.length (l.flatMap layerF)
theorem layers_row {w:World} {B:Nat} {l:List LayerT} {u:Value} (h:Rd w B (layers l) u):∃A cap,u= .slice A l.length cap/\l.length<=cap/\cap<=maxLen/\RowAt w B layerF 2 l A:=h.row layerF_len (by omega)
theorem layers_cells {w:World} {B:Nat} {l:List LayerT} {A:Option Addr} (h:RowAt w B layerF 2 l A) (k:Nat) (hk:k<l.length):∃b off,A=some ⟨b,off,none⟩/\b<B/\w.cell? ⟨b,off+k * 2,none⟩=some (.string (l[k].name))/\w.cell? ⟨b,off+k * 2+1,none⟩=some (.int .i64 (l[k].count)):=by
 obtain⟨b,off,e,hb,hx⟩:=h k hk
 rw [layerF_eq] at hx
 obtain⟨v0,e0,d0⟩:=hx 0 _ rfl
 obtain⟨v1,e1,d1⟩:=hx 1 _ rfl
 rw [Rd] at d0 d1
 subst d0 d1
 exact⟨b,off,e,hb,by simpa using e0,e1⟩

def layerW (a:LayerT):Nat:=a.name.size
def layersW1 (l:List LayerT):Nat:=(l.map layerW).sum
def layersW (l:List LayerT):Nat:=l.length+layersW1 l
theorem layer_info:(Tryz.prog.info? 91).map (fun i=>(i.zero,i.size,i.bytes))=some (some (.agg #[.string ⟨#[]⟩,.int .i64 0]),2,24):=by kernel_rfl
structure CoreT where
 kind:ByteArray
 on:Bool
 broken:Bool
 cells:List CellT
 count:Int
def coreF (a:CoreT):List Dat:=[.v (.string a.kind)] ++([.v (.bool a.on)] ++([.v (.bool a.broken)] ++([cells a.cells] ++ [.v (.int .i64 a.count)])))
def cores (l:List CoreT):Dat:=.s l.length (l.flatMap coreF)
def coreW (a:CoreT):Nat:=a.kind.size+cellsW a.cells
structure PartT where
 core:CoreT
 layers:List LayerT
def partF (a:PartT):List Dat:=coreF a.core++ [layers a.layers]
theorem partF_eq (a:PartT):partF a=[.v (.string a.core.kind),.v (.bool a.core.on),.v (.bool a.core.broken),cells a.core.cells,.v (.int .i64 a.core.count),layers a.layers]:=rfl
theorem partF_len (a:PartT):(partF a).length=6:=rfl
def parts (l:List PartT):Dat:=.s l.length (l.flatMap partF)
def partW (a:PartT):Nat:=coreW a.core+layersW a.layers
structure SlotT where
 full:Bool
 part:PartT
def slotF (a:SlotT):List Dat:=[.v (.bool a.full)] ++partF a.part
theorem slotF_eq (a:SlotT):slotF a=[.v (.bool a.full),.v (.string a.part.core.kind),.v (.bool a.part.core.on),.v (.bool a.part.core.broken),cells a.part.core.cells,.v (.int .i64 a.part.core.count),layers a.part.layers]:=rfl
theorem slotF_len (a:SlotT):(slotF a).length=7:=rfl
def slots (l:List SlotT):Dat:=.s l.length (l.flatMap slotF)
theorem slots_row {w:World} {B:Nat} {l:List SlotT} {u:Value} (h:Rd w B (slots l) u):∃A cap,u= .slice A l.length cap/\l.length<=cap/\cap<=maxLen/\RowAt w B slotF 7 l A:=h.row slotF_len (by omega)
theorem slots_cells {w:World} {B:Nat} {l:List SlotT} {A:Option Addr} (h:RowAt w B slotF 7 l A) (k:Nat) (hk:k<l.length):∃b off u4 u6,A=some ⟨b,off,none⟩/\b<B/\w.cell? ⟨b,off+k * 7,none⟩=some (.bool (l[k].full))/\w.cell? ⟨b,off+k * 7+1,none⟩=some (.string (l[k].part.core.kind))/\w.cell? ⟨b,off+k * 7+2,none⟩=some (.bool (l[k].part.core.on))/\w.cell? ⟨b,off+k * 7+3,none⟩=some (.bool (l[k].part.core.broken))/\w.cell? ⟨b,off+k * 7+4,none⟩=some u4/\w.cell? ⟨b,off+k * 7+5,none⟩=some (.int .i64 (l[k].part.core.count))/\w.cell? ⟨b,off+k * 7+6,none⟩=some u6/\Rd w B (cells (l[k].part.core.cells)) u4/\Rd w B (layers (l[k].part.layers)) u6:=by
 obtain⟨b,off,e,hb,hx⟩:=h k hk
 rw [slotF_eq] at hx
 obtain⟨v0,e0,d0⟩:=hx 0 _ rfl
 obtain⟨v1,e1,d1⟩:=hx 1 _ rfl
 obtain⟨v2,e2,d2⟩:=hx 2 _ rfl
 obtain⟨v3,e3,d3⟩:=hx 3 _ rfl
 obtain⟨v4,e4,d4⟩:=hx 4 _ rfl
 obtain⟨v5,e5,d5⟩:=hx 5 _ rfl
 obtain⟨v6,e6,d6⟩:=hx 6 _ rfl
 rw [Rd] at d0 d1 d2 d3 d5
 subst d0 d1 d2 d3 d5
 exact⟨b,off,v4,v6,e,hb,by simpa using e0,e1,e2,e3,e4,e5,e6,d4,d6⟩

def slotW (a:SlotT):Nat:=partW a.part
def slotsW1 (l:List SlotT):Nat:=(l.map slotW).sum
def slotsW (l:List SlotT):Nat:=l.length+slotsW1 l
theorem slotsW_mem {l:List SlotT} {a:SlotT} (h:a∈l):slotW a<=slotsW1 l:=sum_mem slotW h
theorem slot_info:(Tryz.prog.info? 52).map (fun i=>(i.zero,i.size,i.bytes))=some (some (.agg #[.bool false,.string ⟨#[]⟩,.bool false,.bool false,.slice none 0 0,.int .i64 0,.slice none 0 0]),7,88):=by kernel_rfl
end Go.Proofs.YtdlkbomojjmnlaaGreatDoor
