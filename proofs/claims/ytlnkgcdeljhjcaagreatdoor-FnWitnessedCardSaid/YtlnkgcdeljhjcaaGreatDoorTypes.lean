/- Cell. Conditions: as stated. -/
import Derived.Test.YtlnkgcdeljhjcaaGreatDoorGround
import Derived.Deep.RegionHeld3
set_option maxRecDepth 100000
set_option maxHeartbeats 2000000
namespace Go.Proofs.YtlnkgcdeljhjcaaGreatDoor
open Go.RowKit

structure QD where
 key:ByteArray
 value:Int
def WU (a:QD):List QK:=[.v (.string a.key)] ++ [.v (.int .i64 a.value)]
theorem wJ (a:QD):WU a=[.v (.string a.key),.v (.int .i64 a.value)]:=rfl
theorem qY (a:QD):(WU a).length=2:=rfl
def cells (l:List QD):QK:=.s l.length (l.flatMap WU)
theorem Za {w:World} {B:Nat} {l:List QD} {u:Value} (h:Rd w B (cells l) u):∃A cap,u= .slice A l.length cap/\l.length<=cap/\cap<=maxLen/\Wd w B WU 2 l A:=h.row qY (by omega)
theorem Xr {w:World} {B:Nat} {l:List QD} {A:Option Addr} (h:Wd w B WU 2 l A) (k:Nat) (hk:k<l.length):∃b off,A=some ⟨b,off,none⟩/\b<B/\w.cell? ⟨b,off+k * 2,none⟩=some (.string (l[k].key))/\w.cell? ⟨b,off+k * 2+1,none⟩=some (.int .i64 (l[k].value)):=by
 obtain⟨b,off,e,hb,hx⟩:=h k hk
 rw [wJ] at hx
 obtain⟨v0,e0,d0⟩:=hx 0 _ rfl
 obtain⟨v1,e1,d1⟩:=hx 1 _ rfl
 rw [Rd] at d0 d1
 subst d0 d1
 exact⟨b,off,e,hb,by simpa using e0,e1⟩

def QfK (a:QD):Nat:=a.key.size
def QdA (l:List QD):Nat:=(l.map QfK).sum
def Qfl (l:List QD):Nat:=l.length+QdA l
theorem Ze:(Tryz.prog.info? 189).map (fun i=>(i.zero,i.size,i.bytes))=some (some (.agg #[.string ⟨#[]⟩,.int .i64 0]),2,24):=by kernel_rfl
structure ZW where
 name:ByteArray
 count:Int
def GD (a:ZW):List QK:=[.v (.string a.name)] ++ [.v (.int .i64 a.count)]
theorem uK (a:ZW):GD a=[.v (.string a.name),.v (.int .i64 a.count)]:=rfl
theorem Gv (a:ZW):(GD a).length=2:=rfl
def layers (l:List ZW):QK:=.s l.length (l.flatMap GD)
theorem Xa {w:World} {B:Nat} {l:List ZW} {u:Value} (h:Rd w B (layers l) u):∃A cap,u= .slice A l.length cap/\l.length<=cap/\cap<=maxLen/\Wd w B GD 2 l A:=h.row Gv (by omega)
theorem YR {w:World} {B:Nat} {l:List ZW} {A:Option Addr} (h:Wd w B GD 2 l A) (k:Nat) (hk:k<l.length):∃b off,A=some ⟨b,off,none⟩/\b<B/\w.cell? ⟨b,off+k * 2,none⟩=some (.string (l[k].name))/\w.cell? ⟨b,off+k * 2+1,none⟩=some (.int .i64 (l[k].count)):=by
 obtain⟨b,off,e,hb,hx⟩:=h k hk
 rw [uK] at hx
 obtain⟨v0,e0,d0⟩:=hx 0 _ rfl
 obtain⟨v1,e1,d1⟩:=hx 1 _ rfl
 rw [Rd] at d0 d1
 subst d0 d1
 exact⟨b,off,e,hb,by simpa using e0,e1⟩

def kF (a:ZW):Nat:=a.name.size
def xE (l:List ZW):Nat:=(l.map kF).sum
def yK (l:List ZW):Nat:=l.length+xE l
theorem xA:(Tryz.prog.info? 129).map (fun i=>(i.zero,i.size,i.bytes))=some (some (.agg #[.string ⟨#[]⟩,.int .i64 0]),2,24):=by kernel_rfl
structure ZR where
 kind:ByteArray
 on:Bool
 broken:Bool
 cells:List QD
 count:Int
def QgY (a:ZR):List QK:=[.v (.string a.kind)] ++([.v (.bool a.on)] ++([.v (.bool a.broken)] ++([cells a.cells] ++ [.v (.int .i64 a.count)])))
def Qh1 (l:List ZR):QK:=.s l.length (l.flatMap QgY)
def Qfw (a:ZR):Nat:=a.kind.size+Qfl a.cells
structure Qh where
 core:ZR
 layers:List ZW
def Wm (a:Qh):List QK:=QgY a.core++ [layers a.layers]
theorem Jp (a:Qh):Wm a=[.v (.string a.core.kind),.v (.bool a.core.on),.v (.bool a.core.broken),cells a.core.cells,.v (.int .i64 a.core.count),layers a.layers]:=rfl
theorem zl (a:Qh):(Wm a).length=6:=rfl
def parts (l:List Qh):QK:=.s l.length (l.flatMap Wm)
def xo (a:Qh):Nat:=Qfw a.core+yK a.layers
structure Qm where
 full:Bool
 part:Qh
def Zo (a:Qm):List QK:=[.v (.bool a.full)] ++Wm a.part
theorem Qe9 (a:Qm):Zo a=[.v (.bool a.full),.v (.string a.part.core.kind),.v (.bool a.part.core.on),.v (.bool a.part.core.broken),cells a.part.core.cells,.v (.int .i64 a.part.core.count),layers a.part.layers]:=rfl
theorem Ug (a:Qm):(Zo a).length=7:=rfl
def slots (l:List Qm):QK:=.s l.length (l.flatMap Zo)
theorem Ki {w:World} {B:Nat} {l:List Qm} {u:Value} (h:Rd w B (slots l) u):∃A cap,u= .slice A l.length cap/\l.length<=cap/\cap<=maxLen/\Wd w B Zo 7 l A:=h.row Ug (by omega)
theorem UR {w:World} {B:Nat} {l:List Qm} {A:Option Addr} (h:Wd w B Zo 7 l A) (k:Nat) (hk:k<l.length):∃b off u4 u6,A=some ⟨b,off,none⟩/\b<B/\w.cell? ⟨b,off+k * 7,none⟩=some (.bool (l[k].full))/\w.cell? ⟨b,off+k * 7+1,none⟩=some (.string (l[k].part.core.kind))/\w.cell? ⟨b,off+k * 7+2,none⟩=some (.bool (l[k].part.core.on))/\w.cell? ⟨b,off+k * 7+3,none⟩=some (.bool (l[k].part.core.broken))/\w.cell? ⟨b,off+k * 7+4,none⟩=some u4/\w.cell? ⟨b,off+k * 7+5,none⟩=some (.int .i64 (l[k].part.core.count))/\w.cell? ⟨b,off+k * 7+6,none⟩=some u6/\Rd w B (cells (l[k].part.core.cells)) u4/\Rd w B (layers (l[k].part.layers)) u6:=by
 obtain⟨b,off,e,hb,hx⟩:=h k hk
 rw [Qe9] at hx
 obtain⟨v0,e0,d0⟩:=hx 0 _ rfl
 obtain⟨v1,e1,d1⟩:=hx 1 _ rfl
 obtain⟨v2,e2,d2⟩:=hx 2 _ rfl
 obtain⟨v3,e3,d3⟩:=hx 3 _ rfl
 obtain⟨v4,e4,d4⟩:=hx 4 _ rfl
 obtain⟨v5,e5,d5⟩:=hx 5 _ rfl
 obtain⟨v6,e6,d6⟩:=hx 6 _ rfl
 rw [Rd] at d0 d1 d2 d3 d5
 subst d0 d1 d2 d3 d5
 exact⟨b,off,v4,v6,e,hb,by simpa using e0,e1,e2,e3,e4,e5,e6,d4,d6⟩

def Qap (a:Qm):Nat:=xo a.part
def yV (l:List Qm):Nat:=(l.map Qap).sum
def zr (l:List Qm):Nat:=l.length+yV l
theorem Qcj {l:List Qm} {a:Qm} (h:a∈l):Qap a<=yV l:=qA Qap h
theorem J2:(Tryz.prog.info? 99).map (fun i=>(i.zero,i.size,i.bytes))=some (some (.agg #[.bool false,.string ⟨#[]⟩,.bool false,.bool false,.slice none 0 0,.int .i64 0,.slice none 0 0]),7,88):=by kernel_rfl
end Go.Proofs.YtlnkgcdeljhjcaaGreatDoor
