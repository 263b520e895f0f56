/- Cell. Conditions: as stated. -/
import Derived.Test.YtfjhdnjlhjimeaaGreatDoorGround
import Derived.Deep.RegionHeld3
set_option maxRecDepth 100000
set_option maxHeartbeats 2000000
namespace Go.Proofs.YtfjhdnjlhjimeaaGreatDoor
open Go.RowKit

structure QC where
 key:ByteArray
 value:Int
def Vu (a:QC):List QD:=[.v (.string a.key)] ++ [.v (.int .i64 a.value)]
theorem wE (a:QC):Vu a=[.v (.string a.key),.v (.int .i64 a.value)]:=rfl
theorem yE (a:QC):(Vu a).length=2:=rfl
def cells (l:List QC):QD:=.s l.length (l.flatMap Vu)
theorem QX {w:World} {B:Nat} {l:List QC} {u:Value} (h:Rd w B (cells l) u):∃A cap,u= .slice A l.length cap/\l.length<=cap/\cap<=maxLen/\WC w B Vu 2 l A:=h.row yE (by omega)
theorem Xr {w:World} {B:Nat} {l:List QC} {A:Option Addr} (h:WC w B Vu 2 l A) (k:Nat) (hk:k<l.length):∃b off,A=some ⟨b,off,none⟩/\b<B/\w.cell? ⟨b,off+k * 2,none⟩=some (.string (l[k].key))/\w.cell? ⟨b,off+k * 2+1,none⟩=some (.int .i64 (l[k].value)):=by
 obtain⟨b,off,e,hb,hx⟩:=h k hk
 rw [wE] at hx
 obtain⟨v0,e0,d0⟩:=hx 0 _ rfl
 obtain⟨v1,e1,d1⟩:=hx 1 _ rfl
 rw [Rd] at d0 d1
 subst d0 d1
 exact⟨b,off,e,hb,by simpa using e0,e1⟩

def QeX (a:QC):Nat:=a.key.size
def Qcu (l:List QC):Nat:=(l.map QeX).sum
def Qfm (l:List QC):Nat:=l.length+Qcu l
theorem Za:(Tryz.prog.info? 194).map (fun i=>(i.zero,i.size,i.bytes))=some (some (.agg #[.string ⟨#[]⟩,.int .i64 0]),2,24):=by kernel_rfl
structure ZZ where
 name:ByteArray
 count:Int
def qH (a:ZZ):List QD:=[.v (.string a.name)] ++ [.v (.int .i64 a.count)]
theorem uL (a:ZZ):qH a=[.v (.string a.name),.v (.int .i64 a.count)]:=rfl
theorem qP (a:ZZ):(qH a).length=2:=rfl
def layers (l:List ZZ):QD:=.s l.length (l.flatMap qH)
theorem Xb {w:World} {B:Nat} {l:List ZZ} {u:Value} (h:Rd w B (layers l) u):∃A cap,u= .slice A l.length cap/\l.length<=cap/\cap<=maxLen/\WC w B qH 2 l A:=h.row qP (by omega)
theorem Wg {w:World} {B:Nat} {l:List ZZ} {A:Option Addr} (h:WC w B qH 2 l A) (k:Nat) (hk:k<l.length):∃b off,A=some ⟨b,off,none⟩/\b<B/\w.cell? ⟨b,off+k * 2,none⟩=some (.string (l[k].name))/\w.cell? ⟨b,off+k * 2+1,none⟩=some (.int .i64 (l[k].count)):=by
 obtain⟨b,off,e,hb,hx⟩:=h k hk
 rw [uL] at hx
 obtain⟨v0,e0,d0⟩:=hx 0 _ rfl
 obtain⟨v1,e1,d1⟩:=hx 1 _ rfl
 rw [Rd] at d0 d1
 subst d0 d1
 exact⟨b,off,e,hb,by simpa using e0,e1⟩

def kP (a:ZZ):Nat:=a.name.size
def wY (l:List ZZ):Nat:=(l.map kP).sum
def xO (l:List ZZ):Nat:=l.length+wY l
theorem wk:(Tryz.prog.info? 145).map (fun i=>(i.zero,i.size,i.bytes))=some (some (.agg #[.string ⟨#[]⟩,.int .i64 0]),2,24):=by kernel_rfl
structure ZS where
 kind:ByteArray
 on:Bool
 broken:Bool
 cells:List QC
 count:Int
def Qge (a:ZS):List QD:=[.v (.string a.kind)] ++([.v (.bool a.on)] ++([.v (.bool a.broken)] ++([cells a.cells] ++ [.v (.int .i64 a.count)])))
def Qhm (l:List ZS):QD:=.s l.length (l.flatMap Qge)
def Qfn (a:ZS):Nat:=a.kind.size+Qfm a.cells
structure Qe where
 core:ZS
 layers:List ZZ
def WH (a:Qe):List QD:=Qge a.core++ [layers a.layers]
theorem Gu (a:Qe):WH a=[.v (.string a.core.kind),.v (.bool a.core.on),.v (.bool a.core.broken),cells a.core.cells,.v (.int .i64 a.core.count),layers a.layers]:=rfl
theorem yx (a:Qe):(WH a).length=6:=rfl
def parts (l:List Qe):QD:=.s l.length (l.flatMap WH)
def wn (a:Qe):Nat:=Qfn a.core+xO a.layers
structure Ql where
 full:Bool
 part:Qe
def Zj (a:Ql):List QD:=[.v (.bool a.full)] ++WH a.part
theorem Qe0 (a:Ql):Zj a=[.v (.bool a.full),.v (.string a.part.core.kind),.v (.bool a.part.core.on),.v (.bool a.part.core.broken),cells a.part.core.cells,.v (.int .i64 a.part.core.count),layers a.part.layers]:=rfl
theorem UH (a:Ql):(Zj a).length=7:=rfl
def slots (l:List Ql):QD:=.s l.length (l.flatMap Zj)
theorem Ja {w:World} {B:Nat} {l:List Ql} {u:Value} (h:Rd w B (slots l) u):∃A cap,u= .slice A l.length cap/\l.length<=cap/\cap<=maxLen/\WC w B Zj 7 l A:=h.row UH (by omega)
theorem Kw {w:World} {B:Nat} {l:List Ql} {A:Option Addr} (h:WC w B Zj 7 l A) (k:Nat) (hk:k<l.length):∃b off u4 u6,A=some ⟨b,off,none⟩/\b<B/\w.cell? ⟨b,off+k * 7,none⟩=some (.bool (l[k].full))/\w.cell? ⟨b,off+k * 7+1,none⟩=some (.string (l[k].part.core.kind))/\w.cell? ⟨b,off+k * 7+2,none⟩=some (.bool (l[k].part.core.on))/\w.cell? ⟨b,off+k * 7+3,none⟩=some (.bool (l[k].part.core.broken))/\w.cell? ⟨b,off+k * 7+4,none⟩=some u4/\w.cell? ⟨b,off+k * 7+5,none⟩=some (.int .i64 (l[k].part.core.count))/\w.cell? ⟨b,off+k * 7+6,none⟩=some u6/\Rd w B (cells (l[k].part.core.cells)) u4/\Rd w B (layers (l[k].part.layers)) u6:=by
 obtain⟨b,off,e,hb,hx⟩:=h k hk
 rw [Qe0] at hx
 obtain⟨v0,e0,d0⟩:=hx 0 _ rfl
 obtain⟨v1,e1,d1⟩:=hx 1 _ rfl
 obtain⟨v2,e2,d2⟩:=hx 2 _ rfl
 obtain⟨v3,e3,d3⟩:=hx 3 _ rfl
 obtain⟨v4,e4,d4⟩:=hx 4 _ rfl
 obtain⟨v5,e5,d5⟩:=hx 5 _ rfl
 obtain⟨v6,e6,d6⟩:=hx 6 _ rfl
 rw [Rd] at d0 d1 d2 d3 d5
 subst d0 d1 d2 d3 d5
 exact⟨b,off,v4,v6,e,hb,by simpa using e0,e1,e2,e3,e4,e5,e6,d4,d6⟩

def Qab (a:Ql):Nat:=wn a.part
def xR (l:List Ql):Nat:=(l.map Qab).sum
def yj (l:List Ql):Nat:=l.length+xR l
theorem QbM {l:List Ql} {a:Ql} (h:a∈l):Qab a<=xR l:=zW Qab h
theorem GP:(Tryz.prog.info? 99).map (fun i=>(i.zero,i.size,i.bytes))=some (some (.agg #[.bool false,.string ⟨#[]⟩,.bool false,.bool false,.slice none 0 0,.int .i64 0,.slice none 0 0]),7,88):=by kernel_rfl
end Go.Proofs.YtfjhdnjlhjimeaaGreatDoor
