/- SameCore. Conditions: as stated. -/
import Derived.Test.YtfjhdnjlhjimeaaGreatDoorTypes
set_option maxRecDepth 100000
set_option maxHeartbeats 4000000
namespace Go.Proofs.YtfjhdnjlhjimeaaGreatDoor
open Go.RowKit

def Qg (p:Prop) (w:World) (e:Ending) (w':World):Prop:=∃t:Bool,e= .returned (.bool t)/\(t=true↔p)/\Qc [] w w'
theorem xH {a b:ByteArray} (h:a.toList=b.toList):a=b:=by
 rw [ByteArray.toList_eq,ByteArray.toList_eq] at h
 exact O5 (Q2.1 h)
theorem Qd8 {c d:QC} (h1:(!(c.key.toList==d.key.toList))=false) (h2:(!(c.value==d.value))=false):c=d:=by
 cases c;cases d
 simp at h1 h2
 simp [xH h1,h2]
theorem Qew (c d:QC) (W:World):(binOp .neq 194 (.agg #[.string c.key,.int .i64 c.value]) (.agg #[.string d.key,.int .i64 d.value])).run Tryz.prog W= .ok (.bool (!(c.key.toList==d.key.toList&&c.value==d.value))) W:=by
 have h:∀n:Nat,(Op.equalIn (n+2) 194 (.agg #[.string c.key,.int .i64 c.value]) (.agg #[.string d.key,.int .i64 d.value])).run Tryz.prog W= .ok (c.key.toList==d.key.toList&&c.value==d.value) W:=fun n=>by
  rw [run_equalIn_struct W (n+1) 194 _ _ (by simp only [Program.fieldsOf,Tryz.underlying194]) (by kernel_rfl)]
  simp [go_sem,Program.fieldsOf,Tryz.underlying194]
  by_cases h1:c.key.toList=d.key.toList<;>by_cases h2:c.value=d.value<;>simp [h1,h2]
 simp only [binOp]
 simp [Op.equal,Op.maxDepth,h 9998]
theorem QdQ {c d:ZZ} (h1:(!(c.name.toList==d.name.toList))=false) (h2:(!(c.count==d.count))=false):c=d:=by
 cases c;cases d
 simp at h1 h2
 simp [xH h1,h2]
theorem Qc5 (c d:ZZ) (W:World):(binOp .neq 145 (.agg #[.string c.name,.int .i64 c.count]) (.agg #[.string d.name,.int .i64 d.count])).run Tryz.prog W= .ok (.bool (!(c.name.toList==d.name.toList&&c.count==d.count))) W:=by
 have h:∀n:Nat,(Op.equalIn (n+2) 145 (.agg #[.string c.name,.int .i64 c.count]) (.agg #[.string d.name,.int .i64 d.count])).run Tryz.prog W= .ok (c.name.toList==d.name.toList&&c.count==d.count) W:=fun n=>by
  rw [run_equalIn_struct W (n+1) 145 _ _ (by simp only [Program.fieldsOf,Tryz.underlying145]) (by kernel_rfl)]
  simp [go_sem,Program.fieldsOf,Tryz.underlying145]
  by_cases h1:c.name.toList=d.name.toList<;>by_cases h2:c.count=d.count<;>simp [h1,h2]
 simp only [binOp]
 simp [Op.equal,Op.maxDepth,h 9998]
theorem ka {α:Type} {l m:List α} {k:Nat} (h:l.take k=m.take k) (hl:k<l.length) (hm:k<m.length) (e:l[k]=m[k]):l.take (k+1)=m.take (k+1):=by
 rw [G6 hl,G6 hm,h,e]

theorem zn (a b:ZS) (u3 v3:Value) (B B':Nat) (w:World) (r3:Rd w B (cells a.cells) u3) (s3:Rd w B' (cells b.cells) v3) (hB:B<=w.heap.size) (hB':B'<=w.heap.size):
  Calls Tryz.prog 74 #[.agg #[.string a.kind,.bool a.on,.bool a.broken,u3,.int .i64 a.count],.agg #[.string b.kind,.bool b.on,.bool b.broken,v3,.int .i64 b.count]] w (Qg (a=b) w):=by
 obtain⟨A,cap,rfl,h0,h1,hrow⟩:=QX r3
 obtain⟨A',cap',rfl,h0',h1',hrow'⟩:=QX s3
 unfold maxLen at h1 h1'
 by_cases hl:a.cells.length=b.cells.length
 ·have hlB:((a.cells.length:Int) !=b.cells.length)=false:=by simp;omega
  have HL:=Qb hl
  clear hl
  go_enter Tryz.func74,Tryz.ntmps74
  go_wp2_with fail
  all_goals try(go_ret;refine⟨false,rfl,⟨(fun h=>by cases h),(fun h=>?_)⟩,((B0 _ _).alloc _).alloc _⟩;first|exact absurd (congrArg (fun c:ZS=>c.kind.toList) h) (by assumption)|exact absurd (congrArg ZS.on h) (by assumption)|exact absurd (congrArg ZS.broken h) (by assumption)|exact absurd (congrArg ZS.count h) (by assumption))
  rename_i hk ho hbr hco K aK
  have HK:=Qb hk;have HO:=Qb ho;have HBR:=Qb hbr;have HCO:=Qb hco
  clear hk ho hbr hco
  go_loopw [44] (fun i wr=>∃(k:Nat),k<=a.cells.length/\i= .int .i64 k/\wr.cell? ⟨w.heap.size,3,none⟩=some (.slice A a.cells.length cap)/\wr.cell? ⟨w.heap.size+1,3,none⟩=some (.slice A' b.cells.length cap')/\Qc [] w wr/\Hid (a.cells.take k=b.cells.take k)) (fun i _=>a.cells.length-(intOf i).toNat)
  case atStart=>exact⟨0,I3 _,rfl,by go_simp,by go_simp,((B0 _ _).alloc _).alloc _,by simp [Hid]⟩
  case round=>
   obtain⟨k,hk',rfl,z1,z2,hc,hq⟩:=hrel
   by_cases hlt:k<a.cells.length
   ·have hlt':k<b.cells.length:=by have:=HL.out;omega
    obtain⟨b1,off1,rfl,hb1,q0,q1⟩:=Xr (hrow.cz hc hB) k hlt
    obtain⟨b2,off2,rfl,hb2,p0,p1⟩:=Xr (hrow'.cz hc hB') k hlt'
    have hne:=fun W=>Qew a.cells[k] b.cells[k] W
    go_wp2_with fail
    go_quiet (fail)
    clear hne
    go_wp2_with fail
    ·go_ret
     have hd:= ‹((!(a.cells[k].key.toList==b.cells[k].key.toList))=true∨(!(a.cells[k].value==b.cells[k].value))=true)›
     exact⟨false,rfl,⟨(fun h=>by cases h),(fun h=>by subst h;rcases hd with h1|h1<;>simp at h1)⟩,hc.drewN _⟩
    ·have hd:= ‹((!(a.cells[k].key.toList==b.cells[k].key.toList))=false/\(!(a.cells[k].value==b.cells[k].value))=false)›
     have he:=Qd8 hd.1 hd.2
     have HE:=Qb he
     clear he
     go_roundw
     case rel=>exact⟨k+1,by omega,by go_num,z1,z2,hc.drewN _,ka hq.out hlt hlt' HE.out⟩
     case measure=>simp [intOf];omega
   ·obtain rfl:k=a.cells.length:=by omega
    go_wp2_with fail
    go_ret
    refine⟨true,rfl,⟨fun _=>?_,fun _=>rfl⟩,hc⟩
    have h1:=hq.out
    rw [I8,HL.out,I8] at h1
    cases a;cases b
    simp only [ZS.mk.injEq]
    exact⟨xH HK.out,HO.out,HBR.out,h1,HCO.out⟩
 ·have hlB:((a.cells.length:Int) !=b.cells.length)=true:=by simp;omega
  go_enter Tryz.func74,Tryz.ntmps74
  go_wp2_with fail
  all_goals(go_ret;exact⟨false,rfl,⟨(fun h=>by cases h),(fun h=>absurd (congrArg (fun c:ZS=>c.cells.length) h) hl)⟩,((B0 _ _).alloc _).alloc _⟩)
theorem zh (a b:Qe) (u3 u5 v3 v5:Value) (B B':Nat) (w:World) (r3:Rd w B (cells a.core.cells) u3) (r5:Rd w B (layers a.layers) u5) (s3:Rd w B' (cells b.core.cells) v3) (s5:Rd w B' (layers b.layers) v5) (hB:B<=w.heap.size) (hB':B'<=w.heap.size):
  Calls Tryz.prog 47 #[.agg #[.string a.core.kind,.bool a.core.on,.bool a.core.broken,u3,.int .i64 a.core.count,u5],.agg #[.string b.core.kind,.bool b.core.on,.bool b.core.broken,v3,.int .i64 b.core.count,v5]] w (Qg (a=b) w):=by
 obtain⟨A,cap,rfl,h0,h1,hrow⟩:=Xb r5
 obtain⟨A',cap',rfl,h0',h1',hrow'⟩:=Xb s5
 obtain⟨A3,cap3,rfl,_,_,_⟩:=QX r3
 obtain⟨A3',cap3',rfl,_,_,_⟩:=QX s3
 unfold maxLen at h1 h1'
 go_enter Tryz.func47,Tryz.ntmps47
 go_wp2_with fail
 refine(zn a.core b.core _ _ B B' _ (r3.cz (((B0 _ _).alloc _).alloc _) hB) (s3.cz (((B0 _ _).alloc _).alloc _) hB') (by simp;omega) (by simp;omega)).mono ?_;rintro e w1 ⟨t,rfl,ht,c1⟩
 obtain⟨y1,_,z1⟩:=c1.cells
 have d1:Qc [] w w1:=H0 (((B0 _ _).alloc _).alloc _) c1
 have t1:w.heap.size+1<w1.heap.size:=by simp at z1;omega
 have t1':w.heap.size<w1.heap.size:=by omega
 have k1:w1.cell? ⟨w.heap.size,5,none⟩=some (.slice A a.layers.length cap):=(y1 w.heap.size 5 (by simp;omega)).trans (by go_simp)
 have k2:w1.cell? ⟨w.heap.size+1,5,none⟩=some (.slice A' b.layers.length cap'):=(y1 (w.heap.size+1) 5 (by simp)).trans (by go_simp)
 clear y1 z1 c1
 cases t
 ·have hne:¬a.core=b.core:=fun h=>by have:=ht.2 h;cases this
  have HN:=Qb hne
  clear hne ht
  go_wp2_with fail
  go_ret
  exact⟨false,rfl,⟨(fun h=>by cases h),(fun h=>absurd (congrArg Qe.core h) HN.out)⟩,d1⟩
 ·have hco:=Qb (ht.1 rfl)
  clear ht
  by_cases hl:a.layers.length=b.layers.length
  ·have hlB:((a.layers.length:Int) !=b.layers.length)=false:=by simp;omega
   have HL:=Qb hl
   clear hl
   go_wp2_with fail
   go_loopw [24] (fun i wr=>∃(k:Nat),k<=a.layers.length/\i= .int .i64 k/\wr.cell? ⟨w.heap.size,5,none⟩=some (.slice A a.layers.length cap)/\wr.cell? ⟨w.heap.size+1,5,none⟩=some (.slice A' b.layers.length cap')/\Qc [] w wr/\Hid (a.layers.take k=b.layers.take k)) (fun i _=>a.layers.length-(intOf i).toNat)
   case atStart=>exact⟨0,I3 _,rfl,k1,k2,d1,by simp [Hid]⟩
   case round=>
    clear k1 k2
    obtain⟨k,hk',rfl,z1,z2,hc,hq⟩:=hrel
    by_cases hlt:k<a.layers.length
    ·have hlt':k<b.layers.length:=by have:=HL.out;omega
     obtain⟨b1,off1,rfl,hb1,q0,q1⟩:=Wg (hrow.cz hc hB) k hlt
     obtain⟨b2,off2,rfl,hb2,p0,p1⟩:=Wg (hrow'.cz hc hB') k hlt'
     have hne:=fun W=>Qc5 a.layers[k] b.layers[k] W
     go_wp2_with fail
     go_quiet (fail)
     clear hne
     go_wp2_with fail
     ·go_ret
      have hd:= ‹((!(a.layers[k].name.toList==b.layers[k].name.toList))=true∨(!(a.layers[k].count==b.layers[k].count))=true)›
      exact⟨false,rfl,⟨(fun h=>by cases h),(fun h=>by subst h;rcases hd with h1|h1<;>simp at h1)⟩,hc.drewN _⟩
     ·have hd:= ‹((!(a.layers[k].name.toList==b.layers[k].name.toList))=false/\(!(a.layers[k].count==b.layers[k].count))=false)›
      have he:=QdQ hd.1 hd.2
      have HE:=Qb he
      clear he
      go_roundw
      case rel=>exact⟨k+1,by omega,by go_num,z1,z2,hc.drewN _,ka hq.out hlt hlt' HE.out⟩
      case measure=>simp [intOf];omega
    ·obtain rfl:k=a.layers.length:=by omega
     go_wp2_with fail
     go_ret
     refine⟨true,rfl,⟨fun _=>?_,fun _=>rfl⟩,hc⟩
     have h1:=hq.out
     rw [I8,HL.out,I8] at h1
     have h2:=hco.out
     cases a;cases b
     simp only [Qe.mk.injEq]
     exact⟨h2,h1⟩
  ·have hlB:((a.layers.length:Int) !=b.layers.length)=true:=by simp;omega
   go_wp2_with fail
   go_ret
   exact⟨false,rfl,⟨(fun h=>by cases h),(fun h=>absurd (congrArg (fun c:Qe=>c.layers.length) h) hl)⟩,d1⟩
def jF (w wr:World):Prop:=wr=w
def QZ (p:Prop) (w:World) (e:Ending) (w':World):Prop:=∃t:Bool,e= .returned (.bool t)/\(t=true↔p)/\w'=w
theorem QZ.pos {p:Prop} {w:World} (h:p) (e:Ending) (w':World) (hb:QZ p w e w'):e= .returned (.bool true)/\w'=w:=by
 obtain⟨t,rfl,ht,c⟩:=hb
 obtain rfl:t=true:=ht.2 h
 exact⟨rfl,c⟩
theorem QZ.neg {p:Prop} {w:World} (h:¬p) (e:Ending) (w':World) (hb:QZ p w e w'):e= .returned (.bool false)/\w'=w:=by
 obtain⟨t,rfl,ht,c⟩:=hb
 cases t
 ·exact⟨rfl,c⟩
 ·exact absurd (ht.1 rfl) h
theorem Qg.pos {p:Prop} {w:World} (h:p) (e:Ending) (w':World) (hb:Qg p w e w'):e= .returned (.bool true)/\Qc [] w w':=by
 obtain⟨t,rfl,ht,c⟩:=hb
 obtain rfl:t=true:=ht.2 h
 exact⟨rfl,c⟩
theorem Qg.neg {p:Prop} {w:World} (h:¬p) (e:Ending) (w':World) (hb:Qg p w e w'):e= .returned (.bool false)/\Qc [] w w':=by
 obtain⟨t,rfl,ht,c⟩:=hb
 cases t
 ·exact⟨rfl,c⟩
 ·exact absurd (ht.1 rfl) h
theorem QZ.chg {p:Prop} {w:World} (e:Ending) (w':World) (hb:QZ p w e w'):Qg p w e w':=by
 obtain⟨t,rfl,ht,rfl⟩:=hb
 exact⟨t,rfl,ht,B0 _ _⟩
def KL (i:Nat) (b:UInt8):Prop:=(97<=b.toNat/\b.toNat<=122)∨(0<i/\48<=b.toNat/\b.toNat<=57)
def qZ (s:ByteArray):Prop:=1<=s.size/\s.size<=8/\∀(i:Nat) (h:i<s.size),KL i s[i]
def ZK (n:Int):Prop:=0<=n/\n<=999

theorem jc (b:UInt8) (first:Bool) (w:World):
  Calls Tryz.prog 209 #[.int .u8 b.toNat,.bool first] w (QZ ((97<=b.toNat/\b.toNat<=122)∨(first=false/\48<=b.toNat/\b.toNat<=57)) w):=by
 go_enter Tryz.func209,Tryz.ntmps209
 go_wp2_with fail
 all_goals(go_ret;refine⟨_,rfl,?_,rfl⟩;simp;try omega)
theorem Ye (n:Int) (w:World):
  Calls Tryz.prog 109 #[.int .i64 n] w (QZ (ZK n) w):=by
 go_enter Tryz.func109,Tryz.ntmps109
 go_wp2_with fail
 all_goals(go_ret;refine⟨_,rfl,?_,rfl⟩;unfold ZK;simp;try omega)
theorem JO (s:ByteArray) (w:World) (hs:s.size<=1048576):
  Calls Tryz.prog 192 #[.string s] w (QZ (qZ s) w):=by
 go_enter Tryz.func192,Tryz.ntmps192
 go_wp2_with fail
 go_loopw [3] (fun i wr=>∃k:Nat,k<=s.size/\i= .int .i64 k/\(∀(j:Nat) (h:j<s.size),j<k->KL j s[j])/\jF w wr) (fun i _=>s.size-(intOf i).toNat)
 case atStart=>exact⟨0,I3 _,rfl,fun j h h0=>absurd h0 (M4 _),rfl⟩
 case round=>
  obtain⟨k,hk,rfl,HN,rfl⟩:=hrel
  have HN:=Qb HN
  by_cases hlt:k<s.size
  ·go_wp2_with fail
   refine(jc s[k] ((k:Int)==0) wr).mono ?_
   rintro e w1 ⟨t,rfl,ht,rfl⟩
   have hb:t=true↔KL k s[k]:=by
    rw [ht];unfold KL
    rw [beq_eq_false_iff_ne]
    omega
   have HT:=Qb hb
   clear ht hb
   cases t
   ·go_wp2_with fail
    go_ret
    refine⟨_,rfl,⟨fun h=>by simp at h,fun h=>?_⟩,rfl⟩
    have:=HT.out.2 (h.2.2 k hlt)
    simp at this
   ·go_wp2_with fail
    go_roundw
    case rel=>exact⟨k+1,by omega,by go_num,fun j h hj=>(I7.1 hj).elim (HN.out j h) (fun e=>by subst e;exact HT.out.1 (by simp)),rfl⟩
    case measure=>simp [intOf];omega
  ·obtain rfl:k=s.size:=by omega
   go_wp2_with fail
   all_goals(go_ret;refine⟨_,rfl,?_,rfl⟩;have hall:∀(i:Nat) (h:i<s.size),KL i s[i]:=fun i h=>HN.out i h h;unfold qZ;simp [hall];try omega)
theorem JL (s:ByteArray) (w:World) (hs:s.size<=1048576):
  Calls Tryz.prog 145 #[.string s] w (QZ (qZ s) w):=by
 go_enter Tryz.func145,Tryz.ntmps145
 go_wp2_with fail
 ·go_ret
  refine⟨_,rfl,⟨fun h=>by simp at h,fun h=>?_⟩,rfl⟩
  have h0:0<s.size:=by assumption
  have:=h.1;have:=h.2.1;have:=h.2.2 0 h0;unfold KL at this;omega
 ·go_loopw [3] (fun i wr=>∃k:Nat,k<=s.size/\i= .int .i64 k/\(∀(j:Nat) (h:j<s.size),j<k->KL j s[j])/\jF w wr) (fun i _=>s.size-(intOf i).toNat)
  case atStart=>exact⟨0,I3 _,rfl,fun j h h0=>absurd h0 (M4 _),rfl⟩
  case round=>
   obtain⟨k,hk,rfl,HN,rfl⟩:=hrel
   have HN:=Qb HN
   by_cases hlt:k<s.size
   ·have hk0:k=0->97<=s[k].toNat/\s[k].toNat<=122:=fun e=>by subst e;omega
    go_wp2_with fail
    all_goals first
     | (go_roundw
        case rel=>exact⟨k+1,by omega,by go_num,fun j h hj=>(I7.1 hj).elim (HN.out j h) (fun e=>by subst e;unfold KL;omega),rfl⟩
        case measure=>simp [intOf];omega)
     | (go_ret
        refine⟨_,rfl,⟨fun h=>by simp at h,fun h=>?_⟩,rfl⟩
        have:=h.2.2 k hlt;unfold KL at this;omega)
   ·obtain rfl:k=s.size:=by omega
    go_wp2_with fail
    go_ret
    refine⟨_,rfl,⟨fun _=>⟨by omega,by omega,fun i h=>HN.out i h h⟩,fun _=>rfl⟩,rfl⟩
 all_goals
  go_ret
  refine⟨_,rfl,⟨fun h=>by simp at h,fun h=>?_⟩,rfl⟩
  have:=h.1;have:=h.2.1
  first
   |omega
   |(have:=h.2.2 0 (by omega);unfold KL at this;omega)
def look {α:Type} (s:List UInt8):List (List UInt8×α)->Option α
 | []=>none
 |(n,x)::r=>if s=n then some x else look s r
def kinds:List (List UInt8×Int):=[([115,116,111,110,101],0),([108,97,109,112],1),([115,104,101,108,102],2),([109,101,116,101,114],5),([100,114,97,119,101,114],3),([104,111,114,110],9),([118,97,117,108,116],19),([114,111,98,111,116],63)]
def Qo (s:ByteArray):Option Int:=look s.toList kinds
def Yk:List (List UInt8×(Int×Int)):=[([112,108,97,105,110],(0,0)),([114,117,110,115],(1,1)),([107,101,101,112,115],(2,2)),([99,111,117,110,116,115],(2,6)),([108,97,122,121],(3,3)),([114,101,97,100,115],(2,2)),([104,101,97,114,115],(1,9)),([104,101,97,108,115],(1,33)),([116,119,105,99,101],(4,4))]
def Qj (s:ByteArray):Option (Int×Int):=look s.toList Yk
def WZ (o:Option Int) (w:World) (e:Ending) (w':World):Prop:=e= .returned (.tuple #[.int .i64 (o.getD 0),.bool o.isSome])/\w'=w
def We (o:Option (Int×Int)) (w:World) (e:Ending) (w':World):Prop:=e= .returned (.tuple #[.int .i64 (o.getD (0,0)).1,.int .i64 (o.getD (0,0)).2,.bool o.isSome])/\w'=w
def WU (o:Option Int) (w:World) (e:Ending) (w':World):Prop:=e= .returned (.tuple #[.int .i64 (o.getD 0),.bool o.isSome])/\Qc [] w w'
def GH (o:Option (Int×Int)) (w:World) (e:Ending) (w':World):Prop:=e= .returned (.tuple #[.int .i64 (o.getD (0,0)).1,.int .i64 (o.getD (0,0)).2,.bool o.isSome])/\Qc [] w w'
theorem WU.of {f o:Option Int} {w w':World} {e:Ending} (h:f=o) (he:e= .returned (.tuple #[.int .i64 (o.getD 0),.bool o.isSome])) (hc:Qc [] w w'):WU f w e w':=by subst h;exact⟨he,hc⟩
theorem GH.of {f o:Option (Int×Int)} {w w':World} {e:Ending} (h:f=o) (he:e= .returned (.tuple #[.int .i64 (o.getD (0,0)).1,.int .i64 (o.getD (0,0)).2,.bool o.isSome])) (hc:Qc [] w w'):GH f w e w':=by subst h;exact⟨he,hc⟩
theorem WZ.of {f o:Option Int} {w w':World} {e:Ending} (h:f=o) (he:e= .returned (.tuple #[.int .i64 (o.getD 0),.bool o.isSome])) (hc:w'=w):WZ f w e w':=by subst h;exact⟨he,hc⟩
theorem We.of {f o:Option (Int×Int)} {w w':World} {e:Ending} (h:f=o) (he:e= .returned (.tuple #[.int .i64 (o.getD (0,0)).1,.int .i64 (o.getD (0,0)).2,.bool o.isSome])) (hc:w'=w):We f w e w':=by subst h;exact⟨he,hc⟩
theorem VD {α:Type} {s n:List UInt8} {x:α} {r:List (List UInt8×α)} (h:(s==n)=true):look s ((n,x)::r)=some x:=if_pos (by simpa using h)
theorem Wu {α:Type} {s n:List UInt8} {x:α} {r:List (List UInt8×α)} (h:(s==n)=false):look s ((n,x)::r)=look s r:=if_neg (by simpa using h)
theorem W9 {α:Type} {s:List UInt8}:look s ([]:List (List UInt8×α))=none:=rfl
theorem YF {s:ByteArray} {l:List UInt8} {x:Int×Int} (h:look l Yk=some x) (hs:(s.toList==l)=true):Qj s=some x:=by
 rw [Qj,beq_iff_eq.1 hs,h]
theorem kM {α:Type} {s:List UInt8}:∀ {l:List (List UInt8×α)} {k:Nat} {x:List UInt8×α},l[k]?=some x->(∀j y,j<k->l[j]?=some y->s≠y.1)->s=x.1->look s l=some x.2
 | [],k,x,h,_,_=>by simp at h
 |y::l,0,x,h,_,e=>by simp at h;subst h;rw [look,if_pos e]
 |y::l,k+1,x,h,hn,e=>by
  rw [look,if_neg (hn 0 y (by omega) rfl)]
  exact kM (k:=k) (by simpa using h) (fun j z hj hz=>hn (j+1) z (by omega) (by simpa using hz)) e
theorem yH {α:Type} {s:List UInt8}:∀ {l:List (List UInt8×α)},(∀j y,j<l.length->l[j]?=some y->s≠y.1)->look s l=none
 | [],_=>rfl
 |y::l,h=>by
  rw [look,if_neg (h 0 y (by simp) rfl)]
  exact yH (fun j z hj hz=>h (j+1) z (by simpa using hj) (by simpa using hz))
theorem Xd (w:World) (vs:Array Value) (e:TypeId) {k:Nat} {v:Value} (h:vs[k]?=some v):(w.alloc (.cells vs e)).cell? ⟨w.heap.size,k,none⟩=some v:=by
 rw [cell_of_row (w.alloc (.cells vs e)) w.heap.size k vs e (0,0) (heap_alloc_new w _)]
 exact h

theorem ZT (s:ByteArray) (w:World):
  Calls Tryz.prog 28 #[.string s] w (WZ (Qo s) w):=by
 go_enter Tryz.func28,Tryz.ntmps28
 go_wp2_with fail
 ·go_ret2
  exact WZ.of (o:=some 0) (by unfold Qo kinds;repeat(first|exact VD (by assumption)|refine Eq.trans (Wu (by assumption)) ?_|exact W9)) rfl rfl
 ·go_ret2
  exact WZ.of (o:=some 1) (by unfold Qo kinds;repeat(first|exact VD (by assumption)|refine Eq.trans (Wu (by assumption)) ?_|exact W9)) rfl rfl
 ·go_ret2
  exact WZ.of (o:=some 2) (by unfold Qo kinds;repeat(first|exact VD (by assumption)|refine Eq.trans (Wu (by assumption)) ?_|exact W9)) rfl rfl
 ·go_ret2
  exact WZ.of (o:=some 5) (by unfold Qo kinds;repeat(first|exact VD (by assumption)|refine Eq.trans (Wu (by assumption)) ?_|exact W9)) rfl rfl
 ·go_ret2
  exact WZ.of (o:=some 3) (by unfold Qo kinds;repeat(first|exact VD (by assumption)|refine Eq.trans (Wu (by assumption)) ?_|exact W9)) rfl rfl
 ·go_ret2
  exact WZ.of (o:=some 9) (by unfold Qo kinds;repeat(first|exact VD (by assumption)|refine Eq.trans (Wu (by assumption)) ?_|exact W9)) rfl rfl
 ·go_ret2
  exact WZ.of (o:=some 19) (by unfold Qo kinds;repeat(first|exact VD (by assumption)|refine Eq.trans (Wu (by assumption)) ?_|exact W9)) rfl rfl
 ·go_ret2
  exact WZ.of (o:=some 63) (by unfold Qo kinds;repeat(first|exact VD (by assumption)|refine Eq.trans (Wu (by assumption)) ?_|exact W9)) rfl rfl
 ·go_ret2
  exact WZ.of (o:=none) (by unfold Qo kinds;repeat(first|exact VD (by assumption)|refine Eq.trans (Wu (by assumption)) ?_|exact W9)) rfl rfl
theorem Ya (s:ByteArray) (w:World):
  Calls Tryz.prog 104 #[.string s] w (We (Qj s) w):=by
 go_enter Tryz.func104,Tryz.ntmps104
 go_wp2_with fail
 all_goals
  go_ret3
  first
   | (exfalso
      have h1:(s.toList== [107,101,101,112,115])=true:=by assumption
      have h2:(s.toList== [107,101,101,112,115])=false:=by assumption
      rw [h1] at h2
      cases h2)
   |exact We.of (o:=some (0,0)) (YF (l:=[112,108,97,105,110]) rfl (by assumption)) rfl rfl
   |exact We.of (o:=some (1,1)) (YF (l:=[114,117,110,115]) rfl (by assumption)) rfl rfl
   |exact We.of (o:=some (2,2)) (YF (l:=[107,101,101,112,115]) rfl (by assumption)) rfl rfl
   |exact We.of (o:=some (2,6)) (YF (l:=[99,111,117,110,116,115]) rfl (by assumption)) rfl rfl
   |exact We.of (o:=some (3,3)) (YF (l:=[108,97,122,121]) rfl (by assumption)) rfl rfl
   |exact We.of (o:=some (2,2)) (YF (l:=[114,101,97,100,115]) rfl (by assumption)) rfl rfl
   |exact We.of (o:=some (1,9)) (YF (l:=[104,101,97,114,115]) rfl (by assumption)) rfl rfl
   |exact We.of (o:=some (1,33)) (YF (l:=[104,101,97,108,115]) rfl (by assumption)) rfl rfl
   |exact We.of (o:=some (4,4)) (YF (l:=[116,119,105,99,101]) rfl (by assumption)) rfl rfl
   |exact We.of (o:=none) (by unfold Qj Yk;repeat(first|refine Eq.trans (Wu (by assumption)) ?_|exact W9)) rfl rfl
def xZ {α:Type} (w:World) (g:Nat) (l:List (List UInt8×α)):Prop:=∀j y,l[j]?=some y->w.cell? ⟨g,j,none⟩=some (.string ⟨y.1.toArray⟩)
theorem vR (w:World) (e:TypeId):xZ (w.alloc (.cells (kinds.map fun y=>Value.string ⟨y.1.toArray⟩).toArray e)) w.heap.size kinds:=by
 intro j y hj
 exact Xd _ _ _ (by simp [hj])
theorem wI (w:World) (e:TypeId):xZ (w.alloc (.cells (Yk.map fun y=>Value.string ⟨y.1.toArray⟩).toArray e)) w.heap.size Yk:=by
 intro j y hj
 exact Xd _ _ _ (by simp [hj])
theorem QN (s:ByteArray) (w:World):
  Calls Tryz.prog 113 #[.string s] w (WU (Qo s) w):=by
 go_enter Tryz.func113,Tryz.ntmps113
 go_wp2_with fail
 go_loopw [8] (fun i wr=>∃k:Nat,k<=8/\i= .int .i64 k/\(∀j y,j<k->kinds[j]?=some y->s.toList≠y.1)/\Qc [] w wr/\w.heap.size<wr.heap.size/\xZ wr w.heap.size kinds) (fun i _=>8-(intOf i).toNat)
 case atStart=>exact⟨0,by omega,rfl,fun j y h=>absurd h (M4 _),(B0 _ _).alloc _,by simp,vR w _⟩
 case round=>
  obtain⟨k,hk,rfl,HN,hc,hg,HA⟩:=hrel
  have HN:=Qb HN
  have HA:=Qb HA
  by_cases hlt:k<8
  ·obtain⟨y,hy⟩:∃y,kinds[k]?=some y:=⟨kinds[k]'hlt,F8 hlt⟩
   have hcell:=HA.out k y hy
   have HY:=Qb hy
   clear hy
   go_wp2_with fail
   ·go_ret2
    apply WU.of
    case h=>exact kM HY.out HN.out (beq_iff_eq.1 (by assumption)).symm
    case he=>
     have hy:=HY.out
     match k,hlt,hy with
     |0,_,hy|1,_,hy|2,_,hy|3,_,hy|4,_,hy|5,_,hy|6,_,hy|7,_,hy=>cases hy;rfl
    case hc=>exact hc.alloc _
   ·go_roundw
    case rel=>exact⟨k+1,by omega,by go_num,fun j z hj hz=>(I7.1 hj).elim (fun h=>HN.out j z h hz) (fun e=>by subst e;have:=HY.out;rw [hz] at this;cases this;exact fun e=>by simp_all),hc,hg,HA.out⟩
    case measure=>simp [intOf];omega
  ·obtain rfl:k=8:=by omega
   go_wp2_with fail
   go_ret2
   exact WU.of (yH (fun j y hj hy=>HN.out j y (by simpa [kinds] using hj) hy)) rfl hc
theorem QcX (s:ByteArray) (w:World):
  Calls Tryz.prog 149 #[.string s] w (GH (Qj s) w):=by
 go_enter Tryz.func149,Tryz.ntmps149
 go_wp2_with fail
 go_loopw [11] (fun i wr=>∃k:Nat,k<=9/\i= .int .i64 k/\(∀j y,j<k->Yk[j]?=some y->s.toList≠y.1)/\Qc [] w wr/\w.heap.size<wr.heap.size/\xZ wr w.heap.size Yk) (fun i _=>9-(intOf i).toNat)
 case atStart=>exact⟨0,by omega,rfl,fun j y h=>absurd h (M4 _),(B0 _ _).alloc _,by simp,wI w _⟩
 case round=>
  obtain⟨k,hk,rfl,HN,hc,hg,HA⟩:=hrel
  have HN:=Qb HN
  have HA:=Qb HA
  by_cases hlt:k<9
  ·obtain⟨y,hy⟩:∃y,Yk[k]?=some y:=⟨Yk[k]'hlt,F8 hlt⟩
   have hcell:=HA.out k y hy
   have HY:=Qb hy
   clear hy
   go_wp2_with fail
   ·go_region
    all_goals(try go_wp2)
    all_goals
     go_ret3
     apply GH.of
     case h=>exact kM HY.out HN.out (beq_iff_eq.1 (by assumption)).symm
     case he=>
      have hy:=HY.out
      match k,hlt,hy with
      |0,_,hy|1,_,hy|2,_,hy|3,_,hy|4,_,hy|5,_,hy|6,_,hy|7,_,hy|8,_,hy=>cases hy;rfl
     case hc=>first|exact((hc.drew.alloc _).alloc _)|exact((hc.alloc _).alloc _).drew|exact((hc.alloc _).drew.alloc _)
   ·go_roundw
    case rel=>exact⟨k+1,by omega,by go_num,fun j z hj hz=>(I7.1 hj).elim (fun h=>HN.out j z h hz) (fun e=>by subst e;have:=HY.out;rw [hz] at this;cases this;exact fun e=>by simp_all),hc,hg,HA.out⟩
    case measure=>simp [intOf];omega
  ·obtain rfl:k=9:=by omega
   go_wp2_with fail
   go_ret3
   exact GH.of (yH (fun j y hj hy=>HN.out j y (by simpa [Yk] using hj) hy)) rfl hc
theorem QK (s:ByteArray) (w:World):
  Calls Tryz.prog 115 #[.string s] w (WU ((Qj s).map (·.1)) w):=by
 go_enter Tryz.func115,Tryz.ntmps115
 go_wp2_with fail
 refine(QcX s w).mono ?_
 rintro e w1 ⟨rfl,c1⟩
 go_wp2_with fail
 go_ret2
 refine⟨?_,c1⟩
 cases Qj s<;>rfl
def ql (f:Int):Prop:=0<=f/\f<=63
def has (f:Int) (k:Nat):Bool:=f / (2 ^ k:Nat) % 2==1
def ZL (f want:Int):Prop:=ql f/\ql want/\∀k:Fin 6,has want k=true->has f k=true
instance (f want:Int):Decidable (ZL f want):=inferInstanceAs (Decidable ((_/\_)/\(_/\_)/\_))

theorem Qcf:∀f g:Fin 64,(bits .andNot .i64 ((g.1:Nat):Int) ((f.1:Nat):Int)==0)=decide (∀k:Fin 6,has ((g.1:Nat):Int) k=true->has ((f.1:Nat):Int) k=true):=by decide+kernel

theorem xw (f:Int) (w:World):
  Calls Tryz.prog 154 #[.int .i64 f] w (QZ (ql f) w):=by
 go_enter Tryz.func154,Tryz.ntmps154
 go_wp2_with fail
 all_goals(go_ret;refine⟨_,rfl,?_,rfl⟩;unfold ql;simp;try omega)
theorem Wr (f:Int) (w:World):
  Calls Tryz.prog 58 #[.int .i64 f] w (QZ (ql f) w):=by
 go_enter Tryz.func58,Tryz.ntmps58
 go_wp2_with fail
 all_goals(go_ret;refine⟨_,rfl,?_,rfl⟩;unfold ql;simp;try omega)
theorem Xp (f want:Int) (w:World):
  Calls Tryz.prog 29 #[.int .i64 f,.int .i64 want] w (QZ (ZL f want) w):=by
 go_enter Tryz.func29,Tryz.ntmps29
 go_wp2_with fail
 refine(Wr f w).mono ?_
 rintro e w1 ⟨t,rfl,ht,rfl⟩
 have HT:=Qb ht
 clear ht
 cases t
 ·go_wp2_with fail
  go_ret
  refine⟨_,rfl,⟨fun h=>by simp at h,fun h=>?_⟩,rfl⟩
  have:=HT.out.2 h.1;simp at this
 ·go_wp2_with fail
  refine(Wr want w1).mono ?_
  rintro e w2 ⟨t,rfl,ht2,rfl⟩
  have HT2:=Qb ht2
  clear ht2
  cases t
  ·go_wp2_with fail
   go_ret
   refine⟨_,rfl,⟨fun h=>by simp at h,fun h=>?_⟩,rfl⟩
   have:=HT2.out.2 h.2.1;simp at this
  ·obtain⟨f0,f1⟩:=HT.out.1 (by simp)
   obtain⟨g0,g1⟩:=HT2.out.1 (by simp)
   go_wp2_with fail
   go_ret
   refine⟨_,rfl,?_,rfl⟩
   have:=Qcf ⟨f.toNat,by omega⟩ ⟨want.toNat,by omega⟩
   simp only [Y4 f0,Y4 g0] at this
   rw [this]
   unfold ZL ql
   simp only [decide_eq_true_eq]
   exact⟨fun h=>⟨⟨f0,f1⟩,⟨g0,g1⟩,h⟩,fun h=>h.2.2⟩
def Ui (l:List QC) (k:Nat) (h:k<l.length):Prop:=qZ l[k].key/\ZK l[k].value/\(0<k->Op.bytesLess (l[k-1]'(by omega)).key.toList l[k].key.toList=true)
def ZA (l:List QC):Prop:=l.length<=4/\∀(k:Nat) (h:k<l.length),Ui l k h
theorem wW (a b:ByteArray) (W:World):(binOp .geq 9 (.string a) (.string b)).run Tryz.prog W= .ok (.bool (!Op.bytesLess a.toList b.toList)) W:=by
 simp [binOp,go_sem,Op.stringOp]
theorem YU (l:List QC) (u:Value) (B:Nat) (w:World) (r:Rd w B (cells l) u) (hB:B<=w.heap.size) (hl:l.length<=1048576) (hs:∀c∈l,c.key.size<=1048576):
  Calls Tryz.prog 143 #[u] w (Qg (ZA l) w):=by
 obtain⟨A,cap,rfl,h0,h1,hrow⟩:=QX r
 unfold maxLen at h1
 clear r
 go_enter Tryz.func143,Tryz.ntmps143
 go_wp2_with fail
 ·go_ret
  refine⟨_,rfl,⟨fun h=>by simp at h,fun h=>?_⟩,B0 _ _⟩
  have:=h.1;omega
 ·have hl4:l.length<=4:=by omega
  go_loopw [10] (fun i wr=>∃k:Nat,k<=l.length/\i= .int .i64 k/\(∀(j:Nat) (h:j<l.length),j<k->Ui l j h)/\Qc [] w wr) (fun i _=>l.length-(intOf i).toNat)
  case atStart=>exact⟨0,I3 _,rfl,fun j h h0=>absurd h0 (M4 _),B0 _ _⟩
  case round=>
   obtain⟨k,hk,rfl,HN,hc⟩:=hrel
   have HN:=Qb HN
   by_cases hlt:k<l.length
   ·obtain⟨b,off,rfl,hb,q0,q1⟩:=Xr (hrow.cz hc hB) k hlt
    have hsz:=hc.size
    have hbw:b<wr.heap.size:=by omega
    have hnm:=fun W=>JL l[k].key W (hs _ (I4 hlt))
    by_cases n1:qZ l[k].key
    ·have NM:=Qb (fun W=>(hnm W).mono (QZ.pos n1))
     clear hnm
     have hnu:=fun W=>Ye l[k].value W
     by_cases n2:ZK l[k].value
     ·have NU:=Qb (fun W=>(hnu W).mono (QZ.pos n2))
      clear hnu
      by_cases hk0:k=0
      ·have CA:Hid (Ui l k hlt):=Qb ⟨n1,n2,fun h=>absurd hk0 (by omega)⟩
       subst hk0
       simp only [Nat.zero_mul,L3] at q0 q1
       clear n1 n2
       go_wp2_with fail
       go_quiet (first|(go_at_call 145;exact Calls.quiet_of_same (NM.out _))|(go_at_call 109;exact Calls.quiet_of_same (NU.out _))|fail)
       go_wp2_with fail
       go_roundw
       case rel=>exact⟨0+1,by omega,by go_num,fun j h hj=>(I7.1 hj).elim (HN.out j h) (fun e=>by subst e;exact CA.out),hc.tz (((B0 _ _).alloc _).drewN _)⟩
       case measure=>simp [intOf];omega
      ·have hkB:0<k:=by omega
       have hkD:decide (0<k)=true:=by simp;omega
       have hk1:(0:Int)<(k:Int):=by omega
       obtain⟨b',off',e',hb',p0,p1⟩:=Xr (hrow.cz hc hB) (k-1) (by omega)
       cases e'
       have hgeq:=wW (l[k-1]'(by omega)).key l[k].key
       have hkN:((k:Int) -1).toNat=k-1:=by omega
       have hi0:(0:Int)<=(k:Int) -1:=by omega
       have hi1:(k:Int) -1<(l.length:Int):=by omega
       have hiw:IntKind.i64.wrap ((k:Int) -1)=(k:Int) -1:=by simp [IntKind.wrap,IntKind.bits,IntKind.signed];omega
       by_cases n3:Op.bytesLess (l[k-1]'(by omega)).key.toList l[k].key.toList=true
       ·have CA:Hid (Ui l k hlt):=Qb ⟨n1,n2,fun _=>n3⟩
        clear n1 n2
        go_wp2_with fail
        go_quiet (first|(go_at_call 145;exact Calls.quiet_of_same (NM.out _))|(go_at_call 109;exact Calls.quiet_of_same (NU.out _))|fail)
        go_wp2_with fail
        go_roundw
        case rel=>exact⟨k+1,by omega,by go_num,fun j h hj=>(I7.1 hj).elim (HN.out j h) (fun e=>by subst e;exact CA.out),hc.tz (((B0 _ _).alloc _).drewN _)⟩
        case measure=>simp [intOf];omega
       ·have CA:Hid (¬Ui l k hlt):=Qb (fun h=>n3 (h.2.2 (by omega)))
        clear n1 n2
        go_wp2_with fail
        go_quiet (first|(go_at_call 145;exact Calls.quiet_of_same (NM.out _))|(go_at_call 109;exact Calls.quiet_of_same (NU.out _))|fail)
        go_wp2_with fail
        go_ret
        refine⟨_,rfl,⟨fun h=>by simp at h,fun h=>?_⟩,hc.tz (((B0 _ _).alloc _).drewN _)⟩
        exact(CA.out (h.2 k hlt)).elim
     ·have CA:Hid (¬Ui l k hlt):=Qb (fun h=>n2 h.2.1)
      have NU:=Qb (fun W=>(hnu W).mono (QZ.neg n2))
      clear hnu n1 n2
      go_wp2_with fail
      go_quiet (first|(go_at_call 145;exact Calls.quiet_of_same (NM.out _))|(go_at_call 109;exact Calls.quiet_of_same (NU.out _))|fail)
      go_wp2_with fail
      go_ret
      refine⟨_,rfl,⟨fun h=>by simp at h,fun h=>?_⟩,hc.tz (((B0 _ _).alloc _).drewN _)⟩
      exact(CA.out (h.2 k hlt)).elim
    ·have CA:Hid (¬Ui l k hlt):=Qb (fun h=>n1 h.1)
     have NM:=Qb (fun W=>(hnm W).mono (QZ.neg n1))
     clear hnm n1
     go_wp2_with fail
     go_quiet (first|(go_at_call 145;exact Calls.quiet_of_same (NM.out _))|fail)
     go_wp2_with fail
     go_ret
     refine⟨_,rfl,⟨fun h=>by simp at h,fun h=>?_⟩,hc.tz (((B0 _ _).alloc _).drewN _)⟩
     exact(CA.out (h.2 k hlt)).elim
   ·obtain rfl:k=l.length:=by omega
    go_wp2_with fail
    go_ret
    refine⟨_,rfl,⟨fun _=>⟨by omega,fun i h=>HN.out i h h⟩,fun _=>rfl⟩,hc⟩
theorem VY (l:List QC) (u:Value) (B:Nat) (w:World) (r:Rd w B (cells l) u) (hB:B<=w.heap.size) (hl:l.length<=1048576) (hs:∀c∈l,c.key.size<=1048576):
  Calls Tryz.prog 191 #[u] w (Qg (ZA l) w):=by
 obtain⟨A,cap,rfl,h0,h1,hrow⟩:=QX r
 unfold maxLen at h1
 clear r
 go_enter Tryz.func191,Tryz.ntmps191
 go_wp2_with fail
 go_loopw [7] (fun i wr=>∃k:Nat,k<=l.length/\i= .int .i64 k/\(∀(j:Nat) (h:j<l.length),j<k->Ui l j h)/\Qc [] w wr) (fun i _=>l.length-(intOf i).toNat)
 case atStart=>exact⟨0,I3 _,rfl,fun j h h0=>absurd h0 (M4 _),B0 _ _⟩
 case round=>
  obtain⟨k,hk,rfl,HN,hc⟩:=hrel
  have HN:=Qb HN
  by_cases hlt:k<l.length
  ·obtain⟨b,off,rfl,hb,q0,q1⟩:=Xr (hrow.cz hc hB) k hlt
   have hsz:=hc.size
   have hbw:b<wr.heap.size:=by omega
   have hnm:=fun W=>JO l[k].key W (hs _ (I4 hlt))
   by_cases n1:qZ l[k].key
   ·have NM:=Qb (fun W=>(hnm W).mono (QZ.pos n1))
    clear hnm
    by_cases n2:ZK l[k].value
    ·have v1:0<=l[k].value:=n2.1
     have v2:l[k].value<=999:=n2.2
     have v3:decide (l[k].value<0)=false:=by simp;omega
     have v4:decide (999<l[k].value)=false:=by simp;omega
     by_cases hk0:k=0
     ·have CA:Hid (Ui l k hlt):=Qb ⟨n1,n2,fun h=>absurd hk0 (by omega)⟩
      subst hk0
      simp only [Nat.zero_mul,L3] at q0 q1
      clear n1 n2
      go_wp2_with fail
      go_quiet (first|(go_at_call 192;exact Calls.quiet_of_same (NM.out _))|fail)
      go_wp2_with fail
      go_roundw
      case rel=>exact⟨0+1,by omega,by go_num,fun j h hj=>(I7.1 hj).elim (HN.out j h) (fun e=>by subst e;exact CA.out),hc.tz (((B0 _ _).alloc _).drewN _)⟩
      case measure=>simp [intOf];omega
     ·have hkB:0<k:=by omega
      have hkD:decide (0<k)=true:=by simp;omega
      have hk1:(0:Int)<(k:Int):=by omega
      obtain⟨b',off',e',hb',p0,p1⟩:=Xr (hrow.cz hc hB) (k-1) (by omega)
      cases e'
      have hgeq:=wW (l[k-1]'(by omega)).key l[k].key
      have hkN:((k:Int) -1).toNat=k-1:=by omega
      have hi0:(0:Int)<=(k:Int) -1:=by omega
      have hi1:(k:Int) -1<(l.length:Int):=by omega
      have hiw:IntKind.i64.wrap ((k:Int) -1)=(k:Int) -1:=by simp [IntKind.wrap,IntKind.bits,IntKind.signed];omega
      by_cases n3:Op.bytesLess (l[k-1]'(by omega)).key.toList l[k].key.toList=true
      ·have CA:Hid (Ui l k hlt):=Qb ⟨n1,n2,fun _=>n3⟩
       clear n1 n2
       go_wp2_with fail
       go_quiet (first|(go_at_call 192;exact Calls.quiet_of_same (NM.out _))|fail)
       go_wp2_with fail
       go_roundw
       case rel=>exact⟨k+1,by omega,by go_num,fun j h hj=>(I7.1 hj).elim (HN.out j h) (fun e=>by subst e;exact CA.out),hc.tz (((B0 _ _).alloc _).drewN _)⟩
       case measure=>simp [intOf];omega
      ·have CA:Hid (¬Ui l k hlt):=Qb (fun h=>n3 (h.2.2 (by omega)))
       clear n1 n2
       go_wp2_with fail
       go_quiet (first|(go_at_call 192;exact Calls.quiet_of_same (NM.out _))|fail)
       go_wp2_with fail
       go_ret
       refine⟨_,rfl,⟨fun h=>by simp at h,fun h=>?_⟩,hc.tz (((B0 _ _).alloc _).drewN _)⟩
       exact(CA.out (h.2 k hlt)).elim
    ·have CA:Hid (¬Ui l k hlt):=Qb (fun h=>n2 h.2.1)
     by_cases v1:l[k].value<0
     ·have v2:decide (l[k].value<0)=true:=by simp;omega
      clear n1 n2
      go_wp2_with fail
      go_quiet (first|(go_at_call 192;exact Calls.quiet_of_same (NM.out _))|fail)
      go_wp2_with fail
      go_ret
      refine⟨_,rfl,⟨fun h=>by simp at h,fun h=>?_⟩,hc.tz (((B0 _ _).alloc _).drewN _)⟩
      exact(CA.out (h.2 k hlt)).elim
     ·have v2:999<l[k].value:=by unfold ZK at n2;omega
      have v3:0<=l[k].value:=by omega
      have v4:decide (l[k].value<0)=false:=by simp;omega
      have v5:decide (999<l[k].value)=true:=by simp;omega
      clear n1 n2 v1
      go_wp2_with fail
      go_quiet (first|(go_at_call 192;exact Calls.quiet_of_same (NM.out _))|fail)
      go_wp2_with fail
      go_ret
      refine⟨_,rfl,⟨fun h=>by simp at h,fun h=>?_⟩,hc.tz (((B0 _ _).alloc _).drewN _)⟩
      exact(CA.out (h.2 k hlt)).elim
   ·have CA:Hid (¬Ui l k hlt):=Qb (fun h=>n1 h.1)
    have NM:=Qb (fun W=>(hnm W).mono (QZ.neg n1))
    clear hnm n1
    go_wp2_with fail
    go_quiet (first|(go_at_call 192;exact Calls.quiet_of_same (NM.out _))|fail)
    go_wp2_with fail
    go_ret
    refine⟨_,rfl,⟨fun h=>by simp at h,fun h=>?_⟩,hc.tz (((B0 _ _).alloc _).drewN _)⟩
    exact(CA.out (h.2 k hlt)).elim
  ·obtain rfl:k=l.length:=by omega
   go_wp2_with fail
   go_ret
   refine⟨_,rfl,⟨fun h=>⟨by simp at h;omega,fun i h=>HN.out i h h⟩,fun h=>by have:=h.1;simp;omega⟩,hc⟩
theorem R4:type_of% @Qg.neg:=@Qg.neg
theorem O3:type_of% @Qg.pos:=@Qg.pos
theorem j2:type_of% @WU.of:=@WU.of
end Go.Proofs.YtfjhdnjlhjimeaaGreatDoor
