/- SameCore. Conditions: as stated. -/
import Derived.Test.YtlnkgcdeljhjcaaGreatDoorTypes
set_option maxRecDepth 100000
set_option maxHeartbeats 4000000
namespace Go.Proofs.YtlnkgcdeljhjcaaGreatDoor
open Go.RowKit

def Qg (p:Prop) (w:World) (e:Ending) (w':World):Prop:=∃t:Bool,e= .returned (.bool t)/\(t=true↔p)/\Qb [] w w'
theorem yT {a b:ByteArray} (h:a.toList=b.toList):a=b:=by
 rw [ByteArray.toList_eq,ByteArray.toList_eq] at h
 exact ByteArray.ext (Array.toList_inj.1 h)
theorem QeM {c d:QD} (h1:(!(c.key.toList==d.key.toList))=false) (h2:(!(c.value==d.value))=false):c=d:=by
 cases c;cases d
 simp at h1 h2
 simp [yT h1,h2]
theorem Qf4 (c d:QD) (W:World):(binOp .neq 189 (.agg #[.string c.key,.int .i64 c.value]) (.agg #[.string d.key,.int .i64 d.value])).run Tryz.prog W= .ok (.bool (!(c.key.toList==d.key.toList&&c.value==d.value))) W:=by
 have h:∀n:Nat,(Op.equalIn (n+2) 189 (.agg #[.string c.key,.int .i64 c.value]) (.agg #[.string d.key,.int .i64 d.value])).run Tryz.prog W= .ok (c.key.toList==d.key.toList&&c.value==d.value) W:=fun n=>by
  rw [run_equalIn_struct W (n+1) 189 _ _ (by simp only [Program.fieldsOf,Tryz.underlying189]) (by kernel_rfl)]
  simp [go_sem,Program.fieldsOf,Tryz.underlying189]
  by_cases h1:c.key.toList=d.key.toList<;>by_cases h2:c.value=d.value<;>simp [h1,h2]
 simp only [binOp]
 simp [Op.equal,Op.maxDepth,h 9998]
theorem QeG {c d:ZW} (h1:(!(c.name.toList==d.name.toList))=false) (h2:(!(c.count==d.count))=false):c=d:=by
 cases c;cases d
 simp at h1 h2
 simp [yT h1,h2]
theorem Qep (c d:ZW) (W:World):(binOp .neq 129 (.agg #[.string c.name,.int .i64 c.count]) (.agg #[.string d.name,.int .i64 d.count])).run Tryz.prog W= .ok (.bool (!(c.name.toList==d.name.toList&&c.count==d.count))) W:=by
 have h:∀n:Nat,(Op.equalIn (n+2) 129 (.agg #[.string c.name,.int .i64 c.count]) (.agg #[.string d.name,.int .i64 d.count])).run Tryz.prog W= .ok (c.name.toList==d.name.toList&&c.count==d.count) W:=fun n=>by
  rw [run_equalIn_struct W (n+1) 129 _ _ (by simp only [Program.fieldsOf,Tryz.underlying129]) (by kernel_rfl)]
  simp [go_sem,Program.fieldsOf,Tryz.underlying129]
  by_cases h1:c.name.toList=d.name.toList<;>by_cases h2:c.count=d.count<;>simp [h1,h2]
 simp only [binOp]
 simp [Op.equal,Op.maxDepth,h 9998]
theorem ut {α:Type} {l m:List α} {k:Nat} (h:l.take k=m.take k) (hl:k<l.length) (hm:k<m.length) (e:l[k]=m[k]):l.take (k+1)=m.take (k+1):=by
 rw [List.take_succ_eq_append_getElem hl,List.take_succ_eq_append_getElem hm,h,e]

theorem qE (a b:ZR) (u3 v3:Value) (B B':Nat) (w:World) (r3:Rd w B (cells a.cells) u3) (s3:Rd w B' (cells b.cells) v3) (hB:B<=w.heap.size) (hB':B'<=w.heap.size):
  Calls Tryz.prog 73 #[.agg #[.string a.kind,.bool a.on,.bool a.broken,u3,.int .i64 a.count],.agg #[.string b.kind,.bool b.on,.bool b.broken,v3,.int .i64 b.count]] w (Qg (a=b) w):=by
 obtain⟨A,cap,rfl,h0,h1,hrow⟩:=Za r3
 obtain⟨A',cap',rfl,h0',h1',hrow'⟩:=Za s3
 unfold maxLen at h1 h1'
 by_cases hl:a.cells.length=b.cells.length
 ·have hlB:((a.cells.length:Int) !=b.cells.length)=false:=by simp;omega
  have HL:=Qd hl
  clear hl
  go_enter Tryz.func73,Tryz.ntmps73
  go_wp2_with fail
  all_goals try(go_ret;refine⟨false,rfl,⟨(fun h=>by cases h),(fun h=>?_)⟩,((Qb.refl _ _).alloc _).alloc _⟩;first|exact absurd (congrArg (fun c:ZR=>c.kind.toList) h) (by assumption)|exact absurd (congrArg ZR.on h) (by assumption)|exact absurd (congrArg ZR.broken h) (by assumption)|exact absurd (congrArg ZR.count h) (by assumption))
  rename_i hk ho hbr hco K aK
  have HK:=Qd hk;have HO:=Qd ho;have HBR:=Qd hbr;have HCO:=Qd hco
  clear hk ho hbr hco
  go_loopw [44] (fun i wr=>∃(k:Nat),k<=a.cells.length/\i= .int .i64 k/\wr.cell? ⟨w.heap.size,3,none⟩=some (.slice A a.cells.length cap)/\wr.cell? ⟨w.heap.size+1,3,none⟩=some (.slice A' b.cells.length cap')/\Qb [] w wr/\Hid (a.cells.take k=b.cells.take k)) (fun i _=>a.cells.length-(intOf i).toNat)
  case atStart=>exact⟨0,Nat.zero_le _,rfl,by go_simp,by go_simp,((Qb.refl _ _).alloc _).alloc _,by simp [Hid]⟩
  case round=>
   obtain⟨k,hk',rfl,z1,z2,hc,hq⟩:=hrel
   by_cases hlt:k<a.cells.length
   ·have hlt':k<b.cells.length:=by have:=HL.out;omega
    obtain⟨b1,off1,rfl,hb1,q0,q1⟩:=Xr (hrow.cz hc hB) k hlt
    obtain⟨b2,off2,rfl,hb2,p0,p1⟩:=Xr (hrow'.cz hc hB') k hlt'
    have hne:=fun W=>Qf4 a.cells[k] b.cells[k] W
    go_wp2_with fail
    go_quiet (fail)
    clear hne
    go_wp2_with fail
    ·go_ret
     have hd:= ‹((!(a.cells[k].key.toList==b.cells[k].key.toList))=true∨(!(a.cells[k].value==b.cells[k].value))=true)›
     exact⟨false,rfl,⟨(fun h=>by cases h),(fun h=>by subst h;rcases hd with h1|h1<;>simp at h1)⟩,hc.drewN _⟩
    ·have hd:= ‹((!(a.cells[k].key.toList==b.cells[k].key.toList))=false/\(!(a.cells[k].value==b.cells[k].value))=false)›
     have he:=QeM hd.1 hd.2
     have HE:=Qd he
     clear he
     go_roundw
     case rel=>exact⟨k+1,by omega,by go_num,z1,z2,hc.drewN _,ut hq.out hlt hlt' HE.out⟩
     case measure=>simp [intOf];omega
   ·obtain rfl:k=a.cells.length:=by omega
    go_wp2_with fail
    go_ret
    refine⟨true,rfl,⟨fun _=>?_,fun _=>rfl⟩,hc⟩
    have h1:=hq.out
    rw [List.take_length,HL.out,List.take_length] at h1
    cases a;cases b
    simp only [ZR.mk.injEq]
    exact⟨yT HK.out,HO.out,HBR.out,h1,HCO.out⟩
 ·have hlB:((a.cells.length:Int) !=b.cells.length)=true:=by simp;omega
  go_enter Tryz.func73,Tryz.ntmps73
  go_wp2_with fail
  all_goals(go_ret;exact⟨false,rfl,⟨(fun h=>by cases h),(fun h=>absurd (congrArg (fun c:ZR=>c.cells.length) h) hl)⟩,((Qb.refl _ _).alloc _).alloc _⟩)
theorem GV (a b:Qh) (u3 u5 v3 v5:Value) (B B':Nat) (w:World) (r3:Rd w B (cells a.core.cells) u3) (r5:Rd w B (layers a.layers) u5) (s3:Rd w B' (cells b.core.cells) v3) (s5:Rd w B' (layers b.layers) v5) (hB:B<=w.heap.size) (hB':B'<=w.heap.size):
  Calls Tryz.prog 48 #[.agg #[.string a.core.kind,.bool a.core.on,.bool a.core.broken,u3,.int .i64 a.core.count,u5],.agg #[.string b.core.kind,.bool b.core.on,.bool b.core.broken,v3,.int .i64 b.core.count,v5]] w (Qg (a=b) w):=by
 obtain⟨A,cap,rfl,h0,h1,hrow⟩:=Xa r5
 obtain⟨A',cap',rfl,h0',h1',hrow'⟩:=Xa s5
 obtain⟨A3,cap3,rfl,_,_,_⟩:=Za r3
 obtain⟨A3',cap3',rfl,_,_,_⟩:=Za s3
 unfold maxLen at h1 h1'
 go_enter Tryz.func48,Tryz.ntmps48
 go_wp2_with fail
 refine(qE a.core b.core _ _ B B' _ (r3.cz (((Qb.refl _ _).alloc _).alloc _) hB) (s3.cz (((Qb.refl _ _).alloc _).alloc _) hB') (by simp;omega) (by simp;omega)).mono ?_;rintro e w1 ⟨t,rfl,ht,c1⟩
 obtain⟨y1,_,z1⟩:=c1.cells
 have d1:Qb [] w w1:=Qb.tz (((Qb.refl _ _).alloc _).alloc _) c1
 have t1:w.heap.size+1<w1.heap.size:=by simp at z1;omega
 have t1':w.heap.size<w1.heap.size:=by omega
 have k1:w1.cell? ⟨w.heap.size,5,none⟩=some (.slice A a.layers.length cap):=(y1 w.heap.size 5 (by simp;omega)).trans (by go_simp)
 have k2:w1.cell? ⟨w.heap.size+1,5,none⟩=some (.slice A' b.layers.length cap'):=(y1 (w.heap.size+1) 5 (by simp)).trans (by go_simp)
 clear y1 z1 c1
 cases t
 ·have hne:¬a.core=b.core:=fun h=>by have:=ht.2 h;cases this
  have HN:=Qd hne
  clear hne ht
  go_wp2_with fail
  go_ret
  exact⟨false,rfl,⟨(fun h=>by cases h),(fun h=>absurd (congrArg Qh.core h) HN.out)⟩,d1⟩
 ·have hco:=Qd (ht.1 rfl)
  clear ht
  by_cases hl:a.layers.length=b.layers.length
  ·have hlB:((a.layers.length:Int) !=b.layers.length)=false:=by simp;omega
   have HL:=Qd hl
   clear hl
   go_wp2_with fail
   go_loopw [24] (fun i wr=>∃(k:Nat),k<=a.layers.length/\i= .int .i64 k/\wr.cell? ⟨w.heap.size,5,none⟩=some (.slice A a.layers.length cap)/\wr.cell? ⟨w.heap.size+1,5,none⟩=some (.slice A' b.layers.length cap')/\Qb [] w wr/\Hid (a.layers.take k=b.layers.take k)) (fun i _=>a.layers.length-(intOf i).toNat)
   case atStart=>exact⟨0,Nat.zero_le _,rfl,k1,k2,d1,by simp [Hid]⟩
   case round=>
    clear k1 k2
    obtain⟨k,hk',rfl,z1,z2,hc,hq⟩:=hrel
    by_cases hlt:k<a.layers.length
    ·have hlt':k<b.layers.length:=by have:=HL.out;omega
     obtain⟨b1,off1,rfl,hb1,q0,q1⟩:=YR (hrow.cz hc hB) k hlt
     obtain⟨b2,off2,rfl,hb2,p0,p1⟩:=YR (hrow'.cz hc hB') k hlt'
     have hne:=fun W=>Qep a.layers[k] b.layers[k] W
     go_wp2_with fail
     go_quiet (fail)
     clear hne
     go_wp2_with fail
     ·go_ret
      have hd:= ‹((!(a.layers[k].name.toList==b.layers[k].name.toList))=true∨(!(a.layers[k].count==b.layers[k].count))=true)›
      exact⟨false,rfl,⟨(fun h=>by cases h),(fun h=>by subst h;rcases hd with h1|h1<;>simp at h1)⟩,hc.drewN _⟩
     ·have hd:= ‹((!(a.layers[k].name.toList==b.layers[k].name.toList))=false/\(!(a.layers[k].count==b.layers[k].count))=false)›
      have he:=QeG hd.1 hd.2
      have HE:=Qd he
      clear he
      go_roundw
      case rel=>exact⟨k+1,by omega,by go_num,z1,z2,hc.drewN _,ut hq.out hlt hlt' HE.out⟩
      case measure=>simp [intOf];omega
    ·obtain rfl:k=a.layers.length:=by omega
     go_wp2_with fail
     go_ret
     refine⟨true,rfl,⟨fun _=>?_,fun _=>rfl⟩,hc⟩
     have h1:=hq.out
     rw [List.take_length,HL.out,List.take_length] at h1
     have h2:=hco.out
     cases a;cases b
     simp only [Qh.mk.injEq]
     exact⟨h2,h1⟩
  ·have hlB:((a.layers.length:Int) !=b.layers.length)=true:=by simp;omega
   go_wp2_with fail
   go_ret
   exact⟨false,rfl,⟨(fun h=>by cases h),(fun h=>absurd (congrArg (fun c:Qh=>c.layers.length) h) hl)⟩,d1⟩
def QaP (w wr:World):Prop:=wr=w
def Zm (p:Prop) (w:World) (e:Ending) (w':World):Prop:=∃t:Bool,e= .returned (.bool t)/\(t=true↔p)/\w'=w
theorem Zm.pos {p:Prop} {w:World} (h:p) (e:Ending) (w':World) (hb:Zm p w e w'):e= .returned (.bool true)/\w'=w:=by
 obtain⟨t,rfl,ht,c⟩:=hb
 obtain rfl:t=true:=ht.2 h
 exact⟨rfl,c⟩
theorem Zm.neg {p:Prop} {w:World} (h:¬p) (e:Ending) (w':World) (hb:Zm p w e w'):e= .returned (.bool false)/\w'=w:=by
 obtain⟨t,rfl,ht,c⟩:=hb
 cases t
 ·exact⟨rfl,c⟩
 ·exact absurd (ht.1 rfl) h
theorem Qg.pos {p:Prop} {w:World} (h:p) (e:Ending) (w':World) (hb:Qg p w e w'):e= .returned (.bool true)/\Qb [] w w':=by
 obtain⟨t,rfl,ht,c⟩:=hb
 obtain rfl:t=true:=ht.2 h
 exact⟨rfl,c⟩
theorem Qg.neg {p:Prop} {w:World} (h:¬p) (e:Ending) (w':World) (hb:Qg p w e w'):e= .returned (.bool false)/\Qb [] w w':=by
 obtain⟨t,rfl,ht,c⟩:=hb
 cases t
 ·exact⟨rfl,c⟩
 ·exact absurd (ht.1 rfl) h
theorem Zm.chg {p:Prop} {w:World} (e:Ending) (w':World) (hb:Zm p w e w'):Qg p w e w':=by
 obtain⟨t,rfl,ht,rfl⟩:=hb
 exact⟨t,rfl,ht,Qb.refl _ _⟩
def U1 (i:Nat) (b:UInt8):Prop:=(97<=b.toNat/\b.toNat<=122)∨(0<i/\48<=b.toNat/\b.toNat<=57)
def qc (s:ByteArray):Prop:=1<=s.size/\s.size<=8/\∀(i:Nat) (h:i<s.size),U1 i s[i]
def ZM (n:Int):Prop:=0<=n/\n<=999

theorem jz (b:UInt8) (first:Bool) (w:World):
  Calls Tryz.prog 251 #[.int .u8 b.toNat,.bool first] w (Zm ((97<=b.toNat/\b.toNat<=122)∨(first=false/\48<=b.toNat/\b.toNat<=57)) w):=by
 go_enter Tryz.func251,Tryz.ntmps251
 go_wp2_with fail
 all_goals(go_ret;refine⟨_,rfl,?_,rfl⟩;simp;try omega)
theorem XZ (n:Int) (w:World):
  Calls Tryz.prog 103 #[.int .i64 n] w (Zm (ZM n) w):=by
 go_enter Tryz.func103,Tryz.ntmps103
 go_wp2_with fail
 all_goals(go_ret;refine⟨_,rfl,?_,rfl⟩;unfold ZM;simp;try omega)
theorem KW (s:ByteArray) (w:World) (hs:s.size<=1048576):
  Calls Tryz.prog 232 #[.string s] w (Zm (qc s) w):=by
 go_enter Tryz.func232,Tryz.ntmps232
 go_wp2_with fail
 go_loopw [3] (fun i wr=>∃k:Nat,k<=s.size/\i= .int .i64 k/\(∀(j:Nat) (h:j<s.size),j<k->U1 j s[j])/\QaP w wr) (fun i _=>s.size-(intOf i).toNat)
 case atStart=>exact⟨0,Nat.zero_le _,rfl,fun j h h0=>absurd h0 (Nat.not_lt_zero _),rfl⟩
 case round=>
  obtain⟨k,hk,rfl,HN,rfl⟩:=hrel
  have HN:=Qd HN
  by_cases hlt:k<s.size
  ·go_wp2_with fail
   refine(jz s[k] ((k:Int)==0) wr).mono ?_
   rintro e w1 ⟨t,rfl,ht,rfl⟩
   have hb:t=true↔U1 k s[k]:=by
    rw [ht];unfold U1
    rw [beq_eq_false_iff_ne]
    omega
   have HT:=Qd hb
   clear ht hb
   cases t
   ·go_wp2_with fail
    go_ret
    refine⟨_,rfl,⟨fun h=>by simp at h,fun h=>?_⟩,rfl⟩
    have:=HT.out.2 (h.2.2 k hlt)
    simp at this
   ·go_wp2_with fail
    go_roundw
    case rel=>exact⟨k+1,by omega,by go_num,fun j h hj=>(Nat.lt_succ_iff_lt_or_eq.1 hj).elim (HN.out j h) (fun e=>by subst e;exact HT.out.1 (by simp)),rfl⟩
    case measure=>simp [intOf];omega
  ·obtain rfl:k=s.size:=by omega
   go_wp2_with fail
   all_goals(go_ret;refine⟨_,rfl,?_,rfl⟩;have hall:∀(i:Nat) (h:i<s.size),U1 i s[i]:=fun i h=>HN.out i h h;unfold qc;simp [hall];try omega)
theorem KT (s:ByteArray) (w:World) (hs:s.size<=1048576):
  Calls Tryz.prog 174 #[.string s] w (Zm (qc s) w):=by
 go_enter Tryz.func174,Tryz.ntmps174
 go_wp2_with fail
 ·go_ret
  refine⟨_,rfl,⟨fun h=>by simp at h,fun h=>?_⟩,rfl⟩
  have h0:0<s.size:=by assumption
  have:=h.1;have:=h.2.1;have:=h.2.2 0 h0;unfold U1 at this;omega
 ·go_loopw [3] (fun i wr=>∃k:Nat,k<=s.size/\i= .int .i64 k/\(∀(j:Nat) (h:j<s.size),j<k->U1 j s[j])/\QaP w wr) (fun i _=>s.size-(intOf i).toNat)
  case atStart=>exact⟨0,Nat.zero_le _,rfl,fun j h h0=>absurd h0 (Nat.not_lt_zero _),rfl⟩
  case round=>
   obtain⟨k,hk,rfl,HN,rfl⟩:=hrel
   have HN:=Qd HN
   by_cases hlt:k<s.size
   ·have hk0:k=0->97<=s[k].toNat/\s[k].toNat<=122:=fun e=>by subst e;omega
    go_wp2_with fail
    all_goals first
     | (go_roundw
        case rel=>exact⟨k+1,by omega,by go_num,fun j h hj=>(Nat.lt_succ_iff_lt_or_eq.1 hj).elim (HN.out j h) (fun e=>by subst e;unfold U1;omega),rfl⟩
        case measure=>simp [intOf];omega)
     | (go_ret
        refine⟨_,rfl,⟨fun h=>by simp at h,fun h=>?_⟩,rfl⟩
        have:=h.2.2 k hlt;unfold U1 at this;omega)
   ·obtain rfl:k=s.size:=by omega
    go_wp2_with fail
    go_ret
    refine⟨_,rfl,⟨fun _=>⟨by omega,by omega,fun i h=>HN.out i h h⟩,fun _=>rfl⟩,rfl⟩
 all_goals
  go_ret
  refine⟨_,rfl,⟨fun h=>by simp at h,fun h=>?_⟩,rfl⟩
  have:=h.1;have:=h.2.1
  first
   |omega
   |(have:=h.2.2 0 (by omega);unfold U1 at this;omega)
def look {α:Type} (s:List UInt8):List (List UInt8×α)->Option α
 | []=>none
 |(n,x)::r=>if s=n then some x else look s r
def kinds:List (List UInt8×Int):=[([115,116,111,110,101],0),([108,97,109,112],1),([115,104,101,108,102],2),([109,101,116,101,114],5),([100,114,97,119,101,114],3),([104,111,114,110],9),([118,97,117,108,116],19),([114,111,98,111,116],63)]
def Qq (s:ByteArray):Option Int:=look s.toList kinds
def Yh:List (List UInt8×(Int×Int)):=[([112,108,97,105,110],(0,0)),([114,117,110,115],(1,1)),([107,101,101,112,115],(2,2)),([99,111,117,110,116,115],(2,6)),([108,97,122,121],(3,3)),([114,101,97,100,115],(2,2)),([104,101,97,114,115],(1,9)),([104,101,97,108,115],(1,33)),([116,119,105,99,101],(4,4))]
def Qk (s:ByteArray):Option (Int×Int):=look s.toList Yh
def Wv (o:Option Int) (w:World) (e:Ending) (w':World):Prop:=e= .returned (.tuple #[.int .i64 (o.getD 0),.bool o.isSome])/\w'=w
def YS (o:Option (Int×Int)) (w:World) (e:Ending) (w':World):Prop:=e= .returned (.tuple #[.int .i64 (o.getD (0,0)).1,.int .i64 (o.getD (0,0)).2,.bool o.isSome])/\w'=w
def Xv (o:Option Int) (w:World) (e:Ending) (w':World):Prop:=e= .returned (.tuple #[.int .i64 (o.getD 0),.bool o.isSome])/\Qb [] w w'
def Jv (o:Option (Int×Int)) (w:World) (e:Ending) (w':World):Prop:=e= .returned (.tuple #[.int .i64 (o.getD (0,0)).1,.int .i64 (o.getD (0,0)).2,.bool o.isSome])/\Qb [] w w'
theorem Xv.of {f o:Option Int} {w w':World} {e:Ending} (h:f=o) (he:e= .returned (.tuple #[.int .i64 (o.getD 0),.bool o.isSome])) (hc:Qb [] w w'):Xv f w e w':=by subst h;exact⟨he,hc⟩
theorem Jv.of {f o:Option (Int×Int)} {w w':World} {e:Ending} (h:f=o) (he:e= .returned (.tuple #[.int .i64 (o.getD (0,0)).1,.int .i64 (o.getD (0,0)).2,.bool o.isSome])) (hc:Qb [] w w'):Jv f w e w':=by subst h;exact⟨he,hc⟩
theorem Wv.of {f o:Option Int} {w w':World} {e:Ending} (h:f=o) (he:e= .returned (.tuple #[.int .i64 (o.getD 0),.bool o.isSome])) (hc:w'=w):Wv f w e w':=by subst h;exact⟨he,hc⟩
theorem YS.of {f o:Option (Int×Int)} {w w':World} {e:Ending} (h:f=o) (he:e= .returned (.tuple #[.int .i64 (o.getD (0,0)).1,.int .i64 (o.getD (0,0)).2,.bool o.isSome])) (hc:w'=w):YS f w e w':=by subst h;exact⟨he,hc⟩
theorem Vo {α:Type} {s n:List UInt8} {x:α} {r:List (List UInt8×α)} (h:(s==n)=true):look s ((n,x)::r)=some x:=if_pos (by simpa using h)
theorem Y8 {α:Type} {s n:List UInt8} {x:α} {r:List (List UInt8×α)} (h:(s==n)=false):look s ((n,x)::r)=look s r:=if_neg (by simpa using h)
theorem WC {α:Type} {s:List UInt8}:look s ([]:List (List UInt8×α))=none:=rfl
theorem Yq {s:ByteArray} {l:List UInt8} {x:Int×Int} (h:look l Yh=some x) (hs:(s.toList==l)=true):Qk s=some x:=by
 rw [Qk,beq_iff_eq.1 hs,h]
theorem kT {α:Type} {s:List UInt8}:∀ {l:List (List UInt8×α)} {k:Nat} {x:List UInt8×α},l[k]?=some x->(∀j y,j<k->l[j]?=some y->s≠y.1)->s=x.1->look s l=some x.2
 | [],k,x,h,_,_=>by simp at h
 |y::l,0,x,h,_,e=>by simp at h;subst h;rw [look,if_pos e]
 |y::l,k+1,x,h,hn,e=>by
  rw [look,if_neg (hn 0 y (by omega) rfl)]
  exact kT (k:=k) (by simpa using h) (fun j z hj hz=>hn (j+1) z (by omega) (by simpa using hz)) e
theorem qS {α:Type} {s:List UInt8}:∀ {l:List (List UInt8×α)},(∀j y,j<l.length->l[j]?=some y->s≠y.1)->look s l=none
 | [],_=>rfl
 |y::l,h=>by
  rw [look,if_neg (h 0 y (by simp) rfl)]
  exact qS (fun j z hj hz=>h (j+1) z (by simpa using hj) (by simpa using hz))
theorem Xj (w:World) (vs:Array Value) (e:TypeId) {k:Nat} {v:Value} (h:vs[k]?=some v):(w.alloc (.cells vs e)).cell? ⟨w.heap.size,k,none⟩=some v:=by
 rw [cell_of_row (w.alloc (.cells vs e)) w.heap.size k vs e (0,0) (heap_alloc_new w _)]
 exact h

theorem ZP (s:ByteArray) (w:World):
  Calls Tryz.prog 114 #[.string s] w (Wv (Qq s) w):=by
 go_enter Tryz.func114,Tryz.ntmps114
 go_wp2_with fail
 ·go_ret2
  exact Wv.of (o:=some 0) (by unfold Qq kinds;repeat(first|exact Vo (by assumption)|refine Eq.trans (Y8 (by assumption)) ?_|exact WC)) rfl rfl
 ·go_ret2
  exact Wv.of (o:=some 1) (by unfold Qq kinds;repeat(first|exact Vo (by assumption)|refine Eq.trans (Y8 (by assumption)) ?_|exact WC)) rfl rfl
 ·go_ret2
  exact Wv.of (o:=some 2) (by unfold Qq kinds;repeat(first|exact Vo (by assumption)|refine Eq.trans (Y8 (by assumption)) ?_|exact WC)) rfl rfl
 ·go_ret2
  exact Wv.of (o:=some 5) (by unfold Qq kinds;repeat(first|exact Vo (by assumption)|refine Eq.trans (Y8 (by assumption)) ?_|exact WC)) rfl rfl
 ·go_ret2
  exact Wv.of (o:=some 3) (by unfold Qq kinds;repeat(first|exact Vo (by assumption)|refine Eq.trans (Y8 (by assumption)) ?_|exact WC)) rfl rfl
 ·go_ret2
  exact Wv.of (o:=some 9) (by unfold Qq kinds;repeat(first|exact Vo (by assumption)|refine Eq.trans (Y8 (by assumption)) ?_|exact WC)) rfl rfl
 ·go_ret2
  exact Wv.of (o:=some 19) (by unfold Qq kinds;repeat(first|exact Vo (by assumption)|refine Eq.trans (Y8 (by assumption)) ?_|exact WC)) rfl rfl
 ·go_ret2
  exact Wv.of (o:=some 63) (by unfold Qq kinds;repeat(first|exact Vo (by assumption)|refine Eq.trans (Y8 (by assumption)) ?_|exact WC)) rfl rfl
 ·go_ret2
  exact Wv.of (o:=none) (by unfold Qq kinds;repeat(first|exact Vo (by assumption)|refine Eq.trans (Y8 (by assumption)) ?_|exact WC)) rfl rfl
theorem XY (s:ByteArray) (w:World):
  Calls Tryz.prog 100 #[.string s] w (YS (Qk s) w):=by
 go_enter Tryz.func100,Tryz.ntmps100
 go_wp2_with fail
 all_goals
  go_ret3
  first
   | (exfalso
      have h1:(s.toList== [107,101,101,112,115])=true:=by assumption
      have h2:(s.toList== [107,101,101,112,115])=false:=by assumption
      rw [h1] at h2
      cases h2)
   |exact YS.of (o:=some (0,0)) (Yq (l:=[112,108,97,105,110]) rfl (by assumption)) rfl rfl
   |exact YS.of (o:=some (1,1)) (Yq (l:=[114,117,110,115]) rfl (by assumption)) rfl rfl
   |exact YS.of (o:=some (2,2)) (Yq (l:=[107,101,101,112,115]) rfl (by assumption)) rfl rfl
   |exact YS.of (o:=some (2,6)) (Yq (l:=[99,111,117,110,116,115]) rfl (by assumption)) rfl rfl
   |exact YS.of (o:=some (3,3)) (Yq (l:=[108,97,122,121]) rfl (by assumption)) rfl rfl
   |exact YS.of (o:=some (2,2)) (Yq (l:=[114,101,97,100,115]) rfl (by assumption)) rfl rfl
   |exact YS.of (o:=some (1,9)) (Yq (l:=[104,101,97,114,115]) rfl (by assumption)) rfl rfl
   |exact YS.of (o:=some (1,33)) (Yq (l:=[104,101,97,108,115]) rfl (by assumption)) rfl rfl
   |exact YS.of (o:=some (4,4)) (Yq (l:=[116,119,105,99,101]) rfl (by assumption)) rfl rfl
   |exact YS.of (o:=none) (by unfold Qk Yh;repeat(first|refine Eq.trans (Y8 (by assumption)) ?_|exact WC)) rfl rfl
def yO {α:Type} (w:World) (g:Nat) (l:List (List UInt8×α)):Prop:=∀j y,l[j]?=some y->w.cell? ⟨g,j,none⟩=some (.string ⟨y.1.toArray⟩)
theorem vM (w:World) (e:TypeId):yO (w.alloc (.cells (kinds.map fun y=>Value.string ⟨y.1.toArray⟩).toArray e)) w.heap.size kinds:=by
 intro j y hj
 exact Xj _ _ _ (by simp [hj])
theorem xH (w:World) (e:TypeId):yO (w.alloc (.cells (Yh.map fun y=>Value.string ⟨y.1.toArray⟩).toArray e)) w.heap.size Yh:=by
 intro j y hj
 exact Xj _ _ _ (by simp [hj])
theorem QR (s:ByteArray) (w:World):
  Calls Tryz.prog 123 #[.string s] w (Xv (Qq s) w):=by
 go_enter Tryz.func123,Tryz.ntmps123
 go_wp2_with fail
 go_loopw [8] (fun i wr=>∃k:Nat,k<=8/\i= .int .i64 k/\(∀j y,j<k->kinds[j]?=some y->s.toList≠y.1)/\Qb [] w wr/\w.heap.size<wr.heap.size/\yO wr w.heap.size kinds) (fun i _=>8-(intOf i).toNat)
 case atStart=>exact⟨0,by omega,rfl,fun j y h=>absurd h (Nat.not_lt_zero _),(Qb.refl _ _).alloc _,by simp,vM w _⟩
 case round=>
  obtain⟨k,hk,rfl,HN,hc,hg,HA⟩:=hrel
  have HN:=Qd HN
  have HA:=Qd HA
  by_cases hlt:k<8
  ·obtain⟨y,hy⟩:∃y,kinds[k]?=some y:=⟨kinds[k]'hlt,List.getElem?_eq_getElem hlt⟩
   have hcell:=HA.out k y hy
   have HY:=Qd hy
   clear hy
   go_wp2_with fail
   ·go_ret2
    apply Xv.of
    case h=>exact kT HY.out HN.out (beq_iff_eq.1 (by assumption)).symm
    case he=>
     have hy:=HY.out
     match k,hlt,hy with
     |0,_,hy|1,_,hy|2,_,hy|3,_,hy|4,_,hy|5,_,hy|6,_,hy|7,_,hy=>cases hy;rfl
    case hc=>exact hc.alloc _
   ·go_roundw
    case rel=>exact⟨k+1,by omega,by go_num,fun j z hj hz=>(Nat.lt_succ_iff_lt_or_eq.1 hj).elim (fun h=>HN.out j z h hz) (fun e=>by subst e;have:=HY.out;rw [hz] at this;cases this;exact fun e=>by simp_all),hc,hg,HA.out⟩
    case measure=>simp [intOf];omega
  ·obtain rfl:k=8:=by omega
   go_wp2_with fail
   go_ret2
   exact Xv.of (qS (fun j y hj hy=>HN.out j y (by simpa [kinds] using hj) hy)) rfl hc
theorem Qez (s:ByteArray) (w:World):
  Calls Tryz.prog 127 #[.string s] w (Jv (Qk s) w):=by
 go_enter Tryz.func127,Tryz.ntmps127
 go_wp2_with fail
 go_loopw [11] (fun i wr=>∃k:Nat,k<=9/\i= .int .i64 k/\(∀j y,j<k->Yh[j]?=some y->s.toList≠y.1)/\Qb [] w wr/\w.heap.size<wr.heap.size/\yO wr w.heap.size Yh) (fun i _=>9-(intOf i).toNat)
 case atStart=>exact⟨0,by omega,rfl,fun j y h=>absurd h (Nat.not_lt_zero _),(Qb.refl _ _).alloc _,by simp,xH w _⟩
 case round=>
  obtain⟨k,hk,rfl,HN,hc,hg,HA⟩:=hrel
  have HN:=Qd HN
  have HA:=Qd HA
  by_cases hlt:k<9
  ·obtain⟨y,hy⟩:∃y,Yh[k]?=some y:=⟨Yh[k]'hlt,List.getElem?_eq_getElem hlt⟩
   have hcell:=HA.out k y hy
   have HY:=Qd hy
   clear hy
   go_wp2_with fail
   ·go_region
    all_goals(try go_wp2)
    all_goals
     go_ret3
     apply Jv.of
     case h=>exact kT HY.out HN.out (beq_iff_eq.1 (by assumption)).symm
     case he=>
      have hy:=HY.out
      match k,hlt,hy with
      |0,_,hy|1,_,hy|2,_,hy|3,_,hy|4,_,hy|5,_,hy|6,_,hy|7,_,hy|8,_,hy=>cases hy;rfl
     case hc=>first|exact((hc.drew.alloc _).alloc _)|exact((hc.alloc _).alloc _).drew|exact((hc.alloc _).drew.alloc _)
   ·go_roundw
    case rel=>exact⟨k+1,by omega,by go_num,fun j z hj hz=>(Nat.lt_succ_iff_lt_or_eq.1 hj).elim (fun h=>HN.out j z h hz) (fun e=>by subst e;have:=HY.out;rw [hz] at this;cases this;exact fun e=>by simp_all),hc,hg,HA.out⟩
    case measure=>simp [intOf];omega
  ·obtain rfl:k=9:=by omega
   go_wp2_with fail
   go_ret3
   exact Jv.of (qS (fun j y hj hy=>HN.out j y (by simpa [Yh] using hj) hy)) rfl hc
theorem QP (s:ByteArray) (w:World):
  Calls Tryz.prog 131 #[.string s] w (Xv ((Qk s).map (·.1)) w):=by
 go_enter Tryz.func131,Tryz.ntmps131
 go_wp2_with fail
 refine(Qez s w).mono ?_
 rintro e w1 ⟨rfl,c1⟩
 go_wp2_with fail
 go_ret2
 refine⟨?_,c1⟩
 cases Qk s<;>rfl
def zV (f:Int):Prop:=0<=f/\f<=63
def has (f:Int) (k:Nat):Bool:=f / (2 ^ k:Nat) % 2==1
def ZN (f want:Int):Prop:=zV f/\zV want/\∀k:Fin 6,has want k=true->has f k=true
instance (f want:Int):Decidable (ZN f want):=inferInstanceAs (Decidable ((_/\_)/\(_/\_)/\_))

theorem QbP:∀f g:Fin 64,(bits .andNot .i64 ((g.1:Nat):Int) ((f.1:Nat):Int)==0)=decide (∀k:Fin 6,has ((g.1:Nat):Int) k=true->has ((f.1:Nat):Int) k=true):=by decide+kernel

theorem yy (f:Int) (w:World):
  Calls Tryz.prog 181 #[.int .i64 f] w (Zm (zV f) w):=by
 go_enter Tryz.func181,Tryz.ntmps181
 go_wp2_with fail
 all_goals(go_ret;refine⟨_,rfl,?_,rfl⟩;unfold zV;simp;try omega)
theorem V0 (f:Int) (w:World):
  Calls Tryz.prog 108 #[.int .i64 f] w (Zm (zV f) w):=by
 go_enter Tryz.func108,Tryz.ntmps108
 go_wp2_with fail
 all_goals(go_ret;refine⟨_,rfl,?_,rfl⟩;unfold zV;simp;try omega)
theorem Xq (f want:Int) (w:World):
  Calls Tryz.prog 101 #[.int .i64 f,.int .i64 want] w (Zm (ZN f want) w):=by
 go_enter Tryz.func101,Tryz.ntmps101
 go_wp2_with fail
 refine(V0 f w).mono ?_
 rintro e w1 ⟨t,rfl,ht,rfl⟩
 have HT:=Qd ht
 clear ht
 cases t
 ·go_wp2_with fail
  go_ret
  refine⟨_,rfl,⟨fun h=>by simp at h,fun h=>?_⟩,rfl⟩
  have:=HT.out.2 h.1;simp at this
 ·go_wp2_with fail
  refine(V0 want w1).mono ?_
  rintro e w2 ⟨t,rfl,ht2,rfl⟩
  have HT2:=Qd ht2
  clear ht2
  cases t
  ·go_wp2_with fail
   go_ret
   refine⟨_,rfl,⟨fun h=>by simp at h,fun h=>?_⟩,rfl⟩
   have:=HT2.out.2 h.2.1;simp at this
  ·obtain⟨f0,f1⟩:=HT.out.1 (by simp)
   obtain⟨g0,g1⟩:=HT2.out.1 (by simp)
   go_wp2_with fail
   go_ret
   refine⟨_,rfl,?_,rfl⟩
   have:=QbP ⟨f.toNat,by omega⟩ ⟨want.toNat,by omega⟩
   simp only [Int.toNat_of_nonneg f0,Int.toNat_of_nonneg g0] at this
   rw [this]
   unfold ZN zV
   simp only [decide_eq_true_eq]
   exact⟨fun h=>⟨⟨f0,f1⟩,⟨g0,g1⟩,h⟩,fun h=>h.2.2⟩
def VM (l:List QD) (k:Nat) (h:k<l.length):Prop:=qc l[k].key/\ZM l[k].value/\(0<k->Op.bytesLess (l[k-1]'(by omega)).key.toList l[k].key.toList=true)
def Zy (l:List QD):Prop:=l.length<=4/\∀(k:Nat) (h:k<l.length),VM l k h
theorem xS (a b:ByteArray) (W:World):(binOp .geq 9 (.string a) (.string b)).run Tryz.prog W= .ok (.bool (!Op.bytesLess a.toList b.toList)) W:=by
 simp [binOp,go_sem,Op.stringOp]
theorem YI (l:List QD) (u:Value) (B:Nat) (w:World) (r:Rd w B (cells l) u) (hB:B<=w.heap.size) (hl:l.length<=1048576) (hs:∀c∈l,c.key.size<=1048576):
  Calls Tryz.prog 163 #[u] w (Qg (Zy l) w):=by
 obtain⟨A,cap,rfl,h0,h1,hrow⟩:=Za r
 unfold maxLen at h1
 clear r
 go_enter Tryz.func163,Tryz.ntmps163
 go_wp2_with fail
 ·go_ret
  refine⟨_,rfl,⟨fun h=>by simp at h,fun h=>?_⟩,Qb.refl _ _⟩
  have:=h.1;omega
 ·have hl4:l.length<=4:=by omega
  go_loopw [10] (fun i wr=>∃k:Nat,k<=l.length/\i= .int .i64 k/\(∀(j:Nat) (h:j<l.length),j<k->VM l j h)/\Qb [] w wr) (fun i _=>l.length-(intOf i).toNat)
  case atStart=>exact⟨0,Nat.zero_le _,rfl,fun j h h0=>absurd h0 (Nat.not_lt_zero _),Qb.refl _ _⟩
  case round=>
   obtain⟨k,hk,rfl,HN,hc⟩:=hrel
   have HN:=Qd HN
   by_cases hlt:k<l.length
   ·obtain⟨b,off,rfl,hb,q0,q1⟩:=Xr (hrow.cz hc hB) k hlt
    have hsz:=hc.size
    have hbw:b<wr.heap.size:=by omega
    have hnm:=fun W=>KT l[k].key W (hs _ (List.getElem_mem hlt))
    by_cases n1:qc l[k].key
    ·have NM:=Qd (fun W=>(hnm W).mono (Zm.pos n1))
     clear hnm
     have hnu:=fun W=>XZ l[k].value W
     by_cases n2:ZM l[k].value
     ·have NU:=Qd (fun W=>(hnu W).mono (Zm.pos n2))
      clear hnu
      by_cases hk0:k=0
      ·have CA:Hid (VM l k hlt):=Qd ⟨n1,n2,fun h=>absurd hk0 (by omega)⟩
       subst hk0
       simp only [Nat.zero_mul,Nat.add_zero] at q0 q1
       clear n1 n2
       go_wp2_with fail
       go_quiet (first|(go_at_call 174;exact Calls.quiet_of_same (NM.out _))|(go_at_call 103;exact Calls.quiet_of_same (NU.out _))|fail)
       go_wp2_with fail
       go_roundw
       case rel=>exact⟨0+1,by omega,by go_num,fun j h hj=>(Nat.lt_succ_iff_lt_or_eq.1 hj).elim (HN.out j h) (fun e=>by subst e;exact CA.out),hc.tz (((Qb.refl _ _).alloc _).drewN _)⟩
       case measure=>simp [intOf];omega
      ·have hkB:0<k:=by omega
       have hkD:decide (0<k)=true:=by simp;omega
       have hk1:(0:Int)<(k:Int):=by omega
       obtain⟨b',off',e',hb',p0,p1⟩:=Xr (hrow.cz hc hB) (k-1) (by omega)
       cases e'
       have hgeq:=xS (l[k-1]'(by omega)).key l[k].key
       have hkN:((k:Int) -1).toNat=k-1:=by omega
       have hi0:(0:Int)<=(k:Int) -1:=by omega
       have hi1:(k:Int) -1<(l.length:Int):=by omega
       have hiw:IntKind.i64.wrap ((k:Int) -1)=(k:Int) -1:=by simp [IntKind.wrap,IntKind.bits,IntKind.signed];omega
       by_cases n3:Op.bytesLess (l[k-1]'(by omega)).key.toList l[k].key.toList=true
       ·have CA:Hid (VM l k hlt):=Qd ⟨n1,n2,fun _=>n3⟩
        clear n1 n2
        go_wp2_with fail
        go_quiet (first|(go_at_call 174;exact Calls.quiet_of_same (NM.out _))|(go_at_call 103;exact Calls.quiet_of_same (NU.out _))|fail)
        go_wp2_with fail
        go_roundw
        case rel=>exact⟨k+1,by omega,by go_num,fun j h hj=>(Nat.lt_succ_iff_lt_or_eq.1 hj).elim (HN.out j h) (fun e=>by subst e;exact CA.out),hc.tz (((Qb.refl _ _).alloc _).drewN _)⟩
        case measure=>simp [intOf];omega
       ·have CA:Hid (¬VM l k hlt):=Qd (fun h=>n3 (h.2.2 (by omega)))
        clear n1 n2
        go_wp2_with fail
        go_quiet (first|(go_at_call 174;exact Calls.quiet_of_same (NM.out _))|(go_at_call 103;exact Calls.quiet_of_same (NU.out _))|fail)
        go_wp2_with fail
        go_ret
        refine⟨_,rfl,⟨fun h=>by simp at h,fun h=>?_⟩,hc.tz (((Qb.refl _ _).alloc _).drewN _)⟩
        exact(CA.out (h.2 k hlt)).elim
     ·have CA:Hid (¬VM l k hlt):=Qd (fun h=>n2 h.2.1)
      have NU:=Qd (fun W=>(hnu W).mono (Zm.neg n2))
      clear hnu n1 n2
      go_wp2_with fail
      go_quiet (first|(go_at_call 174;exact Calls.quiet_of_same (NM.out _))|(go_at_call 103;exact Calls.quiet_of_same (NU.out _))|fail)
      go_wp2_with fail
      go_ret
      refine⟨_,rfl,⟨fun h=>by simp at h,fun h=>?_⟩,hc.tz (((Qb.refl _ _).alloc _).drewN _)⟩
      exact(CA.out (h.2 k hlt)).elim
    ·have CA:Hid (¬VM l k hlt):=Qd (fun h=>n1 h.1)
     have NM:=Qd (fun W=>(hnm W).mono (Zm.neg n1))
     clear hnm n1
     go_wp2_with fail
     go_quiet (first|(go_at_call 174;exact Calls.quiet_of_same (NM.out _))|fail)
     go_wp2_with fail
     go_ret
     refine⟨_,rfl,⟨fun h=>by simp at h,fun h=>?_⟩,hc.tz (((Qb.refl _ _).alloc _).drewN _)⟩
     exact(CA.out (h.2 k hlt)).elim
   ·obtain rfl:k=l.length:=by omega
    go_wp2_with fail
    go_ret
    refine⟨_,rfl,⟨fun _=>⟨by omega,fun i h=>HN.out i h h⟩,fun _=>rfl⟩,hc⟩
theorem VI (l:List QD) (u:Value) (B:Nat) (w:World) (r:Rd w B (cells l) u) (hB:B<=w.heap.size) (hl:l.length<=1048576) (hs:∀c∈l,c.key.size<=1048576):
  Calls Tryz.prog 216 #[u] w (Qg (Zy l) w):=by
 obtain⟨A,cap,rfl,h0,h1,hrow⟩:=Za r
 unfold maxLen at h1
 clear r
 go_enter Tryz.func216,Tryz.ntmps216
 go_wp2_with fail
 go_loopw [7] (fun i wr=>∃k:Nat,k<=l.length/\i= .int .i64 k/\(∀(j:Nat) (h:j<l.length),j<k->VM l j h)/\Qb [] w wr) (fun i _=>l.length-(intOf i).toNat)
 case atStart=>exact⟨0,Nat.zero_le _,rfl,fun j h h0=>absurd h0 (Nat.not_lt_zero _),Qb.refl _ _⟩
 case round=>
  obtain⟨k,hk,rfl,HN,hc⟩:=hrel
  have HN:=Qd HN
  by_cases hlt:k<l.length
  ·obtain⟨b,off,rfl,hb,q0,q1⟩:=Xr (hrow.cz hc hB) k hlt
   have hsz:=hc.size
   have hbw:b<wr.heap.size:=by omega
   have hnm:=fun W=>KW l[k].key W (hs _ (List.getElem_mem hlt))
   by_cases n1:qc l[k].key
   ·have NM:=Qd (fun W=>(hnm W).mono (Zm.pos n1))
    clear hnm
    by_cases n2:ZM l[k].value
    ·have v1:0<=l[k].value:=n2.1
     have v2:l[k].value<=999:=n2.2
     have v3:decide (l[k].value<0)=false:=by simp;omega
     have v4:decide (999<l[k].value)=false:=by simp;omega
     by_cases hk0:k=0
     ·have CA:Hid (VM l k hlt):=Qd ⟨n1,n2,fun h=>absurd hk0 (by omega)⟩
      subst hk0
      simp only [Nat.zero_mul,Nat.add_zero] at q0 q1
      clear n1 n2
      go_wp2_with fail
      go_quiet (first|(go_at_call 232;exact Calls.quiet_of_same (NM.out _))|fail)
      go_wp2_with fail
      go_roundw
      case rel=>exact⟨0+1,by omega,by go_num,fun j h hj=>(Nat.lt_succ_iff_lt_or_eq.1 hj).elim (HN.out j h) (fun e=>by subst e;exact CA.out),hc.tz (((Qb.refl _ _).alloc _).drewN _)⟩
      case measure=>simp [intOf];omega
     ·have hkB:0<k:=by omega
      have hkD:decide (0<k)=true:=by simp;omega
      have hk1:(0:Int)<(k:Int):=by omega
      obtain⟨b',off',e',hb',p0,p1⟩:=Xr (hrow.cz hc hB) (k-1) (by omega)
      cases e'
      have hgeq:=xS (l[k-1]'(by omega)).key l[k].key
      have hkN:((k:Int) -1).toNat=k-1:=by omega
      have hi0:(0:Int)<=(k:Int) -1:=by omega
      have hi1:(k:Int) -1<(l.length:Int):=by omega
      have hiw:IntKind.i64.wrap ((k:Int) -1)=(k:Int) -1:=by simp [IntKind.wrap,IntKind.bits,IntKind.signed];omega
      by_cases n3:Op.bytesLess (l[k-1]'(by omega)).key.toList l[k].key.toList=true
      ·have CA:Hid (VM l k hlt):=Qd ⟨n1,n2,fun _=>n3⟩
       clear n1 n2
       go_wp2_with fail
       go_quiet (first|(go_at_call 232;exact Calls.quiet_of_same (NM.out _))|fail)
       go_wp2_with fail
       go_roundw
       case rel=>exact⟨k+1,by omega,by go_num,fun j h hj=>(Nat.lt_succ_iff_lt_or_eq.1 hj).elim (HN.out j h) (fun e=>by subst e;exact CA.out),hc.tz (((Qb.refl _ _).alloc _).drewN _)⟩
       case measure=>simp [intOf];omega
      ·have CA:Hid (¬VM l k hlt):=Qd (fun h=>n3 (h.2.2 (by omega)))
       clear n1 n2
       go_wp2_with fail
       go_quiet (first|(go_at_call 232;exact Calls.quiet_of_same (NM.out _))|fail)
       go_wp2_with fail
       go_ret
       refine⟨_,rfl,⟨fun h=>by simp at h,fun h=>?_⟩,hc.tz (((Qb.refl _ _).alloc _).drewN _)⟩
       exact(CA.out (h.2 k hlt)).elim
    ·have CA:Hid (¬VM l k hlt):=Qd (fun h=>n2 h.2.1)
     by_cases v1:l[k].value<0
     ·have v2:decide (l[k].value<0)=true:=by simp;omega
      clear n1 n2
      go_wp2_with fail
      go_quiet (first|(go_at_call 232;exact Calls.quiet_of_same (NM.out _))|fail)
      go_wp2_with fail
      go_ret
      refine⟨_,rfl,⟨fun h=>by simp at h,fun h=>?_⟩,hc.tz (((Qb.refl _ _).alloc _).drewN _)⟩
      exact(CA.out (h.2 k hlt)).elim
     ·have v2:999<l[k].value:=by unfold ZM at n2;omega
      have v3:0<=l[k].value:=by omega
      have v4:decide (l[k].value<0)=false:=by simp;omega
      have v5:decide (999<l[k].value)=true:=by simp;omega
      clear n1 n2 v1
      go_wp2_with fail
      go_quiet (first|(go_at_call 232;exact Calls.quiet_of_same (NM.out _))|fail)
      go_wp2_with fail
      go_ret
      refine⟨_,rfl,⟨fun h=>by simp at h,fun h=>?_⟩,hc.tz (((Qb.refl _ _).alloc _).drewN _)⟩
      exact(CA.out (h.2 k hlt)).elim
   ·have CA:Hid (¬VM l k hlt):=Qd (fun h=>n1 h.1)
    have NM:=Qd (fun W=>(hnm W).mono (Zm.neg n1))
    clear hnm n1
    go_wp2_with fail
    go_quiet (first|(go_at_call 232;exact Calls.quiet_of_same (NM.out _))|fail)
    go_wp2_with fail
    go_ret
    refine⟨_,rfl,⟨fun h=>by simp at h,fun h=>?_⟩,hc.tz (((Qb.refl _ _).alloc _).drewN _)⟩
    exact(CA.out (h.2 k hlt)).elim
  ·obtain rfl:k=l.length:=by omega
   go_wp2_with fail
   go_ret
   refine⟨_,rfl,⟨fun h=>⟨by simp at h;omega,fun i h=>HN.out i h h⟩,fun h=>by have:=h.1;simp;omega⟩,hc⟩
end Go.Proofs.YtlnkgcdeljhjcaaGreatDoor
