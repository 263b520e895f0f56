/- strings. Conditions: as stated. -/
import Derived.Test.YtfjhdnjlhjimeaaGreatDoorProg
import Derived.Test.YtfjhdnjlhjimeaaGreatDoorGround
import Derived.Shelf.Strings.Builder1
import Derived.Shelf.Strings.Builder2
import Derived.Lib.Join
import Derived.BigCall
import Derived.BigGuard
set_option maxRecDepth 100000
set_option maxHeartbeats 2000000
namespace Go.Proofs.YtfjhdnjlhjimeaaGreatDoor
open Go.Shelf
def yZ:Go.Shelf.Ren:=⟨fun|165=>94|240=>134|241=>135|276=>171|277=>172|n=>n,fun|0=>0|3=>3|4=>4|5=>5|9=>9|20=> 20 |37=>22|70=>166|72=>168|75=>171|80=>174|127=>208|164=>233|n=>n,fun|n=>n⟩
theorem QfB:Go.Proofs.Lays.n165 Tryz.prog yZ:={
 mixed:=by kernel_rfl
 f165:=Tryz.func94.trans (congrArg some (by kernel_rfl))
 f240:=Tryz.func134.trans (congrArg some (by kernel_rfl))
 f241:=Tryz.func135.trans (congrArg some (by kernel_rfl))
 f276:=Tryz.func171.trans (congrArg some (by kernel_rfl))
 f277:=Tryz.func172.trans (congrArg some (by kernel_rfl))
 t0:=Tryz.underlying0
 a0:=Tryz.isAgg0
 z0:=Tryz.sizeOf0
 v0:=Tryz.zeroValue0
 t3:=Tryz.underlying3
 a3:=Tryz.isAgg3
 z3:=Tryz.sizeOf3
 v3:=Tryz.zeroValue3
 t4:=Tryz.underlying4
 a4:=Tryz.isAgg4
 z4:=Tryz.sizeOf4
 v4:=Tryz.zeroValue4
 t9:=Tryz.underlying9
 a9:=Tryz.isAgg9
 z9:=Tryz.sizeOf9
 v9:=Tryz.zeroValue9
 t20:=Tryz.underlying20
 a20:=Tryz.isAgg20
 z20:=Tryz.sizeOf20
 v20:=Tryz.zeroValue20
 t37:=Tryz.underlying22
 a37:=Tryz.isAgg22
 z37:=Tryz.sizeOf22
 v37:=Tryz.zeroValue22
 t70:=Tryz.underlying166
 a70:=Tryz.isAgg166
 z70:=Tryz.sizeOf166
 v70:=Tryz.zeroValue166
 t72:=Tryz.underlying168
 a72:=Tryz.isAgg168
 z72:=Tryz.sizeOf168
 v72:=Tryz.zeroValue168
 t164:=Tryz.underlying233
 a164:=Tryz.isAgg233
 z164:=Tryz.sizeOf233
 v164:=Tryz.zeroValue233}
theorem QdY:Builder.Extra Tryz.prog yZ:={
 sizeBuilder:=by kernel_rfl
 liesBuilder:=by kernel_rfl
 t5:=Tryz.underlying5
 a5:=Tryz.isAgg5
 z5:=Tryz.sizeOf5
 v5:=Tryz.zeroValue5
 infoByte:=by kernel_rfl
 cellsByte:=by kernel_rfl
 sizeByte:=by kernel_rfl
 neB5:=by decide}
def yP:Go.Shelf.Ren:=⟨fun|166=>95|240=>134|276=>171|n=>n,fun|0=>0|3=>3|4=>4|5=>5|9=>9|20=> 20 |37=>22|70=>166|72=>168|75=>171|80=>174|127=>208|164=>233|n=>n,fun|n=>n⟩
theorem Qf5:Go.Proofs.Lays.n166 Tryz.prog yP:={
 mixed:=by kernel_rfl
 f166:=Tryz.func95.trans (congrArg some (by kernel_rfl))
 f240:=Tryz.func134.trans (congrArg some (by kernel_rfl))
 f276:=Tryz.func171.trans (congrArg some (by kernel_rfl))
 t0:=Tryz.underlying0
 a0:=Tryz.isAgg0
 z0:=Tryz.sizeOf0
 v0:=Tryz.zeroValue0
 t3:=Tryz.underlying3
 a3:=Tryz.isAgg3
 z3:=Tryz.sizeOf3
 v3:=Tryz.zeroValue3
 t4:=Tryz.underlying4
 a4:=Tryz.isAgg4
 z4:=Tryz.sizeOf4
 v4:=Tryz.zeroValue4
 t9:=Tryz.underlying9
 a9:=Tryz.isAgg9
 z9:=Tryz.sizeOf9
 v9:=Tryz.zeroValue9
 t20:=Tryz.underlying20
 a20:=Tryz.isAgg20
 z20:=Tryz.sizeOf20
 v20:=Tryz.zeroValue20
 t37:=Tryz.underlying22
 a37:=Tryz.isAgg22
 z37:=Tryz.sizeOf22
 v37:=Tryz.zeroValue22
 t70:=Tryz.underlying166
 a70:=Tryz.isAgg166
 z70:=Tryz.sizeOf166
 v70:=Tryz.zeroValue166
 t72:=Tryz.underlying168
 a72:=Tryz.isAgg168
 z72:=Tryz.sizeOf168
 v72:=Tryz.zeroValue168
 t75:=Tryz.underlying171
 a75:=Tryz.isAgg171
 z75:=Tryz.sizeOf171
 v75:=Tryz.zeroValue171
 t164:=Tryz.underlying233
 a164:=Tryz.isAgg233
 z164:=Tryz.sizeOf233
 v164:=Tryz.zeroValue233}
theorem Qe6:Builder.Extra Tryz.prog yP:={
 sizeBuilder:=by kernel_rfl
 liesBuilder:=by kernel_rfl
 t5:=Tryz.underlying5
 a5:=Tryz.isAgg5
 z5:=Tryz.sizeOf5
 v5:=Tryz.zeroValue5
 infoByte:=by kernel_rfl
 cellsByte:=by kernel_rfl
 sizeByte:=by kernel_rfl
 neB5:=by decide}
def xj:Go.Shelf.Ren:=⟨fun|169=>96|n=>n,fun|0=>0|3=>3|4=>4|5=>5|9=>9|20=> 20 |37=>22|70=>166|72=>168|75=>171|80=>174|127=>208|164=>233|n=>n,fun|n=>n⟩
theorem QfF:Go.Proofs.Lays.n169 Tryz.prog xj:={
 mixed:=by kernel_rfl
 f169:=Tryz.func96.trans (congrArg some (by kernel_rfl))
 t0:=Tryz.underlying0
 a0:=Tryz.isAgg0
 z0:=Tryz.sizeOf0
 v0:=Tryz.zeroValue0
 t3:=Tryz.underlying3
 a3:=Tryz.isAgg3
 z3:=Tryz.sizeOf3
 v3:=Tryz.zeroValue3
 t9:=Tryz.underlying9
 a9:=Tryz.isAgg9
 z9:=Tryz.sizeOf9
 v9:=Tryz.zeroValue9
 t37:=Tryz.underlying22
 a37:=Tryz.isAgg22
 z37:=Tryz.sizeOf22
 v37:=Tryz.zeroValue22
 t70:=Tryz.underlying166
 a70:=Tryz.isAgg166
 z70:=Tryz.sizeOf166
 v70:=Tryz.zeroValue166
 t72:=Tryz.underlying168
 a72:=Tryz.isAgg168
 z72:=Tryz.sizeOf168
 v72:=Tryz.zeroValue168
 t127:=Tryz.underlying208
 a127:=Tryz.isAgg208
 z127:=Tryz.sizeOf208
 v127:=Tryz.zeroValue208}
theorem Qeu:Builder.Extra Tryz.prog xj:={
 sizeBuilder:=by kernel_rfl
 liesBuilder:=by kernel_rfl
 t5:=Tryz.underlying5
 a5:=Tryz.isAgg5
 z5:=Tryz.sizeOf5
 v5:=Tryz.zeroValue5
 infoByte:=by kernel_rfl
 cellsByte:=by kernel_rfl
 sizeByte:=by kernel_rfl
 neB5:=by decide}
open Go.RowKit in
theorem kZ (B b n:Nat) (w:World) (hB:B<=b) (hbk:w.heap[b]?=some (.cells #[.pointer none,.slice none 0 0] 168 (0,0))) (hBw:B<=w.heap.size) (hn:n<=281474976710656):
  Calls Tryz.prog 94 #[.pointer (some ⟨b,0,none⟩),.int .i64 n] w fun e w'=>e= .returned (.tuple #[])/\(Lib.BuilderAt 168 5 B b (.pointer (some ⟨b,0,none⟩)) [] w'/\Below B w w'):=Any.Builder_Grow_fresh QfB QdY B b n w hB hbk hBw hn
open Go.RowKit in
theorem Kz (B b:Nat) (bs:List Value) (s:ByteArray) (w:World) (h:Lib.IsBuilder 168 5 B b bs w) (hlen:bs.length+s.size<=140737488355328) (hBw:B<=w.heap.size):
  Calls Tryz.prog 95 #[.pointer (some ⟨b,0,none⟩),.string s] w fun e w'=>e= .returned (.tuple #[.int .i64 s.size,.nilIface])/\(Lib.BuilderAt 168 5 B b (.pointer (some ⟨b,0,none⟩)) (bs++Lib.strCells s) w'/\Below B w w'):=Any.Builder_WriteString Qf5 Qe6 B b bs s w h hlen hBw
open Go.RowKit in
theorem vF (B b:Nat) (l:List UInt8) (w:World) (h:Lib.IsBuilder 168 5 B b (Lib.byteCells l) w) (hBw:B<=w.heap.size):
  Calls Tryz.prog 96 #[.pointer (some ⟨b,0,none⟩)] w fun e w'=>e= .returned (.string ⟨l.toArray⟩)/\Below B w w':=Any.Builder_String_any QfF Qeu B b l w h hBw
end Go.Proofs.YtfjhdnjlhjimeaaGreatDoor
namespace Go.Proofs.YtfjhdnjlhjimeaaGreatDoor
open Go.RowKit

def bl (l:List ByteArray):List (List UInt8):=l.map (·.data.toList)
def Zx (l:List ByteArray) (sep:ByteArray):ByteArray:=⟨(Lib.join (bl l) sep.data.toList).toArray⟩
theorem QcF (l:List ByteArray):Lib.lens (bl l)=Zp l:=by
 unfold Lib.lens bl Zp
 rw [List.map_map]
 rfl
theorem yq (sep:ByteArray):Zx [] sep=⟨#[]⟩:=rfl
theorem KR (x sep:ByteArray):Zx [x] sep=x:=by
 unfold Zx bl
 rw [I9,O2,Lib.join_one]
theorem Ji (x:ByteArray) (r:List ByteArray) (sep:ByteArray):(Zx (x::r) sep).size=sep.size * r.length+Zp (x::r):=by
 have h:=Lib.join_length x.data.toList (bl r) sep.data.toList
 have e:bl (x::r)=x.data.toList::bl r:=rfl
 have e2:=QcF (x::r)
 rw [e] at e2
 rw [e2] at h
 show(Lib.join (bl (x::r)) sep.data.toList).toArray.size=_
 rw [List.size_toArray,e,h]
 have e1:(bl r).length=r.length:=by unfold bl;rw [J8]
 rw [e1]
 rfl
def VR (x:ByteArray) (r:List ByteArray) (sep:ByteArray) (k:Nat):List UInt8:=x.data.toList++Lib.joinTail sep.data.toList (bl (r.take k))
theorem xc (x:ByteArray) (r:List ByteArray) (sep:ByteArray):VR x r sep 0=x.data.toList:=by unfold VR;rw [T9];exact List.append_nil _
theorem xm (x:ByteArray) (r:List ByteArray) (sep:ByteArray) (k:Nat) (h:k<r.length):Lib.byteCells (VR x r sep k)++Lib.strCells sep++Lib.strCells r[k]=Lib.byteCells (VR x r sep (k+1)):=by
 have e:bl (r.take (k+1))=(bl r).take (k+1):=by unfold bl;rw [List.map_take]
 have e0:bl (r.take k)=(bl r).take k:=by unfold bl;rw [List.map_take]
 have e1:=Lib.joinTail_take_succ sep.data.toList (bl r) k r[k].data.toList (by unfold bl;rw [R0,F8 h];rfl)
 unfold VR
 rw [e,e0,e1,Lib.strCells_eq,Lib.strCells_eq, <-Lib.byteCells_append, <-Lib.byteCells_append]
 simp only [U2]
theorem QaQ (x:ByteArray) (r:List ByteArray) (sep:ByteArray):(⟨(VR x r sep r.length).toArray⟩:ByteArray)=Zx (x::r) sep:=by
 unfold VR Zx
 rw [I8]
 have e:bl (x::r)=x.data.toList::bl r:=rfl
 rw [e,Lib.join_cons]
theorem vO (x:ByteArray) (r:List ByteArray) (sep:ByteArray) (k:Nat):(VR x r sep k).length<=sep.size * r.length+Zp (x::r):=by
 have h:=Lib.joinTail_take_le sep.data.toList (bl r) k
 have h2:=Lib.joinTail_length sep.data.toList (bl r)
 have e0:bl (r.take k)=(bl r).take k:=by unfold bl;rw [List.map_take]
 have e1:(bl r).length=r.length:=by unfold bl;rw [J8]
 rw [QcF,e1] at h2
 unfold VR
 rw [I0,e0]
 simp only [Zp,I9,V8] at h2 ⊢
 have e2:x.data.toList.length=x.size:=rfl
 have e3:sep.data.toList.length=sep.size:=rfl
 rw [e3] at h2
 omega

theorem QdO (x0:ByteArray) (r:List ByteArray) (sep:ByteArray) (u:Value) (B:Nat) (w:World) (h2:0<r.length) (hn:r.length<=1073741823) (hs:sep.size<=1024) (hW:Zp (x0::r)<=1073741824)
  (hr:Rd w B (WB (x0::r)) u) (hB:B<=w.heap.size):
  Calls Tryz.prog 68 #[u,.string sep] w fun e w'=>e= .returned (.string (Zx (x0::r) sep))/\Qc [] w w':=by
 obtain⟨A,cap,rfl,h0,h1,hrow⟩:=YB hr
 obtain⟨bk,o,rfl,hb,hc0⟩:=ZO hrow 0 (Nat.succ_pos _)
 unfold maxLen at h1
 have hbk:bk<w.heap.size:=F6 hb hB
 have hcell:∀k,(hk:k<(x0::r).length)->w.cell? ⟨bk,o+k,none⟩=some (.string (x0::r)[k]):=fun k hk=>by
  obtain⟨b',o',e,_,hx⟩:=ZO hrow k hk
  cases e;exact hx
 clear hr hrow
 simp only [I1] at *
 have HC:=Qb hcell
 clear hcell
 have hM:sep.size * r.length<=1024 * 1073741823:=V9 hs hn
 have hML:=vO x0 r sep
 have hdv:¬(9223372036854775807 / (r.length:Int)<=(sep.size:Int)):=by
  rw [Int.not_le]
  have h3:(sep.size:Int) * (r.length:Int)<=1024 * 1073741823:=by rw [<-Int.natCast_mul];omega
  apply Int.lt_of_lt_of_le (b:=(sep.size:Int)+1) (by omega)
  rw [Int.le_ediv_iff_mul_le (by omega),Int.add_mul]
  omega
 have hpr:(sep.size:Int) * (r.length:Int)=((sep.size * r.length:Nat):Int):=(Int.natCast_mul _ _).symm
 have hM0:sep.size=0->sep.size * r.length=0:=fun h=>by rw [h,Nat.zero_mul]
 generalize hMe:sep.size * r.length=M at hM hML hpr hM0
 have HML:=Qb hML
 have HME:=Qb hMe
 clear hML hMe
 have hne0:((r.length:Int)+1==0)=false:=beq_eq_false_iff_ne.2 (by omega)
 have hne1:((r.length:Int)+1==1)=false:=beq_eq_false_iff_ne.2 (by omega)
 go_enter Tryz.func68,Tryz.ntmps68
 go_wp2_with fail
 all_goals
  go_loop [5,41] (fun n i=>∃(k:Nat) (x:Int),k<=r.length+1/\i= .int .i64 k/\n= .int .i64 x/\0<=x/\x<=3000000000000/\Hid (x=M+Zp ((x0::r).take k))) (fun _ i=>r.length+1-(intOf i).toNat)
  case atStart=>exact⟨0,_,I3 _,rfl,rfl,by omega,by omega,Qb (by simp [Zp];try omega)⟩
  case round=>
   obtain⟨k,x,hk,rfl,rfl,hx0,hx1,HX⟩:=hrel
   by_cases hlt:k<r.length+1
   ·have hc:=HC.out k hlt
    have hst:=Qe8 ByteArray.size (x0::r) k hlt
    have hle:=Qff ByteArray.size (x0::r) (k+1)
    have hxk:x+((x0::r)[k].size:Int)=M+Zp ((x0::r).take (k+1))/\x+((x0::r)[k].size:Int)<=3000000000000:=by
     have:=HX.out;unfold Zp at this hW ⊢;omega
    have HXK:=Qb hxk.1
    have hx2:=hxk.2
    clear hst hle hxk
    go_wp2
    exact⟨⟨k+1,_,by omega,by go_num,rfl,by omega,by omega,HXK⟩,by simp [intOf];omega⟩
   ·obtain rfl:k=r.length+1:=by omega
    have hx3:=HX.out
    rw [show(x0::r).take (r.length+1)=x0::r from I8 (l:=x0::r)] at hx3
    have HML2:∀k,(VR x0 r sep k).length<=M+Zp (x0::r):=fun k=>by have:=HML.out;have:=vO x0 r sep k;rw [HME.out] at this;exact this
    have HL:=Qb HML2
    clear HML2 HX
    subst hx3
    go_wp2_with fail
    rw [show((M:Int)+(Zp (x0::r):Int))=((M+Zp (x0::r):Nat):Int) by omega]
    refine(kZ w.heap.size w.heap.size (M+Zp (x0::r)) _ (F0 _) (heap_alloc_new w _) (by simp) (by omega)).mono ?_
    rintro e w1 ⟨rfl,h1,hb1⟩
    have hb1':Below w.heap.size w w1:=((Below.refl w.heap.size w).alloc (F0 _) _).trans hb1
    have hx0:w1.cell? ⟨bk,o,none⟩=some (.string x0):=by
     rw [hb1'.cell (p:=⟨bk,o,none⟩) hbk]
     exact HC.out 0 (by omega)
    have H1:=Qb (Or.inr h1:Lib.IsBuilder 168 5 w.heap.size w.heap.size [] w1)
    have Hb1:=Qb hb1'
    have hBw1:w.heap.size<=w1.heap.size:=hb1'.size
    clear h1 hb1 hb1'
    go_wp2_with fail
    refine(Kz w.heap.size w.heap.size [] x0 w1 H1.out (by have:=HL.out 0;rw [xc] at this;simp only [U7,J3];have e:x0.size=x0.data.toList.length:=rfl;omega) hBw1).mono ?_
    rintro e w2 ⟨rfl,h2',hb2⟩
    have hstart:([]:List Value)++Lib.strCells x0=Lib.byteCells (VR x0 r sep 0):=by rw [xc,J9,Lib.strCells_eq]
    rw [hstart] at h2'
    have H2:=Qb (Or.inr h2':Lib.IsBuilder 168 5 w.heap.size w.heap.size _ w2)
    have Hb2:=Qb (Hb1.out.trans hb2)
    clear h2' hb2 hstart
    go_wp2_with fail
    go_loopw [65] (fun i wr=>∃k:Nat,k<=r.length/\i= .int .i64 k/\Hid (Lib.IsBuilder 168 5 w.heap.size w.heap.size (Lib.byteCells (VR x0 r sep k)) wr)/\Hid (Below w.heap.size w wr)) (fun i _=>r.length-(intOf i).toNat)
    case atStart=>exact⟨0,I3 _,rfl,H2,Hb2⟩
    case round=>
     obtain⟨k,hk',rfl,HB,HW⟩:=hrel
     have hBw:w.heap.size<=wr.heap.size:=HW.out.size
     by_cases hkr:k<r.length
     ·have hcy:wr.cell? ⟨bk,o+1+k,none⟩=some (.string r[k]):=by
       rw [HW.out.cell (p:=⟨bk,o+1+k,none⟩) hbk,show o+1+k=o+(k+1) by omega]
       exact HC.out (k+1) (by omega)
      have hl1:=HL.out (k+1)
      have hnx:=congrArg List.length (xm x0 r sep k hkr)
      rw [I0,I0,Lib.byteCells_length,Lib.byteCells_length,Lib.strCells_length,Lib.strCells_length] at hnx
      have Hn:=Qb (xm x0 r sep k hkr)
      generalize hJ1:(VR x0 r sep (k+1)).length=J1 at hl1 hnx
      generalize hJ:(VR x0 r sep k).length=J at hnx
      have HJ:=Qb hJ
      clear hJ1 hJ
      go_wp2_with fail
      refine(Kz w.heap.size w.heap.size _ sep wr HB.out (by rw [Lib.byteCells_length,HJ.out];omega) hBw).mono ?_
      rintro e w3 ⟨rfl,h3,hb3⟩
      have hBw3:w.heap.size<=w3.heap.size:=G5 hBw hb3.size
      have H3:=Qb h3
      have Hb3:=Qb hb3
      clear h3 hb3
      go_wp2_with fail
      refine(Kz w.heap.size w.heap.size _ r[k] w3 (Or.inr H3.out) (by rw [I0,Lib.byteCells_length,HJ.out,Lib.strCells_length];omega) hBw3).mono ?_
      rintro e w4 ⟨rfl,h4,hb4⟩
      rw [Hn.out] at h4
      have H4:=Qb (Or.inr h4:Lib.IsBuilder 168 5 w.heap.size w.heap.size _ w4)
      have Hb4:=Qb ((HW.out.trans Hb3.out).trans hb4)
      clear h4 hb4
      go_wp2
      exact⟨⟨k+1,by omega,by go_num,H4,Hb4⟩,by simp [intOf];omega⟩
     ·obtain rfl:k=r.length:=by omega
      go_wp2_with fail
      refine(vF w.heap.size w.heap.size _ wr HB.out hBw).mono ?_
      rintro e w5 ⟨rfl,hb5⟩
      have Hb5:=Qb (HW.out.trans hb5)
      clear hb5
      go_wp2
      go_ret
      exact⟨by rw [QaQ];rfl,Qc.of_below Hb5.out _⟩
theorem Qeo (l:List ByteArray) (sep:ByteArray) (u:Value) (B:Nat) (w:World) (hn:l.length<=1073741824) (hs:sep.size<=1024) (hW:Zp l<=1073741824)
  (hr:Rd w B (WB l) u) (hB:B<=w.heap.size):
  Calls Tryz.prog 68 #[u,.string sep] w fun e w'=>e= .returned (.string (Zx l sep))/\Qc [] w w':=by
 match l,hn,hW,hr with
 | [],_,_,hr=>
  obtain⟨A,cap,rfl,h0,h1,hrow⟩:=YB hr
  clear hr hrow
  go_enter Tryz.func68,Tryz.ntmps68
  go_wp2
  go_ret
  exact⟨rfl,B0 _ _⟩
 | [x],_,_,hr=>
  obtain⟨A,cap,rfl,h0,h1,hrow⟩:=YB hr
  obtain⟨bk,o,rfl,hb,hc0⟩:=ZO hrow 0 (Nat.succ_pos _)
  have hc:w.cell? ⟨bk,o,none⟩=some (.string x):=hc0
  clear hr hrow hc0
  go_enter Tryz.func68,Tryz.ntmps68
  go_wp2
  go_ret
  exact⟨by rw [KR];rfl,B0 _ _⟩
 |x::y::r,hn,hW,hr=>exact QdO x (y::r) sep u B w (Nat.succ_pos _) (by simp only [I1] at hn ⊢;omega) hs hW hr hB
theorem WE (l:List ByteArray) (sep:ByteArray) (u:Value) (B:Nat) (w:World) (hn:l.length<=1073741824) (hs:sep.size<=1024) (hW:Zp l<=1073741824)
  (hr:Rd w B (WB l) u) (hB:B<=w.heap.size):
  Calls Tryz.prog 37 #[u,.string sep] w fun e w'=>e= .returned (.string (Zx l sep))/\Qc [] w w':=by
 go_enter Tryz.func37,Tryz.ntmps37
 go_wp2_with fail
 refine(Qeo l sep _ B _ hn hs hW hr hB).mono ?_;rintro e w1 ⟨rfl,c1⟩
 go_wp2_with fail
 go_ret
 exact⟨rfl,c1⟩
theorem Qb6 (l:List ByteArray) (sep:ByteArray) (k:Nat) (h:k<l.length):Zx (l.take (k+1)) sep=if k=0 then l[k] else Zx (l.take k) sep++sep++l[k]:=by
 match l,k,h with
 |x::r,0,_=>rw [if_pos rfl];exact KR x sep
 | x::r,k+1,h=>
  rw [if_neg (by omega)]
  have hk:k<r.length:=Nat.lt_of_succ_lt_succ h
  have e1:=Lib.joinTail_take_succ sep.data.toList (bl r) k r[k].data.toList (by unfold bl;rw [R0,F8 hk];rfl)
  have f:∀n,bl (r.take n)=(bl r).take n:=fun n=>by unfold bl;rw [List.map_take]
  have g:∀n,Lib.join (bl ((x::r).take (n+1))) sep.data.toList=x.data.toList++Lib.joinTail sep.data.toList ((bl r).take n):=fun n=>by
   rw [<-f, <-Lib.join_cons];rfl
  apply O5
  apply Array.ext'
  show Lib.join (bl ((x::r).take (k+1+1))) sep.data.toList=(Zx ((x::r).take (k+1)) sep++sep++r[k]).data.toList
  rw [g,e1]
  have e2:(Zx ((x::r).take (k+1)) sep).data.toList=x.data.toList++Lib.joinTail sep.data.toList ((bl r).take k):=g k
  rw [Q9,Q9,Array.toList_append,Array.toList_append,e2]
  simp only [U2]
theorem Qaw (l:List ByteArray) (sep:ByteArray) (k:Nat) (hs:sep.size<=1024) (hn:l.length<=1073741824) (hW:Zp l<=1073741824):(Zx (l.take k) sep).size<=1200000000000:=by
 have h1:Zp (l.take k)<=Zp l:=Qff ByteArray.size l k
 have h2:(l.take k).length<=l.length:=by rw [J7];omega
 cases e:l.take k with
 |nil=>rw [yq];decide
 |cons x r=>
  rw [Ji, <-e]
  rw [e,I1] at h2
  have:sep.size * r.length<=1024 * 1073741824:=V9 hs (by omega)
  omega
theorem ze (l:List ByteArray) (sep:ByteArray) (u:Value) (B:Nat) (w:World) (hn:l.length<=1073741824) (hs:sep.size<=1024) (hW:Zp l<=1073741824)
  (hr:Rd w B (WB l) u) (hB:B<=w.heap.size):
  Calls Tryz.prog 182 #[u,.string sep] w fun e w'=>e= .returned (.string (Zx l sep))/\Qc [] w w':=by
 obtain⟨A,cap,rfl,h0,h1,hrow⟩:=YB hr
 unfold maxLen at h1
 clear hr
 have HJ:=Qb (Qaw l sep · hs hn hW)
 go_enter Tryz.func182,Tryz.ntmps182
 go_wp2_with fail
 go_loopw [5,10] (fun v i wr=>∃(k:Nat) (x:ByteArray),k<=l.length/\i= .int .i64 k/\v= .string x/\x.size<=1200000000000/\Hid (x=Zx (l.take k) sep)/\Qc [] w wr) (fun _ i _=>l.length-(intOf i).toNat)
 case atStart=>exact⟨0,_,I3 _,rfl,rfl,by decide,by rw [T9];exact rfl,B0 _ _⟩
 case round=>
  obtain⟨k,x,hk,rfl,rfl,hx,HX,hc⟩:=hrel
  by_cases hlt:k<l.length
  ·obtain⟨b,off,rfl,hb,q0⟩:=ZO (hrow.cz hc hB) k hlt
   have hst:=Qb6 l sep k hlt
   have hbd:=HJ.out (k+1)
   have hsz:l[k].size<=1200000000000:=by have:=zW ByteArray.size (I4 hlt);unfold Zp at hW;omega
   rw [<-HX.out] at hst
   have HS:=Qb hst
   have HB:=Qb hbd
   clear hst hbd
   go_wp2_with fail
   ·have e:=HS.out
    have b1:=HB.out
    rw [if_neg (by omega)] at e
    rw [e] at b1
    exact⟨⟨k+1,_,by omega,by go_num,rfl,b1,e.symm,hc⟩,by simp [intOf];omega⟩
   ·have e:=HS.out
    have b1:=HB.out
    obtain rfl:k=0:=by omega
    rw [if_pos rfl] at e
    rw [e] at b1
    have e0:x++l[0]=l[0]:=by
     rw [HX.out,T9,yq]
     apply O5
     rw [Q9]
     exact Array.empty_append
    rw [e0]
    exact⟨⟨0+1,_,by omega,by go_num,rfl,b1,e.symm,hc⟩,by simp [intOf];omega⟩
  ·obtain rfl:k=l.length:=by omega
   have h5:=HX.out
   rw [I8] at h5
   go_wp2_with fail
   go_ret
   exact⟨by rw [h5];rfl,hc⟩
end Go.Proofs.YtfjhdnjlhjimeaaGreatDoor
