/- Keys of the explorer's maps. Conditions: as stated. -/
import Derived.Test.YtlnkgcdeljhjcaaGreatDoorMapsP
import Derived.Maps.Keyed
import Derived.LaidEql
set_option maxRecDepth 100000
set_option maxHeartbeats 4000000
namespace Go.Proofs.YtlnkgcdeljhjcaaGreatDoor
open Go.RowKit

abbrev Yl:=(Int×Int×Int)×(ByteArray×ByteArray×ByteArray)
def YD (x:Yl):Value:=.agg #[.int .i64 x.1.1,.int .i64 x.1.2.1,.int .i64 x.1.2.2,.string x.2.1,.string x.2.2.1,.string x.2.2.2]
def YA (n:Int):Prop:= -9223372036854775808<=n/\n<=9223372036854775807
theorem Qcd (x:Yl) (i1:YA x.1.1) (i2:YA x.1.2.1) (i3:YA x.1.2.2) (h1:x.2.1.size<=maxLen) (h2:x.2.2.1.size<=maxLen) (h3:x.2.2.2.size<=maxLen):∃l,keyOf Tryz.prog 90 (YD x)=some l:=by
 have h0:Tryz.prog.underlying 88=some (.array 3 9):=by kernel_rfl
 have hs:Tryz.prog.underlying 9=some .string:=by kernel_rfl
 have hi:Tryz.prog.underlying 3=some (.int .i64):=by kernel_rfl
 have hk:(Tryz.prog.keyType 90&&(YD x).formed Tryz.prog 90)=true:=by kernel_rfl
 have hc:Tryz.prog.cellsOf 88=3:=by kernel_rfl
 have hc1:Tryz.prog.cellsOf 9=1:=by kernel_rfl
 have hc2:Tryz.prog.cellsOf 3=1:=by kernel_rfl
 have hc3:Tryz.prog.cellsOf 60=3:=by kernel_rfl
 have hc6:Tryz.prog.cellsOf 90=6:=by kernel_rfl
 have h3t:3<=Tryz.prog.types.size:=by decide+kernel
 obtain⟨m,hm⟩:∃m,Tryz.prog.types.size+1=m+1+1+1:=⟨Tryz.prog.types.size-2,by omega⟩
 have hl:∀s:ByteArray,s.size<=maxLen->Tryz.prog.keyLits (m+1) 9 [.string s]=some [.string s.data.toList]:=fun s h=>by
  unfold Program.keyLits
  rw [hs]
  simp only
  rw [if_pos h]
 have hn:∀n:Int,YA n->Tryz.prog.keyLits (m+1) 3 [.int .i64 n]=some [.int .i64 n]:=fun n h=>by
  unfold Program.keyLits
  rw [hi]
  simp only
  have hw:(Lit.int .i64 n).wf=true:=by simp only [Lit.wf,Bool.and_eq_true,decide_eq_true_eq];exact⟨h.1,h.2⟩
  simp [hw]
 have ha:Tryz.prog.keyLits (m+1+1) 88 [.string x.2.1,.string x.2.2.1,.string x.2.2.2]=some [.string x.2.1.data.toList,.string x.2.2.1.data.toList,.string x.2.2.2.data.toList]:=by
  unfold Program.keyLits
  rw [h0]
  simp only
  rw [hc,hc1]
  simp [List.range_succ,hl,h1,h2,h3]
 have hb:Tryz.prog.keyLits (m+1+1) 60 [.int .i64 x.1.1,.int .i64 x.1.2.1,.int .i64 x.1.2.2]=some [.int .i64 x.1.1,.int .i64 x.1.2.1,.int .i64 x.1.2.2]:=by
  unfold Program.keyLits
  rw [Tryz.underlying60]
  simp [hc3,hc2,hn,i1,i2,i3]
 unfold keyOf
 rw [Tryz.underlying90]
 simp only
 rw [if_pos hk,hm]
 have hcs:(YD x).cells.toList=[.int .i64 x.1.1,.int .i64 x.1.2.1,.int .i64 x.1.2.2,.string x.2.1,.string x.2.2.1,.string x.2.2.2]:=rfl
 rw [hcs]
 unfold Program.keyLits
 rw [Tryz.underlying90]
 simp [hc6,hc3,hc,ha,hb]
def Qb5 (x:Yl):Prop:=YA x.1.1/\YA x.1.2.1/\YA x.1.2.2/\x.2.1.size<=maxLen/\x.2.2.1.size<=maxLen/\x.2.2.2.size<=maxLen
def ql (v:Value):Prop:=∃t:Yl,v=YD t/\Qb5 t
theorem UH:GM Tryz.prog 90 ql (fun _=>True):=GM.of_keyed Qc2 (fun v hv=>by
 obtain⟨t,rfl,h1,h2,h3,h4,h5,h6⟩:=hv
 exact Qcd t h1 h2 h3 h4 h5 h6)
theorem Vc {a c:Yl} (h:YD a=YD c):a=c:=by
 obtain⟨⟨a1,a2,a3⟩,a4,a5,a6⟩:=a
 obtain⟨⟨c1,c2,c3⟩,c4,c5,c6⟩:=c
 simp [YD] at h
 simp [h]
theorem Qad (X:Yl->List Int->Prop) (b:Nat) (t:Yl) (i:List Int) (vi:Value) (w:World) (ht:Qb5 t)
  (hm:Qz w ql YD b X) (hv:Zj w i vi):
  Calls Tryz.prog 161 #[.map (some b),YD t,vi] w fun e w'=>e= .returned (.tuple #[])/\Qz w' ql YD b (fun k j=>X k j∨(k=t/\j=i))/\Qb [b] w w':=by
 have hkc:ql (YD t):=⟨t,rfl,ht⟩
 have hlt:=hm.lt
 obtain⟨E,hE,hp,hall⟩:=hm
 have hu:Tryz.prog.underlying 70=some (.map 90 25):=by kernel_rfl
 have hz:∀W:World,(zeroValue 25).run Tryz.prog W= .ok (.slice none 0 0) W:=fun W=>by kernel_rfl
 unfold YD at *
 go_enter Tryz.func161,Tryz.ntmps161
 have hE1:=fun o:Obj=>hE.chg ((Qb.refl [] w).alloc o) (by simp)
 have tt:w.heap.size<w.heap.size+1:=Nat.lt_succ_self _
 go_wp2_with (first|(at_lookup;refine JC rfl (.tmp 9) (.tmp 10) 70 true rfl UH trivial hu (hz _) rfl (hE1 _) rfl hkc ?_ ?_)|fail)
 ·intro v hmem
  obtain⟨k,old,ek,hvo,hl⟩:=hp _ hmem
  obtain rfl:t=k:=Vc ek
  have hvo2:=hvo
  have hv2:=hv
  obtain⟨A,cap,ev,_⟩:=hvo2
  obtain⟨A',cap',ev',_⟩:=hv2
  simp only at ev
  subst ev ev'
  have CI:=Qd (fun W (hW:Qb [] w W)=>ZJ i old _ _ _ _ W (hv.keep hW Qc.nil).rd (hvo.keep hW Qc.nil).rd (Nat.le_refl _) (Nat.le_refl _))
  by_cases hc:YY i old<0
  ·go_wp2_with fail
   refine(CI.out _ Qb.now).mono ?_
   rintro e w1 ⟨rfl,c1⟩
   have y0:=(c1.ce w.heap.size (by simp) (by simp)) 0
   have y1:=(c1.ce w.heap.size (by simp) (by simp)) 1
   have y2:=(c1.ce w.heap.size (by simp) (by simp)) 2
   have y3:=(c1.ce w.heap.size (by simp) (by simp)) 3
   have y4:=(c1.ce w.heap.size (by simp) (by simp)) 4
   have y5:=(c1.ce w.heap.size (by simp) (by simp)) 5
   have hcw:Qb [] w w1:=Qb.tz Qb.now c1
   have hE2:=hE.chg hcw (by simp)
   go_wp2_with (first|(at_mapUpdate;refine Yx rfl (.tmp 22) (.tmp 23) (.tmp 24) 70 rfl UH trivial hu rfl hE2 rfl rfl hkc ?_;intro w2 E' hE' hc2 hs2 hm2)|fail)
   go_end0
   have hno:Qc w1 [b]:=Qc.cons hE2.nz Qc.nil
   exact⟨rfl,Qz.put (w:=w1) (fun _ _ h=>Vc h) (fun p hq=>by
    obtain⟨k,i,e,h4,h5⟩:=hp p hq
    exact⟨k,i,e,h4.keep hcw Qc.nil,h5⟩) hall (fun p hq e=>by
    obtain⟨k,j,e2,h4,h5⟩:=hp p hq
    obtain rfl:t=k:=Vc (e.symm.trans e2)
    exact⟨j,h4.keep hcw Qc.nil,h5,by rw [h5.one hl];omega⟩) hE' hm2 (fun j u hj=>hj.keep hc2 hno) ((hv.keep hcw Qc.nil).keep hc2 hno),hcw.ty hc2⟩
  ·go_wp2_with fail
   refine(CI.out _ Qb.now).mono ?_
   rintro e w1 ⟨rfl,c1⟩
   have hcw:Qb [] w w1:=Qb.tz Qb.now c1
   go_wp2_with fail
   go_end0
   have hst:=Qz.stay (w:=w) (enc:=YD) (k0:=t) (i0:=i) hE hp hall hmem hl (by omega)
   exact⟨rfl,hst.keep hcw Qc.nil (by simp),hcw.mono (by simp)⟩
 ·intro hno0
  have hcw:∀o,Qb [] w (w.alloc o):=fun o=>(Qb.refl _ _).alloc o
  go_wp2_with (first|(at_mapUpdate;refine Yx rfl (.tmp 22) (.tmp 23) (.tmp 24) 70 rfl UH trivial hu rfl (hE1 _) rfl rfl hkc ?_;intro w2 E' hE' hc2 hs2 hm2)|fail)
  go_end0
  have hno:∀o,Qc (w.alloc o) [b]:=fun o=>Qc.cons (hE1 o).nz Qc.nil
  exact⟨rfl,Qz.put (w:=w.alloc _) (fun _ _ h=>Vc h) (fun p hq=>by
   obtain⟨k,i,e,h4,h5⟩:=hp p hq
   exact⟨k,i,e,h4.keep (hcw _) Qc.nil,h5⟩) hall (fun p hq e=>absurd e (hno0 p.1 p.2 hq)) hE' hm2 (fun j u hj=>hj.keep hc2 (hno _)) ((hv.keep (hcw _) Qc.nil).keep hc2 (hno _)),(hcw _).ty hc2⟩
def YQ (n:Int):Value:=.int .i64 n
def qK (v:Value):Prop:=∃t:Int,v=YQ t/\YA t
theorem QgB (n:Int) (h:YA n):∃l,keyOf Tryz.prog 3 (YQ n)=some l:=by
 have hi:Tryz.prog.underlying 3=some (.int .i64):=by kernel_rfl
 have hw:(Lit.int .i64 n).wf=true:=by simp only [Lit.wf,Bool.and_eq_true,decide_eq_true_eq];exact⟨h.1,h.2⟩
 unfold keyOf
 rw [hi]
 simp only
 unfold mapKey YQ
 rw [hi]
 simp [hw]
theorem qp:GM Tryz.prog 3 qK (fun _=>True):=GM.of_keyed (Maps.int_keyed Tryz.underlying3) (fun v hv=>by
 obtain⟨t,rfl,h⟩:=hv
 exact QgB t h)
theorem VV {a c:Int} (h:YQ a=YQ c):a=c:=by simpa [YQ] using h
theorem Qac (X:Int->List Int->Prop) (b:Nat) (t:Int) (i:List Int) (vi:Value) (w:World) (ht:YA t)
  (hm:Qz w qK YQ b X) (hv:Zj w i vi):
  Calls Tryz.prog 162 #[.map (some b),YQ t,vi] w fun e w'=>e= .returned (.tuple #[])/\Qz w' qK YQ b (fun k j=>X k j∨(k=t/\j=i))/\Qb [b] w w':=by
 have hkc:qK (YQ t):=⟨t,rfl,ht⟩
 have hlt:=hm.lt
 obtain⟨E,hE,hp,hall⟩:=hm
 have hu:Tryz.prog.underlying 71=some (.map 3 25):=by kernel_rfl
 have hz:∀W:World,(zeroValue 25).run Tryz.prog W= .ok (.slice none 0 0) W:=fun W=>by kernel_rfl
 unfold YQ at *
 go_enter Tryz.func162,Tryz.ntmps162
 go_wp2_with (first|(at_lookup;refine JC rfl (.tmp 9) (.tmp 10) 71 true rfl qp trivial hu (hz _) rfl hE rfl hkc ?_ ?_)|fail)
 ·intro v hmem
  obtain⟨k,old,ek,hvo,hl⟩:=hp _ hmem
  obtain rfl:t=k:=VV ek
  have hvo2:=hvo
  have hv2:=hv
  obtain⟨A,cap,ev,_⟩:=hvo2
  obtain⟨A',cap',ev',_⟩:=hv2
  simp only at ev
  subst ev ev'
  have CI:=Qd (fun W (hW:Qb [] w W)=>ZJ i old _ _ _ _ W (hv.keep hW Qc.nil).rd (hvo.keep hW Qc.nil).rd (Nat.le_refl _) (Nat.le_refl _))
  by_cases hc:YY i old<0
  ·go_wp2_with fail
   refine(CI.out _ Qb.now).mono ?_
   rintro e w1 ⟨rfl,c1⟩
   have hcw:Qb [] w w1:=Qb.tz Qb.now c1
   have hE2:=hE.chg hcw (by simp)
   go_wp2_with (first|(at_mapUpdate;refine Yx rfl (.tmp 22) (.tmp 23) (.tmp 24) 71 rfl qp trivial hu rfl hE2 rfl rfl hkc ?_;intro w2 E' hE' hc2 hs2 hm2)|fail)
   go_end0
   have hno:Qc w1 [b]:=Qc.cons hE2.nz Qc.nil
   exact⟨rfl,Qz.put (w:=w1) (fun _ _ h=>VV h) (fun p hq=>by
    obtain⟨k,i,e,h4,h5⟩:=hp p hq
    exact⟨k,i,e,h4.keep hcw Qc.nil,h5⟩) hall (fun p hq e=>by
    obtain⟨k,j,e2,h4,h5⟩:=hp p hq
    obtain rfl:t=k:=VV (e.symm.trans e2)
    exact⟨j,h4.keep hcw Qc.nil,h5,by rw [h5.one hl];omega⟩) hE' hm2 (fun j u hj=>hj.keep hc2 hno) ((hv.keep hcw Qc.nil).keep hc2 hno),hcw.ty hc2⟩
  ·go_wp2_with fail
   refine(CI.out _ Qb.now).mono ?_
   rintro e w1 ⟨rfl,c1⟩
   have hcw:Qb [] w w1:=Qb.tz Qb.now c1
   go_wp2_with fail
   go_end0
   have hst:=Qz.stay (w:=w) (enc:=YQ) (k0:=t) (i0:=i) hE hp hall hmem hl (by omega)
   exact⟨rfl,hst.keep hcw Qc.nil (by simp),hcw.mono (by simp)⟩
 ·intro hno0
  go_wp2_with (first|(at_mapUpdate;refine Yx rfl (.tmp 22) (.tmp 23) (.tmp 24) 71 rfl qp trivial hu rfl hE rfl rfl hkc ?_;intro w2 E' hE' hc2 hs2 hm2)|fail)
  go_end0
  have hno:Qc w [b]:=Qc.cons hE.nz Qc.nil
  exact⟨rfl,Qz.put (w:=w) (fun _ _ h=>VV h) (fun p hq=>by
   obtain⟨k,i,e,h4,h5⟩:=hp p hq
   exact⟨k,i,e,h4,h5⟩) hall (fun p hq e=>absurd e (hno0 p.1 p.2 hq)) hE' hm2 (fun j u hj=>hj.keep hc2 hno) (hv.keep hc2 hno),hc2⟩
end Go.Proofs.YtlnkgcdeljhjcaaGreatDoor
namespace Go.Proofs.YtlnkgcdeljhjcaaGreatDoor
open Go.RowKit
open Go.MapKept (Stamped stamped_iff)

def leftN (w:World) (b r:Nat):Nat:=match w.heap[b]?,w.heap[r]? with
 |some (.map es _),some (.mapIter _ _ seen _)=>(leftOf es seen).size
 |_,_=>0
theorem Jt.leftN {w:World} {b r:Nat} {E L:List (Value×Value)} (h:Jt w b r E L):leftN w b r=L.length:=by
 obtain⟨es,clock,since,seen,c0,h1,h2,_,_,_,_,_,h3⟩:=h
 unfold Proofs.YtlnkgcdeljhjcaaGreatDoor.leftN
 rw [h1,h2, <-h3]
 simp
theorem Jt.apart {w:World} {b r:Nat} {E L:List (Value×Value)} (h:Jt w b r E L):L.Pairwise (fun p q=>p.1≠q.1)/\(∀p∈L,p∈E)/\∀cs e fr,w.heap[r]?≠some (.cells cs e fr):=by
 obtain⟨es,clock,since,seen,c0,h1,h2,hs,_,_,_,rfl,rfl⟩:=h
 have hap:=((stamped_iff es clock).1 hs).2.2
 have hsub:(leftOf es seen).toList.Sublist es.toList:=by
  unfold leftOf
  rw [Array.toList_filter]
  exact List.filter_sublist
 refine⟨?_,fun p hp=>?_,fun cs e fr h=>?_⟩
 ·rw [List.pairwise_map]
  exact hap.sublist hsub
 ·obtain⟨x,hx,rfl⟩:=List.mem_map.1 hp
  exact List.mem_map.2 ⟨x,hsub.subset hx,rfl⟩
 ·rw [h2] at h
  cases h
def Gf (w:World) {κ:Type} (KC:Value->Prop) (enc:κ->Value) (b r:Nat) (X D:κ->List Int->Prop):Prop:=
 ∃E L,ZI w KC b E/\Jt w b r E L/\b≠r/\(∀p∈E,∃k i,p.1=enc k/\Zj w i p.2/\XF (X k) i)/\(∀k i,X k i->∃p∈E,p.1=enc k)/\(∀a c,enc a=enc c->a=c)/\∀k i,D k i↔XF (X k) i/\∀v,(enc k,v)∉L
section
variable {w w':World} {κ:Type} {KC:Value->Prop} {enc:κ->Value} {b r:Nat} {X D:κ->List Int->Prop}
theorem Gf.lt (h:Gf w KC enc b r X D):b<w.heap.size/\r<w.heap.size/\b≠r:=by
 obtain⟨E,L,h1,h2,h3,_⟩:=h
 exact⟨h1.lt,h2.lt.2,h3⟩
theorem Gf.nz (h:Gf w KC enc b r X D):∀cs fr,w.heap[r]?≠some (.cells cs 3 fr):=by
 obtain⟨E,L,_,h2,_⟩:=h
 exact fun cs fr=>h2.apart.2.2 cs _ fr
theorem Gf.keep {S:List Nat} (h:Gf w KC enc b r X D) (hc:Qb S w w') (hS:Qc w S) (hb:b∉S:=by first|(simp;done)|((repeat' first|exact List.not_mem_nil|refine List.not_mem_cons_of_ne_of_not_mem ?_ ?_)<;>first|assumption|(apply Ne.symm;assumption)|omega)|(simp;omega)) (hr:r∉S:=by first|(simp;done)|((repeat' first|exact List.not_mem_nil|refine List.not_mem_cons_of_ne_of_not_mem ?_ ?_)<;>first|assumption|(apply Ne.symm;assumption)|omega)|(simp;omega)):Gf w' KC enc b r X D:=by
 obtain⟨E,L,h1,h2,h3,h4,h5,h6,h7⟩:=h
 exact⟨E,L,h1.chg hc hb,h2.chg hc hb hr,h3,fun p hp=>by
  obtain⟨k,i,e,hi,hl⟩:=h4 p hp
  exact⟨k,i,e,hi.keep hc hS,hl⟩,h5,h6,h7⟩
theorem Gf.left {S:List Nat} (h:Gf w KC enc b r X D) (hc:Qb S w w') (hb:b∉S:=by first|(simp;done)|((repeat' first|exact List.not_mem_nil|refine List.not_mem_cons_of_ne_of_not_mem ?_ ?_)<;>first|assumption|(apply Ne.symm;assumption)|omega)|(simp;omega)) (hr:r∉S:=by first|(simp;done)|((repeat' first|exact List.not_mem_nil|refine List.not_mem_cons_of_ne_of_not_mem ?_ ?_)<;>first|assumption|(apply Ne.symm;assumption)|omega)|(simp;omega)):leftN w' b r=leftN w b r:=by
 obtain⟨E,L,h1,h2,_⟩:=h
 rw [h2.leftN,(h2.chg hc hb hr).leftN]
theorem Gf.congr {D':κ->List Int->Prop} (h:Gf w KC enc b r X D) (hx:∀k i,D k i↔D' k i):Gf w KC enc b r X D':=by
 have:D=D':=funext fun k=>funext fun i=>propext (hx k i)
 rwa [<-this]
end
section
variable {P:Program} {w:World} {ops:Array Oper} {rest:List Oper} {o:Oper} {a:Act} {Q:Exit->Act->World->Prop} {κ:Type} {KC:Value->Prop} {enc:κ->Value} {k e:TypeId} {b r:Nat} {X D:κ->List Int->Prop}
theorem ZA (hg:o.guard=none) (m:Operand) (t:TypeId) (hop:o.op=Op.range t m) (ht:P.underlying t=some (.map k e)) (hinj:∀a c,enc a=enc c->a=c) (hm:a.eval m= .map (some b)) (h:Qz w KC enc b X)
  (hK:∀w',Gf w' KC enc b w.heap.size X (fun _ _=>False)->Qb [] w w'->w'.heap.size=w.heap.size+1->wpList P ops Q rest (a.put o.dst (.pointer (some ⟨w.heap.size,0,none⟩))) w'):
  wpList P ops Q (o::rest) a w:=by
 obtain⟨E,h1,h2,h3⟩:=h
 refine QcT hg m t hop ht hm h1 fun w' hR hc hs=>hK w' ?_ hc hs
 have hlt:=h1.lt
 refine⟨E,E,h1.chg hc (by simp),hR,by omega,fun p hp=>?_,h3,hinj,fun k i=>⟨fun h=>h.elim,fun⟨hl,hn⟩=>?_⟩⟩
 ·obtain⟨k,i,e,hi,hl⟩:=h2 p hp
  exact⟨k,i,e,hi.keep hc Qc.nil,hl⟩
 ·obtain⟨p,hp,e⟩:=h3 k i hl.1
  exact hn p.2 (by rw [<-e];exact hp)
theorem Zz (hg:o.guard=none) (it:Operand) (hop:o.op=Op.next it false) (hit:a.eval it= .pointer (some ⟨r,0,none⟩)) (h:Gf w KC enc b r X D)
  (hDone:(∀k i,D k i↔XF (X k) i)->wpList P ops Q rest (a.put o.dst (.tuple #[.bool false])) w)
  (hMore:∀k i v w',KC (enc k)->Zj w' i v->XF (X k) i->Gf w' KC enc b r X (fun k' i'=>D k' i'∨(k'=k/\i'=i))->Qb [r] w w'->w'.heap.size=w.heap.size->leftN w' b r<leftN w b r->
   (Instr.entry (.pointer (some ⟨r,0,none⟩))).run P w'= .ok (.tuple #[enc k,v]) w'->wpList P ops Q rest (a.put o.dst (.tuple #[.bool true,enc k,v])) w'):
  wpList P ops Q (o::rest) a w:=by
 have hno:=Qc.cons h.nz Qc.nil
 obtain⟨E,L,h1,h2,h3,h4,h5,h6,h7⟩:=h
 refine QbW hg it hop hit h2 h3 (fun h0=>hDone fun k i=>?_) (fun x v L' w' hp hx hR hc hs hrun=>?_)
 ·rw [h7,h0]
  simp
 ·obtain⟨k,i,rfl,hi,hl⟩:=h4 _ hx
  have hpw:((enc k,v)::L').Pairwise (fun p q=>p.1≠q.1):=(hp.pairwise_iff (fun {a b} h=>fun e=>h e.symm)).1 h2.apart.1
  refine hMore k i v w' (h1.keys _ hx) (hi.keep hc hno) hl ⟨E,L',h1.chg hc (by simp [h3]),hR,h3,fun p hp=>?_,h5,h6,fun k' i'=>⟨?_,fun⟨hl',hn⟩=>?_⟩⟩ hc hs ?_ hrun
  ·obtain⟨k,i,e,hi,hl⟩:=h4 p hp
   exact⟨k,i,e,hi.keep hc hno,hl⟩
  ·rintro(hd|⟨rfl,rfl⟩)
   ·obtain⟨q1,q2⟩:=(h7 _ _).1 hd
    exact⟨q1,fun v' hv'=>q2 v' (hp.symm.subset (List.mem_cons_of_mem _ hv'))⟩
   ·exact⟨hl,fun v' hv'=>(List.pairwise_cons.1 hpw).1 _ hv' rfl⟩
  ·by_cases hk:k'=k
   ·subst hk
    exact .inr ⟨rfl,hl'.one hl⟩
   ·refine .inl ((h7 _ _).2 ⟨hl',fun v' hv'=>?_⟩)
    rcases List.mem_cons.1 (hp.subset hv') with h|h
    ·exact hk (h6 _ _ (Prod.mk.inj h).1)
    ·exact hn v' h
  ·rw [h2.leftN,hR.leftN,hp.length_eq]
   simp
end
theorem QdT {y:Bool} {p q:Prop} (h:y=true) (hp:p):if y=true then p else q:=by rw [if_pos h];exact hp
theorem QfH {P:Program} {w:World} {o:Oper} {a:Act} {Q:Exit->Act->World->Prop} {KC:Value->Prop} {G:World->Prop} {k e:TypeId} {b:Nat} {E:List (Value×Value)} {K':Act->World->Prop} (m x v:Operand) (t:TypeId) (hop:o.op=Op.mapUpdate t m x v) (K:GM P k KC G) (hG:G w) (ht:P.underlying t=some (.map k e))
  (hm:a.eval m= .map (some b)) (h:ZI w KC b E) {key val:Value} (hx:a.eval x=key) (hv:a.eval v=val) (hk:KC key)
  (hK:∀w' E',ZI w' KC b E'->Qb [b] w w'->w'.heap.size=w.heap.size->(∀p,p∈E'↔(p∈E/\p.1≠key)∨p=(key,val))->K' (a.put o.dst undef) w'):Oper.wp P o a w K' Q:=by
 unfold Oper.wp
 obtain⟨w',E',hrun,h1,h2,h3,h4⟩:=h.store (val:=val) K hG ht hk
 simp [execOp,hop,hm,hx,hv,hrun,Result.andThen]
 exact hK w' E' h1 h2 h3 h4
end Go.Proofs.YtlnkgcdeljhjcaaGreatDoor
namespace Go.Proofs.YtlnkgcdeljhjcaaGreatDoor
open Go.RowKit

abbrev B3:=ByteArray×ByteArray×ByteArray
def Vr (k:B3):YM ByteArray:=⟨k.1,k.2.1,k.2.2⟩
theorem VP (t:YM ByteArray):∃k,t=Vr k:=⟨(t.a,t.b,t.c),rfl⟩
theorem yS {a c:B3} (h:Vr a=Vr c):a=c:=by
 obtain⟨a1,a2,a3⟩:=a
 obtain⟨c1,c2,c3⟩:=c
 simp [Vr] at h
 simp [h]
abbrev ys:=Rn (YM ByteArray)
def Yj (X:ys) (s:B3) (k:B3) (i:List Int):Prop:=X.ok (Vr s) i (Vr k)
def Wz (X:ys) (s:B3) (k:Yl) (i:List Int):Prop:=X.bad (Vr s) i (Vr k.2) ⟨1,k.1.1,k.1.2.1,k.1.2.2⟩
def Vf (X:ys) (s:B3) (p:Int) (i:List Int):Prop:=∃t e,X.bad (Vr s) i t e/\e.code≠1/\e.place=p
def Ut {σ κ:Type} (D:σ->List Int->Prop) (R:σ->κ->List Int->Prop) (k:κ) (i:List Int):Prop:=∃s f j,D s f/\R s k j/\i=f++j
theorem Vl {σ κ:Type} {R:σ->κ->List Int->Prop} (k:κ) (i:List Int):¬Ut (fun _ _=>False) R k i:=fun⟨_,_,_,h,_⟩=>h
theorem Ve {σ κ:Type} {D:σ->List Int->Prop} {R:σ->κ->List Int->Prop} {s0:σ} {f0:List Int} (k:κ) (i:List Int):
  (Ut D R k i∨∃j,R s0 k j/\i=f0++j)↔Ut (fun s f=>D s f∨(s=s0/\f=f0)) R k i:=by
 constructor
 ·rintro(⟨s,f,j,h1,h2,h3⟩|⟨j,h1,h2⟩)
  ·exact⟨s,f,j,.inl h1,h2,h3⟩
  ·exact⟨s0,f0,j,.inr ⟨rfl,rfl⟩,h1,h2⟩
 ·rintro⟨s,f,j,h1|⟨rfl,rfl⟩,h2,h3⟩
  ·exact .inl ⟨s,f,j,h1,h2,h3⟩
  ·exact .inr ⟨j,h2,h3⟩
theorem Yz {κ:Type} {X D:κ->List Int->Prop} {k0:κ} {i j0:List Int} (k:κ) (l:List Int):((X k l∨∃j,D k j/\l=i++j)∨(k=k0/\l=i++j0))↔(X k l∨∃j,(D k j∨(k=k0/\j=j0))/\l=i++j):=by
 constructor
 ·rintro((h|⟨j,h1,h2⟩)|⟨h1,h2⟩)
  ·exact .inl h
  ·exact .inr ⟨j,.inl h1,h2⟩
  ·exact .inr ⟨j0,.inr ⟨h1,rfl⟩,h2⟩
 ·rintro(h|⟨j,h1|⟨h1,rfl⟩,h2⟩)
  ·exact .inl (.inl h)
  ·exact .inl (.inr ⟨j,h1,h2⟩)
  ·exact .inr ⟨h1,h2⟩
def Pos (X:List Int->Prop):Prop:=∀i,X i->∀x∈i,0<=x
theorem Pos.least {X:List Int->Prop} (h:Pos X) {i:List Int} (hi:X i):∃j,XF X j:=kU h ⟨i,hi⟩
section
variable {w:World} {σ κ:Type} {KC:Value->Prop} {enc:κ->Value} {b:Nat} {X Y:κ->List Int->Prop} {F:σ->List Int->Prop} {R:σ->κ->List Int->Prop} {i0:List Int}
theorem Qz.front (h:Qz w KC enc b (fun k i=>X k i∨∃j,XF (Y k) j/\i=i0++j)) (hp:∀k,Pos (Y k)):Qz w KC enc b (fun k i=>X k i∨∃j,Y k j/\i=i0++j):=
 h.wider (fun k i h=>h.imp_right fun⟨j,h1,h2⟩=>⟨j,h1.1,h2⟩) (fun k i h=>by
  rcases h with h|⟨j,h1,rfl⟩
  ·exact⟨i,.inl h,by rw [WZ];omega⟩
  ·obtain⟨j',h2⟩:=(hp k).least h1
   exact⟨i0++j',.inr ⟨j',h2,rfl⟩,uY (by rw [WZ];omega) (h2.2 _ h1)⟩)
theorem Qz.fronts (h:Qz w KC enc b (fun k i=>X k i∨Ut (fun s f=>XF (F s) f) R k i)) (hp:∀s,Pos (F s)):Qz w KC enc b (fun k i=>X k i∨Ut F R k i):=
 h.wider (fun k i h=>h.imp_right fun⟨s,f,j,h1,h2⟩=>⟨s,f,j,h1.1,h2⟩) (fun k i h=>by
  rcases h with h|⟨s,f,j,h1,h2,rfl⟩
  ·exact⟨i,.inl h,by rw [WZ];omega⟩
  ·obtain⟨f',h3⟩:=(hp s).least h1
   exact⟨f'++j,.inr ⟨s,f',j,h3,h2,rfl⟩,uY (h3.2 _ h1) (by rw [WZ];omega)⟩)
end
structure Xx (w:World) (b1 b2 b3:Nat) (X:ys) (s:B3):Prop where
 ok:Qz w VU QX b1 (Yj X s)
 fl:Qz w ql YD b2 (Wz X s)
 em:Qz w qK YQ b3 (Vf X s)
theorem Xx.keep {w w':World} {b1 b2 b3:Nat} {X:ys} {s:B3} {S:List Nat} (h:Xx w b1 b2 b3 X s) (hc:Qb S w w') (hS:Qc w S) (h1:b1∉S:=by first|(simp;done)|((repeat' first|exact List.not_mem_nil|refine List.not_mem_cons_of_ne_of_not_mem ?_ ?_)<;>first|assumption|(apply Ne.symm;assumption)|omega)|(simp;omega)) (h2:b2∉S:=by first|(simp;done)|((repeat' first|exact List.not_mem_nil|refine List.not_mem_cons_of_ne_of_not_mem ?_ ?_)<;>first|assumption|(apply Ne.symm;assumption)|omega)|(simp;omega)) (h3:b3∉S:=by first|(simp;done)|((repeat' first|exact List.not_mem_nil|refine List.not_mem_cons_of_ne_of_not_mem ?_ ?_)<;>first|assumption|(apply Ne.symm;assumption)|omega)|(simp;omega)):Xx w' b1 b2 b3 X s:=
 ⟨h.ok.keep hc hS h1,h.fl.keep hc hS h2,h.em.keep hc hS h3⟩
theorem Xx.lt {w:World} {b1 b2 b3:Nat} {X:ys} {s:B3} (h:Xx w b1 b2 b3 X s):b1<w.heap.size/\b2<w.heap.size/\b3<w.heap.size:=⟨h.ok.lt,h.fl.lt,h.em.lt⟩
section
variable {X Y:ys} {s:B3}
theorem QgP (k:B3) (i:List Int):Ut (Yj X s) (fun u=>Yj Y u) k i↔Yj (X.seq Y) s k i:=by
 constructor
 ·rintro⟨u,f,j,h1,h2,rfl⟩
  exact⟨f,j,Vr u,rfl,h1,h2⟩
 ·rintro⟨f,j,u,rfl,h1,h2⟩
  obtain⟨u,rfl⟩:=VP u
  exact⟨u,f,j,h1,h2,rfl⟩
theorem QdC (k:Yl) (i:List Int):(Wz X s k i∨Ut (Yj X s) (fun u=>Wz Y u) k i)↔Wz (X.seq Y) s k i:=by
 constructor
 ·rintro(h|⟨u,f,j,h1,h2,rfl⟩)
  ·exact .inl h
  ·exact .inr ⟨f,j,Vr u,rfl,h1,h2⟩
 ·rintro(h|⟨f,j,u,rfl,h1,h2⟩)
  ·exact .inl h
  ·obtain⟨u,rfl⟩:=VP u
   exact .inr ⟨u,f,j,h1,h2,rfl⟩
theorem Qdz (k:Int) (i:List Int):(Vf X s k i∨Ut (Yj X s) (fun u=>Vf Y u) k i)↔Vf (X.seq Y) s k i:=by
 constructor
 ·rintro(⟨t,e,h,h'⟩|⟨u,f,j,h1,⟨t,e,h,h'⟩,rfl⟩)
  ·exact⟨t,e,.inl h,h'⟩
  ·exact⟨t,e,.inr ⟨f,j,Vr u,rfl,h1,h⟩,h'⟩
 ·rintro⟨t,e,h|⟨f,j,u,rfl,h1,h⟩,h'⟩
  ·exact .inl ⟨t,e,h,h'⟩
  ·obtain⟨u,rfl⟩:=VP u
   exact .inr ⟨u,f,j,h1,⟨t,e,h,h'⟩,rfl⟩
theorem Qao (n:Int) (k:B3) (i:List Int):(∃j,Yj X s k j/\i=[n] ++j)↔Yj (X.took n) s k i:=⟨fun⟨j,h,e⟩=>⟨j,e,h⟩,fun⟨j,e,h⟩=>⟨j,h,e⟩⟩
theorem Qak (n:Int) (k:Yl) (i:List Int):(∃j,Wz X s k j/\i=[n] ++j)↔Wz (X.took n) s k i:=⟨fun⟨j,h,e⟩=>⟨j,e,h⟩,fun⟨j,e,h⟩=>⟨j,h,e⟩⟩
theorem Qbk (n:Int) (k:Int) (i:List Int):(∃j,Vf X s k j/\i=[n] ++j)↔Vf (X.took n) s k i:=
 ⟨fun⟨j,⟨t,e,h,h'⟩,e'⟩=>⟨t,e,⟨j,e',h⟩,h'⟩,fun⟨t,e,⟨j,e',h⟩,h'⟩=>⟨j,⟨t,e,h,h'⟩,e'⟩⟩
theorem Qay (n:Int) (k:B3) (i:List Int):Yj ((X.took n).seq Y) s k i↔Yj ((X.seq Y).took n) s k i:=by
 constructor
 ·rintro⟨f,j,u,rfl,⟨f',rfl,h1⟩,h2⟩
  exact⟨f'++j,rfl,f',j,u,rfl,h1,h2⟩
 ·rintro⟨l,rfl,f,j,u,rfl,h1,h2⟩
  exact⟨n::f,j,u,rfl,⟨f,rfl,h1⟩,h2⟩
theorem jU (n:Int) (t:YM ByteArray) (e:XH) (i:List Int):((X.took n).seq Y).bad (Vr s) i t e↔((X.seq Y).took n).bad (Vr s) i t e:=by
 constructor
 ·rintro(⟨f,rfl,h⟩|⟨f,j,u,rfl,⟨f',rfl,h1⟩,h2⟩)
  ·exact⟨f,rfl,.inl h⟩
  ·exact⟨f'++j,rfl,.inr ⟨f',j,u,rfl,h1,h2⟩⟩
 ·rintro⟨l,rfl,h|⟨f,j,u,rfl,h1,h2⟩⟩
  ·exact .inl ⟨l,rfl,h⟩
  ·exact .inr ⟨n::f,j,u,rfl,⟨f,rfl,h1⟩,h2⟩
end
theorem Rn.ext' {X Y:ys} (h1:∀s i t,X.ok s i t↔Y.ok s i t) (h2:∀s i t e,X.bad s i t e↔Y.bad s i t e):X=Y:=by
 obtain⟨a,c⟩:=X
 obtain⟨a',c'⟩:=Y
 have e1:a=a':=funext fun s=>funext fun i=>funext fun t=>propext (h1 s i t)
 have e2:c=c':=funext fun s=>funext fun i=>funext fun t=>funext fun e=>propext (h2 s i t e)
 rw [e1,e2]
theorem Rn.seq_assoc (X Y Z:ys):(X.seq Y).seq Z=X.seq (Y.seq Z):=by
 refine Rn.ext' (fun s i t=>⟨?_,?_⟩) (fun s i t e=>⟨?_,?_⟩)
 ·rintro⟨_,k,u,rfl,⟨i,j,v,rfl,h1,h2⟩,h3⟩
  exact⟨i,j++k,v,by simp,h1,j,k,u,rfl,h2,h3⟩
 ·rintro⟨i,_,v,rfl,h1,j,k,u,rfl,h2,h3⟩
  exact⟨i++j,k,u,by simp,⟨i,j,v,rfl,h1,h2⟩,h3⟩
 ·rintro((h|⟨i,j,v,rfl,h1,h2⟩)|⟨_,k,u,rfl,⟨i,j,v,rfl,h1,h2⟩,h3⟩)
  ·exact .inl h
  ·exact .inr ⟨i,j,v,rfl,h1,.inl h2⟩
  ·exact .inr ⟨i,j++k,v,by simp,h1,.inr ⟨j,k,u,rfl,h2,h3⟩⟩
 ·rintro(h|⟨i,_,v,rfl,h1,h2|⟨j,k,u,rfl,h2,h3⟩⟩)
  ·exact .inl (.inl h)
  ·exact .inl (.inr ⟨i,_,v,rfl,h1,h2⟩)
  ·exact .inr ⟨i++j,k,u,by simp,⟨i,j,v,rfl,h1,h2⟩,h3⟩
theorem Rn.skip_seq (X:ys):Rn.skip.seq X=X:=by
 refine Rn.ext' (fun s i t=>⟨?_,fun h=>⟨[],i,s,rfl,⟨rfl,rfl⟩,h⟩⟩) (fun s i t e=>⟨?_,fun h=>.inr ⟨[],i,s,rfl,⟨rfl,rfl⟩,h⟩⟩)
 ·rintro⟨i,j,v,rfl,⟨rfl,rfl⟩,h⟩
  exact h
 ·rintro(h|⟨i,j,v,rfl,⟨rfl,rfl⟩,h⟩)
  ·exact h.elim
  ·exact h
theorem Rn.seq_skip (X:ys):X.seq Rn.skip=X:=by
 refine Rn.ext' (fun s i t=>⟨?_,fun h=>⟨i,[],t,by simp,h,rfl,rfl⟩⟩) (fun s i t e=>⟨?_,fun h=>.inl h⟩)
 ·rintro⟨i,j,v,rfl,h,h1,h2⟩
  have h1:j=[]:=h1
  have h2:t=v:=h2
  subst h1 h2
  simpa using h
 ·rintro(h|⟨i,j,v,rfl,_,h⟩)
  ·exact h
  ·exact h.elim
theorem xD:∀(l m:List Qa) (p:Int),Vu Qy (l++m) p=(Vu Qy l p).seq (Vu Qy m (p+Qe l))
 | [],m,p=>by
  have e:p+((Qe []:Nat):Int)=p:=by rw [Qe];omega
  rw [List.nil_append,Vu,Rn.skip_seq,e]
 |a::l,m,p=>by
  have e:p+((Qe (a::l):Nat):Int)=p+a.size+Qe l:=by rw [Qe];omega
  rw [List.cons_append,Vu,Vu,xD l m,Rn.seq_assoc,e]
theorem QgF (a:Qa) (p:Int):Vu Qy [a] p=a.ex Qy p:=by rw [Vu,Vu,Rn.seq_skip]
theorem QeS (m:List Qa) (k:Nat) (h:k<m.length) (p:Int):Vu Qy (m.take (k+1)) p=(Vu Qy (m.take k) p).seq (m[k].ex Qy (p+Qe (m.take k))):=by
 rw [List.take_succ_eq_append_getElem h,xD,QgF]
theorem WJ {X:ys} (h:XM X) (s k:B3):Pos (Yj X s k):=fun _ hi x hx=>(h.ok hi x hx).1
theorem VS {X:ys} (h:XM X) (s:B3) (k:Yl):Pos (Wz X s k):=fun _ hi x hx=>(h.bad hi x hx).1
theorem JS {X:ys} (h:XM X) (s:B3) (k:Int):Pos (Vf X s k):=fun _ ⟨_,_,hi,_⟩ x hx=>(h.bad hi x hx).1
section
variable {w:World} {X Y:ys} {s:B3} {b:Nat} {D:B3->List Int->Prop}
theorem Qal (h:Qz w VU QX b (Ut D (fun u=>Yj Y u))) (hD:∀k i,D k i↔XF (Yj X s k) i) (dX:XM X):Qz w VU QX b (Yj (X.seq Y) s):=by
 obtain rfl:D=fun k i=>XF (Yj X s k) i:=funext fun k=>funext fun i=>propext (hD k i)
 exact(Qz.fronts (X:=fun _ _=>False) (F:=Yj X s) (R:=fun u=>Yj Y u) (h.congr (fun k i=>by simp)) (fun k=>WJ dX s k)).congr (fun k i=>by rw [<-QgP];simp)
theorem QfY (h:Qz w ql YD b (fun k i=>Wz X s k i∨Ut D (fun u=>Wz Y u) k i)) (hD:∀k i,D k i↔XF (Yj X s k) i) (dX:XM X):Qz w ql YD b (Wz (X.seq Y) s):=by
 obtain rfl:D=fun k i=>XF (Yj X s k) i:=funext fun k=>funext fun i=>propext (hD k i)
 exact(Qz.fronts (F:=Yj X s) h (fun k=>WJ dX s k)).congr (fun k i=>QdC k i)
theorem QfA (h:Qz w qK YQ b (fun k i=>Vf X s k i∨Ut D (fun u=>Vf Y u) k i)) (hD:∀k i,D k i↔XF (Yj X s k) i) (dX:XM X):Qz w qK YQ b (Vf (X.seq Y) s):=by
 obtain rfl:D=fun k i=>XF (Yj X s k) i:=funext fun k=>funext fun i=>propext (hD k i)
 exact(Qz.fronts (F:=Yj X s) h (fun k=>WJ dX s k)).congr (fun k i=>Qdz k i)
end
abbrev zL:=Int×(Nat×Nat)×(ByteArray×ByteArray×ByteArray)
def Kr (x:zL):Value:=.agg #[.int .i64 x.1,.pointer (some ⟨x.2.1.1,x.2.1.2,none⟩),.string x.2.2.1,.string x.2.2.2.1,.string x.2.2.2.2]
def Blk (SB:Nat->Prop) (w:World):Prop:=∀b,SB b->∃cs e,w.heap[b]?=some (.cells cs e (0,0))
def KCx (SB:Nat->Prop) (v:Value):Prop:=∃x:zL,v=Kr x/\SB x.2.1.1
theorem Qaa {a c:zL} (h:Kr a=Kr c):a=c:=by
 obtain⟨a1,⟨a2,a3⟩,a4,a5,a6⟩:=a
 obtain⟨c1,⟨c2,c3⟩,c4,c5,c6⟩:=c
 simp [Kr] at h
 obtain⟨rfl,⟨rfl,rfl⟩,rfl,rfl,rfl⟩:=h
 rfl
theorem QdZ (a c:ByteArray×ByteArray×ByteArray) (W:World):∀n:Nat,(Op.equalIn (n+2) 88 (.agg #[.string a.1,.string a.2.1,.string a.2.2]) (.agg #[.string c.1,.string c.2.1,.string c.2.2])).run Tryz.prog W= .ok (a.1==c.1&&(a.2.1==c.2.1&&a.2.2==c.2.2)) W:=fun n=>by
 have h0:Tryz.prog.underlying 88=some (.array 3 9):=by kernel_rfl
 have hs:Tryz.prog.underlying 9=some .string:=by kernel_rfl
 obtain⟨i,hi,hsz⟩:∃i,Tryz.prog.info? 9=some i/\i.size=1:=by
  have h:(Tryz.prog.info? 9).map (fun i=>i.size)=some 1:=by kernel_rfl
  cases hi:Tryz.prog.info? 9 with
  |none=>rw [hi] at h;cases h
  |some i=>rw [hi] at h;exact⟨i,rfl,by simpa using h⟩
 have hc:Tryz.prog.cellsOf 9=1:=by kernel_rfl
 have hr:List.range 3=[0,1,2]:=rfl
 rw [run_equalIn_array W (n+1) _ _ h0 hi,hc,hr]
 simp [go_sem,Op.eqItems,beq_toListBytes]
 by_cases h1:a.1.toList=c.1.toList<;>by_cases h2:a.2.1.toList=c.2.1.toList<;>by_cases h3:a.2.2.toList=c.2.2.toList<;>simp [h1,h2,h3]
theorem QgQ (x y:zL) (W:World) (SB:Nat->Prop) (hG:Blk SB W) (hx:SB x.2.1.1) (hy:SB y.2.1.1):(Op.equal 213 (Kr x) (Kr y)).run Tryz.prog W= .ok (decide (x=y)) W:=by
 have h:∀n:Nat,(Op.equalIn (n+3) 213 (Kr x) (Kr y)).run Tryz.prog W= .ok (decide (x=y)) W:=fun n=>by
  unfold Kr
  rw [run_equalIn_struct W (n+2) 213 _ _ (by simp only [Program.fieldsOf,Tryz.underlying213]) (by kernel_rfl)]
  simp [go_sem,Program.fieldsOf,Tryz.underlying213]
  have he:(Op.equalIn (n+2) 158 (.pointer (some ⟨x.2.1.1,x.2.1.2,none⟩)) (.pointer (some ⟨y.2.1.1,y.2.1.2,none⟩))).run Tryz.prog W= .ok (decide (x.2.1=y.2.1)) W:=by
   have hp:Tryz.prog.underlying 158=some (.pointer 44):=by kernel_rfl
   obtain⟨i,hi,hsz⟩:∃i,Tryz.prog.info? 44=some i/\i.size≠0:=by
    have h:(Tryz.prog.info? 44).map (fun i=>decide (i.size≠0))=some true:=by kernel_rfl
    cases hi:Tryz.prog.info? 44 with
    |none=>rw [hi] at h;cases h
    |some i=>rw [hi] at h;exact⟨i,rfl,by simpa using h⟩
   obtain⟨cx,ex,hbx⟩:=hG _ hx
   obtain⟨cy,ey,hby⟩:=hG _ hy
   by_cases h:x.2.1=y.2.1
   ·rw [h]
    simp [Op.equalIn,run_underlying hp,sizeOf,typeInfo,hi,run_sameAddr_same]
   ·have hne:(⟨x.2.1.1,x.2.1.2,none⟩:Addr)≠⟨y.2.1.1,y.2.1.2,none⟩:=fun e=>h (by
     have e1:=congrArg Addr.block e
     have e2:=congrArg Addr.off e
     exact Prod.ext e1 e2)
    simp [Op.equalIn,run_underlying hp,sizeOf,typeInfo,hi,hsz,run_sameAddr_other W hne hbx hby,h]
  rw [he]
  simp only [Result.andThen_ok]
  have hs:=QdZ x.2.2 y.2.2 W n
  rw [hs]
  have hx3:x=(x.1,x.2.1,x.2.2.1,x.2.2.2.1,x.2.2.2.2):=rfl
  have hy3:y=(y.1,y.2.1,y.2.2.1,y.2.2.2.1,y.2.2.2.2):=rfl
  have hb:∀a c:ByteArray,(a==c)=decide (a=c):=fun a c=>by
   rw [beq_toListBytes]
   by_cases h:a=c
   ·simp [h]
   ·have:a.toList≠c.toList:=fun e=>h (yT e)
    simp [h,this]
  have hd:decide (x=y)=(decide (x.1=y.1)&&(decide (x.2.1=y.2.1)&&(decide (x.2.2.1=y.2.2.1)&&(decide (x.2.2.2.1=y.2.2.2.1)&&decide (x.2.2.2.2=y.2.2.2.2))))):=by
   rw [Bool.eq_iff_iff]
   simp only [decide_eq_true_eq,Bool.and_eq_true]
   exact⟨fun h=>by rw [h];exact⟨rfl,rfl,rfl,rfl,rfl⟩,fun⟨h1,h2,h3,h4,h5⟩=>by rw [hx3,hy3,h1,h2,h3,h4,h5]⟩
  rw [hd,hb,hb,hb]
  by_cases h1:x.1=y.1<;>by_cases h2:x.2.1=y.2.1<;>by_cases h3:x.2.2.1=y.2.2.1<;>by_cases h4:x.2.2.2.1=y.2.2.2.1<;>by_cases h5:x.2.2.2.2=y.2.2.2.2<;>simp [h1,h2,h3,h4,h5]
 simp [Op.equal,Op.maxDepth,h 9997]
theorem qM (SB:Nat->Prop):GM Tryz.prog 213 (KCx SB) (Blk SB) where
 check {w} hG em v hv:=by
  obtain⟨x,rfl,hx⟩:=hv
  have hs:Tryz.prog.underlying 9=some .string:=by kernel_rfl
  have hi:Tryz.prog.underlying 3=some (.int .i64):=by kernel_rfl
  have hp:Tryz.prog.underlying 158=some (.pointer 44):=by kernel_rfl
  have h0:Tryz.prog.underlying 88=some (.array 3 9):=by kernel_rfl
  have hr:List.range' 0 3=[0,1,2]:=rfl
  have c1:∀(n:Nat) (s:ByteArray),(Instr.checkKey em (n+1) 9 (.string s)).run Tryz.prog w= .ok () w:=fun n s=>by
   simp [Instr.checkKey,run_underlying hs]
  have c2:∀(n:Nat) (s:Int),(Instr.checkKey em (n+1) 3 (.int .i64 s)).run Tryz.prog w= .ok () w:=fun n s=>by
   simp [Instr.checkKey,run_underlying hi]
  have c3:∀(n:Nat) (s:Option Addr),(Instr.checkKey em (n+1) 158 (.pointer s)).run Tryz.prog w= .ok () w:=fun n s=>by
   simp [Instr.checkKey,run_underlying hp]
  obtain⟨i,hinf,hsz⟩:∃i,Tryz.prog.info? 9=some i/\i.size=1:=by
   have h:(Tryz.prog.info? 9).map (fun i=>i.size)=some 1:=by kernel_rfl
   cases hi:Tryz.prog.info? 9 with
   |none=>rw [hi] at h;cases h
   |some i=>rw [hi] at h;exact⟨i,rfl,by simpa using h⟩
  have c4:∀(n:Nat) (a c d:ByteArray),(Instr.checkKey em (n+2) 88 (.agg #[.string a,.string c,.string d])).run Tryz.prog w= .ok () w:=fun n a c d=>by
   rw [Instr.checkKey]
   simp [run_underlying h0,hr,go_sem,c1,sizeOf,typeInfo,hinf,hsz]
  have h:∀n:Nat,(Instr.checkKey em (n+3) 213 (Kr x)).run Tryz.prog w= .ok () w:=fun n=>by
   rw [Instr.checkKey,Kr]
   simp [run_underlying Tryz.underlying213,go_sem,c2,c3,c4]
  exact h 9997
 find {w} hG x hx es hes:=by
  obtain⟨fs,hu⟩:∃fs,Tryz.prog.underlying 213=some (.struct fs):=⟨_,Tryz.underlying213⟩
  cases es with
  |nil=>exact .inl ⟨by simp [Instr.findKey,run_underlying hu,Instr.findNow],by simp⟩
  | cons e es=>
   have h1:=yb (P:=Tryz.prog) (k:=213) (KC:=KCx SB) (w:=w) (fun {a c} ha hc=>by
    obtain⟨a,rfl,ha⟩:=ha
    obtain⟨c,rfl,hc⟩:=hc
    exact⟨_,QgQ a c w SB hG ha hc,by rw [decide_eq_true_iff];exact⟨fun h=>by rw [h],fun h=>Qaa h⟩⟩) hx (e::es) 0 hes
   have hn:Instr.findNow (.struct fs) x (e::es) 0=none:=by
    obtain⟨a,rfl,_⟩:=hx
    simp [Instr.findNow,Instr.sameNow]
   simpa [Instr.findKey,run_underlying hu,hn] using h1
 stays {w} _ v hv:=by
  obtain⟨x,rfl,hx⟩:=hv
  have h:∀s:ByteArray,(s==s)=true:=fun s=>by rw [beq_toListBytes];simp
  simp [Instr.keyThatStays,Instr.sameBits,Kr,h]
end Go.Proofs.YtlnkgcdeljhjcaaGreatDoor
