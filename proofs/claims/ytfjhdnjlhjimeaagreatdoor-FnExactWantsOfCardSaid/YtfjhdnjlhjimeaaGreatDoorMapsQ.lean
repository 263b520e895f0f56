/- Keys of the explorer's maps. Conditions: as stated. -/
import Derived.Test.YtfjhdnjlhjimeaaGreatDoorMapsP
import Derived.Maps.Keyed
import Derived.LaidEql
set_option maxRecDepth 100000
set_option maxHeartbeats 4000000
namespace Go.Proofs.YtfjhdnjlhjimeaaGreatDoor
open Go.RowKit

abbrev Yq:=(Int×Int×Int)×(ByteArray×ByteArray×ByteArray)
def YN (x:Yq):Value:=.agg #[.int .i64 x.1.1,.int .i64 x.1.2.1,.int .i64 x.1.2.2,.string x.2.1,.string x.2.2.1,.string x.2.2.2]
def YJ (n:Int):Prop:= -9223372036854775808<=n/\n<=9223372036854775807
theorem Qbm (x:Yq) (i1:YJ x.1.1) (i2:YJ x.1.2.1) (i3:YJ x.1.2.2) (h1:x.2.1.size<=maxLen) (h2:x.2.2.1.size<=maxLen) (h3:x.2.2.2.size<=maxLen):∃l,keyOf Tryz.prog 84 (YN x)=some l:=by
 have h0:Tryz.prog.underlying 82=some (.array 3 9):=by kernel_rfl
 have hs:Tryz.prog.underlying 9=some .string:=by kernel_rfl
 have hi:Tryz.prog.underlying 3=some (.int .i64):=by kernel_rfl
 have hk:(Tryz.prog.keyType 84&&(YN x).formed Tryz.prog 84)=true:=by kernel_rfl
 have hc:Tryz.prog.cellsOf 82=3:=by kernel_rfl
 have hc1:Tryz.prog.cellsOf 9=1:=by kernel_rfl
 have hc2:Tryz.prog.cellsOf 3=1:=by kernel_rfl
 have hc3:Tryz.prog.cellsOf 80=3:=by kernel_rfl
 have hc6:Tryz.prog.cellsOf 84=6:=by kernel_rfl
 have h3t:3<=Tryz.prog.types.size:=by decide+kernel
 obtain⟨m,hm⟩:∃m,Tryz.prog.types.size+1=m+1+1+1:=⟨Tryz.prog.types.size-2,by omega⟩
 have hl:∀s:ByteArray,s.size<=maxLen->Tryz.prog.keyLits (m+1) 9 [.string s]=some [.string s.data.toList]:=fun s h=>by
  unfold Program.keyLits
  rw [hs]
  simp only
  rw [if_pos h]
 have hn:∀n:Int,YJ n->Tryz.prog.keyLits (m+1) 3 [.int .i64 n]=some [.int .i64 n]:=fun n h=>by
  unfold Program.keyLits
  rw [hi]
  simp only
  have hw:(Lit.int .i64 n).wf=true:=by simp only [Lit.wf,T0,decide_eq_true_eq];exact⟨h.1,h.2⟩
  simp [hw]
 have ha:Tryz.prog.keyLits (m+1+1) 82 [.string x.2.1,.string x.2.2.1,.string x.2.2.2]=some [.string x.2.1.data.toList,.string x.2.2.1.data.toList,.string x.2.2.2.data.toList]:=by
  unfold Program.keyLits
  rw [h0]
  simp only
  rw [hc,hc1]
  simp [List.range_succ,hl,h1,h2,h3]
 have hb:Tryz.prog.keyLits (m+1+1) 80 [.int .i64 x.1.1,.int .i64 x.1.2.1,.int .i64 x.1.2.2]=some [.int .i64 x.1.1,.int .i64 x.1.2.1,.int .i64 x.1.2.2]:=by
  unfold Program.keyLits
  rw [Tryz.underlying80]
  simp [hc3,hc2,hn,i1,i2,i3]
 unfold keyOf
 rw [Tryz.underlying84]
 simp only
 rw [if_pos hk,hm]
 have hcs:(YN x).cells.toList=[.int .i64 x.1.1,.int .i64 x.1.2.1,.int .i64 x.1.2.2,.string x.2.1,.string x.2.2.1,.string x.2.2.2]:=rfl
 rw [hcs]
 unfold Program.keyLits
 rw [Tryz.underlying84]
 simp [hc6,hc3,hc,ha,hb]
def Qbn (x:Yq):Prop:=YJ x.1.1/\YJ x.1.2.1/\YJ x.1.2.2/\x.2.1.size<=maxLen/\x.2.2.1.size<=maxLen/\x.2.2.2.size<=maxLen
def zS (v:Value):Prop:=∃t:Yq,v=YN t/\Qbn t
theorem Km:qO Tryz.prog 84 zS (fun _=>True):=qO.of_keyed Qco (fun v hv=>by
 obtain⟨t,rfl,h1,h2,h3,h4,h5,h6⟩:=hv
 exact Qbm t h1 h2 h3 h4 h5 h6)
theorem VN {a c:Yq} (h:YN a=YN c):a=c:=by
 obtain⟨⟨a1,a2,a3⟩,a4,a5,a6⟩:=a
 obtain⟨⟨c1,c2,c3⟩,c4,c5,c6⟩:=c
 simp [YN] at h
 simp [h]
theorem Qau (X:Yq->List Int->Prop) (b:Nat) (t:Yq) (i:List Int) (vi:Value) (w:World) (ht:Qbn t)
  (hm:Qx w zS YN b X) (hv:Zn w i vi):
  Calls Tryz.prog 137 #[.map (some b),YN t,vi] w fun e w'=>e= .returned (.tuple #[])/\Qx w' zS YN b (fun k j=>X k j∨(k=t/\j=i))/\Qc [b] w w':=by
 have hkc:zS (YN t):=⟨t,rfl,ht⟩
 have hlt:=hm.lt
 obtain⟨E,hE,hp,hall⟩:=hm
 have hu:Tryz.prog.underlying 71=some (.map 84 25):=by kernel_rfl
 have hz:∀W:World,(zeroValue 25).run Tryz.prog W= .ok (.slice none 0 0) W:=fun W=>by kernel_rfl
 unfold YN at *
 go_enter Tryz.func137,Tryz.ntmps137
 have hE1:=fun o:Obj=>hE.chg ((B0 [] w).alloc o) (by simp)
 have tt:w.heap.size<w.heap.size+1:=L4 _
 go_wp2_with (first|(at_lookup;refine JZ rfl (.tmp 9) (.tmp 10) 71 true rfl Km trivial hu (hz _) rfl (hE1 _) rfl hkc ?_ ?_)|fail)
 ·intro v hmem
  obtain⟨k,old,ek,hvo,hl⟩:=hp _ hmem
  obtain rfl:t=k:=VN ek
  have hvo2:=hvo
  have hv2:=hv
  obtain⟨A,cap,ev,_⟩:=hvo2
  obtain⟨A',cap',ev',_⟩:=hv2
  simp only at ev
  subst ev ev'
  have CI:=Qb (fun W (hW:Qc [] w W)=>Xl i old _ _ _ _ W (hv.keep hW C0).rd (hvo.keep hW C0).rd (F0 _) (F0 _))
  by_cases hc:Wy i old<0
  ·go_wp2_with fail
   refine(CI.out _ C6).mono ?_
   rintro e w1 ⟨rfl,c1⟩
   have y0:=(c1.ce w.heap.size (by simp) (by simp)) 0
   have y1:=(c1.ce w.heap.size (by simp) (by simp)) 1
   have y2:=(c1.ce w.heap.size (by simp) (by simp)) 2
   have y3:=(c1.ce w.heap.size (by simp) (by simp)) 3
   have y4:=(c1.ce w.heap.size (by simp) (by simp)) 4
   have y5:=(c1.ce w.heap.size (by simp) (by simp)) 5
   have hcw:Qc [] w w1:=H0 C6 c1
   have hE2:=hE.chg hcw (by simp)
   go_wp2_with (first|(at_mapUpdate;refine YE rfl (.tmp 22) (.tmp 23) (.tmp 24) 71 rfl Km trivial hu rfl hE2 rfl rfl hkc ?_;intro w2 E' hE' hc2 hs2 hm2)|fail)
   go_end0
   have hno:Qm w1 [b]:=F7 hE2.nz C0
   exact⟨rfl,Qx.put (w:=w1) (fun _ _ h=>VN h) (fun p hq=>by
    obtain⟨k,i,e,h4,h5⟩:=hp p hq
    exact⟨k,i,e,h4.keep hcw C0,h5⟩) hall (fun p hq e=>by
    obtain⟨k,j,e2,h4,h5⟩:=hp p hq
    obtain rfl:t=k:=VN (e.symm.trans e2)
    exact⟨j,h4.keep hcw C0,h5,by rw [h5.one hl];omega⟩) hE' hm2 (fun j u hj=>hj.keep hc2 hno) ((hv.keep hcw C0).keep hc2 hno),hcw.ty hc2⟩
  ·go_wp2_with fail
   refine(CI.out _ C6).mono ?_
   rintro e w1 ⟨rfl,c1⟩
   have hcw:Qc [] w w1:=H0 C6 c1
   go_wp2_with fail
   go_end0
   have hst:=Qx.stay (w:=w) (enc:=YN) (k0:=t) (i0:=i) hE hp hall hmem hl (by omega)
   exact⟨rfl,hst.keep hcw C0 (by simp),hcw.mono (by simp)⟩
 ·intro hno0
  have hcw:∀o,Qc [] w (w.alloc o):=fun o=>(B0 _ _).alloc o
  go_wp2_with (first|(at_mapUpdate;refine YE rfl (.tmp 22) (.tmp 23) (.tmp 24) 71 rfl Km trivial hu rfl (hE1 _) rfl rfl hkc ?_;intro w2 E' hE' hc2 hs2 hm2)|fail)
  go_end0
  have hno:∀o,Qm (w.alloc o) [b]:=fun o=>F7 (hE1 o).nz C0
  exact⟨rfl,Qx.put (w:=w.alloc _) (fun _ _ h=>VN h) (fun p hq=>by
   obtain⟨k,i,e,h4,h5⟩:=hp p hq
   exact⟨k,i,e,h4.keep (hcw _) C0,h5⟩) hall (fun p hq e=>absurd e (hno0 p.1 p.2 hq)) hE' hm2 (fun j u hj=>hj.keep hc2 (hno _)) ((hv.keep (hcw _) C0).keep hc2 (hno _)),(hcw _).ty hc2⟩
def Wi (n:Int):Value:=.int .i64 n
def zX (v:Value):Prop:=∃t:Int,v=Wi t/\YJ t
theorem QfA (n:Int) (h:YJ n):∃l,keyOf Tryz.prog 3 (Wi n)=some l:=by
 have hi:Tryz.prog.underlying 3=some (.int .i64):=by kernel_rfl
 have hw:(Lit.int .i64 n).wf=true:=by simp only [Lit.wf,T0,decide_eq_true_eq];exact⟨h.1,h.2⟩
 unfold keyOf
 rw [hi]
 simp only
 unfold mapKey Wi
 rw [hi]
 simp [hw]
theorem zF:qO Tryz.prog 3 zX (fun _=>True):=qO.of_keyed (Maps.int_keyed Tryz.underlying3) (fun v hv=>by
 obtain⟨t,rfl,h⟩:=hv
 exact QfA t h)
theorem Up {a c:Int} (h:Wi a=Wi c):a=c:=by simpa [Wi] using h
theorem QaB (X:Int->List Int->Prop) (b:Nat) (t:Int) (i:List Int) (vi:Value) (w:World) (ht:YJ t)
  (hm:Qx w zX Wi b X) (hv:Zn w i vi):
  Calls Tryz.prog 138 #[.map (some b),Wi t,vi] w fun e w'=>e= .returned (.tuple #[])/\Qx w' zX Wi b (fun k j=>X k j∨(k=t/\j=i))/\Qc [b] w w':=by
 have hkc:zX (Wi t):=⟨t,rfl,ht⟩
 have hlt:=hm.lt
 obtain⟨E,hE,hp,hall⟩:=hm
 have hu:Tryz.prog.underlying 72=some (.map 3 25):=by kernel_rfl
 have hz:∀W:World,(zeroValue 25).run Tryz.prog W= .ok (.slice none 0 0) W:=fun W=>by kernel_rfl
 unfold Wi at *
 go_enter Tryz.func138,Tryz.ntmps138
 go_wp2_with (first|(at_lookup;refine JZ rfl (.tmp 9) (.tmp 10) 72 true rfl zF trivial hu (hz _) rfl hE rfl hkc ?_ ?_)|fail)
 ·intro v hmem
  obtain⟨k,old,ek,hvo,hl⟩:=hp _ hmem
  obtain rfl:t=k:=Up ek
  have hvo2:=hvo
  have hv2:=hv
  obtain⟨A,cap,ev,_⟩:=hvo2
  obtain⟨A',cap',ev',_⟩:=hv2
  simp only at ev
  subst ev ev'
  have CI:=Qb (fun W (hW:Qc [] w W)=>Xl i old _ _ _ _ W (hv.keep hW C0).rd (hvo.keep hW C0).rd (F0 _) (F0 _))
  by_cases hc:Wy i old<0
  ·go_wp2_with fail
   refine(CI.out _ C6).mono ?_
   rintro e w1 ⟨rfl,c1⟩
   have hcw:Qc [] w w1:=H0 C6 c1
   have hE2:=hE.chg hcw (by simp)
   go_wp2_with (first|(at_mapUpdate;refine YE rfl (.tmp 22) (.tmp 23) (.tmp 24) 72 rfl zF trivial hu rfl hE2 rfl rfl hkc ?_;intro w2 E' hE' hc2 hs2 hm2)|fail)
   go_end0
   have hno:Qm w1 [b]:=F7 hE2.nz C0
   exact⟨rfl,Qx.put (w:=w1) (fun _ _ h=>Up h) (fun p hq=>by
    obtain⟨k,i,e,h4,h5⟩:=hp p hq
    exact⟨k,i,e,h4.keep hcw C0,h5⟩) hall (fun p hq e=>by
    obtain⟨k,j,e2,h4,h5⟩:=hp p hq
    obtain rfl:t=k:=Up (e.symm.trans e2)
    exact⟨j,h4.keep hcw C0,h5,by rw [h5.one hl];omega⟩) hE' hm2 (fun j u hj=>hj.keep hc2 hno) ((hv.keep hcw C0).keep hc2 hno),hcw.ty hc2⟩
  ·go_wp2_with fail
   refine(CI.out _ C6).mono ?_
   rintro e w1 ⟨rfl,c1⟩
   have hcw:Qc [] w w1:=H0 C6 c1
   go_wp2_with fail
   go_end0
   have hst:=Qx.stay (w:=w) (enc:=Wi) (k0:=t) (i0:=i) hE hp hall hmem hl (by omega)
   exact⟨rfl,hst.keep hcw C0 (by simp),hcw.mono (by simp)⟩
 ·intro hno0
  go_wp2_with (first|(at_mapUpdate;refine YE rfl (.tmp 22) (.tmp 23) (.tmp 24) 72 rfl zF trivial hu rfl hE rfl rfl hkc ?_;intro w2 E' hE' hc2 hs2 hm2)|fail)
  go_end0
  have hno:Qm w [b]:=F7 hE.nz C0
  exact⟨rfl,Qx.put (w:=w) (fun _ _ h=>Up h) (fun p hq=>by
   obtain⟨k,i,e,h4,h5⟩:=hp p hq
   exact⟨k,i,e,h4,h5⟩) hall (fun p hq e=>absurd e (hno0 p.1 p.2 hq)) hE' hm2 (fun j u hj=>hj.keep hc2 hno) (hv.keep hc2 hno),hc2⟩
end Go.Proofs.YtfjhdnjlhjimeaaGreatDoor
namespace Go.Proofs.YtfjhdnjlhjimeaaGreatDoor
open Go.RowKit
open Go.MapKept (Stamped stamped_iff)

def leftN (w:World) (b r:Nat):Nat:=match w.heap[b]?,w.heap[r]? with
 |some (.map es _),some (.mapIter _ _ seen _)=>(leftOf es seen).size
 |_,_=>0
theorem Gp.leftN {w:World} {b r:Nat} {E L:List (Value×Value)} (h:Gp w b r E L):leftN w b r=L.length:=by
 obtain⟨es,clock,since,seen,c0,h1,h2,_,_,_,_,_,h3⟩:=h
 unfold Proofs.YtfjhdnjlhjimeaaGreatDoor.leftN
 rw [h1,h2, <-h3]
 simp
theorem Gp.apart {w:World} {b r:Nat} {E L:List (Value×Value)} (h:Gp w b r E L):L.Pairwise (fun p q=>p.1≠q.1)/\(∀p∈L,p∈E)/\∀cs e fr,w.heap[r]?≠some (.cells cs e fr):=by
 obtain⟨es,clock,since,seen,c0,h1,h2,hs,_,_,_,rfl,rfl⟩:=h
 have hap:=((stamped_iff es clock).1 hs).2.2
 have hsub:(leftOf es seen).toList.Sublist es.toList:=by
  unfold leftOf
  rw [Array.toList_filter]
  exact List.filter_sublist
 refine⟨?_,fun p hp=>?_,fun cs e fr h=>?_⟩
 ·rw [List.pairwise_map]
  exact hap.sublist hsub
 ·obtain⟨x,hx,rfl⟩:=L7.1 hp
  exact L7.2 ⟨x,hsub.subset hx,rfl⟩
 ·rw [h2] at h
  cases h
def qG (w:World) {κ:Type} (KC:Value->Prop) (enc:κ->Value) (b r:Nat) (X D:κ->List Int->Prop):Prop:=
 ∃E L,ZH w KC b E/\Gp w b r E L/\b≠r/\(∀p∈E,∃k i,p.1=enc k/\Zn w i p.2/\XC (X k) i)/\(∀k i,X k i->∃p∈E,p.1=enc k)/\(∀a c,enc a=enc c->a=c)/\∀k i,D k i↔XC (X k) i/\∀v,(enc k,v)∉L
section
variable {w w':World} {κ:Type} {KC:Value->Prop} {enc:κ->Value} {b r:Nat} {X D:κ->List Int->Prop}
theorem qG.lt (h:qG w KC enc b r X D):b<w.heap.size/\r<w.heap.size/\b≠r:=by
 obtain⟨E,L,h1,h2,h3,_⟩:=h
 exact⟨h1.lt,h2.lt.2,h3⟩
theorem qG.nz (h:qG w KC enc b r X D):∀cs fr,w.heap[r]?≠some (.cells cs 3 fr):=by
 obtain⟨E,L,_,h2,_⟩:=h
 exact fun cs fr=>h2.apart.2.2 cs _ fr
theorem qG.keep {S:List Nat} (h:qG w KC enc b r X D) (hc:Qc S w w') (hS:Qm w S) (hb:b∉S:=by first|(simp;done)|((repeat' first|exact F1|refine J4 ?_ ?_)<;>first|assumption|(apply j5;assumption)|omega)|(simp;omega)) (hr:r∉S:=by first|(simp;done)|((repeat' first|exact F1|refine J4 ?_ ?_)<;>first|assumption|(apply j5;assumption)|omega)|(simp;omega)):qG w' KC enc b r X D:=by
 obtain⟨E,L,h1,h2,h3,h4,h5,h6,h7⟩:=h
 exact⟨E,L,h1.chg hc hb,h2.chg hc hb hr,h3,fun p hp=>by
  obtain⟨k,i,e,hi,hl⟩:=h4 p hp
  exact⟨k,i,e,hi.keep hc hS,hl⟩,h5,h6,h7⟩
theorem qG.left {S:List Nat} (h:qG w KC enc b r X D) (hc:Qc S w w') (hb:b∉S:=by first|(simp;done)|((repeat' first|exact F1|refine J4 ?_ ?_)<;>first|assumption|(apply j5;assumption)|omega)|(simp;omega)) (hr:r∉S:=by first|(simp;done)|((repeat' first|exact F1|refine J4 ?_ ?_)<;>first|assumption|(apply j5;assumption)|omega)|(simp;omega)):leftN w' b r=leftN w b r:=by
 obtain⟨E,L,h1,h2,_⟩:=h
 rw [h2.leftN,(h2.chg hc hb hr).leftN]
theorem qG.congr {D':κ->List Int->Prop} (h:qG w KC enc b r X D) (hx:∀k i,D k i↔D' k i):qG w KC enc b r X D':=by
 have:D=D':=funext fun k=>funext fun i=>propext (hx k i)
 rwa [<-this]
end
section
variable {P:Program} {w:World} {ops:Array Oper} {rest:List Oper} {o:Oper} {a:Act} {Q:Exit->Act->World->Prop} {κ:Type} {KC:Value->Prop} {enc:κ->Value} {k e:TypeId} {b r:Nat} {X D:κ->List Int->Prop}
theorem ZQ (hg:o.guard=none) (m:Operand) (t:TypeId) (hop:o.op=Op.range t m) (ht:P.underlying t=some (.map k e)) (hinj:∀a c,enc a=enc c->a=c) (hm:a.eval m= .map (some b)) (h:Qx w KC enc b X)
  (hK:∀w',qG w' KC enc b w.heap.size X (fun _ _=>False)->Qc [] w w'->w'.heap.size=w.heap.size+1->wpList P ops Q rest (a.put o.dst (.pointer (some ⟨w.heap.size,0,none⟩))) w'):
  wpList P ops Q (o::rest) a w:=by
 obtain⟨E,h1,h2,h3⟩:=h
 refine Qcg hg m t hop ht hm h1 fun w' hR hc hs=>hK w' ?_ hc hs
 have hlt:=h1.lt
 refine⟨E,E,h1.chg hc (by simp),hR,by omega,fun p hp=>?_,h3,hinj,fun k i=>⟨fun h=>h.elim,fun⟨hl,hn⟩=>?_⟩⟩
 ·obtain⟨k,i,e,hi,hl⟩:=h2 p hp
  exact⟨k,i,e,hi.keep hc C0,hl⟩
 ·obtain⟨p,hp,e⟩:=h3 k i hl.1
  exact hn p.2 (by rw [<-e];exact hp)
theorem ZP (hg:o.guard=none) (it:Operand) (hop:o.op=Op.next it false) (hit:a.eval it= .pointer (some ⟨r,0,none⟩)) (h:qG w KC enc b r X D)
  (hDone:(∀k i,D k i↔XC (X k) i)->wpList P ops Q rest (a.put o.dst (.tuple #[.bool false])) w)
  (hMore:∀k i v w',KC (enc k)->Zn w' i v->XC (X k) i->qG w' KC enc b r X (fun k' i'=>D k' i'∨(k'=k/\i'=i))->Qc [r] w w'->w'.heap.size=w.heap.size->leftN w' b r<leftN w b r->
   (Instr.entry (.pointer (some ⟨r,0,none⟩))).run P w'= .ok (.tuple #[enc k,v]) w'->wpList P ops Q rest (a.put o.dst (.tuple #[.bool true,enc k,v])) w'):
  wpList P ops Q (o::rest) a w:=by
 have hno:=F7 h.nz C0
 obtain⟨E,L,h1,h2,h3,h4,h5,h6,h7⟩:=h
 refine QbR hg it hop hit h2 h3 (fun h0=>hDone fun k i=>?_) (fun x v L' w' hp hx hR hc hs hrun=>?_)
 ·rw [h7,h0]
  simp
 ·obtain⟨k,i,rfl,hi,hl⟩:=h4 _ hx
  have hpw:((enc k,v)::L').Pairwise (fun p q=>p.1≠q.1):=(hp.pairwise_iff (fun {a b} h=>fun e=>h e.symm)).1 h2.apart.1
  refine hMore k i v w' (h1.keys _ hx) (hi.keep hc hno) hl ⟨E,L',h1.chg hc (by simp [h3]),hR,h3,fun p hp=>?_,h5,h6,fun k' i'=>⟨?_,fun⟨hl',hn⟩=>?_⟩⟩ hc hs ?_ hrun
  ·obtain⟨k,i,e,hi,hl⟩:=h4 p hp
   exact⟨k,i,e,hi.keep hc hno,hl⟩
  ·rintro(hd|⟨rfl,rfl⟩)
   ·obtain⟨q1,q2⟩:=(h7 _ _).1 hd
    exact⟨q1,fun v' hv'=>q2 v' (hp.symm.subset (I5 _ hv'))⟩
   ·exact⟨hl,fun v' hv'=>(V1.1 hpw).1 _ hv' rfl⟩
  ·by_cases hk:k'=k
   ·subst hk
    exact .inr ⟨rfl,hl'.one hl⟩
   ·refine .inl ((h7 _ _).2 ⟨hl',fun v' hv'=>?_⟩)
    rcases C7.1 (hp.subset hv') with h|h
    ·exact hk (h6 _ _ (U8 h).1)
    ·exact hn v' h
  ·rw [h2.leftN,hR.leftN,hp.length_eq]
   simp
end
theorem QdG {y:Bool} {p q:Prop} (h:y=true) (hp:p):if y=true then p else q:=by rw [if_pos h];exact hp
theorem Qe7 {P:Program} {w:World} {o:Oper} {a:Act} {Q:Exit->Act->World->Prop} {KC:Value->Prop} {G:World->Prop} {k e:TypeId} {b:Nat} {E:List (Value×Value)} {K':Act->World->Prop} (m x v:Operand) (t:TypeId) (hop:o.op=Op.mapUpdate t m x v) (K:qO P k KC G) (hG:G w) (ht:P.underlying t=some (.map k e))
  (hm:a.eval m= .map (some b)) (h:ZH w KC b E) {key val:Value} (hx:a.eval x=key) (hv:a.eval v=val) (hk:KC key)
  (hK:∀w' E',ZH w' KC b E'->Qc [b] w w'->w'.heap.size=w.heap.size->(∀p,p∈E'↔(p∈E/\p.1≠key)∨p=(key,val))->K' (a.put o.dst undef) w'):Oper.wp P o a w K' Q:=by
 unfold Oper.wp
 obtain⟨w',E',hrun,h1,h2,h3,h4⟩:=h.store (val:=val) K hG ht hk
 simp [execOp,hop,hm,hx,hv,hrun,Result.andThen]
 exact hK w' E' h1 h2 h3 h4
end Go.Proofs.YtfjhdnjlhjimeaaGreatDoor
namespace Go.Proofs.YtfjhdnjlhjimeaaGreatDoor
open Go.RowKit

abbrev B3:=ByteArray×ByteArray×ByteArray
def Vz (k:B3):YY ByteArray:=⟨k.1,k.2.1,k.2.2⟩
theorem Ul (t:YY ByteArray):∃k,t=Vz k:=⟨(t.a,t.b,t.c),rfl⟩
theorem xX {a c:B3} (h:Vz a=Vz c):a=c:=by
 obtain⟨a1,a2,a3⟩:=a
 obtain⟨c1,c2,c3⟩:=c
 simp [Vz] at h
 simp [h]
abbrev yW:=Rn (YY ByteArray)
def Yr (X:yW) (s:B3) (k:B3) (i:List Int):Prop:=X.ok (Vz s) i (Vz k)
def W6 (X:yW) (s:B3) (k:Yq) (i:List Int):Prop:=X.bad (Vz s) i (Vz k.2) ⟨1,k.1.1,k.1.2.1,k.1.2.2⟩
def VB (X:yW) (s:B3) (p:Int) (i:List Int):Prop:=∃t e,X.bad (Vz s) i t e/\e.code≠1/\e.place=p
def UR {σ κ:Type} (D:σ->List Int->Prop) (R:σ->κ->List Int->Prop) (k:κ) (i:List Int):Prop:=∃s f j,D s f/\R s k j/\i=f++j
theorem VH {σ κ:Type} {R:σ->κ->List Int->Prop} (k:κ) (i:List Int):¬UR (fun _ _=>False) R k i:=fun⟨_,_,_,h,_⟩=>h
theorem VF {σ κ:Type} {D:σ->List Int->Prop} {R:σ->κ->List Int->Prop} {s0:σ} {f0:List Int} (k:κ) (i:List Int):
  (UR D R k i∨∃j,R s0 k j/\i=f0++j)↔UR (fun s f=>D s f∨(s=s0/\f=f0)) R k i:=by
 constructor
 ·rintro(⟨s,f,j,h1,h2,h3⟩|⟨j,h1,h2⟩)
  ·exact⟨s,f,j,.inl h1,h2,h3⟩
  ·exact⟨s0,f0,j,.inr ⟨rfl,rfl⟩,h1,h2⟩
 ·rintro⟨s,f,j,h1|⟨rfl,rfl⟩,h2,h3⟩
  ·exact .inl ⟨s,f,j,h1,h2,h3⟩
  ·exact .inr ⟨j,h2,h3⟩
theorem Wc {κ:Type} {X D:κ->List Int->Prop} {k0:κ} {i j0:List Int} (k:κ) (l:List Int):((X k l∨∃j,D k j/\l=i++j)∨(k=k0/\l=i++j0))↔(X k l∨∃j,(D k j∨(k=k0/\j=j0))/\l=i++j):=by
 constructor
 ·rintro((h|⟨j,h1,h2⟩)|⟨h1,h2⟩)
  ·exact .inl h
  ·exact .inr ⟨j,.inl h1,h2⟩
  ·exact .inr ⟨j0,.inr ⟨h1,rfl⟩,h2⟩
 ·rintro(h|⟨j,h1|⟨h1,rfl⟩,h2⟩)
  ·exact .inl (.inl h)
  ·exact .inl (.inr ⟨j,h1,h2⟩)
  ·exact .inr ⟨h1,h2⟩
def Pos (X:List Int->Prop):Prop:=∀i,X i->∀x∈i,0<=x
theorem Pos.least {X:List Int->Prop} (h:Pos X) {i:List Int} (hi:X i):∃j,XC X j:=jg h ⟨i,hi⟩
section
variable {w:World} {σ κ:Type} {KC:Value->Prop} {enc:κ->Value} {b:Nat} {X Y:κ->List Int->Prop} {F:σ->List Int->Prop} {R:σ->κ->List Int->Prop} {i0:List Int}
theorem Qx.front (h:Qx w KC enc b (fun k i=>X k i∨∃j,XC (Y k) j/\i=i0++j)) (hp:∀k,Pos (Y k)):Qx w KC enc b (fun k i=>X k i∨∃j,Y k j/\i=i0++j):=
 h.wider (fun k i h=>h.imp_right fun⟨j,h1,h2⟩=>⟨j,h1.1,h2⟩) (fun k i h=>by
  rcases h with h|⟨j,h1,rfl⟩
  ·exact⟨i,.inl h,by rw [Vx];omega⟩
  ·obtain⟨j',h2⟩:=(hp k).least h1
   exact⟨i0++j',.inr ⟨j',h2,rfl⟩,uO (by rw [Vx];omega) (h2.2 _ h1)⟩)
theorem Qx.fronts (h:Qx w KC enc b (fun k i=>X k i∨UR (fun s f=>XC (F s) f) R k i)) (hp:∀s,Pos (F s)):Qx w KC enc b (fun k i=>X k i∨UR F R k i):=
 h.wider (fun k i h=>h.imp_right fun⟨s,f,j,h1,h2⟩=>⟨s,f,j,h1.1,h2⟩) (fun k i h=>by
  rcases h with h|⟨s,f,j,h1,h2,rfl⟩
  ·exact⟨i,.inl h,by rw [Vx];omega⟩
  ·obtain⟨f',h3⟩:=(hp s).least h1
   exact⟨f'++j,.inr ⟨s,f',j,h3,h2,rfl⟩,uO (h3.2 _ h1) (by rw [Vx];omega)⟩)
end
structure XH (w:World) (b1 b2 b3:Nat) (X:yW) (s:B3):Prop where
 ok:Qx w Uu QW b1 (Yr X s)
 fl:Qx w zS YN b2 (W6 X s)
 em:Qx w zX Wi b3 (VB X s)
theorem XH.keep {w w':World} {b1 b2 b3:Nat} {X:yW} {s:B3} {S:List Nat} (h:XH w b1 b2 b3 X s) (hc:Qc S w w') (hS:Qm w S) (h1:b1∉S:=by first|(simp;done)|((repeat' first|exact F1|refine J4 ?_ ?_)<;>first|assumption|(apply j5;assumption)|omega)|(simp;omega)) (h2:b2∉S:=by first|(simp;done)|((repeat' first|exact F1|refine J4 ?_ ?_)<;>first|assumption|(apply j5;assumption)|omega)|(simp;omega)) (h3:b3∉S:=by first|(simp;done)|((repeat' first|exact F1|refine J4 ?_ ?_)<;>first|assumption|(apply j5;assumption)|omega)|(simp;omega)):XH w' b1 b2 b3 X s:=
 ⟨h.ok.keep hc hS h1,h.fl.keep hc hS h2,h.em.keep hc hS h3⟩
theorem XH.lt {w:World} {b1 b2 b3:Nat} {X:yW} {s:B3} (h:XH w b1 b2 b3 X s):b1<w.heap.size/\b2<w.heap.size/\b3<w.heap.size:=⟨h.ok.lt,h.fl.lt,h.em.lt⟩
section
variable {X Y:yW} {s:B3}
theorem Qfx (k:B3) (i:List Int):UR (Yr X s) (fun u=>Yr Y u) k i↔Yr (X.seq Y) s k i:=by
 constructor
 ·rintro⟨u,f,j,h1,h2,rfl⟩
  exact⟨f,j,Vz u,rfl,h1,h2⟩
 ·rintro⟨f,j,u,rfl,h1,h2⟩
  obtain⟨u,rfl⟩:=Ul u
  exact⟨u,f,j,h1,h2,rfl⟩
theorem Qcr (k:Yq) (i:List Int):(W6 X s k i∨UR (Yr X s) (fun u=>W6 Y u) k i)↔W6 (X.seq Y) s k i:=by
 constructor
 ·rintro(h|⟨u,f,j,h1,h2,rfl⟩)
  ·exact .inl h
  ·exact .inr ⟨f,j,Vz u,rfl,h1,h2⟩
 ·rintro(h|⟨f,j,u,rfl,h1,h2⟩)
  ·exact .inl h
  ·obtain⟨u,rfl⟩:=Ul u
   exact .inr ⟨u,f,j,h1,h2,rfl⟩
theorem QcK (k:Int) (i:List Int):(VB X s k i∨UR (Yr X s) (fun u=>VB Y u) k i)↔VB (X.seq Y) s k i:=by
 constructor
 ·rintro(⟨t,e,h,h'⟩|⟨u,f,j,h1,⟨t,e,h,h'⟩,rfl⟩)
  ·exact⟨t,e,.inl h,h'⟩
  ·exact⟨t,e,.inr ⟨f,j,Vz u,rfl,h1,h⟩,h'⟩
 ·rintro⟨t,e,h|⟨f,j,u,rfl,h1,h⟩,h'⟩
  ·exact .inl ⟨t,e,h,h'⟩
  ·obtain⟨u,rfl⟩:=Ul u
   exact .inr ⟨u,f,j,h1,⟨t,e,h,h'⟩,rfl⟩
theorem QdZ (n:Int) (k:B3) (i:List Int):(∃j,Yr X s k j/\i=[n] ++j)↔Yr (X.took n) s k i:=⟨fun⟨j,h,e⟩=>⟨j,e,h⟩,fun⟨j,e,h⟩=>⟨j,h,e⟩⟩
theorem Qfk (n:Int) (k:Yq) (i:List Int):(∃j,W6 X s k j/\i=[n] ++j)↔W6 (X.took n) s k i:=⟨fun⟨j,h,e⟩=>⟨j,e,h⟩,fun⟨j,e,h⟩=>⟨j,h,e⟩⟩
theorem Qez (n:Int) (k:Int) (i:List Int):(∃j,VB X s k j/\i=[n] ++j)↔VB (X.took n) s k i:=
 ⟨fun⟨j,⟨t,e,h,h'⟩,e'⟩=>⟨t,e,⟨j,e',h⟩,h'⟩,fun⟨t,e,⟨j,e',h⟩,h'⟩=>⟨j,⟨t,e,h,h'⟩,e'⟩⟩
theorem QaP (n:Int) (k:B3) (i:List Int):Yr ((X.took n).seq Y) s k i↔Yr ((X.seq Y).took n) s k i:=by
 constructor
 ·rintro⟨f,j,u,rfl,⟨f',rfl,h1⟩,h2⟩
  exact⟨f'++j,rfl,f',j,u,rfl,h1,h2⟩
 ·rintro⟨l,rfl,f,j,u,rfl,h1,h2⟩
  exact⟨n::f,j,u,rfl,⟨f,rfl,h1⟩,h2⟩
theorem jb (n:Int) (t:YY ByteArray) (e:Xo) (i:List Int):((X.took n).seq Y).bad (Vz s) i t e↔((X.seq Y).took n).bad (Vz s) i t e:=by
 constructor
 ·rintro(⟨f,rfl,h⟩|⟨f,j,u,rfl,⟨f',rfl,h1⟩,h2⟩)
  ·exact⟨f,rfl,.inl h⟩
  ·exact⟨f'++j,rfl,.inr ⟨f',j,u,rfl,h1,h2⟩⟩
 ·rintro⟨l,rfl,h|⟨f,j,u,rfl,h1,h2⟩⟩
  ·exact .inl ⟨l,rfl,h⟩
  ·exact .inr ⟨n::f,j,u,rfl,⟨f,rfl,h1⟩,h2⟩
end
theorem Rn.ext' {X Y:yW} (h1:∀s i t,X.ok s i t↔Y.ok s i t) (h2:∀s i t e,X.bad s i t e↔Y.bad s i t e):X=Y:=by
 obtain⟨a,c⟩:=X
 obtain⟨a',c'⟩:=Y
 have e1:a=a':=funext fun s=>funext fun i=>funext fun t=>propext (h1 s i t)
 have e2:c=c':=funext fun s=>funext fun i=>funext fun t=>funext fun e=>propext (h2 s i t e)
 rw [e1,e2]
theorem Rn.seq_assoc (X Y Z:yW):(X.seq Y).seq Z=X.seq (Y.seq Z):=by
 refine Rn.ext' (fun s i t=>⟨?_,?_⟩) (fun s i t e=>⟨?_,?_⟩)
 ·rintro⟨_,k,u,rfl,⟨i,j,v,rfl,h1,h2⟩,h3⟩
  exact⟨i,j++k,v,by simp,h1,j,k,u,rfl,h2,h3⟩
 ·rintro⟨i,_,v,rfl,h1,j,k,u,rfl,h2,h3⟩
  exact⟨i++j,k,u,by simp,⟨i,j,v,rfl,h1,h2⟩,h3⟩
 ·rintro((h|⟨i,j,v,rfl,h1,h2⟩)|⟨_,k,u,rfl,⟨i,j,v,rfl,h1,h2⟩,h3⟩)
  ·exact .inl h
  ·exact .inr ⟨i,j,v,rfl,h1,.inl h2⟩
  ·exact .inr ⟨i,j++k,v,by simp,h1,.inr ⟨j,k,u,rfl,h2,h3⟩⟩
 ·rintro(h|⟨i,_,v,rfl,h1,h2|⟨j,k,u,rfl,h2,h3⟩⟩)
  ·exact .inl (.inl h)
  ·exact .inl (.inr ⟨i,_,v,rfl,h1,h2⟩)
  ·exact .inr ⟨i++j,k,u,by simp,⟨i,j,v,rfl,h1,h2⟩,h3⟩
theorem Rn.skip_seq (X:yW):Rn.skip.seq X=X:=by
 refine Rn.ext' (fun s i t=>⟨?_,fun h=>⟨[],i,s,rfl,⟨rfl,rfl⟩,h⟩⟩) (fun s i t e=>⟨?_,fun h=>.inr ⟨[],i,s,rfl,⟨rfl,rfl⟩,h⟩⟩)
 ·rintro⟨i,j,v,rfl,⟨rfl,rfl⟩,h⟩
  exact h
 ·rintro(h|⟨i,j,v,rfl,⟨rfl,rfl⟩,h⟩)
  ·exact h.elim
  ·exact h
theorem Rn.seq_skip (X:yW):X.seq Rn.skip=X:=by
 refine Rn.ext' (fun s i t=>⟨?_,fun h=>⟨i,[],t,by simp,h,rfl,rfl⟩⟩) (fun s i t e=>⟨?_,fun h=>.inl h⟩)
 ·rintro⟨i,j,v,rfl,h,h1,h2⟩
  have h1:j=[]:=h1
  have h2:t=v:=h2
  subst h1 h2
  simpa using h
 ·rintro(h|⟨i,j,v,rfl,_,h⟩)
  ·exact h
  ·exact h.elim
theorem ws:∀(l m:List Qa) (p:Int),Vn Qs (l++m) p=(Vn Qs l p).seq (Vn Qs m (p+Qd l))
 | [],m,p=>by
  have e:p+((Qd []:Nat):Int)=p:=by rw [Qd];omega
  rw [J9,Vn,Rn.skip_seq,e]
 |a::l,m,p=>by
  have e:p+((Qd (a::l):Nat):Int)=p+a.size+Qd l:=by rw [Qd];omega
  rw [M2,Vn,Vn,ws l m,Rn.seq_assoc,e]
theorem QfI (a:Qa) (p:Int):Vn Qs [a] p=a.ex Qs p:=by rw [Vn,Vn,Rn.seq_skip]
theorem Qeg (m:List Qa) (k:Nat) (h:k<m.length) (p:Int):Vn Qs (m.take (k+1)) p=(Vn Qs (m.take k) p).seq (m[k].ex Qs (p+Qd (m.take k))):=by
 rw [G6 h,ws,QfI]
theorem VO {X:yW} (h:XM X) (s k:B3):Pos (Yr X s k):=fun _ hi x hx=>(h.ok hi x hx).1
theorem UB {X:yW} (h:XM X) (s:B3) (k:Yq):Pos (W6 X s k):=fun _ hi x hx=>(h.bad hi x hx).1
theorem qY {X:yW} (h:XM X) (s:B3) (k:Int):Pos (VB X s k):=fun _ ⟨_,_,hi,_⟩ x hx=>(h.bad hi x hx).1
section
variable {w:World} {X Y:yW} {s:B3} {b:Nat} {D:B3->List Int->Prop}
theorem Qa4 (h:Qx w Uu QW b (UR D (fun u=>Yr Y u))) (hD:∀k i,D k i↔XC (Yr X s k) i) (dX:XM X):Qx w Uu QW b (Yr (X.seq Y) s):=by
 obtain rfl:D=fun k i=>XC (Yr X s k) i:=funext fun k=>funext fun i=>propext (hD k i)
 exact(Qx.fronts (X:=fun _ _=>False) (F:=Yr X s) (R:=fun u=>Yr Y u) (h.congr (fun k i=>by simp)) (fun k=>VO dX s k)).congr (fun k i=>by rw [<-Qfx];simp)
theorem Qd5 (h:Qx w zS YN b (fun k i=>W6 X s k i∨UR D (fun u=>W6 Y u) k i)) (hD:∀k i,D k i↔XC (Yr X s k) i) (dX:XM X):Qx w zS YN b (W6 (X.seq Y) s):=by
 obtain rfl:D=fun k i=>XC (Yr X s k) i:=funext fun k=>funext fun i=>propext (hD k i)
 exact(Qx.fronts (F:=Yr X s) h (fun k=>VO dX s k)).congr (fun k i=>Qcr k i)
theorem QeU (h:Qx w zX Wi b (fun k i=>VB X s k i∨UR D (fun u=>VB Y u) k i)) (hD:∀k i,D k i↔XC (Yr X s k) i) (dX:XM X):Qx w zX Wi b (VB (X.seq Y) s):=by
 obtain rfl:D=fun k i=>XC (Yr X s k) i:=funext fun k=>funext fun i=>propext (hD k i)
 exact(Qx.fronts (F:=Yr X s) h (fun k=>VO dX s k)).congr (fun k i=>QcK k i)
end
abbrev yQ:=Int×(Nat×Nat)×(ByteArray×ByteArray×ByteArray)
def JC (x:yQ):Value:=.agg #[.int .i64 x.1,.pointer (some ⟨x.2.1.1,x.2.1.2,none⟩),.string x.2.2.1,.string x.2.2.2.1,.string x.2.2.2.2]
def Blk (SB:Nat->Prop) (w:World):Prop:=∀b,SB b->∃cs e,w.heap[b]?=some (.cells cs e (0,0))
def KCx (SB:Nat->Prop) (v:Value):Prop:=∃x:yQ,v=JC x/\SB x.2.1.1
theorem QaN {a c:yQ} (h:JC a=JC c):a=c:=by
 obtain⟨a1,⟨a2,a3⟩,a4,a5,a6⟩:=a
 obtain⟨c1,⟨c2,c3⟩,c4,c5,c6⟩:=c
 simp [JC] at h
 obtain⟨rfl,⟨rfl,rfl⟩,rfl,rfl,rfl⟩:=h
 rfl
theorem QdD (a c:ByteArray×ByteArray×ByteArray) (W:World):∀n:Nat,(Op.equalIn (n+2) 82 (.agg #[.string a.1,.string a.2.1,.string a.2.2]) (.agg #[.string c.1,.string c.2.1,.string c.2.2])).run Tryz.prog W= .ok (a.1==c.1&&(a.2.1==c.2.1&&a.2.2==c.2.2)) W:=fun n=>by
 have h0:Tryz.prog.underlying 82=some (.array 3 9):=by kernel_rfl
 have hs:Tryz.prog.underlying 9=some .string:=by kernel_rfl
 obtain⟨i,hi,hsz⟩:∃i,Tryz.prog.info? 9=some i/\i.size=1:=by
  have h:(Tryz.prog.info? 9).map (fun i=>i.size)=some 1:=by kernel_rfl
  cases hi:Tryz.prog.info? 9 with
  |none=>rw [hi] at h;cases h
  |some i=>rw [hi] at h;exact⟨i,rfl,by simpa using h⟩
 have hc:Tryz.prog.cellsOf 9=1:=by kernel_rfl
 have hr:List.range 3=[0,1,2]:=rfl
 rw [run_equalIn_array W (n+1) _ _ h0 hi,hc,hr]
 simp [go_sem,Op.eqItems,beq_toListBytes]
 by_cases h1:a.1.toList=c.1.toList<;>by_cases h2:a.2.1.toList=c.2.1.toList<;>by_cases h3:a.2.2.toList=c.2.2.toList<;>simp [h1,h2,h3]
theorem QfY (x y:yQ) (W:World) (SB:Nat->Prop) (hG:Blk SB W) (hx:SB x.2.1.1) (hy:SB y.2.1.1):(Op.equal 210 (JC x) (JC y)).run Tryz.prog W= .ok (decide (x=y)) W:=by
 have h:∀n:Nat,(Op.equalIn (n+3) 210 (JC x) (JC y)).run Tryz.prog W= .ok (decide (x=y)) W:=fun n=>by
  unfold JC
  rw [run_equalIn_struct W (n+2) 210 _ _ (by simp only [Program.fieldsOf,Tryz.underlying210]) (by kernel_rfl)]
  simp [go_sem,Program.fieldsOf,Tryz.underlying210]
  have he:(Op.equalIn (n+2) 155 (.pointer (some ⟨x.2.1.1,x.2.1.2,none⟩)) (.pointer (some ⟨y.2.1.1,y.2.1.2,none⟩))).run Tryz.prog W= .ok (decide (x.2.1=y.2.1)) W:=by
   have hp:Tryz.prog.underlying 155=some (.pointer 33):=by kernel_rfl
   obtain⟨i,hi,hsz⟩:∃i,Tryz.prog.info? 33=some i/\i.size≠0:=by
    have h:(Tryz.prog.info? 33).map (fun i=>decide (i.size≠0))=some true:=by kernel_rfl
    cases hi:Tryz.prog.info? 33 with
    |none=>rw [hi] at h;cases h
    |some i=>rw [hi] at h;exact⟨i,rfl,by simpa using h⟩
   obtain⟨cx,ex,hbx⟩:=hG _ hx
   obtain⟨cy,ey,hby⟩:=hG _ hy
   by_cases h:x.2.1=y.2.1
   ·rw [h]
    simp [Op.equalIn,run_underlying hp,sizeOf,typeInfo,hi,run_sameAddr_same]
   ·have hne:(⟨x.2.1.1,x.2.1.2,none⟩:Addr)≠⟨y.2.1.1,y.2.1.2,none⟩:=fun e=>h (by
     have e1:=congrArg Addr.block e
     have e2:=congrArg Addr.off e
     exact Prod.ext e1 e2)
    simp [Op.equalIn,run_underlying hp,sizeOf,typeInfo,hi,hsz,run_sameAddr_other W hne hbx hby,h]
  rw [he]
  simp only [Result.andThen_ok]
  have hs:=QdD x.2.2 y.2.2 W n
  rw [hs]
  have hx3:x=(x.1,x.2.1,x.2.2.1,x.2.2.2.1,x.2.2.2.2):=rfl
  have hy3:y=(y.1,y.2.1,y.2.2.1,y.2.2.2.1,y.2.2.2.2):=rfl
  have hb:∀a c:ByteArray,(a==c)=decide (a=c):=fun a c=>by
   rw [beq_toListBytes]
   by_cases h:a=c
   ·simp [h]
   ·have:a.toList≠c.toList:=fun e=>h (xH e)
    simp [h,this]
  have hd:decide (x=y)=(decide (x.1=y.1)&&(decide (x.2.1=y.2.1)&&(decide (x.2.2.1=y.2.2.1)&&(decide (x.2.2.2.1=y.2.2.2.1)&&decide (x.2.2.2.2=y.2.2.2.2))))):=by
   rw [Bool.eq_iff_iff]
   simp only [decide_eq_true_eq,T0]
   exact⟨fun h=>by rw [h];exact⟨rfl,rfl,rfl,rfl,rfl⟩,fun⟨h1,h2,h3,h4,h5⟩=>by rw [hx3,hy3,h1,h2,h3,h4,h5]⟩
  rw [hd,hb,hb,hb]
  by_cases h1:x.1=y.1<;>by_cases h2:x.2.1=y.2.1<;>by_cases h3:x.2.2.1=y.2.2.1<;>by_cases h4:x.2.2.2.1=y.2.2.2.1<;>by_cases h5:x.2.2.2.2=y.2.2.2.2<;>simp [h1,h2,h3,h4,h5]
 simp [Op.equal,Op.maxDepth,h 9997]
theorem yu (SB:Nat->Prop):qO Tryz.prog 210 (KCx SB) (Blk SB) where
 check {w} hG em v hv:=by
  obtain⟨x,rfl,hx⟩:=hv
  have hs:Tryz.prog.underlying 9=some .string:=by kernel_rfl
  have hi:Tryz.prog.underlying 3=some (.int .i64):=by kernel_rfl
  have hp:Tryz.prog.underlying 155=some (.pointer 33):=by kernel_rfl
  have h0:Tryz.prog.underlying 82=some (.array 3 9):=by kernel_rfl
  have hr:List.range' 0 3=[0,1,2]:=rfl
  have c1:∀(n:Nat) (s:ByteArray),(Instr.checkKey em (n+1) 9 (.string s)).run Tryz.prog w= .ok () w:=fun n s=>by
   simp [Instr.checkKey,run_underlying hs]
  have c2:∀(n:Nat) (s:Int),(Instr.checkKey em (n+1) 3 (.int .i64 s)).run Tryz.prog w= .ok () w:=fun n s=>by
   simp [Instr.checkKey,run_underlying hi]
  have c3:∀(n:Nat) (s:Option Addr),(Instr.checkKey em (n+1) 155 (.pointer s)).run Tryz.prog w= .ok () w:=fun n s=>by
   simp [Instr.checkKey,run_underlying hp]
  obtain⟨i,hinf,hsz⟩:∃i,Tryz.prog.info? 9=some i/\i.size=1:=by
   have h:(Tryz.prog.info? 9).map (fun i=>i.size)=some 1:=by kernel_rfl
   cases hi:Tryz.prog.info? 9 with
   |none=>rw [hi] at h;cases h
   |some i=>rw [hi] at h;exact⟨i,rfl,by simpa using h⟩
  have c4:∀(n:Nat) (a c d:ByteArray),(Instr.checkKey em (n+2) 82 (.agg #[.string a,.string c,.string d])).run Tryz.prog w= .ok () w:=fun n a c d=>by
   rw [Instr.checkKey]
   simp [run_underlying h0,hr,go_sem,c1,sizeOf,typeInfo,hinf,hsz]
  have h:∀n:Nat,(Instr.checkKey em (n+3) 210 (JC x)).run Tryz.prog w= .ok () w:=fun n=>by
   rw [Instr.checkKey,JC]
   simp [run_underlying Tryz.underlying210,go_sem,c2,c3,c4]
  exact h 9997
 find {w} hG x hx es hes:=by
  obtain⟨fs,hu⟩:∃fs,Tryz.prog.underlying 210=some (.struct fs):=⟨_,Tryz.underlying210⟩
  cases es with
  |nil=>exact .inl ⟨by simp [Instr.findKey,run_underlying hu,Instr.findNow],by simp⟩
  | cons e es=>
   have h1:=xe (P:=Tryz.prog) (k:=210) (KC:=KCx SB) (w:=w) (fun {a c} ha hc=>by
    obtain⟨a,rfl,ha⟩:=ha
    obtain⟨c,rfl,hc⟩:=hc
    exact⟨_,QfY a c w SB hG ha hc,by rw [decide_eq_true_iff];exact⟨fun h=>by rw [h],fun h=>QaN h⟩⟩) hx (e::es) 0 hes
   have hn:Instr.findNow (.struct fs) x (e::es) 0=none:=by
    obtain⟨a,rfl,_⟩:=hx
    simp [Instr.findNow,Instr.sameNow]
   simpa [Instr.findKey,run_underlying hu,hn] using h1
 stays {w} _ v hv:=by
  obtain⟨x,rfl,hx⟩:=hv
  have h:∀s:ByteArray,(s==s)=true:=fun s=>by rw [beq_toListBytes];simp
  simp [Instr.keyThatStays,Instr.sameBits,JC,h]
end Go.Proofs.YtfjhdnjlhjimeaaGreatDoor
