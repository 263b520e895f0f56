/- Plain Lean. Conditions: as stated. -/
import Derived.Test.YtfjhdnjlhjimeaaGreatDoorMoreW
import Derived.Test.YtfjhdnjlhjimeaaGreatDoorActsG
namespace Go.Proofs.YtfjhdnjlhjimeaaGreatDoor
open Go.RowKit

theorem QhN (c:UInt8):∀(l cur:List UInt8),(Zw c cur l).length=l.count c+1
 | [],cur=>by simp [Zw]
 |b::l,cur=>by
  rw [Zw]
  by_cases h:b=c
  ·rw [if_pos h,I1,QhN c l [],h,List.count_cons_self]
  ·rw [if_neg h,QhN c l _,List.count_cons_of_ne h]
theorem Qhs {s:ByteArray} (h:s.size≠0):(Um s).length=QgF s+1:=by
 unfold Um;rw [if_neg h]
 unfold QG QgF
 rw [J8,QhN]
theorem QhM {s:ByteArray} (h:s.size≠0) (hs:W8 s):yO s=Qa6 s:=by
 obtain⟨p,_,hp,hr,e⟩:=Uh h hs
 rw [Qae h hs e]
 have hw:=kQ hp
 have hj:=vA h
 have hl:=Qhs h
 rw [<-hr] at hj hl
 rw [Qbk] at hl
 by_cases h0:p.layers.length=0
 ·have hn:=I6 h0
  have e1:QP p=[p.core.kind]:=by unfold QP;rw [hn];rfl
  rw [e1,KR] at hj
  rw [h0,Kr,hj]
  unfold Qa6
  rw [if_neg (by omega)]
 ·rw [Wb p _ (by omega) (by omega)]
  have e2:p.layers=p.layers.dropLast++ [p.layers.getLast (fun h=>h0 (by rw [h];rfl))]:=(List.dropLast_concat_getLast _).symm
  have e3:p.layers[p.layers.length-1]=p.layers.getLast (fun h=>h0 (by rw [h];rfl)):=(List.getLast_eq_getElem _).symm
  rw [e3]
  obtain⟨y,hy⟩:∃y,p.layers.getLast (fun h=>h0 (by rw [h];rfl))=y:=⟨_,rfl⟩
  rw [hy] at e2 ⊢
  have e4:QP p=p.core.kind::p.layers.dropLast.map (·.name)++ [y.name]:=by
   unfold QP;rw [e2];simp
  have hy32:=(hw y.name (by rw [e4];simp)).1
  rw [e4,uX] at hj
  rw [<-hj,Qht hy32]
theorem QgN (x y:ByteArray):QgF (x++y)=QgF x+QgF y:=by
 unfold QgF;rw [Q9,Array.toList_append,List.count_append]
theorem QhX (x y:ByteArray) (h:0<QgF y):Qgs (x++y)=Qgs y:=by
 unfold Qgs
 rw [Q9,Array.toList_append,List.reverse_append]
 have hm:(32:UInt8)∈y.data.toList.reverse:=List.mem_reverse.2 (List.count_pos_iff.1 h)
 have hg:∀(a b:List UInt8),(32:UInt8)∈a->(a++b).takeWhile (· !=32)=a.takeWhile (· !=32):=fun a b=>by
  induction a with
  |nil=>intro h;cases h
  |cons c r ih=>
   intro hc
   rw [M2,List.takeWhile_cons,List.takeWhile_cons]
   by_cases e:c=32
   ·simp [e]
   ·rw [ih (by rcases C7.1 hc with h|h;exact absurd h.symm e;exact h)]
 rw [hg _ _ hm]
theorem QhU (x y:ByteArray) (h:0<QgF y):Qa6 (x++y)=Qa6 y:=by
 unfold Qa6
 rw [QgN,if_pos (by omega),if_pos h,QhX x y h]

section
variable {k:YY ByteArray}
def QgO (k:YY ByteArray) (g:Qhq) (s:ByteArray):Prop:=(g.given=0/\s=g.shape)∨∃i:Nat,i<3/\g.given=i+1/\s=k.get i++g.shape
def QhK (k:YY ByteArray) (g:YY Qhq) (s:YY ByteArray):Prop:=QgO k g.a s.a/\QgO k g.b s.b/\QgO k g.c s.c
theorem QhK.get {g:YY Qhq} {s:YY ByteArray} (h:QhK k g s) (i:Int):QgO k (g.get i) (s.get i):=by
 unfold YY.get;split;exact h.1;split;exact h.2.1;exact h.2.2
theorem QhK.set {g:YY Qhq} {s:YY ByteArray} (h:QhK k g s) (i:Int) {x:Qhq} {y:ByteArray} (hx:QgO k x y):QhK k (g.set i x) (s.set i y):=by
 unfold YY.set;split;exact⟨hx,h.2.1,h.2.2⟩;split;exact⟨h.1,hx,h.2.2⟩;exact⟨h.1,h.2.1,hx⟩
variable (hk:k.All (fun s=>Qo s≠none))
include hk
theorem QgO.size {g:Qhq} {s:ByteArray} (h:QgO k g s):s.size=0↔g.empty:=by
 unfold Qhq.empty
 rcases h with ⟨h1,rfl⟩|⟨i,_,h1,rfl⟩
 ·exact⟨fun h=>⟨h1,h⟩,fun h=>h.2⟩
 ·have:=(QdI (hk.get i)).1
  rw [M3]
  constructor<;>intro h<;>omega
theorem QgO.sps {g:Qhq} {s:ByteArray} (h:QgO k g s):QgF s=QgF g.shape:=by
 rcases h with ⟨_,rfl⟩|⟨i,_,_,rfl⟩
 ·rfl
 ·rw [QgN,(QdI (hk.get i)).2,J3]
theorem QgO.face {g:Qhq} {s:ByteArray} (h:QgO k g s) (hg:g.ok):(¬g.bare->Qa6 s=Qa6 g.shape)/\∀i:Nat,g.bare->i+1=g.given->Qa6 s=(Qo (k.get i)).getD 0:=by
 rcases h with ⟨h1,rfl⟩|⟨i,_,h1,rfl⟩
 ·exact⟨fun _=>rfl,fun i hb=>by have:=hb.1;omega⟩
 ·refine⟨fun hb=>?_,fun j hb hj=>?_⟩
  ·have hs:0<QgF g.shape:=by
    unfold Qhq.bare at hb
    omega
   exact QhU _ _ hs
  ·obtain rfl:i=j:=by omega
   unfold Qa6
   rw [QgN,hb.2,(QdI (hk.get i)).2,if_neg (by omega)]
   have hz:=(QhB hg).1 hb
   have e:g.shape=⟨#[]⟩:=O5 (Q2.1 (by rw [I6 (show g.shape.data.toList.length=0 by rw [Zl];exact hz.1)]))
   rw [e]
   congr 2
   exact O5 (by simp)
def Qh5 (k:YY ByteArray) (g:YY Qhq) (s:YY ByteArray):Prop:=g.All Qhq.ok/\s.All W8/\QhK k g s
def Qh6 (k:YY ByteArray) (i:Nat) (w:Int):Prop:=ZL ((Qo (k.get i)).getD 0) w
def Qc6 (k:YY ByteArray) (X:Rn (YY ByteArray)) (Y:W3 (YY Qhq)):Prop:=∀g s,Qh5 k g s->(∀i w,Y.ask g i w->Qh6 k i w)->¬Y.fail g->
 (∀i t,X.ok s i t->∃g',Y.reach g g'/\Qh5 k g' t)/\∀i t e,X.bad s i t e->e.code≠1
omit hk in
theorem Qc6.skip:Qc6 k Rn.skip W3.skip:=fun g s h _ _=>⟨fun i t ht=>⟨g,rfl,by have e:t=s:=ht.2;rw [e];exact h⟩,fun _ _ _ h=>h.elim⟩
variable {X X':Rn (YY ByteArray)} {Y Y':W3 (YY Qhq)}
omit hk in
theorem Qc6.seq (h:Qc6 k X Y) (h':Qc6 k X' Y'):Qc6 k (X.seq X') (Y.seq Y'):=fun g s hw ha hf=>by
 obtain⟨h1,h2⟩:=h g s hw (fun i w h=>ha i w (.inl h)) (fun h=>hf (.inl h))
 have hn:∀i u,X.ok s i u->∃g',Y.reach g g'/\(∀i t,X'.ok u i t->∃g'',Y'.reach g' g''/\Qh5 k g'' t)/\∀i t e,X'.bad u i t e->e.code≠1:=fun i u hu=>by
  obtain⟨g',hr,hw'⟩:=h1 i u hu
  have:=h' g' u hw' (fun i w h=>ha i w (.inr ⟨g',hr,h⟩)) (fun h=>hf (.inr ⟨g',hr,h⟩))
  exact⟨g',hr,this⟩
 refine⟨fun i t ht=>?_,fun i t e ht=>?_⟩
 ·obtain⟨i1,i2,u,_,hu,ht⟩:=ht
  obtain⟨g',hr,h3,_⟩:=hn i1 u hu
  obtain⟨g'',hr',hw''⟩:=h3 i2 t ht
  exact⟨g'',⟨g',hr,hr'⟩,hw''⟩
 ·rcases ht with ht|⟨i1,i2,u,_,hu,ht⟩
  ·exact h2 i t e ht
  ·obtain⟨g',_,_,h4⟩:=hn i1 u hu
   exact h4 i2 t e ht
omit hk in
theorem Qc6.took (n:Int) (h:Qc6 k X Y):Qc6 k (X.took n) Y:=fun g s hw ha hf=>by
 obtain⟨h1,h2⟩:=h g s hw ha hf
 exact⟨fun i t ⟨j,_,ht⟩=>h1 j t ht,fun i t e ⟨j,_,ht⟩=>h2 j t e ht⟩
omit hk in
theorem Qc6.alt (h:Qc6 k X Y) (h':Qc6 k X' Y'):Qc6 k (X.alt X') (Y.alt Y'):=fun g s hw ha hf=>by
 obtain⟨h1,h2⟩:=h g s hw (fun i w h=>ha i w (.inl h)) (fun h=>hf (.inl h))
 obtain⟨h3,h4⟩:=h' g s hw (fun i w h=>ha i w (.inr h)) (fun h=>hf (.inr h))
 refine⟨fun i t ht=>?_,fun i t e ht=>ht.elim (h2 i t e) (h4 i t e)⟩
 rcases ht with ht|ht
 ·obtain⟨g',a,b⟩:=h1 i t ht;exact⟨g',.inl a,b⟩
 ·obtain⟨g',a,b⟩:=h3 i t ht;exact⟨g',.inr a,b⟩
omit hk in
theorem Qc6.pow (h:Qc6 k X Y):∀n,Qc6 k (X.pow n) (Y.pow n)
 |0=>Qc6.skip
 |n+1=>(Qc6.pow h n).seq h
omit hk in
theorem QhD {σ:Type} (Y:W3 σ) (s:σ):∀n m,n<=m->(∀i w,(Y.pow n).ask s i w->(Y.pow m).ask s i w)/\((Y.pow n).fail s->(Y.pow m).fail s)
 | n,m,h=>by
  induction m with
  |zero=>
   obtain rfl:n=0:=by omega
   exact⟨fun _ _ h=>h,fun h=>h⟩
  | succ m ih=>
   by_cases e:n=m+1
   ·rw [e];exact⟨fun _ _ h=>h,fun h=>h⟩
   ·have:=ih (by omega)
    exact⟨fun i w h=>.inl (this.1 i w h),fun h=>.inl (this.2 h)⟩
omit hk in
theorem Qc6.loop (h:Qc6 k X Y):Qc6 k X.loop Y.loop:=fun g s hw ha hf=>by
 have hp:∀n,n<=3->(∀i t,(X.pow n).ok s i t->∃g',(Y.pow n).reach g g'/\Qh5 k g' t)/\∀i t e,(X.pow n).bad s i t e->e.code≠1:=fun n hn=>
  h.pow n g s hw (fun i w h=>ha i w ((QhD Y g n 3 hn).1 i w h)) (fun h=>hf ((QhD Y g n 3 hn).2 h))
 refine⟨fun i t ⟨n,hn,j,_,ht⟩=>?_,fun i t e ⟨n,hn,j,_,ht⟩=>(hp n hn).2 j t e ht⟩
 obtain⟨g',a,b⟩:=(hp n hn).1 j t ht
 exact⟨g',⟨n,hn,a⟩,b⟩
theorem QhH (a:Qa) (p:Int) (h:Qgc a) (h8:a.op≠8) (h9:a.op≠9):Qc6 k (Qs a p) (QdW a):=fun g s ⟨hg,hs,hr⟩ hask hfail=>by
 obtain⟨ha,h3,h10⟩:=h
 have hop:=Gt ha
 have hok:=QcO a ha p h8 h9 h10 s hs
 -- what is left: the step's end, and what is reached
 suffices H:((YX a p s).2.code≠1)/\((YX a p s).2=QJ->∃g',(QdW a).reach g g'/\g'.All Qhq.ok/\QhK k g' (YX a p s).1) by
  refine⟨fun i t ht=>?_,fun i t e ht=>?_⟩
  ·obtain⟨g',h1,h2,h4⟩:=H.2 (by rw [ht.2])
   have e:(YX a p s).1=t:=by rw [ht.2]
   rw [e] at h4 hok
   exact⟨g',h1,h2,hok,h4⟩
  ·have e:(YX a p s).2=e:=by rw [ht.2.1]
   rw [<-e];exact H.1
 have keepok:∀t,(QdW a).reach g t->t.All Qhq.ok:=fun t=>(QhV a ⟨ha,h3,h10⟩ h8 h9).keep (s:=g) hg
 have hsz:=QgO.size hk (hr.get a.slot)
 have hsp:=QgO.sps hk (hr.get a.slot)
 have hfc:=QgO.face hk (hr.get a.slot) (hg.get a.slot)
 unfold QdW at hask hfail keepok ⊢
 unfold YX
 by_cases h1:a.op=1
 ·simp only [h1,if_true] at keepok ⊢
  exact⟨by decide,fun _=>⟨_,rfl,keepok _ rfl,hr.set _ (.inl ⟨rfl,rfl⟩)⟩⟩
 by_cases h5:a.op=5
 ·simp only [h5,if_true,show ¬(5:Int)=1 by decide,if_false] at keepok ⊢
  exact⟨by decide,fun _=>⟨_,rfl,keepok _ rfl,hr.set _ (.inl ⟨rfl,rfl⟩)⟩⟩
 by_cases h4:a.op=4
 ·simp only [h4,if_true,show ¬(4:Int)=1 by decide,show ¬(4:Int)=5 by decide,if_false] at keepok ⊢
  exact⟨by decide,fun _=>⟨_,rfl,keepok _ rfl,hr.set _ (hr.get _)⟩⟩
 simp only [h1,h5,h4,if_false] at hask hfail keepok ⊢
 by_cases hz:(s.get a.slot).size=0
 ·rw [if_pos hz]
  exact⟨show(2:Int)≠1 by decide,fun h=>by have:=congrArg Xo.code h;cases this⟩
 rw [if_neg hz,if_neg h3]
 have he:¬(g.get a.slot).empty:=fun h=>hz (hsz.2 h)
 have hl:=Qhs hz
 have hface:=QhM hz (hs.get a.slot)
 -- what is asked is offered
 have hoff:(a.op=2->QgF (g.get a.slot).shape<3)->ZL (yO (s.get a.slot)) (KV a):=fun h23=>by
  rw [hface]
  by_cases hb:(g.get a.slot).bare
  ·obtain⟨i,hi⟩:∃i,i+1=(g.get a.slot).given:=⟨(g.get a.slot).given-1,by have:=hb.1;omega⟩
   rw [hfc.2 i hb hi]
   refine hask i (KV a) ?_
   by_cases h2:a.op=2
   ·simp only [h2,if_true];exact⟨hb,hi,trivial⟩
   ·simp only [h2,if_false];exact⟨hb,hi,trivial⟩
  ·rw [hfc.1 hb]
   refine Decidable.byContradiction fun hno=>hfail ?_
   by_cases h2:a.op=2
   ·simp only [h2,if_true];exact⟨he,h23 h2,hb,hno⟩
   ·simp only [h2,if_false];exact⟨he,hb,hno⟩
 by_cases h2:a.op=2
 ·simp only [h2,if_true,true_and] at keepok ⊢
  by_cases h33:3<(Um (s.get a.slot)).length
  ·rw [if_pos h33]
   exact⟨show(0:Int)≠1 by decide,fun _=>⟨g,⟨he,.inl ⟨by omega,rfl⟩⟩,hg,hr⟩⟩
  ·have hlt:QgF (g.get a.slot).shape<3:=by omega
   have ho:=hoff (fun _=>hlt)
   rw [if_neg h33,if_neg (fun h=>h ho)]
   have hb:(g.get a.slot).bare∨ZL (Qa6 (g.get a.slot).shape) (KV a):=by
    by_cases hb:(g.get a.slot).bare
    ·exact .inl hb
    ·rw [hface,hfc.1 hb] at ho;exact .inr ho
   refine⟨show(0:Int)≠1 by decide,fun _=>⟨g.set a.slot ((g.get a.slot).wrap a.word),⟨he,.inr ⟨hlt,hb,rfl⟩⟩,keepok _ ⟨he,.inr ⟨hlt,hb,rfl⟩⟩,hr.set _ ?_⟩⟩
   rcases hr.get a.slot with ⟨q1,q2⟩|⟨i,q0,q1,q2⟩
   ·exact .inl ⟨q1,by rw [q2];rfl⟩
   ·exact .inr ⟨i,q0,q1,by rw [q2,ByteArray.append_assoc];rfl⟩
 ·simp only [h2,if_false,false_and] at keepok ⊢
  have ho:=hoff (fun h=>absurd h h2)
  rw [if_neg (fun h=>h ho)]
  have hb:(g.get a.slot).bare∨ZL (Qa6 (g.get a.slot).shape) (KV a):=by
   by_cases hb:(g.get a.slot).bare
   ·exact .inl hb
   ·rw [hface,hfc.1 hb] at ho;exact .inr ho
  exact⟨show(0:Int)≠1 by decide,fun _=>⟨g,⟨he,hb,rfl⟩,hg,hr⟩⟩
end
mutual
theorem Qa.sound {k:YY ByteArray} (hk:k.All (fun s=>Qo s≠none)):∀(a:Qa) (p:Int),a.AllA Qgc->Qc6 k (a.ex Qs p) (a.w3 QdW)
 | .mk op slot other word call face A B,p,h=>by
  rw [Qa.ex_eq,Qa.w3_eq]
  rw [Qa.AllA] at h
  have h10:=h.1.2.2
  simp only [Qa.op,Qa.A,Qa.B] at h10 ⊢
  by_cases h8:op=8
  ·simp only [h8,if_true]
   exact((Qho hk A _ h.2.1).took 1).alt ((Qho hk B _ h.2.2).took 0)
  ·by_cases h9:op=9
   ·simp only [h9,if_true,show ¬(9:Int)=8 by decide,if_false]
    exact(Qho hk A _ h.2.1).loop
   ·simp only [h8,h9,h10,if_false]
    exact QhH hk _ p h.1 h8 h9
theorem Qho {k:YY ByteArray} (hk:k.All (fun s=>Qo s≠none)):∀(l:List Qa) (p:Int),QgK Qgc l->Qc6 k (Vn Qs l p) (w3L QdW l)
 | [],_,_=>by rw [Vn,w3L];exact Qc6.skip
 |a::l,p,h=>by
  rw [QgK] at h
  rw [Vn,w3L]
  exact(Qa.sound hk a p h.1).seq (Qho hk l _ h.2)
end
mutual
theorem Qa.plainA:∀a:Qa,a.ok->a.no 10 3->a.AllA Qgc
 | .mk op slot other word call face A B,h,hn=>by
  rw [Qa.ok] at h
  rw [Qa.no] at hn
  rw [Qa.AllA]
  exact⟨⟨h.1,hn.1.2,hn.1.1⟩,QhI A h.2.1 hn.2.1,QhI B h.2.2 hn.2.2⟩
theorem QhI:∀l:List Qa,Jm l->zR 10 3 l->QgK Qgc l
 | [],_,_=>by rw [QgK];trivial
 |a::l,h,hn=>by
  rw [Jm] at h
  rw [zR] at hn
  rw [QgK]
  exact⟨Qa.plainA a h.1 hn.1,QhI l h.2 hn.2⟩
end
def Qhy:YY Qhq:=⟨⟨1,⟨#[]⟩⟩,⟨2,⟨#[]⟩⟩,⟨3,⟨#[]⟩⟩⟩
theorem QhT:Qhy.All Qhq.ok:=⟨⟨by decide,fun h=>absurd rfl h⟩,⟨by decide,fun h=>absurd rfl h⟩,⟨by decide,fun h=>absurd rfl h⟩⟩
theorem Qic {k:YY ByteArray} (hk:k.All (fun s=>Qo s≠none)) {l:List Qa} (hl:QgK Qgc l) (hask:∀i w,(w3L QdW l).ask Qhy i w->Qh6 k i w) (hf:¬(w3L QdW l).fail Qhy) {i:List Int} {t:YY ByteArray} {e:Xo} (h:(Vn Qs l 0).bad k i t e):e.code≠1:=by
 have hs:k.All W8:=by
  have one:∀s,Qo s≠none->W8 s:=fun s h=>.inr (by
   have hw:=QdI h
   unfold Um
   rw [if_neg hw.1,yF (List.count_eq_zero.1 hw.2)]
   obtain⟨f,hf⟩:=O6.1 h
   rw [Ko hf]
   rfl)
  exact⟨one _ hk.1,one _ hk.2.1,one _ hk.2.2⟩
 have e0:∀s:ByteArray,s=s++⟨#[]⟩:=fun s=>O5 (by simp)
 exact(Qho hk l 0 hl Qhy k ⟨QhT,hs,.inr ⟨0,by decide,rfl,e0 _⟩,.inr ⟨1,by decide,rfl,e0 _⟩,.inr ⟨2,by decide,rfl,e0 _⟩⟩ hask hf).2 i t e h
end Go.Proofs.YtfjhdnjlhjimeaaGreatDoor
