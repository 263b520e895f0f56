/- Plans without some kinds of actions. Conditions: as stated. -/
import Derived.Test.YtjeadhmkghnkkaaGreatDoorRunsP
import Derived.Test.YtjeadhmkghnkkaaGreatDoorRegs
import Derived.Test.YtjeadhmkghnkkaaGreatDoorDraw5
import Derived.Test.YtjeadhmkghnkkaaGreatDoorPlOk
namespace Go.Proofs.YtjeadhmkghnkkaaGreatDoor
open Go.RowKit

section
variable {σ τ:Type}
def W3.alt (X Y:W3 σ):W3 σ:=⟨fun s t=>X.reach s t∨Y.reach s t,fun s i w=>X.ask s i w∨Y.ask s i w,fun s=>X.fail s∨Y.fail s⟩
def W3.loop (X:W3 σ):W3 σ:=⟨fun s t=>∃n,n<=3/\(X.pow n).reach s t,(X.pow 3).ask,(X.pow 3).fail⟩
mutual
def Qa.w3 (f:Qa->W3 σ):Qa->W3 σ
 | .mk op slot other word call face A B=>if op=8 then W3.alt (w3L f A) (w3L f B) else if op=9 then W3.loop (w3L f A) else f (.mk op slot other word call face A B)
def w3L (f:Qa->W3 σ):List Qa->W3 σ
 | []=>W3.skip
 |a::l=>W3.seq (a.w3 f) (w3L f l)
end
theorem Qa.w3_eq (f:Qa->W3 σ) (a:Qa):a.w3 f=if a.op=8 then W3.alt (w3L f a.A) (w3L f a.B) else if a.op=9 then W3.loop (w3L f a.A) else f a:=by
 cases a;rw [Qa.w3];rfl

variable {I:σ->Prop} {α:σ->τ} {X X':W3 σ} {Y Y':W3 τ}
theorem Sim.alt (h:Sim I α X Y) (h':Sim I α X' Y'):Sim I α (W3.alt X X') (W3.alt Y Y') where
 keep hs h1:=h1.elim (h.keep hs) (h'.keep hs)
 fwd hs h1:=h1.imp (h.fwd hs) (h'.fwd hs)
 back hs h1:=by
  rcases h1 with h1|h1
  ·obtain⟨t,a,b⟩:=h.back hs h1;exact⟨t,.inl a,b⟩
  ·obtain⟨t,a,b⟩:=h'.back hs h1;exact⟨t,.inr a,b⟩
 ask hs:=or_congr (h.ask hs) (h'.ask hs)
 fail hs:=or_congr (h.fail hs) (h'.fail hs)
theorem Sim.loop (h:Sim I α X Y):Sim I α X.loop Y.loop where
 keep hs h1:=by obtain⟨n,_,h2⟩:=h1;exact(h.pow n).keep hs h2
 fwd hs h1:=by obtain⟨n,hn,h2⟩:=h1;exact⟨n,hn,(h.pow n).fwd hs h2⟩
 back hs h1:=by
  obtain⟨n,hn,h2⟩:=h1
  obtain⟨t,a,b⟩:=(h.pow n).back hs h2
  exact⟨t,⟨n,hn,a⟩,b⟩
 ask hs:=(h.pow 3).ask hs
 fail hs:=(h.pow 3).fail hs
mutual
theorem Qa.sim {f:Qa->W3 σ} {g:Qa->W3 τ} {G:Qa->Prop} (hsim:∀a,G a->a.op≠8->a.op≠9->Sim I α (f a) (g a)):∀a:Qa,a.AllA G->Sim I α (a.w3 f) (a.w3 g)
 | .mk op slot other word call face A B,h=>by
  rw [Qa.w3_eq,Qa.w3_eq]
  rw [Qa.AllA] at h
  by_cases h8:op=8
  ·simp only [Qa.op,Qa.A,Qa.B,h8,if_true]
   exact(Qh2 hsim A h.2.1).alt (Qh2 hsim B h.2.2)
  ·by_cases h9:op=9
   ·simp only [Qa.op,Qa.A,h9,if_true]
    exact(Qh2 hsim A h.2.1).loop
   ·simp only [Qa.op,h8,h9,if_false]
    exact hsim _ h.1 h8 h9
theorem Qh2 {f:Qa->W3 σ} {g:Qa->W3 τ} {G:Qa->Prop} (hsim:∀a,G a->a.op≠8->a.op≠9->Sim I α (f a) (g a)):∀l:List Qa,QgK G l->Sim I α (w3L f l) (w3L g l)
 | [],_=>Sim.skip
 |a::l,h=>by
  rw [QgK] at h
  rw [w3L,w3L]
  exact(Qa.sim hsim a h.1).seq (Qh2 hsim l h.2)
end
end
section
variable {α β:Type}
theorem YY.map_set (f:α->β) (t:YY α) (i:Int) (x:α):(t.set i x).map f=(t.map f).set i (f x):=by unfold YY.set;split<;>(try split)<;>rfl
theorem YY.All.set {P:α->Prop} {t:YY α} (h:t.All P) (i:Int) {x:α} (hx:P x):(t.set i x).All P:=by
 unfold YY.set;split;exact⟨hx,h.2.1,h.2.2⟩;split;exact⟨h.1,hx,h.2.2⟩;exact⟨h.1,h.2.1,hx⟩
end

def Qgs (s:ByteArray):ByteArray:=⟨(s.data.toList.reverse.takeWhile (· !=32)).reverse.toArray⟩
def Qa6 (s:ByteArray):Int:=if 0<QgF s then((Qj (Qgs s)).getD (0,0)).2 else(Qo s).getD 0
def Qid (a:Qa):W3 (YY Kn):=
 if a.op=1 then⟨fun s t=>t=s.set a.slot (.known 0 ((Qo a.word).getD 0)),fun _ _ _=>False,fun _=>False⟩
 else if a.op=5 then⟨fun s t=>t=s.set a.slot .no,fun _ _ _=>False,fun _=>False⟩
 else if a.op=4 then⟨fun s t=>t=s.set a.slot (s.get a.other),fun _ _ _=>False,fun _=>False⟩
 else if a.op=2 then
  ⟨fun s t=>match s.get a.slot with
   | .no=>False
   | .giv _=>t=s.set a.slot (.known 1 ((Qj a.word).getD (0,0)).2)
   | .known l f=>(3<=l/\t=s)∨(l<3/\ZL f (KV a)/\t=s.set a.slot (.known (l+1) ((Qj a.word).getD (0,0)).2)),
    fun s i w=>s.get a.slot= .giv i/\w=KV a,fun s=>∃l f,s.get a.slot= .known l f/\l<3/\¬ZL f (KV a)⟩
 else
  ⟨fun s t=>match s.get a.slot with
   | .no=>False
   | .giv _=>t=s
   | .known _ f=>ZL f (KV a)/\t=s,
    fun s i w=>s.get a.slot= .giv i/\w=KV a,fun s=>∃l f,s.get a.slot= .known l f/\¬ZL f (KV a)⟩
def Qhq.bare (x:Qhq):Prop:=0<x.given/\QgF x.shape=0
def Qhq.empty (x:Qhq):Prop:=x.given=0/\x.shape.size=0
def Qhq.wrap (x:Qhq) (w:ByteArray):Qhq:=⟨x.given,x.shape++(xG++w)⟩
def QdW (a:Qa):W3 (YY Qhq):=
 if a.op=1 then⟨fun s t=>t=s.set a.slot ⟨0,a.word⟩,fun _ _ _=>False,fun _=>False⟩
 else if a.op=5 then⟨fun s t=>t=s.set a.slot ⟨0,⟨#[]⟩⟩,fun _ _ _=>False,fun _=>False⟩
 else if a.op=4 then⟨fun s t=>t=s.set a.slot (s.get a.other),fun _ _ _=>False,fun _=>False⟩
 else if a.op=2 then
  ⟨fun s t=>¬(s.get a.slot).empty/\((3<=QgF (s.get a.slot).shape/\t=s)∨(QgF (s.get a.slot).shape<3/\((s.get a.slot).bare∨ZL (Qa6 (s.get a.slot).shape) (KV a))/\t=s.set a.slot ((s.get a.slot).wrap a.word))),
    fun s i w=>(s.get a.slot).bare/\i+1=(s.get a.slot).given/\w=KV a,
    fun s=>¬(s.get a.slot).empty/\QgF (s.get a.slot).shape<3/\¬(s.get a.slot).bare/\¬ZL (Qa6 (s.get a.slot).shape) (KV a)⟩
 else
  ⟨fun s t=>¬(s.get a.slot).empty/\((s.get a.slot).bare∨ZL (Qa6 (s.get a.slot).shape) (KV a))/\t=s,
    fun s i w=>(s.get a.slot).bare/\i+1=(s.get a.slot).given/\w=KV a,
    fun s=>¬(s.get a.slot).empty/\¬(s.get a.slot).bare/\¬ZL (Qa6 (s.get a.slot).shape) (KV a)⟩
def Qhq.kn (x:Qhq):Kn:=if x.shape.size=0 then(if x.given=0 then .no else .giv (x.given-1)) else .known (QgF x.shape) (Qa6 x.shape)
def Qhq.ok (x:Qhq):Prop:=x.given<=3/\(x.shape.size≠0->(x.given=0∨0<QgF x.shape)/\QgF x.shape<=3)

theorem Qga {s w:ByteArray} (h:(32:UInt8)∉w.data.toList):QgF (s++(xG++w))=QgF s+1:=by
 unfold QgF
 rw [Qdo,List.count_append,List.count_cons_self,List.count_eq_zero.2 h]
theorem Qhu {s w:ByteArray} (h:(32:UInt8)∉w.data.toList):Qgs (s++(xG++w))=w:=by
 unfold Qgs
 rw [Qdo,List.reverse_append,List.reverse_cons,U2,List.takeWhile_append_of_pos (by
  intro x hx
  simp only [bne_iff_ne,ne_eq]
  rintro rfl
  exact h (List.mem_reverse.1 hx))]
 simp
theorem Qht {s w:ByteArray} (h:(32:UInt8)∉w.data.toList):Qa6 (s++(xG++w))=((Qj w).getD (0,0)).2:=by
 unfold Qa6
 rw [Qga h,if_pos (by omega),Qhu h]
theorem QhS (s w:ByteArray):(s++(xG++w)).size≠0:=by
 rw [<-Zl,Qdo];simp

def Qgc (a:Qa):Prop:=ZG a/\a.op≠3/\a.op≠10
theorem QhB {x:Qhq} (h:x.ok):x.bare↔x.shape.size=0/\0<x.given:=by
 unfold Qhq.bare
 constructor
 ·rintro⟨h1,h2⟩
  refine⟨?_,h1⟩
  by_cases hz:x.shape.size=0
  ·exact hz
  ·rcases(h.2 hz).1 with h3|h3<;>omega
 ·rintro⟨h1,h2⟩
  refine⟨h2,?_⟩
  unfold QgF
  have e1:x.shape.data.toList=[]:=I6 (by rw [Zl];exact h1)
  rw [e1]
  rfl
theorem QdX (x:Qhq) (h:x.ok):(x.kn= .no/\x.empty/\¬x.bare)∨(∃i,x.kn= .giv i/\¬x.empty/\x.bare/\i+1=x.given/\QgF x.shape=0)∨(x.kn= .known (QgF x.shape) (Qa6 x.shape)/\¬x.empty/\¬x.bare):=by
 have hb:=QhB h
 unfold Qhq.kn Qhq.empty
 by_cases hz:x.shape.size=0
 ·by_cases hg:x.given=0
  ·exact .inl ⟨by rw [if_pos hz,if_pos hg],⟨hg,hz⟩,fun h1=>by have:=(hb.1 h1).2;omega⟩
  ·have hbb:=hb.2 ⟨hz,by omega⟩
   exact .inr (.inl ⟨x.given-1,by rw [if_pos hz,if_neg hg],fun h1=>hg h1.1,hbb,by omega,hbb.2⟩)
 ·exact .inr (.inr ⟨by rw [if_neg hz],fun h1=>hz h1.2,fun h1=>hz (hb.1 h1).1⟩)
theorem QhO {x:Qhq} (h:x.ok) {w:ByteArray} (hw:(32:UInt8)∉w.data.toList) (hs:QgF x.shape<3):(x.wrap w).ok:=
 ⟨h.1,fun _=>by unfold Qhq.wrap;rw [Qga hw];omega⟩
theorem Qhg (x:Qhq) {w:ByteArray} (hw:(32:UInt8)∉w.data.toList):(x.wrap w).kn= .known (QgF x.shape+1) ((Qj w).getD (0,0)).2:=by
 unfold Qhq.kn Qhq.wrap
 rw [if_neg (QhS _ _),Qga hw,Qht hw]
theorem QhV (a:Qa) (h:Qgc a) (_h8:a.op≠8) (_h9:a.op≠9):Sim (fun s:YY Qhq=>s.All Qhq.ok) (YY.map Qhq.kn) (QdW a) (Qid a):=by
 obtain⟨ha,h3,h10⟩:=h
 have hop:=Gt ha
 unfold QdW Qid
 by_cases h1:a.op=1
 ·simp only [h1,if_true]
  have hk:=QdI ((xQ h1).1 ha).2.1
  have hz:(Qhq.mk 0 a.word).kn= .known 0 ((Qo a.word).getD 0):=by unfold Qhq.kn Qa6;rw [if_neg hk.1,hk.2];rfl
  exact⟨fun hs e=>by rw [e];exact hs.set _ ⟨I3 _,fun _=>⟨.inl rfl,by rw [hk.2];omega⟩⟩,fun hs e=>by rw [e,YY.map_set,hz],fun hs e=>⟨_,rfl,by rw [e,YY.map_set,hz]⟩,fun _=>i7,fun _=>i7⟩
 by_cases h5:a.op=5
 ·simp only [h5,if_true,show ¬(5:Int)=1 by decide,if_false]
  exact⟨fun hs e=>by rw [e];exact hs.set _ ⟨by decide,fun h=>absurd rfl h⟩,fun hs e=>by rw [e,YY.map_set];rfl,fun hs e=>⟨_,rfl,by rw [e,YY.map_set];rfl⟩,fun _=>i7,fun _=>i7⟩
 by_cases h4:a.op=4
 ·simp only [h4,if_true,show ¬(4:Int)=1 by decide,show ¬(4:Int)=5 by decide,if_false]
  exact⟨fun hs e=>by rw [e];exact hs.set _ (hs.get _),fun hs e=>by rw [e,YY.map_set];show _=_;rw [YY.map_get],fun hs e=>⟨_,rfl,by rw [e,YY.map_set];show _=YY.set _ _ (YY.get _ _);rw [YY.map_get]⟩,fun _=>i7,fun _=>i7⟩
 by_cases h2:a.op=2
 ·simp only [h2,if_true,show ¬(2:Int)=1 by decide,show ¬(2:Int)=5 by decide,show ¬(2:Int)=4 by decide,if_false]
  have hw:=(QbG ((xJ h2).1 ha).2.1).2
  refine⟨fun {s t} hs hr=>?_,fun {s t} hs hr=>?_,fun {s t'} hs hr=>?_,fun {s i w} hs=>?_,fun {s} hs=>?_⟩
  ·obtain⟨_,⟨_,rfl⟩|⟨h1,_,rfl⟩⟩:=hr
   ·exact hs
   ·exact hs.set _ (QhO (hs.get _) hw h1)
  ·obtain⟨he,hr⟩:=hr
   simp only [YY.map_get]
   rcases QdX _ (hs.get a.slot) with ⟨e,h1,_⟩|⟨i,e,_,h1,_,h2⟩|⟨e,_,h1⟩
   ·exact absurd h1 he
   ·rw [e]
    rcases hr with ⟨h3,_⟩|⟨_,_,rfl⟩
    ·omega
    ·simp only
     rw [YY.map_set,Qhg _ hw,h2]
   ·rw [e]
    rcases hr with ⟨h3,rfl⟩|⟨h3,h4|h4,rfl⟩
    ·exact .inl ⟨h3,rfl⟩
    ·exact absurd h4 h1
    ·exact .inr ⟨h3,h4,by rw [YY.map_set,Qhg _ hw]⟩
  ·simp only [YY.map_get] at hr
   rcases QdX _ (hs.get a.slot) with ⟨e,h1,_⟩|⟨i,e,h0,h1,_,h2⟩|⟨e,h0,h1⟩
   ·rw [e] at hr
    exact hr.elim
   ·rw [e] at hr
    exact⟨_,⟨h0,.inr ⟨by omega,.inl h1,rfl⟩⟩,by rw [YY.map_set,Qhg _ hw,h2];exact hr.symm⟩
   ·rw [e] at hr
    rcases hr with ⟨h3,rfl⟩|⟨h3,h4,rfl⟩
    ·exact⟨s,⟨h0,.inl ⟨h3,rfl⟩⟩,rfl⟩
    ·exact⟨_,⟨h0,.inr ⟨h3,.inr h4,rfl⟩⟩,by rw [YY.map_set,Qhg _ hw]⟩
  ·simp only [YY.map_get]
   rcases QdX _ (hs.get a.slot) with ⟨e,_,h1⟩|⟨j,e,h0,h1,hj,h2⟩|⟨e,h0,h1⟩
   ·rw [e];exact⟨fun h=>absurd h.1 h1,fun h=>by cases h.1⟩
   ·rw [e]
    exact⟨fun h=>⟨by congr 1;omega,h.2.2⟩,fun h=>⟨h1,by have:=h.1;injection this with q;omega,h.2⟩⟩
   ·rw [e];exact⟨fun h=>absurd h.1 h1,fun h=>by cases h.1⟩
  ·simp only [YY.map_get]
   rcases QdX _ (hs.get a.slot) with ⟨e,h0,h1⟩|⟨j,e,h0,h1,hj,h2⟩|⟨e,h0,h1⟩
   ·rw [e];exact⟨fun h=>absurd h0 h.1,fun⟨_,_,h,_⟩=>by cases h⟩
   ·rw [e];exact⟨fun h=>absurd h1 h.2.2.1,fun⟨_,_,h,_⟩=>by cases h⟩
   ·rw [e];exact⟨fun h=>⟨_,_,rfl,h.2.1,h.2.2.2⟩,fun⟨_,_,h,hl,ho⟩=>by cases h;exact⟨h0,hl,h1,ho⟩⟩
 ·simp only [h1,h5,h4,h2,if_false]
  refine⟨fun {s t} hs hr=>by rw [hr.2.2];exact hs,fun {s t} hs hr=>?_,fun {s t'} hs hr=>?_,fun {s i w} hs=>?_,fun {s} hs=>?_⟩
  ·obtain⟨he,hr,rfl⟩:=hr
   simp only [YY.map_get]
   rcases QdX _ (hs.get a.slot) with ⟨e,h1,_⟩|⟨i,e,_,h1,_,h2⟩|⟨e,_,h1⟩
   ·exact absurd h1 he
   ·rw [e]
    trivial
   ·rw [e]
    exact⟨hr.resolve_left h1,trivial⟩
  ·simp only [YY.map_get] at hr
   rcases QdX _ (hs.get a.slot) with ⟨e,h1,_⟩|⟨i,e,h0,h1,_,h2⟩|⟨e,h0,h1⟩
   ·rw [e] at hr
    exact hr.elim
   ·rw [e] at hr
    exact⟨s,⟨h0,.inl h1,rfl⟩,hr.symm⟩
   ·rw [e] at hr
    exact⟨s,⟨h0,.inr hr.1,rfl⟩,hr.2.symm⟩
  ·simp only [YY.map_get]
   rcases QdX _ (hs.get a.slot) with ⟨e,_,h1⟩|⟨j,e,h0,h1,hj,h2⟩|⟨e,h0,h1⟩
   ·rw [e];exact⟨fun h=>absurd h.1 h1,fun h=>by cases h.1⟩
   ·rw [e]
    exact⟨fun h=>⟨by congr 1;omega,h.2.2⟩,fun h=>⟨h1,by have:=h.1;injection this with q;omega,h.2⟩⟩
   ·rw [e];exact⟨fun h=>absurd h.1 h1,fun h=>by cases h.1⟩
  ·simp only [YY.map_get]
   rcases QdX _ (hs.get a.slot) with ⟨e,h0,h1⟩|⟨j,e,h0,h1,hj,h2⟩|⟨e,h0,h1⟩
   ·rw [e];exact⟨fun h=>absurd h0 h.1,fun⟨_,_,h,_⟩=>by cases h⟩
   ·rw [e];exact⟨fun h=>absurd h1 h.2.1,fun⟨_,_,h,_⟩=>by cases h⟩
   ·rw [e];exact⟨fun h=>⟨_,_,rfl,h.2.2⟩,fun⟨_,_,h,ho⟩=>by cases h;exact⟨h0,h1,ho⟩⟩
variable {X Y:YY ByteArray×Xo->List Int->Prop}
section
variable {X:Rn (YY ByteArray)}
theorem Qi2:∀n {s t u:YY ByteArray} {i j:List Int},X.ok s i u->(X.pow n).ok u j t->(X.pow (n+1)).ok s (i++j) t
 |0,s,t,u,i,j,h,h'=>by
  obtain⟨h1,h2⟩:=(show j=[] /\t=u from h')
  rw [h1,h2]
  exact⟨[],i,s,by simp,⟨rfl,rfl⟩,h⟩
 |n+1,s,t,u,i,j,h,h'=>by
  obtain⟨j1,j2,v,rfl,a,b⟩:=h'
  exact⟨i++j1,j2,v,by simp,Qi2 n h a,b⟩
theorem Qi4:∀n {s t u:YY ByteArray} {i j:List Int} {e:Xo},X.ok s i u->(X.pow n).bad u j t e->(X.pow (n+1)).bad s (i++j) t e
 |0,s,t,u,i,j,e,h,h'=>h'.elim
 |n+1,s,t,u,i,j,e,h,h'=>by
  rcases h' with a|⟨j1,j2,v,rfl,a,b⟩
  ·exact .inl (Qi4 n h a)
  ·exact .inr ⟨i++j1,j2,v,by simp,Qi2 n h a,b⟩
theorem QiZ:∀n {s t:YY ByteArray} {i:List Int} {e:Xo},X.bad s i t e->(X.pow (n+1)).bad s i t e
 |0,s,t,i,e,h=>.inr ⟨[],i,s,by simp,⟨rfl,rfl⟩,h⟩
 |n+1,s,t,i,e,h=>.inl (QiZ n h)
end
def QiT (input:List Int) (t:Int) (i:List Int):Prop:=∀(j:Nat) (h:j<i.length),0<=i[j] /\i[j] <=Wn input (t+j)
theorem QiT.nil {input:List Int} {t:Int}:QiT input t []:=fun j h=>by simp at h
theorem QiT.cons {input:List Int} {t n:Int} {i:List Int} (h0:0<=n) (h1:n<=Wn input t) (h:QiT input (t+1) i):QiT input t (n::i)
 |0,_=>⟨h0,by simpa using h1⟩
 |j+1,hj=>by
  have:=h j (by simpa using hj)
  rw [List.getElem_cons_succ]
  have e:t+((j+1:Nat):Int)=t+1+j:=by omega
  rw [e]
  exact this
theorem QiT.app {input:List Int} {t:Int} {i j:List Int} (h:QiT input t i) (h':QiT input (t+i.length) j):QiT input t (i++j):=by
 intro k hk
 rw [I0] at hk
 by_cases hl:k<i.length
 ·rw [Q7 hl];exact h k hl
 ·rw [List.getElem_append_right (by omega)]
  have:=h' (k-i.length) (by omega)
  have e:t+(i.length:Int)+((k-i.length:Nat):Int)=t+k:=by omega
  rw [e] at this
  exact this
def QiS (input:List Int) (X:Rn (YY ByteArray)) (s:ZV) (r:ZV×Xo):Prop:=
 QH r.1.slots/\∃i:List Int,r.1.taken=s.taken+i.length/\QiT input s.taken i/\((r.2=QJ/\X.ok (kw s.slots) i (kw r.1.slots))∨(r.2.code≠0/\X.bad (kw s.slots) i (kw r.1.slots) r.2))
theorem QiS.seq {input:List Int} {X Y:Rn (YY ByteArray)} {s:ZV} {f g:ZV->ZV×Xo} (h:QiS input X s (f s)) (h':(f s).2.code=0->QiS input Y (f s).1 (g (f s).1)):
  QiS input (X.seq Y) s (if(f s).2.code=0 then g (f s).1 else f s):=by
 obtain⟨hs,i,hi,hu,h1⟩:=h
 rcases h1 with ⟨he,h1⟩|⟨hne,h1⟩
 ·have hc:(f s).2.code=0:=by rw [he];rfl
  rw [if_pos hc]
  obtain⟨hs',j,hj,hu',h2⟩:=h' hc
  refine⟨hs',i++j,by rw [hj,hi,I0];omega,hu.app (by rw [<-hi];exact hu'),?_⟩
  rcases h2 with ⟨he2,h2⟩|⟨hne2,h2⟩
  ·exact .inl ⟨he2,i,j,_,rfl,h1,h2⟩
  ·exact .inr ⟨hne2,.inr ⟨i,j,_,rfl,h1,h2⟩⟩
 ·rw [if_neg hne]
  exact⟨hs,i,hi,hu,.inr ⟨hne,.inl h1⟩⟩
theorem QiX {input:List Int} {X:Rn (YY ByteArray)} {f:ZV->ZV×Xo} (h:∀s,QH s.slots->QiS input X s (f s)):∀(n:Nat) (s:ZV),QH s.slots->QiS input (X.pow n) s (Zo n f s)
 |0,s,hs=>⟨hs,[],by simp [Zo],QiT.nil,.inl ⟨rfl,rfl,rfl⟩⟩
 | n+1,s,hs=>by
  rw [Zo]
  obtain⟨hs1,i,hi,hu,h1⟩:=h s hs
  rcases h1 with ⟨he,h1⟩|⟨hne,h1⟩
  ·have hc:(f s).2.code=0:=by rw [he];rfl
   rw [if_pos hc]
   obtain⟨hs',j,hj,hu',h2⟩:=QiX h n (f s).1 hs1
   refine⟨hs',i++j,by rw [hj,hi,I0];omega,hu.app (by rw [<-hi];exact hu'),?_⟩
   rcases h2 with ⟨he2,h2⟩|⟨hne2,h2⟩
   ·exact .inl ⟨he2,Qi2 n h1 h2⟩
   ·exact .inr ⟨hne2,Qi4 n h1 h2⟩
  ·rw [if_neg hne]
   exact⟨hs1,i,hi,hu,.inr ⟨hne,QiZ n h1⟩⟩
theorem QiS.took {input:List Int} {X:Rn (YY ByteArray)} {s:ZV} {r:ZV×Xo} {n:Int} (h0:0<=n) (h1:n<=Wn input s.taken) (h:QiS input X ⟨s.slots,s.taken+1⟩ r):QiS input (X.took n) s r:=by
 obtain⟨hs,i,hi,hu,h2⟩:=h
 refine⟨hs,n::i,by rw [hi,I1];simp only;omega,hu.cons h0 h1,?_⟩
 rcases h2 with ⟨he,h2⟩|⟨hne,h2⟩
 ·exact .inl ⟨he,i,rfl,h2⟩
 ·exact .inr ⟨hne,i,rfl,h2⟩
mutual
theorem Qa.run_ex (input:List Int):∀(a:Qa),a.ok->∀(place:Int) (s:ZV),QH s.slots->QiS input (a.ex Qs place) s (a.run input place s)
 | .mk op slot other word call face A B,h,place,s,hs=>by
  rw [Qa.ok_iff] at h
  obtain⟨ha,hA,hB⟩:=h
  have gA:=fun(p:Int) (s:ZV) (hs:QH s.slots)=>QiV input A hA p s hs
  have gB:=fun(p:Int) (s:ZV) (hs:QH s.slots)=>QiV input B hB p s hs
  have tl:=jL input s.taken
  rw [Qa.ex_eq]
  by_cases h8:(Qa.mk op slot other word call face A B).op=8
  ·rw [if_pos h8,uS h8]
   by_cases hn:Wn input s.taken % 2=1
   ·rw [if_pos hn]
    obtain⟨h1,i,h2,h3,h4⟩:=QiS.took (n:=1) (by omega) (by omega) (gA (place+1) ⟨s.slots,s.taken+1⟩ hs)
    exact⟨h1,i,h2,h3,h4.imp (fun h=>⟨h.1,.inl h.2⟩) (fun h=>⟨h.1,.inl h.2⟩)⟩
   ·rw [if_neg hn]
    obtain⟨h1,i,h2,h3,h4⟩:=QiS.took (n:=0) (by omega) (by omega) (gB (place+1+Qd A) ⟨s.slots,s.taken+1⟩ hs)
    exact⟨h1,i,h2,h3,h4.imp (fun h=>⟨h.1,.inr h.2⟩) (fun h=>⟨h.1,.inr h.2⟩)⟩
  ·by_cases h9:(Qa.mk op slot other word call face A B).op=9
   ·rw [if_neg h8,if_pos h9,uM h9]
    have hn:((Wn input s.taken).toNat:Int)=Wn input s.taken:=by omega
    have h:=QiS.took (n:=((Wn input s.taken).toNat:Int)) (by omega) (by omega) (QiX (gA (place+1)) (Wn input s.taken).toNat ⟨s.slots,s.taken+1⟩ hs)
    obtain⟨h1,i,h2,h3,h4⟩:=h
    exact⟨h1,i,h2,h3,h4.imp (fun h=>⟨h.1,_,by omega,h.2⟩) (fun h=>⟨h.1,_,by omega,h.2⟩)⟩
   ·by_cases h10:(Qa.mk op slot other word call face A B).op=10
    ·rw [if_neg h8,if_neg h9,if_pos h10,qF h10]
     obtain⟨h1,i,h2,h3,h4⟩:=gA (place+1) s hs
     have hA':(Qa.mk op slot other word call face A B).A=A:=rfl
     have hB':(Qa.mk op slot other word call face A B).B=B:=rfl
     rw [hA',hB']
     by_cases hc:(QM input A (place+1) s).2.code=1
     ·rw [if_pos hc]
      have h5:(Vn Qs A (place+1)).bad (kw s.slots) i (kw (QM input A (place+1) s).1.slots) (QM input A (place+1) s).2:=by
       rcases h4 with ⟨he,_⟩|⟨_,h5⟩
       ·rw [he] at hc;cases hc
       ·exact h5
      obtain⟨k1,j,k2,k3,k4⟩:=gB (place+1+Qd A) (QM input A (place+1) s).1 h1
      refine⟨k1,i++j,by rw [k2,h2,I0];omega,h3.app (by rw [<-h2];exact k3),?_⟩
      rcases k4 with ⟨he,k4⟩|⟨hne,k4⟩
      ·exact .inl ⟨he,.inr ⟨i,j,_,_,rfl,h5,hc,k4⟩⟩
      ·exact .inr ⟨hne,.inr ⟨i,j,_,_,rfl,h5,hc,k4⟩⟩
     ·rw [if_neg hc]
      refine⟨h1,i,h2,h3,?_⟩
      rcases h4 with ⟨he,h4⟩|⟨hne,h4⟩
      ·exact .inl ⟨he,.inl h4⟩
      ·exact .inr ⟨hne,.inl ⟨h4,hc⟩⟩
    ·rw [if_neg h8,if_neg h9,if_neg h10,GM h8 h9 h10]
     have h1:=QcE _ ha place h8 h9 h10 s hs
     refine⟨zO ha hs,[],by rw [yM];simp,QiT.nil,?_⟩
     by_cases hc:(ZF (Qa.mk op slot other word call face A B) place s).2.code=0
     ·have he:=Gj _ place s hc
      exact .inl ⟨he,rfl,by rw [h1,he]⟩
     ·exact .inr ⟨hc,rfl,h1,fun e=>hc (by rw [e];rfl)⟩
theorem QiV (input:List Int):∀(l:List Qa),Jm l->∀(place:Int) (s:ZV),QH s.slots->QiS input (Vn Qs l place) s (QM input l place s)
 | [],_,place,s,hs=>⟨hs,[],by simp [QM],QiT.nil,.inl ⟨rfl,rfl,rfl⟩⟩
 |a::l,h,place,s,hs=>by
  rw [Wh] at h
  rw [Vn,QM]
  have h1:=Qa.run_ex input a (h a K0) place s hs
  exact QiS.seq (f:=fun s=>a.run input place s) (g:=fun s=>QM input l (place+a.size) s) h1 (fun _=>QiV input l ((Wh l).2 (fun b hb=>h b (I5 _ hb))) (place+a.size) _ h1.1)
end
theorem Qi5 {l:List Ql} {p:List Qa} {input:List Int} (hl:QH l) (hp:Xn p):∃i:List Int,(uj l p input).2.2=i.length/\QiT input 0 i/\QH (uj l p input).2.1/\
  (((uj l p input).1=QJ/\(Vn Qs p 0).ok (kw l) i (kw (uj l p input).2.1))∨((uj l p input).1.code≠0/\(Vn Qs p 0).bad (kw l) i (kw (uj l p input).2.1) (uj l p input).1)):=by
 rw [jy hl hp]
 obtain⟨h1,i,h2,h3,h4⟩:=QiV input p hp.2.2 0 ⟨l,0⟩ hl
 exact⟨i,h2.trans (Int.zero_add _),h3,h1,h4⟩
section
variable {P:Program} {ops:Array Oper} {Q:Exit->Act->World->Prop}
def Qiy (ops:List Oper) (r:List Nat):Bool:=ops.all fun o=>match o.dst with
 |none=>true
 |some s=>r.contains s
def Qiz (P:Program) (ops:Array Oper) (Q:Exit->Act->World->Prop) (l:List Value) (r:List Nat) (b:Act) (J:(Nat->Bool)->(Nat->Value)->World->Prop) (i:Nat) (o:Oper):Prop:=
 ∀d v w,d i=false->(∀e∈o.after,Region.binds .any e=true->d e.on=true)->J d v w->
  ∀K':Act->World->Prop,Hid (∀x w',J (fun j=>j==i || d j) (KI o.dst x v) w'->K' (Act.put ⟨(Xq l v r).toArray,b.defers⟩ o.dst x) w')->
   if Region.wanted o (yielded ops (Xq l v r).toArray)=true then Oper.wp P o ⟨(Xq l v r).toArray,b.defers⟩ w K' Q else K' (Act.put ⟨(Xq l v r).toArray,b.defers⟩ o.dst undef) w
theorem Qiw {id:Nat} {l:List Value} {b:Act} {w:World} (r:List Nat) (J:(Nat->Bool)->(Nat->Value)->World->Prop) (hm:P.follows .mixedOrders=true)
  (hu:Xq l (fun s=>l.getD s undef) r=l) (hd:Qiy ops.toList r=true) (hl:kT ops=true)
  (h0:J (fun j=>decide (ops.size<=j)) (fun s=>l.getD s undef) w.drew)
  (step:QbO (Qiz P ops Q l r b J) 0 ops.toList)
  (fin:∀v w,J (fun _=>true) v w->Q .normal ⟨(Xq l v r).toArray,b.defers⟩ w):(Code.region id ops true).wp P Q ⟨l.toArray,b.defers⟩ w:=by
 refine wp_region_any hm (Qgo (Inv:=fun d a w=>∃v,a=⟨(Xq l v r).toArray,b.defers⟩/\J d v w) hl (fun i o hi d a w hdi hpre hI K' hK=>?_) (fun a w hI=>?_) ops.size _ _ _ (by simp) (by simp) ⟨fun s=>l.getD s undef,by rw [hu],?_⟩)
 ·obtain⟨v,rfl,hJ⟩:=hI
  have hst:=kt ops.toList 0 i o step (by simpa using hi)
  rw [J3] at hst
  have hin:∀s,o.dst=some s->s∈r:=fun s hs=>by
   have h1:=g7.1 hd o (by rw [<-T6] at hi;exact U0 hi)
   rw [hs] at h1
   simpa using h1
  exact hst d v w hdi hpre hJ K' (Qb fun x w' hx=>hK.out _ _ ⟨_,QfJ (defs:=b) hin,hx⟩)
 ·obtain⟨v,rfl,hJ⟩:=hI
  exact fin v w hJ
 ·have:(fun j=>(Array.replicate ops.size false).getD j true)=fun j=>decide (ops.size<=j):=funext fun j=>by
   by_cases h:j<ops.size
   ·simp [Array.getD,h]
   ·simp [Array.getD,h,show ops.size<=j by omega]
  rw [this]
  exact h0
end
end Go.Proofs.YtjeadhmkghnkkaaGreatDoor

set_option maxRecDepth 100000
set_option maxHeartbeats 16000000
namespace Go.Proofs.YtjeadhmkghnkkaaGreatDoor
open Go.RowKit

theorem QhC (k:Nat) (w:World) (hcur:WN w k):
  Calls Tryz.prog 56 #[.pointer (some ⟨k,0,none⟩)] w (Qgz k 26000 true w):=by
 have hk:=hcur.lt
 have LS:Hid (∀W,WN W k->Calls Tryz.prog 61 #[.pointer (some ⟨k,0,none⟩),.int .i64 5,.int .i64 2,.bool true] W (QeI k 21000 5 true W)):=Qb (fun W hc=>Qbb k true 2 5 W hc (by omega) (by omega) (by omega))
 have hT:Hid (∀x∈ [k],x<w.heap.size):=Qb (by simpa using hk)
 go_enter Tryz.func56,Tryz.ntmps56
 go_wp2_with fail
 refine(LS.out _ hcur).mono ?_
 rintro e w5 ⟨m,Am,cm,rfl,hm,hm1,hm6,hWm,hPm,q5⟩
 have HM:=Qb hm
 clear hm
 go_wp2_with fail
 go_loopw [3] (fun v wr=>∃(l:List Qa) (A:Option Addr) (cap:Nat),v= .slice A l.length cap/\Hid (W0 [k] w wr 33 11 (.slice A l.length cap) l.length (l.flatMap QO))/\Hid (Qi l<=26000)/\Hid (true=true->zR 10 3 l)/\l.length<=100/\WN wr k) (fun v _=>match v with| .slice _ n _=>n|_=>0)
 case atStart=>exact⟨m,Am,cm,rfl,HM,Qb (by omega),Qb (fun _=>by first|exact hPm trivial|exact hPm rfl),by omega,q5⟩
 case round=>
  obtain⟨l,A,cap,rfl,hA,hW,hP,hl,hq⟩:=hrel
  have IP:=Qb (JK l _ _ wr (G5 hW.out (by decide)) hA.out.new.rd (F0 _))
  obtain⟨r0,r1,r2⟩:=hA.out.row
  unfold maxLen at r1
  go_wp2_with fail
  refine IP.out.mono ?_
  rintro e w9 ⟨t,rfl,ht,c9⟩
  have hA9:=Qb (hA.out.later (c9.mono (by simp)) hT.out)
  have q9:=hq.kz c9
  have HT:=Qb ht
  clear IP hA hq c9 ht
  cases t
  ·have hnp:¬Xn l:=fun h=>by have:=HT.out.2 h;cases this
   cases hl2:l with
   |nil=>exact absurd (hl2 ▸ vw) hnp
   |cons a l2=>
    obtain⟨g,rfl,hg⟩:=r2 (by rw [hl2];simp)
    have hlen:l.length=l2.length+1:=by rw [hl2];rfl
    have wl:IntKind.i64.wrap (((l2.length+1:Nat):Int) -1)=(l2.length:Int):=by rw [Zd (by omega) (by omega)];omega
    have hsh:=Qb (hA9.out.shrink (m:=l2.length) (by omega))
    rw [Jo Yg] at hsh
    have htl:Hid ((l.take l2.length).length=l2.length):=Qb (by rw [J7,hlen];omega)
    have HN:=Qb hlen
    clear HT hnp r2
    subst hl2
    rw [I1] at r0 hl
    go_wp2_with fail
    go_roundw
    case rel=>exact⟨(a::l2).take l2.length,_,cap,by rw [htl.out],by rw [htl.out];exact hsh,Qb (G5 (qo _ _) hW.out),Qb (fun _=>Qah _ (by first|exact hP.out trivial|exact hP.out rfl)),by rw [htl.out];omega,q9⟩
    case measure=>simp
  ·go_wp2_with fail
   go_ret
   exact⟨l,A,cap,rfl,hA9.out,(by have:=HT.out;simpa using this),hW.out,(fun _=>by first|exact hP.out trivial|exact hP.out rfl),q9⟩
end Go.Proofs.YtjeadhmkghnkkaaGreatDoor
set_option maxRecDepth 100000
set_option maxHeartbeats 4000000
namespace Go.Proofs.YtjeadhmkghnkkaaGreatDoor
open Go.RowKit

def QiK (l:List Qa):Prop:=Xn l/\zR 10 3 l
def QiL (p q:Int) (l:List Qa):Prop:=∀(u:Value) (B:Nat) (w:World),Rd w B (QA l) u->B<=w.heap.size->
 Calls Tryz.prog 81 #[u,.int .i64 p,.int .i64 q] w (Qg (zR p q l) w)
theorem QiI (p q:Int):∀l,QiL p q l:=by
 refine j4 fun l ih=>?_
 intro u B w hr hB
 obtain⟨A,cap,rfl,h0,h1,hrow⟩:=Qr hr
 unfold maxLen at h1
 have IH:=Qb ih
 have HO:=Qb (kF p q l)
 clear ih hr
 go_enter Tryz.func81,Tryz.ntmps81
 go_wp2_with fail
 go_loopw [11] (fun i wr=>∃k:Nat,k<=l.length/\i= .int .i64 k/\Hid (∀(j:Nat) (h:j<l.length),j<k->l[j].no p q)/\Qc [] w wr) (fun i _=>l.length-(intOf i).toNat)
 case atStart=>exact⟨0,I3 _,rfl,fun j h h0=>absurd h0 (M4 _),B0 _ _⟩
 case round=>
  obtain⟨k,hk,rfl,HN,hc⟩:=hrel
  by_cases hlt:k<l.length
  ·obtain⟨b,off,uA,uB,rfl,hb,q0,q1,q2,q3,q4,q5,q6,q7,q8,q9,q10,rA,rB⟩:=Yh (hrow.cz hc hB) k hlt
   obtain⟨A1,cap1,rfl,_,_,_⟩:=Qr rA
   obtain⟨A2,cap2,rfl,_,_,_⟩:=Qr rB
   have hmem:=I4 hlt
   have hcs:=hc.size
   have HOK:=Qb (l[k].no_iff p q)
   have IA:=Qb (fun W (hW:Qc [] wr W)=>(IH.out _ hmem).1 _ B W (rA.cz hW (by omega)) (by have:=hW.size;omega))
   have IB:=Qb (fun W (hW:Qc [] wr W)=>(IH.out _ hmem).2 _ B W (rB.cz hW (by omega)) (by have:=hW.size;omega))
   cases e1:(l[k].op==p)
   ·cases e2:(l[k].op==q)
    ·have E1:=Qb (beq_eq_false_iff_ne.1 e1)
     have E2:=Qb (beq_eq_false_iff_ne.1 e2)
     go_wp2_with fail
     refine(IA.out _ ((B0 _ _).alloc _)).mono ?_
     rintro e w2 ⟨t,rfl,ht,c2⟩
     have f10:w2.cell? ⟨wr.heap.size,10,none⟩=some (.slice A2 l[k].B.length cap2):=(c2.cell (p:=⟨wr.heap.size,10,none⟩) (by simp) (by simp)).trans (by go_simp)
     have HT2:=Qb ht
     have d2:Qc [] wr w2:=((B0 _ _).alloc _).tz c2
     clear ht c2
     cases t
     ·go_wp2_with fail
      go_ret
      exact Qg.of ⟨fun h=>by simp at h,fun h=>by have:=HT2.out.2 (HOK.out.1 (HO.out.1 h _ hmem)).2.1;simp at this⟩ (hc.tz d2)
     ·go_wp2_with fail
      refine(IB.out _ d2).mono ?_
      rintro e w3 ⟨t,rfl,ht,c3⟩
      have HT3:=Qb ht
      have d3:Qc [] wr w3:=d2.tz c3
      clear ht c3
      cases t
      ·go_wp2_with fail
       go_ret
       exact Qg.of ⟨fun h=>by simp at h,fun h=>by have:=HT3.out.2 (HOK.out.1 (HO.out.1 h _ hmem)).2.2;simp at this⟩ (hc.tz d3)
      ·go_wp2_with fail
       go_roundw
       case rel=>exact⟨k+1,by omega,by go_num,Qb (fun j h hj=>(I7.1 hj).elim (HN.out j h) (fun e=>by subst e;exact HOK.out.2 ⟨⟨E1.out,E2.out⟩,HT2.out.1 (by simp),HT3.out.1 (by simp)⟩)),hc.tz d3⟩
       case measure=>simp [intOf];omega
    ·have E2:=Qb (beq_iff_eq.1 e2)
     go_wp2_with fail
     go_ret
     exact Qg.of ⟨fun h=>by simp at h,fun h=>absurd E2.out (HOK.out.1 (HO.out.1 h _ hmem)).1.2⟩ (hc.tz ((B0 _ _).alloc _))
   ·have E1:=Qb (beq_iff_eq.1 e1)
    go_wp2_with fail
    go_ret
    exact Qg.of ⟨fun h=>by simp at h,fun h=>absurd E1.out (HOK.out.1 (HO.out.1 h _ hmem)).1.1⟩ (hc.tz ((B0 _ _).alloc _))
  ·obtain rfl:k=l.length:=by omega
   go_wp2_with fail
   go_ret
   refine Qg.of ⟨fun _=>HO.out.2 fun a ha=>?_,fun _=>rfl⟩ hc
   obtain⟨j,hj,rfl⟩:=M0 ha
   exact HN.out j hj hj
theorem QiF (l:List Qa) (u:Value) (B:Nat) (w:World) (hE:KP w) (hW:Qi l<=1048576) (hr:Rd w B (QA l) u) (hB:B<=w.heap.size):
  Calls Tryz.prog 52 #[u] w (Qg (QiK l) w):=by
 have PP:=Qb (Yv l u B w hE hW hr hB)
 have WO:=Qb (fun W (hc:Qc [] w W)=>QiI 10 3 l u B W (hr.cz hc hB) (G5 hB hc.size))
 obtain⟨A,cap,rfl,_,_,_⟩:=Qr hr
 clear hr
 go_enter Tryz.func52,Tryz.ntmps52
 go_wp2_with fail
 refine PP.out.mono ?_
 rintro e w1 ⟨t,rfl,ht,c1⟩
 have HT:=Qb ht
 clear ht
 cases t
 ·go_wp2_with fail
  go_ret
  exact Qg.of ⟨fun h=>by simp at h,fun h=>by have:=HT.out.2 h.1;simp at this⟩ c1
 ·go_wp2_with fail
  refine(WO.out _ c1).mono ?_
  rintro e w2 ⟨t,rfl,ht,c2⟩
  have HT2:=Qb ht
  clear ht
  go_wp2_with fail
  go_ret
  exact Qg.of ⟨fun h=>⟨HT.out.1 (by simp),HT2.out.1 h⟩,fun h=>HT2.out.2 h.2⟩ (c1.tz c2)
end Go.Proofs.YtjeadhmkghnkkaaGreatDoor
