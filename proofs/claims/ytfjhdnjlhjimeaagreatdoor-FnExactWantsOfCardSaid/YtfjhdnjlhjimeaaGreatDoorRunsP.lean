/- Plain Lean. Conditions: as stated. -/
import Derived.Test.YtfjhdnjlhjimeaaGreatDoorPlains
import Derived.Test.YtfjhdnjlhjimeaaGreatDoorMakes
namespace Go.Proofs.YtfjhdnjlhjimeaaGreatDoor
open Go.RowKit

theorem ki:∀l:List Int,W7 l l=0
 | []=>rfl
 |a::l=>by rw [W7,if_neg (by omega),if_neg (by omega)];exact ki l
theorem uJ:∀ {l m:List Int},l.length=m.length->W7 l m=0->l=m
 | [],[],_,_=>rfl
 | a::l,b::m,h,e=>by
  rw [W7] at e
  split at e
  ·omega
  ·split at e
   ·omega
   ·have hab:a=b:=by omega
    rw [hab,uJ (by simpa using h) e]
theorem ke:∀ {l m:List Int},l.length=m.length->(W7 l m<=0↔0<=W7 m l)
 | [],[],_=>by simp [W7]
 | a::l,b::m,h=>by
  rw [W7,W7]
  by_cases h1:a<b
  ·rw [if_pos h1,if_neg (by omega),if_pos h1];omega
  ·by_cases h2:b<a
   ·rw [if_neg h1,if_pos h2,if_pos h2];omega
   ·rw [if_neg h1,if_neg h2,if_neg h2,if_neg h1];exact ke (by simpa using h)
theorem wC:∀ {l m n:List Int},l.length=m.length->m.length=n.length->W7 l m<=0->W7 m n<=0->W7 l n<=0
 | [],[],[],_,_,_,_=>by simp [W7]
 | a::l,b::m,c::n,h,h',e,e'=>by
  rw [W7] at e e' ⊢
  by_cases h1:a<c
  ·rw [if_pos h1];omega
  ·rw [if_neg h1]
   split at e
   ·split at e'
    ·omega
    ·split at e'
     ·omega
     ·omega
   ·split at e
    ·omega
    ·split at e'
     ·omega
     ·split at e'
      ·omega
      ·rw [if_neg (by omega)]
       exact wC (by simpa using h) (by simpa using h') e e'
theorem Vx (l:List Int):Wy l l=0:=by unfold Wy;rw [if_neg (by omega),if_neg (by omega),ki]
theorem Qdx {l m:List Int} (h:Wy l m=0):l=m:=by
 unfold Wy at h
 split at h
 ·omega
 ·split at h
  ·omega
  ·exact uJ (by omega) h
theorem yr (l m:List Int):Wy l m<=0↔0<=Wy m l:=by
 unfold Wy
 by_cases h1:l.length<m.length
 ·rw [if_pos h1,if_neg (by omega),if_pos h1];omega
 ·by_cases h2:m.length<l.length
  ·rw [if_neg h1,if_pos h2,if_pos h2];omega
  ·rw [if_neg h1,if_neg h2,if_neg h2,if_neg h1];exact ke (by omega)
theorem Jg {l m n:List Int} (h:Wy l m<=0) (h':Wy m n<=0):Wy l n<=0:=by
 unfold Wy at h h' ⊢
 by_cases h1:l.length<n.length
 ·rw [if_pos h1];omega
 ·rw [if_neg h1]
  split at h
  ·split at h'
   ·omega
   ·split at h'<;>omega
  ·split at h
   ·omega
   ·split at h'
    ·omega
    ·split at h'
     ·omega
     ·rw [if_neg (by omega)]
      exact wC (by omega) (by omega) h h'
theorem Qdf {l m:List Int} (h:Wy l m<=0) (h':Wy m l<=0):l=m:=Qdx (by have:=(yr m l).1 h';omega)
theorem xf:∀ {l l':List Int} (m m':List Int),l.length=l'.length->W7 (l++m) (l'++m')=if W7 l l'=0 then W7 m m' else W7 l l'
 | [],[],m,m',_=>by simp [W7]
 | a::l,b::l',m,m',h=>by
  rw [M2,M2,W7,W7]
  by_cases h1:a<b
  ·rw [if_pos h1,if_pos h1];rfl
  ·by_cases h2:b<a
   ·rw [if_neg h1,if_pos h2,if_neg h1,if_pos h2];rfl
   ·rw [if_neg h1,if_neg h2,if_neg h1,if_neg h2]
    exact xf m m' (by simpa using h)
theorem uO {l l' m m':List Int} (h:Wy l l'<=0) (h':Wy m m'<=0):Wy (l++m) (l'++m')<=0:=by
 unfold Wy at h h' ⊢
 rw [I0,I0]
 by_cases h1:l.length+m.length<l'.length+m'.length
 ·rw [if_pos h1];omega
 ·rw [if_neg h1]
  split at h
  ·split at h'<;>(try split at h')<;>omega
  ·split at h
   ·omega
   ·split at h'
    ·omega
    ·split at h'
     ·omega
     ·rw [if_neg (by omega),xf _ _ (by omega)]
      split<;>omega

def XC (X:List Int->Prop) (i:List Int):Prop:=X i/\∀j,X j->Wy i j<=0
theorem XC.one {X:List Int->Prop} {i j:List Int} (h:XC X i) (h':XC X j):i=j:=Qdf (h.2 _ h'.1) (h'.2 _ h.1)
section
variable {κ:Type} {E E':List (κ×List Int)} {X Y:κ->List Int->Prop}
structure Qeb (E:List (κ×List Int)) (X:κ->List Int->Prop):Prop where
 least:∀ {k i},(k,i)∈E->XC (X k) i
 all:∀ {k i},X k i->∃j,(k,j)∈E
theorem Qeb.one {k0:κ} {i0:List Int}:Qeb [(k0,i0)] (fun k i=>k=k0/\i=i0):=
 ⟨fun h=>by
  obtain⟨rfl,rfl⟩:=U8 (E0.1 h)
  exact⟨⟨rfl,rfl⟩,fun j hj=>by rw [hj.2,Vx];omega⟩,fun h=>⟨i0,by rw [h.1];exact E0.2 rfl⟩⟩
end
structure Rn (σ:Type) where
 ok:σ->List Int->σ->Prop
 bad:σ->List Int->σ->Xo->Prop
section
variable {σ τ:Type}
def Rn.skip:Rn σ:=⟨fun s i t=>i=[] /\t=s,fun _ _ _ _=>False⟩
def Rn.seq (X Y:Rn σ):Rn σ:=⟨fun s i t=>∃i1 i2 u,i=i1++i2/\X.ok s i1 u/\Y.ok u i2 t,fun s i t e=>X.bad s i t e∨∃i1 i2 u,i=i1++i2/\X.ok s i1 u/\Y.bad u i2 t e⟩
def Rn.alt (X Y:Rn σ):Rn σ:=⟨fun s i t=>X.ok s i t∨Y.ok s i t,fun s i t e=>X.bad s i t e∨Y.bad s i t e⟩
def Rn.took (n:Int) (X:Rn σ):Rn σ:=⟨fun s i t=>∃j,i=n::j/\X.ok s j t,fun s i t e=>∃j,i=n::j/\X.bad s j t e⟩
def Rn.pow (X:Rn σ):Nat->Rn σ
 |0=>Rn.skip
 |n+1=>Rn.seq (Rn.pow X n) X
def Rn.loop (X:Rn σ):Rn σ:=⟨fun s i t=>∃n:Nat,n<=3/\((X.pow n).took n).ok s i t,fun s i t e=>∃n:Nat,n<=3/\((X.pow n).took n).bad s i t e⟩
def Rn.tried (X Y:Rn σ):Rn σ:=⟨fun s i t=>X.ok s i t∨∃i1 i2 u e,i=i1++i2/\X.bad s i1 u e/\e.code=1/\Y.ok u i2 t,
 fun s i t e=>(X.bad s i t e/\e.code≠1)∨∃i1 i2 u e',i=i1++i2/\X.bad s i1 u e'/\e'.code=1/\Y.bad u i2 t e⟩
mutual
def Qa.ex (f:Qa->Int->Rn σ):Qa->Int->Rn σ
 | .mk op slot other word call face A B,p=>
  if op=8 then Rn.alt ((Vn f A (p+1)).took 1) ((Vn f B (p+1+Qd A)).took 0)
  else if op=9 then(Vn f A (p+1)).loop
  else if op=10 then(Vn f A (p+1)).tried (Vn f B (p+1+Qd A))
  else f (.mk op slot other word call face A B) p
def Vn (f:Qa->Int->Rn σ):List Qa->Int->Rn σ
 | [],_=>Rn.skip
 |a::l,p=>(a.ex f p).seq (Vn f l (p+a.size))
end
theorem Qa.ex_eq (f:Qa->Int->Rn σ) (a:Qa) (p:Int):a.ex f p=
  if a.op=8 then Rn.alt ((Vn f a.A (p+1)).took 1) ((Vn f a.B (p+1+Qd a.A)).took 0)
  else if a.op=9 then(Vn f a.A (p+1)).loop
  else if a.op=10 then(Vn f a.A (p+1)).tried (Vn f a.B (p+1+Qd a.A))
  else f a p:=by
 cases a;rw [Qa.ex];rfl
variable {F:σ->List Int->Prop} {X Y:Rn σ}
end
def ZI (s:Ql):ByteArray:=if s.full then Zx (QP s.part) ⟨#[32]⟩ else⟨#[]⟩
def YM (l:List Ql):List ByteArray:=l.map ZI
structure W3 (σ:Type) where
 reach:σ->σ->Prop
 ask:σ->Nat->Int->Prop
 fail:σ->Prop
mutual
def Qa.AllA (G:Qa->Prop):Qa->Prop
 | .mk op slot other word call face A B=>G (.mk op slot other word call face A B)/\QgK G A/\QgK G B
def QgK (G:Qa->Prop):List Qa->Prop
 | []=>True
 |a::l=>a.AllA G/\QgK G l
end
section
variable {σ τ:Type}
def W3.skip:W3 σ:=⟨fun s t=>t=s,fun _ _ _=>False,fun _=>False⟩
def W3.seq (X Y:W3 σ):W3 σ:=⟨fun s t=>∃u,X.reach s u/\Y.reach u t,fun s i w=>X.ask s i w∨∃u,X.reach s u/\Y.ask u i w,fun s=>X.fail s∨∃u,X.reach s u/\Y.fail u⟩
def W3.pow (X:W3 σ):Nat->W3 σ
 |0=>W3.skip
 |n+1=>W3.seq (W3.pow X n) X
structure Sim (I:σ->Prop) (α:σ->τ) (X:W3 σ) (Y:W3 τ):Prop where
 keep:∀ {s t},I s->X.reach s t->I t
 fwd:∀ {s t},I s->X.reach s t->Y.reach (α s) (α t)
 back:∀ {s t'},I s->Y.reach (α s) t'->∃t,X.reach s t/\α t=t'
 ask:∀ {s i w},I s->(X.ask s i w↔Y.ask (α s) i w)
 fail:∀ {s},I s->(X.fail s↔Y.fail (α s))
variable {I:σ->Prop} {α:σ->τ} {X X':W3 σ} {Y Y':W3 τ}
theorem Sim.skip:Sim I α W3.skip W3.skip where
 keep hs h:=by have:_=_:=h;rwa [this]
 fwd _ h:=by have:_=_:=h;rw [this];rfl
 back _ h:=by have:_=_:=h;exact⟨_,rfl,this.symm⟩
 ask _:=i7
 fail _:=i7
theorem Sim.seq (h:Sim I α X Y) (h':Sim I α X' Y'):Sim I α (W3.seq X X') (W3.seq Y Y') where
 keep hs h1:=by obtain⟨u,a,b⟩:=h1;exact h'.keep (h.keep hs a) b
 fwd hs h1:=by obtain⟨u,a,b⟩:=h1;exact⟨α u,h.fwd hs a,h'.fwd (h.keep hs a) b⟩
 back hs h1:=by
  obtain⟨u',a,b⟩:=h1
  obtain⟨u,a1,rfl⟩:=h.back hs a
  obtain⟨t,b1,rfl⟩:=h'.back (h.keep hs a1) b
  exact⟨t,⟨u,a1,b1⟩,rfl⟩
 ask hs:=by
  constructor
  ·rintro(h1|⟨u,a,b⟩)
   ·exact .inl ((h.ask hs).1 h1)
   ·exact .inr ⟨α u,h.fwd hs a,(h'.ask (h.keep hs a)).1 b⟩
  ·rintro(h1|⟨u',a,b⟩)
   ·exact .inl ((h.ask hs).2 h1)
   ·obtain⟨u,a1,rfl⟩:=h.back hs a
    exact .inr ⟨u,a1,(h'.ask (h.keep hs a1)).2 b⟩
 fail hs:=by
  constructor
  ·rintro(h1|⟨u,a,b⟩)
   ·exact .inl ((h.fail hs).1 h1)
   ·exact .inr ⟨α u,h.fwd hs a,(h'.fail (h.keep hs a)).1 b⟩
  ·rintro(h1|⟨u',a,b⟩)
   ·exact .inl ((h.fail hs).2 h1)
   ·obtain⟨u,a1,rfl⟩:=h.back hs a
    exact .inr ⟨u,a1,(h'.fail (h.keep hs a1)).2 b⟩
theorem Sim.pow (h:Sim I α X Y):∀n,Sim I α (X.pow n) (Y.pow n)
 |0=>Sim.skip
 |n+1=>(Sim.pow h n).seq h
end
structure YY (α:Type) where
 a:α
 b:α
 c:α
section
variable {α β:Type}
def YY.get (t:YY α) (i:Int):α:=if i=0 then t.a else if i=1 then t.b else t.c
def YY.set (t:YY α) (i:Int) (x:α):YY α:=if i=0 then⟨x,t.b,t.c⟩ else if i=1 then⟨t.a,x,t.c⟩ else⟨t.a,t.b,x⟩
def YY.map (f:α->β) (t:YY α):YY β:=⟨f t.a,f t.b,f t.c⟩
def YY.All (P:α->Prop) (t:YY α):Prop:=P t.a/\P t.b/\P t.c
theorem YY.map_get (f:α->β) (t:YY α) (i:Int):(t.map f).get i=f (t.get i):=by unfold YY.get YY.map;split<;>(try split)<;>rfl
theorem YY.set_get (t:YY α) (i:Int):t.set i (t.get i)=t:=by unfold YY.set YY.get;split<;>(try split)<;>rfl
theorem YY.All.get {P:α->Prop} {t:YY α} (h:t.All P) (i:Int):P (t.get i):=by unfold YY.get;split;exact h.1;split;exact h.2.1;exact h.2.2
end

inductive Kn where
 |no
 |giv (i:Nat)
 |known (layers:Nat) (face:Int)
structure Qhq where
 given:Nat
 shape:ByteArray
def QgF (s:ByteArray):Nat:=s.data.toList.count 32
def xG:ByteArray:=⟨#[32]⟩

def KV (a:Qa):Int:=if a.op=6 then a.face else if a.op=7 then ZR a.call.method else((Qj a.word).getD (0,0)).1
theorem UZ {α:Type} {s:List UInt8}:∀ {l:List (List UInt8×α)} {x:α},look s l=some x->(s,x)∈l
 | [],_,h=>by cases h
 | (n,y)::r,x,h=>by
  rw [look] at h
  by_cases e:s=n
  ·rw [if_pos e] at h
   cases h
   rw [e]
   exact K0
  ·rw [if_neg e] at h
   exact I5 _ (UZ h)
theorem Vl (s:ByteArray):s.toList=s.data.toList:=ByteArray.toList_eq s
theorem QdI {s:ByteArray} (h:Qo s≠none):s.size≠0/\QgF s=0:=by
 obtain⟨x,hx⟩:=O6.1 h
 have hm:=UZ hx
 rw [Vl] at hm
 have hall:∀p∈kinds,p.1.length≠0/\p.1.count 32=0:=by decide
 have h1:=hall _ hm
 exact⟨by rw [<-Zl];exact h1.1,h1.2⟩
theorem QbG {s:ByteArray} (h:Qj s≠none):s.size≠0/\(32:UInt8)∉s.data.toList:=by
 obtain⟨x,hx⟩:=O6.1 h
 have hm:=UZ hx
 rw [Vl] at hm
 have hall:∀p∈Yk,p.1.length≠0/\p.1.count 32=0:=by decide
 have h1:=hall _ hm
 exact⟨by rw [<-Zl];exact h1.1,List.count_eq_zero.1 h1.2⟩
theorem Qdo (s w:ByteArray):(s++(xG++w)).data.toList=s.data.toList++32::w.data.toList:=by
 simp [ByteArray.data_append,xG]
/-! ### texts of words -/
theorem jr (c:UInt8):∀(l cur:List UInt8),Lib.join (Zw c cur l) [c]=cur++l
 | [],cur=>by rw [Zw];simp [Lib.join_one]
 | b::l,cur=>by
  rw [Zw]
  by_cases h:b=c
  ·rw [if_pos h,Lib.join_cons]
   have ih:=jr c l []
   have hne:Zw c [] l≠ []:=fun e=>by have:=x6 c l [];rw [e] at this;simp at this
   obtain⟨x,r,e⟩:=List.exists_cons_of_ne_nil hne
   rw [e] at ih ⊢
   rw [Lib.join_cons] at ih
   have e2:Lib.joinTail [c] (x::r)=c::(x++Lib.joinTail [c] r):=by simp [Lib.joinTail]
   rw [e2,ih,h]
   simp
  ·rw [if_neg h,jr c l (cur++ [b])]
   simp
theorem Qbh (s:ByteArray):Zx (QG 32 s) xG=s:=by
 unfold Zx bl QG xG
 rw [List.map_map,show((fun x:ByteArray=>x.data.toList) ∘ Uz)=id from funext fun l=>by simp [Uz],List.map_id]
 have:=jr 32 s.data.toList []
 show(⟨(Lib.join (Zw 32 [] s.data.toList) [32]).toArray⟩:ByteArray)=s
 rw [this]
 simp
theorem Qet (c:UInt8):∀(x l cur:List UInt8),c∉x->Zw c cur (x++c::l)=(cur++x)::Zw c [] l
 | [],l,cur,_=>by rw [J9,Zw,if_pos rfl];simp
 |b::x,l,cur,h=>by
  rw [M2,Zw,if_neg (fun e=>h (by rw [e];exact K0)),Qet c x l (cur++ [b]) (fun hx=>h (I5 _ hx))]
  simp
theorem wu:∀(x:ByteArray) (r:List ByteArray),(∀y∈x::r,(32:UInt8)∉y.data.toList)->QG 32 (Zx (x::r) xG)=x::r
 |x,[],h=>by
  rw [KR]
  exact yF (h x K0)
 | x,y::r,h=>by
  have ih:=wu y r (fun z hz=>h z (I5 _ hz))
  have e1:(Zx (x::y::r) xG).data.toList=x.data.toList++32::(Zx (y::r) xG).data.toList:=by
   unfold Zx bl
   simp only [I9]
   rw [Lib.join_cons,Lib.join_cons]
   simp [Lib.joinTail,xG]
  unfold QG at ih ⊢
  rw [e1,Qet 32 _ _ _ (h x K0)]
  simp only [I9,J9]
  rw [ih]
  rfl
theorem Qaa (s:ByteArray):QG 32 s≠ []:=fun e=>by have:=(qz 32 s).1;rw [e] at this;simp at this

/-! ### parts made from recipes -/
theorem zb (p:Qe) (hp:Qn p) (n:ByteArray) (x:Int×Int) (hx:Qj n=some x):
  (3<=p.layers.length/\QY p n=(p,Qf 5 0 0 0))∨(¬3<=p.layers.length/\¬ZL (Qq p p.layers.length) x.1/\QY p n=(p,Qf 1 0 x.1 (Qq p p.layers.length)))∨
  (¬3<=p.layers.length/\ZL (Qq p p.layers.length) x.1/\QY p n=(⟨p.core,p.layers++ [⟨n,0⟩]⟩,Qf 0 x.2 0 0)):=by
 by_cases h:3<=p.layers.length
 ·exact .inl ⟨h,WG hx hp h⟩
 ·by_cases ho:ZL (Qq p p.layers.length) x.1
  ·exact .inr (.inr ⟨h,ho,Vw hx hp h ho⟩)
  ·exact .inr (.inl ⟨h,ho,VM hx hp h ho⟩)
theorem Qby (p:Qe) (y:ZZ):Qq ⟨p.core,p.layers++ [y]⟩ (p.layers.length+1)=((Qj y.name).getD (0,0)).2:=by
 rw [Wb _ _ (by omega) (by simp)]
 simp
theorem wX (p:Qe) (y:ZZ) (k:Nat) (hk:k<=p.layers.length):Qq ⟨p.core,p.layers++ [y]⟩ k=Qq p k:=by
 rcases Nat.eq_zero_or_pos k with rfl|h0
 ·rfl
 ·rw [Wb _ k h0 (by simp;omega),Wb p k h0 (by omega)]
  simp only
  rw [Q7 (by omega)]
theorem wP {p:Qe} (hp:Qn p) {n:ByteArray} {x:Int×Int} (hx:Qj n=some x) (h3:¬3<=p.layers.length) (ho:ZL (Qq p p.layers.length) x.1):Qn ⟨p.core,p.layers++ [⟨n,0⟩]⟩:=by
 refine⟨hp.1,by simp;omega,fun k hk=>?_⟩
 have hk':k<p.layers.length+1:=by simpa using hk
 by_cases hl:k<p.layers.length
 ·obtain⟨y,h1,h2,h4,h5⟩:=hp.2.2 k hl
  refine⟨y,?_,?_,?_,?_⟩
  ·simpa [List.getElem_append_left hl] using h1
  ·rw [wX p _ k (by omega)];exact h2
  ·simpa [List.getElem_append_left hl] using h4
  ·simpa [List.getElem_append_left hl] using h5
 ·obtain rfl:k=p.layers.length:=by omega
  refine⟨x,by simpa using hx,?_,?_,?_⟩
  ·rw [wX p _ _ (F0 _)];exact ho
  ·simp [ZK]
  ·simp
theorem UX:∀(l:List ByteArray) (p:Qe),Qn p->(ZX p l).2.code=0->Qn (ZX p l).1/\QP (ZX p l).1=QP p++l/\(ZX p l).2.value=Qq (ZX p l).1 (ZX p l).1.layers.length
 | [],p,hp,_=>⟨hp,by rw [ZX];simp,rfl⟩
 | n::r,p,hp,h=>by
  rw [ZX] at h ⊢
  by_cases hc:(QY p n).2.code=0
  ·rw [if_pos hc] at h ⊢
   cases hx:Qj n with
   |none=>rw [Vm hx] at hc;cases hc
   | some x=>
    rcases zb p hp n x hx with ⟨_,e⟩|⟨_,_,e⟩|⟨h3,ho,e⟩
    ·rw [e] at hc;cases hc
    ·rw [e] at hc;cases hc
    ·rw [e] at h ⊢
     obtain⟨h1,h2,h4⟩:=UX r _ (wP hp hx h3 ho) h
     exact⟨h1,by rw [h2];simp [QP],h4⟩
  ·rw [if_neg hc] at h
   exact absurd h hc
theorem qi:∀(l:List ByteArray) (p:Qe),Qn p->(∀(k:Nat) (h:k<l.length),∃x,Qj l[k]=some x/\ZL (if k=0 then Qq p p.layers.length else((Qj (l[k-1]'(by omega))).getD (0,0)).2) x.1)->p.layers.length+l.length<=3->(ZX p l).2.code=0
 | [],_,_,_,_=>rfl
 | n::r,p,hp,h,h3=>by
  obtain⟨x,hx,ho⟩:=h 0 (by simp)
  simp only [S6,if_true] at hx ho
  have e:=Vw hx hp (by simp at h3;omega) ho
  rw [ZX,e,if_pos]
  ·refine qi r _ (wP hp hx (by simp at h3;omega) ho) (fun k hk=>?_) (by simp at h3 ⊢;omega)
   obtain⟨y,hy,hoy⟩:=h (k+1) (by simp;omega)
   refine⟨y,by simpa using hy,?_⟩
   rw [if_neg (by omega)] at hoy
   rcases Nat.eq_zero_or_pos k with rfl|h0
   ·simp only [if_true,I0,I1,U7,J3]
    rw [Qby]
    simpa using hoy
   ·rw [if_neg (by omega)]
    have e1:(n::r)[k+1-1]'(by simp;omega)=r[k-1]'(by omega):=by
     rw [List.getElem_cons]
     rw [dif_neg (by omega)]
     congr 1
    rw [e1] at hoy
    exact hoy
  ·rfl
theorem Qa0 {p:Qe} (hp:Qn p):(Ys (QP p)).2.code=0/\QP (Ys (QP p)).1=QP p/\Qn (Ys (QP p)).1:=by
 obtain⟨f,hf,_⟩:=hp.1
 unfold QP
 rw [Ko hf]
 have hn:=Jd (k:=p.core.kind) (by rw [hf];simp)
 have hc:(ZX (Xu p.core.kind) (p.layers.map (·.name))).2.code=0:=by
  refine qi _ _ hn (fun k hk=>?_) (by simpa [Xu] using hp.2.1)
  have hk':k<p.layers.length:=by simpa using hk
  obtain⟨x,hx,ho,_⟩:=hp.2.2 k hk'
  refine⟨x,by simpa using hx,?_⟩
  rcases Nat.eq_zero_or_pos k with rfl|h0
  ·simpa [Xu,Kr] using ho
  ·rw [if_neg (by omega)]
   rw [Wb p k h0 (by omega)] at ho
   simpa using ho
 obtain⟨h1,h2,_⟩:=UX _ _ hn hc
 refine⟨hc,?_,h1⟩
 have h3:=h2
 unfold QP at h3
 rw [h3]
 simp [Xu]
theorem kQ {p:Qe} (hp:Qn p):∀y∈QP p,(32:UInt8)∉y.data.toList/\y.size≠0:=by
 intro y hy
 rcases C7.1 hy with rfl|hy
 ·obtain⟨f,hf,_⟩:=hp.1
  have:=QdI (s:=p.core.kind) (by rw [hf];simp)
  exact⟨List.count_eq_zero.1 this.2,this.1⟩
 ·obtain⟨x,hx,rfl⟩:=L7.1 hy
  obtain⟨k,hk,rfl⟩:=M0 hx
  obtain⟨z,hz,_⟩:=hp.2.2 k hk
  have:=QbG (s:=p.layers[k].name) (by rw [hz];simp)
  exact⟨this.2,this.1⟩
theorem wT {p:Qe} (hp:Qn p):Um (Zx (QP p) xG)=QP p:=by
 have hw:=kQ hp
 have e:QP p=p.core.kind::p.layers.map (·.name):=rfl
 rw [e] at hw ⊢
 unfold Um
 rw [if_neg,wu _ _ (fun y hy=>(hw y hy).1)]
 rw [Ji]
 have h1:=(hw _ K0).2
 have h2:Zp (p.core.kind::p.layers.map (·.name))=p.core.kind.size+Zp (p.layers.map (·.name)):=by simp [Zp]
 omega
theorem vA {s:ByteArray} (h:s.size≠0):Zx (Um s) xG=s:=by
 unfold Um;rw [if_neg h];exact Qbh s
theorem uX (x:ByteArray) (r:List ByteArray) (y:ByteArray):Zx (x::r++ [y]) xG=Zx (x::r) xG++(xG++y):=by
 refine O5 (Q2.1 ?_)
 unfold Zx bl
 simp only [J2,I9,O2,M2]
 rw [Lib.join_cons,Lib.join_cons]
 simp [Lib.joinTail,xG,ByteArray.data_append]

/-! ### shapes -/
def W8 (s:ByteArray):Prop:=s.size=0∨(Ys (Um s)).2.code=0
noncomputable def qd (s:ByteArray):Ql:=(Wd (Um s)).getD ⟨false,Zb⟩
def YY.list {α:Type} (t:YY α):List α:=[t.a,t.b,t.c]
theorem YY.list_set {α:Type} (t:YY α) {i:Int} (hi:QE i) (x:α):(t.set i x).list=t.list.set i.toNat x:=by
 obtain⟨h0,h2⟩:=hi
 rcases(show i=0∨i=1∨i=2 by omega) with rfl|rfl|rfl<;>rfl
theorem YY.list_inj {α:Type} {t u:YY α} (h:t.list=u.list):t=u:=by
 cases t;cases u;simp [YY.list] at h;simp [h]
theorem YY.slotAt (t:YY Ql) {i:Int} (hi:QE i):slotAt t.list i=t.get i:=by
 obtain⟨h0,h2⟩:=hi
 rcases(show i=0∨i=1∨i=2 by omega) with rfl|rfl|rfl<;>rfl
noncomputable def Yj (t:YY ByteArray):List Ql:=(t.map qd).list
theorem Kt {s:ByteArray} (h:s.size=0):qd s=WM:=by unfold qd Um;rw [if_pos h];rfl
theorem Uh {s:ByteArray} (h:s.size≠0) (hs:W8 s):∃p,qd s=⟨true,p⟩/\Qn p/\QP p=Um s/\p=(Ys (Um s)).1:=by
 have hc:=hs.resolve_left h
 have hne:Um s≠ []:=by unfold Um;rw [if_neg h];exact Qaa s
 unfold qd
 obtain⟨k,r,e⟩:=List.exists_cons_of_ne_nil hne
 rw [e] at hc ⊢
 refine⟨(Ys (k::r)).1,by rw [Wd,if_pos hc];rfl,?_⟩
 cases hk:Qo k with
 |none=>rw [Gb hk] at hc;cases hc
 |some f=>
  rw [Ko hk] at hc ⊢
  obtain⟨h1,h2,_⟩:=UX r _ (Jd (by rw [hk];simp)) hc
  exact⟨h1,by rw [h2];rfl,rfl⟩
theorem vE {s:ByteArray} (hs:W8 s):Ww (qd s):=by
 by_cases h:s.size=0
 ·rw [Kt h];exact GK
 ·obtain⟨p,e,hp,_⟩:=Uh h hs
  rw [e];exact GU rfl hp
theorem GS {t:YY ByteArray} (h:t.All W8):QH (Yj t):=by
 refine⟨rfl,fun k hk=>?_⟩
 have hk3:k<3:=hk
 rcases(show k=0∨k=1∨k=2 by omega) with rfl|rfl|rfl
 ·exact vE h.1
 ·exact vE h.2.1
 ·exact vE h.2.2
theorem uc {s:ByteArray} (h:s.size=0):(⟨#[]⟩:ByteArray)=s:=O5 (Q2.1 (by rw [I6 (show s.data.toList.length=0 by rw [Zl];exact h)]))
theorem Uk {s:ByteArray} (hs:W8 s):ZI (qd s)=s:=by
 by_cases h:s.size=0
 ·rw [Kt h];exact uc h
 ·obtain⟨p,e,_,hr,_⟩:=Uh h hs
  rw [e]
  show(if true=true then Zx (QP p) xG else _)=s
  rw [if_pos rfl,hr,vA h]
theorem UM {x:Ql} (hx:Ww x):W8 (ZI x):=by
 unfold ZI
 by_cases h:x.full=true
 ·rw [if_pos h]
  have hp:=hx.1 h
  exact .inr (by
   have e:Um (Zx (QP x.part) ⟨#[32]⟩)=QP x.part:=wT hp
   rw [e];exact(Qa0 hp).1)
 ·rw [if_neg h];exact .inl rfl
theorem qb {t:YY ByteArray} (h:t.All W8):YM (Yj t)=t.list:=by
 unfold YM Yj YY.list YY.map
 simp only [I9,O2]
 rw [Uk h.1,Uk h.2.1,Uk h.2.2]
theorem QbS (l:List Ql) (i:Nat) (x:Ql):YM (l.set i x)=(YM l).set i (ZI x):=by unfold YM;rw [List.map_set]
noncomputable def yO (s:ByteArray):Int:=(Ys (Um s)).2.value
noncomputable def YX (a:Qa) (place:Int) (s:YY ByteArray):YY ByteArray×Xo:=
 if a.op=1 then(s.set a.slot a.word,QJ)
 else if a.op=5 then(s.set a.slot ⟨#[]⟩,QJ)
 else if a.op=4 then(s.set a.slot (s.get a.other),QJ)
 else if(s.get a.slot).size=0 then(s,⟨2,place,0,0⟩)
 else if a.op=3 then(if 1<(Um (s.get a.slot)).length then s.set a.slot (Zx (Um (s.get a.slot)).dropLast xG) else s,QJ)
 else if a.op=2/\3<(Um (s.get a.slot)).length then(s,QJ)
 else if ¬ZL (yO (s.get a.slot)) (KV a) then(s,⟨1,place,KV a,yO (s.get a.slot)⟩)
 else(if a.op=2 then s.set a.slot (s.get a.slot++(xG++a.word)) else s,QJ)
theorem Qae {s:ByteArray} {p:Qe} (h:s.size≠0) (hs:W8 s) (e:p=(Ys (Um s)).1):yO s=Qq p p.layers.length:=by
 have hc:=hs.resolve_left h
 have hne:Um s≠ []:=by unfold Um;rw [if_neg h];exact Qaa s
 unfold yO
 obtain⟨k,r,e1⟩:=List.exists_cons_of_ne_nil hne
 rw [e1] at hc e ⊢
 cases hk:Qo k with
 |none=>rw [Gb hk] at hc;cases hc
 |some f=>
  rw [Ko hk] at hc e ⊢
  rw [e]
  exact(UX r _ (Jd (by rw [hk];simp)) hc).2.2
theorem Qbk (p:Qe):(QP p).length=p.layers.length+1:=by simp [QP]
theorem jm {p q:Qe} (h:XL p q):Zx (QP q) xG=Zx (QP p) xG:=by unfold QP;rw [h.1,h.2]
theorem vd (a:Qa) (ha:ZG a) (place:Int) (h8:a.op≠8) (h9:a.op≠9) (h10:a.op≠10) (s:YY ByteArray) (hs:s.All W8) (t:Int):
  YM (ZF a place ⟨Yj s,t⟩).1.slots=(YX a place s).1.list/\(ZF a place ⟨Yj s,t⟩).2=(YX a place s).2:=by
 have hop:=Gt ha
 have hsl:=VZ ha
 have hat:slotAt (Yj s) a.slot=qd (s.get a.slot):=by unfold Yj;rw [YY.slotAt _ hsl,YY.map_get]
 have hset:∀(x:Ql) (y:ByteArray),ZI x=y->YM ((Yj s).set a.slot.toNat x)=(s.set a.slot y).list:=fun x y hxy=>by
  rw [QbS,qb hs,hxy,YY.list_set _ hsl]
 have hsame:∀(x:Ql),ZI x=s.get a.slot->YM ((Yj s).set a.slot.toNat x)=s.list:=fun x hx=>by rw [hset x _ hx,YY.set_get]
 unfold YX
 by_cases h1:a.op=1
 ·rw [UW h1,if_pos h1]
  refine⟨hset _ _ ?_,rfl⟩
  show(if true=true then Zx (QP (Xu a.word)) _ else _)=_
  rw [if_pos rfl]
  exact KR _ _
 rw [if_neg h1]
 by_cases h5:a.op=5
 ·rw [Kk h5,if_pos h5]
  exact⟨hset _ _ rfl,rfl⟩
 rw [if_neg h5]
 by_cases h4:a.op=4
 ·rw [UV h4,if_pos h4]
  have ho:=((GV h4).1 ha).2.1
  refine⟨hset _ _ ?_,rfl⟩
  unfold Yj
  rw [YY.slotAt _ ho,YY.map_get]
  exact Uk (hs.get _)
 rw [if_neg h4]
 by_cases hz:(s.get a.slot).size=0
 ·rw [if_pos hz,Kg h1 h5 h4 (by rw [hat,Kt hz];rfl)]
  exact⟨qb hs,rfl⟩
 rw [if_neg hz]
 obtain⟨p,hsp,hp,hr,hpm⟩:=Uh hz (hs.get a.slot)
 have hface:=Qae hz (hs.get a.slot) hpm
 have hlen:(Um (s.get a.slot)).length=p.layers.length+1:=by rw [<-hr,Qbk]
 have hfull:¬(slotAt (Yj s) a.slot).full=false:=by rw [hat,hsp];simp
 have hpart:(slotAt (Yj s) a.slot).part=p:=by rw [hat,hsp]
 have hold:Zx (QP p) xG=s.get a.slot:=by rw [hr,vA hz]
 have hshape:∀q:Qe,ZI ⟨true,q⟩=Zx (QP q) xG:=fun q=>rfl
 have hgo:∀(q:Qe) (y:ByteArray),(XP a p).1=q->(XP a p).2.code≠1->Zx (QP q) xG=y->YM (ZF a place ⟨Yj s,t⟩).1.slots=(s.set a.slot y).list/\(ZF a place ⟨Yj s,t⟩).2=QJ:=fun q y hq hc hy=>by
  rw [Ks h1 h5 h4 hfull (by rw [hpart];exact hc),hpart,hq]
  exact⟨hset _ _ (by rw [hshape,hy]),rfl⟩
 have hstop:∀(want had:Int),(XP a p).1=p->(XP a p).2=Qf 1 0 want had->YM (ZF a place ⟨Yj s,t⟩).1.slots=s.list/\(ZF a place ⟨Yj s,t⟩).2=⟨1,place,want,had⟩:=fun want had hq hc=>by
  rw [Ka h1 h5 h4 hfull (by rw [hpart,hc];rfl),hpart,hq,hc]
  exact⟨hsame _ (by rw [hshape,hold]),rfl⟩
 by_cases h3:a.op=3
 ·rw [if_pos h3]
  have hw:=GN (p:=p) h3
  by_cases h0:p.layers.length=0
  ·rw [if_neg (by omega)]
   have hu:Yn p=(p,false):=by unfold Yn;rw [if_pos (.inr h0)]
   have:=hgo p (s.get a.slot) (by rw [hw,hu]) (by rw [hw];simp [Qf]) hold
   rw [YY.set_get] at this
   exact this
  ·rw [if_pos (by omega)]
   have hu:Yn p=(⟨p.core,p.layers.take (p.layers.length-1)⟩,true):=by unfold Yn;rw [if_neg (by simp [hp,h0])]
   refine hgo ⟨p.core,p.layers.take (p.layers.length-1)⟩ _ (by rw [hw,hu]) (by rw [hw];simp [Qf]) ?_
   congr 1
   rw [<-hr]
   unfold QP
   rw [List.dropLast_eq_take,I1,J8]
   obtain⟨m,hm⟩:∃m,p.layers.length=m+1:=⟨p.layers.length-1,by omega⟩
   rw [hm]
   simp [List.map_take]
 rw [if_neg h3]
 by_cases h2:a.op=2
 ·have hw:=GT (p:=p) h2
  obtain⟨x,hx⟩:=O6.1 ((xJ h2).1 ha).2.1
  have hneed:KV a=x.1:=by unfold KV;rw [if_neg (by omega),if_neg (by omega),hx];rfl
  rcases zb p hp a.word x hx with ⟨h3,e⟩|⟨h3,ho,e⟩|⟨h3,ho,e⟩
  ·rw [if_pos ⟨h2,by omega⟩]
   have:=hgo p (s.get a.slot) (by rw [hw,e]) (by rw [hw,e];simp [Qf]) hold
   rw [YY.set_get] at this
   exact this
  ·rw [if_neg (fun h=>h3 (by have:=h.2;omega)),hface,hneed,if_pos ho]
   exact hstop _ _ (by rw [hw,e]) (by rw [hw,e])
  ·rw [if_neg (fun h=>h3 (by have:=h.2;omega)),hface,hneed,if_neg (fun h=>h ho),if_pos h2]
   refine hgo _ _ (by rw [hw,e]) (by rw [hw,e];simp [Qf]) ?_
   have e2:QP ⟨p.core,p.layers++ [⟨a.word,0⟩]⟩=p.core.kind::p.layers.map (·.name)++ [a.word]:=by simp [QP]
   rw [e2,uX]
   congr 1
 rw [if_neg (fun h=>h2 h.1),if_neg h2]
 by_cases h6:a.op=6
 ·have hw:=Ju (p:=p) h6
  have hneed:KV a=a.face:=by unfold KV;rw [if_pos h6]
  rw [hface,hneed]
  by_cases ho:ZL (Qq p p.layers.length) a.face
  ·rw [if_neg (fun h=>h ho)]
   have:=hgo p (s.get a.slot) (by rw [hw]) (by rw [hw,if_pos ho];simp [Qf]) hold
   rw [YY.set_get] at this
   exact this
  ·rw [if_pos ho]
   exact hstop _ _ (by rw [hw]) (by rw [hw,if_neg ho])
 ·have h7:a.op=7:=by omega
  have hw:=GW (p:=p) h7
  have hneed:KV a=ZR a.call.method:=by unfold KV;rw [if_neg h6,if_pos h7]
  have hcall:QS a.call:=((jf h7).1 ha).2.1.1
  rw [hface,hneed]
  by_cases ho:ZL (Qq p p.layers.length) (ZR a.call.method)
  ·rw [if_neg (fun h=>h ho)]
   have e:QB p a.call=XG p.layers.length p a.call:=by unfold QB;rw [if_neg (by simp [hp,hcall]),if_neg (fun h=>h ho)]
   have:=hgo (QB p a.call).1 (s.get a.slot) (by rw [hw]) (by rw [hw,e];exact Wm _ _ _) (by rw [jm (Us hp),hold])
   rw [YY.set_get] at this
   exact this
  ·rw [if_pos ho]
   have e:QB p a.call=(p,Qf 1 0 (ZR a.call.method) (Qq p p.layers.length)):=by unfold QB;rw [if_neg (by simp [hp,hcall]),if_pos ho]
   exact hstop _ _ (by rw [hw,e]) (by rw [hw,e])
theorem QcO (a:Qa) (ha:ZG a) (place:Int) (h8:a.op≠8) (h9:a.op≠9) (h10:a.op≠10) (s:YY ByteArray) (hs:s.All W8):(YX a place s).1.All W8:=by
 have h:=(vd a ha place h8 h9 h10 s hs 0).1
 have hk:=zO (place:=place) (s:=⟨Yj s,0⟩) ha (GS hs)
 have hall:∀y∈(YX a place s).1.list,W8 y:=fun y hy=>by
  rw [<-h] at hy
  obtain⟨x,hx,rfl⟩:=L7.1 hy
  obtain⟨k,hk',rfl⟩:=M0 hx
  exact UM (hk.2 k hk')
 exact⟨hall _ (by simp [YY.list]),hall _ (by simp [YY.list]),hall _ (by simp [YY.list])⟩
structure Qhj where
 YM:YY ByteArray
 input:List Int
 fin:Xo
variable {X Y:YY ByteArray×Xo->List Int->Prop}
abbrev Fr:=YY ByteArray->List Int->Prop
noncomputable def Qs (a:Qa) (p:Int):Rn (YY ByteArray):=
 ⟨fun s i t=>i=[] /\YX a p s=(t,QJ),fun s i t e=>i=[] /\YX a p s=(t,e)/\e≠QJ⟩
section
variable {F:Fr} {L:List Qhj} {X Y:Rn (YY ByteArray)}
end
mutual
def Qa.flat:Qa->List Qa
 | .mk op slot other word call face A B=>.mk op slot other word call face A B::(YH A++YH B)
def YH:List Qa->List Qa
 | []=>[]
 |a::l=>a.flat++YH l
end
theorem Qa.flat_eq (a:Qa):a.flat=a::(YH a.A++YH a.B):=by cases a;rw [Qa.flat];rfl
mutual
theorem Qa.flat_len:∀a:Qa,a.flat.length=a.size
 | .mk op slot other word call face A B=>by
  rw [Qa.flat_eq,Qa.size_eq,I1,I0]
  have h1:=yD A
  have h2:=yD B
  show(YH A).length+(YH B).length+1=1+Qd A+Qd B
  omega
theorem yD:∀l:List Qa,(YH l).length=Qd l
 | []=>rfl
 |a::l=>by
  rw [YH,I0,Qa.flat_len a,yD l]
  have:=VJ [a] l
  have e:Qd [a]=a.size:=by rw [Qd,Qd];omega
  rw [e] at this
  exact this.symm
end
def VS (l:List Qa) (lo hi:Int) (t:YY ByteArray) (e:Xo):Prop:=∃a∈l,∃p:Int,lo<=p/\p<hi/\(e=⟨2,p,0,0⟩∨e=⟨1,p,KV a,yO (t.get a.slot)⟩)
theorem VS.wider {l m:List Qa} {lo hi lo' hi':Int} {t:YY ByteArray} {e:Xo} (h:VS l lo hi t e) (hl:∀a∈l,a∈m) (h1:lo'<=lo) (h2:hi<=hi'):VS m lo' hi' t e:=by
 obtain⟨a,ha,p,hp,hp',hh⟩:=h
 exact⟨a,hl a ha,p,by omega,by omega,hh⟩
structure Yu (X:Rn (YY ByteArray)) (n:Nat) (E:YY ByteArray->Xo->Prop):Prop where
 ok:∀ {s i t},s.All W8->X.ok s i t->t.All W8/\i.length<=n
 bad:∀ {s i t e},s.All W8->X.bad s i t e->t.All W8/\i.length<=n/\E t e
section
variable {X Y:Rn (YY ByteArray)} {n m:Nat} {E E':YY ByteArray->Xo->Prop}
theorem Yu.mono (h:Yu X n E) (hn:n<=m) (hE:∀t e,E t e->E' t e):Yu X m E':=
 ⟨fun hs h1=>⟨(h.ok hs h1).1,G5 (h.ok hs h1).2 hn⟩,fun hs h1=>⟨(h.bad hs h1).1,G5 (h.bad hs h1).2.1 hn,hE _ _ (h.bad hs h1).2.2⟩⟩
theorem Yu.skip:Yu Rn.skip 0 E:=⟨fun {s i t} hs h=>by
 obtain⟨h1,h2⟩:=(show i=[] /\t=s from h)
 rw [h1,h2];exact⟨hs,F0 _⟩,fun _ h=>(show False from h).elim⟩
theorem Yu.seq (h:Yu X n E) (h':Yu Y m E):Yu (X.seq Y) (n+m) E where
 ok hs h1:=by
  obtain⟨i1,i2,u,rfl,a,b⟩:=h1
  have:=h.ok hs a
  have h2:=h'.ok this.1 b
  exact⟨h2.1,by rw [I0];omega⟩
 bad hs h1:=by
  rcases h1 with a|⟨i1,i2,u,rfl,a,b⟩
  ·have:=h.bad hs a
   exact⟨this.1,by omega,this.2.2⟩
  ·have:=h.ok hs a
   have h2:=h'.bad this.1 b
   exact⟨h2.1,by rw [I0];omega,h2.2.2⟩
theorem Yu.alt (h:Yu X n E) (h':Yu Y m E):Yu (X.alt Y) (n+m) E where
 ok hs h1:=by
  rcases h1 with a|a
  ·have:=h.ok hs a;exact⟨this.1,by omega⟩
  ·have:=h'.ok hs a;exact⟨this.1,by omega⟩
 bad hs h1:=by
  rcases h1 with a|a
  ·have:=h.bad hs a;exact⟨this.1,by omega,this.2.2⟩
  ·have:=h'.bad hs a;exact⟨this.1,by omega,this.2.2⟩
theorem Yu.took (h:Yu X n E) (k:Int):Yu (X.took k) (n+1) E where
 ok hs h1:=by
  obtain⟨j,rfl,a⟩:=h1
  have:=h.ok hs a;exact⟨this.1,by rw [I1];omega⟩
 bad hs h1:=by
  obtain⟨j,rfl,a⟩:=h1
  have:=h.bad hs a;exact⟨this.1,by rw [I1];omega,this.2.2⟩
theorem Yu.pow (h:Yu X n E):∀k,Yu (X.pow k) (k * n) E
 |0=>by rw [Nat.zero_mul];exact Yu.skip
 |k+1=>by rw [Y5];exact(Yu.pow h k).seq h
theorem Yu.loop (h:Yu X n E):Yu X.loop (3 * n+1) E where
 ok hs h1:=by
  obtain⟨k,hk,a⟩:=h1
  have:=((h.pow k).took k).ok hs a
  have hm:k * n<=3 * n:=X0 n hk
  exact⟨this.1,by omega⟩
 bad hs h1:=by
  obtain⟨k,hk,a⟩:=h1
  have:=((h.pow k).took k).bad hs a
  have hm:k * n<=3 * n:=X0 n hk
  exact⟨this.1,by omega,this.2.2⟩
theorem Yu.tried (h:Yu X n E) (h':Yu Y m E):Yu (X.tried Y) (n+m) E where
 ok hs h1:=by
  rcases h1 with a|⟨i1,i2,u,e,rfl,a,_,b⟩
  ·have:=h.ok hs a;exact⟨this.1,by omega⟩
  ·have:=h.bad hs a
   have h2:=h'.ok this.1 b
   exact⟨h2.1,by rw [I0];omega⟩
 bad hs h1:=by
  rcases h1 with ⟨a,_⟩|⟨i1,i2,u,e,rfl,a,_,b⟩
  ·have:=h.bad hs a;exact⟨this.1,by omega,this.2.2⟩
  ·have:=h.bad hs a
   have h2:=h'.bad this.1 b
   exact⟨h2.1,by rw [I0];omega,h2.2.2⟩
end
theorem jZ (a:Qa) (p:Int) (s:YY ByteArray) (hne:(YX a p s).2≠QJ):(YX a p s).1=s/\((YX a p s).2=⟨2,p,0,0⟩∨(YX a p s).2=⟨1,p,KV a,yO (s.get a.slot)⟩):=by
 unfold YX at hne ⊢
 by_cases h1:a.op=1
 ·rw [if_pos h1] at hne;exact absurd rfl hne
 rw [if_neg h1] at hne ⊢
 by_cases h5:a.op=5
 ·rw [if_pos h5] at hne;exact absurd rfl hne
 rw [if_neg h5] at hne ⊢
 by_cases h4:a.op=4
 ·rw [if_pos h4] at hne;exact absurd rfl hne
 rw [if_neg h4] at hne ⊢
 by_cases hz:(s.get a.slot).size=0
 ·rw [if_pos hz];exact⟨rfl,.inl rfl⟩
 rw [if_neg hz] at hne ⊢
 by_cases h3:a.op=3
 ·rw [if_pos h3] at hne;exact absurd rfl hne
 rw [if_neg h3] at hne ⊢
 by_cases h2:a.op=2/\3<(Um (s.get a.slot)).length
 ·rw [if_pos h2] at hne;exact absurd rfl hne
 rw [if_neg h2] at hne ⊢
 by_cases ho:¬ZL (yO (s.get a.slot)) (KV a)
 ·rw [if_pos ho];exact⟨rfl,.inr rfl⟩
 ·rw [if_neg ho] at hne;exact absurd rfl hne
theorem QdP (a:Qa) (ha:ZG a) (p:Int) (h8:a.op≠8) (h9:a.op≠9) (h10:a.op≠10):Yu (Qs a p) 0 (VS [a] p (p+1)) where
 ok {s i t} hs h:=by
  obtain⟨h1,h2⟩:=(show i=[] /\YX a p s=(t,QJ) from h)
  have h3:=QcO a ha p h8 h9 h10 s hs
  rw [h2] at h3
  exact⟨h3,by rw [h1];exact F0 _⟩
 bad {s i t e} hs h:=by
  obtain⟨h1,h2,h3⟩:=(show i=[] /\YX a p s=(t,e)/\e≠QJ from h)
  have h4:=jZ a p s (by rw [h2];exact h3)
  rw [h2] at h4
  have h5:t=s:=h4.1
  rw [h5,h1]
  exact⟨hs,F0 _,a,E0.2 rfl,p,by omega,by omega,h4.2⟩
mutual
theorem Qa.ex_good:∀(a:Qa),a.ok->∀p,Yu (a.ex Qs p) a.cost (VS a.flat p (p+a.size))
 | .mk op slot other word call face A B,h,p=>by
  rw [Qa.ok_iff] at h
  obtain⟨ha,hA,hB⟩:=h
  have gA:=Yy A hA (p+1)
  have gB:=Yy B hB (p+1+Qd A)
  have e1:(Qa.mk op slot other word call face A B).flat= .mk op slot other word call face A B::(YH A++YH B):=Qa.flat_eq _
  have e2:(Qa.mk op slot other word call face A B).size=1+Qd A+Qd B:=Qa.size_eq _
  have e3:(Qa.mk op slot other word call face A B).cost=1+3 * QT A+QT B:=Qa.cost_eq _
  rw [Qa.ex_eq,e1,e2,e3]
  have gA':=gA.mono (F0 _) (E':=VS (.mk op slot other word call face A B::(YH A++YH B)) p (p+(1+Qd A+Qd B:Nat))) (fun t e h=>h.wider (fun a ha=>I5 _ (List.mem_append_left _ ha)) (by omega) (by omega))
  have gB':=gB.mono (F0 _) (E':=VS (.mk op slot other word call face A B::(YH A++YH B)) p (p+(1+Qd A+Qd B:Nat))) (fun t e h=>h.wider (fun a ha=>I5 _ (V0 _ ha)) (by omega) (by omega))
  by_cases h8:(Qa.mk op slot other word call face A B).op=8
  ·rw [if_pos h8]
   refine⟨fun hs h=>?_,fun hs h=>?_⟩
   ·rcases h with h|h
    ·have:=(gA'.took 1).ok hs h;exact⟨this.1,by omega⟩
    ·have:=(gB'.took 0).ok hs h;exact⟨this.1,by omega⟩
   ·rcases h with h|h
    ·have:=(gA'.took 1).bad hs h;exact⟨this.1,by omega,this.2.2⟩
    ·have:=(gB'.took 0).bad hs h;exact⟨this.1,by omega,this.2.2⟩
  ·by_cases h9:(Qa.mk op slot other word call face A B).op=9
   ·rw [if_neg h8,if_pos h9]
    exact gA'.loop.mono (by omega) (fun _ _ h=>h)
   ·by_cases h10:(Qa.mk op slot other word call face A B).op=10
    ·rw [if_neg h8,if_neg h9,if_pos h10]
     exact(gA'.tried gB').mono (by omega) (fun _ _ h=>h)
    ·rw [if_neg h8,if_neg h9,if_neg h10]
     exact(QdP _ ha p h8 h9 h10).mono (I3 _) (fun t e h=>h.wider (fun a ha=>by rw [E0.1 ha];exact K0) (by omega) (by omega))
theorem Yy:∀(l:List Qa),Jm l->∀p,Yu (Vn Qs l p) (QT l) (VS (YH l) p (p+Qd l))
 | [],_,p=>by
  rw [Vn,QT]
  exact Yu.skip
 | a::l,h,p=>by
  rw [Wh] at h
  have ga:=Qa.ex_good a (h a K0) p
  have gl:=Yy l ((Wh l).2 (fun b hb=>h b (I5 _ hb))) (p+a.size)
  have es:Qd (a::l)=a.size+Qd l:=by
   have:=VJ [a] l
   have e:Qd [a]=a.size:=by rw [Qd,Qd];omega
   rw [e] at this
   exact this
  have ec:QT (a::l)=a.cost+QT l:=by
   have:=Ux [a] l
   have e:QT [a]=a.cost:=by rw [QT,QT];omega
   rw [e] at this
   exact this
  rw [Vn,ec]
  have ef:YH (a::l)=a.flat++YH l:=by rw [YH]
  rw [ef,es]
  exact(ga.mono (F0 _) (fun t e h=>h.wider (fun b hb=>List.mem_append_left _ hb) (by omega) (by omega))).seq (gl.mono (F0 _) (fun t e h=>h.wider (fun b hb=>V0 _ hb) (by omega) (by omega)))
end
def Qhh (x:List UInt8×Int):List (List UInt8×Int):=(Yk.filter fun r=>decide (ZL x.2 r.2.1)).map fun r=>(x.1++32::r.1,r.2.2)
def Qa1:Nat->List (List UInt8×Int)
 |0=>kinds
 |n+1=>(Qa1 n).flatMap Qhh
def Qg7:List (List UInt8):=[] ::(Qa1 0++Qa1 1++Qa1 2++Qa1 3).map (·.1)
theorem QeR {p:Qe} (hp:Qn p):∀k,k<=p.layers.length->((Zx (p.core.kind::(p.layers.take k).map (·.name)) xG).data.toList,Qq p k)∈Qa1 k
 |0,_=>by
  obtain⟨f,hf,_⟩:=hp.1
  rw [T9,O2,KR,Kr,hf,Qa1]
  have:=UZ hf
  rwa [Vl] at this
 | k+1,hk=>by
  have ih:=QeR hp k (by omega)
  obtain⟨x,hx,ho,_⟩:=hp.2.2 k (by omega)
  have e1:p.core.kind::(p.layers.take (k+1)).map (·.name)=p.core.kind::(p.layers.take k).map (·.name)++ [p.layers[k].name]:=by
   rw [List.take_add_one,F8 (by omega)]
   simp only [Option.toList_some,J2,I9,O2,M2]
  rw [e1,uX,Qdo,Wb p (k+1) (by omega) (by omega)]
  have e2:p.layers[k+1-1]'(by omega)=p.layers[k]:=by congr 1
  rw [e2,hx,Qa1]
  refine Y7.2 ⟨_,ih,L7.2 ⟨(p.layers[k].name.toList,x),List.mem_filter.2 ⟨UZ hx,by simpa using ho⟩,?_⟩⟩
  rw [Vl]
  rfl
theorem Qc7 {s:ByteArray} (h:W8 s):s.data.toList∈Qg7:=by
 by_cases hz:s.size=0
 ·rw [I6 (show s.data.toList.length=0 by rw [Zl];exact hz)]
  exact K0
 ·obtain⟨p,_,hp,hr,_⟩:=Uh hz h
  have h1:=QeR hp p.layers.length (F0 _)
  rw [I8] at h1
  have h2:Zx (p.core.kind::p.layers.map (·.name)) xG=s:=by
   have:=vA hz
   rw [<-hr] at this
   exact this
  rw [h2] at h1
  refine I5 _ (L7.2 ⟨(s.data.toList,Qq p p.layers.length),?_,rfl⟩)
  ·have h3:=hp.2.1
   rcases(show p.layers.length=0∨p.layers.length=1∨p.layers.length=2∨p.layers.length=3 by omega) with e|e|e|e<;>rw [e] at h1 ⊢ <;>simp [h1]
def kw (l:List Ql):YY ByteArray:=⟨ZI (slotAt l 0),ZI (slotAt l 1),ZI (slotAt l 2)⟩
theorem Qd3 {l:List Ql} (h:l.length=3):(kw l).list=YM l:=by
 obtain⟨a,b,c,rfl⟩:∃a b c,l=[a,b,c]:=by
  match l,h with
  | [a,b,c],_=>exact⟨a,b,c,rfl⟩
 rfl
theorem QgL {l:List Ql} {t:YY ByteArray} (h:l.length=3) (e:YM l=t.list):kw l=t:=YY.list_inj ((Qd3 h).trans e)
theorem Qba {l:List Ql} (h:QH l):(kw l).All W8:=
 ⟨UM (Ua h (by constructor<;>omega)),UM (Ua h (by constructor<;>omega)),UM (Ua h (by constructor<;>omega))⟩
theorem Qas {p q:Qe} (h:QP q=QP p):XL p q:=by
 unfold QP at h
 obtain⟨h1,h2⟩:=List.cons.inj h
 exact⟨h1,h2⟩
theorem QaJ {x:Ql} (hx:Ww x):ja x (qd (ZI x)):=by
 by_cases h:x.full=true
 ·have hp:=hx.1 h
  have e:ZI x=Zx (QP x.part) xG:=by unfold ZI;rw [if_pos h];rfl
  have hne:(ZI x).size≠0:=fun h0=>by
   rw [e] at h0
   have h1:=wT hp
   unfold Um at h1
   rw [if_pos h0] at h1
   unfold QP at h1
   cases h1
  obtain⟨q,e1,_,hr,_⟩:=Uh hne (UM hx)
  rw [e,wT hp] at hr
  rw [e1]
  exact⟨h.symm,Qas hr⟩
 ·have hf:x.full=false:=by simpa using h
  have e:ZI x=⟨#[]⟩:=by unfold ZI;rw [if_neg h]
  rw [e,Kt rfl]
  refine⟨hf.symm,?_⟩
  rw [hx.2 hf]
  exact XL.refl _
theorem ju {s:ZV} (h:QH s.slots):Qfc s ⟨Yj (kw s.slots),s.taken⟩:=by
 refine⟨h,GS (Qba h),⟨by rw [h.1];rfl,fun k hk hk'=>?_⟩,rfl⟩
 have h3:=h.1
 obtain⟨a,b,c,e⟩:∃a b c,s.slots=[a,b,c]:=by
  match hs:s.slots,h3 with
  | [a,b,c],_=>exact⟨a,b,c,rfl⟩
 have hok:=h.2 k hk
 have hk3:k<3:=by omega
 have e2:(Yj (kw s.slots))[k]=qd (ZI s.slots[k]):=by
  rcases(show k=0∨k=1∨k=2 by omega) with rfl|rfl|rfl<;>simp [Yj,kw,YY.map,YY.list,slotAt,e]
 have h4:=QaJ hok
 rw [<-e2] at h4
 exact h4
theorem QcE (a:Qa) (ha:ZG a) (place:Int) (h8:a.op≠8) (h9:a.op≠9) (h10:a.op≠10) (s:ZV) (hs:QH s.slots):YX a place (kw s.slots)=(kw (ZF a place s).1.slots,(ZF a place s).2):=by
 have h1:=QbA (place:=place) ha (ju hs)
 have h2:=vd a ha place h8 h9 h10 (kw s.slots) (Qba hs) s.taken
 have hl:(ZF a place s).1.slots.length=3:=h1.1.1.1
 have e1:YM (ZF a place s).1.slots=(YX a place (kw s.slots)).1.list:=by
  rw [<-h2.1]
  have hS:=h1.1.2.2.1
  refine List.ext_getElem (by unfold YM;rw [J8,J8,hS.1]) (fun k hk hk'=>?_)
  unfold YM at hk hk' ⊢
  rw [List.getElem_map,List.getElem_map]
  have h3:=hS.2 k (by simpa using hk) (by simpa using hk')
  unfold ZI
  rw [h3.1]
  have h4:QP ((ZF a place ⟨Yj (kw s.slots),s.taken⟩).1.slots[k]'(by simpa using hk')).part=QP ((ZF a place s).1.slots[k]'(by simpa using hk)).part:=by
   unfold QP;rw [h3.2.1,h3.2.2]
  rw [h4]
 exact Prod.ext (QgL hl e1).symm (h2.2.symm.trans h1.2)
theorem yM (a:Qa) (place:Int) (s:ZV):(ZF a place s).1.taken=s.taken:=(ve a place 0 s).2

section
variable {X:Rn (YY ByteArray)}
end
def qg (input:List Int) (t:Int) (i:List Int):Prop:=∀(j:Nat) (h:j<i.length),Wn input (t+j)=i[j]
theorem qg.head {input:List Int} {t n:Int} {i:List Int} (h:qg input t (n::i)):Wn input t=n/\qg input (t+1) i:=by
 have h0:=h 0 (by simp)
 have e0:t+((0:Nat):Int)=t:=by omega
 rw [e0] at h0
 refine⟨h0,fun j hj=>?_⟩
 have:=h (j+1) (by simpa using hj)
 rw [List.getElem_cons_succ] at this
 have e:t+((j+1:Nat):Int)=t+1+j:=by omega
 rw [e] at this
 exact this
theorem qg.parts {input:List Int} {t:Int} {i j:List Int} (h:qg input t (i++j)):qg input t i/\qg input (t+i.length) j:=by
 refine⟨fun k hk=>?_,fun k hk=>?_⟩
 ·have:=h k (by rw [I0];omega)
  rw [Q7 hk] at this
  exact this
 ·have:=h (i.length+k) (by rw [I0];omega)
  rw [List.getElem_append_right (by omega)] at this
  have e:t+((i.length+k:Nat):Int)=t+i.length+k:=by omega
  rw [e] at this
  simpa using this
structure VA (input:List Int) (X:Rn (YY ByteArray)) (f:ZV->ZV×Xo):Prop where
 good:∀ {s},QH s.slots->QH (f s).1.slots
 ok:∀ {s i t},QH s.slots->X.ok (kw s.slots) i t->qg input s.taken i->(f s).2=QJ/\kw (f s).1.slots=t/\(f s).1.taken=s.taken+i.length
 bad:∀ {s i t e},QH s.slots->X.bad (kw s.slots) i t e->qg input s.taken i->(f s).2=e/\e.code≠0/\kw (f s).1.slots=t/\(f s).1.taken=s.taken+i.length
section
variable {input:List Int} {X Y:Rn (YY ByteArray)} {f g:ZV->ZV×Xo}
theorem VA.skip:VA input Rn.skip (fun s=>(s,QJ)) where
 good h:=h
 ok {s i t} _ h _:=by
  obtain⟨h1,h2⟩:=(show i=[] /\t=kw s.slots from h)
  rw [h1,h2]
  exact⟨rfl,rfl,by simp⟩
 bad _ h _:=h.elim
theorem VA.seq (h:VA input X f) (h':VA input Y g):VA input (X.seq Y) (fun s=>if(f s).2.code=0 then g (f s).1 else f s) where
 good {s} hs:=by
  try simp only
  split
  ·exact h'.good (h.good hs)
  ·exact h.good hs
 ok {s i t} hs hr hi:=by
  obtain⟨i1,i2,u,rfl,a,b⟩:=hr
  obtain⟨r1,r2⟩:=hi.parts
  obtain⟨e1,e2,e3⟩:=h.ok hs a r1
  have hc:(f s).2.code=0:=by rw [e1];rfl
  try simp only
  rw [if_pos hc]
  obtain⟨k1,k2,k3⟩:=h'.ok (h.good hs) (by rw [e2];exact b) (by rw [e3];exact r2)
  exact⟨k1,k2,by rw [k3,e3,I0];omega⟩
 bad {s i t e} hs hr hi:=by
  rcases hr with a|⟨i1,i2,u,rfl,a,b⟩
  ·obtain⟨e1,e2,e3,e4⟩:=h.bad hs a hi
   try simp only
   rw [if_neg (by rw [e1];exact e2)]
   exact⟨e1,e2,e3,e4⟩
  ·obtain⟨r1,r2⟩:=hi.parts
   obtain⟨e1,e2,e3⟩:=h.ok hs a r1
   have hc:(f s).2.code=0:=by rw [e1];rfl
   try simp only
   rw [if_pos hc]
   obtain⟨k1,k0,k2,k3⟩:=h'.bad (h.good hs) (by rw [e2];exact b) (by rw [e3];exact r2)
   exact⟨k1,k0,k2,by rw [k3,e3,I0];omega⟩
theorem vL (h:∀s,(f s).2.code=0->(f s).2=QJ):∀n s,Zo (n+1) f s=if(Zo n f s).2.code=0 then f (Zo n f s).1 else Zo n f s
 | 0,s=>by
  rw [Zo,Zo,if_pos (show QJ.code=0 from rfl)]
  split
  ·rename_i hc
   rw [Zo]
   exact Prod.ext rfl (h s hc).symm
  ·rfl
 | n+1,s=>by
  rw [Zo,vL h n (f s).1]
  by_cases hc:(f s).2.code=0
  ·rw [if_pos hc]
   have e:Zo (n+1) f s=Zo n f (f s).1:=by rw [Zo,if_pos hc]
   rw [e]
  ·rw [if_neg hc]
   have e:Zo (n+1) f s=f s:=by rw [Zo,if_neg hc]
   rw [e,if_neg hc]
theorem VA.pow (h:VA input X f) (he:∀s,(f s).2.code=0->(f s).2=QJ):∀n,VA input (X.pow n) (Zo n f)
 |0=>VA.skip
 |n+1=>by
  have h1:=(VA.pow h he n).seq h
  have e:(fun s=>if(Zo n f s).2.code=0 then f (Zo n f s).1 else Zo n f s)=Zo (n+1) f:=funext fun s=>(vL he n s).symm
  rw [e] at h1
  exact h1
end
mutual
theorem Qa.ex_run (input:List Int):∀(a:Qa),a.ok->∀(place:Int),VA input (a.ex Qs place) (fun s=>a.run input place s)
 | .mk op slot other word call face A B,h,place=>by
  have hgood:∀ {s:ZV},QH s.slots->QH ((Qa.mk op slot other word call face A B).run input place s).1.slots:=fun hs=>Qek input _ h place _ hs
  have h0:=h
  rw [Qa.ok_iff] at h
  obtain⟨ha,hA,hB⟩:=h
  have gA:=fun p=>xM input A hA p
  have gB:=fun p=>xM input B hB p
  rw [Qa.ex_eq]
  by_cases h8:(Qa.mk op slot other word call face A B).op=8
  ·rw [if_pos h8]
   refine⟨hgood,fun {s i t} hs hr hi=>?_,fun {s i t e} hs hr hi=>?_⟩
   all_goals
    try simp only
    rw [uS h8]
    rcases hr with ⟨j,rfl,hr⟩|⟨j,rfl,hr⟩
    ·obtain⟨t0,t1⟩:=hi.head
     rw [if_pos (by rw [t0];decide)]
     first
      | (obtain⟨k1,k2,k3⟩:=(gA (place+1)).ok (s:=⟨s.slots,s.taken+1⟩) hs hr t1
         exact⟨k1,k2,k3.trans (by rw [I1];(try simp only);omega)⟩)
      | (obtain⟨k1,k0,k2,k3⟩:=(gA (place+1)).bad (s:=⟨s.slots,s.taken+1⟩) hs hr t1
         exact⟨k1,k0,k2,k3.trans (by rw [I1];(try simp only);omega)⟩)
    ·obtain⟨t0,t1⟩:=hi.head
     rw [if_neg (by rw [t0];decide)]
     first
      | (obtain⟨k1,k2,k3⟩:=(gB (place+1+Qd A)).ok (s:=⟨s.slots,s.taken+1⟩) hs hr t1
         exact⟨k1,k2,k3.trans (by rw [I1];(try simp only);omega)⟩)
      | (obtain⟨k1,k0,k2,k3⟩:=(gB (place+1+Qd A)).bad (s:=⟨s.slots,s.taken+1⟩) hs hr t1
         exact⟨k1,k0,k2,k3.trans (by rw [I1];(try simp only);omega)⟩)
  ·by_cases h9:(Qa.mk op slot other word call face A B).op=9
   ·rw [if_neg h8,if_pos h9]
    have he:∀s,(QM input A (place+1) s).2.code=0->(QM input A (place+1) s).2=QJ:=fun s=>Uj input A (place+1) s
    refine⟨hgood,fun {s i t} hs hr hi=>?_,fun {s i t e} hs hr hi=>?_⟩
    all_goals
     try simp only
     rw [uM h9]
     obtain⟨n,hn,j,rfl,hr⟩:=hr
     obtain⟨t0,t1⟩:=hi.head
     have tn:(Wn input s.taken).toNat=n:=by rw [t0];rfl
     rw [tn]
     first
      | (obtain⟨k1,k2,k3⟩:=((gA (place+1)).pow he n).ok (s:=⟨s.slots,s.taken+1⟩) hs hr t1
         exact⟨k1,k2,k3.trans (by rw [I1];(try simp only);omega)⟩)
      | (obtain⟨k1,k0,k2,k3⟩:=((gA (place+1)).pow he n).bad (s:=⟨s.slots,s.taken+1⟩) hs hr t1
         exact⟨k1,k0,k2,k3.trans (by rw [I1];(try simp only);omega)⟩)
   ·by_cases h10:(Qa.mk op slot other word call face A B).op=10
    ·rw [if_neg h8,if_neg h9,if_pos h10]
     have hA':(Qa.mk op slot other word call face A B).A=A:=rfl
     have hB':(Qa.mk op slot other word call face A B).B=B:=rfl
     rw [hA',hB']
     refine⟨hgood,fun {s i t} hs hr hi=>?_,fun {s i t e} hs hr hi=>?_⟩
     ·try simp only
      rw [qF h10,hA',hB']
      rcases hr with hr|⟨i1,i2,u,e,rfl,a,hc,b⟩
      ·obtain⟨k1,k2,k3⟩:=(gA (place+1)).ok hs hr hi
       rw [if_neg (by(try simp only at k1);rw [k1];decide)]
       exact⟨k1,k2,k3⟩
      ·obtain⟨r1,r2⟩:=hi.parts
       obtain⟨k1,_,k2,k3⟩:=(gA (place+1)).bad hs a r1
       try simp only at k1 k2 k3
       rw [if_pos (by rw [k1];exact hc)]
       obtain⟨m1,m2,m3⟩:=(gB (place+1+Qd A)).ok ((gA (place+1)).good hs) (by(try simp only);rw [k2];exact b) (by(try simp only);rw [k3];exact r2)
       exact⟨m1,m2,by have m3:=m3;(try simp only at m3);rw [m3,k3,I0];omega⟩
     ·try simp only
      rw [qF h10,hA',hB']
      rcases hr with ⟨hr,hc⟩|⟨i1,i2,u,e',rfl,a,hc,b⟩
      ·obtain⟨k1,k0,k2,k3⟩:=(gA (place+1)).bad hs hr hi
       rw [if_neg (by(try simp only at k1);rw [k1];exact hc)]
       exact⟨k1,k0,k2,k3⟩
      ·obtain⟨r1,r2⟩:=hi.parts
       obtain⟨k1,_,k2,k3⟩:=(gA (place+1)).bad hs a r1
       try simp only at k1 k2 k3
       rw [if_pos (by rw [k1];exact hc)]
       obtain⟨m1,m0,m2,m3⟩:=(gB (place+1+Qd A)).bad ((gA (place+1)).good hs) (by(try simp only);rw [k2];exact b) (by(try simp only);rw [k3];exact r2)
       exact⟨m1,m0,m2,by have m3:=m3;(try simp only at m3);rw [m3,k3,I0];omega⟩
    ·rw [if_neg h8,if_neg h9,if_neg h10]
     refine⟨hgood,fun {s i t} hs hr hi=>?_,fun {s i t e} hs hr hi=>?_⟩
     ·obtain⟨hi0,h1⟩:=(show i=[] /\YX _ place (kw s.slots)=(t,QJ) from hr)
      rw [QcE _ ha place h8 h9 h10 s hs] at h1
      obtain⟨e1,e2⟩:=U8 h1
      try simp only
      rw [GM h8 h9 h10,hi0]
      exact⟨e2,e1,by rw [yM];simp⟩
     ·obtain⟨hi0,h1,hne⟩:=(show i=[] /\YX _ place (kw s.slots)=(t,e)/\e≠QJ from hr)
      rw [QcE _ ha place h8 h9 h10 s hs] at h1
      obtain⟨e1,e2⟩:=U8 h1
      try simp only
      rw [GM h8 h9 h10,hi0]
      exact⟨e2,fun hc=>hne (by rw [<-e2];exact Gj _ place s (by rw [e2];exact hc)),e1,by rw [yM];simp⟩
theorem xM (input:List Int):∀(l:List Qa),Jm l->∀(place:Int),VA input (Vn Qs l place) (fun s=>QM input l place s)
 | [],_,place=>VA.skip
 |a::l,h,place=>by
  rw [Wh] at h
  have h1:=(Qa.ex_run input a (h a K0) place).seq (xM input l ((Wh l).2 (fun b hb=>h b (I5 _ hb))) (place+a.size))
  rw [Vn]
  exact h1
end
theorem uF {P:Nat->Prop} (h:∃n,P n):∃n,P n/\∀m,P m->n<=m:=by
 obtain⟨n,hn⟩:=h
 induction n using Nat.strongRecOn with
 | _ n ih=>
  by_cases hm:∃m,m<n/\P m
  ·obtain⟨m,h1,h2⟩:=hm
   exact ih m h1 h2
  ·exact⟨n,hn,fun m h1=>by
    by_cases h2:n<=m
    ·exact h2
    ·exact absurd ⟨m,by omega,h1⟩ hm⟩
theorem uN:∀(n:Nat) (X:List Int->Prop),(∀i,X i->∀x∈i,0<=x)->(∃i,X i/\i.length=n)->∃i,X i/\i.length=n/\∀j,X j->j.length=n->W7 i j<=0
 |0,X,_,⟨i,hi,h0⟩=>⟨i,hi,h0,fun j _ hj=>by rw [I6 h0,I6 hj];simp [W7]⟩
 | n+1,X,hp,⟨i,hi,hl⟩=>by
  obtain⟨a,r,rfl⟩:=List.exists_cons_of_length_pos (by omega:0<i.length)
  obtain⟨m,⟨b,r',hb,hX,hr'⟩,hmin⟩:=uF (P:=fun m=>∃(b:Int) (r:List Int),b.toNat=m/\X (b::r)/\r.length=n) ⟨a.toNat,a,r,rfl,hi,by simpa using hl⟩
  have hb0:=hp _ hX b K0
  obtain⟨t,ht,htl,hmin2⟩:=uN n (fun r=>X (b::r)) (fun r hr x hx=>hp _ hr x (I5 _ hx)) ⟨r',hX,hr'⟩
  refine⟨b::t,ht,by simp [htl],fun j hj hjl=>?_⟩
  obtain⟨c,u,rfl⟩:=List.exists_cons_of_length_pos (by omega:0<j.length)
  have hc0:=hp _ hj c K0
  have hle:=hmin c.toNat ⟨c,u,rfl,hj,by simpa using hjl⟩
  rw [W7]
  by_cases h1:b<c
  ·rw [if_pos h1];omega
  ·have hbc:b=c:=by omega
   rw [if_neg h1,if_neg (by omega)]
   exact hmin2 u (by rw [hbc];exact hj) (by simpa using hjl)
theorem jg {X:List Int->Prop} (hp:∀i,X i->∀x∈i,0<=x) (h:∃i,X i):∃i,XC X i:=by
 obtain⟨i0,h0⟩:=h
 obtain⟨n,⟨i,hi,hl⟩,hmin⟩:=uF (P:=fun n=>∃i,X i/\i.length=n) ⟨_,i0,h0,rfl⟩
 obtain⟨t,ht,htl,hmin2⟩:=uN n X hp ⟨i,hi,hl⟩
 refine⟨t,ht,fun j hj=>?_⟩
 have hle:=hmin j.length ⟨j,hj,rfl⟩
 unfold Wy
 by_cases h1:t.length<j.length
 ·rw [if_pos h1];omega
 ·rw [if_neg h1,if_neg (by omega)]
  exact hmin2 j hj (by omega)
def Dig (i:List Int):Prop:=∀x∈i,0<=x/\x<=3
structure XM (X:Rn (YY ByteArray)):Prop where
 ok:∀ {s i t},X.ok s i t->Dig i
 bad:∀ {s i t e},X.bad s i t e->Dig i
theorem Dig.app {i j:List Int} (h:Dig i) (h':Dig j):Dig (i++j):=fun x hx=>(F4.1 hx).elim (h x) (h' x)
section
variable {X Y:Rn (YY ByteArray)}
theorem XM.skip:XM Rn.skip:=⟨fun {s i t} h=>by
 have h1:i=[]:=h.1
 rw [h1];exact fun x hx=>(by cases hx),fun h=>h.elim⟩
theorem XM.seq (h:XM X) (h':XM Y):XM (X.seq Y) where
 ok h1:=by obtain⟨i1,i2,u,rfl,a,b⟩:=h1;exact(h.ok a).app (h'.ok b)
 bad h1:=by
  rcases h1 with a|⟨i1,i2,u,rfl,a,b⟩
  ·exact h.bad a
  ·exact(h.ok a).app (h'.bad b)
theorem XM.alt (h:XM X) (h':XM Y):XM (X.alt Y):=⟨fun h1=>h1.elim h.ok h'.ok,fun h1=>h1.elim h.bad h'.bad⟩
theorem XM.took (h:XM X) {n:Int} (h0:0<=n) (h3:n<=3):XM (X.took n) where
 ok h1:=by
  obtain⟨j,rfl,a⟩:=h1
  exact fun x hx=>(C7.1 hx).elim (fun e=>by rw [e];exact⟨h0,h3⟩) (h.ok a x)
 bad h1:=by
  obtain⟨j,rfl,a⟩:=h1
  exact fun x hx=>(C7.1 hx).elim (fun e=>by rw [e];exact⟨h0,h3⟩) (h.bad a x)
theorem XM.pow (h:XM X):∀n,XM (X.pow n)
 |0=>XM.skip
 |n+1=>(XM.pow h n).seq h
theorem XM.loop (h:XM X):XM X.loop where
 ok h1:=by obtain⟨n,hn,a⟩:=h1;exact((h.pow n).took (by omega) (by omega)).ok a
 bad h1:=by obtain⟨n,hn,a⟩:=h1;exact((h.pow n).took (by omega) (by omega)).bad a
theorem XM.tried (h:XM X) (h':XM Y):XM (X.tried Y) where
 ok h1:=by
  rcases h1 with a|⟨i1,i2,u,e,rfl,a,_,b⟩
  ·exact h.ok a
  ·exact(h.bad a).app (h'.ok b)
 bad h1:=by
  rcases h1 with ⟨a,_⟩|⟨i1,i2,u,e,rfl,a,_,b⟩
  ·exact h.bad a
  ·exact(h.bad a).app (h'.bad b)
end
theorem XM.step (a:Qa) (p:Int):XM (Qs a p):=⟨fun {s i t} h=>by
 have h1:i=[]:=h.1
 rw [h1];exact fun x hx=>(by cases hx),fun {s i t e} h=>by
 have h1:i=[]:=h.1
 rw [h1];exact fun x hx=>(by cases hx)⟩
mutual
theorem Qa.ex_dig:∀(a:Qa) (p:Int),XM (a.ex Qs p)
 | .mk op slot other word call face A B,p=>by
  have gA:=fun p=>WF A p
  have gB:=fun p=>WF B p
  rw [Qa.ex_eq]
  by_cases h8:(Qa.mk op slot other word call face A B).op=8
  ·rw [if_pos h8]
   exact((gA _).took (by omega) (by omega)).alt ((gB _).took (by omega) (by omega))
  ·by_cases h9:(Qa.mk op slot other word call face A B).op=9
   ·rw [if_neg h8,if_pos h9]
    exact(gA _).loop
   ·by_cases h10:(Qa.mk op slot other word call face A B).op=10
    ·rw [if_neg h8,if_neg h9,if_pos h10]
     exact(gA _).tried (gB _)
    ·rw [if_neg h8,if_neg h9,if_neg h10]
     exact XM.step _ p
theorem WF:∀(l:List Qa) (p:Int),XM (Vn Qs l p)
 | [],p=>by rw [Vn];exact XM.skip
 |a::l,p=>by rw [Vn];exact(Qa.ex_dig a p).seq (WF l _)
end
/-! ### the program's rounds -/
section
variable {κ σ:Type} {F:σ->List Int->Prop} {R:σ->κ->List Int->Prop}
end
def YQ:List Ql:=[WM,WM,WM]
theorem Ud:QH YQ:=⟨rfl,fun k hk=>by
 have hk3:k<3:=hk
 rcases(show k=0∨k=1∨k=2 by omega) with rfl|rfl|rfl<;>exact GK⟩
theorem jy {l:List Ql} {p:List Qa} {input:List Int} (hl:QH l) (hp:Xn p):uj l p input=((QM input p 0 ⟨l,0⟩).2,(QM input p 0 ⟨l,0⟩).1.slots,(QM input p 0 ⟨l,0⟩).1.taken):=by
 unfold uj;rw [if_pos ⟨hl,hp⟩]
theorem Qb0 {i:List Int} (h:Dig i):qg i 0 i:=fun j hj=>by
 unfold Wn
 have e:((0:Int)+j).toNat=j:=by omega
 rw [e,F8 hj]
 have:=h _ (I4 hj)
 simp only
 omega
theorem Qav {l:List Ql} {p:List Qa} {i:List Int} {t:YY ByteArray} {e:Xo} (hl:QH l) (hp:Xn p) (h:(Vn Qs p 0).bad (kw l) i t e):(uj l p i).1=e/\(uj l p i).2.2=i.length/\kw (uj l p i).2.1=t:=by
 rw [jy hl hp]
 obtain⟨h1,_,h2,h3⟩:=(xM i p hp.2.2 0).bad (s:=⟨l,0⟩) hl h (Qb0 ((WF p 0).bad h))
 exact⟨h1,h3.trans (Int.zero_add _),h2⟩
end Go.Proofs.YtfjhdnjlhjimeaaGreatDoor
