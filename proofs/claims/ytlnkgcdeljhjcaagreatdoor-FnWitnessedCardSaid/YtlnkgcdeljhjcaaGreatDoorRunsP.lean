/- Plain Lean. Conditions: as stated. -/
import Derived.Test.YtlnkgcdeljhjcaaGreatDoorPlains
import Derived.Test.YtlnkgcdeljhjcaaGreatDoorMakes
namespace Go.Proofs.YtlnkgcdeljhjcaaGreatDoor
open Go.RowKit

theorem uW:∀l:List Int,WE l l=0
 | []=>rfl
 |a::l=>by rw [WE,if_neg (by omega),if_neg (by omega)];exact uW l
theorem kh:∀ {l m:List Int},l.length=m.length->WE l m=0->l=m
 | [],[],_,_=>rfl
 | a::l,b::m,h,e=>by
  rw [WE] at e
  split at e
  ·omega
  ·split at e
   ·omega
   ·have hab:a=b:=by omega
    rw [hab,kh (by simpa using h) e]
theorem ux:∀ {l m:List Int},l.length=m.length->(WE l m<=0↔0<=WE m l)
 | [],[],_=>by simp [WE]
 | a::l,b::m,h=>by
  rw [WE,WE]
  by_cases h1:a<b
  ·rw [if_pos h1,if_neg (by omega),if_pos h1];omega
  ·by_cases h2:b<a
   ·rw [if_neg h1,if_pos h2,if_pos h2];omega
   ·rw [if_neg h1,if_neg h2,if_neg h2,if_neg h1];exact ux (by simpa using h)
theorem ve:∀ {l m n:List Int},l.length=m.length->m.length=n.length->WE l m<=0->WE m n<=0->WE l n<=0
 | [],[],[],_,_,_,_=>by simp [WE]
 | a::l,b::m,c::n,h,h',e,e'=>by
  rw [WE] at e e' ⊢
  by_cases h1:a<c
  ·rw [if_pos h1];omega
  ·rw [if_neg h1]
   split at e
   ·split at e'
    ·omega
    ·split at e'
     ·omega
     ·omega
   ·split at e
    ·omega
    ·split at e'
     ·omega
     ·split at e'
      ·omega
      ·rw [if_neg (by omega)]
       exact ve (by simpa using h) (by simpa using h') e e'
theorem WZ (l:List Int):YY l l=0:=by unfold YY;rw [if_neg (by omega),if_neg (by omega),uW]
theorem Qd6 {l m:List Int} (h:YY l m=0):l=m:=by
 unfold YY at h
 split at h
 ·omega
 ·split at h
  ·omega
  ·exact kh (by omega) h
theorem zA (l m:List Int):YY l m<=0↔0<=YY m l:=by
 unfold YY
 by_cases h1:l.length<m.length
 ·rw [if_pos h1,if_neg (by omega),if_pos h1];omega
 ·by_cases h2:m.length<l.length
  ·rw [if_neg h1,if_pos h2,if_pos h2];omega
  ·rw [if_neg h1,if_neg h2,if_neg h2,if_neg h1];exact ux (by omega)
theorem Kx {l m n:List Int} (h:YY l m<=0) (h':YY m n<=0):YY l n<=0:=by
 unfold YY at h h' ⊢
 by_cases h1:l.length<n.length
 ·rw [if_pos h1];omega
 ·rw [if_neg h1]
  split at h
  ·split at h'
   ·omega
   ·split at h'<;>omega
  ·split at h
   ·omega
   ·split at h'
    ·omega
    ·split at h'
     ·omega
     ·rw [if_neg (by omega)]
      exact ve (by omega) (by omega) h h'
theorem QdO {l m:List Int} (h:YY l m<=0) (h':YY m l<=0):l=m:=Qd6 (by have:=(zA m l).1 h';omega)
theorem zX:∀ {l l':List Int} (m m':List Int),l.length=l'.length->WE (l++m) (l'++m')=if WE l l'=0 then WE m m' else WE l l'
 | [],[],m,m',_=>by simp [WE]
 | a::l,b::l',m,m',h=>by
  rw [List.cons_append,List.cons_append,WE,WE]
  by_cases h1:a<b
  ·rw [if_pos h1,if_pos h1];rfl
  ·by_cases h2:b<a
   ·rw [if_neg h1,if_pos h2,if_neg h1,if_pos h2];rfl
   ·rw [if_neg h1,if_neg h2,if_neg h1,if_neg h2]
    exact zX m m' (by simpa using h)
theorem uY {l l' m m':List Int} (h:YY l l'<=0) (h':YY m m'<=0):YY (l++m) (l'++m')<=0:=by
 unfold YY at h h' ⊢
 rw [List.length_append,List.length_append]
 by_cases h1:l.length+m.length<l'.length+m'.length
 ·rw [if_pos h1];omega
 ·rw [if_neg h1]
  split at h
  ·split at h'<;>(try split at h')<;>omega
  ·split at h
   ·omega
   ·split at h'
    ·omega
    ·split at h'
     ·omega
     ·rw [if_neg (by omega),zX _ _ (by omega)]
      split<;>omega

def XF (X:List Int->Prop) (i:List Int):Prop:=X i/\∀j,X j->YY i j<=0
theorem XF.one {X:List Int->Prop} {i j:List Int} (h:XF X i) (h':XF X j):i=j:=QdO (h.2 _ h'.1) (h'.2 _ h.1)
section
variable {κ:Type} {E E':List (κ×List Int)} {X Y:κ->List Int->Prop}
structure QfT (E:List (κ×List Int)) (X:κ->List Int->Prop):Prop where
 least:∀ {k i},(k,i)∈E->XF (X k) i
 all:∀ {k i},X k i->∃j,(k,j)∈E
theorem QfT.one {k0:κ} {i0:List Int}:QfT [(k0,i0)] (fun k i=>k=k0/\i=i0):=
 ⟨fun h=>by
  obtain⟨rfl,rfl⟩:=Prod.mk.inj (List.mem_singleton.1 h)
  exact⟨⟨rfl,rfl⟩,fun j hj=>by rw [hj.2,WZ];omega⟩,fun h=>⟨i0,by rw [h.1];exact List.mem_singleton.2 rfl⟩⟩
end
structure Rn (σ:Type) where
 ok:σ->List Int->σ->Prop
 bad:σ->List Int->σ->XH->Prop
section
variable {σ τ:Type}
def Rn.skip:Rn σ:=⟨fun s i t=>i=[] /\t=s,fun _ _ _ _=>False⟩
def Rn.seq (X Y:Rn σ):Rn σ:=⟨fun s i t=>∃i1 i2 u,i=i1++i2/\X.ok s i1 u/\Y.ok u i2 t,fun s i t e=>X.bad s i t e∨∃i1 i2 u,i=i1++i2/\X.ok s i1 u/\Y.bad u i2 t e⟩
def Rn.alt (X Y:Rn σ):Rn σ:=⟨fun s i t=>X.ok s i t∨Y.ok s i t,fun s i t e=>X.bad s i t e∨Y.bad s i t e⟩
def Rn.took (n:Int) (X:Rn σ):Rn σ:=⟨fun s i t=>∃j,i=n::j/\X.ok s j t,fun s i t e=>∃j,i=n::j/\X.bad s j t e⟩
def Rn.pow (X:Rn σ):Nat->Rn σ
 |0=>Rn.skip
 |n+1=>Rn.seq (Rn.pow X n) X
def Rn.loop (X:Rn σ):Rn σ:=⟨fun s i t=>∃n:Nat,n<=3/\((X.pow n).took n).ok s i t,fun s i t e=>∃n:Nat,n<=3/\((X.pow n).took n).bad s i t e⟩
def Rn.tried (X Y:Rn σ):Rn σ:=⟨fun s i t=>X.ok s i t∨∃i1 i2 u e,i=i1++i2/\X.bad s i1 u e/\e.code=1/\Y.ok u i2 t,
 fun s i t e=>(X.bad s i t e/\e.code≠1)∨∃i1 i2 u e',i=i1++i2/\X.bad s i1 u e'/\e'.code=1/\Y.bad u i2 t e⟩
mutual
def Qa.ex (f:Qa->Int->Rn σ):Qa->Int->Rn σ
 | .mk op slot other word call face A B,p=>
  if op=8 then Rn.alt ((Vu f A (p+1)).took 1) ((Vu f B (p+1+Qe A)).took 0)
  else if op=9 then(Vu f A (p+1)).loop
  else if op=10 then(Vu f A (p+1)).tried (Vu f B (p+1+Qe A))
  else f (.mk op slot other word call face A B) p
def Vu (f:Qa->Int->Rn σ):List Qa->Int->Rn σ
 | [],_=>Rn.skip
 |a::l,p=>(a.ex f p).seq (Vu f l (p+a.size))
end
theorem Qa.ex_eq (f:Qa->Int->Rn σ) (a:Qa) (p:Int):a.ex f p=
  if a.op=8 then Rn.alt ((Vu f a.A (p+1)).took 1) ((Vu f a.B (p+1+Qe a.A)).took 0)
  else if a.op=9 then(Vu f a.A (p+1)).loop
  else if a.op=10 then(Vu f a.A (p+1)).tried (Vu f a.B (p+1+Qe a.A))
  else f a p:=by
 cases a;rw [Qa.ex];rfl
variable {F:σ->List Int->Prop} {X Y:Rn σ}
end
def ZL (s:Qm):ByteArray:=if s.full then ZV (QU s.part) ⟨#[32]⟩ else⟨#[]⟩
def YB (l:List Qm):List ByteArray:=l.map ZL
structure W3 (σ:Type) where
 reach:σ->σ->Prop
 ask:σ->Nat->Int->Prop
 fail:σ->Prop
mutual
def Qa.AllA (G:Qa->Prop):Qa->Prop
 | .mk op slot other word call face A B=>G (.mk op slot other word call face A B)/\Qhk G A/\Qhk G B
def Qhk (G:Qa->Prop):List Qa->Prop
 | []=>True
 |a::l=>a.AllA G/\Qhk G l
end
section
variable {σ τ:Type}
def W3.skip:W3 σ:=⟨fun s t=>t=s,fun _ _ _=>False,fun _=>False⟩
def W3.seq (X Y:W3 σ):W3 σ:=⟨fun s t=>∃u,X.reach s u/\Y.reach u t,fun s i w=>X.ask s i w∨∃u,X.reach s u/\Y.ask u i w,fun s=>X.fail s∨∃u,X.reach s u/\Y.fail u⟩
def W3.pow (X:W3 σ):Nat->W3 σ
 |0=>W3.skip
 |n+1=>W3.seq (W3.pow X n) X
structure Sim (I:σ->Prop) (α:σ->τ) (X:W3 σ) (Y:W3 τ):Prop where
 keep:∀ {s t},I s->X.reach s t->I t
 fwd:∀ {s t},I s->X.reach s t->Y.reach (α s) (α t)
 back:∀ {s t'},I s->Y.reach (α s) t'->∃t,X.reach s t/\α t=t'
 ask:∀ {s i w},I s->(X.ask s i w↔Y.ask (α s) i w)
 fail:∀ {s},I s->(X.fail s↔Y.fail (α s))
variable {I:σ->Prop} {α:σ->τ} {X X':W3 σ} {Y Y':W3 τ}
theorem Sim.skip:Sim I α W3.skip W3.skip where
 keep hs h:=by have:_=_:=h;rwa [this]
 fwd _ h:=by have:_=_:=h;rw [this];rfl
 back _ h:=by have:_=_:=h;exact⟨_,rfl,this.symm⟩
 ask _:=Iff.rfl
 fail _:=Iff.rfl
theorem Sim.seq (h:Sim I α X Y) (h':Sim I α X' Y'):Sim I α (W3.seq X X') (W3.seq Y Y') where
 keep hs h1:=by obtain⟨u,a,b⟩:=h1;exact h'.keep (h.keep hs a) b
 fwd hs h1:=by obtain⟨u,a,b⟩:=h1;exact⟨α u,h.fwd hs a,h'.fwd (h.keep hs a) b⟩
 back hs h1:=by
  obtain⟨u',a,b⟩:=h1
  obtain⟨u,a1,rfl⟩:=h.back hs a
  obtain⟨t,b1,rfl⟩:=h'.back (h.keep hs a1) b
  exact⟨t,⟨u,a1,b1⟩,rfl⟩
 ask hs:=by
  constructor
  ·rintro(h1|⟨u,a,b⟩)
   ·exact .inl ((h.ask hs).1 h1)
   ·exact .inr ⟨α u,h.fwd hs a,(h'.ask (h.keep hs a)).1 b⟩
  ·rintro(h1|⟨u',a,b⟩)
   ·exact .inl ((h.ask hs).2 h1)
   ·obtain⟨u,a1,rfl⟩:=h.back hs a
    exact .inr ⟨u,a1,(h'.ask (h.keep hs a1)).2 b⟩
 fail hs:=by
  constructor
  ·rintro(h1|⟨u,a,b⟩)
   ·exact .inl ((h.fail hs).1 h1)
   ·exact .inr ⟨α u,h.fwd hs a,(h'.fail (h.keep hs a)).1 b⟩
  ·rintro(h1|⟨u',a,b⟩)
   ·exact .inl ((h.fail hs).2 h1)
   ·obtain⟨u,a1,rfl⟩:=h.back hs a
    exact .inr ⟨u,a1,(h'.fail (h.keep hs a1)).2 b⟩
theorem Sim.pow (h:Sim I α X Y):∀n,Sim I α (X.pow n) (Y.pow n)
 |0=>Sim.skip
 |n+1=>(Sim.pow h n).seq h
end
structure YM (α:Type) where
 a:α
 b:α
 c:α
section
variable {α β:Type}
def YM.get (t:YM α) (i:Int):α:=if i=0 then t.a else if i=1 then t.b else t.c
def YM.set (t:YM α) (i:Int) (x:α):YM α:=if i=0 then⟨x,t.b,t.c⟩ else if i=1 then⟨t.a,x,t.c⟩ else⟨t.a,t.b,x⟩
def YM.map (f:α->β) (t:YM α):YM β:=⟨f t.a,f t.b,f t.c⟩
def YM.All (P:α->Prop) (t:YM α):Prop:=P t.a/\P t.b/\P t.c
theorem YM.map_get (f:α->β) (t:YM α) (i:Int):(t.map f).get i=f (t.get i):=by unfold YM.get YM.map;split<;>(try split)<;>rfl
theorem YM.set_get (t:YM α) (i:Int):t.set i (t.get i)=t:=by unfold YM.set YM.get;split<;>(try split)<;>rfl
theorem YM.All.get {P:α->Prop} {t:YM α} (h:t.All P) (i:Int):P (t.get i):=by unfold YM.get;split;exact h.1;split;exact h.2.1;exact h.2.2
end

inductive Kn where
 |no
 |giv (i:Nat)
 |known (layers:Nat) (face:Int)
structure Qh3 where
 given:Nat
 shape:ByteArray
def Qhp (s:ByteArray):Nat:=s.data.toList.count 32
def yD:ByteArray:=⟨#[32]⟩

def Kj (a:Qa):Int:=if a.op=6 then a.face else if a.op=7 then ZQ a.call.method else((Qk a.word).getD (0,0)).1
theorem UG {α:Type} {s:List UInt8}:∀ {l:List (List UInt8×α)} {x:α},look s l=some x->(s,x)∈l
 | [],_,h=>by cases h
 | (n,y)::r,x,h=>by
  rw [look] at h
  by_cases e:s=n
  ·rw [if_pos e] at h
   cases h
   rw [e]
   exact List.mem_cons_self
  ·rw [if_neg e] at h
   exact List.mem_cons_of_mem _ (UG h)
theorem WX (s:ByteArray):s.toList=s.data.toList:=ByteArray.toList_eq s
theorem Qen {s:ByteArray} (h:Qq s≠none):s.size≠0/\Qhp s=0:=by
 obtain⟨x,hx⟩:=Option.ne_none_iff_exists'.1 h
 have hm:=UG hx
 rw [WX] at hm
 have hall:∀p∈kinds,p.1.length≠0/\p.1.count 32=0:=by decide
 have h1:=hall _ hm
 exact⟨by rw [<-Zr];exact h1.1,h1.2⟩
theorem Qc5 {s:ByteArray} (h:Qk s≠none):s.size≠0/\(32:UInt8)∉s.data.toList:=by
 obtain⟨x,hx⟩:=Option.ne_none_iff_exists'.1 h
 have hm:=UG hx
 rw [WX] at hm
 have hall:∀p∈Yh,p.1.length≠0/\p.1.count 32=0:=by decide
 have h1:=hall _ hm
 exact⟨by rw [<-Zr];exact h1.1,List.count_eq_zero.1 h1.2⟩
theorem QdR (s w:ByteArray):(s++(yD++w)).data.toList=s.data.toList++32::w.data.toList:=by
 simp [ByteArray.data_append,yD]
/-! ### texts of words -/
theorem jd (c:UInt8):∀(l cur:List UInt8),Lib.join (Zw c cur l) [c]=cur++l
 | [],cur=>by rw [Zw];simp [Lib.join_one]
 | b::l,cur=>by
  rw [Zw]
  by_cases h:b=c
  ·rw [if_pos h,Lib.join_cons]
   have ih:=jd c l []
   have hne:Zw c [] l≠ []:=fun e=>by have:=yG c l [];rw [e] at this;simp at this
   obtain⟨x,r,e⟩:=List.exists_cons_of_ne_nil hne
   rw [e] at ih ⊢
   rw [Lib.join_cons] at ih
   have e2:Lib.joinTail [c] (x::r)=c::(x++Lib.joinTail [c] r):=by simp [Lib.joinTail]
   rw [e2,ih,h]
   simp
  ·rw [if_neg h,jd c l (cur++ [b])]
   simp
theorem Qda (s:ByteArray):ZV (QM 32 s) yD=s:=by
 unfold ZV bl QM yD
 rw [List.map_map,show((fun x:ByteArray=>x.data.toList) ∘ Ub)=id from funext fun l=>by simp [Ub],List.map_id]
 have:=jd 32 s.data.toList []
 show(⟨(Lib.join (Zw 32 [] s.data.toList) [32]).toArray⟩:ByteArray)=s
 rw [this]
 simp
theorem QfD (c:UInt8):∀(x l cur:List UInt8),c∉x->Zw c cur (x++c::l)=(cur++x)::Zw c [] l
 | [],l,cur,_=>by rw [List.nil_append,Zw,if_pos rfl];simp
 |b::x,l,cur,h=>by
  rw [List.cons_append,Zw,if_neg (fun e=>h (by rw [e];exact List.mem_cons_self)),QfD c x l (cur++ [b]) (fun hx=>h (List.mem_cons_of_mem _ hx))]
  simp
theorem wk:∀(x:ByteArray) (r:List ByteArray),(∀y∈x::r,(32:UInt8)∉y.data.toList)->QM 32 (ZV (x::r) yD)=x::r
 |x,[],h=>by
  rw [Kc]
  exact zh (h x List.mem_cons_self)
 | x,y::r,h=>by
  have ih:=wk y r (fun z hz=>h z (List.mem_cons_of_mem _ hz))
  have e1:(ZV (x::y::r) yD).data.toList=x.data.toList++32::(ZV (y::r) yD).data.toList:=by
   unfold ZV bl
   simp only [List.map_cons]
   rw [Lib.join_cons,Lib.join_cons]
   simp [Lib.joinTail,yD]
  unfold QM at ih ⊢
  rw [e1,QfD 32 _ _ _ (h x List.mem_cons_self)]
  simp only [List.map_cons,List.nil_append]
  rw [ih]
  rfl
theorem Qbj (s:ByteArray):QM 32 s≠ []:=fun e=>by have:=(GJ 32 s).1;rw [e] at this;simp at this

/-! ### parts made from recipes -/
theorem G5 (p:Qh) (hp:Qp p) (n:ByteArray) (x:Int×Int) (hx:Qk n=some x):
  (3<=p.layers.length/\Zg p n=(p,Qj 5 0 0 0))∨(¬3<=p.layers.length/\¬ZN (Qs p p.layers.length) x.1/\Zg p n=(p,Qj 1 0 x.1 (Qs p p.layers.length)))∨
  (¬3<=p.layers.length/\ZN (Qs p p.layers.length) x.1/\Zg p n=(⟨p.core,p.layers++ [⟨n,0⟩]⟩,Qj 0 x.2 0 0)):=by
 by_cases h:3<=p.layers.length
 ·exact .inl ⟨h,Wl hx hp h⟩
 ·by_cases ho:ZN (Qs p p.layers.length) x.1
  ·exact .inr (.inr ⟨h,ho,W7 hx hp h ho⟩)
  ·exact .inr (.inl ⟨h,ho,Vb hx hp h ho⟩)
theorem Qb9 (p:Qh) (y:ZW):Qs ⟨p.core,p.layers++ [y]⟩ (p.layers.length+1)=((Qk y.name).getD (0,0)).2:=by
 rw [YV _ _ (by omega) (by simp)]
 simp
theorem wI (p:Qh) (y:ZW) (k:Nat) (hk:k<=p.layers.length):Qs ⟨p.core,p.layers++ [y]⟩ k=Qs p k:=by
 rcases Nat.eq_zero_or_pos k with rfl|h0
 ·rfl
 ·rw [YV _ k h0 (by simp;omega),YV p k h0 (by omega)]
  simp only
  rw [List.getElem_append_left (by omega)]
theorem xa {p:Qh} (hp:Qp p) {n:ByteArray} {x:Int×Int} (hx:Qk n=some x) (h3:¬3<=p.layers.length) (ho:ZN (Qs p p.layers.length) x.1):Qp ⟨p.core,p.layers++ [⟨n,0⟩]⟩:=by
 refine⟨hp.1,by simp;omega,fun k hk=>?_⟩
 have hk':k<p.layers.length+1:=by simpa using hk
 by_cases hl:k<p.layers.length
 ·obtain⟨y,h1,h2,h4,h5⟩:=hp.2.2 k hl
  refine⟨y,?_,?_,?_,?_⟩
  ·simpa [List.getElem_append_left hl] using h1
  ·rw [wI p _ k (by omega)];exact h2
  ·simpa [List.getElem_append_left hl] using h4
  ·simpa [List.getElem_append_left hl] using h5
 ·obtain rfl:k=p.layers.length:=by omega
  refine⟨x,by simpa using hx,?_,?_,?_⟩
  ·rw [wI p _ _ (Nat.le_refl _)];exact ho
  ·simp [ZM]
  ·simp
theorem Uy:∀(l:List ByteArray) (p:Qh),Qp p->(ZT p l).2.code=0->Qp (ZT p l).1/\QU (ZT p l).1=QU p++l/\(ZT p l).2.value=Qs (ZT p l).1 (ZT p l).1.layers.length
 | [],p,hp,_=>⟨hp,by rw [ZT];simp,rfl⟩
 | n::r,p,hp,h=>by
  rw [ZT] at h ⊢
  by_cases hc:(Zg p n).2.code=0
  ·rw [if_pos hc] at h ⊢
   cases hx:Qk n with
   |none=>rw [W5 hx] at hc;cases hc
   | some x=>
    rcases G5 p hp n x hx with ⟨_,e⟩|⟨_,_,e⟩|⟨h3,ho,e⟩
    ·rw [e] at hc;cases hc
    ·rw [e] at hc;cases hc
    ·rw [e] at h ⊢
     obtain⟨h1,h2,h4⟩:=Uy r _ (xa hp hx h3 ho) h
     exact⟨h1,by rw [h2];simp [QU],h4⟩
  ·rw [if_neg hc] at h
   exact absurd h hc
theorem Gb:∀(l:List ByteArray) (p:Qh),Qp p->(∀(k:Nat) (h:k<l.length),∃x,Qk l[k]=some x/\ZN (if k=0 then Qs p p.layers.length else((Qk (l[k-1]'(by omega))).getD (0,0)).2) x.1)->p.layers.length+l.length<=3->(ZT p l).2.code=0
 | [],_,_,_,_=>rfl
 | n::r,p,hp,h,h3=>by
  obtain⟨x,hx,ho⟩:=h 0 (by simp)
  simp only [List.getElem_cons_zero,if_true] at hx ho
  have e:=W7 hx hp (by simp at h3;omega) ho
  rw [ZT,e,if_pos]
  ·refine Gb r _ (xa hp hx (by simp at h3;omega) ho) (fun k hk=>?_) (by simp at h3 ⊢;omega)
   obtain⟨y,hy,hoy⟩:=h (k+1) (by simp;omega)
   refine⟨y,by simpa using hy,?_⟩
   rw [if_neg (by omega)] at hoy
   rcases Nat.eq_zero_or_pos k with rfl|h0
   ·simp only [if_true,List.length_append,List.length_cons,List.length_nil,Nat.zero_add]
    rw [Qb9]
    simpa using hoy
   ·rw [if_neg (by omega)]
    have e1:(n::r)[k+1-1]'(by simp;omega)=r[k-1]'(by omega):=by
     rw [List.getElem_cons]
     rw [dif_neg (by omega)]
     congr 1
    rw [e1] at hoy
    exact hoy
  ·rfl
theorem Qa3 {p:Qh} (hp:Qp p):(Yn (QU p)).2.code=0/\QU (Yn (QU p)).1=QU p/\Qp (Yn (QU p)).1:=by
 obtain⟨f,hf,_⟩:=hp.1
 unfold QU
 rw [UF hf]
 have hn:=Ko (k:=p.core.kind) (by rw [hf];simp)
 have hc:(ZT (Xw p.core.kind) (p.layers.map (·.name))).2.code=0:=by
  refine Gb _ _ hn (fun k hk=>?_) (by simpa [Xw] using hp.2.1)
  have hk':k<p.layers.length:=by simpa using hk
  obtain⟨x,hx,ho,_⟩:=hp.2.2 k hk'
  refine⟨x,by simpa using hx,?_⟩
  rcases Nat.eq_zero_or_pos k with rfl|h0
  ·simpa [Xw,Uz] using ho
  ·rw [if_neg (by omega)]
   rw [YV p k h0 (by omega)] at ho
   simpa using ho
 obtain⟨h1,h2,_⟩:=Uy _ _ hn hc
 refine⟨hc,?_,h1⟩
 have h3:=h2
 unfold QU at h3
 rw [h3]
 simp [Xw]
theorem jC {p:Qh} (hp:Qp p):∀y∈QU p,(32:UInt8)∉y.data.toList/\y.size≠0:=by
 intro y hy
 rcases List.mem_cons.1 hy with rfl|hy
 ·obtain⟨f,hf,_⟩:=hp.1
  have:=Qen (s:=p.core.kind) (by rw [hf];simp)
  exact⟨List.count_eq_zero.1 this.2,this.1⟩
 ·obtain⟨x,hx,rfl⟩:=List.mem_map.1 hy
  obtain⟨k,hk,rfl⟩:=List.getElem_of_mem hx
  obtain⟨z,hz,_⟩:=hp.2.2 k hk
  have:=Qc5 (s:=p.layers[k].name) (by rw [hz];simp)
  exact⟨this.2,this.1⟩
theorem wM {p:Qh} (hp:Qp p):VO (ZV (QU p) yD)=QU p:=by
 have hw:=jC hp
 have e:QU p=p.core.kind::p.layers.map (·.name):=rfl
 rw [e] at hw ⊢
 unfold VO
 rw [if_neg,wk _ _ (fun y hy=>(hw y hy).1)]
 rw [GP]
 have h1:=(hw _ List.mem_cons_self).2
 have h2:ZY (p.core.kind::p.layers.map (·.name))=p.core.kind.size+ZY (p.layers.map (·.name)):=by simp [ZY]
 omega
theorem xv {s:ByteArray} (h:s.size≠0):ZV (VO s) yD=s:=by
 unfold VO;rw [if_neg h];exact Qda s
theorem kt (x:ByteArray) (r:List ByteArray) (y:ByteArray):ZV (x::r++ [y]) yD=ZV (x::r) yD++(yD++y):=by
 refine ByteArray.ext (Array.toList_inj.1 ?_)
 unfold ZV bl
 simp only [List.map_append,List.map_cons,List.map_nil,List.cons_append]
 rw [Lib.join_cons,Lib.join_cons]
 simp [Lib.joinTail,yD,ByteArray.data_append]

/-! ### shapes -/
def WF (s:ByteArray):Prop:=s.size=0∨(Yn (VO s)).2.code=0
noncomputable def Gl (s:ByteArray):Qm:=(YU (VO s)).getD ⟨false,Zh⟩
def YM.list {α:Type} (t:YM α):List α:=[t.a,t.b,t.c]
theorem YM.list_set {α:Type} (t:YM α) {i:Int} (hi:QF i) (x:α):(t.set i x).list=t.list.set i.toNat x:=by
 obtain⟨h0,h2⟩:=hi
 rcases(show i=0∨i=1∨i=2 by omega) with rfl|rfl|rfl<;>rfl
theorem YM.list_inj {α:Type} {t u:YM α} (h:t.list=u.list):t=u:=by
 cases t;cases u;simp [YM.list] at h;simp [h]
theorem YM.slotAt (t:YM Qm) {i:Int} (hi:QF i):slotAt t.list i=t.get i:=by
 obtain⟨h0,h2⟩:=hi
 rcases(show i=0∨i=1∨i=2 by omega) with rfl|rfl|rfl<;>rfl
noncomputable def Yg (t:YM ByteArray):List Qm:=(t.map Gl).list
theorem UC {s:ByteArray} (h:s.size=0):Gl s=Wh:=by unfold Gl VO;rw [if_pos h];rfl
theorem VG {s:ByteArray} (h:s.size≠0) (hs:WF s):∃p,Gl s=⟨true,p⟩/\Qp p/\QU p=VO s/\p=(Yn (VO s)).1:=by
 have hc:=hs.resolve_left h
 have hne:VO s≠ []:=by unfold VO;rw [if_neg h];exact Qbj s
 unfold Gl
 obtain⟨k,r,e⟩:=List.exists_cons_of_ne_nil hne
 rw [e] at hc ⊢
 refine⟨(Yn (k::r)).1,by rw [YU,if_pos hc];rfl,?_⟩
 cases hk:Qq k with
 |none=>rw [Jd hk] at hc;cases hc
 |some f=>
  rw [UF hk] at hc ⊢
  obtain⟨h1,h2,_⟩:=Uy r _ (Ko (by rw [hk];simp)) hc
  exact⟨h1,by rw [h2];rfl,rfl⟩
theorem xj {s:ByteArray} (hs:WF s):Wb (Gl s):=by
 by_cases h:s.size=0
 ·rw [UC h];exact JF
 ·obtain⟨p,e,hp,_⟩:=VG h hs
  rw [e];exact JQ rfl hp
theorem JP {t:YM ByteArray} (h:t.All WF):QN (Yg t):=by
 refine⟨rfl,fun k hk=>?_⟩
 have hk3:k<3:=hk
 rcases(show k=0∨k=1∨k=2 by omega) with rfl|rfl|rfl
 ·exact xj h.1
 ·exact xj h.2.1
 ·exact xj h.2.2
theorem vQ {s:ByteArray} (h:s.size=0):(⟨#[]⟩:ByteArray)=s:=ByteArray.ext (Array.toList_inj.1 (by rw [List.eq_nil_of_length_eq_zero (show s.data.toList.length=0 by rw [Zr];exact h)]))
theorem VQ {s:ByteArray} (hs:WF s):ZL (Gl s)=s:=by
 by_cases h:s.size=0
 ·rw [UC h];exact vQ h
 ·obtain⟨p,e,_,hr,_⟩:=VG h hs
  rw [e]
  show(if true=true then ZV (QU p) yD else _)=s
  rw [if_pos rfl,hr,xv h]
theorem Ur {x:Qm} (hx:Wb x):WF (ZL x):=by
 unfold ZL
 by_cases h:x.full=true
 ·rw [if_pos h]
  have hp:=hx.1 h
  exact .inr (by
   have e:VO (ZV (QU x.part) ⟨#[32]⟩)=QU x.part:=wM hp
   rw [e];exact(Qa3 hp).1)
 ·rw [if_neg h];exact .inl rfl
theorem Gq {t:YM ByteArray} (h:t.All WF):YB (Yg t)=t.list:=by
 unfold YB Yg YM.list YM.map
 simp only [List.map_cons,List.map_nil]
 rw [VQ h.1,VQ h.2.1,VQ h.2.2]
theorem QbV (l:List Qm) (i:Nat) (x:Qm):YB (l.set i x)=(YB l).set i (ZL x):=by unfold YB;rw [List.map_set]
noncomputable def zF (s:ByteArray):Int:=(Yn (VO s)).2.value
noncomputable def YL (a:Qa) (place:Int) (s:YM ByteArray):YM ByteArray×XH:=
 if a.op=1 then(s.set a.slot a.word,QO)
 else if a.op=5 then(s.set a.slot ⟨#[]⟩,QO)
 else if a.op=4 then(s.set a.slot (s.get a.other),QO)
 else if(s.get a.slot).size=0 then(s,⟨2,place,0,0⟩)
 else if a.op=3 then(if 1<(VO (s.get a.slot)).length then s.set a.slot (ZV (VO (s.get a.slot)).dropLast yD) else s,QO)
 else if a.op=2/\3<(VO (s.get a.slot)).length then(s,QO)
 else if ¬ZN (zF (s.get a.slot)) (Kj a) then(s,⟨1,place,Kj a,zF (s.get a.slot)⟩)
 else(if a.op=2 then s.set a.slot (s.get a.slot++(yD++a.word)) else s,QO)
theorem Qas {s:ByteArray} {p:Qh} (h:s.size≠0) (hs:WF s) (e:p=(Yn (VO s)).1):zF s=Qs p p.layers.length:=by
 have hc:=hs.resolve_left h
 have hne:VO s≠ []:=by unfold VO;rw [if_neg h];exact Qbj s
 unfold zF
 obtain⟨k,r,e1⟩:=List.exists_cons_of_ne_nil hne
 rw [e1] at hc e ⊢
 cases hk:Qq k with
 |none=>rw [Jd hk] at hc;cases hc
 |some f=>
  rw [UF hk] at hc e ⊢
  rw [e]
  exact(Uy r _ (Ko (by rw [hk];simp)) hc).2.2
theorem Qb0 (p:Qh):(QU p).length=p.layers.length+1:=by simp [QU]
theorem jf {p q:Qh} (h:XJ p q):ZV (QU q) yD=ZV (QU p) yD:=by unfold QU;rw [h.1,h.2]
theorem we (a:Qa) (ha:ZG a) (place:Int) (h8:a.op≠8) (h9:a.op≠9) (h10:a.op≠10) (s:YM ByteArray) (hs:s.All WF) (t:Int):
  YB (ZH a place ⟨Yg s,t⟩).1.slots=(YL a place s).1.list/\(ZH a place ⟨Yg s,t⟩).2=(YL a place s).2:=by
 have hop:=qv ha
 have hsl:=VE ha
 have hat:slotAt (Yg s) a.slot=Gl (s.get a.slot):=by unfold Yg;rw [YM.slotAt _ hsl,YM.map_get]
 have hset:∀(x:Qm) (y:ByteArray),ZL x=y->YB ((Yg s).set a.slot.toNat x)=(s.set a.slot y).list:=fun x y hxy=>by
  rw [QbV,Gq hs,hxy,YM.list_set _ hsl]
 have hsame:∀(x:Qm),ZL x=s.get a.slot->YB ((Yg s).set a.slot.toNat x)=s.list:=fun x hx=>by rw [hset x _ hx,YM.set_get]
 unfold YL
 by_cases h1:a.op=1
 ·rw [UB h1,if_pos h1]
  refine⟨hset _ _ ?_,rfl⟩
  show(if true=true then ZV (QU (Xw a.word)) _ else _)=_
  rw [if_pos rfl]
  exact Kc _ _
 rw [if_neg h1]
 by_cases h5:a.op=5
 ·rw [Uw h5,if_pos h5]
  exact⟨hset _ _ rfl,rfl⟩
 rw [if_neg h5]
 by_cases h4:a.op=4
 ·rw [UL h4,if_pos h4]
  have ho:=((JZ h4).1 ha).2.1
  refine⟨hset _ _ ?_,rfl⟩
  unfold Yg
  rw [YM.slotAt _ ho,YM.map_get]
  exact VQ (hs.get _)
 rw [if_neg h4]
 by_cases hz:(s.get a.slot).size=0
 ·rw [if_pos hz,UA h1 h5 h4 (by rw [hat,UC hz];rfl)]
  exact⟨Gq hs,rfl⟩
 rw [if_neg hz]
 obtain⟨p,hsp,hp,hr,hpm⟩:=VG hz (hs.get a.slot)
 have hface:=Qas hz (hs.get a.slot) hpm
 have hlen:(VO (s.get a.slot)).length=p.layers.length+1:=by rw [<-hr,Qb0]
 have hfull:¬(slotAt (Yg s) a.slot).full=false:=by rw [hat,hsp];simp
 have hpart:(slotAt (Yg s) a.slot).part=p:=by rw [hat,hsp]
 have hold:ZV (QU p) yD=s.get a.slot:=by rw [hr,xv hz]
 have hshape:∀q:Qh,ZL ⟨true,q⟩=ZV (QU q) yD:=fun q=>rfl
 have hgo:∀(q:Qh) (y:ByteArray),(XR a p).1=q->(XR a p).2.code≠1->ZV (QU q) yD=y->YB (ZH a place ⟨Yg s,t⟩).1.slots=(s.set a.slot y).list/\(ZH a place ⟨Yg s,t⟩).2=QO:=fun q y hq hc hy=>by
  rw [UQ h1 h5 h4 hfull (by rw [hpart];exact hc),hpart,hq]
  exact⟨hset _ _ (by rw [hshape,hy]),rfl⟩
 have hstop:∀(want had:Int),(XR a p).1=p->(XR a p).2=Qj 1 0 want had->YB (ZH a place ⟨Yg s,t⟩).1.slots=s.list/\(ZH a place ⟨Yg s,t⟩).2=⟨1,place,want,had⟩:=fun want had hq hc=>by
  rw [UD h1 h5 h4 hfull (by rw [hpart,hc];rfl),hpart,hq,hc]
  exact⟨hsame _ (by rw [hshape,hold]),rfl⟩
 by_cases h3:a.op=3
 ·rw [if_pos h3]
  have hw:=JW (p:=p) h3
  by_cases h0:p.layers.length=0
  ·rw [if_neg (by omega)]
   have hu:Yi p=(p,false):=by unfold Yi;rw [if_pos (.inr h0)]
   have:=hgo p (s.get a.slot) (by rw [hw,hu]) (by rw [hw];simp [Qj]) hold
   rw [YM.set_get] at this
   exact this
  ·rw [if_pos (by omega)]
   have hu:Yi p=(⟨p.core,p.layers.take (p.layers.length-1)⟩,true):=by unfold Yi;rw [if_neg (by simp [hp,h0])]
   refine hgo ⟨p.core,p.layers.take (p.layers.length-1)⟩ _ (by rw [hw,hu]) (by rw [hw];simp [Qj]) ?_
   congr 1
   rw [<-hr]
   unfold QU
   rw [List.dropLast_eq_take,List.length_cons,List.length_map]
   obtain⟨m,hm⟩:∃m,p.layers.length=m+1:=⟨p.layers.length-1,by omega⟩
   rw [hm]
   simp [List.map_take]
 rw [if_neg h3]
 by_cases h2:a.op=2
 ·have hw:=JO (p:=p) h2
  obtain⟨x,hx⟩:=Option.ne_none_iff_exists'.1 ((yM h2).1 ha).2.1
  have hneed:Kj a=x.1:=by unfold Kj;rw [if_neg (by omega),if_neg (by omega),hx];rfl
  rcases G5 p hp a.word x hx with ⟨h3,e⟩|⟨h3,ho,e⟩|⟨h3,ho,e⟩
  ·rw [if_pos ⟨h2,by omega⟩]
   have:=hgo p (s.get a.slot) (by rw [hw,e]) (by rw [hw,e];simp [Qj]) hold
   rw [YM.set_get] at this
   exact this
  ·rw [if_neg (fun h=>h3 (by have:=h.2;omega)),hface,hneed,if_pos ho]
   exact hstop _ _ (by rw [hw,e]) (by rw [hw,e])
  ·rw [if_neg (fun h=>h3 (by have:=h.2;omega)),hface,hneed,if_neg (fun h=>h ho),if_pos h2]
   refine hgo _ _ (by rw [hw,e]) (by rw [hw,e];simp [Qj]) ?_
   have e2:QU ⟨p.core,p.layers++ [⟨a.word,0⟩]⟩=p.core.kind::p.layers.map (·.name)++ [a.word]:=by simp [QU]
   rw [e2,kt]
   congr 1
 rw [if_neg (fun h=>h2 h.1),if_neg h2]
 by_cases h6:a.op=6
 ·have hw:=KQ (p:=p) h6
  have hneed:Kj a=a.face:=by unfold Kj;rw [if_pos h6]
  rw [hface,hneed]
  by_cases ho:ZN (Qs p p.layers.length) a.face
  ·rw [if_neg (fun h=>h ho)]
   have:=hgo p (s.get a.slot) (by rw [hw]) (by rw [hw,if_pos ho];simp [Qj]) hold
   rw [YM.set_get] at this
   exact this
  ·rw [if_pos ho]
   exact hstop _ _ (by rw [hw]) (by rw [hw,if_neg ho])
 ·have h7:a.op=7:=by omega
  have hw:=JU (p:=p) h7
  have hneed:Kj a=ZQ a.call.method:=by unfold Kj;rw [if_neg h6,if_pos h7]
  have hcall:QZ a.call:=((jD h7).1 ha).2.1.1
  rw [hface,hneed]
  by_cases ho:ZN (Qs p p.layers.length) (ZQ a.call.method)
  ·rw [if_neg (fun h=>h ho)]
   have e:QC p a.call=XC p.layers.length p a.call:=by unfold QC;rw [if_neg (by simp [hp,hcall]),if_neg (fun h=>h ho)]
   have:=hgo (QC p a.call).1 (s.get a.slot) (by rw [hw]) (by rw [hw,e];exact Y7 _ _ _) (by rw [jf (VZ hp),hold])
   rw [YM.set_get] at this
   exact this
  ·rw [if_pos ho]
   have e:QC p a.call=(p,Qj 1 0 (ZQ a.call.method) (Qs p p.layers.length)):=by unfold QC;rw [if_neg (by simp [hp,hcall]),if_pos ho]
   exact hstop _ _ (by rw [hw,e]) (by rw [hw,e])
theorem Qdv (a:Qa) (ha:ZG a) (place:Int) (h8:a.op≠8) (h9:a.op≠9) (h10:a.op≠10) (s:YM ByteArray) (hs:s.All WF):(YL a place s).1.All WF:=by
 have h:=(we a ha place h8 h9 h10 s hs 0).1
 have hk:=qI (place:=place) (s:=⟨Yg s,0⟩) ha (JP hs)
 have hall:∀y∈(YL a place s).1.list,WF y:=fun y hy=>by
  rw [<-h] at hy
  obtain⟨x,hx,rfl⟩:=List.mem_map.1 hy
  obtain⟨k,hk',rfl⟩:=List.getElem_of_mem hx
  exact Ur (hk.2 k hk')
 exact⟨hall _ (by simp [YM.list]),hall _ (by simp [YM.list]),hall _ (by simp [YM.list])⟩
structure QhV where
 YB:YM ByteArray
 input:List Int
 fin:XH
variable {X Y:YM ByteArray×XH->List Int->Prop}
abbrev Fr:=YM ByteArray->List Int->Prop
noncomputable def Qy (a:Qa) (p:Int):Rn (YM ByteArray):=
 ⟨fun s i t=>i=[] /\YL a p s=(t,QO),fun s i t e=>i=[] /\YL a p s=(t,e)/\e≠QO⟩
section
variable {F:Fr} {L:List QhV} {X Y:Rn (YM ByteArray)}
end
mutual
def Qa.flat:Qa->List Qa
 | .mk op slot other word call face A B=>.mk op slot other word call face A B::(Yw A++Yw B)
def Yw:List Qa->List Qa
 | []=>[]
 |a::l=>a.flat++Yw l
end
theorem Qa.flat_eq (a:Qa):a.flat=a::(Yw a.A++Yw a.B):=by cases a;rw [Qa.flat];rfl
mutual
theorem Qa.flat_len:∀a:Qa,a.flat.length=a.size
 | .mk op slot other word call face A B=>by
  rw [Qa.flat_eq,Qa.size_eq,List.length_cons,List.length_append]
  have h1:=qR A
  have h2:=qR B
  show(Yw A).length+(Yw B).length+1=1+Qe A+Qe B
  omega
theorem qR:∀l:List Qa,(Yw l).length=Qe l
 | []=>rfl
 |a::l=>by
  rw [Yw,List.length_append,Qa.flat_len a,qR l]
  have:=Vt [a] l
  have e:Qe [a]=a.size:=by rw [Qe,Qe];omega
  rw [e] at this
  exact this.symm
end
def Vd (l:List Qa) (lo hi:Int) (t:YM ByteArray) (e:XH):Prop:=∃a∈l,∃p:Int,lo<=p/\p<hi/\(e=⟨2,p,0,0⟩∨e=⟨1,p,Kj a,zF (t.get a.slot)⟩)
theorem Vd.wider {l m:List Qa} {lo hi lo' hi':Int} {t:YM ByteArray} {e:XH} (h:Vd l lo hi t e) (hl:∀a∈l,a∈m) (h1:lo'<=lo) (h2:hi<=hi'):Vd m lo' hi' t e:=by
 obtain⟨a,ha,p,hp,hp',hh⟩:=h
 exact⟨a,hl a ha,p,by omega,by omega,hh⟩
structure Yo (X:Rn (YM ByteArray)) (n:Nat) (E:YM ByteArray->XH->Prop):Prop where
 ok:∀ {s i t},s.All WF->X.ok s i t->t.All WF/\i.length<=n
 bad:∀ {s i t e},s.All WF->X.bad s i t e->t.All WF/\i.length<=n/\E t e
section
variable {X Y:Rn (YM ByteArray)} {n m:Nat} {E E':YM ByteArray->XH->Prop}
theorem Yo.mono (h:Yo X n E) (hn:n<=m) (hE:∀t e,E t e->E' t e):Yo X m E':=
 ⟨fun hs h1=>⟨(h.ok hs h1).1,Nat.le_trans (h.ok hs h1).2 hn⟩,fun hs h1=>⟨(h.bad hs h1).1,Nat.le_trans (h.bad hs h1).2.1 hn,hE _ _ (h.bad hs h1).2.2⟩⟩
theorem Yo.skip:Yo Rn.skip 0 E:=⟨fun {s i t} hs h=>by
 obtain⟨h1,h2⟩:=(show i=[] /\t=s from h)
 rw [h1,h2];exact⟨hs,Nat.le_refl _⟩,fun _ h=>(show False from h).elim⟩
theorem Yo.seq (h:Yo X n E) (h':Yo Y m E):Yo (X.seq Y) (n+m) E where
 ok hs h1:=by
  obtain⟨i1,i2,u,rfl,a,b⟩:=h1
  have:=h.ok hs a
  have h2:=h'.ok this.1 b
  exact⟨h2.1,by rw [List.length_append];omega⟩
 bad hs h1:=by
  rcases h1 with a|⟨i1,i2,u,rfl,a,b⟩
  ·have:=h.bad hs a
   exact⟨this.1,by omega,this.2.2⟩
  ·have:=h.ok hs a
   have h2:=h'.bad this.1 b
   exact⟨h2.1,by rw [List.length_append];omega,h2.2.2⟩
theorem Yo.alt (h:Yo X n E) (h':Yo Y m E):Yo (X.alt Y) (n+m) E where
 ok hs h1:=by
  rcases h1 with a|a
  ·have:=h.ok hs a;exact⟨this.1,by omega⟩
  ·have:=h'.ok hs a;exact⟨this.1,by omega⟩
 bad hs h1:=by
  rcases h1 with a|a
  ·have:=h.bad hs a;exact⟨this.1,by omega,this.2.2⟩
  ·have:=h'.bad hs a;exact⟨this.1,by omega,this.2.2⟩
theorem Yo.took (h:Yo X n E) (k:Int):Yo (X.took k) (n+1) E where
 ok hs h1:=by
  obtain⟨j,rfl,a⟩:=h1
  have:=h.ok hs a;exact⟨this.1,by rw [List.length_cons];omega⟩
 bad hs h1:=by
  obtain⟨j,rfl,a⟩:=h1
  have:=h.bad hs a;exact⟨this.1,by rw [List.length_cons];omega,this.2.2⟩
theorem Yo.pow (h:Yo X n E):∀k,Yo (X.pow k) (k * n) E
 |0=>by rw [Nat.zero_mul];exact Yo.skip
 |k+1=>by rw [Nat.succ_mul];exact(Yo.pow h k).seq h
theorem Yo.loop (h:Yo X n E):Yo X.loop (3 * n+1) E where
 ok hs h1:=by
  obtain⟨k,hk,a⟩:=h1
  have:=((h.pow k).took k).ok hs a
  have hm:k * n<=3 * n:=Nat.mul_le_mul_right n hk
  exact⟨this.1,by omega⟩
 bad hs h1:=by
  obtain⟨k,hk,a⟩:=h1
  have:=((h.pow k).took k).bad hs a
  have hm:k * n<=3 * n:=Nat.mul_le_mul_right n hk
  exact⟨this.1,by omega,this.2.2⟩
theorem Yo.tried (h:Yo X n E) (h':Yo Y m E):Yo (X.tried Y) (n+m) E where
 ok hs h1:=by
  rcases h1 with a|⟨i1,i2,u,e,rfl,a,_,b⟩
  ·have:=h.ok hs a;exact⟨this.1,by omega⟩
  ·have:=h.bad hs a
   have h2:=h'.ok this.1 b
   exact⟨h2.1,by rw [List.length_append];omega⟩
 bad hs h1:=by
  rcases h1 with ⟨a,_⟩|⟨i1,i2,u,e,rfl,a,_,b⟩
  ·have:=h.bad hs a;exact⟨this.1,by omega,this.2.2⟩
  ·have:=h.bad hs a
   have h2:=h'.bad this.1 b
   exact⟨h2.1,by rw [List.length_append];omega,h2.2.2⟩
end
theorem Qan (a:Qa) (p:Int) (s:YM ByteArray) (hne:(YL a p s).2≠QO):(YL a p s).1=s/\((YL a p s).2=⟨2,p,0,0⟩∨(YL a p s).2=⟨1,p,Kj a,zF (s.get a.slot)⟩):=by
 unfold YL at hne ⊢
 by_cases h1:a.op=1
 ·rw [if_pos h1] at hne;exact absurd rfl hne
 rw [if_neg h1] at hne ⊢
 by_cases h5:a.op=5
 ·rw [if_pos h5] at hne;exact absurd rfl hne
 rw [if_neg h5] at hne ⊢
 by_cases h4:a.op=4
 ·rw [if_pos h4] at hne;exact absurd rfl hne
 rw [if_neg h4] at hne ⊢
 by_cases hz:(s.get a.slot).size=0
 ·rw [if_pos hz];exact⟨rfl,.inl rfl⟩
 rw [if_neg hz] at hne ⊢
 by_cases h3:a.op=3
 ·rw [if_pos h3] at hne;exact absurd rfl hne
 rw [if_neg h3] at hne ⊢
 by_cases h2:a.op=2/\3<(VO (s.get a.slot)).length
 ·rw [if_pos h2] at hne;exact absurd rfl hne
 rw [if_neg h2] at hne ⊢
 by_cases ho:¬ZN (zF (s.get a.slot)) (Kj a)
 ·rw [if_pos ho];exact⟨rfl,.inr rfl⟩
 ·rw [if_neg ho] at hne;exact absurd rfl hne
theorem Qd9 (a:Qa) (ha:ZG a) (p:Int) (h8:a.op≠8) (h9:a.op≠9) (h10:a.op≠10):Yo (Qy a p) 0 (Vd [a] p (p+1)) where
 ok {s i t} hs h:=by
  obtain⟨h1,h2⟩:=(show i=[] /\YL a p s=(t,QO) from h)
  have h3:=Qdv a ha p h8 h9 h10 s hs
  rw [h2] at h3
  exact⟨h3,by rw [h1];exact Nat.le_refl _⟩
 bad {s i t e} hs h:=by
  obtain⟨h1,h2,h3⟩:=(show i=[] /\YL a p s=(t,e)/\e≠QO from h)
  have h4:=Qan a p s (by rw [h2];exact h3)
  rw [h2] at h4
  have h5:t=s:=h4.1
  rw [h5,h1]
  exact⟨hs,Nat.le_refl _,a,List.mem_singleton.2 rfl,p,by omega,by omega,h4.2⟩
mutual
theorem Qa.ex_good:∀(a:Qa),a.ok->∀p,Yo (a.ex Qy p) a.cost (Vd a.flat p (p+a.size))
 | .mk op slot other word call face A B,h,p=>by
  rw [Qa.ok_iff] at h
  obtain⟨ha,hA,hB⟩:=h
  have gA:=YW A hA (p+1)
  have gB:=YW B hB (p+1+Qe A)
  have e1:(Qa.mk op slot other word call face A B).flat= .mk op slot other word call face A B::(Yw A++Yw B):=Qa.flat_eq _
  have e2:(Qa.mk op slot other word call face A B).size=1+Qe A+Qe B:=Qa.size_eq _
  have e3:(Qa.mk op slot other word call face A B).cost=1+3 * Q1 A+Q1 B:=Qa.cost_eq _
  rw [Qa.ex_eq,e1,e2,e3]
  have gA':=gA.mono (Nat.le_refl _) (E':=Vd (.mk op slot other word call face A B::(Yw A++Yw B)) p (p+(1+Qe A+Qe B:Nat))) (fun t e h=>h.wider (fun a ha=>List.mem_cons_of_mem _ (List.mem_append_left _ ha)) (by omega) (by omega))
  have gB':=gB.mono (Nat.le_refl _) (E':=Vd (.mk op slot other word call face A B::(Yw A++Yw B)) p (p+(1+Qe A+Qe B:Nat))) (fun t e h=>h.wider (fun a ha=>List.mem_cons_of_mem _ (List.mem_append_right _ ha)) (by omega) (by omega))
  by_cases h8:(Qa.mk op slot other word call face A B).op=8
  ·rw [if_pos h8]
   refine⟨fun hs h=>?_,fun hs h=>?_⟩
   ·rcases h with h|h
    ·have:=(gA'.took 1).ok hs h;exact⟨this.1,by omega⟩
    ·have:=(gB'.took 0).ok hs h;exact⟨this.1,by omega⟩
   ·rcases h with h|h
    ·have:=(gA'.took 1).bad hs h;exact⟨this.1,by omega,this.2.2⟩
    ·have:=(gB'.took 0).bad hs h;exact⟨this.1,by omega,this.2.2⟩
  ·by_cases h9:(Qa.mk op slot other word call face A B).op=9
   ·rw [if_neg h8,if_pos h9]
    exact gA'.loop.mono (by omega) (fun _ _ h=>h)
   ·by_cases h10:(Qa.mk op slot other word call face A B).op=10
    ·rw [if_neg h8,if_neg h9,if_pos h10]
     exact(gA'.tried gB').mono (by omega) (fun _ _ h=>h)
    ·rw [if_neg h8,if_neg h9,if_neg h10]
     exact(Qd9 _ ha p h8 h9 h10).mono (Nat.zero_le _) (fun t e h=>h.wider (fun a ha=>by rw [List.mem_singleton.1 ha];exact List.mem_cons_self) (by omega) (by omega))
theorem YW:∀(l:List Qa),Kp l->∀p,Yo (Vu Qy l p) (Q1 l) (Vd (Yw l) p (p+Qe l))
 | [],_,p=>by
  rw [Vu,Q1]
  exact Yo.skip
 | a::l,h,p=>by
  rw [We] at h
  have ga:=Qa.ex_good a (h a List.mem_cons_self) p
  have gl:=YW l ((We l).2 (fun b hb=>h b (List.mem_cons_of_mem _ hb))) (p+a.size)
  have es:Qe (a::l)=a.size+Qe l:=by
   have:=Vt [a] l
   have e:Qe [a]=a.size:=by rw [Qe,Qe];omega
   rw [e] at this
   exact this
  have ec:Q1 (a::l)=a.cost+Q1 l:=by
   have:=Ua [a] l
   have e:Q1 [a]=a.cost:=by rw [Q1,Q1];omega
   rw [e] at this
   exact this
  rw [Vu,ec]
  have ef:Yw (a::l)=a.flat++Yw l:=by rw [Yw]
  rw [ef,es]
  exact(ga.mono (Nat.le_refl _) (fun t e h=>h.wider (fun b hb=>List.mem_append_left _ hb) (by omega) (by omega))).seq (gl.mono (Nat.le_refl _) (fun t e h=>h.wider (fun b hb=>List.mem_append_right _ hb) (by omega) (by omega)))
end
def QhU (x:List UInt8×Int):List (List UInt8×Int):=(Yh.filter fun r=>decide (ZN x.2 r.2.1)).map fun r=>(x.1++32::r.1,r.2.2)
def QaG:Nat->List (List UInt8×Int)
 |0=>kinds
 |n+1=>(QaG n).flatMap QhU
def QhB:List (List UInt8):=[] ::(QaG 0++QaG 1++QaG 2++QaG 3).map (·.1)
theorem QfR {p:Qh} (hp:Qp p):∀k,k<=p.layers.length->((ZV (p.core.kind::(p.layers.take k).map (·.name)) yD).data.toList,Qs p k)∈QaG k
 |0,_=>by
  obtain⟨f,hf,_⟩:=hp.1
  rw [List.take_zero,List.map_nil,Kc,Uz,hf,QaG]
  have:=UG hf
  rwa [WX] at this
 | k+1,hk=>by
  have ih:=QfR hp k (by omega)
  obtain⟨x,hx,ho,_⟩:=hp.2.2 k (by omega)
  have e1:p.core.kind::(p.layers.take (k+1)).map (·.name)=p.core.kind::(p.layers.take k).map (·.name)++ [p.layers[k].name]:=by
   rw [List.take_add_one,List.getElem?_eq_getElem (by omega)]
   simp only [Option.toList_some,List.map_append,List.map_cons,List.map_nil,List.cons_append]
  rw [e1,kt,QdR,YV p (k+1) (by omega) (by omega)]
  have e2:p.layers[k+1-1]'(by omega)=p.layers[k]:=by congr 1
  rw [e2,hx,QaG]
  refine List.mem_flatMap.2 ⟨_,ih,List.mem_map.2 ⟨(p.layers[k].name.toList,x),List.mem_filter.2 ⟨UG hx,by simpa using ho⟩,?_⟩⟩
  rw [WX]
  rfl
theorem Qet {s:ByteArray} (h:WF s):s.data.toList∈QhB:=by
 by_cases hz:s.size=0
 ·rw [List.eq_nil_of_length_eq_zero (show s.data.toList.length=0 by rw [Zr];exact hz)]
  exact List.mem_cons_self
 ·obtain⟨p,_,hp,hr,_⟩:=VG hz h
  have h1:=QfR hp p.layers.length (Nat.le_refl _)
  rw [List.take_length] at h1
  have h2:ZV (p.core.kind::p.layers.map (·.name)) yD=s:=by
   have:=xv hz
   rw [<-hr] at this
   exact this
  rw [h2] at h1
  refine List.mem_cons_of_mem _ (List.mem_map.2 ⟨(s.data.toList,Qs p p.layers.length),?_,rfl⟩)
  ·have h3:=hp.2.1
   rcases(show p.layers.length=0∨p.layers.length=1∨p.layers.length=2∨p.layers.length=3 by omega) with e|e|e|e<;>rw [e] at h1 ⊢ <;>simp [h1]
def ke (l:List Qm):YM ByteArray:=⟨ZL (slotAt l 0),ZL (slotAt l 1),ZL (slotAt l 2)⟩
theorem Qfs {l:List Qm} (h:l.length=3):(ke l).list=YB l:=by
 obtain⟨a,b,c,rfl⟩:∃a b c,l=[a,b,c]:=by
  match l,h with
  | [a,b,c],_=>exact⟨a,b,c,rfl⟩
 rfl
theorem Qhc {l:List Qm} {t:YM ByteArray} (h:l.length=3) (e:YB l=t.list):ke l=t:=YM.list_inj ((Qfs h).trans e)
theorem Qc8 {l:List Qm} (h:QN l):(ke l).All WF:=
 ⟨Ur (Vz h (by constructor<;>omega)),Ur (Vz h (by constructor<;>omega)),Ur (Vz h (by constructor<;>omega))⟩
theorem Qbp {p q:Qh} (h:QU q=QU p):XJ p q:=by
 unfold QU at h
 obtain⟨h1,h2⟩:=List.cons.inj h
 exact⟨h1,h2⟩
theorem Qaq {x:Qm} (hx:Wb x):kI x (Gl (ZL x)):=by
 by_cases h:x.full=true
 ·have hp:=hx.1 h
  have e:ZL x=ZV (QU x.part) yD:=by unfold ZL;rw [if_pos h];rfl
  have hne:(ZL x).size≠0:=fun h0=>by
   rw [e] at h0
   have h1:=wM hp
   unfold VO at h1
   rw [if_pos h0] at h1
   unfold QU at h1
   cases h1
  obtain⟨q,e1,_,hr,_⟩:=VG hne (Ur hx)
  rw [e,wM hp] at hr
  rw [e1]
  exact⟨h.symm,Qbp hr⟩
 ·have hf:x.full=false:=by simpa using h
  have e:ZL x=⟨#[]⟩:=by unfold ZL;rw [if_neg h]
  rw [e,UC rfl]
  refine⟨hf.symm,?_⟩
  rw [hx.2 hf]
  exact XJ.refl _
theorem kY {s:ZS} (h:QN s.slots):Qfj s ⟨Yg (ke s.slots),s.taken⟩:=by
 refine⟨h,JP (Qc8 h),⟨by rw [h.1];rfl,fun k hk hk'=>?_⟩,rfl⟩
 have h3:=h.1
 obtain⟨a,b,c,e⟩:∃a b c,s.slots=[a,b,c]:=by
  match hs:s.slots,h3 with
  | [a,b,c],_=>exact⟨a,b,c,rfl⟩
 have hok:=h.2 k hk
 have hk3:k<3:=by omega
 have e2:(Yg (ke s.slots))[k]=Gl (ZL s.slots[k]):=by
  rcases(show k=0∨k=1∨k=2 by omega) with rfl|rfl|rfl<;>simp [Yg,ke,YM.map,YM.list,slotAt,e]
 have h4:=Qaq hok
 rw [<-e2] at h4
 exact h4
theorem Qdj (a:Qa) (ha:ZG a) (place:Int) (h8:a.op≠8) (h9:a.op≠9) (h10:a.op≠10) (s:ZS) (hs:QN s.slots):YL a place (ke s.slots)=(ke (ZH a place s).1.slots,(ZH a place s).2):=by
 have h1:=Qcu (place:=place) ha (kY hs)
 have h2:=we a ha place h8 h9 h10 (ke s.slots) (Qc8 hs) s.taken
 have hl:(ZH a place s).1.slots.length=3:=h1.1.1.1
 have e1:YB (ZH a place s).1.slots=(YL a place (ke s.slots)).1.list:=by
  rw [<-h2.1]
  have hS:=h1.1.2.2.1
  refine List.ext_getElem (by unfold YB;rw [List.length_map,List.length_map,hS.1]) (fun k hk hk'=>?_)
  unfold YB at hk hk' ⊢
  rw [List.getElem_map,List.getElem_map]
  have h3:=hS.2 k (by simpa using hk) (by simpa using hk')
  unfold ZL
  rw [h3.1]
  have h4:QU ((ZH a place ⟨Yg (ke s.slots),s.taken⟩).1.slots[k]'(by simpa using hk')).part=QU ((ZH a place s).1.slots[k]'(by simpa using hk)).part:=by
   unfold QU;rw [h3.2.1,h3.2.2]
  rw [h4]
 exact Prod.ext (Qhc hl e1).symm (h2.2.symm.trans h1.2)
theorem zO (a:Qa) (place:Int) (s:ZS):(ZH a place s).1.taken=s.taken:=(vl a place 0 s).2

section
variable {X:Rn (YM ByteArray)}
end
def J7 (input:List Int) (t:Int) (i:List Int):Prop:=∀(j:Nat) (h:j<i.length),YX input (t+j)=i[j]
theorem J7.head {input:List Int} {t n:Int} {i:List Int} (h:J7 input t (n::i)):YX input t=n/\J7 input (t+1) i:=by
 have h0:=h 0 (by simp)
 have e0:t+((0:Nat):Int)=t:=by omega
 rw [e0] at h0
 refine⟨h0,fun j hj=>?_⟩
 have:=h (j+1) (by simpa using hj)
 rw [List.getElem_cons_succ] at this
 have e:t+((j+1:Nat):Int)=t+1+j:=by omega
 rw [e] at this
 exact this
theorem J7.parts {input:List Int} {t:Int} {i j:List Int} (h:J7 input t (i++j)):J7 input t i/\J7 input (t+i.length) j:=by
 refine⟨fun k hk=>?_,fun k hk=>?_⟩
 ·have:=h k (by rw [List.length_append];omega)
  rw [List.getElem_append_left hk] at this
  exact this
 ·have:=h (i.length+k) (by rw [List.length_append];omega)
  rw [List.getElem_append_right (by omega)] at this
  have e:t+((i.length+k:Nat):Int)=t+i.length+k:=by omega
  rw [e] at this
  simpa using this
structure Vj (input:List Int) (X:Rn (YM ByteArray)) (f:ZS->ZS×XH):Prop where
 good:∀ {s},QN s.slots->QN (f s).1.slots
 ok:∀ {s i t},QN s.slots->X.ok (ke s.slots) i t->J7 input s.taken i->(f s).2=QO/\ke (f s).1.slots=t/\(f s).1.taken=s.taken+i.length
 bad:∀ {s i t e},QN s.slots->X.bad (ke s.slots) i t e->J7 input s.taken i->(f s).2=e/\e.code≠0/\ke (f s).1.slots=t/\(f s).1.taken=s.taken+i.length
section
variable {input:List Int} {X Y:Rn (YM ByteArray)} {f g:ZS->ZS×XH}
theorem Vj.skip:Vj input Rn.skip (fun s=>(s,QO)) where
 good h:=h
 ok {s i t} _ h _:=by
  obtain⟨h1,h2⟩:=(show i=[] /\t=ke s.slots from h)
  rw [h1,h2]
  exact⟨rfl,rfl,by simp⟩
 bad _ h _:=h.elim
theorem Vj.seq (h:Vj input X f) (h':Vj input Y g):Vj input (X.seq Y) (fun s=>if(f s).2.code=0 then g (f s).1 else f s) where
 good {s} hs:=by
  try simp only
  split
  ·exact h'.good (h.good hs)
  ·exact h.good hs
 ok {s i t} hs hr hi:=by
  obtain⟨i1,i2,u,rfl,a,b⟩:=hr
  obtain⟨r1,r2⟩:=hi.parts
  obtain⟨e1,e2,e3⟩:=h.ok hs a r1
  have hc:(f s).2.code=0:=by rw [e1];rfl
  try simp only
  rw [if_pos hc]
  obtain⟨k1,k2,k3⟩:=h'.ok (h.good hs) (by rw [e2];exact b) (by rw [e3];exact r2)
  exact⟨k1,k2,by rw [k3,e3,List.length_append];omega⟩
 bad {s i t e} hs hr hi:=by
  rcases hr with a|⟨i1,i2,u,rfl,a,b⟩
  ·obtain⟨e1,e2,e3,e4⟩:=h.bad hs a hi
   try simp only
   rw [if_neg (by rw [e1];exact e2)]
   exact⟨e1,e2,e3,e4⟩
  ·obtain⟨r1,r2⟩:=hi.parts
   obtain⟨e1,e2,e3⟩:=h.ok hs a r1
   have hc:(f s).2.code=0:=by rw [e1];rfl
   try simp only
   rw [if_pos hc]
   obtain⟨k1,k0,k2,k3⟩:=h'.bad (h.good hs) (by rw [e2];exact b) (by rw [e3];exact r2)
   exact⟨k1,k0,k2,by rw [k3,e3,List.length_append];omega⟩
theorem vk (h:∀s,(f s).2.code=0->(f s).2=QO):∀n s,Zs (n+1) f s=if(Zs n f s).2.code=0 then f (Zs n f s).1 else Zs n f s
 | 0,s=>by
  rw [Zs,Zs,if_pos (show QO.code=0 from rfl)]
  split
  ·rename_i hc
   rw [Zs]
   exact Prod.ext rfl (h s hc).symm
  ·rfl
 | n+1,s=>by
  rw [Zs,vk h n (f s).1]
  by_cases hc:(f s).2.code=0
  ·rw [if_pos hc]
   have e:Zs (n+1) f s=Zs n f (f s).1:=by rw [Zs,if_pos hc]
   rw [e]
  ·rw [if_neg hc]
   have e:Zs (n+1) f s=f s:=by rw [Zs,if_neg hc]
   rw [e,if_neg hc]
theorem Vj.pow (h:Vj input X f) (he:∀s,(f s).2.code=0->(f s).2=QO):∀n,Vj input (X.pow n) (Zs n f)
 |0=>Vj.skip
 |n+1=>by
  have h1:=(Vj.pow h he n).seq h
  have e:(fun s=>if(Zs n f s).2.code=0 then f (Zs n f s).1 else Zs n f s)=Zs (n+1) f:=funext fun s=>(vk he n s).symm
  rw [e] at h1
  exact h1
end
mutual
theorem Qa.ex_run (input:List Int):∀(a:Qa),a.ok->∀(place:Int),Vj input (a.ex Qy place) (fun s=>a.run input place s)
 | .mk op slot other word call face A B,h,place=>by
  have hgood:∀ {s:ZS},QN s.slots->QN ((Qa.mk op slot other word call face A B).run input place s).1.slots:=fun hs=>QfI input _ h place _ hs
  have h0:=h
  rw [Qa.ok_iff] at h
  obtain⟨ha,hA,hB⟩:=h
  have gA:=fun p=>yW input A hA p
  have gB:=fun p=>yW input B hB p
  rw [Qa.ex_eq]
  by_cases h8:(Qa.mk op slot other word call face A B).op=8
  ·rw [if_pos h8]
   refine⟨hgood,fun {s i t} hs hr hi=>?_,fun {s i t e} hs hr hi=>?_⟩
   all_goals
    try simp only
    rw [uS h8]
    rcases hr with ⟨j,rfl,hr⟩|⟨j,rfl,hr⟩
    ·obtain⟨t0,t1⟩:=hi.head
     rw [if_pos (by rw [t0];decide)]
     first
      | (obtain⟨k1,k2,k3⟩:=(gA (place+1)).ok (s:=⟨s.slots,s.taken+1⟩) hs hr t1
         exact⟨k1,k2,k3.trans (by rw [List.length_cons];(try simp only);omega)⟩)
      | (obtain⟨k1,k0,k2,k3⟩:=(gA (place+1)).bad (s:=⟨s.slots,s.taken+1⟩) hs hr t1
         exact⟨k1,k0,k2,k3.trans (by rw [List.length_cons];(try simp only);omega)⟩)
    ·obtain⟨t0,t1⟩:=hi.head
     rw [if_neg (by rw [t0];decide)]
     first
      | (obtain⟨k1,k2,k3⟩:=(gB (place+1+Qe A)).ok (s:=⟨s.slots,s.taken+1⟩) hs hr t1
         exact⟨k1,k2,k3.trans (by rw [List.length_cons];(try simp only);omega)⟩)
      | (obtain⟨k1,k0,k2,k3⟩:=(gB (place+1+Qe A)).bad (s:=⟨s.slots,s.taken+1⟩) hs hr t1
         exact⟨k1,k0,k2,k3.trans (by rw [List.length_cons];(try simp only);omega)⟩)
  ·by_cases h9:(Qa.mk op slot other word call face A B).op=9
   ·rw [if_neg h8,if_pos h9]
    have he:∀s,(QV input A (place+1) s).2.code=0->(QV input A (place+1) s).2=QO:=fun s=>VF input A (place+1) s
    refine⟨hgood,fun {s i t} hs hr hi=>?_,fun {s i t e} hs hr hi=>?_⟩
    all_goals
     try simp only
     rw [uV h9]
     obtain⟨n,hn,j,rfl,hr⟩:=hr
     obtain⟨t0,t1⟩:=hi.head
     have tn:(YX input s.taken).toNat=n:=by rw [t0];rfl
     rw [tn]
     first
      | (obtain⟨k1,k2,k3⟩:=((gA (place+1)).pow he n).ok (s:=⟨s.slots,s.taken+1⟩) hs hr t1
         exact⟨k1,k2,k3.trans (by rw [List.length_cons];(try simp only);omega)⟩)
      | (obtain⟨k1,k0,k2,k3⟩:=((gA (place+1)).pow he n).bad (s:=⟨s.slots,s.taken+1⟩) hs hr t1
         exact⟨k1,k0,k2,k3.trans (by rw [List.length_cons];(try simp only);omega)⟩)
   ·by_cases h10:(Qa.mk op slot other word call face A B).op=10
    ·rw [if_neg h8,if_neg h9,if_pos h10]
     have hA':(Qa.mk op slot other word call face A B).A=A:=rfl
     have hB':(Qa.mk op slot other word call face A B).B=B:=rfl
     rw [hA',hB']
     refine⟨hgood,fun {s i t} hs hr hi=>?_,fun {s i t e} hs hr hi=>?_⟩
     ·try simp only
      rw [GB h10,hA',hB']
      rcases hr with hr|⟨i1,i2,u,e,rfl,a,hc,b⟩
      ·obtain⟨k1,k2,k3⟩:=(gA (place+1)).ok hs hr hi
       rw [if_neg (by(try simp only at k1);rw [k1];decide)]
       exact⟨k1,k2,k3⟩
      ·obtain⟨r1,r2⟩:=hi.parts
       obtain⟨k1,_,k2,k3⟩:=(gA (place+1)).bad hs a r1
       try simp only at k1 k2 k3
       rw [if_pos (by rw [k1];exact hc)]
       obtain⟨m1,m2,m3⟩:=(gB (place+1+Qe A)).ok ((gA (place+1)).good hs) (by(try simp only);rw [k2];exact b) (by(try simp only);rw [k3];exact r2)
       exact⟨m1,m2,by have m3:=m3;(try simp only at m3);rw [m3,k3,List.length_append];omega⟩
     ·try simp only
      rw [GB h10,hA',hB']
      rcases hr with ⟨hr,hc⟩|⟨i1,i2,u,e',rfl,a,hc,b⟩
      ·obtain⟨k1,k0,k2,k3⟩:=(gA (place+1)).bad hs hr hi
       rw [if_neg (by(try simp only at k1);rw [k1];exact hc)]
       exact⟨k1,k0,k2,k3⟩
      ·obtain⟨r1,r2⟩:=hi.parts
       obtain⟨k1,_,k2,k3⟩:=(gA (place+1)).bad hs a r1
       try simp only at k1 k2 k3
       rw [if_pos (by rw [k1];exact hc)]
       obtain⟨m1,m0,m2,m3⟩:=(gB (place+1+Qe A)).bad ((gA (place+1)).good hs) (by(try simp only);rw [k2];exact b) (by(try simp only);rw [k3];exact r2)
       exact⟨m1,m0,m2,by have m3:=m3;(try simp only at m3);rw [m3,k3,List.length_append];omega⟩
    ·rw [if_neg h8,if_neg h9,if_neg h10]
     refine⟨hgood,fun {s i t} hs hr hi=>?_,fun {s i t e} hs hr hi=>?_⟩
     ·obtain⟨hi0,h1⟩:=(show i=[] /\YL _ place (ke s.slots)=(t,QO) from hr)
      rw [Qdj _ ha place h8 h9 h10 s hs] at h1
      obtain⟨e1,e2⟩:=Prod.mk.inj h1
      try simp only
      rw [JL h8 h9 h10,hi0]
      exact⟨e2,e1,by rw [zO];simp⟩
     ·obtain⟨hi0,h1,hne⟩:=(show i=[] /\YL _ place (ke s.slots)=(t,e)/\e≠QO from hr)
      rw [Qdj _ ha place h8 h9 h10 s hs] at h1
      obtain⟨e1,e2⟩:=Prod.mk.inj h1
      try simp only
      rw [JL h8 h9 h10,hi0]
      exact⟨e2,fun hc=>hne (by rw [<-e2];exact Jx _ place s (by rw [e2];exact hc)),e1,by rw [zO];simp⟩
theorem yW (input:List Int):∀(l:List Qa),Kp l->∀(place:Int),Vj input (Vu Qy l place) (fun s=>QV input l place s)
 | [],_,place=>Vj.skip
 |a::l,h,place=>by
  rw [We] at h
  have h1:=(Qa.ex_run input a (h a List.mem_cons_self) place).seq (yW input l ((We l).2 (fun b hb=>h b (List.mem_cons_of_mem _ hb))) (place+a.size))
  rw [Vu]
  exact h1
end
theorem kD {P:Nat->Prop} (h:∃n,P n):∃n,P n/\∀m,P m->n<=m:=by
 obtain⟨n,hn⟩:=h
 induction n using Nat.strongRecOn with
 | _ n ih=>
  by_cases hm:∃m,m<n/\P m
  ·obtain⟨m,h1,h2⟩:=hm
   exact ih m h1 h2
  ·exact⟨n,hn,fun m h1=>by
    by_cases h2:n<=m
    ·exact h2
    ·exact absurd ⟨m,by omega,h1⟩ hm⟩
theorem ko:∀(n:Nat) (X:List Int->Prop),(∀i,X i->∀x∈i,0<=x)->(∃i,X i/\i.length=n)->∃i,X i/\i.length=n/\∀j,X j->j.length=n->WE i j<=0
 |0,X,_,⟨i,hi,h0⟩=>⟨i,hi,h0,fun j _ hj=>by rw [List.eq_nil_of_length_eq_zero h0,List.eq_nil_of_length_eq_zero hj];simp [WE]⟩
 | n+1,X,hp,⟨i,hi,hl⟩=>by
  obtain⟨a,r,rfl⟩:=List.exists_cons_of_length_pos (by omega:0<i.length)
  obtain⟨m,⟨b,r',hb,hX,hr'⟩,hmin⟩:=kD (P:=fun m=>∃(b:Int) (r:List Int),b.toNat=m/\X (b::r)/\r.length=n) ⟨a.toNat,a,r,rfl,hi,by simpa using hl⟩
  have hb0:=hp _ hX b List.mem_cons_self
  obtain⟨t,ht,htl,hmin2⟩:=ko n (fun r=>X (b::r)) (fun r hr x hx=>hp _ hr x (List.mem_cons_of_mem _ hx)) ⟨r',hX,hr'⟩
  refine⟨b::t,ht,by simp [htl],fun j hj hjl=>?_⟩
  obtain⟨c,u,rfl⟩:=List.exists_cons_of_length_pos (by omega:0<j.length)
  have hc0:=hp _ hj c List.mem_cons_self
  have hle:=hmin c.toNat ⟨c,u,rfl,hj,by simpa using hjl⟩
  rw [WE]
  by_cases h1:b<c
  ·rw [if_pos h1];omega
  ·have hbc:b=c:=by omega
   rw [if_neg h1,if_neg (by omega)]
   exact hmin2 u (by rw [hbc];exact hj) (by simpa using hjl)
theorem kU {X:List Int->Prop} (hp:∀i,X i->∀x∈i,0<=x) (h:∃i,X i):∃i,XF X i:=by
 obtain⟨i0,h0⟩:=h
 obtain⟨n,⟨i,hi,hl⟩,hmin⟩:=kD (P:=fun n=>∃i,X i/\i.length=n) ⟨_,i0,h0,rfl⟩
 obtain⟨t,ht,htl,hmin2⟩:=ko n X hp ⟨i,hi,hl⟩
 refine⟨t,ht,fun j hj=>?_⟩
 have hle:=hmin j.length ⟨j,hj,rfl⟩
 unfold YY
 by_cases h1:t.length<j.length
 ·rw [if_pos h1];omega
 ·rw [if_neg h1,if_neg (by omega)]
  exact hmin2 j hj (by omega)
def Dig (i:List Int):Prop:=∀x∈i,0<=x/\x<=3
structure XM (X:Rn (YM ByteArray)):Prop where
 ok:∀ {s i t},X.ok s i t->Dig i
 bad:∀ {s i t e},X.bad s i t e->Dig i
theorem Dig.app {i j:List Int} (h:Dig i) (h':Dig j):Dig (i++j):=fun x hx=>(List.mem_append.1 hx).elim (h x) (h' x)
section
variable {X Y:Rn (YM ByteArray)}
theorem XM.skip:XM Rn.skip:=⟨fun {s i t} h=>by
 have h1:i=[]:=h.1
 rw [h1];exact fun x hx=>(by cases hx),fun h=>h.elim⟩
theorem XM.seq (h:XM X) (h':XM Y):XM (X.seq Y) where
 ok h1:=by obtain⟨i1,i2,u,rfl,a,b⟩:=h1;exact(h.ok a).app (h'.ok b)
 bad h1:=by
  rcases h1 with a|⟨i1,i2,u,rfl,a,b⟩
  ·exact h.bad a
  ·exact(h.ok a).app (h'.bad b)
theorem XM.alt (h:XM X) (h':XM Y):XM (X.alt Y):=⟨fun h1=>h1.elim h.ok h'.ok,fun h1=>h1.elim h.bad h'.bad⟩
theorem XM.took (h:XM X) {n:Int} (h0:0<=n) (h3:n<=3):XM (X.took n) where
 ok h1:=by
  obtain⟨j,rfl,a⟩:=h1
  exact fun x hx=>(List.mem_cons.1 hx).elim (fun e=>by rw [e];exact⟨h0,h3⟩) (h.ok a x)
 bad h1:=by
  obtain⟨j,rfl,a⟩:=h1
  exact fun x hx=>(List.mem_cons.1 hx).elim (fun e=>by rw [e];exact⟨h0,h3⟩) (h.bad a x)
theorem XM.pow (h:XM X):∀n,XM (X.pow n)
 |0=>XM.skip
 |n+1=>(XM.pow h n).seq h
theorem XM.loop (h:XM X):XM X.loop where
 ok h1:=by obtain⟨n,hn,a⟩:=h1;exact((h.pow n).took (by omega) (by omega)).ok a
 bad h1:=by obtain⟨n,hn,a⟩:=h1;exact((h.pow n).took (by omega) (by omega)).bad a
theorem XM.tried (h:XM X) (h':XM Y):XM (X.tried Y) where
 ok h1:=by
  rcases h1 with a|⟨i1,i2,u,e,rfl,a,_,b⟩
  ·exact h.ok a
  ·exact(h.bad a).app (h'.ok b)
 bad h1:=by
  rcases h1 with ⟨a,_⟩|⟨i1,i2,u,e,rfl,a,_,b⟩
  ·exact h.bad a
  ·exact(h.bad a).app (h'.bad b)
end
theorem XM.step (a:Qa) (p:Int):XM (Qy a p):=⟨fun {s i t} h=>by
 have h1:i=[]:=h.1
 rw [h1];exact fun x hx=>(by cases hx),fun {s i t e} h=>by
 have h1:i=[]:=h.1
 rw [h1];exact fun x hx=>(by cases hx)⟩
mutual
theorem Qa.ex_dig:∀(a:Qa) (p:Int),XM (a.ex Qy p)
 | .mk op slot other word call face A B,p=>by
  have gA:=fun p=>Wt A p
  have gB:=fun p=>Wt B p
  rw [Qa.ex_eq]
  by_cases h8:(Qa.mk op slot other word call face A B).op=8
  ·rw [if_pos h8]
   exact((gA _).took (by omega) (by omega)).alt ((gB _).took (by omega) (by omega))
  ·by_cases h9:(Qa.mk op slot other word call face A B).op=9
   ·rw [if_neg h8,if_pos h9]
    exact(gA _).loop
   ·by_cases h10:(Qa.mk op slot other word call face A B).op=10
    ·rw [if_neg h8,if_neg h9,if_pos h10]
     exact(gA _).tried (gB _)
    ·rw [if_neg h8,if_neg h9,if_neg h10]
     exact XM.step _ p
theorem Wt:∀(l:List Qa) (p:Int),XM (Vu Qy l p)
 | [],p=>by rw [Vu];exact XM.skip
 |a::l,p=>by rw [Vu];exact(Qa.ex_dig a p).seq (Wt l _)
end
/-! ### the program's rounds -/
section
variable {κ σ:Type} {F:σ->List Int->Prop} {R:σ->κ->List Int->Prop}
end
def Vs:List Qm:=[Wh,Wh,Wh]
theorem KS:QN Vs:=⟨rfl,fun k hk=>by
 have hk3:k<3:=hk
 rcases(show k=0∨k=1∨k=2 by omega) with rfl|rfl|rfl<;>exact JF⟩
theorem Qdi {l:List Qm} {p:List Qa} {input:List Int} (hl:QN l) (hp:X0 p):vR l p input=((QV input p 0 ⟨l,0⟩).2,(QV input p 0 ⟨l,0⟩).1.slots,(QV input p 0 ⟨l,0⟩).1.taken):=by
 unfold vR;rw [if_pos ⟨hl,hp⟩]
theorem Qb1 {i:List Int} (h:Dig i):J7 i 0 i:=fun j hj=>by
 unfold YX
 have e:((0:Int)+j).toNat=j:=by omega
 rw [e,List.getElem?_eq_getElem hj]
 have:=h _ (List.getElem_mem hj)
 simp only
 omega
theorem QeX {l:List Qm} {p:List Qa} {i:List Int} {t:YM ByteArray} {e:XH} (hl:QN l) (hp:X0 p) (h:(Vu Qy p 0).bad (ke l) i t e):(vR l p i).1=e/\(vR l p i).2.2=i.length/\ke (vR l p i).2.1=t:=by
 rw [Qdi hl hp]
 obtain⟨h1,_,h2,h3⟩:=(yW i p hp.2.2 0).bad (s:=⟨l,0⟩) hl h (Qb1 ((Wt p 0).bad h))
 exact⟨h1,h3.trans (Int.zero_add _),h2⟩
end Go.Proofs.YtlnkgcdeljhjcaaGreatDoor
