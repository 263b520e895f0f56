/- Plain Lean. Conditions: as stated. -/
import Derived.Test.YtjeadhmkghnkkaaGreatDoorMoreP
import Derived.Test.YtjeadhmkghnkkaaGreatDoorMapsQ
import Derived.Test.YtjeadhmkghnkkaaGreatDoorMemos
namespace Go.Proofs.YtjeadhmkghnkkaaGreatDoor
open Go.RowKit

def Qgi (t:YY Qhq):Value:=.agg #[.int .i64 t.a.given,.string t.a.shape,.int .i64 t.b.given,.string t.b.shape,.int .i64 t.c.given,.string t.c.shape]
def Qhq.sm (x:Qhq):Prop:=x.ok/\x.shape.size<=100 * (QgF x.shape+1)
theorem Qhq.sm.le {x:Qhq} (h:x.sm):x.given<=3/\x.shape.size<=400:=by
 refine⟨h.1.1,?_⟩
 by_cases hz:x.shape.size=0
 ·omega
 ·have:=(h.1.2 hz).2;have:=h.2;omega
theorem QhL:Maps.Keyed Tryz.prog 114:=Maps.Keyed.of_law (deep_law_laid (m:=4) (by kernel_rfl) (by decide) (by decide+kernel) (by kernel_rfl) (by kernel_rfl))
theorem QhJ (t:YY Qhq) (h:t.All Qhq.sm):∃l,keyOf Tryz.prog 114 (Qgi t)=some l:=by
 have h0:Tryz.prog.underlying 114=some (.array 3 112):=by kernel_rfl
 have hs:Tryz.prog.underlying 9=some .string:=by kernel_rfl
 have hi:Tryz.prog.underlying 3=some (.int .i64):=by kernel_rfl
 have hk:(Tryz.prog.keyType 114&&(Qgi t).formed Tryz.prog 114)=true:=by kernel_rfl
 have hc1:Tryz.prog.cellsOf 9=1:=by kernel_rfl
 have hc2:Tryz.prog.cellsOf 3=1:=by kernel_rfl
 have hc3:Tryz.prog.cellsOf 112=2:=by kernel_rfl
 have hc6:Tryz.prog.cellsOf 114=6:=by kernel_rfl
 have h3t:3<=Tryz.prog.types.size:=by decide+kernel
 obtain⟨m,hm⟩:∃m,Tryz.prog.types.size+1=m+1+1+1:=⟨Tryz.prog.types.size-2,by omega⟩
 have hb:∀x:Qhq,x.sm->Tryz.prog.keyLits (m+1+1) 112 [.int .i64 x.given,.string x.shape]=some [.int .i64 x.given,.string x.shape.data.toList]:=fun x hx=>by
  have h1:=hx.le
  have hl:Tryz.prog.keyLits (m+1) 9 [.string x.shape]=some [.string x.shape.data.toList]:=by
   unfold Program.keyLits
   rw [hs]
   simp only
   rw [if_pos (by unfold maxLen;omega)]
  have hn:Tryz.prog.keyLits (m+1) 3 [.int .i64 x.given]=some [.int .i64 x.given]:=by
   unfold Program.keyLits
   rw [hi]
   simp only
   have hw:(Lit.int .i64 x.given).wf=true:=by simp only [Lit.wf,T0,decide_eq_true_eq];exact⟨show(-9223372036854775808:Int)<=_ by omega,show _<=(9223372036854775807:Int) by omega⟩
   simp [hw]
  unfold Program.keyLits
  rw [Tryz.underlying112]
  simp [hc1,hc2,hc3,hn,hl]
 unfold keyOf
 rw [h0]
 simp only
 rw [if_pos hk,hm]
 have hcs:(Qgi t).cells.toList=[.int .i64 t.a.given,.string t.a.shape,.int .i64 t.b.given,.string t.b.shape,.int .i64 t.c.given,.string t.c.shape]:=rfl
 rw [hcs]
 unfold Program.keyLits
 rw [h0]
 simp only
 rw [hc3]
 simp [List.range_succ,hc6,hb _ h.1,hb _ h.2.1,hb _ h.2.2]
def KCg (v:Value):Prop:=∃t:YY Qhq,v=Qgi t/\t.All Qhq.sm
theorem Qh8:qO Tryz.prog 114 KCg (fun _=>True):=qO.of_keyed QhL (fun v hv=>by
 obtain⟨t,rfl,h⟩:=hv
 exact QhJ t h)
theorem Qhr {a c:YY Qhq} (h:Qgi a=Qgi c):a=c:=by
 obtain⟨⟨a1,a2⟩,⟨a3,a4⟩,⟨a5,a6⟩⟩:=a
 obtain⟨⟨c1,c2⟩,⟨c3,c4⟩,⟨c5,c6⟩⟩:=c
 simp [Qgi] at h
 obtain⟨h1,rfl,h3,rfl,h5,rfl⟩:=h
 have h1:a1=c1:=by omega
 have h3:a3=c3:=by omega
 have h5:a5=c5:=by omega
 rw [h1,h3,h5]

def Qd6 (w:World) (b:Nat) (X:YY Qhq->Prop):Prop:=∃E,ZH w KCg b E/\(∀p∈E,∃k,p=(Qgi k,.bool true)/\X k/\k.All Qhq.sm)/\∀k,X k->(Qgi k,.bool true)∈E
section
variable {w w':World} {b r:Nat} {X D Y:YY Qhq->Prop}
theorem Qd6.lt (h:Qd6 w b X):b<w.heap.size:=by obtain⟨E,h1,_⟩:=h;exact h1.lt
theorem Qd6.keep {S:List Nat} (h:Qd6 w b X) (hc:Qc S w w') (hb:b∉S:=by first|(simp;done)|((repeat' first|exact F1|refine J4 ?_ ?_)<;>first|assumption|(apply j5;assumption)|omega)|(simp;omega)):Qd6 w' b X:=by
 obtain⟨E,h1,h2⟩:=h
 exact⟨E,h1.chg hc hb,h2⟩
theorem Qd6.congr (h:Qd6 w b X) (he:∀k,X k↔Y k):Qd6 w b Y:=by
 have:X=Y:=funext fun k=>propext (he k)
 rwa [<-this]
theorem Qd6.sm (h:Qd6 w b X) {k:YY Qhq} (hk:X k):k.All Qhq.sm:=by
 obtain⟨E,_,h2,h3⟩:=h
 obtain⟨k',e,_,h4⟩:=h2 _ (h3 k hk)
 rw [Qhr (U8 e).1]
 exact h4
theorem Qd6.made (w:World) (h:∀k,¬X k):Qd6 (w.alloc (.map #[] 0)) w.heap.size X:=⟨[],ZH.made w KCg,fun p hp=>(by cases hp),fun k h1=>absurd h1 (h k)⟩
theorem Qd6.put {E E':List (Value×Value)} {t:YY Qhq} (h2:∀p∈E,∃k,p=(Qgi k,.bool true)/\X k/\k.All Qhq.sm) (h3:∀k,X k->(Qgi k,.bool true)∈E) (ht:t.All Qhq.sm) (h1:ZH w' KCg b E') (hm:∀p,p∈E'↔(p∈E/\p.1≠Qgi t)∨p=(Qgi t,.bool true)):Qd6 w' b (fun k=>X k∨k=t):=by
 refine⟨E',h1,fun p hp=>?_,fun k hk=>(hm _).2 ?_⟩
 ·rcases(hm p).1 hp with ⟨h,_⟩|h
  ·obtain⟨k,e,hx,hk⟩:=h2 p h
   exact⟨k,e,.inl hx,hk⟩
  ·exact⟨t,h,.inr rfl,ht⟩
 ·by_cases e:k=t
  ·exact .inr (by rw [e])
  ·exact .inl ⟨h3 k (hk.resolve_right e),fun h=>e (Qhr h)⟩
def Sgs (w:World) (b r:Nat) (X D:YY Qhq->Prop):Prop:=
 ∃E L,ZH w KCg b E/\Gp w b r E L/\b≠r/\(∀p∈E,∃k,p=(Qgi k,.bool true)/\X k/\k.All Qhq.sm)/\(∀k,X k->(Qgi k,.bool true)∈E)/\∀k,D k↔X k/\(Qgi k,.bool true)∉L
theorem Sgs.smap (h:Sgs w b r X D):Qd6 w b X:=by obtain⟨E,L,h1,_,_,h2,h3,_⟩:=h;exact⟨E,h1,h2,h3⟩
theorem Sgs.lt (h:Sgs w b r X D):b<w.heap.size/\r<w.heap.size/\b≠r:=by
 obtain⟨E,L,h1,h2,h3,_⟩:=h
 exact⟨h1.lt,h2.lt.2,h3⟩
theorem Sgs.keep {S:List Nat} (h:Sgs w b r X D) (hc:Qc S w w') (hb:b∉S:=by first|(simp;done)|((repeat' first|exact F1|refine J4 ?_ ?_)<;>first|assumption|(apply j5;assumption)|omega)|(simp;omega)) (hr:r∉S:=by first|(simp;done)|((repeat' first|exact F1|refine J4 ?_ ?_)<;>first|assumption|(apply j5;assumption)|omega)|(simp;omega)):Sgs w' b r X D/\leftN w' b r=leftN w b r:=by
 obtain⟨E,L,h1,h2,h3⟩:=h
 have h4:=h2.chg hc hb hr
 exact⟨⟨E,L,h1.chg hc hb,h4,h3⟩,by rw [h2.leftN,h4.leftN]⟩
end
section
variable {P:Program} {w:World} {ops:Array Oper} {rest:List Oper} {o:Oper} {a:Act} {Q:Exit->Act->World->Prop} {k e:TypeId} {b r:Nat} {X D:YY Qhq->Prop}
theorem Qia (hg:o.guard=none) (m:Operand) (t:TypeId) (hop:o.op=Op.range t m) (ht:P.underlying t=some (.map k e)) (hm:a.eval m= .map (some b)) (h:Qd6 w b X)
  (hK:∀w',Sgs w' b w.heap.size X (fun _=>False)->Qc [] w w'->w'.heap.size=w.heap.size+1->wpList P ops Q rest (a.put o.dst (.pointer (some ⟨w.heap.size,0,none⟩))) w'):
  wpList P ops Q (o::rest) a w:=by
 obtain⟨E,h1,h2,h3⟩:=h
 refine Qcg hg m t hop ht hm h1 fun w' hR hc hs=>hK w' ?_ hc hs
 have hlt:=h1.lt
 exact⟨E,E,h1.chg hc (by simp),hR,by omega,h2,h3,fun k=>⟨fun h=>h.elim,fun⟨hl,hn⟩=>hn (h3 k hl)⟩⟩
theorem Qh9 (hg:o.guard=none) (it:Operand) (hop:o.op=Op.next it false) (hit:a.eval it= .pointer (some ⟨r,0,none⟩)) (h:Sgs w b r X D)
  (hDone:(∀k,D k↔X k)->wpList P ops Q rest (a.put o.dst (.tuple #[.bool false])) w)
  (hMore:∀k w',k.All Qhq.sm->X k->Sgs w' b r X (fun k'=>D k'∨k'=k)->Qc [r] w w'->w'.heap.size=w.heap.size->leftN w' b r<leftN w b r->
   (Instr.entry (.pointer (some ⟨r,0,none⟩))).run P w'= .ok (.tuple #[Qgi k,.bool true]) w'->wpList P ops Q rest (a.put o.dst (.tuple #[.bool true,Qgi k,.bool true])) w'):
  wpList P ops Q (o::rest) a w:=by
 obtain⟨E,L,h1,h2,h3,h4,h5,h7⟩:=h
 refine QbR hg it hop hit h2 h3 (fun h0=>hDone fun k=>?_) (fun x v L' w' hp hx hR hc hs hrun=>?_)
 ·rw [h7,h0]
  simp
 ·obtain⟨k,ek,hX,hk⟩:=h4 _ hx
  obtain⟨rfl,rfl⟩:=U8 ek
  have hpw:((Qgi k,.bool true)::L').Pairwise (fun p q=>p.1≠q.1):=(hp.pairwise_iff (fun {a b} h=>fun e=>h e.symm)).1 h2.apart.1
  refine hMore k w' hk hX ⟨E,L',h1.chg hc (by simp [h3]),hR,h3,h4,h5,fun k'=>⟨?_,fun⟨hl',hn⟩=>?_⟩⟩ hc hs ?_ hrun
  ·rintro(hd|rfl)
   ·obtain⟨q1,q2⟩:=(h7 _).1 hd
    exact⟨q1,fun hv'=>q2 (hp.symm.subset (I5 _ hv'))⟩
   ·exact⟨hX,fun hv'=>(V1.1 hpw).1 _ hv' rfl⟩
  ·by_cases hk:k'=k
   ·exact .inr hk
   ·refine .inl ((h7 _).2 ⟨hl',fun hv'=>?_⟩)
    rcases C7.1 (hp.subset hv') with h|h
    ·exact hk (Qhr (U8 h).1)
    ·exact hn h
  ·rw [h2.leftN,hR.leftN,hp.length_eq]
   simp
theorem Qh7 (hg:o.guard=none) (m x v:Operand) (t:TypeId) (hop:o.op=Op.mapUpdate t m x v) (ht:P.underlying t=some (.map k e)) (K:qO P k KCg (fun _=>True)) (hm:a.eval m= .map (some b)) (h:Qd6 w b X) {s:YY Qhq} (hx:a.eval x=Qgi s) (hv:a.eval v= .bool true) (hs:s.All Qhq.sm)
  (hK:∀w',Qd6 w' b (fun k=>X k∨k=s)->Qc [b] w w'->w'.heap.size=w.heap.size->wpList P ops Q rest (a.put o.dst undef) w'):wpList P ops Q (o::rest) a w:=by
 obtain⟨E,h1,h2,h3⟩:=h
 refine YE hg m x v t hop K trivial ht hm h1 hx hv ⟨s,rfl,hs⟩ ?_
 intro w' E' hE' hc hsz hmm
 exact hK w' (Qd6.put h2 h3 hs hE' hmm) hc hsz
end
end Go.Proofs.YtjeadhmkghnkkaaGreatDoor
namespace Go.Proofs.YtjeadhmkghnkkaaGreatDoor
open Go.RowKit

theorem Qh3:∀f g:Fin 64,ql (bits .or .i64 ((f.1:Nat):Int) ((g.1:Nat):Int))/\∀k:Fin 6,has (bits .or .i64 ((f.1:Nat):Int) ((g.1:Nat):Int)) k=(has ((f.1:Nat):Int) k || has ((g.1:Nat):Int) k):=by unfold ql;decide+kernel
def Qgm (A:Nat->Int->Prop) (i:Nat) (u:Int):Prop:=ql u/\∀k:Fin 6,has u k=true↔ ∃n,A i n/\has n k=true
theorem Qgm.or {A:Nat->Int->Prop} {i:Nat} {u n:Int} (h:Qgm A i u) (hn:ql n):Qgm (fun j m=>A j m∨(j=i/\m=n)) i (bits .or .i64 u n):=by
 obtain⟨h1,h2⟩:=h
 have e:=Qh3 ⟨u.toNat,by have:=h1.1;have:=h1.2;omega⟩ ⟨n.toNat,by have:=hn.1;have:=hn.2;omega⟩
 have e1:((u.toNat:Nat):Int)=u:=by have:=h1.1;omega
 have e2:((n.toNat:Nat):Int)=n:=by have:=hn.1;omega
 simp only [e1,e2] at e
 refine⟨e.1,fun k=>?_⟩
 rw [e.2 k,Bool.or_eq_true,h2 k]
 constructor
 ·rintro(⟨m,a,b⟩|h)
  ·exact⟨m,.inl a,b⟩
  ·exact⟨n,.inr ⟨rfl,rfl⟩,h⟩
 ·rintro⟨m,a|⟨_,rfl⟩,b⟩
  ·exact .inl ⟨m,a,b⟩
  ·exact .inr b
theorem Qgm.congr {A A':Nat->Int->Prop} {i:Nat} {u:Int} (h:Qgm A i u) (he:∀n,A i n↔A' i n):Qgm A' i u:=⟨h.1,fun k=>(h.2 k).trans (exists_congr fun n=>and_congr (he n) i7)⟩
theorem Qgm.offer {A:Nat->Int->Prop} {i:Nat} {u f:Int} (h:Qgm A i u) (hA:∀n,A i n->ql n) (hf:ql f):ZL f u↔ ∀n,A i n->ZL f n:=
 ⟨fun ho n hn=>⟨hf,hA n hn,fun k hk=>ho.2.2 k ((h.2 k).2 ⟨n,hn,hk⟩)⟩,fun ho=>⟨hf,h.1,fun k hk=>by
  obtain⟨n,hn,hk⟩:=(h.2 k).1 hk
  exact(ho n hn).2.2 k hk⟩⟩
def Qf9 (w:World) (x:Nat) (A:Nat->Int->Prop) (F:Prop):Prop:=∃u0 u1 u2 f,ZU w x [.int .i64 u0,.int .i64 u1,.int .i64 u2,.bool f] /\Qgm A 0 u0/\Qgm A 1 u1/\Qgm A 2 u2/\(f=true↔F)
section
variable {w w':World} {x:Nat} {A A':Nat->Int->Prop} {F F':Prop} {S:List Nat}
theorem Qf9.lt (h:Qf9 w x A F):x<w.heap.size:=by obtain⟨_,_,_,_,h,_⟩:=h;exact h.lt
theorem Qf9.keep (h:Qf9 w x A F) (hc:Qc S w w') (hx:x∉S:=by first|(simp;done)|((repeat' first|exact F1|refine J4 ?_ ?_)<;>first|assumption|(apply j5;assumption)|omega)|(simp;omega)):Qf9 w' x A F:=by
 obtain⟨u0,u1,u2,f,h1,h2⟩:=h
 exact⟨u0,u1,u2,f,h1.keep hc hx,h2⟩
theorem Qf9.congr (h:Qf9 w x A F) (hA:∀i n,i<3->(A i n↔A' i n)) (hF:F↔F'):Qf9 w x A' F':=by
 obtain⟨u0,u1,u2,f,h1,h2,h3,h4,h5⟩:=h
 exact⟨u0,u1,u2,f,h1,h2.congr (fun n=>hA 0 n (by omega)),h3.congr (fun n=>hA 1 n (by omega)),h4.congr (fun n=>hA 2 n (by omega)),h5.trans hF⟩
end
def Qg9 (t:YY Qhq):List Value:=[.int .i64 t.a.given,.string t.a.shape,.int .i64 t.b.given,.string t.b.shape,.int .i64 t.c.given,.string t.c.shape]
def Qa2 (X:W3 (YY Qhq)):Prop:=∀s t,s.All Qhq.sm->X.reach s t->t.All Qhq.sm
section
variable {X Y:W3 (YY Qhq)}
theorem Qa2.skip:Qa2 W3.skip:=fun s t h e=>by have e:t=s:=e;rw [e];exact h
theorem Qa2.seq (h:Qa2 X) (h':Qa2 Y):Qa2 (X.seq Y):=fun s t hs ⟨u,a,b⟩=>h' u t (h s u hs a) b
theorem Qa2.alt (h:Qa2 X) (h':Qa2 Y):Qa2 (X.alt Y):=fun s t hs h1=>h1.elim (h s t hs) (h' s t hs)
theorem Qa2.pow (h:Qa2 X):∀n,Qa2 (X.pow n)
 |0=>Qa2.skip
 |n+1=>(Qa2.pow h n).seq h
theorem Qa2.loop (h:Qa2 X):Qa2 X.loop:=fun s t hs ⟨n,_,h1⟩=>h.pow n s t hs h1
theorem QhA {s:ByteArray} (h:Qo s≠none∨Qj s≠none):s.size<=99:=by
 rw [<-Zl]
 rcases h with h|h
 ·obtain⟨x,hx⟩:=O6.1 h
  have hm:=UZ hx
  rw [Vl] at hm
  have hall:∀p∈kinds,p.1.length<=99:=by decide
  exact hall _ hm
 ·obtain⟨x,hx⟩:=O6.1 h
  have hm:=UZ hx
  rw [Vl] at hm
  have hall:∀p∈Yk,p.1.length<=99:=by decide
  exact hall _ hm
theorem Qh4 {x:Qhq} (h:x.sm) {w:ByteArray} (hw:Qj w≠none) (hs:QgF x.shape<3):(x.wrap w).sm:=by
 refine⟨QhO h.1 (QbG hw).2 hs,?_⟩
 have h1:=QhA (.inr hw)
 have h2:=h.2
 unfold Qhq.wrap
 rw [Qga (QbG hw).2,M3,M3,show xG.size=1 from rfl]
 omega
theorem Qhz (a:Qa) (h:Qgc a):Qa2 (QdW a):=fun s t hs hr=>by
 have ha:=h.1
 unfold QdW at hr
 by_cases h1:a.op=1
 ·rw [if_pos h1] at hr
  have hr:t=s.set a.slot ⟨0,a.word⟩:=hr
  have hk:=((xQ h1).1 ha).2.1
  have hw:=QdI hk
  rw [hr]
  exact hs.set _ ⟨⟨I3 _,fun _=>⟨.inl rfl,by show QgF a.word<=3;rw [hw.2];omega⟩⟩,by have:=QhA (.inl hk);show a.word.size<=_;omega⟩
 rw [if_neg h1] at hr
 by_cases h5:a.op=5
 ·rw [if_pos h5] at hr
  have hr:t=s.set a.slot ⟨0,⟨#[]⟩⟩:=hr
  rw [hr]
  exact hs.set _ ⟨⟨by decide,fun h=>absurd rfl h⟩,I3 _⟩
 rw [if_neg h5] at hr
 by_cases h4:a.op=4
 ·rw [if_pos h4] at hr
  have hr:t=s.set a.slot (s.get a.other):=hr
  rw [hr]
  exact hs.set _ (hs.get _)
 rw [if_neg h4] at hr
 by_cases h2:a.op=2
 ·rw [if_pos h2] at hr
  obtain⟨_,⟨_,rfl⟩|⟨hlt,_,rfl⟩⟩:=hr
  ·exact hs
  ·exact hs.set _ (Qh4 (hs.get _) ((xJ h2).1 ha).2.1 hlt)
 ·rw [if_neg h2] at hr
  rw [hr.2.2]
  exact hs
mutual
theorem Qa.keepsG:∀a:Qa,a.AllA Qgc->Qa2 (a.w3 QdW)
 | .mk op slot other word call face A B,h=>by
  rw [Qa.w3_eq]
  rw [Qa.AllA] at h
  by_cases h8:op=8
  ·simp only [Qa.op,Qa.A,Qa.B,h8,if_true];exact(Qhl A h.2.1).alt (Qhl B h.2.2)
  ·by_cases h9:op=9
   ·simp only [Qa.op,Qa.A,h9,if_true];exact(Qhl A h.2.1).loop
   ·simp only [Qa.op,h8,h9,if_false];exact Qhz _ h.1
theorem Qhl:∀l:List Qa,QgK Qgc l->Qa2 (w3L QdW l)
 | [],_=>by rw [w3L];exact Qa2.skip
 |a::l,h=>by
  rw [QgK] at h
  rw [w3L]
  exact(Qa.keepsG a h.1).seq (Qhl l h.2)
end
end
end Go.Proofs.YtjeadhmkghnkkaaGreatDoor
set_option maxRecDepth 100000
set_option maxHeartbeats 2000000
namespace Go.Proofs.YtjeadhmkghnkkaaGreatDoor
open Go.RowKit

theorem Qhw (c:UInt8):∀(l cur:List UInt8),c∉cur->∀y∈Zw c cur l,c∉y
 | [],cur,h=>by rw [Zw];simpa using h
 | b::l,cur,h=>by
  rw [Zw]
  by_cases e:b=c
  ·rw [if_pos e]
   intro y hy
   rcases C7.1 hy with rfl|hy
   ·exact h
   ·exact Qhw c l [] (by simp) y hy
  ·rw [if_neg e]
   exact Qhw c l _ (by simp [h,Ne.symm e])
theorem Qha (c:UInt8):∀(l cur:List UInt8),(Zw c cur l).length=l.count c+1
 | [],cur=>by simp [Zw]
 |b::l,cur=>by
  rw [Zw]
  by_cases h:b=c
  ·rw [if_pos h,I1,Qha c l [],h,List.count_cons_self]
  ·rw [if_neg h,Qha c l _,List.count_cons_of_ne h]
theorem Qhv (s:ByteArray):(QG 32 s).length=QgF s+1:=by
 unfold QG QgF;rw [J8,Qha]
theorem QhG (s:ByteArray) (h:0<QgF s) (hk:QgF s<(QG 32 s).length):(QG 32 s)[QgF s]=Qgs s:=by
 have hj:=Qbh s
 have hl:=Qhv s
 have hne:=Qaa s
 have e1:=(List.dropLast_concat_getLast hne).symm
 have e2:(QG 32 s)[QgF s]=(QG 32 s).getLast hne:=by
  rw [List.getLast_eq_getElem]
  congr 1
  omega
 rw [e2]
 obtain⟨y,hy⟩:∃y,(QG 32 s).getLast hne=y:=⟨_,rfl⟩
 have hm:y∈QG 32 s:=by rw [<-hy];exact List.getLast_mem hne
 have hy32:(32:UInt8)∉y.data.toList:=by
  unfold QG at hm
  obtain⟨z,hz,rfl⟩:=L7.1 hm
  have:=Qhw 32 s.data.toList [] (by simp) z hz
  simpa [Uz] using this
 rw [hy] at e1 ⊢
 obtain⟨x,r,ex⟩:∃x r,(QG 32 s).dropLast=x::r:=List.exists_cons_of_ne_nil (fun h0=>by
  have:=congrArg List.length h0
  rw [List.length_dropLast] at this
  simp only [U7] at this
  omega)
 rw [ex] at e1
 rw [e1,uX] at hj
 rw [<-hj,Qhu hy32]
theorem QhE (s:ByteArray) (w:World):
  Calls Tryz.prog 159 #[.string s] w (WU ((Qj s).map (·.1)) w):=by
 go_enter Tryz.func159,Tryz.ntmps159
 go_wp2_with fail
 refine(Ya s w).mono ?_
 rintro e w1 ⟨rfl,rfl⟩
 go_wp2_with fail
 go_ret2
 refine⟨?_,C6⟩
 cases Qj s<;>rfl
theorem Qgw (s:ByteArray) (w:World):
  Calls Tryz.prog 188 #[.string s] w (WU ((Qj s).map (·.2)) w):=by
 go_enter Tryz.func188,Tryz.ntmps188
 go_wp2_with fail
 refine(Ya s w).mono ?_
 rintro e w1 ⟨rfl,rfl⟩
 go_wp2_with fail
 go_ret2
 refine⟨?_,C6⟩
 cases Qj s<;>rfl
theorem Qh0 (s:ByteArray) (w:World) (hE:KP w) (hs:s.size<=1048575):
  Calls Tryz.prog 160 #[.string s] w (xY (Qa6 s) w):=by
 obtain⟨m,hm⟩:=hE.max
 have hw:=Qk hm
 simp only at hw
 have hlen:=Qhv s
 have hlen2:=(qz 32 s).2
 have SP:=Tryz.strings_Split s ⟨#[32]⟩ m w (by omega) hm (by decide)
 rw [Jt 32 _ _ rfl] at SP
 have hcn:Lib.countB s ⟨#[32]⟩+1=(QG 32 s).length:=by rw [<-Jt 32 _ _ rfl,Lib.splitB_all _ (by decide) _ _ _ rfl]
 rw [hcn] at SP
 have SP:=Qb SP
 go_enter Tryz.func160,Tryz.ntmps160
 go_wp2_with fail
 refine SP.out.mono ?_
 rintro e w2 ⟨rfl,hw2⟩
 have cA:Qc [] w w2:=by rw [hw2];exact C6
 have hb:w.heap.size<w2.heap.size:=by rw [hw2];simp
 have hcell:∀(k:Nat) (h:k<(QG 32 s).length),w2.cell? ⟨w.heap.size,k,none⟩=some (.string (QG 32 s)[k]):=fun k h=>by
  rw [hw2]
  exact JF _ _ _ _ rfl (by simp [h])
 have hcl:0<QgF s->w2.cell? ⟨w.heap.size,QgF s,none⟩=some (.string (Qgs s)):=fun h0=>by
  rw [<-QhG s h0 (by omega)]
  exact hcell _ (by omega)
 clear hw2 SP hcn hm hE hcell
 rw [hlen] at hlen2 ⊢
 by_cases h0:0<QgF s
 ·have hc:=hcl h0
  have hf:Qa6 s=((Qj (Qgs s)).getD (0,0)).2:=by unfold Qa6;rw [if_pos h0]
  have LG:=Qb (fun W=>Qgw (Qgs s) W)
  have i1:((QgF s:Nat):Int)+1>1:=by omega
  go_wp2_with fail
  refine(LG.out _).mono ?_
  rintro e w3 ⟨rfl,c3⟩
  go_wp2_with fail
  go_ret
  refine⟨?_,cA.tz c3⟩
  rw [hf]
  cases Qj (Qgs s)<;>rfl
 ·have hz:QgF s=0:=by omega
  have hf:Qa6 s=(Qo s).getD 0:=by unfold Qa6;rw [if_neg h0]
  have KF:=Qb (fun W=>ZT s W)
  rw [hz]
  clear hcl hlen2 hlen h0 hz
  go_wp2_with fail
  refine(KF.out _).mono ?_
  rintro e w3 ⟨rfl,rfl⟩
  go_wp2_with fail
  go_ret
  exact⟨by rw [hf];rfl,cA⟩
end Go.Proofs.YtjeadhmkghnkkaaGreatDoor
namespace Go.Proofs.YtjeadhmkghnkkaaGreatDoor
open Go.RowKit

theorem QhN (c:UInt8):∀(l cur:List UInt8),(Zw c cur l).length=l.count c+1
 | [],cur=>by simp [Zw]
 |b::l,cur=>by
  rw [Zw]
  by_cases h:b=c
  ·rw [if_pos h,I1,QhN c l [],h,List.count_cons_self]
  ·rw [if_neg h,QhN c l _,List.count_cons_of_ne h]
theorem Qhs {s:ByteArray} (h:s.size≠0):(Um s).length=QgF s+1:=by
 unfold Um;rw [if_neg h]
 unfold QG QgF
 rw [J8,QhN]
theorem QhM {s:ByteArray} (h:s.size≠0) (hs:W8 s):yO s=Qa6 s:=by
 obtain⟨p,_,hp,hr,e⟩:=Uh h hs
 rw [Qae h hs e]
 have hw:=kQ hp
 have hj:=vA h
 have hl:=Qhs h
 rw [<-hr] at hj hl
 rw [Qbk] at hl
 by_cases h0:p.layers.length=0
 ·have hn:=I6 h0
  have e1:QP p=[p.core.kind]:=by unfold QP;rw [hn];rfl
  rw [e1,KR] at hj
  rw [h0,Kr,hj]
  unfold Qa6
  rw [if_neg (by omega)]
 ·rw [Wb p _ (by omega) (by omega)]
  have e2:p.layers=p.layers.dropLast++ [p.layers.getLast (fun h=>h0 (by rw [h];rfl))]:=(List.dropLast_concat_getLast _).symm
  have e3:p.layers[p.layers.length-1]=p.layers.getLast (fun h=>h0 (by rw [h];rfl)):=(List.getLast_eq_getElem _).symm
  rw [e3]
  obtain⟨y,hy⟩:∃y,p.layers.getLast (fun h=>h0 (by rw [h];rfl))=y:=⟨_,rfl⟩
  rw [hy] at e2 ⊢
  have e4:QP p=p.core.kind::p.layers.dropLast.map (·.name)++ [y.name]:=by
   unfold QP;rw [e2];simp
  have hy32:=(hw y.name (by rw [e4];simp)).1
  rw [e4,uX] at hj
  rw [<-hj,Qht hy32]
theorem QgN (x y:ByteArray):QgF (x++y)=QgF x+QgF y:=by
 unfold QgF;rw [Q9,Array.toList_append,List.count_append]
theorem QhX (x y:ByteArray) (h:0<QgF y):Qgs (x++y)=Qgs y:=by
 unfold Qgs
 rw [Q9,Array.toList_append,List.reverse_append]
 have hm:(32:UInt8)∈y.data.toList.reverse:=List.mem_reverse.2 (List.count_pos_iff.1 h)
 have hg:∀(a b:List UInt8),(32:UInt8)∈a->(a++b).takeWhile (· !=32)=a.takeWhile (· !=32):=fun a b=>by
  induction a with
  |nil=>intro h;cases h
  |cons c r ih=>
   intro hc
   rw [M2,List.takeWhile_cons,List.takeWhile_cons]
   by_cases e:c=32
   ·simp [e]
   ·rw [ih (by rcases C7.1 hc with h|h;exact absurd h.symm e;exact h)]
 rw [hg _ _ hm]
theorem QhU (x y:ByteArray) (h:0<QgF y):Qa6 (x++y)=Qa6 y:=by
 unfold Qa6
 rw [QgN,if_pos (by omega),if_pos h,QhX x y h]

section
variable {k:YY ByteArray}
def QgO (k:YY ByteArray) (g:Qhq) (s:ByteArray):Prop:=(g.given=0/\s=g.shape)∨∃i:Nat,i<3/\g.given=i+1/\s=k.get i++g.shape
def QhK (k:YY ByteArray) (g:YY Qhq) (s:YY ByteArray):Prop:=QgO k g.a s.a/\QgO k g.b s.b/\QgO k g.c s.c
theorem QhK.get {g:YY Qhq} {s:YY ByteArray} (h:QhK k g s) (i:Int):QgO k (g.get i) (s.get i):=by
 unfold YY.get;split;exact h.1;split;exact h.2.1;exact h.2.2
theorem QhK.set {g:YY Qhq} {s:YY ByteArray} (h:QhK k g s) (i:Int) {x:Qhq} {y:ByteArray} (hx:QgO k x y):QhK k (g.set i x) (s.set i y):=by
 unfold YY.set;split;exact⟨hx,h.2.1,h.2.2⟩;split;exact⟨h.1,hx,h.2.2⟩;exact⟨h.1,h.2.1,hx⟩
variable (hk:k.All (fun s=>Qo s≠none))
include hk
theorem QgO.size {g:Qhq} {s:ByteArray} (h:QgO k g s):s.size=0↔g.empty:=by
 unfold Qhq.empty
 rcases h with ⟨h1,rfl⟩|⟨i,_,h1,rfl⟩
 ·exact⟨fun h=>⟨h1,h⟩,fun h=>h.2⟩
 ·have:=(QdI (hk.get i)).1
  rw [M3]
  constructor<;>intro h<;>omega
theorem QgO.sps {g:Qhq} {s:ByteArray} (h:QgO k g s):QgF s=QgF g.shape:=by
 rcases h with ⟨_,rfl⟩|⟨i,_,_,rfl⟩
 ·rfl
 ·rw [QgN,(QdI (hk.get i)).2,J3]
theorem QgO.face {g:Qhq} {s:ByteArray} (h:QgO k g s) (hg:g.ok):(¬g.bare->Qa6 s=Qa6 g.shape)/\∀i:Nat,g.bare->i+1=g.given->Qa6 s=(Qo (k.get i)).getD 0:=by
 rcases h with ⟨h1,rfl⟩|⟨i,_,h1,rfl⟩
 ·exact⟨fun _=>rfl,fun i hb=>by have:=hb.1;omega⟩
 ·refine⟨fun hb=>?_,fun j hb hj=>?_⟩
  ·have hs:0<QgF g.shape:=by
    unfold Qhq.bare at hb
    omega
   exact QhU _ _ hs
  ·obtain rfl:i=j:=by omega
   unfold Qa6
   rw [QgN,hb.2,(QdI (hk.get i)).2,if_neg (by omega)]
   have hz:=(QhB hg).1 hb
   have e:g.shape=⟨#[]⟩:=O5 (Q2.1 (by rw [I6 (show g.shape.data.toList.length=0 by rw [Zl];exact hz.1)]))
   rw [e]
   congr 2
   exact O5 (by simp)
def Qh5 (k:YY ByteArray) (g:YY Qhq) (s:YY ByteArray):Prop:=g.All Qhq.ok/\s.All W8/\QhK k g s
def Qh6 (k:YY ByteArray) (i:Nat) (w:Int):Prop:=ZL ((Qo (k.get i)).getD 0) w
def Qc6 (k:YY ByteArray) (X:Rn (YY ByteArray)) (Y:W3 (YY Qhq)):Prop:=∀g s,Qh5 k g s->(∀i w,Y.ask g i w->Qh6 k i w)->¬Y.fail g->
 (∀i t,X.ok s i t->∃g',Y.reach g g'/\Qh5 k g' t)/\∀i t e,X.bad s i t e->e.code≠1
omit hk in
theorem Qc6.skip:Qc6 k Rn.skip W3.skip:=fun g s h _ _=>⟨fun i t ht=>⟨g,rfl,by have e:t=s:=ht.2;rw [e];exact h⟩,fun _ _ _ h=>h.elim⟩
variable {X X':Rn (YY ByteArray)} {Y Y':W3 (YY Qhq)}
omit hk in
theorem Qc6.seq (h:Qc6 k X Y) (h':Qc6 k X' Y'):Qc6 k (X.seq X') (Y.seq Y'):=fun g s hw ha hf=>by
 obtain⟨h1,h2⟩:=h g s hw (fun i w h=>ha i w (.inl h)) (fun h=>hf (.inl h))
 have hn:∀i u,X.ok s i u->∃g',Y.reach g g'/\(∀i t,X'.ok u i t->∃g'',Y'.reach g' g''/\Qh5 k g'' t)/\∀i t e,X'.bad u i t e->e.code≠1:=fun i u hu=>by
  obtain⟨g',hr,hw'⟩:=h1 i u hu
  have:=h' g' u hw' (fun i w h=>ha i w (.inr ⟨g',hr,h⟩)) (fun h=>hf (.inr ⟨g',hr,h⟩))
  exact⟨g',hr,this⟩
 refine⟨fun i t ht=>?_,fun i t e ht=>?_⟩
 ·obtain⟨i1,i2,u,_,hu,ht⟩:=ht
  obtain⟨g',hr,h3,_⟩:=hn i1 u hu
  obtain⟨g'',hr',hw''⟩:=h3 i2 t ht
  exact⟨g'',⟨g',hr,hr'⟩,hw''⟩
 ·rcases ht with ht|⟨i1,i2,u,_,hu,ht⟩
  ·exact h2 i t e ht
  ·obtain⟨g',_,_,h4⟩:=hn i1 u hu
   exact h4 i2 t e ht
omit hk in
theorem Qc6.took (n:Int) (h:Qc6 k X Y):Qc6 k (X.took n) Y:=fun g s hw ha hf=>by
 obtain⟨h1,h2⟩:=h g s hw ha hf
 exact⟨fun i t ⟨j,_,ht⟩=>h1 j t ht,fun i t e ⟨j,_,ht⟩=>h2 j t e ht⟩
omit hk in
theorem Qc6.alt (h:Qc6 k X Y) (h':Qc6 k X' Y'):Qc6 k (X.alt X') (Y.alt Y'):=fun g s hw ha hf=>by
 obtain⟨h1,h2⟩:=h g s hw (fun i w h=>ha i w (.inl h)) (fun h=>hf (.inl h))
 obtain⟨h3,h4⟩:=h' g s hw (fun i w h=>ha i w (.inr h)) (fun h=>hf (.inr h))
 refine⟨fun i t ht=>?_,fun i t e ht=>ht.elim (h2 i t e) (h4 i t e)⟩
 rcases ht with ht|ht
 ·obtain⟨g',a,b⟩:=h1 i t ht;exact⟨g',.inl a,b⟩
 ·obtain⟨g',a,b⟩:=h3 i t ht;exact⟨g',.inr a,b⟩
omit hk in
theorem Qc6.pow (h:Qc6 k X Y):∀n,Qc6 k (X.pow n) (Y.pow n)
 |0=>Qc6.skip
 |n+1=>(Qc6.pow h n).seq h
omit hk in
theorem QhD {σ:Type} (Y:W3 σ) (s:σ):∀n m,n<=m->(∀i w,(Y.pow n).ask s i w->(Y.pow m).ask s i w)/\((Y.pow n).fail s->(Y.pow m).fail s)
 | n,m,h=>by
  induction m with
  |zero=>
   obtain rfl:n=0:=by omega
   exact⟨fun _ _ h=>h,fun h=>h⟩
  | succ m ih=>
   by_cases e:n=m+1
   ·rw [e];exact⟨fun _ _ h=>h,fun h=>h⟩
   ·have:=ih (by omega)
    exact⟨fun i w h=>.inl (this.1 i w h),fun h=>.inl (this.2 h)⟩
omit hk in
theorem Qc6.loop (h:Qc6 k X Y):Qc6 k X.loop Y.loop:=fun g s hw ha hf=>by
 have hp:∀n,n<=3->(∀i t,(X.pow n).ok s i t->∃g',(Y.pow n).reach g g'/\Qh5 k g' t)/\∀i t e,(X.pow n).bad s i t e->e.code≠1:=fun n hn=>
  h.pow n g s hw (fun i w h=>ha i w ((QhD Y g n 3 hn).1 i w h)) (fun h=>hf ((QhD Y g n 3 hn).2 h))
 refine⟨fun i t ⟨n,hn,j,_,ht⟩=>?_,fun i t e ⟨n,hn,j,_,ht⟩=>(hp n hn).2 j t e ht⟩
 obtain⟨g',a,b⟩:=(hp n hn).1 j t ht
 exact⟨g',⟨n,hn,a⟩,b⟩
theorem QhH (a:Qa) (p:Int) (h:Qgc a) (h8:a.op≠8) (h9:a.op≠9):Qc6 k (Qs a p) (QdW a):=fun g s ⟨hg,hs,hr⟩ hask hfail=>by
 obtain⟨ha,h3,h10⟩:=h
 have hop:=Gt ha
 have hok:=QcO a ha p h8 h9 h10 s hs
 -- what is left: the step's end, and what is reached
 suffices H:((YX a p s).2.code≠1)/\((YX a p s).2=QJ->∃g',(QdW a).reach g g'/\g'.All Qhq.ok/\QhK k g' (YX a p s).1) by
  refine⟨fun i t ht=>?_,fun i t e ht=>?_⟩
  ·obtain⟨g',h1,h2,h4⟩:=H.2 (by rw [ht.2])
   have e:(YX a p s).1=t:=by rw [ht.2]
   rw [e] at h4 hok
   exact⟨g',h1,h2,hok,h4⟩
  ·have e:(YX a p s).2=e:=by rw [ht.2.1]
   rw [<-e];exact H.1
 have keepok:∀t,(QdW a).reach g t->t.All Qhq.ok:=fun t=>(QhV a ⟨ha,h3,h10⟩ h8 h9).keep (s:=g) hg
 have hsz:=QgO.size hk (hr.get a.slot)
 have hsp:=QgO.sps hk (hr.get a.slot)
 have hfc:=QgO.face hk (hr.get a.slot) (hg.get a.slot)
 unfold QdW at hask hfail keepok ⊢
 unfold YX
 by_cases h1:a.op=1
 ·simp only [h1,if_true] at keepok ⊢
  exact⟨by decide,fun _=>⟨_,rfl,keepok _ rfl,hr.set _ (.inl ⟨rfl,rfl⟩)⟩⟩
 by_cases h5:a.op=5
 ·simp only [h5,if_true,show ¬(5:Int)=1 by decide,if_false] at keepok ⊢
  exact⟨by decide,fun _=>⟨_,rfl,keepok _ rfl,hr.set _ (.inl ⟨rfl,rfl⟩)⟩⟩
 by_cases h4:a.op=4
 ·simp only [h4,if_true,show ¬(4:Int)=1 by decide,show ¬(4:Int)=5 by decide,if_false] at keepok ⊢
  exact⟨by decide,fun _=>⟨_,rfl,keepok _ rfl,hr.set _ (hr.get _)⟩⟩
 simp only [h1,h5,h4,if_false] at hask hfail keepok ⊢
 by_cases hz:(s.get a.slot).size=0
 ·rw [if_pos hz]
  exact⟨show(2:Int)≠1 by decide,fun h=>by have:=congrArg Xo.code h;cases this⟩
 rw [if_neg hz,if_neg h3]
 have he:¬(g.get a.slot).empty:=fun h=>hz (hsz.2 h)
 have hl:=Qhs hz
 have hface:=QhM hz (hs.get a.slot)
 -- what is asked is offered
 have hoff:(a.op=2->QgF (g.get a.slot).shape<3)->ZL (yO (s.get a.slot)) (KV a):=fun h23=>by
  rw [hface]
  by_cases hb:(g.get a.slot).bare
  ·obtain⟨i,hi⟩:∃i,i+1=(g.get a.slot).given:=⟨(g.get a.slot).given-1,by have:=hb.1;omega⟩
   rw [hfc.2 i hb hi]
   refine hask i (KV a) ?_
   by_cases h2:a.op=2
   ·simp only [h2,if_true];exact⟨hb,hi,trivial⟩
   ·simp only [h2,if_false];exact⟨hb,hi,trivial⟩
  ·rw [hfc.1 hb]
   refine Decidable.byContradiction fun hno=>hfail ?_
   by_cases h2:a.op=2
   ·simp only [h2,if_true];exact⟨he,h23 h2,hb,hno⟩
   ·simp only [h2,if_false];exact⟨he,hb,hno⟩
 by_cases h2:a.op=2
 ·simp only [h2,if_true,true_and] at keepok ⊢
  by_cases h33:3<(Um (s.get a.slot)).length
  ·rw [if_pos h33]
   exact⟨show(0:Int)≠1 by decide,fun _=>⟨g,⟨he,.inl ⟨by omega,rfl⟩⟩,hg,hr⟩⟩
  ·have hlt:QgF (g.get a.slot).shape<3:=by omega
   have ho:=hoff (fun _=>hlt)
   rw [if_neg h33,if_neg (fun h=>h ho)]
   have hb:(g.get a.slot).bare∨ZL (Qa6 (g.get a.slot).shape) (KV a):=by
    by_cases hb:(g.get a.slot).bare
    ·exact .inl hb
    ·rw [hface,hfc.1 hb] at ho;exact .inr ho
   refine⟨show(0:Int)≠1 by decide,fun _=>⟨g.set a.slot ((g.get a.slot).wrap a.word),⟨he,.inr ⟨hlt,hb,rfl⟩⟩,keepok _ ⟨he,.inr ⟨hlt,hb,rfl⟩⟩,hr.set _ ?_⟩⟩
   rcases hr.get a.slot with ⟨q1,q2⟩|⟨i,q0,q1,q2⟩
   ·exact .inl ⟨q1,by rw [q2];rfl⟩
   ·exact .inr ⟨i,q0,q1,by rw [q2,ByteArray.append_assoc];rfl⟩
 ·simp only [h2,if_false,false_and] at keepok ⊢
  have ho:=hoff (fun h=>absurd h h2)
  rw [if_neg (fun h=>h ho)]
  have hb:(g.get a.slot).bare∨ZL (Qa6 (g.get a.slot).shape) (KV a):=by
   by_cases hb:(g.get a.slot).bare
   ·exact .inl hb
   ·rw [hface,hfc.1 hb] at ho;exact .inr ho
  exact⟨show(0:Int)≠1 by decide,fun _=>⟨g,⟨he,hb,rfl⟩,hg,hr⟩⟩
end
mutual
theorem Qa.sound {k:YY ByteArray} (hk:k.All (fun s=>Qo s≠none)):∀(a:Qa) (p:Int),a.AllA Qgc->Qc6 k (a.ex Qs p) (a.w3 QdW)
 | .mk op slot other word call face A B,p,h=>by
  rw [Qa.ex_eq,Qa.w3_eq]
  rw [Qa.AllA] at h
  have h10:=h.1.2.2
  simp only [Qa.op,Qa.A,Qa.B] at h10 ⊢
  by_cases h8:op=8
  ·simp only [h8,if_true]
   exact((Qho hk A _ h.2.1).took 1).alt ((Qho hk B _ h.2.2).took 0)
  ·by_cases h9:op=9
   ·simp only [h9,if_true,show ¬(9:Int)=8 by decide,if_false]
    exact(Qho hk A _ h.2.1).loop
   ·simp only [h8,h9,h10,if_false]
    exact QhH hk _ p h.1 h8 h9
theorem Qho {k:YY ByteArray} (hk:k.All (fun s=>Qo s≠none)):∀(l:List Qa) (p:Int),QgK Qgc l->Qc6 k (Vn Qs l p) (w3L QdW l)
 | [],_,_=>by rw [Vn,w3L];exact Qc6.skip
 |a::l,p,h=>by
  rw [QgK] at h
  rw [Vn,w3L]
  exact(Qa.sound hk a p h.1).seq (Qho hk l _ h.2)
end
mutual
theorem Qa.plainA:∀a:Qa,a.ok->a.no 10 3->a.AllA Qgc
 | .mk op slot other word call face A B,h,hn=>by
  rw [Qa.ok] at h
  rw [Qa.no] at hn
  rw [Qa.AllA]
  exact⟨⟨h.1,hn.1.2,hn.1.1⟩,QhI A h.2.1 hn.2.1,QhI B h.2.2 hn.2.2⟩
theorem QhI:∀l:List Qa,Jm l->zR 10 3 l->QgK Qgc l
 | [],_,_=>by rw [QgK];trivial
 |a::l,h,hn=>by
  rw [Jm] at h
  rw [zR] at hn
  rw [QgK]
  exact⟨Qa.plainA a h.1 hn.1,QhI l h.2 hn.2⟩
end
def Qhy:YY Qhq:=⟨⟨1,⟨#[]⟩⟩,⟨2,⟨#[]⟩⟩,⟨3,⟨#[]⟩⟩⟩
theorem QhT:Qhy.All Qhq.ok:=⟨⟨by decide,fun h=>absurd rfl h⟩,⟨by decide,fun h=>absurd rfl h⟩,⟨by decide,fun h=>absurd rfl h⟩⟩
theorem Qic {k:YY ByteArray} (hk:k.All (fun s=>Qo s≠none)) {l:List Qa} (hl:QgK Qgc l) (hask:∀i w,(w3L QdW l).ask Qhy i w->Qh6 k i w) (hf:¬(w3L QdW l).fail Qhy) {i:List Int} {t:YY ByteArray} {e:Xo} (h:(Vn Qs l 0).bad k i t e):e.code≠1:=by
 have hs:k.All W8:=by
  have one:∀s,Qo s≠none->W8 s:=fun s h=>.inr (by
   have hw:=QdI h
   unfold Um
   rw [if_neg hw.1,yF (List.count_eq_zero.1 hw.2)]
   obtain⟨f,hf⟩:=O6.1 h
   rw [Ko hf]
   rfl)
  exact⟨one _ hk.1,one _ hk.2.1,one _ hk.2.2⟩
 have e0:∀s:ByteArray,s=s++⟨#[]⟩:=fun s=>O5 (by simp)
 exact(Qho hk l 0 hl Qhy k ⟨QhT,hs,.inr ⟨0,by decide,rfl,e0 _⟩,.inr ⟨1,by decide,rfl,e0 _⟩,.inr ⟨2,by decide,rfl,e0 _⟩⟩ hask hf).2 i t e h
end Go.Proofs.YtjeadhmkghnkkaaGreatDoor
