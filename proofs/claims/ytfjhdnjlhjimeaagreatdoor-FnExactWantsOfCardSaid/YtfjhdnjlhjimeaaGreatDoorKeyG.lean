/- Keys of the inference's maps. Conditions: as stated. -/
import Derived.Test.YtfjhdnjlhjimeaaGreatDoorMoreW
import Derived.Test.YtfjhdnjlhjimeaaGreatDoorMapsQ
namespace Go.Proofs.YtfjhdnjlhjimeaaGreatDoor
open Go.RowKit

def Qgi (t:YY Qhq):Value:=.agg #[.int .i64 t.a.given,.string t.a.shape,.int .i64 t.b.given,.string t.b.shape,.int .i64 t.c.given,.string t.c.shape]
def Qhq.sm (x:Qhq):Prop:=x.ok/\x.shape.size<=100 * (QgF x.shape+1)
theorem Qhq.sm.le {x:Qhq} (h:x.sm):x.given<=3/\x.shape.size<=400:=by
 refine⟨h.1.1,?_⟩
 by_cases hz:x.shape.size=0
 ·omega
 ·have:=(h.1.2 hz).2;have:=h.2;omega
theorem QhL:Maps.Keyed Tryz.prog 114:=Maps.Keyed.of_law (deep_law_laid (m:=4) (by kernel_rfl) (by decide) (by decide+kernel) (by kernel_rfl) (by kernel_rfl))
theorem QhJ (t:YY Qhq) (h:t.All Qhq.sm):∃l,keyOf Tryz.prog 114 (Qgi t)=some l:=by
 have h0:Tryz.prog.underlying 114=some (.array 3 112):=by kernel_rfl
 have hs:Tryz.prog.underlying 9=some .string:=by kernel_rfl
 have hi:Tryz.prog.underlying 3=some (.int .i64):=by kernel_rfl
 have hk:(Tryz.prog.keyType 114&&(Qgi t).formed Tryz.prog 114)=true:=by kernel_rfl
 have hc1:Tryz.prog.cellsOf 9=1:=by kernel_rfl
 have hc2:Tryz.prog.cellsOf 3=1:=by kernel_rfl
 have hc3:Tryz.prog.cellsOf 112=2:=by kernel_rfl
 have hc6:Tryz.prog.cellsOf 114=6:=by kernel_rfl
 have h3t:3<=Tryz.prog.types.size:=by decide+kernel
 obtain⟨m,hm⟩:∃m,Tryz.prog.types.size+1=m+1+1+1:=⟨Tryz.prog.types.size-2,by omega⟩
 have hb:∀x:Qhq,x.sm->Tryz.prog.keyLits (m+1+1) 112 [.int .i64 x.given,.string x.shape]=some [.int .i64 x.given,.string x.shape.data.toList]:=fun x hx=>by
  have h1:=hx.le
  have hl:Tryz.prog.keyLits (m+1) 9 [.string x.shape]=some [.string x.shape.data.toList]:=by
   unfold Program.keyLits
   rw [hs]
   simp only
   rw [if_pos (by unfold maxLen;omega)]
  have hn:Tryz.prog.keyLits (m+1) 3 [.int .i64 x.given]=some [.int .i64 x.given]:=by
   unfold Program.keyLits
   rw [hi]
   simp only
   have hw:(Lit.int .i64 x.given).wf=true:=by simp only [Lit.wf,T0,decide_eq_true_eq];exact⟨show(-9223372036854775808:Int)<=_ by omega,show _<=(9223372036854775807:Int) by omega⟩
   simp [hw]
  unfold Program.keyLits
  rw [Tryz.underlying112]
  simp [hc1,hc2,hc3,hn,hl]
 unfold keyOf
 rw [h0]
 simp only
 rw [if_pos hk,hm]
 have hcs:(Qgi t).cells.toList=[.int .i64 t.a.given,.string t.a.shape,.int .i64 t.b.given,.string t.b.shape,.int .i64 t.c.given,.string t.c.shape]:=rfl
 rw [hcs]
 unfold Program.keyLits
 rw [h0]
 simp only
 rw [hc3]
 simp [List.range_succ,hc6,hb _ h.1,hb _ h.2.1,hb _ h.2.2]
def KCg (v:Value):Prop:=∃t:YY Qhq,v=Qgi t/\t.All Qhq.sm
theorem Qh8:qO Tryz.prog 114 KCg (fun _=>True):=qO.of_keyed QhL (fun v hv=>by
 obtain⟨t,rfl,h⟩:=hv
 exact QhJ t h)
theorem Qhr {a c:YY Qhq} (h:Qgi a=Qgi c):a=c:=by
 obtain⟨⟨a1,a2⟩,⟨a3,a4⟩,⟨a5,a6⟩⟩:=a
 obtain⟨⟨c1,c2⟩,⟨c3,c4⟩,⟨c5,c6⟩⟩:=c
 simp [Qgi] at h
 obtain⟨h1,rfl,h3,rfl,h5,rfl⟩:=h
 have h1:a1=c1:=by omega
 have h3:a3=c3:=by omega
 have h5:a5=c5:=by omega
 rw [h1,h3,h5]

def Qd6 (w:World) (b:Nat) (X:YY Qhq->Prop):Prop:=∃E,ZH w KCg b E/\(∀p∈E,∃k,p=(Qgi k,.bool true)/\X k/\k.All Qhq.sm)/\∀k,X k->(Qgi k,.bool true)∈E
section
variable {w w':World} {b r:Nat} {X D Y:YY Qhq->Prop}
theorem Qd6.lt (h:Qd6 w b X):b<w.heap.size:=by obtain⟨E,h1,_⟩:=h;exact h1.lt
theorem Qd6.keep {S:List Nat} (h:Qd6 w b X) (hc:Qc S w w') (hb:b∉S:=by first|(simp;done)|((repeat' first|exact F1|refine J4 ?_ ?_)<;>first|assumption|(apply j5;assumption)|omega)|(simp;omega)):Qd6 w' b X:=by
 obtain⟨E,h1,h2⟩:=h
 exact⟨E,h1.chg hc hb,h2⟩
theorem Qd6.congr (h:Qd6 w b X) (he:∀k,X k↔Y k):Qd6 w b Y:=by
 have:X=Y:=funext fun k=>propext (he k)
 rwa [<-this]
theorem Qd6.sm (h:Qd6 w b X) {k:YY Qhq} (hk:X k):k.All Qhq.sm:=by
 obtain⟨E,_,h2,h3⟩:=h
 obtain⟨k',e,_,h4⟩:=h2 _ (h3 k hk)
 rw [Qhr (U8 e).1]
 exact h4
theorem Qd6.made (w:World) (h:∀k,¬X k):Qd6 (w.alloc (.map #[] 0)) w.heap.size X:=⟨[],ZH.made w KCg,fun p hp=>(by cases hp),fun k h1=>absurd h1 (h k)⟩
theorem Qd6.put {E E':List (Value×Value)} {t:YY Qhq} (h2:∀p∈E,∃k,p=(Qgi k,.bool true)/\X k/\k.All Qhq.sm) (h3:∀k,X k->(Qgi k,.bool true)∈E) (ht:t.All Qhq.sm) (h1:ZH w' KCg b E') (hm:∀p,p∈E'↔(p∈E/\p.1≠Qgi t)∨p=(Qgi t,.bool true)):Qd6 w' b (fun k=>X k∨k=t):=by
 refine⟨E',h1,fun p hp=>?_,fun k hk=>(hm _).2 ?_⟩
 ·rcases(hm p).1 hp with ⟨h,_⟩|h
  ·obtain⟨k,e,hx,hk⟩:=h2 p h
   exact⟨k,e,.inl hx,hk⟩
  ·exact⟨t,h,.inr rfl,ht⟩
 ·by_cases e:k=t
  ·exact .inr (by rw [e])
  ·exact .inl ⟨h3 k (hk.resolve_right e),fun h=>e (Qhr h)⟩
def Sgs (w:World) (b r:Nat) (X D:YY Qhq->Prop):Prop:=
 ∃E L,ZH w KCg b E/\Gp w b r E L/\b≠r/\(∀p∈E,∃k,p=(Qgi k,.bool true)/\X k/\k.All Qhq.sm)/\(∀k,X k->(Qgi k,.bool true)∈E)/\∀k,D k↔X k/\(Qgi k,.bool true)∉L
theorem Sgs.smap (h:Sgs w b r X D):Qd6 w b X:=by obtain⟨E,L,h1,_,_,h2,h3,_⟩:=h;exact⟨E,h1,h2,h3⟩
theorem Sgs.lt (h:Sgs w b r X D):b<w.heap.size/\r<w.heap.size/\b≠r:=by
 obtain⟨E,L,h1,h2,h3,_⟩:=h
 exact⟨h1.lt,h2.lt.2,h3⟩
theorem Sgs.keep {S:List Nat} (h:Sgs w b r X D) (hc:Qc S w w') (hb:b∉S:=by first|(simp;done)|((repeat' first|exact F1|refine J4 ?_ ?_)<;>first|assumption|(apply j5;assumption)|omega)|(simp;omega)) (hr:r∉S:=by first|(simp;done)|((repeat' first|exact F1|refine J4 ?_ ?_)<;>first|assumption|(apply j5;assumption)|omega)|(simp;omega)):Sgs w' b r X D/\leftN w' b r=leftN w b r:=by
 obtain⟨E,L,h1,h2,h3⟩:=h
 have h4:=h2.chg hc hb hr
 exact⟨⟨E,L,h1.chg hc hb,h4,h3⟩,by rw [h2.leftN,h4.leftN]⟩
end
section
variable {P:Program} {w:World} {ops:Array Oper} {rest:List Oper} {o:Oper} {a:Act} {Q:Exit->Act->World->Prop} {k e:TypeId} {b r:Nat} {X D:YY Qhq->Prop}
theorem Qia (hg:o.guard=none) (m:Operand) (t:TypeId) (hop:o.op=Op.range t m) (ht:P.underlying t=some (.map k e)) (hm:a.eval m= .map (some b)) (h:Qd6 w b X)
  (hK:∀w',Sgs w' b w.heap.size X (fun _=>False)->Qc [] w w'->w'.heap.size=w.heap.size+1->wpList P ops Q rest (a.put o.dst (.pointer (some ⟨w.heap.size,0,none⟩))) w'):
  wpList P ops Q (o::rest) a w:=by
 obtain⟨E,h1,h2,h3⟩:=h
 refine Qcg hg m t hop ht hm h1 fun w' hR hc hs=>hK w' ?_ hc hs
 have hlt:=h1.lt
 exact⟨E,E,h1.chg hc (by simp),hR,by omega,h2,h3,fun k=>⟨fun h=>h.elim,fun⟨hl,hn⟩=>hn (h3 k hl)⟩⟩
theorem Qh9 (hg:o.guard=none) (it:Operand) (hop:o.op=Op.next it false) (hit:a.eval it= .pointer (some ⟨r,0,none⟩)) (h:Sgs w b r X D)
  (hDone:(∀k,D k↔X k)->wpList P ops Q rest (a.put o.dst (.tuple #[.bool false])) w)
  (hMore:∀k w',k.All Qhq.sm->X k->Sgs w' b r X (fun k'=>D k'∨k'=k)->Qc [r] w w'->w'.heap.size=w.heap.size->leftN w' b r<leftN w b r->
   (Instr.entry (.pointer (some ⟨r,0,none⟩))).run P w'= .ok (.tuple #[Qgi k,.bool true]) w'->wpList P ops Q rest (a.put o.dst (.tuple #[.bool true,Qgi k,.bool true])) w'):
  wpList P ops Q (o::rest) a w:=by
 obtain⟨E,L,h1,h2,h3,h4,h5,h7⟩:=h
 refine QbR hg it hop hit h2 h3 (fun h0=>hDone fun k=>?_) (fun x v L' w' hp hx hR hc hs hrun=>?_)
 ·rw [h7,h0]
  simp
 ·obtain⟨k,ek,hX,hk⟩:=h4 _ hx
  obtain⟨rfl,rfl⟩:=U8 ek
  have hpw:((Qgi k,.bool true)::L').Pairwise (fun p q=>p.1≠q.1):=(hp.pairwise_iff (fun {a b} h=>fun e=>h e.symm)).1 h2.apart.1
  refine hMore k w' hk hX ⟨E,L',h1.chg hc (by simp [h3]),hR,h3,h4,h5,fun k'=>⟨?_,fun⟨hl',hn⟩=>?_⟩⟩ hc hs ?_ hrun
  ·rintro(hd|rfl)
   ·obtain⟨q1,q2⟩:=(h7 _).1 hd
    exact⟨q1,fun hv'=>q2 (hp.symm.subset (I5 _ hv'))⟩
   ·exact⟨hX,fun hv'=>(V1.1 hpw).1 _ hv' rfl⟩
  ·by_cases hk:k'=k
   ·exact .inr hk
   ·refine .inl ((h7 _).2 ⟨hl',fun hv'=>?_⟩)
    rcases C7.1 (hp.subset hv') with h|h
    ·exact hk (Qhr (U8 h).1)
    ·exact hn h
  ·rw [h2.leftN,hR.leftN,hp.length_eq]
   simp
theorem Qh7 (hg:o.guard=none) (m x v:Operand) (t:TypeId) (hop:o.op=Op.mapUpdate t m x v) (ht:P.underlying t=some (.map k e)) (K:qO P k KCg (fun _=>True)) (hm:a.eval m= .map (some b)) (h:Qd6 w b X) {s:YY Qhq} (hx:a.eval x=Qgi s) (hv:a.eval v= .bool true) (hs:s.All Qhq.sm)
  (hK:∀w',Qd6 w' b (fun k=>X k∨k=s)->Qc [b] w w'->w'.heap.size=w.heap.size->wpList P ops Q rest (a.put o.dst undef) w'):wpList P ops Q (o::rest) a w:=by
 obtain⟨E,h1,h2,h3⟩:=h
 refine YE hg m x v t hop K trivial ht hm h1 hx hv ⟨s,rfl,hs⟩ ?_
 intro w' E' hE' hc hsz hmm
 exact hK w' (Qd6.put h2 h3 hs hE' hmm) hc hsz
end
end Go.Proofs.YtfjhdnjlhjimeaaGreatDoor
