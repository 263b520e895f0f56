/- What the inference holds. Conditions: as stated. -/
import Derived.Test.YtfjhdnjlhjimeaaGreatDoorKeyG
import Derived.Test.YtfjhdnjlhjimeaaGreatDoorMemos
namespace Go.Proofs.YtfjhdnjlhjimeaaGreatDoor
open Go.RowKit

theorem Qh3:∀f g:Fin 64,ql (bits .or .i64 ((f.1:Nat):Int) ((g.1:Nat):Int))/\∀k:Fin 6,has (bits .or .i64 ((f.1:Nat):Int) ((g.1:Nat):Int)) k=(has ((f.1:Nat):Int) k || has ((g.1:Nat):Int) k):=by unfold ql;decide+kernel
def Qgm (A:Nat->Int->Prop) (i:Nat) (u:Int):Prop:=ql u/\∀k:Fin 6,has u k=true↔ ∃n,A i n/\has n k=true
theorem Qgm.or {A:Nat->Int->Prop} {i:Nat} {u n:Int} (h:Qgm A i u) (hn:ql n):Qgm (fun j m=>A j m∨(j=i/\m=n)) i (bits .or .i64 u n):=by
 obtain⟨h1,h2⟩:=h
 have e:=Qh3 ⟨u.toNat,by have:=h1.1;have:=h1.2;omega⟩ ⟨n.toNat,by have:=hn.1;have:=hn.2;omega⟩
 have e1:((u.toNat:Nat):Int)=u:=by have:=h1.1;omega
 have e2:((n.toNat:Nat):Int)=n:=by have:=hn.1;omega
 simp only [e1,e2] at e
 refine⟨e.1,fun k=>?_⟩
 rw [e.2 k,Bool.or_eq_true,h2 k]
 constructor
 ·rintro(⟨m,a,b⟩|h)
  ·exact⟨m,.inl a,b⟩
  ·exact⟨n,.inr ⟨rfl,rfl⟩,h⟩
 ·rintro⟨m,a|⟨_,rfl⟩,b⟩
  ·exact .inl ⟨m,a,b⟩
  ·exact .inr b
theorem Qgm.congr {A A':Nat->Int->Prop} {i:Nat} {u:Int} (h:Qgm A i u) (he:∀n,A i n↔A' i n):Qgm A' i u:=⟨h.1,fun k=>(h.2 k).trans (exists_congr fun n=>and_congr (he n) i7)⟩
theorem Qgm.offer {A:Nat->Int->Prop} {i:Nat} {u f:Int} (h:Qgm A i u) (hA:∀n,A i n->ql n) (hf:ql f):ZL f u↔ ∀n,A i n->ZL f n:=
 ⟨fun ho n hn=>⟨hf,hA n hn,fun k hk=>ho.2.2 k ((h.2 k).2 ⟨n,hn,hk⟩)⟩,fun ho=>⟨hf,h.1,fun k hk=>by
  obtain⟨n,hn,hk⟩:=(h.2 k).1 hk
  exact(ho n hn).2.2 k hk⟩⟩
def Qf9 (w:World) (x:Nat) (A:Nat->Int->Prop) (F:Prop):Prop:=∃u0 u1 u2 f,ZU w x [.int .i64 u0,.int .i64 u1,.int .i64 u2,.bool f] /\Qgm A 0 u0/\Qgm A 1 u1/\Qgm A 2 u2/\(f=true↔F)
section
variable {w w':World} {x:Nat} {A A':Nat->Int->Prop} {F F':Prop} {S:List Nat}
theorem Qf9.lt (h:Qf9 w x A F):x<w.heap.size:=by obtain⟨_,_,_,_,h,_⟩:=h;exact h.lt
theorem Qf9.keep (h:Qf9 w x A F) (hc:Qc S w w') (hx:x∉S:=by first|(simp;done)|((repeat' first|exact F1|refine J4 ?_ ?_)<;>first|assumption|(apply j5;assumption)|omega)|(simp;omega)):Qf9 w' x A F:=by
 obtain⟨u0,u1,u2,f,h1,h2⟩:=h
 exact⟨u0,u1,u2,f,h1.keep hc hx,h2⟩
theorem Qf9.congr (h:Qf9 w x A F) (hA:∀i n,i<3->(A i n↔A' i n)) (hF:F↔F'):Qf9 w x A' F':=by
 obtain⟨u0,u1,u2,f,h1,h2,h3,h4,h5⟩:=h
 exact⟨u0,u1,u2,f,h1,h2.congr (fun n=>hA 0 n (by omega)),h3.congr (fun n=>hA 1 n (by omega)),h4.congr (fun n=>hA 2 n (by omega)),h5.trans hF⟩
end
def Qg9 (t:YY Qhq):List Value:=[.int .i64 t.a.given,.string t.a.shape,.int .i64 t.b.given,.string t.b.shape,.int .i64 t.c.given,.string t.c.shape]
def Qa2 (X:W3 (YY Qhq)):Prop:=∀s t,s.All Qhq.sm->X.reach s t->t.All Qhq.sm
section
variable {X Y:W3 (YY Qhq)}
theorem Qa2.skip:Qa2 W3.skip:=fun s t h e=>by have e:t=s:=e;rw [e];exact h
theorem Qa2.seq (h:Qa2 X) (h':Qa2 Y):Qa2 (X.seq Y):=fun s t hs ⟨u,a,b⟩=>h' u t (h s u hs a) b
theorem Qa2.alt (h:Qa2 X) (h':Qa2 Y):Qa2 (X.alt Y):=fun s t hs h1=>h1.elim (h s t hs) (h' s t hs)
theorem Qa2.pow (h:Qa2 X):∀n,Qa2 (X.pow n)
 |0=>Qa2.skip
 |n+1=>(Qa2.pow h n).seq h
theorem Qa2.loop (h:Qa2 X):Qa2 X.loop:=fun s t hs ⟨n,_,h1⟩=>h.pow n s t hs h1
theorem QhA {s:ByteArray} (h:Qo s≠none∨Qj s≠none):s.size<=99:=by
 rw [<-Zl]
 rcases h with h|h
 ·obtain⟨x,hx⟩:=O6.1 h
  have hm:=UZ hx
  rw [Vl] at hm
  have hall:∀p∈kinds,p.1.length<=99:=by decide
  exact hall _ hm
 ·obtain⟨x,hx⟩:=O6.1 h
  have hm:=UZ hx
  rw [Vl] at hm
  have hall:∀p∈Yk,p.1.length<=99:=by decide
  exact hall _ hm
theorem Qh4 {x:Qhq} (h:x.sm) {w:ByteArray} (hw:Qj w≠none) (hs:QgF x.shape<3):(x.wrap w).sm:=by
 refine⟨QhO h.1 (QbG hw).2 hs,?_⟩
 have h1:=QhA (.inr hw)
 have h2:=h.2
 unfold Qhq.wrap
 rw [Qga (QbG hw).2,M3,M3,show xG.size=1 from rfl]
 omega
theorem Qhz (a:Qa) (h:Qgc a):Qa2 (QdW a):=fun s t hs hr=>by
 have ha:=h.1
 unfold QdW at hr
 by_cases h1:a.op=1
 ·rw [if_pos h1] at hr
  have hr:t=s.set a.slot ⟨0,a.word⟩:=hr
  have hk:=((xQ h1).1 ha).2.1
  have hw:=QdI hk
  rw [hr]
  exact hs.set _ ⟨⟨I3 _,fun _=>⟨.inl rfl,by show QgF a.word<=3;rw [hw.2];omega⟩⟩,by have:=QhA (.inl hk);show a.word.size<=_;omega⟩
 rw [if_neg h1] at hr
 by_cases h5:a.op=5
 ·rw [if_pos h5] at hr
  have hr:t=s.set a.slot ⟨0,⟨#[]⟩⟩:=hr
  rw [hr]
  exact hs.set _ ⟨⟨by decide,fun h=>absurd rfl h⟩,I3 _⟩
 rw [if_neg h5] at hr
 by_cases h4:a.op=4
 ·rw [if_pos h4] at hr
  have hr:t=s.set a.slot (s.get a.other):=hr
  rw [hr]
  exact hs.set _ (hs.get _)
 rw [if_neg h4] at hr
 by_cases h2:a.op=2
 ·rw [if_pos h2] at hr
  obtain⟨_,⟨_,rfl⟩|⟨hlt,_,rfl⟩⟩:=hr
  ·exact hs
  ·exact hs.set _ (Qh4 (hs.get _) ((xJ h2).1 ha).2.1 hlt)
 ·rw [if_neg h2] at hr
  rw [hr.2.2]
  exact hs
mutual
theorem Qa.keepsG:∀a:Qa,a.AllA Qgc->Qa2 (a.w3 QdW)
 | .mk op slot other word call face A B,h=>by
  rw [Qa.w3_eq]
  rw [Qa.AllA] at h
  by_cases h8:op=8
  ·simp only [Qa.op,Qa.A,Qa.B,h8,if_true];exact(Qhl A h.2.1).alt (Qhl B h.2.2)
  ·by_cases h9:op=9
   ·simp only [Qa.op,Qa.A,h9,if_true];exact(Qhl A h.2.1).loop
   ·simp only [Qa.op,h8,h9,if_false];exact Qhz _ h.1
theorem Qhl:∀l:List Qa,QgK Qgc l->Qa2 (w3L QdW l)
 | [],_=>by rw [w3L];exact Qa2.skip
 |a::l,h=>by
  rw [QgK] at h
  rw [w3L]
  exact(Qa.keepsG a h.1).seq (Qhl l h.2)
end
end
end Go.Proofs.YtfjhdnjlhjimeaaGreatDoor
