/- Plain Lean. Conditions: as stated. -/
import Derived.Test.YtfjhdnjlhjimeaaGreatDoorMoreW
namespace Go.Proofs.YtfjhdnjlhjimeaaGreatDoor
open Go.RowKit

section
variable {σ:Type} {f:Qa->W3 σ}
theorem QhP (a:Qa):∀(l:List Qa) (s:σ),(∀t,(w3L f (l++ [a])).reach s t↔ ∃u,(w3L f l).reach s u/\(a.w3 f).reach u t)/\(∀i n,(w3L f (l++ [a])).ask s i n↔(w3L f l).ask s i n∨∃u,(w3L f l).reach s u/\(a.w3 f).ask u i n)/\((w3L f (l++ [a])).fail s↔(w3L f l).fail s∨∃u,(w3L f l).reach s u/\(a.w3 f).fail u)
 | [],s=>by
  have e:w3L f ([] ++ [a])=W3.seq (a.w3 f) W3.skip:=by rw [J9,w3L,w3L]
  have e0:w3L f []=(W3.skip:W3 σ):=by rw [w3L]
  rw [e,e0]
  refine⟨fun t=>⟨fun⟨u,h1,h2⟩=>⟨s,rfl,by have h2:t=u:=h2;rw [h2];exact h1⟩,fun⟨u,h1,h2⟩=>⟨t,by have h1:u=s:=h1;rw [<-h1];exact h2,rfl⟩⟩,fun i n=>⟨fun h=>.inr ⟨s,rfl,h.resolve_right (fun⟨_,_,h⟩=>h)⟩,fun h=>.inl (h.elim (fun h=>h.elim) (fun⟨u,h1,h2⟩=>by have h1:u=s:=h1;rw [<-h1];exact h2))⟩,⟨fun h=>.inr ⟨s,rfl,h.resolve_right (fun⟨_,_,h⟩=>h)⟩,fun h=>.inl (h.elim (fun h=>h.elim) (fun⟨u,h1,h2⟩=>by have h1:u=s:=h1;rw [<-h1];exact h2))⟩⟩
 | x::l,s=>by
  have ih:=QhP a l
  have e:w3L f (x::l++ [a])=W3.seq (x.w3 f) (w3L f (l++ [a])):=by rw [M2,w3L]
  have e0:w3L f (x::l)=W3.seq (x.w3 f) (w3L f l):=by rw [w3L]
  rw [e,e0]
  refine⟨fun t=>?_,fun i n=>?_,?_⟩
  ·constructor
   ·rintro⟨v,h1,h2⟩
    obtain⟨u,h3,h4⟩:=((ih v).1 t).1 h2
    exact⟨u,⟨v,h1,h3⟩,h4⟩
   ·rintro⟨u,⟨v,h1,h3⟩,h4⟩
    exact⟨v,h1,((ih v).1 t).2 ⟨u,h3,h4⟩⟩
  ·constructor
   ·rintro(h|⟨v,h1,h2⟩)
    ·exact .inl (.inl h)
    ·rcases((ih v).2.1 i n).1 h2 with h|⟨u,h3,h4⟩
     ·exact .inl (.inr ⟨v,h1,h⟩)
     ·exact .inr ⟨u,⟨v,h1,h3⟩,h4⟩
   ·rintro((h|⟨v,h1,h2⟩)|⟨u,⟨v,h1,h3⟩,h4⟩)
    ·exact .inl h
    ·exact .inr ⟨v,h1,((ih v).2.1 i n).2 (.inl h2)⟩
    ·exact .inr ⟨v,h1,((ih v).2.1 i n).2 (.inr ⟨u,h3,h4⟩)⟩
  ·constructor
   ·rintro(h|⟨v,h1,h2⟩)
    ·exact .inl (.inl h)
    ·rcases(ih v).2.2.1 h2 with h|⟨u,h3,h4⟩
     ·exact .inl (.inr ⟨v,h1,h⟩)
     ·exact .inr ⟨u,⟨v,h1,h3⟩,h4⟩
   ·rintro((h|⟨v,h1,h2⟩)|⟨u,⟨v,h1,h3⟩,h4⟩)
    ·exact .inl h
    ·exact .inr ⟨v,h1,(ih v).2.2.2 (.inl h2)⟩
    ·exact .inr ⟨v,h1,(ih v).2.2.2 (.inr ⟨u,h3,h4⟩)⟩
structure QhF (X:σ->Prop) (A:Nat->Int->Prop) (F:Prop) (Y:W3 σ) (X':σ->Prop) (A':Nat->Int->Prop) (F':Prop):Prop where
 r:∀t,X' t↔ ∃s,X s/\Y.reach s t
 a:∀i n,A' i n↔A i n∨∃s,X s/\Y.ask s i n
 f:F'↔F∨∃s,X s/\Y.fail s
theorem QhF.zero (X:σ->Prop) (A:Nat->Int->Prop) (F:Prop):QhF X A F (w3L f []) X A F:=by
 have e0:w3L f []=(W3.skip:W3 σ):=by rw [w3L]
 rw [e0]
 exact⟨fun t=>⟨fun h=>⟨t,h,rfl⟩,fun⟨s,h,e⟩=>by have e:t=s:=e;rw [e];exact h⟩,fun i n=>⟨.inl,fun h=>h.elim id (fun⟨_,_,h⟩=>h.elim)⟩,⟨.inl,fun h=>h.elim id (fun⟨_,_,h⟩=>h.elim)⟩⟩
theorem QhF.more {X X':σ->Prop} {A A':Nat->Int->Prop} {F F':Prop} {m:List Qa} {k:Nat} (h:QhF X A F (w3L f (m.take k)) X' A' F') (hk:k<m.length):
  QhF X A F (w3L f (m.take (k+1))) (fun t=>∃u,X' u/\(m[k].w3 f).reach u t) (fun i n=>A' i n∨∃u,X' u/\(m[k].w3 f).ask u i n) (F'∨∃u,X' u/\(m[k].w3 f).fail u):=by
 rw [G6 hk]
 have hs:=QhP (f:=f) m[k] (m.take k)
 refine⟨fun t=>?_,fun i n=>?_,?_⟩
 ·simp only [h.r,(hs _).1]
  exact⟨fun⟨u,⟨s,h1,h2⟩,h3⟩=>⟨s,h1,u,h2,h3⟩,fun⟨s,h1,u,h2,h3⟩=>⟨u,⟨s,h1,h2⟩,h3⟩⟩
 ·simp only [h.a,h.r,(hs _).2.1]
  constructor
  ·rintro((h|⟨s,h1,h2⟩)|⟨u,⟨s,h1,h2⟩,h3⟩)
   ·exact .inl h
   ·exact .inr ⟨s,h1,.inl h2⟩
   ·exact .inr ⟨s,h1,.inr ⟨u,h2,h3⟩⟩
  ·rintro(h|⟨s,h1,h2|⟨u,h2,h3⟩⟩)
   ·exact .inl (.inl h)
   ·exact .inl (.inr ⟨s,h1,h2⟩)
   ·exact .inr ⟨u,⟨s,h1,h2⟩,h3⟩
 ·simp only [h.f,h.r,(hs _).2.2]
  constructor
  ·rintro((h|⟨s,h1,h2⟩)|⟨u,⟨s,h1,h2⟩,h3⟩)
   ·exact .inl h
   ·exact .inr ⟨s,h1,.inl h2⟩
   ·exact .inr ⟨s,h1,.inr ⟨u,h2,h3⟩⟩
  ·rintro(h|⟨s,h1,h2|⟨u,h2,h3⟩⟩)
   ·exact .inl (.inl h)
   ·exact .inl (.inr ⟨s,h1,h2⟩)
   ·exact .inr ⟨u,⟨s,h1,h2⟩,h3⟩
end
end Go.Proofs.YtfjhdnjlhjimeaaGreatDoor
