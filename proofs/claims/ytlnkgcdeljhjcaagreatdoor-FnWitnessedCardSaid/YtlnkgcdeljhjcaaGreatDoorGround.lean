/- Memory that reads as plain data. Conditions: as stated. -/
import Derived.Test.YtlnkgcdeljhjcaaGreatDoorRows
import Derived.Below
import Derived.OneCell
import Derived.Deep.Draws
import Derived.Laws.MakeOwn
import Derived.Laws.Entries
import Derived.WalkKit
import Derived.WalkSpells
import Derived.WalkLawsBesides
import Derived.Lib.Hide
import Derived.Deep.LoopGhost
import Derived.Deep.OwnRows
import Derived.BigQuiet
import Derived.Deep.QuietTactic
import Derived.ProofKit
import Derived.Deep.Slices
import Derived.OpenShut
import Derived.Laws.BytesArg
import Derived.StillTailTactics
set_option maxRecDepth 100000
set_option maxHeartbeats 400000
namespace Go.Proofs.YtlnkgcdeljhjcaaGreatDoor
open Go.RowKit

theorem Qd {p:Prop} (h:p):Hid p:=h
inductive QK where
 |v (x:Value)
 |s (n:Nat) (cs:List QK)

structure Qb (S:List Nat) (w w':World):Prop where
 os:w'.os=w.os
 tape:w'.tape=w.tape
 output:w'.output=w.output
 size:w.heap.size<=w'.heap.size
 block:∀k,k<w.heap.size->k∉S->w'.heap[k]?=w.heap[k]?

theorem Qb.refl (S:List Nat) (w:World):Qb S w w:=⟨rfl,rfl,rfl,Nat.le_refl _,fun _ _ _=>rfl⟩
theorem Qb.trans {S T:List Nat} {a b c:World} (h:Qb S a b) (k:Qb T b c) (hT:∀x,x∈T->x∈S∨a.heap.size<=x):Qb S a c:=
 ⟨k.os.trans h.os,k.tape.trans h.tape,k.output.trans h.output,Nat.le_trans h.size k.size,fun i hi hn=>
  (k.block i (Nat.lt_of_lt_of_le hi h.size) (fun hx=>(hT i hx).elim hn (fun h1=>by omega))).trans (h.block i hi hn)⟩
theorem Qb.tz {S:List Nat} {a b c:World} (h:Qb S a b) (k:Qb [] b c):Qb S a c:=h.trans k (fun _ hx=>by cases hx)
theorem Qb.ty {S:List Nat} {a b c:World} (h:Qb [] a b) (k:Qb S b c):Qb S a c:=
 ⟨k.os.trans h.os,k.tape.trans h.tape,k.output.trans h.output,Nat.le_trans h.size k.size,fun i hi hn=>
  (k.block i (Nat.lt_of_lt_of_le hi h.size) hn).trans (h.block i hi (by simp))⟩
theorem Qb.mono {S T:List Nat} {a b:World} (h:Qb S a b) (hT:∀x,x∈S->x∈T∨a.heap.size<=x):Qb T a b:=
 ⟨h.os,h.tape,h.output,h.size,fun i hi hn=>h.block i hi (fun hx=>(hT i hx).elim hn (fun h1=>by omega))⟩
theorem Qb.drew {S:List Nat} {a b:World} (h:Qb S a b):Qb S a b.drew:=⟨h.os,h.tape,h.output,h.size,h.block⟩
theorem Qb.drewN {S:List Nat} {a b:World} (h:Qb S a b) (n:Nat):Qb S a (b.drewN n):=⟨h.os,h.tape,h.output,h.size,h.block⟩
theorem Qb.alloc {S:List Nat} {a b:World} (h:Qb S a b) (o:Obj):Qb S a (b.alloc o):=
 ⟨h.os,h.tape,h.output,Nat.le_trans h.size (by simp),fun i hi hn=>(Below.heap_alloc b o i (Nat.lt_of_lt_of_le hi h.size)).trans (h.block i hi hn)⟩
theorem Qb.setCell {S:List Nat} {a b:World} (h:Qb S a b) {p:Addr} (hp:p.block∈S∨a.heap.size<=p.block) (u:Value):Qb S a (b.setCell p u):=
 ⟨h.os,h.tape,h.output,by simpa [World.setCell] using h.size,fun i hi hn=>(Below.heap_setCell b p u i (by
  rintro rfl
  rcases hp with hp|hp
  ·exact hn hp
  ·omega)).trans (h.block i hi hn)⟩
theorem Qb.below {B:Nat} {S:List Nat} {a b:World} (h:Qb S a b) (hS:∀x,x∈S->B<=x) (hB:B<=a.heap.size):Below B a b:=
 ⟨h.os,h.tape,h.output,h.size,fun k hk=>h.block k (by omega) (fun hx=>by have:=hS k hx;omega)⟩
theorem Qb.toBelow {a b:World} (h:Qb [] a b):Below a.heap.size a b:=h.below (by simp) (Nat.le_refl _)
theorem Qb.of_below {a b:World} (h:Below a.heap.size a b) (S:List Nat):Qb S a b:=⟨h.os,h.tape,h.output,h.size,fun k hk _=>h.block k hk⟩
theorem Qb.grown {S:List Nat} {a b c:World} {row:Option Nat} (h:Qb S a b) (hg:b.grownBy c row) (hr:∀k,row=some k->k∈S∨a.heap.size<=k):Qb S a c:=
 ⟨hg.os.trans h.os,hg.tape.trans h.tape,hg.output.trans h.output,Nat.le_trans h.size hg.size,fun i hi hn=>
  (hg.block i (Nat.lt_of_lt_of_le hi h.size) (fun e=>(hr i e.symm).elim hn (fun h1=>by omega))).trans (h.block i hi hn)⟩
theorem Qb.cell {S:List Nat} {a b:World} (h:Qb S a b) {p:Addr} (hp:p.block<a.heap.size) (hn:p.block∉S):b.cell? p=a.cell? p:=
 World.cell?_of_block (h.block _ hp hn)
theorem Qb.frozen {S:List Nat} {a b:World} (h:Qb S a b) {p:Addr} (hp:p.block<a.heap.size) (hn:p.block∉S):b.frozen? p=a.frozen? p:=
 World.frozen?_of_block (h.block _ hp hn)

theorem Qb.now {S:List Nat} {w W:World} (h:Qb S w W:=by(repeat(first|with_reducible exact Qb.refl _ _|with_reducible refine Qb.drew ?_|with_reducible refine Qb.drewN ?_ _|with_reducible refine Qb.alloc ?_ _|with_reducible refine Qb.setCell ?_ (by first|(refine .inl ?_;simp;done)|(refine .inl ?_;assumption)|(refine .inl (List.mem_cons_of_mem _ ?_);assumption)|(refine .inl (List.mem_cons_of_mem _ (Hid.out ?_));assumption)|(refine .inr ?_;simp<;>omega)) _));done):Qb S w W:=h
theorem Qb.to {S:List Nat} {w V W:World} (b:Qb S w V) (h:Qb S w V->Qb S w W:=by intro hb;(repeat(first|with_reducible exact hb|with_reducible exact Qb.refl _ _|with_reducible refine Qb.drew ?_|with_reducible refine Qb.drewN ?_ _|with_reducible refine Qb.alloc ?_ _|with_reducible refine Qb.setCell ?_ (by first|(refine .inl ?_;simp;done)|(refine .inl ?_;assumption)|(refine .inl (List.mem_cons_of_mem _ ?_);assumption)|(refine .inl (List.mem_cons_of_mem _ (Hid.out ?_));assumption)|(refine .inr ?_;simp<;>omega)) _));done):Qb S w W:=h b
theorem Qb.ce {S:List Nat} {a b:World} (h:Qb S a b) (x:Nat) (hx:x<a.heap.size:=by first|omega|(simp;done)|(simp;omega)) (hn:x∉S:=by simp):∀o,b.cell? ⟨x,o,none⟩=a.cell? ⟨x,o,none⟩:=fun _=>h.cell hx hn
theorem Qb.fe {S:List Nat} {a b:World} (h:Qb S a b) (x:Nat) (hx:x<a.heap.size:=by first|omega|(simp;done)|(simp;omega)) (hn:x∉S:=by simp):∀o,b.frozen? ⟨x,o,none⟩=a.frozen? ⟨x,o,none⟩:=fun _=>h.frozen hx hn

theorem Qn {w:World} {p:Addr} {u:Value} (h:w.cell? p=some u):p.block<w.heap.size:=World.block_lt_of_cell? w p h

mutual
def Rd (w:World) (B:Nat):QK->Value->Prop
 | .v x,u=>u=x
 | .s n cs,u=>∃A cap,u= .slice A n cap/\n<=cap/\cap<=maxLen/\(cs=[] ∨∃b off,A=some ⟨b,off,none⟩/\b<B/\RdL w B cs b off)
def RdL (w:World) (B:Nat):List QK->Nat->Nat->Prop
 | [],_,_=>True
 |d::ds,b,off=>(∃u,w.cell? ⟨b,off,none⟩=some u/\Rd w B d u)/\RdL w B ds b (off+1)
end

theorem qn {w:World} {B b:Nat}:∀ {ds:List QK} {off:Nat},RdL w B ds b off↔ ∀j d,ds[j]?=some d->∃u,w.cell? ⟨b,off+j,none⟩=some u/\Rd w B d u
 | [],off=>by simp [RdL]
 | d::ds,off=>by
  rw [RdL,qn (ds:=ds)]
  constructor
  ·rintro⟨h1,h2⟩ j x hx
   match j,hx with
   |0,hx=>simp at hx;subst hx;exact h1
   |j+1,hx=>have:=h2 j x (by simpa using hx);rwa [Nat.add_assoc,Nat.add_comm 1 j] at this
  ·intro h
   refine⟨h 0 d (by simp),fun j x hx=>?_⟩
   have:=h (j+1) x (by simpa using hx)
   rwa [Nat.add_assoc,Nat.add_comm 1 j]

mutual
theorem Rd.keep {w w':World} {B B':Nat} (hB:B<=B') (hk:∀p:Addr,p.block<B->w'.cell? p=w.cell? p):∀(d:QK) (u:Value),Rd w B d u->Rd w' B' d u
 | .v x,u,h=>by rw [Rd] at h ⊢;exact h
 | .s n cs,u,h=>by
  rw [Rd] at h ⊢
  obtain⟨A,cap,e,h0,h1,h2⟩:=h
  refine⟨A,cap,e,h0,h1,?_⟩
  rcases h2 with h2|⟨b,off,e2,hb,hl⟩
  ·exact .inl h2
  ·exact .inr ⟨b,off,e2,by omega,RdL.keep hB hk cs b off hb hl⟩
theorem RdL.keep {w w':World} {B B':Nat} (hB:B<=B') (hk:∀p:Addr,p.block<B->w'.cell? p=w.cell? p):∀(ds:List QK) (b off:Nat),b<B->RdL w B ds b off->RdL w' B' ds b off
 | [],_,_,_,_=>by rw [RdL];trivial
 |d::ds,b,off,hb,h=>by
  rw [RdL] at h ⊢
  obtain⟨⟨u,hu,hd⟩,hr⟩:=h
  exact⟨⟨u,(hk _ hb).trans hu,Rd.keep hB hk d u hd⟩,RdL.keep hB hk ds b (off+1) hb hr⟩
end

theorem Rd.below {w w':World} {B:Nat} {d:QK} {u:Value} (h:Rd w B d u) (hb:Below B w w'):Rd w' B d u:=Rd.keep (Nat.le_refl _) (fun _ hp=>hb.cell hp) d u h
theorem Rd.chg {w w':World} {B:Nat} {S:List Nat} {d:QK} {u:Value} (h:Rd w B d u) (hc:Qb S w w') (hB:B<=w.heap.size) (hS:∀x,x∈S->B<=x):Rd w' B d u:=h.below (hc.below hS hB)
theorem Rd.cz {w w':World} {B:Nat} {d:QK} {u:Value} (h:Rd w B d u) (hc:Qb [] w w') (hB:B<=w.heap.size):Rd w' B d u:=h.chg hc hB (by simp)
theorem Rd.mono {w:World} {B B':Nat} {d:QK} {u:Value} (h:Rd w B d u) (hB:B<=B'):Rd w B' d u:=Rd.keep hB (fun _ _=>rfl) d u h

theorem Rd.at_ {w:World} {B n:Nat} {cs:List QK} {u:Value} (h:Rd w B (.s n cs) u):∃A cap,u= .slice A n cap/\n<=cap/\cap<=maxLen/\
  (cs≠ [] ->∃b off,A=some ⟨b,off,none⟩/\b<B/\∀j d,cs[j]?=some d->∃u,w.cell? ⟨b,off+j,none⟩=some u/\Rd w B d u):=by
 rw [Rd] at h
 obtain⟨A,cap,e,h0,h1,h2⟩:=h
 refine⟨A,cap,e,h0,h1,fun hne=>?_⟩
 rcases h2 with h2|⟨b,off,e2,hb,hl⟩
 ·exact absurd h2 hne
 ·exact⟨b,off,e2,hb,qn.1 hl⟩

mutual
def Ye (w:World):QK->Value->List Nat->Prop
 | .v x,u,S=>u=x/\S=[]
 | .s n cs,u,S=>(u= .slice none 0 0/\n=0/\cs=[] /\S=[])∨
   ∃g cap cur e us S',u= .slice (some ⟨g,0,none⟩) n cap/\n<=cap/\cap<=maxLen/\w.heap[g]?=some (.cells cur e (0,0))/\cur.toList.take cs.length=us/\us.length=cs.length/\Qt w cs us S'/\S=g::S'
def Qt (w:World):List QK->List Value->List Nat->Prop
 | [],us,S=>us=[] /\S=[]
 |d::ds,us,S=>∃u us' S1 S2,us=u::us'/\S=S1++S2/\Ye w d u S1/\Qt w ds us' S2
end

mutual
theorem Ye.lt {w:World}:∀(d:QK) (u:Value) (S:List Nat),Ye w d u S->∀x,x∈S->x<w.heap.size
 | .v x,u,S,h=>by rw [Ye] at h;rw [h.2];simp
 | .s n cs,u,S,h=>by
  rw [Ye] at h
  rcases h with ⟨_,_,_,rfl⟩|⟨g,cap,cur,e,us,S',_,_,_,hg,_,_,hl,rfl⟩
  ·simp
  ·intro x hx
   rcases List.mem_cons.1 hx with rfl|hx
   ·exact(Array.getElem?_eq_some_iff.1 hg).1
   ·exact Qt.lt cs us S' hl x hx
theorem Qt.lt {w:World}:∀(ds:List QK) (us:List Value) (S:List Nat),Qt w ds us S->∀x,x∈S->x<w.heap.size
 | [],us,S,h=>by rw [Qt] at h;rw [h.2];simp
 |d::ds,us,S,h=>by
  rw [Qt] at h
  obtain⟨u,us',S1,S2,_,rfl,h1,h2⟩:=h
  intro x hx
  rcases List.mem_append.1 hx with hx|hx
  ·exact Ye.lt d u S1 h1 x hx
  ·exact Qt.lt ds us' S2 h2 x hx
end

mutual
theorem Ye.keep {w w':World} {S0:List Nat} (hc:Qb S0 w w'):∀(d:QK) (u:Value) (S:List Nat),(∀x,x∈S->x∉S0)->Ye w d u S->Ye w' d u S
 | .v x,u,S,_,h=>by rw [Ye] at h ⊢;exact h
 | .s n cs,u,S,hS,h=>by
  rw [Ye] at h ⊢
  rcases h with h|⟨g,cap,cur,e,us,S',h1,h2,h3,hg,h4,h5,hl,rfl⟩
  ·exact .inl h
  ·exact .inr ⟨g,cap,cur,e,us,S',h1,h2,h3,(hc.block g (Array.getElem?_eq_some_iff.1 hg).1 (hS g (by simp))).trans hg,h4,h5,Qt.keep hc cs us S' (fun x hx=>hS x (by simp [hx])) hl,rfl⟩
theorem Qt.keep {w w':World} {S0:List Nat} (hc:Qb S0 w w'):∀(ds:List QK) (us:List Value) (S:List Nat),(∀x,x∈S->x∉S0)->Qt w ds us S->Qt w' ds us S
 | [],us,S,_,h=>by rw [Qt] at h ⊢;exact h
 |d::ds,us,S,hS,h=>by
  rw [Qt] at h ⊢
  obtain⟨u,us',S1,S2,e1,rfl,h1,h2⟩:=h
  exact⟨u,us',S1,S2,e1,rfl,Ye.keep hc d u S1 (fun x hx=>hS x (by simp [hx])) h1,Qt.keep hc ds us' S2 (fun x hx=>hS x (by simp [hx])) h2⟩
end

theorem Qt.length {w:World}:∀(ds:List QK) (us:List Value) (S:List Nat),Qt w ds us S->us.length=ds.length
 | [],us,S,h=>by rw [Qt] at h;rw [h.1];rfl
 |d::ds,us,S,h=>by
  rw [Qt] at h
  obtain⟨u,us',S1,S2,rfl,_,_,h2⟩:=h
  simp [Qt.length ds us' S2 h2]

theorem Qt.append {w:World}:∀ {ds ds':List QK} {us us':List Value} {S S':List Nat},Qt w ds us S->Qt w ds' us' S'->Qt w (ds++ds') (us++us') (S++S')
 | [],ds',us,us',S,S',h,h'=>by rw [Qt] at h;simpa [h.1,h.2] using h'
 |d::ds,ds',us,us',S,S',h,h'=>by
  rw [Qt] at h
  obtain⟨u,us1,S1,S2,rfl,rfl,h1,h2⟩:=h
  rw [List.cons_append,Qt]
  exact⟨u,us1++us',S1,S2++S',by simp,by simp,h1,Qt.append h2 h'⟩

theorem Qt.split {w:World}:∀ {ds:List QK} {us:List Value} {S:List Nat} {j:Nat} {d:QK},Qt w ds us S->ds[j]?=some d->
  ∃u Sa Sj Sb,us[j]?=some u/\S=Sa++(Sj++Sb)/\Ye w d u Sj/\
   ∀(w':World) (d':QK) (u':Value) (Sj' S0:List Nat),Qb S0 w w'->(∀x,x∈Sa++Sb->x∉S0)->Ye w' d' u' Sj'->Qt w' (ds.set j d') (us.set j u') (Sa++(Sj'++Sb))
 | [],us,S,j,d,h,hj=>by simp at hj
 | d0::ds,us,S,j,d,h,hj=>by
  rw [Qt] at h
  obtain⟨u,us1,S1,S2,rfl,rfl,h1,h2⟩:=h
  match j,hj with
  |0,hj=>
   simp at hj;subst hj
   refine⟨u,[],S1,S2,rfl,by simp,h1,fun w' d' u' Sj' S0 hc hn ho=>?_⟩
   simp only [List.set_cons_zero,List.nil_append]
   rw [Qt]
   exact⟨u',us1,Sj',S2,rfl,rfl,ho,Qt.keep hc ds us1 S2 (fun x hx=>hn x (by simpa using hx)) h2⟩
  |j+1,hj=>
   obtain⟨u1,Sa,Sj,Sb,e1,rfl,h3,h4⟩:=Qt.split h2 (by simpa using hj)
   refine⟨u1,S1++Sa,Sj,Sb,by simpa using e1,by simp,h3,fun w' d' u' Sj' S0 hc hn ho=>?_⟩
   simp only [List.set_cons_succ]
   rw [Qt]
   refine⟨u,us1.set j u',S1,Sa++(Sj'++Sb),rfl,by simp,Ye.keep hc d0 u S1 (fun x hx=>hn x (by simp [hx])) h1,h4 w' d' u' Sj' S0 hc (fun x hx=>hn x ?_) ho⟩
   rcases List.mem_append.1 hx with hx|hx<;>simp [hx]

def Yk (w:World) (d:QK) (u:Value) (S:List Nat):Prop:=Ye w d u S/\S.Nodup

theorem Yk.lt {w:World} {d:QK} {u:Value} {S:List Nat} (h:Yk w d u S):∀x,x∈S->x<w.heap.size:=Ye.lt d u S h.1
theorem Yk.keep {w w':World} {d:QK} {u:Value} {S S0:List Nat} (h:Yk w d u S) (hc:Qb S0 w w') (hS:∀x,x∈S->x∉S0):Yk w' d u S:=⟨Ye.keep hc d u S hS h.1,h.2⟩
theorem Yk.kz {w w':World} {d:QK} {u:Value} {S:List Nat} (h:Yk w d u S) (hc:Qb [] w w'):Yk w' d u S:=h.keep hc (by simp)

mutual
theorem Ye.rd {w:World}:∀(d:QK) (u:Value) (S:List Nat),Ye w d u S->Rd w w.heap.size d u
 | .v x,u,S,h=>by rw [Ye] at h;rw [Rd];exact h.1
 | .s n cs,u,S,h=>by
  rw [Ye] at h
  rw [Rd]
  rcases h with ⟨rfl,rfl,rfl,rfl⟩|⟨g,cap,cur,e,us,S',rfl,h2,h3,hg,h4,h5,hl,rfl⟩
  ·exact⟨none,0,rfl,Nat.le_refl _,by simp [maxLen],.inl rfl⟩
  ·refine⟨_,cap,rfl,h2,h3,.inr ⟨g,0,rfl,(Array.getElem?_eq_some_iff.1 hg).1,Qt.rd cs us S' g 0 hl (fun j u hu=>?_)⟩⟩
   rw [cell_of_row w g (0+j) cur e (0,0) hg,Nat.zero_add]
   rw [<-h4,List.getElem?_take] at hu
   split at hu
   ·simpa using hu
   ·cases hu
theorem Qt.rd {w:World}:∀(ds:List QK) (us:List Value) (S:List Nat) (b off:Nat),Qt w ds us S->(∀j u,us[j]?=some u->w.cell? ⟨b,off+j,none⟩=some u)->RdL w w.heap.size ds b off
 | [],us,S,b,off,h,_=>by rw [RdL];trivial
 |d::ds,us,S,b,off,h,hc=>by
  rw [Qt] at h
  obtain⟨u,us1,S1,S2,rfl,rfl,h1,h2⟩:=h
  rw [RdL]
  refine⟨⟨u,hc 0 u rfl,Ye.rd d u S1 h1⟩,Qt.rd ds us1 S2 b (off+1) h2 (fun j x hx=>?_)⟩
  have:=hc (j+1) x (by simpa using hx)
  rwa [Nat.add_assoc,Nat.add_comm 1 j]
end
theorem Yk.rd {w:World} {d:QK} {u:Value} {S:List Nat} (h:Yk w d u S):Rd w w.heap.size d u:=Ye.rd d u S h.1

theorem Yk.cases_ {w:World} {n:Nat} {cs:List QK} {u:Value} {S:List Nat} (h:Yk w (.s n cs) u S):
  (u= .slice none 0 0/\n=0/\cs=[] /\S=[])∨∃g cap S',u= .slice (some ⟨g,0,none⟩) n cap/\n<=cap/\cap<=maxLen/\S=g::S'/\g<w.heap.size/\g∉S':=by
 obtain⟨h,hn⟩:=h
 rw [Ye] at h
 rcases h with h|⟨g,cap,cur,e,us,S',rfl,h2,h3,hg,_,_,_,rfl⟩
 ·exact .inl h
 ·exact .inr ⟨g,cap,S',rfl,h2,h3,rfl,(Array.getElem?_eq_some_iff.1 hg).1,(List.nodup_cons.1 hn).1⟩

theorem z7 {α:Type} (l:List α) (n j:Nat) (y:α) (hj:j<n):(l.set j y).take n=(l.take n).set j y:=by
 apply List.ext_getElem?
 intro i
 simp only [List.getElem?_take,List.getElem?_set,List.length_take]
 by_cases hi:i<n
 ·by_cases hij:j=i
  ·subst hij;simp [hi]
   by_cases hl:j<l.length
   ·rw [if_pos hl,if_pos (by omega)]
   ·rw [if_neg hl,if_neg (by omega)]
  ·simp [hi,hij]
 ·simp [hi];intro hij;omega

theorem Yk.at_ {w:World} {n g cap:Nat} {cs:List QK} {S:List Nat} {j:Nat} {d:QK} (h:Yk w (.s n cs) (.slice (some ⟨g,0,none⟩) n cap) S) (hj:cs[j]?=some d):
  ∃u Sj,w.cell? ⟨g,j,none⟩=some u/\w.frozen? ⟨g,j,none⟩=false/\Yk w d u Sj/\(∀x,x∈Sj->x∈S)/\g∈S/\g∉Sj/\
   (∀(w':World) (d':QK),Qb Sj w w'->Yk w' d' u Sj->Yk w' (.s n (cs.set j d')) (.slice (some ⟨g,0,none⟩) n cap) S):=by
 obtain⟨h,hn⟩:=h
 rw [Ye] at h
 rcases h with ⟨h0,_⟩|⟨g',cap',cur,e,us,S',h1,h2,h3,hg,h4,h5,hl,rfl⟩
 ·simp at h0
 ·simp only [Value.slice.injEq,Option.some.injEq,Addr.mk.injEq] at h1
  obtain⟨⟨rfl,_⟩,_,rfl⟩:=h1
  obtain⟨u,Sa,Sj,Sb,e1,rfl,ho,hback⟩:=hl.split hj
  obtain⟨hng,hnS⟩:=List.nodup_cons.1 hn
  have hcu:w.cell? ⟨g,j,none⟩=some u:=by
   rw [cell_of_row w g j cur e (0,0) hg]
   rw [<-h4,List.getElem?_take] at e1
   split at e1
   ·simpa using e1
   ·cases e1
  have hnd:Sj.Nodup:=(List.nodup_append.1 (List.nodup_append.1 hnS).2.1).1
  have hdis:∀x,x∈Sa++Sb->x∉Sj:=by
   intro x hx hxj
   rcases List.mem_append.1 hx with hx|hx
   ·exact(List.nodup_append.1 hnS).2.2 x hx x (by simp [hxj]) rfl
   ·exact(List.nodup_append.1 (List.nodup_append.1 hnS).2.1).2.2 x hxj x hx rfl
  have hgj:g∉Sj:=fun hx=>hng (by simp [hx])
  refine⟨u,Sj,hcu,by simp [World.frozen?,hg],⟨ho,hnd⟩,fun x hx=>by simp [hx],by simp,hgj,fun w' d' hc hO=>⟨?_,hn⟩⟩
  rw [Ye]
  have hb:=hback w' d' u Sj Sj hc hdis hO.1
  have hu:us.set j u=us:=by
   apply List.ext_getElem?
   intro i
   rw [List.getElem?_set]
   split
   ·rename_i hij;subst hij
    split
    ·exact e1.symm
    ·rename_i hge;rw [List.getElem?_eq_none (by omega)] at e1;cases e1
   ·rfl
  rw [hu] at hb
  exact .inr ⟨g,cap,cur,e,us,Sa++(Sj++Sb),rfl,h2,h3,(hc.block g (Array.getElem?_eq_some_iff.1 hg).1 hgj).trans hg,by simpa using h4,by simpa using h5,hb,rfl⟩

theorem Yk.set_ {w:World} {n g cap:Nat} {cs:List QK} {S:List Nat} {j:Nat} {x:Value} (h:Yk w (.s n cs) (.slice (some ⟨g,0,none⟩) n cap) S) (hj:cs[j]?=some (.v x)) (y:Value):
  w.cell? ⟨g,j,none⟩=some x/\w.frozen? ⟨g,j,none⟩=false/\g∈S/\Yk (w.setCell ⟨g,j,none⟩ y) (.s n (cs.set j (.v y))) (.slice (some ⟨g,0,none⟩) n cap) S:=by
 obtain⟨h,hn⟩:=h
 rw [Ye] at h
 rcases h with ⟨h0,_⟩|⟨g',cap',cur,e,us,S',h1,h2,h3,hg,h4,h5,hl,rfl⟩
 ·simp at h0
 ·simp only [Value.slice.injEq,Option.some.injEq,Addr.mk.injEq] at h1
  obtain⟨⟨rfl,_⟩,_,rfl⟩:=h1
  obtain⟨u,Sa,Sj,Sb,e1,rfl,ho,hback⟩:=hl.split hj
  obtain⟨hng,hnS⟩:=List.nodup_cons.1 hn
  rw [Ye] at ho
  obtain⟨rfl,rfl⟩:=ho
  have hjl:j<cs.length:=by
   rcases Nat.lt_or_ge j cs.length with h|h
   ·exact h
   ·rw [List.getElem?_eq_none h] at hj;cases hj
  have hcu:w.cell? ⟨g,j,none⟩=some u:=by
   rw [cell_of_row w g j cur e (0,0) hg]
   rw [<-h4,List.getElem?_take,if_pos hjl] at e1
   simpa using e1
  have hfr:w.frozen? ⟨g,j,none⟩=false:=by simp [World.frozen?,hg]
  have hchg:Qb [g] w (w.setCell ⟨g,j,none⟩ y):=(Qb.refl _ _).setCell (.inl (by simp)) y
  refine⟨hcu,hfr,by simp,?_,hn⟩
  show Ye _ _ _ _
  rw [Ye]
  have hb:=hback (w.setCell ⟨g,j,none⟩ y) (.v y) y [] [g] hchg (fun x hx hxg=>by simp at hxg;subst hxg;exact hng (by simpa using hx)) (by rw [Ye];exact⟨rfl,rfl⟩)
  refine .inr ⟨g,cap,cur.setIfInBounds j y,e,us.set j y,Sa++([] ++Sb),rfl,h2,h3,by simp [World.setCell,Array.getElem?_modify,hg],?_,by simpa using h5,hb,rfl⟩
  rw [List.length_set, <-h4,Array.toList_setIfInBounds,z7 _ _ _ _ hjl]


theorem Yk.put {w:World} {n g cap:Nat} {cs:List QK} {S S':List Nat} {j:Nat} {d':QK} {u':Value} (h:Yk w (.s n cs) (.slice (some ⟨g,0,none⟩) n cap) S) (hj:j<cs.length)
  (ho:Yk w d' u' S') (hd:∀x,x∈S'->x∉S):
  w.frozen? ⟨g,j,none⟩=false/\(∃x,w.cell? ⟨g,j,none⟩=some x)/\g∈S/\
   ∃S'',Yk (w.setCell ⟨g,j,none⟩ u') (.s n (cs.set j d')) (.slice (some ⟨g,0,none⟩) n cap) S''/\g∈S''/\(∀x,x∈S''->x∈S∨x∈S'):=by
 obtain⟨h,hn⟩:=h
 rw [Ye] at h
 rcases h with ⟨h0,_⟩|⟨g',cap',cur,e,us,S0,h1,h2,h3,hg,h4,h5,hl,rfl⟩
 ·simp at h0
 ·simp only [Value.slice.injEq,Option.some.injEq,Addr.mk.injEq] at h1
  obtain⟨⟨rfl,_⟩,_,rfl⟩:=h1
  obtain⟨u,Sa,Sj,Sb,e1,rfl,hoj,hback⟩:=hl.split (List.getElem?_eq_getElem hj)
  obtain⟨hng,hnS⟩:=List.nodup_cons.1 hn
  have hcu:w.cell? ⟨g,j,none⟩=some u:=by
   rw [cell_of_row w g j cur e (0,0) hg]
   rw [<-h4,List.getElem?_take,if_pos hj] at e1
   simpa using e1
  have hchg:Qb [g] w (w.setCell ⟨g,j,none⟩ u'):=(Qb.refl _ _).setCell (.inl (by simp)) u'
  have hgS':g∉S':=fun hx=>hd g hx (by simp)
  have hO:Ye (w.setCell ⟨g,j,none⟩ u') d' u' S':=Ye.keep hchg d' u' S' (fun x hx hxg=>by simp at hxg;subst hxg;exact hgS' hx) ho.1
  have hb:=hback (w.setCell ⟨g,j,none⟩ u') d' u' S' [g] hchg (fun x hx hxg=>by
   simp at hxg;subst hxg;apply hng;rcases List.mem_append.1 hx with hx|hx<;>simp [hx]) hO
  refine⟨by simp [World.frozen?,hg],⟨u,hcu⟩,by simp,g::(Sa++(S'++Sb)),⟨?_,?_⟩,by simp,?_⟩
  ·rw [Ye]
   refine .inr ⟨g,cap,cur.setIfInBounds j u',e,us.set j u',Sa++(S'++Sb),rfl,h2,h3,by simp [World.setCell,Array.getElem?_modify,hg],?_,by simpa using h5,hb,rfl⟩
   rw [List.length_set, <-h4,Array.toList_setIfInBounds,z7 _ _ _ _ hj]
  ·rw [List.nodup_cons]
   obtain⟨n1,n2,n3⟩:=List.nodup_append.1 hnS
   obtain⟨n4,n5,n6⟩:=List.nodup_append.1 n2
   refine⟨fun hx=>?_,List.nodup_append.2 ⟨n1,List.nodup_append.2 ⟨ho.2,n5,fun a ha b hb e=>?_⟩,fun a ha b hb e=>?_⟩⟩
   ·rcases List.mem_append.1 hx with hx|hx
    ·exact hng (by simp [hx])
    ·rcases List.mem_append.1 hx with hx|hx
     ·exact hgS' hx
     ·exact hng (by simp [hx])
   ·subst e;exact hd a ha (by simp [hb])
   ·subst e
    rcases List.mem_append.1 hb with hb|hb
    ·exact hd a hb (by simp [ha])
    ·exact n3 a ha a (by simp [hb]) rfl
  ·intro x hx
   simp only [List.mem_cons,List.mem_append] at hx ⊢
   rcases hx with hx|hx|hx|hx<;>simp [hx]

theorem Yk.room {w:World} {n g cap:Nat} {cs:List QK} {S:List Nat} (h:Yk w (.s n cs) (.slice (some ⟨g,0,none⟩) n cap) S) {j:Nat} (hj:j<cs.length):
  w.frozen? ⟨g,j,none⟩=false/\∃x,w.cell? ⟨g,j,none⟩=some x:=by
 obtain⟨u,Sj,h1,h2,_⟩:=h.at_ (List.getElem?_eq_getElem hj)
 exact⟨h2,u,h1⟩

def kL:List QK->Nat->List QK->List QK
 |cs,_,[]=>cs
 |cs,j,d::ds=>kL (cs.set j d) (j+1) ds
def Xd (w:World) (g:Nat):Nat->List Value->World
 |_,[]=>w
 |j,u::us=>Xd (w.setCell ⟨g,j,none⟩ u) g (j+1) us

theorem Gy:∀(ds xs0 bs cs:List QK),bs.length=ds.length->kL (xs0++(bs++cs)) xs0.length ds=xs0++(ds++cs)
 | [],xs0,[],cs,_=>rfl
 |d::ds,xs0,b::bs,cs,h=>by
  rw [kL]
  have:=Gy ds (xs0++ [d]) bs cs (by simpa using h)
  simpa using this

def Qu (w:World) (ds:List QK) (us:List Value) (S:List Nat):Prop:=Qt w ds us S/\S.Nodup

theorem Qu.keep {w w':World} {ds:List QK} {us:List Value} {S S0:List Nat} (h:Qu w ds us S) (hc:Qb S0 w w') (hS:∀x,x∈S->x∉S0):Qu w' ds us S:=⟨Qt.keep hc ds us S hS h.1,h.2⟩
theorem Qu.kz {w w':World} {ds:List QK} {us:List Value} {S:List Nat} (h:Qu w ds us S) (hc:Qb [] w w'):Qu w' ds us S:=h.keep hc (by simp)
theorem Qu.lt {w:World} {ds:List QK} {us:List Value} {S:List Nat} (h:Qu w ds us S):∀x,x∈S->x<w.heap.size:=Qt.lt ds us S h.1
theorem Qu.nil (w:World):Qu w [] [] []:=⟨by rw [Qt];exact⟨rfl,rfl⟩,List.nodup_nil⟩
theorem Qu.cons {w:World} {d:QK} {ds:List QK} {u:Value} {us:List Value} {S T:List Nat} (h:Yk w d u S) (h':Qu w ds us T) (hd:∀x,x∈S->x∉T):Qu w (d::ds) (u::us) (S++T):=
 ⟨by rw [Qt];exact⟨u,us,S,T,rfl,rfl,h.1,h'.1⟩,List.nodup_append.2 ⟨h.2,h'.2,fun a ha b hb e=>by subst e;exact hd a ha hb⟩⟩
theorem Qu.cons_v {w:World} {x:Value} {ds:List QK} {us:List Value} {T:List Nat} (h':Qu w ds us T):Qu w (.v x::ds) (x::us) T:=
 Qu.cons (S:=[]) ⟨by rw [Ye];exact⟨rfl,rfl⟩,List.nodup_nil⟩ h' (by simp)
theorem Qu.cons_nil {w:World} {ds:List QK} {us:List Value} {T:List Nat} (h':Qu w ds us T):Qu w (.s 0 [] ::ds) (.slice none 0 0::us) T:=
 Qu.cons (S:=[]) ⟨by rw [Ye];exact .inl ⟨rfl,rfl,rfl,rfl⟩,List.nodup_nil⟩ h' (by simp)
theorem Qu.uncons {w:World} {d:QK} {ds:List QK} {us:List Value} {S:List Nat} (h:Qu w (d::ds) us S):
  ∃u us' S1 S2,us=u::us'/\S=S1++S2/\Yk w d u S1/\Qu w ds us' S2/\∀x,x∈S1->x∉S2:=by
 obtain⟨h,hn⟩:=h
 rw [Qt] at h
 obtain⟨u,us',S1,S2,rfl,rfl,h1,h2⟩:=h
 obtain⟨n1,n2,n3⟩:=List.nodup_append.1 hn
 exact⟨u,us',S1,S2,rfl,rfl,⟨h1,n1⟩,⟨h2,n2⟩,fun x hx hx'=>n3 x hx x hx' rfl⟩
theorem Qu.unnil {w:World} {us:List Value} {S:List Nat} (h:Qu w [] us S):us=[] /\S=[]:=by
 obtain⟨h,_⟩:=h
 rwa [Qt] at h

theorem Yk.putRow {g n cap:Nat}:∀ {us:List Value} {ds:List QK} {w:World} {cs:List QK} {S S':List Nat} {j:Nat},
  Yk w (.s n cs) (.slice (some ⟨g,0,none⟩) n cap) S->j+ds.length<=cs.length->Qu w ds us S'->(∀x,x∈S'->x∉S)->
  ∃S'',Yk (Xd w g j us) (.s n (kL cs j ds)) (.slice (some ⟨g,0,none⟩) n cap) S''/\(∀x,x∈S''->x∈S∨x∈S')/\g∈S/\Qb [g] w (Xd w g j us)
 | us,[],w,cs,S,S',j,h,_,hl,_=>by
  obtain⟨rfl,rfl⟩:=hl.unnil
  rcases h.cases_ with h0|⟨g',cap',S1,h0,_,_,rfl,_⟩
  ·simp at h0
  ·simp only [Value.slice.injEq,Option.some.injEq,Addr.mk.injEq] at h0
   obtain⟨⟨rfl,_⟩,_,rfl⟩:=h0
   exact⟨_,h,fun x hx=>.inl hx,by simp,Qb.refl _ _⟩
 | us,d::ds,w,cs,S,S',j,h,hj,hl,hd=>by
  obtain⟨u,us',S1,S2,rfl,rfl,h1,h2,hdis⟩:=hl.uncons
  simp only [List.length_cons] at hj
  obtain⟨_,_,hgS,T,hT,hgT,hTs⟩:=h.put (j:=j) (by omega) h1 (fun x hx=>hd x (by simp [hx]))
  have hchg:Qb [g] w (w.setCell ⟨g,j,none⟩ u):=(Qb.refl _ _).setCell (.inl (by simp)) u
  have hg2:g∉S2:=fun hx=>hd g (by simp [hx]) hgS
  have hl2:Qu (w.setCell ⟨g,j,none⟩ u) ds us' S2:=h2.keep hchg (fun x hx hxg=>by simp at hxg;subst hxg;exact hg2 hx)
  obtain⟨T2,hT2,hT2s,_,hc2⟩:=Yk.putRow hT (j:=j+1) (by simp;omega) hl2 (fun x hx hxT=>by
   rcases hTs x hxT with h3|h3
   ·exact hd x (by simp [hx]) h3
   ·exact hdis x h3 hx)
  refine⟨T2,hT2,fun x hx=>?_,hgS,hchg.trans hc2 (fun x hx=>.inl hx)⟩
  rcases hT2s x hx with h3|h3
  ·rcases hTs x h3 with h4|h4
   ·exact .inl h4
   ·exact .inr (by simp [h4])
  ·exact .inr (by simp [h3])

theorem Yk.made {w:World} (zs:List Value) (ds:List QK) (n:Nat) (e:TypeId) (cur:Array Value) (hc:cur.toList=zs) (hn:n<=maxLen) (hz:Qt (w.alloc (.cells cur e)) ds zs []):
  Yk (w.alloc (.cells cur e)) (.s n ds) (.slice (some ⟨w.heap.size,0,none⟩) n n) [w.heap.size]:=by
 refine⟨?_,by simp⟩
 rw [Ye]
 refine .inr ⟨w.heap.size,n,cur,e,zs,[],rfl,Nat.le_refl _,hn,heap_alloc_new w _,?_,Qt.length _ _ _ hz,hz,rfl⟩
 rw [<-Qt.length _ _ _ hz, <-hc]
 exact List.take_of_length_le (by simp)

theorem Qt.plain (w:World):∀zs:List Value,Qt w (zs.map .v) zs []
 | []=>by rw [List.map_nil,Qt];exact⟨rfl,rfl⟩
 |z::zs=>by rw [List.map_cons,Qt];exact⟨z,zs,[],[],rfl,rfl,by rw [Ye];exact⟨rfl,rfl⟩,Qt.plain w zs⟩
theorem Qt.rep {w:World} {ds:List QK} {zs:List Value} (h:Qt w ds zs []):∀k:Nat,Qt w (List.replicate k ds).flatten (List.replicate k zs).flatten []
 |0=>by simp only [List.replicate_zero,List.flatten_nil];rw [Qt];exact⟨rfl,rfl⟩
 |k+1=>by
  simp only [List.replicate_succ,List.flatten_cons]
  exact(Qt.append h (Qt.rep h k))

def j2 {α:Type} (F:α->List QK) (Z:List QK) (l:List α) (k:Nat):List QK:=(l.take k).flatMap F++(List.replicate (l.length-k) Z).flatten

theorem Qa8 {α:Type} (F:α->List QK) (Z:List QK) (l:List α):j2 F Z l 0=(List.replicate l.length Z).flatten:=by simp [j2]
theorem Xp {α:Type} {F:α->List QK} {c:Nat} (hF:∀a,(F a).length=c):∀l:List α,(l.flatMap F).length=l.length * c
 | []=>by simp
 |a::l=>by rw [List.flatMap_cons,List.length_append,Xp hF l,hF a,List.length_cons,Nat.succ_mul,Nat.add_comm]
theorem WM {α:Type} {F:α->List QK} {c:Nat} (hF:∀a,(F a).length=c):∀(l:List α) (i j:Nat) (hi:i<l.length),j<c->(l.flatMap F)[i * c+j]?=(F l[i])[j]?
 |a::l,0,j,_,hj=>by rw [List.flatMap_cons,Nat.zero_mul,Nat.zero_add,List.getElem?_append_left (by rw [hF];exact hj)];rfl
 |a::l,i+1,j,hi,hj=>by
  rw [List.flatMap_cons,List.getElem?_append_right (by rw [hF,Nat.succ_mul];omega),hF,show(i+1) * c+j-c=i * c+j from by rw [Nat.succ_mul];omega]
  exact WM hF l i j (by simpa using hi) hj


theorem vz (z:Array Value) (c n:Nat) (hz:z.size=c) (hc:0<c):(madeCells z (n * c)).toList=(List.replicate n z.toList).flatten:=by
 subst hz
 apply List.ext_getElem?
 intro i
 have key:∀n i:Nat,(List.replicate n z.toList).flatten[i]?=if i<n * z.size then z.toList[i % z.size]? else none:=by
  intro n
  induction n with
  |zero=>intro i;simp
  | succ n ih=>
   intro i
   rw [List.replicate_succ,List.flatten_cons,List.getElem?_append]
   by_cases hi:i<z.toList.length
   ·have hi':i<z.size:=by simpa using hi
    rw [if_pos hi,if_pos (by rw [Nat.succ_mul];omega),Nat.mod_eq_of_lt hi']
   ·have hi':z.size<=i:=by simpa using hi
    rw [if_neg hi,ih]
    simp only [Array.length_toList]
    rw [Nat.mod_eq_sub_mod hi']
    by_cases h2:i<(n+1) * z.size
    ·rw [if_pos h2,if_pos (by rw [Nat.succ_mul] at h2;omega)]
    ·rw [if_neg h2,if_neg (by rw [Nat.succ_mul] at h2;omega)]
 rw [key]
 simp only [madeCells,Array.toList_map,List.getElem?_map,Array.toList_range]
 by_cases hi:i<n * z.size
 ·have hm:i % z.size<z.size:=Nat.mod_lt _ hc
  rw [if_pos hi,List.getElem?_range hi]
  simp [hm]
 ·rw [if_neg hi,List.getElem?_eq_none (by simpa using hi)]
  rfl

theorem Yk.make {α:Type} (w:World) (e:TypeId) (z:Array Value) (c:Nat) (hz:z.size=c) (hc:0<c) (Z:List QK) (hZ:∀w,Qt w Z z.toList []) (F:α->List QK) (l:List α) (n:Nat) (hl:l.length=n) (hn:n<=maxLen):
  Yk (w.alloc (.cells (madeCells z (n * c)) e)) (.s n (j2 F Z l 0)) (.slice (some ⟨w.heap.size,0,none⟩) n n) [w.heap.size]:=by
 refine Yk.made (List.replicate n z.toList).flatten _ n _ _ (vz z c n hz hc) hn ?_
 rw [Qa8,hl]
 exact Qt.rep (hZ _) n


def Wd {α:Type} (w:World) (B:Nat) (F:α->List QK) (c:Nat) (l:List α) (A:Option Addr):Prop:=
 ∀(k:Nat) (h:k<l.length),∃b off,A=some ⟨b,off,none⟩/\b<B/\∀j d,(F l[k])[j]?=some d->∃u,w.cell? ⟨b,off+k * c+j,none⟩=some u/\Rd w B d u

theorem Rd.row {α:Type} {w:World} {B c:Nat} {F:α->List QK} (hF:∀a,(F a).length=c) (hc:0<c) {l:List α} {u:Value} (h:Rd w B (.s l.length (l.flatMap F)) u):
  ∃A cap,u= .slice A l.length cap/\l.length<=cap/\cap<=maxLen/\Wd w B F c l A:=by
 obtain⟨A,cap,rfl,h0,h1,h2⟩:=h.at_
 refine⟨A,cap,rfl,h0,h1,fun k hk=>?_⟩
 have hlen:=Xp hF l
 have hpos:0<l.length * c:=Nat.mul_pos (by omega) hc
 obtain⟨b,off,rfl,hb,hx⟩:=h2 (fun e=>by rw [e] at hlen;simp at hlen;omega)
 refine⟨b,off,rfl,hb,fun j d hj=>?_⟩
 have hjc:j<c:=by
  rcases Nat.lt_or_ge j c with h|h
  ·exact h
  ·rw [List.getElem?_eq_none (by rw [hF];exact h)] at hj;cases hj
 rw [Nat.add_assoc]
 exact hx (k * c+j) d (by rw [WM hF l k j hk hjc];exact hj)

theorem Wd.below {α:Type} {w w':World} {B c:Nat} {F:α->List QK} {l:List α} {A:Option Addr} (h:Wd w B F c l A) (hb:Below B w w'):Wd w' B F c l A:=by
 intro k hk
 obtain⟨b,off,e,h1,h2⟩:=h k hk
 refine⟨b,off,e,h1,fun j d hj=>?_⟩
 obtain⟨u,hu,hd⟩:=h2 j d hj
 exact⟨u,(hb.cell (p:=⟨b,_,none⟩) h1).trans hu,hd.below hb⟩
theorem Wd.chg {α:Type} {w w':World} {B c:Nat} {F:α->List QK} {l:List α} {A:Option Addr} {S:List Nat} (h:Wd w B F c l A) (hc:Qb S w w') (hB:B<=w.heap.size) (hS:∀x,x∈S->B<=x):Wd w' B F c l A:=
 h.below (hc.below hS hB)
theorem Wd.cz {α:Type} {w w':World} {B c:Nat} {F:α->List QK} {l:List α} {A:Option Addr} (h:Wd w B F c l A) (hc:Qb [] w w') (hB:B<=w.heap.size):Wd w' B F c l A:=h.chg hc hB (by simp)


def Gd (w w':World) (d:QK) (u:Value):Prop:=∃S,Yk w' d u S/\(∀x,x∈S->w.heap.size<=x)/\Qb [] w w'
def Kl (d:QK) (w:World) (e:Ending) (w':World):Prop:=∃u,e= .returned u/\Gd w w' d u
def YJ (w w':World) (ds:List QK) (us:List Value):Prop:=∃S,Qu w' ds us S/\(∀x,x∈S->w.heap.size<=x)/\Qb [] w w'

theorem Gd.chg {w w':World} {d:QK} {u:Value} (h:Gd w w' d u):Qb [] w w':=h.elim fun _ x=>x.2.2
theorem YJ.chg {w w':World} {ds:List QK} {us:List Value} (h:YJ w w' ds us):Qb [] w w':=h.elim fun _ x=>x.2.2
theorem Gd.rd {w w':World} {d:QK} {u:Value} (h:Gd w w' d u):Rd w' w'.heap.size d u:=h.elim fun _ x=>x.1.rd
theorem Gd.later {w w' w2:World} {d:QK} {u:Value} (h:Gd w w' d u) (hc:Qb [] w' w2):Gd w w2 d u:=
 h.elim fun S x=>⟨S,x.1.kz hc,x.2.1,x.2.2.tz hc⟩
theorem YJ.later {w w' w2:World} {ds:List QK} {us:List Value} (h:YJ w w' ds us) (hc:Qb [] w' w2):YJ w w2 ds us:=
 h.elim fun S x=>⟨S,x.1.kz hc,x.2.1,x.2.2.tz hc⟩
theorem YJ.sooner {w0 w w':World} {ds:List QK} {us:List Value} (h:YJ w w' ds us) (hc:Qb [] w0 w):YJ w0 w' ds us:=
 h.elim fun S x=>⟨S,x.1,fun y hy=>Nat.le_trans hc.size (x.2.1 y hy),hc.tz x.2.2⟩

theorem Gd.make {α:Type} (w:World) (e:TypeId) (z:Array Value) (c:Nat) (hz:z.size=c) (hc:0<c) (Z:List QK) (hZ:∀w,Qt w Z z.toList []) (F:α->List QK) (l:List α) (n:Nat) (hl:l.length=n) (hn:n<=maxLen):
  Gd w (w.alloc (.cells (madeCells z (n * c)) e)) (.s n (j2 F Z l 0)) (.slice (some ⟨w.heap.size,0,none⟩) n n):=
 ⟨_,Yk.make w e z c hz hc Z hZ F l n hl hn,by simp,(Qb.refl _ _).alloc _⟩


theorem Qb.cells {a b:World} (h:Qb [] a b):(∀x o,x<a.heap.size->b.cell? ⟨x,o,none⟩=a.cell? ⟨x,o,none⟩)/\(∀x o,x<a.heap.size->b.frozen? ⟨x,o,none⟩=a.frozen? ⟨x,o,none⟩)/\a.heap.size<=b.heap.size:=
 ⟨fun x o hx=>h.cell (p:=⟨x,o,none⟩) hx (by simp),fun x o hx=>h.frozen (p:=⟨x,o,none⟩) hx (by simp),h.size⟩


theorem Kl.sl {n:Nat} {cs:List QK} {w w':World} {e:Ending} (h:Kl (.s n cs) w e w'):∃A cap,e= .returned (.slice A n cap)/\Gd w w' (.s n cs) (.slice A n cap):=by
 obtain⟨u,rfl,S,h1,h2,h3⟩:=h
 rcases h1.cases_ with ⟨rfl,rfl,_⟩|⟨g,cap,S',rfl,_⟩
 ·exact⟨none,0,rfl,S,h1,h2,h3⟩
 ·exact⟨_,cap,rfl,S,h1,h2,h3⟩


def Vv (T:List Nat) (w w':World) (ds:List QK) (us:List Value):Prop:=∃S,Qu w' ds us S/\(∀x,x∈S->w.heap.size<=x)/\Qb T w w'
theorem Vv.nil {T:List Nat} {w w':World} (h:Qb T w w'):Vv T w w' [] []:=⟨[],Qu.nil _,by simp,h⟩
theorem Vv.cons_v {T:List Nat} {w w':World} {x:Value} {ds:List QK} {us:List Value} (h:Vv T w w' ds us):Vv T w w' (.v x::ds) (x::us):=h.elim fun S k=>⟨S,Qu.cons_v k.1,k.2⟩
theorem Vv.done {T:List Nat} {w w0 w':World} {ds:List QK} {us:List Value} (h:Vv T w0 w' ds us) (hT:∀x,x∈T->w.heap.size<=x) (h0:Qb [] w w0):YJ w w' ds us:=by
 obtain⟨S,h1,h2,h3⟩:=h
 exact⟨S,h1,fun x hx=>Nat.le_trans h0.size (h2 x hx),h0.trans h3 (fun x hx=>.inr (hT x hx))⟩


theorem Gm {P:Program} (t e:TypeId) (z:Value) (size bytes:Nat) (ht:P.underlying t=some (.slice e)) (hinfo:(P.info? e).map (fun i=>(i.zero,i.size,i.bytes))=some (some z,size,bytes))
  (kl kc:IntKind) (n c:Nat) (hnc:n<=c) (hbytes:bytes * c<=281474976710656) (h63:c<=9223372036854775807) (w:World):
  (Instr.makeSlice t (.int kl (n:Int)) (.int kc (c:Int))).run P w= .ok (.slice (some ⟨w.heap.size,0,none⟩) n c) (w.alloc (.cells (madeCells z.cells (c * size)) e)):=by
 obtain⟨i,hi,hzz⟩:=Option.map_eq_some_iff.1 hinfo
 simp only [Prod.mk.injEq] at hzz
 obtain⟨hz,rfl,rfl⟩:=hzz
 have hb:(i.bytes:Int) * (c:Int)<=281474976710656:=by
  have h:((i.bytes * c:Nat):Int)<=281474976710656:=by omega
  rwa [Int.natCast_mul] at h
 have hr:=run_make (P:=P) w t e i z ht hi hz kl kc n c (by omega) (by omega) hb (by omega)
 simp only [Int.toNat_natCast] at hr
 exact hr


theorem YJ.nil {w w':World} (h:Qb [] w w'):YJ w w' [] []:=⟨[],Qu.nil _,by simp,h⟩
theorem YJ.cons_v {w w':World} {x:Value} {ds:List QK} {us:List Value} (h:YJ w w' ds us):YJ w w' (.v x::ds) (x::us):=h.elim fun S k=>⟨S,Qu.cons_v k.1,k.2⟩
theorem Vv.start {T:List Nat} {w w':World} {ds:List QK} {us:List Value} (h:Vv T w w' ds us) (hT:∀x,x∈T->w.heap.size<=x):YJ w w' ds us:=h.done hT (Qb.refl _ _)
theorem Qu.append {w:World} {ds ds':List QK} {us us':List Value} {S S':List Nat} (h:Qu w ds us S) (h':Qu w ds' us' S') (hd:∀x,x∈S->x∉S'):Qu w (ds++ds') (us++us') (S++S'):=
 ⟨Qt.append h.1 h'.1,List.nodup_append.2 ⟨h.2,h'.2,fun a ha b hb e=>by subst e;exact hd a ha hb⟩⟩
def vD (x:Int):List QK:=[.v (.int .i64 x)]
def yw (l:List Int):QK:=.s l.length (l.flatMap vD)
theorem QaZ (x:Int):(vD x).length=1:=rfl
theorem Qgp (l:List Int) (k:Nat) (h:k<l.length):(l.flatMap vD)[k]?=some (.v (.int .i64 l[k])):=by
 have:=WM QaZ l k 0 h (by omega)
 rw [Nat.mul_one,Nat.add_zero] at this
 exact this

theorem Jg:(Tryz.prog.info? 3).map (fun i=>(i.zero,i.size,i.bytes))=some (some (.int .i64 0),1,8):=by kernel_rfl

theorem qG {w:World} {B:Nat} {l:List Int} {u:Value} (h:Rd w B (yw l) u):∃A cap,u= .slice A l.length cap/\l.length<=cap/\cap<=maxLen/\Wd w B vD 1 l A:=h.row QaZ (by omega)
theorem zi {w:World} {B:Nat} {l:List Int} {A:Option Addr} (h:Wd w B vD 1 l A) (k:Nat) (hk:k<l.length):∃b off,A=some ⟨b,off,none⟩/\b<B/\w.cell? ⟨b,off+k,none⟩=some (.int .i64 l[k]):=by
 obtain⟨b,off,rfl,hb,hx⟩:=h k hk
 obtain⟨u,hu,hd⟩:=hx 0 _ rfl
 rw [Rd] at hd
 subst hd
 exact⟨b,off,rfl,hb,by simpa using hu⟩



theorem Vp {k:IntKind} {a b:Int} (h:a=b):Ending.returned (.int k a)= .returned (.int k b):=by rw [h]
def WE:List Int->List Int->Int
 |a::l,b::m=>if a<b then -1 else if b<a then 1 else WE l m
 |_,_=>0
def YY (l m:List Int):Int:=if l.length<m.length then -1 else if m.length<l.length then 1 else WE l m
theorem Qes (l m:List Int) (k:Nat) (h:k<l.length) (h':k<m.length):WE (l.drop k) (m.drop k)=if l[k] <m[k] then -1 else if m[k] <l[k] then 1 else WE (l.drop (k+1)) (m.drop (k+1)):=by
 rw [List.drop_eq_getElem_cons h,List.drop_eq_getElem_cons h',WE]
theorem QfB (l m:List Int):WE (l.drop l.length) m=0:=by
 rw [List.drop_of_length_le (Nat.le_refl _)];cases m<;>rfl


theorem ZJ (l m:List Int) (u v:Value) (B B':Nat) (w:World) (hr:Rd w B (yw l) u) (hs:Rd w B' (yw m) v) (hB:B<=w.heap.size) (hB':B'<=w.heap.size):
  Calls Tryz.prog 15 #[u,v] w fun e w'=>e= .returned (.int .i64 (YY l m))/\Qb [] w w':=by
 obtain⟨A,cap,rfl,h0,h1,hrow⟩:=qG hr
 obtain⟨A',cap',rfl,h0',h1',hrow'⟩:=qG hs
 unfold maxLen at h1 h1'
 clear hr hs
 by_cases c1:l.length<m.length
 ·go_enter Tryz.func15,Tryz.ntmps15
  go_wp2
  go_ret
  exact⟨Vp (by rw [YY,if_pos c1]),Qb.refl _ _⟩
 ·by_cases c2:m.length<l.length
  ·go_enter Tryz.func15,Tryz.ntmps15
   go_wp2
   go_ret
   exact⟨Vp (by rw [YY,if_neg (by omega),if_pos (by omega)]),Qb.refl _ _⟩
  ·have hc0:Hid (YY l m=WE (l.drop 0) (m.drop 0)):=by
    show YY l m=_
    rw [YY,if_neg c1,if_neg c2];rfl
   go_enter Tryz.func15,Tryz.ntmps15
   go_wp2
   go_loopw [20] (fun i wr=>∃k:Nat,k<=l.length/\i= .int .i64 k/\Qb [] w wr/\Hid (YY l m=WE (l.drop k) (m.drop k))) (fun i _=>l.length-(intOf i).toNat)
   case atStart=>exact⟨0,Nat.zero_le _,rfl,Qb.refl _ _,hc0⟩
   case round=>
    obtain⟨k,hk,rfl,hh,hq⟩:=hrel
    by_cases hlt:k<l.length
    ·have hlt':k<m.length:=by omega
     obtain⟨b,off,rfl,hb,hu⟩:=zi (hrow.cz hh hB) k hlt
     obtain⟨b',off',rfl,hb',hu'⟩:=zi (hrow'.cz hh hB') k hlt'
     have hq2:=hq.out
     rw [Qes l m k hlt hlt'] at hq2
     have HQ:=Qd hq2
     clear hq hq2 hc0
     by_cases d1:l[k] <m[k]
     ·go_wp2
      go_quiet (fail)
      go_wp2
      go_ret
      exact⟨Vp (by rw [HQ.out,if_pos d1]),hh.drewN _⟩
     ·by_cases d2:m[k] <l[k]
      ·go_wp2
       go_quiet (fail)
       go_wp2
       go_quiet (fail)
       go_wp2
       go_ret
       exact⟨Vp (by rw [HQ.out,if_neg (by omega),if_pos (by omega)]),(hh.drewN _).drewN _⟩
      ·go_wp2
       go_quiet (fail)
       go_wp2
       go_quiet (fail)
       go_wp2
       go_roundw
       case rel=>exact⟨k+1,by omega,by go_num,(hh.drewN _),by rw [HQ.out,if_neg (by omega),if_neg (by omega)];exact Qd rfl⟩
       case measure=>simp [intOf];omega
    ·obtain rfl:k=l.length:=by omega
     go_wp2
     go_ret
     exact⟨Vp (by rw [hq.out,QfB]),hh⟩

end Go.Proofs.YtlnkgcdeljhjcaaGreatDoor
namespace Go.Proofs.YtlnkgcdeljhjcaaGreatDoor
open Go.ChangeShapes Go.WideShapes Go.RowKit Go.Deep

def Qhi:Value->Prop
 | .int .i64 n=> -9223372036854775808<=n/\n<=9223372036854775807
 | .string s=>s.size<=9223372036854775807
 |_=>True
mutual
def QeI:QK->Prop
 | .v x=>Qhi x
 | .s n cs=>n<=9223372036854775807/\KG cs
def KG:List QK->Prop
 | []=>True
 |d::ds=>QeI d/\KG ds
end
theorem xd:∀ {ds:List QK},KG ds↔ ∀d∈ds,QeI d
 | []=>by simp [KG]
 |d::ds=>by rw [KG,xd (ds:=ds)];simp
theorem QgX {xs0 bs:List QK}:KG (xs0++bs)↔KG xs0/\KG bs:=by
 simp only [xd,List.mem_append]
 exact⟨fun h=>⟨fun d hd=>h d (.inl hd),fun d hd=>h d (.inr hd)⟩,fun h d hd=>hd.elim (h.1 d) (h.2 d)⟩
theorem jS {α:Type} {F:α->List QK} {l:List α}:KG (l.flatMap F)↔ ∀a∈l,KG (F a):=by
 simp only [xd,List.mem_flatMap]
 exact⟨fun h a ha d hd=>h d ⟨a,ha,hd⟩,fun h d ⟨a,ha,hd⟩=>h a ha d hd⟩

def RdV (w:World) (ds:List QK) (cs:List Value):Prop:=cs.length=ds.length/\∀(j:Nat) (d:QK),ds[j]?=some d->∃u,cs[j]?=some u/\Rd w w.heap.size d u

theorem RdV.one {w:World} {d:QK} {u:Value} (h:Rd w w.heap.size d u):RdV w [d] [u]:=
 ⟨rfl,fun j x hx=>by
  match j,hx with
  |0,hx=>simp at hx;subst hx;exact⟨u,rfl,h⟩⟩
theorem RdV.one_inv {w:World} {d:QK} {cs:List Value} (h:RdV w [d] cs):∃u,cs=[u] /\Rd w w.heap.size d u:=by
 obtain⟨h1,h2⟩:=h
 match cs,h1 with
 | [u],_=>
  obtain⟨u',hu,hd⟩:=h2 0 d rfl
  simp at hu;subst hu
  exact⟨_,rfl,hd⟩
def VX {α:Type} (P:Program) (N:Nat) (t:TypeId) (F:α->List QK):Prop:=
 ∀ {H:Type} (enc:TypeId×Value->H) (w:World) (n:Nat) (cs:List Value) (x:DataW H×List MemPlace),n<=N->DataW.trod enc P w 0 (fun _=>true) true n t cs=some x->∃a,KG (F a)/\RdV w (F a) cs

def Qhz (n:Int):List QK:=[.v (.int .i64 n)]
def wC {α:Type} (F:α->List QK) (l:List α):List QK:=[.s l.length (l.flatMap F)]

theorem VX.int {P:Program} {N:Nat} {t:TypeId} (ht:P.underlying t=some (.int .i64)):VX P N t Qhz:=by
 intro H enc w n cs x _ h
 obtain⟨m,rfl,_,hw⟩:=DataW.trod_int ht h
 refine⟨m,?_,RdV.one (by rw [Rd])⟩
 have hw':=bounds_i64 hw
 simp only [Qhz,KG,QeI,Qhi,and_true]
 omega
theorem VX.mono {α:Type} {P:Program} {N M:Nat} {t:TypeId} {F:α->List QK} (h:VX P N t F) (hm:M<=N):VX P M t F:=fun enc w n cs x hn hx=>h enc w n cs x (by omega) hx
theorem VX.slice {α:Type} {P:Program} {N c:Nat} {t e:TypeId} {F:α->List QK} (ht:P.underlying t=some (.slice e)) (hc:P.cellsOf e=c) (hpos:0<c) (hF:∀a,(F a).length=c) (h:VX P N e F):VX P (N+1) t (wC F):=by
 intro H enc w n cs x hn hx
 rcases DataW.trod_slice ht hx with ⟨rfl,_⟩|⟨a,len,cap,elems,rest,m,hm,rfl,_,_,hl,hcap,hlen,hel,_,_⟩
 ·refine⟨[],by simp [wC,KG,QeI],RdV.one ?_⟩
  rw [Rd]
  exact⟨none,0,rfl,Nat.le_refl _,by simp [maxLen],.inl rfl⟩
 ·have each:∀i,i<len->∃b:α,KG (F b)/\∃cs',w.cells? 0 (a.add (i * c)) c=some cs'/\RdV w (F b) cs':=by
   intro i hi
   have hb:=hel i hi
   rw [List.getElem?_eq_getElem (by omega),Option.bind_eq_some_iff] at hb
   obtain⟨cs',h1,h2⟩:=hb
   obtain⟨b,h3,h4⟩:=h enc w m cs' _ (by omega) h2
   rw [hc] at h1
   exact⟨b,h3,cs',h1,h4⟩
  have build:∀k,k<=len->∃l:List α,l.length=k/\(∀i (hi:i<l.length),KG (F l[i])/\∃cs',w.cells? 0 (a.add (i * c)) c=some cs'/\RdV w (F l[i]) cs'):=by
   intro k
   induction k with
   |zero=>exact fun _=>⟨[],rfl,fun i hi=>by simp at hi⟩
   | succ k ih=>
    intro hk
    obtain⟨l,hl1,hl2⟩:=ih (by omega)
    obtain⟨b,hb1,hb2⟩:=each k (by omega)
    refine⟨l++ [b],by simp [hl1],fun i hi=>?_⟩
    by_cases hik:i<l.length
    ·rw [List.getElem_append_left hik];exact hl2 i hik
    ·have:i=l.length:=by simp at hi;omega
     subst this
     rw [List.getElem_concat_length (by rfl),hl1]
     exact⟨hb1,hb2⟩
  obtain⟨l,hl1,hl2⟩:=build len (Nat.le_refl _)
  have hfit:KG (wC F l):=by
   simp only [wC,KG,QeI,and_true]
   refine⟨by unfold maxLen at hcap;omega,jS.2 fun b hb=>?_⟩
   obtain⟨i,hi,rfl⟩:=List.getElem_of_mem hb
   exact(hl2 i hi).1
  refine⟨l,hfit,RdV.one ?_⟩
  rw [Rd,hl1]
  refine⟨some a,cap,rfl,hl,hcap,?_⟩
  rcases Nat.eq_zero_or_pos len with h0|h0
  ·left
   have:l=[]:=List.eq_nil_of_length_eq_zero (by omega)
   subst this;rfl
  ·right
   have hcell0:∀i (hi:i<l.length) j,j<c->∃u,w.cell? ((a.add (i * c)).add j)=some u:=by
    intro i hi j hj
    obtain⟨_,cs',h1,h2⟩:=hl2 i hi
    obtain⟨_,h4,h5⟩:=World.cells?_some h1
    exact⟨cs'[j]'(by omega),by rw [h5 j hj,List.getElem?_eq_getElem]⟩
   have hsp:a.spot=none:=by
    obtain⟨u,hu⟩:=hcell0 0 (by omega) 0 (by omega)
    have:=World.cell?_spot hu
    simpa [Addr.add] using this
   obtain⟨b,off,spot⟩:=a
   simp at hsp;subst hsp
   have hbl:b<w.heap.size:=by
    obtain⟨u,hu⟩:=hcell0 0 (by omega) 0 (by omega)
    have:=World.block_lt_of_cell? w _ hu
    simpa [Addr.add] using this
   refine⟨b,off,rfl,hbl,qn.2 fun j d hj=>?_⟩
   have hjl:j<(l.flatMap F).length:=by
    rcases Nat.lt_or_ge j (l.flatMap F).length with h|h
    ·exact h
    ·rw [List.getElem?_eq_none h] at hj;cases hj
   rw [Xp hF] at hjl
   have hq:j / c<l.length:=by rw [Nat.div_lt_iff_lt_mul hpos];exact hjl
   have hr:j % c<c:=Nat.mod_lt _ hpos
   have hjj:j / c * c+j % c=j:=by rw [Nat.mul_comm];exact Nat.div_add_mod j c
   have hat:=WM hF l (j / c) (j % c) hq hr
   rw [hjj,hj] at hat
   obtain⟨_,cs',h1,h2⟩:=hl2 (j / c) hq
   obtain⟨_,_,h5⟩:=World.cells?_some h1
   obtain⟨u,hu,hd⟩:=h2.2 (j % c) d hat.symm
   refine⟨u,?_,hd⟩
   have:=h5 (j % c) hr
   rw [hu,add_plain,add_plain,Nat.add_assoc,hjj] at this
   exact this

theorem VX.arg {H:Type} {enc:TypeId×Value->H} {α:Type} {P:Program} {t e:TypeId} {F:α->List QK} (hO:∀N,VX P N t (wC F)) (ht:P.underlying t=some (.slice e)) {W:World} {r:Reach} {b0:Nat} {v:Value} {d:DataW H} {ps:List MemPlace}
  (hv:Value.okWide P W r b0 t v) (h:DataW.Trod enc P W 0 (fun _=>true) true t v d ps):∃l:List α,KG (wC F l)/\Rd W W.heap.size (.s l.length (l.flatMap F)) v:=by
 obtain⟨a,len,cap,rfl⟩:=okWide_slice ht hv
 obtain⟨n,hn⟩:=h
 obtain⟨l,h1,h2⟩:=hO n enc W n _ _ (Nat.le_refl _) hn
 obtain⟨u,hu,hd⟩:=RdV.one_inv h2
 simp [Value.cells] at hu
 subst hu
 exact⟨l,h1,hd⟩

end Go.Proofs.YtlnkgcdeljhjcaaGreatDoor
namespace Go.Proofs.YtlnkgcdeljhjcaaGreatDoor
open Go.RowKit

def mtL:Nat->Int->ByteArray->ByteArray
 |0,_,s=>s
 |f+1,n,s=>if 0<n then mtL f (n / 10) (strOfNums [48+n % 10] ++s) else s
def mt (k:Int):ByteArray:=if k<=0 then⟨#[109,48]⟩ else⟨#[109]⟩++mtL k.toNat k ⟨#[]⟩


theorem qA {α:Type} {l:List α} {a:α} (f:α->Nat) (h:a∈l):f a<=(l.map f).sum:=by
 induction l with
 |nil=>cases h
 |cons b l ih=>
  rw [List.map_cons,List.sum_cons]
  rcases List.mem_cons.1 h with rfl|h
  ·omega
  ·have:=ih h;omega
theorem sum_append {α:Type} (f:α->Nat) (l m:List α):((l++m).map f).sum=(l.map f).sum+(m.map f).sum:=by simp
theorem QeN {α:Type} (f:α->Nat) (l:List α) (k:Nat) (h:k<l.length):((l.take (k+1)).map f).sum=((l.take k).map f).sum+f l[k]:=by
 rw [List.take_succ_eq_append_getElem h,sum_append];simp
theorem Qga {α:Type} (f:α->Nat) (l:List α) (k:Nat):((l.take k).map f).sum<=(l.map f).sum:=by
 have:=sum_append f (l.take k) (l.drop k)
 rw [List.take_append_drop] at this
 omega
section
variable {α:Type} {M:α->Int->α} {N:α->Nat}
variable {F:α->List QK}
end
theorem Yk.own {w:World} {n:Nat} {cs:List QK} {A:Option Addr} {cap:Nat} {S:List Nat} (h:Yk w (.s n cs) (.slice A n cap) S) (hn:0<n):∃g,A=some ⟨g,0,none⟩/\g∈S:=by
 rcases h.cases_ with ⟨_,h2,_⟩|⟨g,cap',S',hu,_,_,rfl,_⟩
 ·omega
 ·simp only [Value.slice.injEq] at hu
  exact⟨g,hu.1,by simp⟩

def U5 (s:ByteArray):List QK:=[.v (.string s)]
def Ws (l:List ByteArray):QK:=.s l.length (l.flatMap U5)
theorem Qfr (s:ByteArray):(U5 s).length=1:=rfl
theorem Yu {w:World} {B:Nat} {l:List ByteArray} {u:Value} (h:Rd w B (Ws l) u):∃A cap,u= .slice A l.length cap/\l.length<=cap/\cap<=maxLen/\Wd w B U5 1 l A:=h.row Qfr (by omega)
theorem ZO {w:World} {B:Nat} {l:List ByteArray} {A:Option Addr} (h:Wd w B U5 1 l A) (k:Nat) (hk:k<l.length):∃b off,A=some ⟨b,off,none⟩/\b<B/\w.cell? ⟨b,off+k,none⟩=some (.string l[k]):=by
 obtain⟨b,off,rfl,hb,hx⟩:=h k hk
 obtain⟨u,hu,hd⟩:=hx 0 _ rfl
 rw [Rd] at hd
 subst hd
 exact⟨b,off,rfl,hb,by simpa using hu⟩
def ZY (l:List ByteArray):Nat:=(l.map ByteArray.size).sum
def QfS (l:List ByteArray):Nat:=l.length+ZY l
theorem Wf:(Tryz.prog.info? 9).map (fun i=>(i.zero,i.size,i.bytes))=some (some (.string ⟨#[]⟩),1,16):=by kernel_rfl


end Go.Proofs.YtlnkgcdeljhjcaaGreatDoor
