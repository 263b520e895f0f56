/- Memory that reads as plain data: a datum is a value of one cell, or a slice with its cells; 'Rd' says that a value reads as a datum below a block number, 'Own' that it does so through blocks of its own, each named once; 'Chg' says which blocks may have turned. Conditions: none. / Walks over slices of integers: copies, comparison. Conditions: at most 1048576 elements. / Readings of arguments as plain typed data: integers, bools, strings, slices, structs, and types that hold slices of themselves. Conditions: none. / markText: a text that depends on the number alone. Conditions: the number is at most 100000000. / Small things that all walks over typed data use. / Lists of texts: as plain data; the walks of their size, copy and equality. -/
import Derived.Below
import Derived.OneCell
import Derived.Deep.Draws
import Derived.Laws.MakeOwn
import Derived.Laws.Entries
import Derived.Test.YtdlkbomojjmnlaaGreatDoorRows
import Derived.WalkKit
import Derived.WalkSpells
import Derived.WalkLawsBesides
import Derived.Lib.Hide
import Derived.Deep.LoopGhost
import Derived.Deep.OwnRows
import Derived.BigQuiet
import Derived.Deep.QuietTactic
import Derived.ProofKit
import Derived.Deep.Slices
import Derived.OpenShut
import Derived.Laws.BytesArg
import Derived.StillTailTactics
set_option maxRecDepth 100000
set_option maxHeartbeats 400000
namespace Go.Proofs.YtdlkbomojjmnlaaGreatDoor
open Go.RowKit

/-- A fact laid by. -/
theorem hid {p:Prop} (h:p):Hid p:=h
/-- A datum: one cell, or a slice of n elements, of which the cells are told in order. -/
inductive Dat where
 |v (x:Value)
 |s (n:Nat) (cs:List Dat)

/-- Which blocks may have turned (beside new ones). -/
structure Chg (S:List Nat) (w w':World):Prop where
 os:w'.os=w.os
 tape:w'.tape=w.tape
 output:w'.output=w.output
 size:w.heap.size<=w'.heap.size
 block:∀k,k<w.heap.size->k∉S->w'.heap[k]?=w.heap[k]?

theorem Chg.refl (S:List Nat) (w:World):Chg S w w:=⟨rfl,rfl,rfl,Nat.le_refl _,fun _ _ _=>rfl⟩
theorem Chg.trans {S T:List Nat} {a b c:World} (h:Chg S a b) (k:Chg T b c) (hT:∀x,x∈T->x∈S∨a.heap.size<=x):Chg S a c:=
 ⟨k.os.trans h.os,k.tape.trans h.tape,k.output.trans h.output,Nat.le_trans h.size k.size,fun i hi hn=>
  (k.block i (Nat.lt_of_lt_of_le hi h.size) (fun hx=>(hT i hx).elim hn (fun h1=>by omega))).trans (h.block i hi hn)⟩
theorem Chg.trans0 {S:List Nat} {a b c:World} (h:Chg S a b) (k:Chg [] b c):Chg S a c:=h.trans k (fun _ hx=>by cases hx)
theorem Chg.trans1 {S:List Nat} {a b c:World} (h:Chg [] a b) (k:Chg S b c):Chg S a c:=
 ⟨k.os.trans h.os,k.tape.trans h.tape,k.output.trans h.output,Nat.le_trans h.size k.size,fun i hi hn=>
  (k.block i (Nat.lt_of_lt_of_le hi h.size) hn).trans (h.block i hi (by simp))⟩
theorem Chg.mono {S T:List Nat} {a b:World} (h:Chg S a b) (hT:∀x,x∈S->x∈T∨a.heap.size<=x):Chg T a b:=
 ⟨h.os,h.tape,h.output,h.size,fun i hi hn=>h.block i hi (fun hx=>(hT i hx).elim hn (fun h1=>by omega))⟩
theorem Chg.drew {S:List Nat} {a b:World} (h:Chg S a b):Chg S a b.drew:=⟨h.os,h.tape,h.output,h.size,h.block⟩
theorem Chg.drewN {S:List Nat} {a b:World} (h:Chg S a b) (n:Nat):Chg S a (b.drewN n):=⟨h.os,h.tape,h.output,h.size,h.block⟩
theorem Chg.alloc {S:List Nat} {a b:World} (h:Chg S a b) (o:Obj):Chg S a (b.alloc o):=
 ⟨h.os,h.tape,h.output,Nat.le_trans h.size (by simp),fun i hi hn=>(Below.heap_alloc b o i (Nat.lt_of_lt_of_le hi h.size)).trans (h.block i hi hn)⟩
theorem Chg.setCell {S:List Nat} {a b:World} (h:Chg S a b) {p:Addr} (hp:p.block∈S∨a.heap.size<=p.block) (u:Value):Chg S a (b.setCell p u):=
 ⟨h.os,h.tape,h.output,by simpa [World.setCell] using h.size,fun i hi hn=>(Below.heap_setCell b p u i (by
  rintro rfl
  rcases hp with hp|hp
  ·exact hn hp
  ·omega)).trans (h.block i hi hn)⟩
theorem Chg.below {B:Nat} {S:List Nat} {a b:World} (h:Chg S a b) (hS:∀x,x∈S->B<=x) (hB:B<=a.heap.size):Below B a b:=
 ⟨h.os,h.tape,h.output,h.size,fun k hk=>h.block k (by omega) (fun hx=>by have:=hS k hx;omega)⟩
theorem Chg.toBelow {a b:World} (h:Chg [] a b):Below a.heap.size a b:=h.below (by simp) (Nat.le_refl _)
theorem Chg.of_below {a b:World} (h:Below a.heap.size a b) (S:List Nat):Chg S a b:=⟨h.os,h.tape,h.output,h.size,fun k hk _=>h.block k hk⟩
theorem Chg.grown {S:List Nat} {a b c:World} {row:Option Nat} (h:Chg S a b) (hg:b.grownBy c row) (hr:∀k,row=some k->k∈S∨a.heap.size<=k):Chg S a c:=
 ⟨hg.os.trans h.os,hg.tape.trans h.tape,hg.output.trans h.output,Nat.le_trans h.size hg.size,fun i hi hn=>
  (hg.block i (Nat.lt_of_lt_of_le hi h.size) (fun e=>(hr i e.symm).elim hn (fun h1=>by omega))).trans (h.block i hi hn)⟩
theorem Chg.cell {S:List Nat} {a b:World} (h:Chg S a b) {p:Addr} (hp:p.block<a.heap.size) (hn:p.block∉S):b.cell? p=a.cell? p:=
 World.cell?_of_block (h.block _ hp hn)
theorem Chg.frozen {S:List Nat} {a b:World} (h:Chg S a b) {p:Addr} (hp:p.block<a.heap.size) (hn:p.block∉S):b.frozen? p=a.frozen? p:=
 World.frozen?_of_block (h.block _ hp hn)

/-- A change that can be seen in the world as it is written: stores into blocks of S and new ones, new blocks, draws. -/
theorem Chg.now {S:List Nat} {w W:World} (h:Chg S w W:=by(repeat(first|with_reducible exact Chg.refl _ _|with_reducible refine Chg.drew ?_|with_reducible refine Chg.drewN ?_ _|with_reducible refine Chg.alloc ?_ _|with_reducible refine Chg.setCell ?_ (by first|(refine .inl ?_;simp;done)|(refine .inl ?_;assumption)|(refine .inl (List.mem_cons_of_mem _ ?_);assumption)|(refine .inl (List.mem_cons_of_mem _ (Hid.out ?_));assumption)|(refine .inr ?_;simp<;>omega)) _));done):Chg S w W:=h
/-- .. behind one that is known. -/
theorem Chg.to {S:List Nat} {w V W:World} (b:Chg S w V) (h:Chg S w V->Chg S w W:=by intro hb;(repeat(first|with_reducible exact hb|with_reducible exact Chg.refl _ _|with_reducible refine Chg.drew ?_|with_reducible refine Chg.drewN ?_ _|with_reducible refine Chg.alloc ?_ _|with_reducible refine Chg.setCell ?_ (by first|(refine .inl ?_;simp;done)|(refine .inl ?_;assumption)|(refine .inl (List.mem_cons_of_mem _ ?_);assumption)|(refine .inl (List.mem_cons_of_mem _ (Hid.out ?_));assumption)|(refine .inr ?_;simp<;>omega)) _));done):Chg S w W:=h b
/-- A block's cells and marks stand. -/
theorem Chg.ce {S:List Nat} {a b:World} (h:Chg S a b) (x:Nat) (hx:x<a.heap.size:=by first|omega|(simp;done)|(simp;omega)) (hn:x∉S:=by simp):∀o,b.cell? ⟨x,o,none⟩=a.cell? ⟨x,o,none⟩:=fun _=>h.cell hx hn
theorem Chg.fe {S:List Nat} {a b:World} (h:Chg S a b) (x:Nat) (hx:x<a.heap.size:=by first|omega|(simp;done)|(simp;omega)) (hn:x∉S:=by simp):∀o,b.frozen? ⟨x,o,none⟩=a.frozen? ⟨x,o,none⟩:=fun _=>h.frozen hx hn

theorem lt_of_cell {w:World} {p:Addr} {u:Value} (h:w.cell? p=some u):p.block<w.heap.size:=World.block_lt_of_cell? w p h

mutual
/-- The value u reads, in world w, as the datum, through blocks below B. -/
def Rd (w:World) (B:Nat):Dat->Value->Prop
 | .v x,u=>u=x
 | .s n cs,u=>∃A cap,u= .slice A n cap/\n<=cap/\cap<=maxLen/\(cs=[] ∨∃b off,A=some ⟨b,off,none⟩/\b<B/\RdL w B cs b off)
/-- .. and so on, cell by cell. -/
def RdL (w:World) (B:Nat):List Dat->Nat->Nat->Prop
 | [],_,_=>True
 |d::ds,b,off=>(∃u,w.cell? ⟨b,off,none⟩=some u/\Rd w B d u)/\RdL w B ds b (off+1)
end

theorem RdL_iff {w:World} {B b:Nat}:∀ {ds:List Dat} {off:Nat},RdL w B ds b off↔ ∀j d,ds[j]?=some d->∃u,w.cell? ⟨b,off+j,none⟩=some u/\Rd w B d u
 | [],off=>by simp [RdL]
 | d::ds,off=>by
  rw [RdL,RdL_iff (ds:=ds)]
  constructor
  ·rintro⟨h1,h2⟩ j x hx
   match j,hx with
   |0,hx=>simp at hx;subst hx;exact h1
   |j+1,hx=>have:=h2 j x (by simpa using hx);rwa [Nat.add_assoc,Nat.add_comm 1 j] at this
  ·intro h
   refine⟨h 0 d (by simp),fun j x hx=>?_⟩
   have:=h (j+1) x (by simpa using hx)
   rwa [Nat.add_assoc,Nat.add_comm 1 j]

mutual
theorem Rd.keep {w w':World} {B B':Nat} (hB:B<=B') (hk:∀p:Addr,p.block<B->w'.cell? p=w.cell? p):∀(d:Dat) (u:Value),Rd w B d u->Rd w' B' d u
 | .v x,u,h=>by rw [Rd] at h ⊢;exact h
 | .s n cs,u,h=>by
  rw [Rd] at h ⊢
  obtain⟨A,cap,e,h0,h1,h2⟩:=h
  refine⟨A,cap,e,h0,h1,?_⟩
  rcases h2 with h2|⟨b,off,e2,hb,hl⟩
  ·exact .inl h2
  ·exact .inr ⟨b,off,e2,by omega,RdL.keep hB hk cs b off hb hl⟩
theorem RdL.keep {w w':World} {B B':Nat} (hB:B<=B') (hk:∀p:Addr,p.block<B->w'.cell? p=w.cell? p):∀(ds:List Dat) (b off:Nat),b<B->RdL w B ds b off->RdL w' B' ds b off
 | [],_,_,_,_=>by rw [RdL];trivial
 |d::ds,b,off,hb,h=>by
  rw [RdL] at h ⊢
  obtain⟨⟨u,hu,hd⟩,hr⟩:=h
  exact⟨⟨u,(hk _ hb).trans hu,Rd.keep hB hk d u hd⟩,RdL.keep hB hk ds b (off+1) hb hr⟩
end

theorem Rd.below {w w':World} {B:Nat} {d:Dat} {u:Value} (h:Rd w B d u) (hb:Below B w w'):Rd w' B d u:=Rd.keep (Nat.le_refl _) (fun _ hp=>hb.cell hp) d u h
theorem Rd.chg {w w':World} {B:Nat} {S:List Nat} {d:Dat} {u:Value} (h:Rd w B d u) (hc:Chg S w w') (hB:B<=w.heap.size) (hS:∀x,x∈S->B<=x):Rd w' B d u:=h.below (hc.below hS hB)
theorem Rd.chg0 {w w':World} {B:Nat} {d:Dat} {u:Value} (h:Rd w B d u) (hc:Chg [] w w') (hB:B<=w.heap.size):Rd w' B d u:=h.chg hc hB (by simp)
theorem Rd.mono {w:World} {B B':Nat} {d:Dat} {u:Value} (h:Rd w B d u) (hB:B<=B'):Rd w B' d u:=Rd.keep hB (fun _ _=>rfl) d u h

/-- A slice that reads as cells, opened at one of them. -/
theorem Rd.at_ {w:World} {B n:Nat} {cs:List Dat} {u:Value} (h:Rd w B (.s n cs) u):∃A cap,u= .slice A n cap/\n<=cap/\cap<=maxLen/\
  (cs≠ [] ->∃b off,A=some ⟨b,off,none⟩/\b<B/\∀j d,cs[j]?=some d->∃u,w.cell? ⟨b,off+j,none⟩=some u/\Rd w B d u):=by
 rw [Rd] at h
 obtain⟨A,cap,e,h0,h1,h2⟩:=h
 refine⟨A,cap,e,h0,h1,fun hne=>?_⟩
 rcases h2 with h2|⟨b,off,e2,hb,hl⟩
 ·exact absurd h2 hne
 ·exact⟨b,off,e2,hb,RdL_iff.1 hl⟩

mutual
/-- The value u reads, in world w, as the datum, through blocks of its own: S. -/
def Own (w:World):Dat->Value->List Nat->Prop
 | .v x,u,S=>u=x/\S=[]
 | .s n cs,u,S=>(u= .slice none 0 0/\n=0/\cs=[] /\S=[])∨
   ∃g cap cur e us S',u= .slice (some ⟨g,0,none⟩) n cap/\n<=cap/\cap<=maxLen/\w.heap[g]?=some (.cells cur e (0,0))/\cur.toList.take cs.length=us/\us.length=cs.length/\OwnL w cs us S'/\S=g::S'
def OwnL (w:World):List Dat->List Value->List Nat->Prop
 | [],us,S=>us=[] /\S=[]
 |d::ds,us,S=>∃u us' S1 S2,us=u::us'/\S=S1++S2/\Own w d u S1/\OwnL w ds us' S2
end

mutual
theorem Own.lt {w:World}:∀(d:Dat) (u:Value) (S:List Nat),Own w d u S->∀x,x∈S->x<w.heap.size
 | .v x,u,S,h=>by rw [Own] at h;rw [h.2];simp
 | .s n cs,u,S,h=>by
  rw [Own] at h
  rcases h with ⟨_,_,_,rfl⟩|⟨g,cap,cur,e,us,S',_,_,_,hg,_,_,hl,rfl⟩
  ·simp
  ·intro x hx
   rcases List.mem_cons.1 hx with rfl|hx
   ·exact(Array.getElem?_eq_some_iff.1 hg).1
   ·exact OwnL.lt cs us S' hl x hx
theorem OwnL.lt {w:World}:∀(ds:List Dat) (us:List Value) (S:List Nat),OwnL w ds us S->∀x,x∈S->x<w.heap.size
 | [],us,S,h=>by rw [OwnL] at h;rw [h.2];simp
 |d::ds,us,S,h=>by
  rw [OwnL] at h
  obtain⟨u,us',S1,S2,_,rfl,h1,h2⟩:=h
  intro x hx
  rcases List.mem_append.1 hx with hx|hx
  ·exact Own.lt d u S1 h1 x hx
  ·exact OwnL.lt ds us' S2 h2 x hx
end

mutual
theorem Own.keep {w w':World} {S0:List Nat} (hc:Chg S0 w w'):∀(d:Dat) (u:Value) (S:List Nat),(∀x,x∈S->x∉S0)->Own w d u S->Own w' d u S
 | .v x,u,S,_,h=>by rw [Own] at h ⊢;exact h
 | .s n cs,u,S,hS,h=>by
  rw [Own] at h ⊢
  rcases h with h|⟨g,cap,cur,e,us,S',h1,h2,h3,hg,h4,h5,hl,rfl⟩
  ·exact .inl h
  ·exact .inr ⟨g,cap,cur,e,us,S',h1,h2,h3,(hc.block g (Array.getElem?_eq_some_iff.1 hg).1 (hS g (by simp))).trans hg,h4,h5,OwnL.keep hc cs us S' (fun x hx=>hS x (by simp [hx])) hl,rfl⟩
theorem OwnL.keep {w w':World} {S0:List Nat} (hc:Chg S0 w w'):∀(ds:List Dat) (us:List Value) (S:List Nat),(∀x,x∈S->x∉S0)->OwnL w ds us S->OwnL w' ds us S
 | [],us,S,_,h=>by rw [OwnL] at h ⊢;exact h
 |d::ds,us,S,hS,h=>by
  rw [OwnL] at h ⊢
  obtain⟨u,us',S1,S2,e1,rfl,h1,h2⟩:=h
  exact⟨u,us',S1,S2,e1,rfl,Own.keep hc d u S1 (fun x hx=>hS x (by simp [hx])) h1,OwnL.keep hc ds us' S2 (fun x hx=>hS x (by simp [hx])) h2⟩
end

theorem OwnL.length {w:World}:∀(ds:List Dat) (us:List Value) (S:List Nat),OwnL w ds us S->us.length=ds.length
 | [],us,S,h=>by rw [OwnL] at h;rw [h.1];rfl
 |d::ds,us,S,h=>by
  rw [OwnL] at h
  obtain⟨u,us',S1,S2,rfl,_,_,h2⟩:=h
  simp [OwnL.length ds us' S2 h2]

theorem OwnL.append {w:World}:∀ {ds ds':List Dat} {us us':List Value} {S S':List Nat},OwnL w ds us S->OwnL w ds' us' S'->OwnL w (ds++ds') (us++us') (S++S')
 | [],ds',us,us',S,S',h,h'=>by rw [OwnL] at h;simpa [h.1,h.2] using h'
 |d::ds,ds',us,us',S,S',h,h'=>by
  rw [OwnL] at h
  obtain⟨u,us1,S1,S2,rfl,rfl,h1,h2⟩:=h
  rw [List.cons_append,OwnL]
  exact⟨u,us1++us',S1,S2++S',by simp,by simp,h1,OwnL.append h2 h'⟩

/-- One cell of several: what it is, its blocks, and how it is put back. -/
theorem OwnL.split {w:World}:∀ {ds:List Dat} {us:List Value} {S:List Nat} {j:Nat} {d:Dat},OwnL w ds us S->ds[j]?=some d->
  ∃u Sa Sj Sb,us[j]?=some u/\S=Sa++(Sj++Sb)/\Own w d u Sj/\
   ∀(w':World) (d':Dat) (u':Value) (Sj' S0:List Nat),Chg S0 w w'->(∀x,x∈Sa++Sb->x∉S0)->Own w' d' u' Sj'->OwnL w' (ds.set j d') (us.set j u') (Sa++(Sj'++Sb))
 | [],us,S,j,d,h,hj=>by simp at hj
 | d0::ds,us,S,j,d,h,hj=>by
  rw [OwnL] at h
  obtain⟨u,us1,S1,S2,rfl,rfl,h1,h2⟩:=h
  match j,hj with
  |0,hj=>
   simp at hj;subst hj
   refine⟨u,[],S1,S2,rfl,by simp,h1,fun w' d' u' Sj' S0 hc hn ho=>?_⟩
   simp only [List.set_cons_zero,List.nil_append]
   rw [OwnL]
   exact⟨u',us1,Sj',S2,rfl,rfl,ho,OwnL.keep hc ds us1 S2 (fun x hx=>hn x (by simpa using hx)) h2⟩
  |j+1,hj=>
   obtain⟨u1,Sa,Sj,Sb,e1,rfl,h3,h4⟩:=OwnL.split h2 (by simpa using hj)
   refine⟨u1,S1++Sa,Sj,Sb,by simpa using e1,by simp,h3,fun w' d' u' Sj' S0 hc hn ho=>?_⟩
   simp only [List.set_cons_succ]
   rw [OwnL]
   refine⟨u,us1.set j u',S1,Sa++(Sj'++Sb),rfl,by simp,Own.keep hc d0 u S1 (fun x hx=>hn x (by simp [hx])) h1,h4 w' d' u' Sj' S0 hc (fun x hx=>hn x ?_) ho⟩
   rcases List.mem_append.1 hx with hx|hx<;>simp [hx]

/-- Owned through blocks that are all different. -/
def Has (w:World) (d:Dat) (u:Value) (S:List Nat):Prop:=Own w d u S/\S.Nodup

theorem Has.lt {w:World} {d:Dat} {u:Value} {S:List Nat} (h:Has w d u S):∀x,x∈S->x<w.heap.size:=Own.lt d u S h.1
theorem Has.keep {w w':World} {d:Dat} {u:Value} {S S0:List Nat} (h:Has w d u S) (hc:Chg S0 w w') (hS:∀x,x∈S->x∉S0):Has w' d u S:=⟨Own.keep hc d u S hS h.1,h.2⟩
theorem Has.keep0 {w w':World} {d:Dat} {u:Value} {S:List Nat} (h:Has w d u S) (hc:Chg [] w w'):Has w' d u S:=h.keep hc (by simp)

mutual
theorem Own.rd {w:World}:∀(d:Dat) (u:Value) (S:List Nat),Own w d u S->Rd w w.heap.size d u
 | .v x,u,S,h=>by rw [Own] at h;rw [Rd];exact h.1
 | .s n cs,u,S,h=>by
  rw [Own] at h
  rw [Rd]
  rcases h with ⟨rfl,rfl,rfl,rfl⟩|⟨g,cap,cur,e,us,S',rfl,h2,h3,hg,h4,h5,hl,rfl⟩
  ·exact⟨none,0,rfl,Nat.le_refl _,by simp [maxLen],.inl rfl⟩
  ·refine⟨_,cap,rfl,h2,h3,.inr ⟨g,0,rfl,(Array.getElem?_eq_some_iff.1 hg).1,OwnL.rd cs us S' g 0 hl (fun j u hu=>?_)⟩⟩
   rw [cell_of_row w g (0+j) cur e (0,0) hg,Nat.zero_add]
   rw [<-h4,List.getElem?_take] at hu
   split at hu
   ·simpa using hu
   ·cases hu
theorem OwnL.rd {w:World}:∀(ds:List Dat) (us:List Value) (S:List Nat) (b off:Nat),OwnL w ds us S->(∀j u,us[j]?=some u->w.cell? ⟨b,off+j,none⟩=some u)->RdL w w.heap.size ds b off
 | [],us,S,b,off,h,_=>by rw [RdL];trivial
 |d::ds,us,S,b,off,h,hc=>by
  rw [OwnL] at h
  obtain⟨u,us1,S1,S2,rfl,rfl,h1,h2⟩:=h
  rw [RdL]
  refine⟨⟨u,hc 0 u rfl,Own.rd d u S1 h1⟩,OwnL.rd ds us1 S2 b (off+1) h2 (fun j x hx=>?_)⟩
  have:=hc (j+1) x (by simpa using hx)
  rwa [Nat.add_assoc,Nat.add_comm 1 j]
end
theorem Has.rd {w:World} {d:Dat} {u:Value} {S:List Nat} (h:Has w d u S):Rd w w.heap.size d u:=Own.rd d u S h.1

/-- A slice that is owned: its value; each cell; a store; a cell's own blocks and the way back. -/
theorem Has.cases_ {w:World} {n:Nat} {cs:List Dat} {u:Value} {S:List Nat} (h:Has w (.s n cs) u S):
  (u= .slice none 0 0/\n=0/\cs=[] /\S=[])∨∃g cap S',u= .slice (some ⟨g,0,none⟩) n cap/\n<=cap/\cap<=maxLen/\S=g::S'/\g<w.heap.size/\g∉S':=by
 obtain⟨h,hn⟩:=h
 rw [Own] at h
 rcases h with h|⟨g,cap,cur,e,us,S',rfl,h2,h3,hg,_,_,_,rfl⟩
 ·exact .inl h
 ·exact .inr ⟨g,cap,S',rfl,h2,h3,rfl,(Array.getElem?_eq_some_iff.1 hg).1,(List.nodup_cons.1 hn).1⟩

theorem take_set_of {α:Type} (l:List α) (n j:Nat) (y:α) (hj:j<n):(l.set j y).take n=(l.take n).set j y:=by
 apply List.ext_getElem?
 intro i
 simp only [List.getElem?_take,List.getElem?_set,List.length_take]
 by_cases hi:i<n
 ·by_cases hij:j=i
  ·subst hij;simp [hi]
   by_cases hl:j<l.length
   ·rw [if_pos hl,if_pos (by omega)]
   ·rw [if_neg hl,if_neg (by omega)]
  ·simp [hi,hij]
 ·simp [hi];intro hij;omega

/-- Any one cell of an owned slice is set: to another plain value, or (where it was a slice) to what has been made of it. -/
theorem Has.at_ {w:World} {n g cap:Nat} {cs:List Dat} {S:List Nat} {j:Nat} {d:Dat} (h:Has w (.s n cs) (.slice (some ⟨g,0,none⟩) n cap) S) (hj:cs[j]?=some d):
  ∃u Sj,w.cell? ⟨g,j,none⟩=some u/\w.frozen? ⟨g,j,none⟩=false/\Has w d u Sj/\(∀x,x∈Sj->x∈S)/\g∈S/\g∉Sj/\
   (∀(w':World) (d':Dat),Chg Sj w w'->Has w' d' u Sj->Has w' (.s n (cs.set j d')) (.slice (some ⟨g,0,none⟩) n cap) S):=by
 obtain⟨h,hn⟩:=h
 rw [Own] at h
 rcases h with ⟨h0,_⟩|⟨g',cap',cur,e,us,S',h1,h2,h3,hg,h4,h5,hl,rfl⟩
 ·simp at h0
 ·simp only [Value.slice.injEq,Option.some.injEq,Addr.mk.injEq] at h1
  obtain⟨⟨rfl,_⟩,_,rfl⟩:=h1
  obtain⟨u,Sa,Sj,Sb,e1,rfl,ho,hback⟩:=hl.split hj
  obtain⟨hng,hnS⟩:=List.nodup_cons.1 hn
  have hcu:w.cell? ⟨g,j,none⟩=some u:=by
   rw [cell_of_row w g j cur e (0,0) hg]
   rw [<-h4,List.getElem?_take] at e1
   split at e1
   ·simpa using e1
   ·cases e1
  have hnd:Sj.Nodup:=(List.nodup_append.1 (List.nodup_append.1 hnS).2.1).1
  have hdis:∀x,x∈Sa++Sb->x∉Sj:=by
   intro x hx hxj
   rcases List.mem_append.1 hx with hx|hx
   ·exact(List.nodup_append.1 hnS).2.2 x hx x (by simp [hxj]) rfl
   ·exact(List.nodup_append.1 (List.nodup_append.1 hnS).2.1).2.2 x hxj x hx rfl
  have hgj:g∉Sj:=fun hx=>hng (by simp [hx])
  refine⟨u,Sj,hcu,by simp [World.frozen?,hg],⟨ho,hnd⟩,fun x hx=>by simp [hx],by simp,hgj,fun w' d' hc hO=>⟨?_,hn⟩⟩
  rw [Own]
  have hb:=hback w' d' u Sj Sj hc hdis hO.1
  have hu:us.set j u=us:=by
   apply List.ext_getElem?
   intro i
   rw [List.getElem?_set]
   split
   ·rename_i hij;subst hij
    split
    ·exact e1.symm
    ·rename_i hge;rw [List.getElem?_eq_none (by omega)] at e1;cases e1
   ·rfl
  rw [hu] at hb
  exact .inr ⟨g,cap,cur,e,us,Sa++(Sj++Sb),rfl,h2,h3,(hc.block g (Array.getElem?_eq_some_iff.1 hg).1 hgj).trans hg,by simpa using h4,by simpa using h5,hb,rfl⟩

theorem Has.set_ {w:World} {n g cap:Nat} {cs:List Dat} {S:List Nat} {j:Nat} {x:Value} (h:Has w (.s n cs) (.slice (some ⟨g,0,none⟩) n cap) S) (hj:cs[j]?=some (.v x)) (y:Value):
  w.cell? ⟨g,j,none⟩=some x/\w.frozen? ⟨g,j,none⟩=false/\g∈S/\Has (w.setCell ⟨g,j,none⟩ y) (.s n (cs.set j (.v y))) (.slice (some ⟨g,0,none⟩) n cap) S:=by
 obtain⟨h,hn⟩:=h
 rw [Own] at h
 rcases h with ⟨h0,_⟩|⟨g',cap',cur,e,us,S',h1,h2,h3,hg,h4,h5,hl,rfl⟩
 ·simp at h0
 ·simp only [Value.slice.injEq,Option.some.injEq,Addr.mk.injEq] at h1
  obtain⟨⟨rfl,_⟩,_,rfl⟩:=h1
  obtain⟨u,Sa,Sj,Sb,e1,rfl,ho,hback⟩:=hl.split hj
  obtain⟨hng,hnS⟩:=List.nodup_cons.1 hn
  rw [Own] at ho
  obtain⟨rfl,rfl⟩:=ho
  have hjl:j<cs.length:=by
   rcases Nat.lt_or_ge j cs.length with h|h
   ·exact h
   ·rw [List.getElem?_eq_none h] at hj;cases hj
  have hcu:w.cell? ⟨g,j,none⟩=some u:=by
   rw [cell_of_row w g j cur e (0,0) hg]
   rw [<-h4,List.getElem?_take,if_pos hjl] at e1
   simpa using e1
  have hfr:w.frozen? ⟨g,j,none⟩=false:=by simp [World.frozen?,hg]
  have hchg:Chg [g] w (w.setCell ⟨g,j,none⟩ y):=(Chg.refl _ _).setCell (.inl (by simp)) y
  refine⟨hcu,hfr,by simp,?_,hn⟩
  show Own _ _ _ _
  rw [Own]
  have hb:=hback (w.setCell ⟨g,j,none⟩ y) (.v y) y [] [g] hchg (fun x hx hxg=>by simp at hxg;subst hxg;exact hng (by simpa using hx)) (by rw [Own];exact⟨rfl,rfl⟩)
  refine .inr ⟨g,cap,cur.setIfInBounds j y,e,us.set j y,Sa++([] ++Sb),rfl,h2,h3,by simp [World.setCell,Array.getElem?_modify,hg],?_,by simpa using h5,hb,rfl⟩
  rw [List.length_set, <-h4,Array.toList_setIfInBounds,take_set_of _ _ _ _ hjl]


/-- A cell of an owned slice takes a value with blocks of its own, from elsewhere. -/
theorem Has.put {w:World} {n g cap:Nat} {cs:List Dat} {S S':List Nat} {j:Nat} {d':Dat} {u':Value} (h:Has w (.s n cs) (.slice (some ⟨g,0,none⟩) n cap) S) (hj:j<cs.length)
  (ho:Has w d' u' S') (hd:∀x,x∈S'->x∉S):
  w.frozen? ⟨g,j,none⟩=false/\(∃x,w.cell? ⟨g,j,none⟩=some x)/\g∈S/\
   ∃S'',Has (w.setCell ⟨g,j,none⟩ u') (.s n (cs.set j d')) (.slice (some ⟨g,0,none⟩) n cap) S''/\g∈S''/\(∀x,x∈S''->x∈S∨x∈S'):=by
 obtain⟨h,hn⟩:=h
 rw [Own] at h
 rcases h with ⟨h0,_⟩|⟨g',cap',cur,e,us,S0,h1,h2,h3,hg,h4,h5,hl,rfl⟩
 ·simp at h0
 ·simp only [Value.slice.injEq,Option.some.injEq,Addr.mk.injEq] at h1
  obtain⟨⟨rfl,_⟩,_,rfl⟩:=h1
  obtain⟨u,Sa,Sj,Sb,e1,rfl,hoj,hback⟩:=hl.split (List.getElem?_eq_getElem hj)
  obtain⟨hng,hnS⟩:=List.nodup_cons.1 hn
  have hcu:w.cell? ⟨g,j,none⟩=some u:=by
   rw [cell_of_row w g j cur e (0,0) hg]
   rw [<-h4,List.getElem?_take,if_pos hj] at e1
   simpa using e1
  have hchg:Chg [g] w (w.setCell ⟨g,j,none⟩ u'):=(Chg.refl _ _).setCell (.inl (by simp)) u'
  have hgS':g∉S':=fun hx=>hd g hx (by simp)
  have hO:Own (w.setCell ⟨g,j,none⟩ u') d' u' S':=Own.keep hchg d' u' S' (fun x hx hxg=>by simp at hxg;subst hxg;exact hgS' hx) ho.1
  have hb:=hback (w.setCell ⟨g,j,none⟩ u') d' u' S' [g] hchg (fun x hx hxg=>by
   simp at hxg;subst hxg;apply hng;rcases List.mem_append.1 hx with hx|hx<;>simp [hx]) hO
  refine⟨by simp [World.frozen?,hg],⟨u,hcu⟩,by simp,g::(Sa++(S'++Sb)),⟨?_,?_⟩,by simp,?_⟩
  ·rw [Own]
   refine .inr ⟨g,cap,cur.setIfInBounds j u',e,us.set j u',Sa++(S'++Sb),rfl,h2,h3,by simp [World.setCell,Array.getElem?_modify,hg],?_,by simpa using h5,hb,rfl⟩
   rw [List.length_set, <-h4,Array.toList_setIfInBounds,take_set_of _ _ _ _ hj]
  ·rw [List.nodup_cons]
   obtain⟨n1,n2,n3⟩:=List.nodup_append.1 hnS
   obtain⟨n4,n5,n6⟩:=List.nodup_append.1 n2
   refine⟨fun hx=>?_,List.nodup_append.2 ⟨n1,List.nodup_append.2 ⟨ho.2,n5,fun a ha b hb e=>?_⟩,fun a ha b hb e=>?_⟩⟩
   ·rcases List.mem_append.1 hx with hx|hx
    ·exact hng (by simp [hx])
    ·rcases List.mem_append.1 hx with hx|hx
     ·exact hgS' hx
     ·exact hng (by simp [hx])
   ·subst e;exact hd a ha (by simp [hb])
   ·subst e
    rcases List.mem_append.1 hb with hb|hb
    ·exact hd a hb (by simp [ha])
    ·exact n3 a ha a (by simp [hb]) rfl
  ·intro x hx
   simp only [List.mem_cons,List.mem_append] at hx ⊢
   rcases hx with hx|hx|hx|hx<;>simp [hx]

/-- A cell of an owned slice can be written. -/
theorem Has.room {w:World} {n g cap:Nat} {cs:List Dat} {S:List Nat} (h:Has w (.s n cs) (.slice (some ⟨g,0,none⟩) n cap) S) {j:Nat} (hj:j<cs.length):
  w.frozen? ⟨g,j,none⟩=false/\∃x,w.cell? ⟨g,j,none⟩=some x:=by
 obtain⟨u,Sj,h1,h2,_⟩:=h.at_ (List.getElem?_eq_getElem hj)
 exact⟨h2,u,h1⟩

/-- Several cells in a row are set. -/
def setRow:List Dat->Nat->List Dat->List Dat
 |cs,_,[]=>cs
 |cs,j,d::ds=>setRow (cs.set j d) (j+1) ds
def setCells (w:World) (g:Nat):Nat->List Value->World
 |_,[]=>w
 |j,u::us=>setCells (w.setCell ⟨g,j,none⟩ u) g (j+1) us

theorem setRow_mid:∀(ds xs0 bs cs:List Dat),bs.length=ds.length->setRow (xs0++(bs++cs)) xs0.length ds=xs0++(ds++cs)
 | [],xs0,[],cs,_=>rfl
 |d::ds,xs0,b::bs,cs,h=>by
  rw [setRow]
  have:=setRow_mid ds (xs0++ [d]) bs cs (by simpa using h)
  simpa using this

def HasL (w:World) (ds:List Dat) (us:List Value) (S:List Nat):Prop:=OwnL w ds us S/\S.Nodup

theorem HasL.keep {w w':World} {ds:List Dat} {us:List Value} {S S0:List Nat} (h:HasL w ds us S) (hc:Chg S0 w w') (hS:∀x,x∈S->x∉S0):HasL w' ds us S:=⟨OwnL.keep hc ds us S hS h.1,h.2⟩
theorem HasL.keep0 {w w':World} {ds:List Dat} {us:List Value} {S:List Nat} (h:HasL w ds us S) (hc:Chg [] w w'):HasL w' ds us S:=h.keep hc (by simp)
theorem HasL.lt {w:World} {ds:List Dat} {us:List Value} {S:List Nat} (h:HasL w ds us S):∀x,x∈S->x<w.heap.size:=OwnL.lt ds us S h.1
theorem HasL.nil (w:World):HasL w [] [] []:=⟨by rw [OwnL];exact⟨rfl,rfl⟩,List.nodup_nil⟩
theorem HasL.cons {w:World} {d:Dat} {ds:List Dat} {u:Value} {us:List Value} {S T:List Nat} (h:Has w d u S) (h':HasL w ds us T) (hd:∀x,x∈S->x∉T):HasL w (d::ds) (u::us) (S++T):=
 ⟨by rw [OwnL];exact⟨u,us,S,T,rfl,rfl,h.1,h'.1⟩,List.nodup_append.2 ⟨h.2,h'.2,fun a ha b hb e=>by subst e;exact hd a ha hb⟩⟩
theorem HasL.cons_v {w:World} {x:Value} {ds:List Dat} {us:List Value} {T:List Nat} (h':HasL w ds us T):HasL w (.v x::ds) (x::us) T:=
 HasL.cons (S:=[]) ⟨by rw [Own];exact⟨rfl,rfl⟩,List.nodup_nil⟩ h' (by simp)
theorem HasL.cons_nil {w:World} {ds:List Dat} {us:List Value} {T:List Nat} (h':HasL w ds us T):HasL w (.s 0 [] ::ds) (.slice none 0 0::us) T:=
 HasL.cons (S:=[]) ⟨by rw [Own];exact .inl ⟨rfl,rfl,rfl,rfl⟩,List.nodup_nil⟩ h' (by simp)
theorem HasL.uncons {w:World} {d:Dat} {ds:List Dat} {us:List Value} {S:List Nat} (h:HasL w (d::ds) us S):
  ∃u us' S1 S2,us=u::us'/\S=S1++S2/\Has w d u S1/\HasL w ds us' S2/\∀x,x∈S1->x∉S2:=by
 obtain⟨h,hn⟩:=h
 rw [OwnL] at h
 obtain⟨u,us',S1,S2,rfl,rfl,h1,h2⟩:=h
 obtain⟨n1,n2,n3⟩:=List.nodup_append.1 hn
 exact⟨u,us',S1,S2,rfl,rfl,⟨h1,n1⟩,⟨h2,n2⟩,fun x hx hx'=>n3 x hx x hx' rfl⟩
theorem HasL.uncons_v {w:World} {x:Value} {ds:List Dat} {us:List Value} {S:List Nat} (h:HasL w (.v x::ds) us S):∃us',us=x::us'/\HasL w ds us' S:=by
 obtain⟨u,us',S1,S2,rfl,rfl,h1,h2,_⟩:=h.uncons
 obtain⟨h1,_⟩:=h1
 rw [Own] at h1
 obtain⟨rfl,rfl⟩:=h1
 exact⟨us',rfl,h2⟩
theorem HasL.unnil {w:World} {us:List Value} {S:List Nat} (h:HasL w [] us S):us=[] /\S=[]:=by
 obtain⟨h,_⟩:=h
 rwa [OwnL] at h

theorem Has.putRow {g n cap:Nat}:∀ {us:List Value} {ds:List Dat} {w:World} {cs:List Dat} {S S':List Nat} {j:Nat},
  Has w (.s n cs) (.slice (some ⟨g,0,none⟩) n cap) S->j+ds.length<=cs.length->HasL w ds us S'->(∀x,x∈S'->x∉S)->
  ∃S'',Has (setCells w g j us) (.s n (setRow cs j ds)) (.slice (some ⟨g,0,none⟩) n cap) S''/\(∀x,x∈S''->x∈S∨x∈S')/\g∈S/\Chg [g] w (setCells w g j us)
 | us,[],w,cs,S,S',j,h,_,hl,_=>by
  obtain⟨rfl,rfl⟩:=hl.unnil
  rcases h.cases_ with h0|⟨g',cap',S1,h0,_,_,rfl,_⟩
  ·simp at h0
  ·simp only [Value.slice.injEq,Option.some.injEq,Addr.mk.injEq] at h0
   obtain⟨⟨rfl,_⟩,_,rfl⟩:=h0
   exact⟨_,h,fun x hx=>.inl hx,by simp,Chg.refl _ _⟩
 | us,d::ds,w,cs,S,S',j,h,hj,hl,hd=>by
  obtain⟨u,us',S1,S2,rfl,rfl,h1,h2,hdis⟩:=hl.uncons
  simp only [List.length_cons] at hj
  obtain⟨_,_,hgS,T,hT,hgT,hTs⟩:=h.put (j:=j) (by omega) h1 (fun x hx=>hd x (by simp [hx]))
  have hchg:Chg [g] w (w.setCell ⟨g,j,none⟩ u):=(Chg.refl _ _).setCell (.inl (by simp)) u
  have hg2:g∉S2:=fun hx=>hd g (by simp [hx]) hgS
  have hl2:HasL (w.setCell ⟨g,j,none⟩ u) ds us' S2:=h2.keep hchg (fun x hx hxg=>by simp at hxg;subst hxg;exact hg2 hx)
  obtain⟨T2,hT2,hT2s,_,hc2⟩:=Has.putRow hT (j:=j+1) (by simp;omega) hl2 (fun x hx hxT=>by
   rcases hTs x hxT with h3|h3
   ·exact hd x (by simp [hx]) h3
   ·exact hdis x h3 hx)
  refine⟨T2,hT2,fun x hx=>?_,hgS,hchg.trans hc2 (fun x hx=>.inl hx)⟩
  rcases hT2s x hx with h3|h3
  ·rcases hTs x h3 with h4|h4
   ·exact .inl h4
   ·exact .inr (by simp [h4])
  ·exact .inr (by simp [h3])

theorem OwnL.plain (w:World):∀zs:List Value,OwnL w (zs.map .v) zs []
 | []=>by rw [List.map_nil,OwnL];exact⟨rfl,rfl⟩
 |z::zs=>by rw [List.map_cons,OwnL];exact⟨z,zs,[],[],rfl,rfl,by rw [Own];exact⟨rfl,rfl⟩,OwnL.plain w zs⟩
/-- The cells of a slice of which the first k elements are filled. -/
def filled {α:Type} (F:α->List Dat) (Z:List Dat) (l:List α) (k:Nat):List Dat:=(l.take k).flatMap F++(List.replicate (l.length-k) Z).flatten

theorem flatMap_length_of {α:Type} {F:α->List Dat} {c:Nat} (hF:∀a,(F a).length=c):∀l:List α,(l.flatMap F).length=l.length * c
 | []=>by simp
 |a::l=>by rw [List.flatMap_cons,List.length_append,flatMap_length_of hF l,hF a,List.length_cons,Nat.succ_mul,Nat.add_comm]
/-- One element's cells among all. -/
theorem flatMap_at {α:Type} {F:α->List Dat} {c:Nat} (hF:∀a,(F a).length=c):∀(l:List α) (i j:Nat) (hi:i<l.length),j<c->(l.flatMap F)[i * c+j]?=(F l[i])[j]?
 |a::l,0,j,_,hj=>by rw [List.flatMap_cons,Nat.zero_mul,Nat.zero_add,List.getElem?_append_left (by rw [hF];exact hj)];rfl
 |a::l,i+1,j,hi,hj=>by
  rw [List.flatMap_cons,List.getElem?_append_right (by rw [hF,Nat.succ_mul];omega),hF,show(i+1) * c+j-c=i * c+j from by rw [Nat.succ_mul];omega]
  exact flatMap_at hF l i j (by simpa using hi) hj


/-- A slice of elements that are typed data: each element's cells, and what they read as. -/
def RowAt {α:Type} (w:World) (B:Nat) (F:α->List Dat) (c:Nat) (l:List α) (A:Option Addr):Prop:=
 ∀(k:Nat) (h:k<l.length),∃b off,A=some ⟨b,off,none⟩/\b<B/\∀j d,(F l[k])[j]?=some d->∃u,w.cell? ⟨b,off+k * c+j,none⟩=some u/\Rd w B d u

theorem Rd.row {α:Type} {w:World} {B c:Nat} {F:α->List Dat} (hF:∀a,(F a).length=c) (hc:0<c) {l:List α} {u:Value} (h:Rd w B (.s l.length (l.flatMap F)) u):
  ∃A cap,u= .slice A l.length cap/\l.length<=cap/\cap<=maxLen/\RowAt w B F c l A:=by
 obtain⟨A,cap,rfl,h0,h1,h2⟩:=h.at_
 refine⟨A,cap,rfl,h0,h1,fun k hk=>?_⟩
 have hlen:=flatMap_length_of hF l
 have hpos:0<l.length * c:=Nat.mul_pos (by omega) hc
 obtain⟨b,off,rfl,hb,hx⟩:=h2 (fun e=>by rw [e] at hlen;simp at hlen;omega)
 refine⟨b,off,rfl,hb,fun j d hj=>?_⟩
 have hjc:j<c:=by
  rcases Nat.lt_or_ge j c with h|h
  ·exact h
  ·rw [List.getElem?_eq_none (by rw [hF];exact h)] at hj;cases hj
 rw [Nat.add_assoc]
 exact hx (k * c+j) d (by rw [flatMap_at hF l k j hk hjc];exact hj)

theorem RowAt.below {α:Type} {w w':World} {B c:Nat} {F:α->List Dat} {l:List α} {A:Option Addr} (h:RowAt w B F c l A) (hb:Below B w w'):RowAt w' B F c l A:=by
 intro k hk
 obtain⟨b,off,e,h1,h2⟩:=h k hk
 refine⟨b,off,e,h1,fun j d hj=>?_⟩
 obtain⟨u,hu,hd⟩:=h2 j d hj
 exact⟨u,(hb.cell (p:=⟨b,_,none⟩) h1).trans hu,hd.below hb⟩
theorem RowAt.chg {α:Type} {w w':World} {B c:Nat} {F:α->List Dat} {l:List α} {A:Option Addr} {S:List Nat} (h:RowAt w B F c l A) (hc:Chg S w w') (hB:B<=w.heap.size) (hS:∀x,x∈S->B<=x):RowAt w' B F c l A:=
 h.below (hc.below hS hB)
theorem RowAt.chg0 {α:Type} {w w':World} {B c:Nat} {F:α->List Dat} {l:List α} {A:Option Addr} (h:RowAt w B F c l A) (hc:Chg [] w w') (hB:B<=w.heap.size):RowAt w' B F c l A:=h.chg hc hB (by simp)


/-- A datum in new memory: since the world w nothing that was there has turned, and the value u owns the datum through blocks that were not there. -/
def New (w w':World) (d:Dat) (u:Value):Prop:=∃S,Has w' d u S/\(∀x,x∈S->w.heap.size<=x)/\Chg [] w w'
/-- The call gives a new datum. -/
def Gives (d:Dat) (w:World) (e:Ending) (w':World):Prop:=∃u,e= .returned u/\New w w' d u
/-- .. a struct of new cells. -/
def NewL (w w':World) (ds:List Dat) (us:List Value):Prop:=∃S,HasL w' ds us S/\(∀x,x∈S->w.heap.size<=x)/\Chg [] w w'

theorem New.chg {w w':World} {d:Dat} {u:Value} (h:New w w' d u):Chg [] w w':=h.elim fun _ x=>x.2.2
theorem NewL.chg {w w':World} {ds:List Dat} {us:List Value} (h:NewL w w' ds us):Chg [] w w':=h.elim fun _ x=>x.2.2
theorem New.rd {w w':World} {d:Dat} {u:Value} (h:New w w' d u):Rd w' w'.heap.size d u:=h.elim fun _ x=>x.1.rd
theorem New.later {w w' w2:World} {d:Dat} {u:Value} (h:New w w' d u) (hc:Chg [] w' w2):New w w2 d u:=
 h.elim fun S x=>⟨S,x.1.keep0 hc,x.2.1,x.2.2.trans0 hc⟩
theorem NewL.later {w w' w2:World} {ds:List Dat} {us:List Value} (h:NewL w w' ds us) (hc:Chg [] w' w2):NewL w w2 ds us:=
 h.elim fun S x=>⟨S,x.1.keep0 hc,x.2.1,x.2.2.trans0 hc⟩
theorem NewL.sooner {w0 w w':World} {ds:List Dat} {us:List Value} (h:NewL w w' ds us) (hc:Chg [] w0 w):NewL w0 w' ds us:=
 h.elim fun S x=>⟨S,x.1,fun y hy=>Nat.le_trans hc.size (x.2.1 y hy),hc.trans0 x.2.2⟩

/-- Old cells and old marks read as before. -/
theorem Chg.cells {a b:World} (h:Chg [] a b):(∀x o,x<a.heap.size->b.cell? ⟨x,o,none⟩=a.cell? ⟨x,o,none⟩)/\(∀x o,x<a.heap.size->b.frozen? ⟨x,o,none⟩=a.frozen? ⟨x,o,none⟩)/\a.heap.size<=b.heap.size:=
 ⟨fun x o hx=>h.cell (p:=⟨x,o,none⟩) hx (by simp),fun x o hx=>h.frozen (p:=⟨x,o,none⟩) hx (by simp),h.size⟩


/-- A slice given: what its value looks like. -/
theorem Gives.sl {n:Nat} {cs:List Dat} {w w':World} {e:Ending} (h:Gives (.s n cs) w e w'):∃A cap,e= .returned (.slice A n cap)/\New w w' (.s n cs) (.slice A n cap):=by
 obtain⟨u,rfl,S,h1,h2,h3⟩:=h
 rcases h1.cases_ with ⟨rfl,rfl,_⟩|⟨g,cap,S',rfl,_⟩
 ·exact⟨none,0,rfl,S,h1,h2,h3⟩
 ·exact⟨_,cap,rfl,S,h1,h2,h3⟩


/-- .. while some boxes of the call's own (T) are written. -/
def NewT (T:List Nat) (w w':World) (ds:List Dat) (us:List Value):Prop:=∃S,HasL w' ds us S/\(∀x,x∈S->w.heap.size<=x)/\Chg T w w'
theorem NewT.nil {T:List Nat} {w w':World} (h:Chg T w w'):NewT T w w' [] []:=⟨[],HasL.nil _,by simp,h⟩
theorem NewT.cons_v {T:List Nat} {w w':World} {x:Value} {ds:List Dat} {us:List Value} (h:NewT T w w' ds us):NewT T w w' (.v x::ds) (x::us):=h.elim fun S k=>⟨S,HasL.cons_v k.1,k.2⟩
theorem NewT.cons_new {T:List Nat} {w wa w2 wb w':World} {d:Dat} {u:Value} {ds:List Dat} {us:List Value} (hA:New wa w2 d u) (hT:∀x,x∈T->x<wa.heap.size) (h1:Chg T w wa) (h2:Chg T w2 wb) (hr:NewT T wb w' ds us):
  NewT T w w' (d::ds) (u::us):=by
 obtain⟨S,a1,a2,a3⟩:=hA
 obtain⟨U,b1,b2,b3⟩:=hr
 have h4:Chg T w2 w':=h2.trans b3 (fun x hx=>.inl hx)
 refine⟨S++U,HasL.cons (a1.keep h4 (fun x hx hxT=>by have:=a2 x hx;have:=hT x hxT;omega)) b1 (fun x hx hxU=>?_),fun x hx=>?_,(h1.trans0 a3).trans h4 (fun x hx=>.inl hx)⟩
 ·have:=a1.lt x hx;have:=b2 x hxU;have:=h2.size;omega
 ·rcases List.mem_append.1 hx with hx|hx
  ·exact Nat.le_trans h1.size (a2 x hx)
  ·have:=b2 x hx;have:=h1.size;have:=a3.size;have:=h2.size;omega
theorem NewT.done {T:List Nat} {w w0 w':World} {ds:List Dat} {us:List Value} (h:NewT T w0 w' ds us) (hT:∀x,x∈T->w.heap.size<=x) (h0:Chg [] w w0):NewL w w' ds us:=by
 obtain⟨S,h1,h2,h3⟩:=h
 exact⟨S,h1,fun x hx=>Nat.le_trans h0.size (h2 x hx),h0.trans h3 (fun x hx=>.inr (hT x hx))⟩


theorem NewL.nil {w w':World} (h:Chg [] w w'):NewL w w' [] []:=⟨[],HasL.nil _,by simp,h⟩
theorem NewL.cons_v {w w':World} {x:Value} {ds:List Dat} {us:List Value} (h:NewL w w' ds us):NewL w w' (.v x::ds) (x::us):=h.elim fun S k=>⟨S,HasL.cons_v k.1,k.2⟩
theorem NewT.start {T:List Nat} {w w':World} {ds:List Dat} {us:List Value} (h:NewT T w w' ds us) (hT:∀x,x∈T->w.heap.size<=x):NewL w w' ds us:=h.done hT (Chg.refl _ _)
theorem HasL.append {w:World} {ds ds':List Dat} {us us':List Value} {S S':List Nat} (h:HasL w ds us S) (h':HasL w ds' us' S') (hd:∀x,x∈S->x∉S'):HasL w (ds++ds') (us++us') (S++S'):=
 ⟨OwnL.append h.1 h'.1,List.nodup_append.2 ⟨h.2,h'.2,fun a ha b hb e=>by subst e;exact hd a ha hb⟩⟩
theorem NewT.app_new {T:List Nat} {w wa w2 wb w':World} {ds ds':List Dat} {us us':List Value} (hA:NewL wa w2 ds us) (hT:∀x,x∈T->x<wa.heap.size) (h1:Chg T w wa) (h2:Chg T w2 wb) (hr:NewT T wb w' ds' us'):
  NewT T w w' (ds++ds') (us++us'):=by
 obtain⟨S,a1,a2,a3⟩:=hA
 obtain⟨U,b1,b2,b3⟩:=hr
 have h4:Chg T w2 w':=h2.trans b3 (fun x hx=>.inl hx)
 refine⟨S++U,HasL.append (a1.keep h4 (fun x hx hxT=>by have:=a2 x hx;have:=hT x hxT;omega)) b1 (fun x hx hxU=>?_),fun x hx=>?_,(h1.trans0 a3).trans h4 (fun x hx=>.inl hx)⟩
 ·have:=a1.lt x hx;have:=b2 x hxU;have:=h2.size;omega
 ·rcases List.mem_append.1 hx with hx|hx
  ·exact Nat.le_trans h1.size (a2 x hx)
  ·have:=b2 x hx;have:=h1.size;have:=a3.size;have:=h2.size;omega
theorem NewT.last_new {T:List Nat} {w wa w2 w':World} {ds:List Dat} {us:List Value} (hA:NewL wa w2 ds us) (hT:∀x,x∈T->x<wa.heap.size) (h1:Chg T w wa) (h2:Chg T w2 w'):NewT T w w' ds us:=by
 have:=NewT.app_new hA hT h1 (Chg.refl T w2) (NewT.nil h2)
 simpa using this

def intC (x:Int):List Dat:=[.v (.int .i64 x)]
def ints (l:List Int):Dat:=.s l.length (l.flatMap intC)
theorem intC_len (x:Int):(intC x).length=1:=rfl
theorem int_info:(Tryz.prog.info? 3).map (fun i=>(i.zero,i.size,i.bytes))=some (some (.int .i64 0),1,8):=by kernel_rfl

theorem ints_row {w:World} {B:Nat} {l:List Int} {u:Value} (h:Rd w B (ints l) u):∃A cap,u= .slice A l.length cap/\l.length<=cap/\cap<=maxLen/\RowAt w B intC 1 l A:=h.row intC_len (by omega)
theorem ints_cell {w:World} {B:Nat} {l:List Int} {A:Option Addr} (h:RowAt w B intC 1 l A) (k:Nat) (hk:k<l.length):∃b off,A=some ⟨b,off,none⟩/\b<B/\w.cell? ⟨b,off+k,none⟩=some (.int .i64 l[k]):=by
 obtain⟨b,off,rfl,hb,hx⟩:=h k hk
 obtain⟨u,hu,hd⟩:=hx 0 _ rfl
 rw [Rd] at hd
 subst hd
 exact⟨b,off,rfl,hb,by simpa using hu⟩



theorem ret_int {k:IntKind} {a b:Int} (h:a=b):Ending.returned (.int k a)= .returned (.int k b):=by rw [h]
/-- The first difference decides. -/
def cmpL:List Int->List Int->Int
 |a::l,b::m=>if a<b then -1 else if b<a then 1 else cmpL l m
 |_,_=>0
def cmpI (l m:List Int):Int:=if l.length<m.length then -1 else if m.length<l.length then 1 else cmpL l m


end Go.Proofs.YtdlkbomojjmnlaaGreatDoor
namespace Go.Proofs.YtdlkbomojjmnlaaGreatDoor
open Go.ChangeShapes Go.WideShapes Go.RowKit Go.Deep

/-- What fits its kind. -/
def FitV:Value->Prop
 | .int .i64 n=> -9223372036854775808<=n/\n<=9223372036854775807
 | .string s=>s.size<=9223372036854775807
 |_=>True
mutual
def FitD:Dat->Prop
 | .v x=>FitV x
 | .s n cs=>n<=9223372036854775807/\FitL cs
def FitL:List Dat->Prop
 | []=>True
 |d::ds=>FitD d/\FitL ds
end
theorem FitL_iff:∀ {ds:List Dat},FitL ds↔ ∀d∈ds,FitD d
 | []=>by simp [FitL]
 |d::ds=>by rw [FitL,FitL_iff (ds:=ds)];simp
theorem FitL_append {xs0 bs:List Dat}:FitL (xs0++bs)↔FitL xs0/\FitL bs:=by
 simp only [FitL_iff,List.mem_append]
 exact⟨fun h=>⟨fun d hd=>h d (.inl hd),fun d hd=>h d (.inr hd)⟩,fun h d hd=>hd.elim (h.1 d) (h.2 d)⟩
theorem FitL_flatMap {α:Type} {F:α->List Dat} {l:List α}:FitL (l.flatMap F)↔ ∀a∈l,FitL (F a):=by
 simp only [FitL_iff,List.mem_flatMap]
 exact⟨fun h a ha d hd=>h d ⟨a,ha,hd⟩,fun h d ⟨a,ha,hd⟩=>h a ha d hd⟩

/-- Cells that stand as values. -/
def RdV (w:World) (ds:List Dat) (cs:List Value):Prop:=cs.length=ds.length/\∀(j:Nat) (d:Dat),ds[j]?=some d->∃u,cs[j]?=some u/\Rd w w.heap.size d u

theorem RdV.one {w:World} {d:Dat} {u:Value} (h:Rd w w.heap.size d u):RdV w [d] [u]:=
 ⟨rfl,fun j x hx=>by
  match j,hx with
  |0,hx=>simp at hx;subst hx;exact⟨u,rfl,h⟩⟩
theorem RdV.one_inv {w:World} {d:Dat} {cs:List Value} (h:RdV w [d] cs):∃u,cs=[u] /\Rd w w.heap.size d u:=by
 obtain⟨h1,h2⟩:=h
 match cs,h1 with
 | [u],_=>
  obtain⟨u',hu,hd⟩:=h2 0 d rfl
  simp at hu;subst hu
  exact⟨_,rfl,hd⟩
/-- Readings of type t by at most N steps give data of the form F, which fit. -/
def Opens {α:Type} (P:Program) (N:Nat) (t:TypeId) (F:α->List Dat):Prop:=
 ∀ {H:Type} (enc:TypeId×Value->H) (w:World) (n:Nat) (cs:List Value) (x:DataW H×List MemPlace),n<=N->DataW.trod enc P w 0 (fun _=>true) true n t cs=some x->∃a,FitL (F a)/\RdV w (F a) cs

def intF (n:Int):List Dat:=[.v (.int .i64 n)]
def listF {α:Type} (F:α->List Dat) (l:List α):List Dat:=[.s l.length (l.flatMap F)]

theorem Opens.int {P:Program} {N:Nat} {t:TypeId} (ht:P.underlying t=some (.int .i64)):Opens P N t intF:=by
 intro H enc w n cs x _ h
 obtain⟨m,rfl,_,hw⟩:=DataW.trod_int ht h
 refine⟨m,?_,RdV.one (by rw [Rd])⟩
 have hw':=bounds_i64 hw
 simp only [intF,FitL,FitD,FitV,and_true]
 omega
theorem Opens.mono {α:Type} {P:Program} {N M:Nat} {t:TypeId} {F:α->List Dat} (h:Opens P N t F) (hm:M<=N):Opens P M t F:=fun enc w n cs x hn hx=>h enc w n cs x (by omega) hx
theorem Opens.slice {α:Type} {P:Program} {N c:Nat} {t e:TypeId} {F:α->List Dat} (ht:P.underlying t=some (.slice e)) (hc:P.cellsOf e=c) (hpos:0<c) (hF:∀a,(F a).length=c) (h:Opens P N e F):Opens P (N+1) t (listF F):=by
 intro H enc w n cs x hn hx
 rcases DataW.trod_slice ht hx with ⟨rfl,_⟩|⟨a,len,cap,elems,rest,m,hm,rfl,_,_,hl,hcap,hlen,hel,_,_⟩
 ·refine⟨[],by simp [listF,FitL,FitD],RdV.one ?_⟩
  rw [Rd]
  exact⟨none,0,rfl,Nat.le_refl _,by simp [maxLen],.inl rfl⟩
 ·have each:∀i,i<len->∃b:α,FitL (F b)/\∃cs',w.cells? 0 (a.add (i * c)) c=some cs'/\RdV w (F b) cs':=by
   intro i hi
   have hb:=hel i hi
   rw [List.getElem?_eq_getElem (by omega),Option.bind_eq_some_iff] at hb
   obtain⟨cs',h1,h2⟩:=hb
   obtain⟨b,h3,h4⟩:=h enc w m cs' _ (by omega) h2
   rw [hc] at h1
   exact⟨b,h3,cs',h1,h4⟩
  have build:∀k,k<=len->∃l:List α,l.length=k/\(∀i (hi:i<l.length),FitL (F l[i])/\∃cs',w.cells? 0 (a.add (i * c)) c=some cs'/\RdV w (F l[i]) cs'):=by
   intro k
   induction k with
   |zero=>exact fun _=>⟨[],rfl,fun i hi=>by simp at hi⟩
   | succ k ih=>
    intro hk
    obtain⟨l,hl1,hl2⟩:=ih (by omega)
    obtain⟨b,hb1,hb2⟩:=each k (by omega)
    refine⟨l++ [b],by simp [hl1],fun i hi=>?_⟩
    by_cases hik:i<l.length
    ·rw [List.getElem_append_left hik];exact hl2 i hik
    ·have:i=l.length:=by simp at hi;omega
     subst this
     rw [List.getElem_concat_length (by rfl),hl1]
     exact⟨hb1,hb2⟩
  obtain⟨l,hl1,hl2⟩:=build len (Nat.le_refl _)
  have hfit:FitL (listF F l):=by
   simp only [listF,FitL,FitD,and_true]
   refine⟨by unfold maxLen at hcap;omega,FitL_flatMap.2 fun b hb=>?_⟩
   obtain⟨i,hi,rfl⟩:=List.getElem_of_mem hb
   exact(hl2 i hi).1
  refine⟨l,hfit,RdV.one ?_⟩
  rw [Rd,hl1]
  refine⟨some a,cap,rfl,hl,hcap,?_⟩
  rcases Nat.eq_zero_or_pos len with h0|h0
  ·left
   have:l=[]:=List.eq_nil_of_length_eq_zero (by omega)
   subst this;rfl
  ·right
   have hcell0:∀i (hi:i<l.length) j,j<c->∃u,w.cell? ((a.add (i * c)).add j)=some u:=by
    intro i hi j hj
    obtain⟨_,cs',h1,h2⟩:=hl2 i hi
    obtain⟨_,h4,h5⟩:=World.cells?_some h1
    exact⟨cs'[j]'(by omega),by rw [h5 j hj,List.getElem?_eq_getElem]⟩
   have hsp:a.spot=none:=by
    obtain⟨u,hu⟩:=hcell0 0 (by omega) 0 (by omega)
    have:=World.cell?_spot hu
    simpa [Addr.add] using this
   obtain⟨b,off,spot⟩:=a
   simp at hsp;subst hsp
   have hbl:b<w.heap.size:=by
    obtain⟨u,hu⟩:=hcell0 0 (by omega) 0 (by omega)
    have:=World.block_lt_of_cell? w _ hu
    simpa [Addr.add] using this
   refine⟨b,off,rfl,hbl,RdL_iff.2 fun j d hj=>?_⟩
   have hjl:j<(l.flatMap F).length:=by
    rcases Nat.lt_or_ge j (l.flatMap F).length with h|h
    ·exact h
    ·rw [List.getElem?_eq_none h] at hj;cases hj
   rw [flatMap_length_of hF] at hjl
   have hq:j / c<l.length:=by rw [Nat.div_lt_iff_lt_mul hpos];exact hjl
   have hr:j % c<c:=Nat.mod_lt _ hpos
   have hjj:j / c * c+j % c=j:=by rw [Nat.mul_comm];exact Nat.div_add_mod j c
   have hat:=flatMap_at hF l (j / c) (j % c) hq hr
   rw [hjj,hj] at hat
   obtain⟨_,cs',h1,h2⟩:=hl2 (j / c) hq
   obtain⟨_,_,h5⟩:=World.cells?_some h1
   obtain⟨u,hu,hd⟩:=h2.2 (j % c) d hat.symm
   refine⟨u,?_,hd⟩
   have:=h5 (j % c) hr
   rw [hu,add_plain,add_plain,Nat.add_assoc,hjj] at this
   exact this

/-- An argument that is one cell, read. -/
theorem Opens.arg {H:Type} {enc:TypeId×Value->H} {α:Type} {P:Program} {t e:TypeId} {F:α->List Dat} (hO:∀N,Opens P N t (listF F)) (ht:P.underlying t=some (.slice e)) {W:World} {r:Reach} {b0:Nat} {v:Value} {d:DataW H} {ps:List MemPlace}
  (hv:Value.okWide P W r b0 t v) (h:DataW.Trod enc P W 0 (fun _=>true) true t v d ps):∃l:List α,FitL (listF F l)/\Rd W W.heap.size (.s l.length (l.flatMap F)) v:=by
 obtain⟨a,len,cap,rfl⟩:=okWide_slice ht hv
 obtain⟨n,hn⟩:=h
 obtain⟨l,h1,h2⟩:=hO n enc W n _ _ (Nat.le_refl _) hn
 obtain⟨u,hu,hd⟩:=RdV.one_inv h2
 simp [Value.cells] at hu
 subst hu
 exact⟨l,h1,hd⟩

end Go.Proofs.YtdlkbomojjmnlaaGreatDoor
namespace Go.Proofs.YtdlkbomojjmnlaaGreatDoor
open Go.RowKit

/-- The digits in front of a text. -/
def mtL:Nat->Int->ByteArray->ByteArray
 |0,_,s=>s
 |f+1,n,s=>if 0<n then mtL f (n / 10) (strOfNums [48+n % 10] ++s) else s
/-- The text of a number. -/
def mt (k:Int):ByteArray:=if k<=0 then⟨#[109,48]⟩ else⟨#[109]⟩++mtL k.toNat k ⟨#[]⟩


theorem sum_mem {α:Type} {l:List α} {a:α} (f:α->Nat) (h:a∈l):f a<=(l.map f).sum:=by
 induction l with
 |nil=>cases h
 |cons b l ih=>
  rw [List.map_cons,List.sum_cons]
  rcases List.mem_cons.1 h with rfl|h
  ·omega
  ·have:=ih h;omega
theorem sum_append {α:Type} (f:α->Nat) (l m:List α):((l++m).map f).sum=(l.map f).sum+(m.map f).sum:=by simp
theorem sum_take {α:Type} (f:α->Nat) (l:List α) (k:Nat) (h:k<l.length):((l.take (k+1)).map f).sum=((l.take k).map f).sum+f l[k]:=by
 rw [List.take_succ_eq_append_getElem h,sum_append];simp
theorem sum_le {α:Type} (f:α->Nat) (l:List α) (k:Nat):((l.take k).map f).sum<=(l.map f).sum:=by
 have:=sum_append f (l.take k) (l.drop k)
 rw [List.take_append_drop] at this
 omega
section
variable {α:Type} {M:α->Int->α} {N:α->Nat}
variable {F:α->List Dat}
end
/-- The slice that is marked is one of its own. -/
theorem Has.own {w:World} {n:Nat} {cs:List Dat} {A:Option Addr} {cap:Nat} {S:List Nat} (h:Has w (.s n cs) (.slice A n cap) S) (hn:0<n):∃g,A=some ⟨g,0,none⟩/\g∈S:=by
 rcases h.cases_ with ⟨_,h2,_⟩|⟨g,cap',S',hu,_,_,rfl,_⟩
 ·omega
 ·simp only [Value.slice.injEq] at hu
  exact⟨g,hu.1,by simp⟩

def strC (s:ByteArray):List Dat:=[.v (.string s)]
def strs (l:List ByteArray):Dat:=.s l.length (l.flatMap strC)
theorem strC_len (s:ByteArray):(strC s).length=1:=rfl
theorem strs_row {w:World} {B:Nat} {l:List ByteArray} {u:Value} (h:Rd w B (strs l) u):∃A cap,u= .slice A l.length cap/\l.length<=cap/\cap<=maxLen/\RowAt w B strC 1 l A:=h.row strC_len (by omega)
theorem strs_cells {w:World} {B:Nat} {l:List ByteArray} {A:Option Addr} (h:RowAt w B strC 1 l A) (k:Nat) (hk:k<l.length):∃b off,A=some ⟨b,off,none⟩/\b<B/\w.cell? ⟨b,off+k,none⟩=some (.string l[k]):=by
 obtain⟨b,off,rfl,hb,hx⟩:=h k hk
 obtain⟨u,hu,hd⟩:=hx 0 _ rfl
 rw [Rd] at hd
 subst hd
 exact⟨b,off,rfl,hb,by simpa using hu⟩
def strsW1 (l:List ByteArray):Nat:=(l.map ByteArray.size).sum
def strsW (l:List ByteArray):Nat:=l.length+strsW1 l
theorem string_info:(Tryz.prog.info? 9).map (fun i=>(i.zero,i.size,i.bytes))=some (some (.string ⟨#[]⟩),1,16):=by kernel_rfl


end Go.Proofs.YtdlkbomojjmnlaaGreatDoor
