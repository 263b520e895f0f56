/- Memory that reads as plain data. Conditions: as stated. -/
import Derived.Test.YtfjhdnjlhjimeaaGreatDoorRows
import Derived.Below
import Derived.OneCell
import Derived.Deep.Draws
import Derived.Laws.MakeOwn
import Derived.Laws.Entries
import Derived.WalkKit
import Derived.WalkSpells
import Derived.WalkLawsBesides
import Derived.Lib.Hide
import Derived.Deep.LoopGhost
import Derived.Deep.OwnRows
import Derived.BigQuiet
import Derived.Deep.QuietTactic
import Derived.ProofKit
import Derived.Deep.Slices
import Derived.OpenShut
import Derived.Laws.BytesArg
import Derived.StillTailTactics
set_option maxRecDepth 100000
set_option maxHeartbeats 400000
namespace Go.Proofs.YtfjhdnjlhjimeaaGreatDoor
open Go.RowKit
theorem F5:type_of% @Array.getElem?_eq_some_iff:=@Array.getElem?_eq_some_iff
theorem T6:type_of% @Array.getElem?_toList:=@Array.getElem?_toList
theorem U5:type_of% @Array.length_toList:=@Array.length_toList
theorem Q2:type_of% @Array.toList_inj:=@Array.toList_inj
theorem T0:type_of% @Bool.and_eq_true:=@Bool.and_eq_true
theorem Q9:type_of% @ByteArray.data_append:=@ByteArray.data_append
theorem O5:type_of% @ByteArray.ext:=@ByteArray.ext
theorem M3:type_of% @ByteArray.size_append:=@ByteArray.size_append
theorem i7:type_of% @Iff.rfl:=@Iff.rfl
theorem Y4:type_of% @Int.toNat_of_nonneg:=@Int.toNat_of_nonneg
theorem g7:type_of% @List.all_eq_true:=@List.all_eq_true
theorem U2:type_of% @List.append_assoc:=@List.append_assoc
theorem M2:type_of% @List.cons_append:=@List.cons_append
theorem N6:type_of% @List.drop_eq_getElem_cons:=@List.drop_eq_getElem_cons
theorem I6:type_of% @List.eq_nil_of_length_eq_zero:=@List.eq_nil_of_length_eq_zero
theorem i8:type_of% @List.ext_getElem?:=@List.ext_getElem?
theorem J0:type_of% @List.flatMap_append:=@List.flatMap_append
theorem J6:type_of% @List.flatMap_cons:=@List.flatMap_cons
theorem F8:type_of% @List.getElem?_eq_getElem:=@List.getElem?_eq_getElem
theorem L2:type_of% @List.getElem?_eq_none:=@List.getElem?_eq_none
theorem N9:type_of% @List.getElem?_eq_some_iff:=@List.getElem?_eq_some_iff
theorem R0:type_of% @List.getElem?_map:=@List.getElem?_map
theorem O8:type_of% @List.getElem?_set:=@List.getElem?_set
theorem R8:type_of% @List.getElem?_take:=@List.getElem?_take
theorem Q7:type_of% @List.getElem_append_left:=@List.getElem_append_left
theorem S6:type_of% @List.getElem_cons_zero:=@List.getElem_cons_zero
theorem I4:type_of% @List.getElem_mem:=@List.getElem_mem
theorem M0:type_of% @List.getElem_of_mem:=@List.getElem_of_mem
theorem T4:type_of% @List.getElem_set:=@List.getElem_set
theorem I0:type_of% @List.length_append:=@List.length_append
theorem I1:type_of% @List.length_cons:=@List.length_cons
theorem S7:type_of% @List.length_drop:=@List.length_drop
theorem J8:type_of% @List.length_map:=@List.length_map
theorem U7:type_of% @List.length_nil:=@List.length_nil
theorem Q1:type_of% @List.length_set:=@List.length_set
theorem J7:type_of% @List.length_take:=@List.length_take
theorem J2:type_of% @List.map_append:=@List.map_append
theorem I9:type_of% @List.map_cons:=@List.map_cons
theorem O2:type_of% @List.map_nil:=@List.map_nil
theorem F4:type_of% @List.mem_append:=@List.mem_append
theorem V0:type_of% @List.mem_append_right:=@List.mem_append_right
theorem C7:type_of% @List.mem_cons:=@List.mem_cons
theorem I5:type_of% @List.mem_cons_of_mem:=@List.mem_cons_of_mem
theorem K0:type_of% @List.mem_cons_self:=@List.mem_cons_self
theorem Y7:type_of% @List.mem_flatMap:=@List.mem_flatMap
theorem L7:type_of% @List.mem_map:=@List.mem_map
theorem U0:type_of% @List.mem_of_getElem?:=@List.mem_of_getElem?
theorem E0:type_of% @List.mem_singleton:=@List.mem_singleton
theorem J9:type_of% @List.nil_append:=@List.nil_append
theorem L1:type_of% @List.nodup_append:=@List.nodup_append
theorem U6:type_of% @List.nodup_cons:=@List.nodup_cons
theorem O9:type_of% @List.nodup_nil:=@List.nodup_nil
theorem J4:type_of% @List.not_mem_cons_of_ne_of_not_mem:=@List.not_mem_cons_of_ne_of_not_mem
theorem F1:type_of% @List.not_mem_nil:=@List.not_mem_nil
theorem V1:type_of% @List.pairwise_cons:=@List.pairwise_cons
theorem U9:type_of% @List.pairwise_iff_getElem:=@List.pairwise_iff_getElem
theorem D0:type_of% @List.setIfInBounds_toArray:=@List.setIfInBounds_toArray
theorem C9:type_of% @List.set_cons_succ:=@List.set_cons_succ
theorem C8:type_of% @List.set_cons_zero:=@List.set_cons_zero
theorem V8:type_of% @List.sum_cons:=@List.sum_cons
theorem T7:type_of% @List.take_append_drop:=@List.take_append_drop
theorem I8:type_of% @List.take_length:=@List.take_length
theorem U1:type_of% @List.take_of_length_le:=@List.take_of_length_le
theorem Y0:type_of% @List.take_succ_cons:=@List.take_succ_cons
theorem G6:type_of% @List.take_succ_eq_append_getElem:=@List.take_succ_eq_append_getElem
theorem T9:type_of% @List.take_zero:=@List.take_zero
theorem O4:type_of% @Nat.add_assoc:=@Nat.add_assoc
theorem L3:type_of% @Nat.add_zero:=@Nat.add_zero
theorem F0:type_of% @Nat.le_refl:=@Nat.le_refl
theorem G5:type_of% @Nat.le_trans:=@Nat.le_trans
theorem i9:type_of% @Nat.lt_irrefl:=@Nat.lt_irrefl
theorem F6:type_of% @Nat.lt_of_lt_of_le:=@Nat.lt_of_lt_of_le
theorem Y6:type_of% @Nat.lt_or_ge:=@Nat.lt_or_ge
theorem I7:type_of% @Nat.lt_succ_iff_lt_or_eq:=@Nat.lt_succ_iff_lt_or_eq
theorem L4:type_of% @Nat.lt_succ_self:=@Nat.lt_succ_self
theorem V9:type_of% @Nat.mul_le_mul:=@Nat.mul_le_mul
theorem X0:type_of% @Nat.mul_le_mul_right:=@Nat.mul_le_mul_right
theorem M4:type_of% @Nat.not_lt_zero:=@Nat.not_lt_zero
theorem Y5:type_of% @Nat.succ_mul:=@Nat.succ_mul
theorem J3:type_of% @Nat.zero_add:=@Nat.zero_add
theorem I3:type_of% @Nat.zero_le:=@Nat.zero_le
theorem j5:type_of% @Ne.symm:=@Ne.symm
theorem Y9:type_of% @Option.bind_some:=@Option.bind_some
theorem O0:type_of% @Option.map_eq_some_iff:=@Option.map_eq_some_iff
theorem O6:type_of% @Option.ne_none_iff_exists':=@Option.ne_none_iff_exists'
theorem M1:type_of% @Option.some.inj:=@Option.some.inj
theorem O7:type_of% @Option.some.injEq:=@Option.some.injEq
theorem U8:type_of% @Prod.mk.inj:=@Prod.mk.inj

theorem Qb {p:Prop} (h:p):Hid p:=h
inductive QD where
 |v (x:Value)
 |s (n:Nat) (cs:List QD)

structure Qc (S:List Nat) (w w':World):Prop where
 os:w'.os=w.os
 tape:w'.tape=w.tape
 output:w'.output=w.output
 size:w.heap.size<=w'.heap.size
 block:∀k,k<w.heap.size->k∉S->w'.heap[k]?=w.heap[k]?

theorem Qc.refl (S:List Nat) (w:World):Qc S w w:=⟨rfl,rfl,rfl,F0 _,fun _ _ _=>rfl⟩
theorem Qc.trans {S T:List Nat} {a b c:World} (h:Qc S a b) (k:Qc T b c) (hT:∀x,x∈T->x∈S∨a.heap.size<=x):Qc S a c:=
 ⟨k.os.trans h.os,k.tape.trans h.tape,k.output.trans h.output,G5 h.size k.size,fun i hi hn=>
  (k.block i (F6 hi h.size) (fun hx=>(hT i hx).elim hn (fun h1=>by omega))).trans (h.block i hi hn)⟩
theorem Qc.tz {S:List Nat} {a b c:World} (h:Qc S a b) (k:Qc [] b c):Qc S a c:=h.trans k (fun _ hx=>by cases hx)
theorem Qc.ty {S:List Nat} {a b c:World} (h:Qc [] a b) (k:Qc S b c):Qc S a c:=
 ⟨k.os.trans h.os,k.tape.trans h.tape,k.output.trans h.output,G5 h.size k.size,fun i hi hn=>
  (k.block i (F6 hi h.size) hn).trans (h.block i hi (by simp))⟩
theorem Qc.mono {S T:List Nat} {a b:World} (h:Qc S a b) (hT:∀x,x∈S->x∈T∨a.heap.size<=x):Qc T a b:=
 ⟨h.os,h.tape,h.output,h.size,fun i hi hn=>h.block i hi (fun hx=>(hT i hx).elim hn (fun h1=>by omega))⟩
theorem Qc.drew {S:List Nat} {a b:World} (h:Qc S a b):Qc S a b.drew:=⟨h.os,h.tape,h.output,h.size,h.block⟩
theorem Qc.drewN {S:List Nat} {a b:World} (h:Qc S a b) (n:Nat):Qc S a (b.drewN n):=⟨h.os,h.tape,h.output,h.size,h.block⟩
theorem Qc.alloc {S:List Nat} {a b:World} (h:Qc S a b) (o:Obj):Qc S a (b.alloc o):=
 ⟨h.os,h.tape,h.output,G5 h.size (by simp),fun i hi hn=>(Below.heap_alloc b o i (F6 hi h.size)).trans (h.block i hi hn)⟩
theorem Qc.setCell {S:List Nat} {a b:World} (h:Qc S a b) {p:Addr} (hp:p.block∈S∨a.heap.size<=p.block) (u:Value):Qc S a (b.setCell p u):=
 ⟨h.os,h.tape,h.output,by simpa [World.setCell] using h.size,fun i hi hn=>(Below.heap_setCell b p u i (by
  rintro rfl
  rcases hp with hp|hp
  ·exact hn hp
  ·omega)).trans (h.block i hi hn)⟩
theorem Qc.below {B:Nat} {S:List Nat} {a b:World} (h:Qc S a b) (hS:∀x,x∈S->B<=x) (hB:B<=a.heap.size):Below B a b:=
 ⟨h.os,h.tape,h.output,h.size,fun k hk=>h.block k (by omega) (fun hx=>by have:=hS k hx;omega)⟩
theorem Qc.toBelow {a b:World} (h:Qc [] a b):Below a.heap.size a b:=h.below (by simp) (F0 _)
theorem Qc.of_below {a b:World} (h:Below a.heap.size a b) (S:List Nat):Qc S a b:=⟨h.os,h.tape,h.output,h.size,fun k hk _=>h.block k hk⟩
theorem Qc.grown {S:List Nat} {a b c:World} {row:Option Nat} (h:Qc S a b) (hg:b.grownBy c row) (hr:∀k,row=some k->k∈S∨a.heap.size<=k):Qc S a c:=
 ⟨hg.os.trans h.os,hg.tape.trans h.tape,hg.output.trans h.output,G5 h.size hg.size,fun i hi hn=>
  (hg.block i (F6 hi h.size) (fun e=>(hr i e.symm).elim hn (fun h1=>by omega))).trans (h.block i hi hn)⟩
theorem Qc.cell {S:List Nat} {a b:World} (h:Qc S a b) {p:Addr} (hp:p.block<a.heap.size) (hn:p.block∉S):b.cell? p=a.cell? p:=
 World.cell?_of_block (h.block _ hp hn)
theorem Qc.frozen {S:List Nat} {a b:World} (h:Qc S a b) {p:Addr} (hp:p.block<a.heap.size) (hn:p.block∉S):b.frozen? p=a.frozen? p:=
 World.frozen?_of_block (h.block _ hp hn)

theorem Qc.now {S:List Nat} {w W:World} (h:Qc S w W:=by(repeat(first|with_reducible exact Qc.refl _ _|with_reducible refine Qc.drew ?_|with_reducible refine Qc.drewN ?_ _|with_reducible refine Qc.alloc ?_ _|with_reducible refine Qc.setCell ?_ (by first|(refine .inl ?_;simp;done)|(refine .inl ?_;assumption)|(refine .inl (I5 _ ?_);assumption)|(refine .inl (I5 _ (Hid.out ?_));assumption)|(refine .inr ?_;simp<;>omega)) _));done):Qc S w W:=h
theorem Qc.to {S:List Nat} {w V W:World} (b:Qc S w V) (h:Qc S w V->Qc S w W:=by intro hb;(repeat(first|with_reducible exact hb|with_reducible exact Qc.refl _ _|with_reducible refine Qc.drew ?_|with_reducible refine Qc.drewN ?_ _|with_reducible refine Qc.alloc ?_ _|with_reducible refine Qc.setCell ?_ (by first|(refine .inl ?_;simp;done)|(refine .inl ?_;assumption)|(refine .inl (I5 _ ?_);assumption)|(refine .inl (I5 _ (Hid.out ?_));assumption)|(refine .inr ?_;simp<;>omega)) _));done):Qc S w W:=h b
theorem Qc.ce {S:List Nat} {a b:World} (h:Qc S a b) (x:Nat) (hx:x<a.heap.size:=by first|omega|(simp;done)|(simp;omega)) (hn:x∉S:=by simp):∀o,b.cell? ⟨x,o,none⟩=a.cell? ⟨x,o,none⟩:=fun _=>h.cell hx hn
theorem Qc.fe {S:List Nat} {a b:World} (h:Qc S a b) (x:Nat) (hx:x<a.heap.size:=by first|omega|(simp;done)|(simp;omega)) (hn:x∉S:=by simp):∀o,b.frozen? ⟨x,o,none⟩=a.frozen? ⟨x,o,none⟩:=fun _=>h.frozen hx hn

theorem Qk {w:World} {p:Addr} {u:Value} (h:w.cell? p=some u):p.block<w.heap.size:=World.block_lt_of_cell? w p h

mutual
def Rd (w:World) (B:Nat):QD->Value->Prop
 | .v x,u=>u=x
 | .s n cs,u=>∃A cap,u= .slice A n cap/\n<=cap/\cap<=maxLen/\(cs=[] ∨∃b off,A=some ⟨b,off,none⟩/\b<B/\kY w B cs b off)
def kY (w:World) (B:Nat):List QD->Nat->Nat->Prop
 | [],_,_=>True
 |d::ds,b,off=>(∃u,w.cell? ⟨b,off,none⟩=some u/\Rd w B d u)/\kY w B ds b (off+1)
end

theorem Jr {w:World} {B b:Nat}:∀ {ds:List QD} {off:Nat},kY w B ds b off↔ ∀j d,ds[j]?=some d->∃u,w.cell? ⟨b,off+j,none⟩=some u/\Rd w B d u
 | [],off=>by simp [kY]
 | d::ds,off=>by
  rw [kY,Jr (ds:=ds)]
  constructor
  ·rintro⟨h1,h2⟩ j x hx
   match j,hx with
   |0,hx=>simp at hx;subst hx;exact h1
   |j+1,hx=>have:=h2 j x (by simpa using hx);rwa [O4,Nat.add_comm 1 j] at this
  ·intro h
   refine⟨h 0 d (by simp),fun j x hx=>?_⟩
   have:=h (j+1) x (by simpa using hx)
   rwa [O4,Nat.add_comm 1 j]

mutual
theorem Rd.keep {w w':World} {B B':Nat} (hB:B<=B') (hk:∀p:Addr,p.block<B->w'.cell? p=w.cell? p):∀(d:QD) (u:Value),Rd w B d u->Rd w' B' d u
 | .v x,u,h=>by rw [Rd] at h ⊢;exact h
 | .s n cs,u,h=>by
  rw [Rd] at h ⊢
  obtain⟨A,cap,e,h0,h1,h2⟩:=h
  refine⟨A,cap,e,h0,h1,?_⟩
  rcases h2 with h2|⟨b,off,e2,hb,hl⟩
  ·exact .inl h2
  ·exact .inr ⟨b,off,e2,by omega,kY.keep hB hk cs b off hb hl⟩
theorem kY.keep {w w':World} {B B':Nat} (hB:B<=B') (hk:∀p:Addr,p.block<B->w'.cell? p=w.cell? p):∀(ds:List QD) (b off:Nat),b<B->kY w B ds b off->kY w' B' ds b off
 | [],_,_,_,_=>by rw [kY];trivial
 |d::ds,b,off,hb,h=>by
  rw [kY] at h ⊢
  obtain⟨⟨u,hu,hd⟩,hr⟩:=h
  exact⟨⟨u,(hk _ hb).trans hu,Rd.keep hB hk d u hd⟩,kY.keep hB hk ds b (off+1) hb hr⟩
end

theorem Rd.below {w w':World} {B:Nat} {d:QD} {u:Value} (h:Rd w B d u) (hb:Below B w w'):Rd w' B d u:=Rd.keep (F0 _) (fun _ hp=>hb.cell hp) d u h
theorem Rd.chg {w w':World} {B:Nat} {S:List Nat} {d:QD} {u:Value} (h:Rd w B d u) (hc:Qc S w w') (hB:B<=w.heap.size) (hS:∀x,x∈S->B<=x):Rd w' B d u:=h.below (hc.below hS hB)
theorem Rd.cz {w w':World} {B:Nat} {d:QD} {u:Value} (h:Rd w B d u) (hc:Qc [] w w') (hB:B<=w.heap.size):Rd w' B d u:=h.chg hc hB (by simp)
theorem Rd.mono {w:World} {B B':Nat} {d:QD} {u:Value} (h:Rd w B d u) (hB:B<=B'):Rd w B' d u:=Rd.keep hB (fun _ _=>rfl) d u h

theorem Rd.at_ {w:World} {B n:Nat} {cs:List QD} {u:Value} (h:Rd w B (.s n cs) u):∃A cap,u= .slice A n cap/\n<=cap/\cap<=maxLen/\
  (cs≠ [] ->∃b off,A=some ⟨b,off,none⟩/\b<B/\∀j d,cs[j]?=some d->∃u,w.cell? ⟨b,off+j,none⟩=some u/\Rd w B d u):=by
 rw [Rd] at h
 obtain⟨A,cap,e,h0,h1,h2⟩:=h
 refine⟨A,cap,e,h0,h1,fun hne=>?_⟩
 rcases h2 with h2|⟨b,off,e2,hb,hl⟩
 ·exact absurd h2 hne
 ·exact⟨b,off,e2,hb,Jr.1 hl⟩

mutual
def Yb (w:World):QD->Value->List Nat->Prop
 | .v x,u,S=>u=x/\S=[]
 | .s n cs,u,S=>(u= .slice none 0 0/\n=0/\cs=[] /\S=[])∨
   ∃g cap cur e us S',u= .slice (some ⟨g,0,none⟩) n cap/\n<=cap/\cap<=maxLen/\w.heap[g]?=some (.cells cur e (0,0))/\cur.toList.take cs.length=us/\us.length=cs.length/\Qt w cs us S'/\S=g::S'
def Qt (w:World):List QD->List Value->List Nat->Prop
 | [],us,S=>us=[] /\S=[]
 |d::ds,us,S=>∃u us' S1 S2,us=u::us'/\S=S1++S2/\Yb w d u S1/\Qt w ds us' S2
end

mutual
theorem Yb.lt {w:World}:∀(d:QD) (u:Value) (S:List Nat),Yb w d u S->∀x,x∈S->x<w.heap.size
 | .v x,u,S,h=>by rw [Yb] at h;rw [h.2];simp
 | .s n cs,u,S,h=>by
  rw [Yb] at h
  rcases h with ⟨_,_,_,rfl⟩|⟨g,cap,cur,e,us,S',_,_,_,hg,_,_,hl,rfl⟩
  ·simp
  ·intro x hx
   rcases C7.1 hx with rfl|hx
   ·exact(F5.1 hg).1
   ·exact Qt.lt cs us S' hl x hx
theorem Qt.lt {w:World}:∀(ds:List QD) (us:List Value) (S:List Nat),Qt w ds us S->∀x,x∈S->x<w.heap.size
 | [],us,S,h=>by rw [Qt] at h;rw [h.2];simp
 |d::ds,us,S,h=>by
  rw [Qt] at h
  obtain⟨u,us',S1,S2,_,rfl,h1,h2⟩:=h
  intro x hx
  rcases F4.1 hx with hx|hx
  ·exact Yb.lt d u S1 h1 x hx
  ·exact Qt.lt ds us' S2 h2 x hx
end

mutual
theorem Yb.keep {w w':World} {S0:List Nat} (hc:Qc S0 w w'):∀(d:QD) (u:Value) (S:List Nat),(∀x,x∈S->x∉S0)->Yb w d u S->Yb w' d u S
 | .v x,u,S,_,h=>by rw [Yb] at h ⊢;exact h
 | .s n cs,u,S,hS,h=>by
  rw [Yb] at h ⊢
  rcases h with h|⟨g,cap,cur,e,us,S',h1,h2,h3,hg,h4,h5,hl,rfl⟩
  ·exact .inl h
  ·exact .inr ⟨g,cap,cur,e,us,S',h1,h2,h3,(hc.block g (F5.1 hg).1 (hS g (by simp))).trans hg,h4,h5,Qt.keep hc cs us S' (fun x hx=>hS x (by simp [hx])) hl,rfl⟩
theorem Qt.keep {w w':World} {S0:List Nat} (hc:Qc S0 w w'):∀(ds:List QD) (us:List Value) (S:List Nat),(∀x,x∈S->x∉S0)->Qt w ds us S->Qt w' ds us S
 | [],us,S,_,h=>by rw [Qt] at h ⊢;exact h
 |d::ds,us,S,hS,h=>by
  rw [Qt] at h ⊢
  obtain⟨u,us',S1,S2,e1,rfl,h1,h2⟩:=h
  exact⟨u,us',S1,S2,e1,rfl,Yb.keep hc d u S1 (fun x hx=>hS x (by simp [hx])) h1,Qt.keep hc ds us' S2 (fun x hx=>hS x (by simp [hx])) h2⟩
end

theorem Qt.length {w:World}:∀(ds:List QD) (us:List Value) (S:List Nat),Qt w ds us S->us.length=ds.length
 | [],us,S,h=>by rw [Qt] at h;rw [h.1];rfl
 |d::ds,us,S,h=>by
  rw [Qt] at h
  obtain⟨u,us',S1,S2,rfl,_,_,h2⟩:=h
  simp [Qt.length ds us' S2 h2]

theorem Qt.append {w:World}:∀ {ds ds':List QD} {us us':List Value} {S S':List Nat},Qt w ds us S->Qt w ds' us' S'->Qt w (ds++ds') (us++us') (S++S')
 | [],ds',us,us',S,S',h,h'=>by rw [Qt] at h;simpa [h.1,h.2] using h'
 |d::ds,ds',us,us',S,S',h,h'=>by
  rw [Qt] at h
  obtain⟨u,us1,S1,S2,rfl,rfl,h1,h2⟩:=h
  rw [M2,Qt]
  exact⟨u,us1++us',S1,S2++S',by simp,by simp,h1,Qt.append h2 h'⟩

theorem Qt.split {w:World}:∀ {ds:List QD} {us:List Value} {S:List Nat} {j:Nat} {d:QD},Qt w ds us S->ds[j]?=some d->
  ∃u Sa Sj Sb,us[j]?=some u/\S=Sa++(Sj++Sb)/\Yb w d u Sj/\
   ∀(w':World) (d':QD) (u':Value) (Sj' S0:List Nat),Qc S0 w w'->(∀x,x∈Sa++Sb->x∉S0)->Yb w' d' u' Sj'->Qt w' (ds.set j d') (us.set j u') (Sa++(Sj'++Sb))
 | [],us,S,j,d,h,hj=>by simp at hj
 | d0::ds,us,S,j,d,h,hj=>by
  rw [Qt] at h
  obtain⟨u,us1,S1,S2,rfl,rfl,h1,h2⟩:=h
  match j,hj with
  |0,hj=>
   simp at hj;subst hj
   refine⟨u,[],S1,S2,rfl,by simp,h1,fun w' d' u' Sj' S0 hc hn ho=>?_⟩
   simp only [C8,J9]
   rw [Qt]
   exact⟨u',us1,Sj',S2,rfl,rfl,ho,Qt.keep hc ds us1 S2 (fun x hx=>hn x (by simpa using hx)) h2⟩
  |j+1,hj=>
   obtain⟨u1,Sa,Sj,Sb,e1,rfl,h3,h4⟩:=Qt.split h2 (by simpa using hj)
   refine⟨u1,S1++Sa,Sj,Sb,by simpa using e1,by simp,h3,fun w' d' u' Sj' S0 hc hn ho=>?_⟩
   simp only [C9]
   rw [Qt]
   refine⟨u,us1.set j u',S1,Sa++(Sj'++Sb),rfl,by simp,Yb.keep hc d0 u S1 (fun x hx=>hn x (by simp [hx])) h1,h4 w' d' u' Sj' S0 hc (fun x hx=>hn x ?_) ho⟩
   rcases F4.1 hx with hx|hx<;>simp [hx]

def Yp (w:World) (d:QD) (u:Value) (S:List Nat):Prop:=Yb w d u S/\S.Nodup

theorem Yp.lt {w:World} {d:QD} {u:Value} {S:List Nat} (h:Yp w d u S):∀x,x∈S->x<w.heap.size:=Yb.lt d u S h.1
theorem Yp.keep {w w':World} {d:QD} {u:Value} {S S0:List Nat} (h:Yp w d u S) (hc:Qc S0 w w') (hS:∀x,x∈S->x∉S0):Yp w' d u S:=⟨Yb.keep hc d u S hS h.1,h.2⟩
theorem Yp.kz {w w':World} {d:QD} {u:Value} {S:List Nat} (h:Yp w d u S) (hc:Qc [] w w'):Yp w' d u S:=h.keep hc (by simp)

mutual
theorem Yb.rd {w:World}:∀(d:QD) (u:Value) (S:List Nat),Yb w d u S->Rd w w.heap.size d u
 | .v x,u,S,h=>by rw [Yb] at h;rw [Rd];exact h.1
 | .s n cs,u,S,h=>by
  rw [Yb] at h
  rw [Rd]
  rcases h with ⟨rfl,rfl,rfl,rfl⟩|⟨g,cap,cur,e,us,S',rfl,h2,h3,hg,h4,h5,hl,rfl⟩
  ·exact⟨none,0,rfl,F0 _,by simp [maxLen],.inl rfl⟩
  ·refine⟨_,cap,rfl,h2,h3,.inr ⟨g,0,rfl,(F5.1 hg).1,Qt.rd cs us S' g 0 hl (fun j u hu=>?_)⟩⟩
   rw [cell_of_row w g (0+j) cur e (0,0) hg,J3]
   rw [<-h4,R8] at hu
   split at hu
   ·simpa using hu
   ·cases hu
theorem Qt.rd {w:World}:∀(ds:List QD) (us:List Value) (S:List Nat) (b off:Nat),Qt w ds us S->(∀j u,us[j]?=some u->w.cell? ⟨b,off+j,none⟩=some u)->kY w w.heap.size ds b off
 | [],us,S,b,off,h,_=>by rw [kY];trivial
 |d::ds,us,S,b,off,h,hc=>by
  rw [Qt] at h
  obtain⟨u,us1,S1,S2,rfl,rfl,h1,h2⟩:=h
  rw [kY]
  refine⟨⟨u,hc 0 u rfl,Yb.rd d u S1 h1⟩,Qt.rd ds us1 S2 b (off+1) h2 (fun j x hx=>?_)⟩
  have:=hc (j+1) x (by simpa using hx)
  rwa [O4,Nat.add_comm 1 j]
end
theorem Yp.rd {w:World} {d:QD} {u:Value} {S:List Nat} (h:Yp w d u S):Rd w w.heap.size d u:=Yb.rd d u S h.1

theorem Yp.cases_ {w:World} {n:Nat} {cs:List QD} {u:Value} {S:List Nat} (h:Yp w (.s n cs) u S):
  (u= .slice none 0 0/\n=0/\cs=[] /\S=[])∨∃g cap S',u= .slice (some ⟨g,0,none⟩) n cap/\n<=cap/\cap<=maxLen/\S=g::S'/\g<w.heap.size/\g∉S':=by
 obtain⟨h,hn⟩:=h
 rw [Yb] at h
 rcases h with h|⟨g,cap,cur,e,us,S',rfl,h2,h3,hg,_,_,_,rfl⟩
 ·exact .inl h
 ·exact .inr ⟨g,cap,S',rfl,h2,h3,rfl,(F5.1 hg).1,(U6.1 hn).1⟩

theorem xl {α:Type} (l:List α) (n j:Nat) (y:α) (hj:j<n):(l.set j y).take n=(l.take n).set j y:=by
 apply i8
 intro i
 simp only [R8,O8,J7]
 by_cases hi:i<n
 ·by_cases hij:j=i
  ·subst hij;simp [hi]
   by_cases hl:j<l.length
   ·rw [if_pos hl,if_pos (by omega)]
   ·rw [if_neg hl,if_neg (by omega)]
  ·simp [hi,hij]
 ·simp [hi];intro hij;omega

theorem Yp.at_ {w:World} {n g cap:Nat} {cs:List QD} {S:List Nat} {j:Nat} {d:QD} (h:Yp w (.s n cs) (.slice (some ⟨g,0,none⟩) n cap) S) (hj:cs[j]?=some d):
  ∃u Sj,w.cell? ⟨g,j,none⟩=some u/\w.frozen? ⟨g,j,none⟩=false/\Yp w d u Sj/\(∀x,x∈Sj->x∈S)/\g∈S/\g∉Sj/\
   (∀(w':World) (d':QD),Qc Sj w w'->Yp w' d' u Sj->Yp w' (.s n (cs.set j d')) (.slice (some ⟨g,0,none⟩) n cap) S):=by
 obtain⟨h,hn⟩:=h
 rw [Yb] at h
 rcases h with ⟨h0,_⟩|⟨g',cap',cur,e,us,S',h1,h2,h3,hg,h4,h5,hl,rfl⟩
 ·simp at h0
 ·simp only [Value.slice.injEq,O7,Addr.mk.injEq] at h1
  obtain⟨⟨rfl,_⟩,_,rfl⟩:=h1
  obtain⟨u,Sa,Sj,Sb,e1,rfl,ho,hback⟩:=hl.split hj
  obtain⟨hng,hnS⟩:=U6.1 hn
  have hcu:w.cell? ⟨g,j,none⟩=some u:=by
   rw [cell_of_row w g j cur e (0,0) hg]
   rw [<-h4,R8] at e1
   split at e1
   ·simpa using e1
   ·cases e1
  have hnd:Sj.Nodup:=(L1.1 (L1.1 hnS).2.1).1
  have hdis:∀x,x∈Sa++Sb->x∉Sj:=by
   intro x hx hxj
   rcases F4.1 hx with hx|hx
   ·exact(L1.1 hnS).2.2 x hx x (by simp [hxj]) rfl
   ·exact(L1.1 (L1.1 hnS).2.1).2.2 x hxj x hx rfl
  have hgj:g∉Sj:=fun hx=>hng (by simp [hx])
  refine⟨u,Sj,hcu,by simp [World.frozen?,hg],⟨ho,hnd⟩,fun x hx=>by simp [hx],by simp,hgj,fun w' d' hc hO=>⟨?_,hn⟩⟩
  rw [Yb]
  have hb:=hback w' d' u Sj Sj hc hdis hO.1
  have hu:us.set j u=us:=by
   apply i8
   intro i
   rw [O8]
   split
   ·rename_i hij;subst hij
    split
    ·exact e1.symm
    ·rename_i hge;rw [L2 (by omega)] at e1;cases e1
   ·rfl
  rw [hu] at hb
  exact .inr ⟨g,cap,cur,e,us,Sa++(Sj++Sb),rfl,h2,h3,(hc.block g (F5.1 hg).1 hgj).trans hg,by simpa using h4,by simpa using h5,hb,rfl⟩

theorem Yp.set_ {w:World} {n g cap:Nat} {cs:List QD} {S:List Nat} {j:Nat} {x:Value} (h:Yp w (.s n cs) (.slice (some ⟨g,0,none⟩) n cap) S) (hj:cs[j]?=some (.v x)) (y:Value):
  w.cell? ⟨g,j,none⟩=some x/\w.frozen? ⟨g,j,none⟩=false/\g∈S/\Yp (w.setCell ⟨g,j,none⟩ y) (.s n (cs.set j (.v y))) (.slice (some ⟨g,0,none⟩) n cap) S:=by
 obtain⟨h,hn⟩:=h
 rw [Yb] at h
 rcases h with ⟨h0,_⟩|⟨g',cap',cur,e,us,S',h1,h2,h3,hg,h4,h5,hl,rfl⟩
 ·simp at h0
 ·simp only [Value.slice.injEq,O7,Addr.mk.injEq] at h1
  obtain⟨⟨rfl,_⟩,_,rfl⟩:=h1
  obtain⟨u,Sa,Sj,Sb,e1,rfl,ho,hback⟩:=hl.split hj
  obtain⟨hng,hnS⟩:=U6.1 hn
  rw [Yb] at ho
  obtain⟨rfl,rfl⟩:=ho
  have hjl:j<cs.length:=by
   rcases Y6 j cs.length with h|h
   ·exact h
   ·rw [L2 h] at hj;cases hj
  have hcu:w.cell? ⟨g,j,none⟩=some u:=by
   rw [cell_of_row w g j cur e (0,0) hg]
   rw [<-h4,R8,if_pos hjl] at e1
   simpa using e1
  have hfr:w.frozen? ⟨g,j,none⟩=false:=by simp [World.frozen?,hg]
  have hchg:Qc [g] w (w.setCell ⟨g,j,none⟩ y):=(Qc.refl _ _).setCell (.inl (by simp)) y
  refine⟨hcu,hfr,by simp,?_,hn⟩
  show Yb _ _ _ _
  rw [Yb]
  have hb:=hback (w.setCell ⟨g,j,none⟩ y) (.v y) y [] [g] hchg (fun x hx hxg=>by simp at hxg;subst hxg;exact hng (by simpa using hx)) (by rw [Yb];exact⟨rfl,rfl⟩)
  refine .inr ⟨g,cap,cur.setIfInBounds j y,e,us.set j y,Sa++([] ++Sb),rfl,h2,h3,by simp [World.setCell,Array.getElem?_modify,hg],?_,by simpa using h5,hb,rfl⟩
  rw [Q1, <-h4,Array.toList_setIfInBounds,xl _ _ _ _ hjl]


theorem Yp.put {w:World} {n g cap:Nat} {cs:List QD} {S S':List Nat} {j:Nat} {d':QD} {u':Value} (h:Yp w (.s n cs) (.slice (some ⟨g,0,none⟩) n cap) S) (hj:j<cs.length)
  (ho:Yp w d' u' S') (hd:∀x,x∈S'->x∉S):
  w.frozen? ⟨g,j,none⟩=false/\(∃x,w.cell? ⟨g,j,none⟩=some x)/\g∈S/\
   ∃S'',Yp (w.setCell ⟨g,j,none⟩ u') (.s n (cs.set j d')) (.slice (some ⟨g,0,none⟩) n cap) S''/\g∈S''/\(∀x,x∈S''->x∈S∨x∈S'):=by
 obtain⟨h,hn⟩:=h
 rw [Yb] at h
 rcases h with ⟨h0,_⟩|⟨g',cap',cur,e,us,S0,h1,h2,h3,hg,h4,h5,hl,rfl⟩
 ·simp at h0
 ·simp only [Value.slice.injEq,O7,Addr.mk.injEq] at h1
  obtain⟨⟨rfl,_⟩,_,rfl⟩:=h1
  obtain⟨u,Sa,Sj,Sb,e1,rfl,hoj,hback⟩:=hl.split (F8 hj)
  obtain⟨hng,hnS⟩:=U6.1 hn
  have hcu:w.cell? ⟨g,j,none⟩=some u:=by
   rw [cell_of_row w g j cur e (0,0) hg]
   rw [<-h4,R8,if_pos hj] at e1
   simpa using e1
  have hchg:Qc [g] w (w.setCell ⟨g,j,none⟩ u'):=(Qc.refl _ _).setCell (.inl (by simp)) u'
  have hgS':g∉S':=fun hx=>hd g hx (by simp)
  have hO:Yb (w.setCell ⟨g,j,none⟩ u') d' u' S':=Yb.keep hchg d' u' S' (fun x hx hxg=>by simp at hxg;subst hxg;exact hgS' hx) ho.1
  have hb:=hback (w.setCell ⟨g,j,none⟩ u') d' u' S' [g] hchg (fun x hx hxg=>by
   simp at hxg;subst hxg;apply hng;rcases F4.1 hx with hx|hx<;>simp [hx]) hO
  refine⟨by simp [World.frozen?,hg],⟨u,hcu⟩,by simp,g::(Sa++(S'++Sb)),⟨?_,?_⟩,by simp,?_⟩
  ·rw [Yb]
   refine .inr ⟨g,cap,cur.setIfInBounds j u',e,us.set j u',Sa++(S'++Sb),rfl,h2,h3,by simp [World.setCell,Array.getElem?_modify,hg],?_,by simpa using h5,hb,rfl⟩
   rw [Q1, <-h4,Array.toList_setIfInBounds,xl _ _ _ _ hj]
  ·rw [U6]
   obtain⟨n1,n2,n3⟩:=L1.1 hnS
   obtain⟨n4,n5,n6⟩:=L1.1 n2
   refine⟨fun hx=>?_,L1.2 ⟨n1,L1.2 ⟨ho.2,n5,fun a ha b hb e=>?_⟩,fun a ha b hb e=>?_⟩⟩
   ·rcases F4.1 hx with hx|hx
    ·exact hng (by simp [hx])
    ·rcases F4.1 hx with hx|hx
     ·exact hgS' hx
     ·exact hng (by simp [hx])
   ·subst e;exact hd a ha (by simp [hb])
   ·subst e
    rcases F4.1 hb with hb|hb
    ·exact hd a hb (by simp [ha])
    ·exact n3 a ha a (by simp [hb]) rfl
  ·intro x hx
   simp only [C7,F4] at hx ⊢
   rcases hx with hx|hx|hx|hx<;>simp [hx]

theorem Yp.room {w:World} {n g cap:Nat} {cs:List QD} {S:List Nat} (h:Yp w (.s n cs) (.slice (some ⟨g,0,none⟩) n cap) S) {j:Nat} (hj:j<cs.length):
  w.frozen? ⟨g,j,none⟩=false/\∃x,w.cell? ⟨g,j,none⟩=some x:=by
 obtain⟨u,Sj,h1,h2,_⟩:=h.at_ (F8 hj)
 exact⟨h2,u,h1⟩

def kN:List QD->Nat->List QD->List QD
 |cs,_,[]=>cs
 |cs,j,d::ds=>kN (cs.set j d) (j+1) ds
def Xc (w:World) (g:Nat):Nat->List Value->World
 |_,[]=>w
 |j,u::us=>Xc (w.setCell ⟨g,j,none⟩ u) g (j+1) us

theorem qI:∀(ds xs0 bs cs:List QD),bs.length=ds.length->kN (xs0++(bs++cs)) xs0.length ds=xs0++(ds++cs)
 | [],xs0,[],cs,_=>rfl
 |d::ds,xs0,b::bs,cs,h=>by
  rw [kN]
  have:=qI ds (xs0++ [d]) bs cs (by simpa using h)
  simpa using this

def Zm (w:World) (ds:List QD) (us:List Value) (S:List Nat):Prop:=Qt w ds us S/\S.Nodup

theorem Zm.keep {w w':World} {ds:List QD} {us:List Value} {S S0:List Nat} (h:Zm w ds us S) (hc:Qc S0 w w') (hS:∀x,x∈S->x∉S0):Zm w' ds us S:=⟨Qt.keep hc ds us S hS h.1,h.2⟩
theorem Zm.kz {w w':World} {ds:List QD} {us:List Value} {S:List Nat} (h:Zm w ds us S) (hc:Qc [] w w'):Zm w' ds us S:=h.keep hc (by simp)
theorem Zm.lt {w:World} {ds:List QD} {us:List Value} {S:List Nat} (h:Zm w ds us S):∀x,x∈S->x<w.heap.size:=Qt.lt ds us S h.1
theorem Zm.nil (w:World):Zm w [] [] []:=⟨by rw [Qt];exact⟨rfl,rfl⟩,O9⟩
theorem Zm.cons {w:World} {d:QD} {ds:List QD} {u:Value} {us:List Value} {S T:List Nat} (h:Yp w d u S) (h':Zm w ds us T) (hd:∀x,x∈S->x∉T):Zm w (d::ds) (u::us) (S++T):=
 ⟨by rw [Qt];exact⟨u,us,S,T,rfl,rfl,h.1,h'.1⟩,L1.2 ⟨h.2,h'.2,fun a ha b hb e=>by subst e;exact hd a ha hb⟩⟩
theorem Zm.cons_v {w:World} {x:Value} {ds:List QD} {us:List Value} {T:List Nat} (h':Zm w ds us T):Zm w (.v x::ds) (x::us) T:=
 Zm.cons (S:=[]) ⟨by rw [Yb];exact⟨rfl,rfl⟩,O9⟩ h' (by simp)
theorem Zm.cons_nil {w:World} {ds:List QD} {us:List Value} {T:List Nat} (h':Zm w ds us T):Zm w (.s 0 [] ::ds) (.slice none 0 0::us) T:=
 Zm.cons (S:=[]) ⟨by rw [Yb];exact .inl ⟨rfl,rfl,rfl,rfl⟩,O9⟩ h' (by simp)
theorem Zm.uncons {w:World} {d:QD} {ds:List QD} {us:List Value} {S:List Nat} (h:Zm w (d::ds) us S):
  ∃u us' S1 S2,us=u::us'/\S=S1++S2/\Yp w d u S1/\Zm w ds us' S2/\∀x,x∈S1->x∉S2:=by
 obtain⟨h,hn⟩:=h
 rw [Qt] at h
 obtain⟨u,us',S1,S2,rfl,rfl,h1,h2⟩:=h
 obtain⟨n1,n2,n3⟩:=L1.1 hn
 exact⟨u,us',S1,S2,rfl,rfl,⟨h1,n1⟩,⟨h2,n2⟩,fun x hx hx'=>n3 x hx x hx' rfl⟩
theorem Zm.unnil {w:World} {us:List Value} {S:List Nat} (h:Zm w [] us S):us=[] /\S=[]:=by
 obtain⟨h,_⟩:=h
 rwa [Qt] at h

theorem Yp.putRow {g n cap:Nat}:∀ {us:List Value} {ds:List QD} {w:World} {cs:List QD} {S S':List Nat} {j:Nat},
  Yp w (.s n cs) (.slice (some ⟨g,0,none⟩) n cap) S->j+ds.length<=cs.length->Zm w ds us S'->(∀x,x∈S'->x∉S)->
  ∃S'',Yp (Xc w g j us) (.s n (kN cs j ds)) (.slice (some ⟨g,0,none⟩) n cap) S''/\(∀x,x∈S''->x∈S∨x∈S')/\g∈S/\Qc [g] w (Xc w g j us)
 | us,[],w,cs,S,S',j,h,_,hl,_=>by
  obtain⟨rfl,rfl⟩:=hl.unnil
  rcases h.cases_ with h0|⟨g',cap',S1,h0,_,_,rfl,_⟩
  ·simp at h0
  ·simp only [Value.slice.injEq,O7,Addr.mk.injEq] at h0
   obtain⟨⟨rfl,_⟩,_,rfl⟩:=h0
   exact⟨_,h,fun x hx=>.inl hx,by simp,Qc.refl _ _⟩
 | us,d::ds,w,cs,S,S',j,h,hj,hl,hd=>by
  obtain⟨u,us',S1,S2,rfl,rfl,h1,h2,hdis⟩:=hl.uncons
  simp only [I1] at hj
  obtain⟨_,_,hgS,T,hT,hgT,hTs⟩:=h.put (j:=j) (by omega) h1 (fun x hx=>hd x (by simp [hx]))
  have hchg:Qc [g] w (w.setCell ⟨g,j,none⟩ u):=(Qc.refl _ _).setCell (.inl (by simp)) u
  have hg2:g∉S2:=fun hx=>hd g (by simp [hx]) hgS
  have hl2:Zm (w.setCell ⟨g,j,none⟩ u) ds us' S2:=h2.keep hchg (fun x hx hxg=>by simp at hxg;subst hxg;exact hg2 hx)
  obtain⟨T2,hT2,hT2s,_,hc2⟩:=Yp.putRow hT (j:=j+1) (by simp;omega) hl2 (fun x hx hxT=>by
   rcases hTs x hxT with h3|h3
   ·exact hd x (by simp [hx]) h3
   ·exact hdis x h3 hx)
  refine⟨T2,hT2,fun x hx=>?_,hgS,hchg.trans hc2 (fun x hx=>.inl hx)⟩
  rcases hT2s x hx with h3|h3
  ·rcases hTs x h3 with h4|h4
   ·exact .inl h4
   ·exact .inr (by simp [h4])
  ·exact .inr (by simp [h3])

theorem Yp.made {w:World} (zs:List Value) (ds:List QD) (n:Nat) (e:TypeId) (cur:Array Value) (hc:cur.toList=zs) (hn:n<=maxLen) (hz:Qt (w.alloc (.cells cur e)) ds zs []):
  Yp (w.alloc (.cells cur e)) (.s n ds) (.slice (some ⟨w.heap.size,0,none⟩) n n) [w.heap.size]:=by
 refine⟨?_,by simp⟩
 rw [Yb]
 refine .inr ⟨w.heap.size,n,cur,e,zs,[],rfl,F0 _,hn,heap_alloc_new w _,?_,Qt.length _ _ _ hz,hz,rfl⟩
 rw [<-Qt.length _ _ _ hz, <-hc]
 exact U1 (by simp)

theorem Qt.plain (w:World):∀zs:List Value,Qt w (zs.map .v) zs []
 | []=>by rw [O2,Qt];exact⟨rfl,rfl⟩
 |z::zs=>by rw [I9,Qt];exact⟨z,zs,[],[],rfl,rfl,by rw [Yb];exact⟨rfl,rfl⟩,Qt.plain w zs⟩
theorem Qt.rep {w:World} {ds:List QD} {zs:List Value} (h:Qt w ds zs []):∀k:Nat,Qt w (List.replicate k ds).flatten (List.replicate k zs).flatten []
 |0=>by simp only [List.replicate_zero,List.flatten_nil];rw [Qt];exact⟨rfl,rfl⟩
 |k+1=>by
  simp only [List.replicate_succ,List.flatten_cons]
  exact(Qt.append h (Qt.rep h k))

def jo {α:Type} (F:α->List QD) (Z:List QD) (l:List α) (k:Nat):List QD:=(l.take k).flatMap F++(List.replicate (l.length-k) Z).flatten

theorem Qac {α:Type} (F:α->List QD) (Z:List QD) (l:List α):jo F Z l 0=(List.replicate l.length Z).flatten:=by simp [jo]
theorem Zs {α:Type} {F:α->List QD} {c:Nat} (hF:∀a,(F a).length=c):∀l:List α,(l.flatMap F).length=l.length * c
 | []=>by simp
 |a::l=>by rw [J6,I0,Zs hF l,hF a,I1,Y5,Nat.add_comm]
theorem Vk {α:Type} {F:α->List QD} {c:Nat} (hF:∀a,(F a).length=c):∀(l:List α) (i j:Nat) (hi:i<l.length),j<c->(l.flatMap F)[i * c+j]?=(F l[i])[j]?
 |a::l,0,j,_,hj=>by rw [J6,Nat.zero_mul,J3,List.getElem?_append_left (by rw [hF];exact hj)];rfl
 |a::l,i+1,j,hi,hj=>by
  rw [J6,List.getElem?_append_right (by rw [hF,Y5];omega),hF,show(i+1) * c+j-c=i * c+j from by rw [Y5];omega]
  exact Vk hF l i j (by simpa using hi) hj


theorem vS (z:Array Value) (c n:Nat) (hz:z.size=c) (hc:0<c):(madeCells z (n * c)).toList=(List.replicate n z.toList).flatten:=by
 subst hz
 apply i8
 intro i
 have key:∀n i:Nat,(List.replicate n z.toList).flatten[i]?=if i<n * z.size then z.toList[i % z.size]? else none:=by
  intro n
  induction n with
  |zero=>intro i;simp
  | succ n ih=>
   intro i
   rw [List.replicate_succ,List.flatten_cons,List.getElem?_append]
   by_cases hi:i<z.toList.length
   ·have hi':i<z.size:=by simpa using hi
    rw [if_pos hi,if_pos (by rw [Y5];omega),Nat.mod_eq_of_lt hi']
   ·have hi':z.size<=i:=by simpa using hi
    rw [if_neg hi,ih]
    simp only [U5]
    rw [Nat.mod_eq_sub_mod hi']
    by_cases h2:i<(n+1) * z.size
    ·rw [if_pos h2,if_pos (by rw [Y5] at h2;omega)]
    ·rw [if_neg h2,if_neg (by rw [Y5] at h2;omega)]
 rw [key]
 simp only [madeCells,Array.toList_map,R0,Array.toList_range]
 by_cases hi:i<n * z.size
 ·have hm:i % z.size<z.size:=Nat.mod_lt _ hc
  rw [if_pos hi,List.getElem?_range hi]
  simp [hm]
 ·rw [if_neg hi,L2 (by simpa using hi)]
  rfl

theorem Yp.make {α:Type} (w:World) (e:TypeId) (z:Array Value) (c:Nat) (hz:z.size=c) (hc:0<c) (Z:List QD) (hZ:∀w,Qt w Z z.toList []) (F:α->List QD) (l:List α) (n:Nat) (hl:l.length=n) (hn:n<=maxLen):
  Yp (w.alloc (.cells (madeCells z (n * c)) e)) (.s n (jo F Z l 0)) (.slice (some ⟨w.heap.size,0,none⟩) n n) [w.heap.size]:=by
 refine Yp.made (List.replicate n z.toList).flatten _ n _ _ (vS z c n hz hc) hn ?_
 rw [Qac,hl]
 exact Qt.rep (hZ _) n


def WC {α:Type} (w:World) (B:Nat) (F:α->List QD) (c:Nat) (l:List α) (A:Option Addr):Prop:=
 ∀(k:Nat) (h:k<l.length),∃b off,A=some ⟨b,off,none⟩/\b<B/\∀j d,(F l[k])[j]?=some d->∃u,w.cell? ⟨b,off+k * c+j,none⟩=some u/\Rd w B d u

theorem Rd.row {α:Type} {w:World} {B c:Nat} {F:α->List QD} (hF:∀a,(F a).length=c) (hc:0<c) {l:List α} {u:Value} (h:Rd w B (.s l.length (l.flatMap F)) u):
  ∃A cap,u= .slice A l.length cap/\l.length<=cap/\cap<=maxLen/\WC w B F c l A:=by
 obtain⟨A,cap,rfl,h0,h1,h2⟩:=h.at_
 refine⟨A,cap,rfl,h0,h1,fun k hk=>?_⟩
 have hlen:=Zs hF l
 have hpos:0<l.length * c:=Nat.mul_pos (by omega) hc
 obtain⟨b,off,rfl,hb,hx⟩:=h2 (fun e=>by rw [e] at hlen;simp at hlen;omega)
 refine⟨b,off,rfl,hb,fun j d hj=>?_⟩
 have hjc:j<c:=by
  rcases Y6 j c with h|h
  ·exact h
  ·rw [L2 (by rw [hF];exact h)] at hj;cases hj
 rw [O4]
 exact hx (k * c+j) d (by rw [Vk hF l k j hk hjc];exact hj)

theorem WC.below {α:Type} {w w':World} {B c:Nat} {F:α->List QD} {l:List α} {A:Option Addr} (h:WC w B F c l A) (hb:Below B w w'):WC w' B F c l A:=by
 intro k hk
 obtain⟨b,off,e,h1,h2⟩:=h k hk
 refine⟨b,off,e,h1,fun j d hj=>?_⟩
 obtain⟨u,hu,hd⟩:=h2 j d hj
 exact⟨u,(hb.cell (p:=⟨b,_,none⟩) h1).trans hu,hd.below hb⟩
theorem WC.chg {α:Type} {w w':World} {B c:Nat} {F:α->List QD} {l:List α} {A:Option Addr} {S:List Nat} (h:WC w B F c l A) (hc:Qc S w w') (hB:B<=w.heap.size) (hS:∀x,x∈S->B<=x):WC w' B F c l A:=
 h.below (hc.below hS hB)
theorem WC.cz {α:Type} {w w':World} {B c:Nat} {F:α->List QD} {l:List α} {A:Option Addr} (h:WC w B F c l A) (hc:Qc [] w w') (hB:B<=w.heap.size):WC w' B F c l A:=h.chg hc hB (by simp)


def qt (w w':World) (d:QD) (u:Value):Prop:=∃S,Yp w' d u S/\(∀x,x∈S->w.heap.size<=x)/\Qc [] w w'
def KW (d:QD) (w:World) (e:Ending) (w':World):Prop:=∃u,e= .returned u/\qt w w' d u
def YW (w w':World) (ds:List QD) (us:List Value):Prop:=∃S,Zm w' ds us S/\(∀x,x∈S->w.heap.size<=x)/\Qc [] w w'

theorem qt.chg {w w':World} {d:QD} {u:Value} (h:qt w w' d u):Qc [] w w':=h.elim fun _ x=>x.2.2
theorem YW.chg {w w':World} {ds:List QD} {us:List Value} (h:YW w w' ds us):Qc [] w w':=h.elim fun _ x=>x.2.2
theorem qt.rd {w w':World} {d:QD} {u:Value} (h:qt w w' d u):Rd w' w'.heap.size d u:=h.elim fun _ x=>x.1.rd
theorem qt.later {w w' w2:World} {d:QD} {u:Value} (h:qt w w' d u) (hc:Qc [] w' w2):qt w w2 d u:=
 h.elim fun S x=>⟨S,x.1.kz hc,x.2.1,x.2.2.tz hc⟩
theorem YW.later {w w' w2:World} {ds:List QD} {us:List Value} (h:YW w w' ds us) (hc:Qc [] w' w2):YW w w2 ds us:=
 h.elim fun S x=>⟨S,x.1.kz hc,x.2.1,x.2.2.tz hc⟩
theorem YW.sooner {w0 w w':World} {ds:List QD} {us:List Value} (h:YW w w' ds us) (hc:Qc [] w0 w):YW w0 w' ds us:=
 h.elim fun S x=>⟨S,x.1,fun y hy=>G5 hc.size (x.2.1 y hy),hc.tz x.2.2⟩

theorem qt.make {α:Type} (w:World) (e:TypeId) (z:Array Value) (c:Nat) (hz:z.size=c) (hc:0<c) (Z:List QD) (hZ:∀w,Qt w Z z.toList []) (F:α->List QD) (l:List α) (n:Nat) (hl:l.length=n) (hn:n<=maxLen):
  qt w (w.alloc (.cells (madeCells z (n * c)) e)) (.s n (jo F Z l 0)) (.slice (some ⟨w.heap.size,0,none⟩) n n):=
 ⟨_,Yp.make w e z c hz hc Z hZ F l n hl hn,by simp,(Qc.refl _ _).alloc _⟩


theorem Qc.cells {a b:World} (h:Qc [] a b):(∀x o,x<a.heap.size->b.cell? ⟨x,o,none⟩=a.cell? ⟨x,o,none⟩)/\(∀x o,x<a.heap.size->b.frozen? ⟨x,o,none⟩=a.frozen? ⟨x,o,none⟩)/\a.heap.size<=b.heap.size:=
 ⟨fun x o hx=>h.cell (p:=⟨x,o,none⟩) hx (by simp),fun x o hx=>h.frozen (p:=⟨x,o,none⟩) hx (by simp),h.size⟩


theorem KW.sl {n:Nat} {cs:List QD} {w w':World} {e:Ending} (h:KW (.s n cs) w e w'):∃A cap,e= .returned (.slice A n cap)/\qt w w' (.s n cs) (.slice A n cap):=by
 obtain⟨u,rfl,S,h1,h2,h3⟩:=h
 rcases h1.cases_ with ⟨rfl,rfl,_⟩|⟨g,cap,S',rfl,_⟩
 ·exact⟨none,0,rfl,S,h1,h2,h3⟩
 ·exact⟨_,cap,rfl,S,h1,h2,h3⟩


def VU (T:List Nat) (w w':World) (ds:List QD) (us:List Value):Prop:=∃S,Zm w' ds us S/\(∀x,x∈S->w.heap.size<=x)/\Qc T w w'
theorem VU.nil {T:List Nat} {w w':World} (h:Qc T w w'):VU T w w' [] []:=⟨[],Zm.nil _,by simp,h⟩
theorem VU.cons_v {T:List Nat} {w w':World} {x:Value} {ds:List QD} {us:List Value} (h:VU T w w' ds us):VU T w w' (.v x::ds) (x::us):=h.elim fun S k=>⟨S,Zm.cons_v k.1,k.2⟩
theorem VU.done {T:List Nat} {w w0 w':World} {ds:List QD} {us:List Value} (h:VU T w0 w' ds us) (hT:∀x,x∈T->w.heap.size<=x) (h0:Qc [] w w0):YW w w' ds us:=by
 obtain⟨S,h1,h2,h3⟩:=h
 exact⟨S,h1,fun x hx=>G5 h0.size (h2 x hx),h0.trans h3 (fun x hx=>.inr (hT x hx))⟩


theorem qh {P:Program} (t e:TypeId) (z:Value) (size bytes:Nat) (ht:P.underlying t=some (.slice e)) (hinfo:(P.info? e).map (fun i=>(i.zero,i.size,i.bytes))=some (some z,size,bytes))
  (kl kc:IntKind) (n c:Nat) (hnc:n<=c) (hbytes:bytes * c<=281474976710656) (h63:c<=9223372036854775807) (w:World):
  (Instr.makeSlice t (.int kl (n:Int)) (.int kc (c:Int))).run P w= .ok (.slice (some ⟨w.heap.size,0,none⟩) n c) (w.alloc (.cells (madeCells z.cells (c * size)) e)):=by
 obtain⟨i,hi,hzz⟩:=O0.1 hinfo
 simp only [Prod.mk.injEq] at hzz
 obtain⟨hz,rfl,rfl⟩:=hzz
 have hb:(i.bytes:Int) * (c:Int)<=281474976710656:=by
  have h:((i.bytes * c:Nat):Int)<=281474976710656:=by omega
  rwa [Int.natCast_mul] at h
 have hr:=run_make (P:=P) w t e i z ht hi hz kl kc n c (by omega) (by omega) hb (by omega)
 simp only [Int.toNat_natCast] at hr
 exact hr


theorem YW.nil {w w':World} (h:Qc [] w w'):YW w w' [] []:=⟨[],Zm.nil _,by simp,h⟩
theorem YW.cons_v {w w':World} {x:Value} {ds:List QD} {us:List Value} (h:YW w w' ds us):YW w w' (.v x::ds) (x::us):=h.elim fun S k=>⟨S,Zm.cons_v k.1,k.2⟩
theorem VU.start {T:List Nat} {w w':World} {ds:List QD} {us:List Value} (h:VU T w w' ds us) (hT:∀x,x∈T->w.heap.size<=x):YW w w' ds us:=h.done hT (Qc.refl _ _)
theorem Zm.append {w:World} {ds ds':List QD} {us us':List Value} {S S':List Nat} (h:Zm w ds us S) (h':Zm w ds' us' S') (hd:∀x,x∈S->x∉S'):Zm w (ds++ds') (us++us') (S++S'):=
 ⟨Qt.append h.1 h'.1,L1.2 ⟨h.2,h'.2,fun a ha b hb e=>by subst e;exact hd a ha hb⟩⟩
def vW (x:Int):List QD:=[.v (.int .i64 x)]
def xE (l:List Int):QD:=.s l.length (l.flatMap vW)
theorem jS (x:Int):(vW x).length=1:=rfl
theorem QfX (l:List Int) (k:Nat) (h:k<l.length):(l.flatMap vW)[k]?=some (.v (.int .i64 l[k])):=by
 have:=Vk jS l k 0 h (by omega)
 rw [Nat.mul_one,L3] at this
 exact this

theorem GI:(Tryz.prog.info? 3).map (fun i=>(i.zero,i.size,i.bytes))=some (some (.int .i64 0),1,8):=by kernel_rfl

theorem zl {w:World} {B:Nat} {l:List Int} {u:Value} (h:Rd w B (xE l) u):∃A cap,u= .slice A l.length cap/\l.length<=cap/\cap<=maxLen/\WC w B vW 1 l A:=h.row jS (by omega)
theorem yi {w:World} {B:Nat} {l:List Int} {A:Option Addr} (h:WC w B vW 1 l A) (k:Nat) (hk:k<l.length):∃b off,A=some ⟨b,off,none⟩/\b<B/\w.cell? ⟨b,off+k,none⟩=some (.int .i64 l[k]):=by
 obtain⟨b,off,rfl,hb,hx⟩:=h k hk
 obtain⟨u,hu,hd⟩:=hx 0 _ rfl
 rw [Rd] at hd
 subst hd
 exact⟨b,off,rfl,hb,by simpa using hu⟩



theorem VG {k:IntKind} {a b:Int} (h:a=b):Ending.returned (.int k a)= .returned (.int k b):=by rw [h]
def W7:List Int->List Int->Int
 |a::l,b::m=>if a<b then -1 else if b<a then 1 else W7 l m
 |_,_=>0
def Wy (l m:List Int):Int:=if l.length<m.length then -1 else if m.length<l.length then 1 else W7 l m
theorem Qc4 (l m:List Int) (k:Nat) (h:k<l.length) (h':k<m.length):W7 (l.drop k) (m.drop k)=if l[k] <m[k] then -1 else if m[k] <l[k] then 1 else W7 (l.drop (k+1)) (m.drop (k+1)):=by
 rw [N6 h,N6 h',W7]
theorem QeD (l m:List Int):W7 (l.drop l.length) m=0:=by
 rw [List.drop_of_length_le (F0 _)];cases m<;>rfl


theorem Xl (l m:List Int) (u v:Value) (B B':Nat) (w:World) (hr:Rd w B (xE l) u) (hs:Rd w B' (xE m) v) (hB:B<=w.heap.size) (hB':B'<=w.heap.size):
  Calls Tryz.prog 92 #[u,v] w fun e w'=>e= .returned (.int .i64 (Wy l m))/\Qc [] w w':=by
 obtain⟨A,cap,rfl,h0,h1,hrow⟩:=zl hr
 obtain⟨A',cap',rfl,h0',h1',hrow'⟩:=zl hs
 unfold maxLen at h1 h1'
 clear hr hs
 by_cases c1:l.length<m.length
 ·go_enter Tryz.func92,Tryz.ntmps92
  go_wp2
  go_ret
  exact⟨VG (by rw [Wy,if_pos c1]),Qc.refl _ _⟩
 ·by_cases c2:m.length<l.length
  ·go_enter Tryz.func92,Tryz.ntmps92
   go_wp2
   go_ret
   exact⟨VG (by rw [Wy,if_neg (by omega),if_pos (by omega)]),Qc.refl _ _⟩
  ·have hc0:Hid (Wy l m=W7 (l.drop 0) (m.drop 0)):=by
    show Wy l m=_
    rw [Wy,if_neg c1,if_neg c2];rfl
   go_enter Tryz.func92,Tryz.ntmps92
   go_wp2
   go_loopw [20] (fun i wr=>∃k:Nat,k<=l.length/\i= .int .i64 k/\Qc [] w wr/\Hid (Wy l m=W7 (l.drop k) (m.drop k))) (fun i _=>l.length-(intOf i).toNat)
   case atStart=>exact⟨0,I3 _,rfl,Qc.refl _ _,hc0⟩
   case round=>
    obtain⟨k,hk,rfl,hh,hq⟩:=hrel
    by_cases hlt:k<l.length
    ·have hlt':k<m.length:=by omega
     obtain⟨b,off,rfl,hb,hu⟩:=yi (hrow.cz hh hB) k hlt
     obtain⟨b',off',rfl,hb',hu'⟩:=yi (hrow'.cz hh hB') k hlt'
     have hq2:=hq.out
     rw [Qc4 l m k hlt hlt'] at hq2
     have HQ:=Qb hq2
     clear hq hq2 hc0
     by_cases d1:l[k] <m[k]
     ·go_wp2
      go_quiet (fail)
      go_wp2
      go_ret
      exact⟨VG (by rw [HQ.out,if_pos d1]),hh.drewN _⟩
     ·by_cases d2:m[k] <l[k]
      ·go_wp2
       go_quiet (fail)
       go_wp2
       go_quiet (fail)
       go_wp2
       go_ret
       exact⟨VG (by rw [HQ.out,if_neg (by omega),if_pos (by omega)]),(hh.drewN _).drewN _⟩
      ·go_wp2
       go_quiet (fail)
       go_wp2
       go_quiet (fail)
       go_wp2
       go_roundw
       case rel=>exact⟨k+1,by omega,by go_num,(hh.drewN _),by rw [HQ.out,if_neg (by omega),if_neg (by omega)];exact Qb rfl⟩
       case measure=>simp [intOf];omega
    ·obtain rfl:k=l.length:=by omega
     go_wp2
     go_ret
     exact⟨VG (by rw [hq.out,QeD]),hh⟩

end Go.Proofs.YtfjhdnjlhjimeaaGreatDoor
namespace Go.Proofs.YtfjhdnjlhjimeaaGreatDoor
open Go.ChangeShapes Go.WideShapes Go.RowKit Go.Deep

def QgD:Value->Prop
 | .int .i64 n=> -9223372036854775808<=n/\n<=9223372036854775807
 | .string s=>s.size<=9223372036854775807
 |_=>True
mutual
def Qdq:QD->Prop
 | .v x=>QgD x
 | .s n cs=>n<=9223372036854775807/\Jl cs
def Jl:List QD->Prop
 | []=>True
 |d::ds=>Qdq d/\Jl ds
end
theorem wQ:∀ {ds:List QD},Jl ds↔ ∀d∈ds,Qdq d
 | []=>by simp [Jl]
 |d::ds=>by rw [Jl,wQ (ds:=ds)];simp
theorem Qf7 {xs0 bs:List QD}:Jl (xs0++bs)↔Jl xs0/\Jl bs:=by
 simp only [wQ,F4]
 exact⟨fun h=>⟨fun d hd=>h d (.inl hd),fun d hd=>h d (.inr hd)⟩,fun h d hd=>hd.elim (h.1 d) (h.2 d)⟩
theorem kS {α:Type} {F:α->List QD} {l:List α}:Jl (l.flatMap F)↔ ∀a∈l,Jl (F a):=by
 simp only [wQ,Y7]
 exact⟨fun h a ha d hd=>h d ⟨a,ha,hd⟩,fun h d ⟨a,ha,hd⟩=>h a ha d hd⟩

def RdV (w:World) (ds:List QD) (cs:List Value):Prop:=cs.length=ds.length/\∀(j:Nat) (d:QD),ds[j]?=some d->∃u,cs[j]?=some u/\Rd w w.heap.size d u

theorem RdV.one {w:World} {d:QD} {u:Value} (h:Rd w w.heap.size d u):RdV w [d] [u]:=
 ⟨rfl,fun j x hx=>by
  match j,hx with
  |0,hx=>simp at hx;subst hx;exact⟨u,rfl,h⟩⟩
theorem RdV.one_inv {w:World} {d:QD} {cs:List Value} (h:RdV w [d] cs):∃u,cs=[u] /\Rd w w.heap.size d u:=by
 obtain⟨h1,h2⟩:=h
 match cs,h1 with
 | [u],_=>
  obtain⟨u',hu,hd⟩:=h2 0 d rfl
  simp at hu;subst hu
  exact⟨_,rfl,hd⟩
def Vp {α:Type} (P:Program) (N:Nat) (t:TypeId) (F:α->List QD):Prop:=
 ∀ {H:Type} (enc:TypeId×Value->H) (w:World) (n:Nat) (cs:List Value) (x:DataW H×List MemPlace),n<=N->DataW.trod enc P w 0 (fun _=>true) true n t cs=some x->∃a,Jl (F a)/\RdV w (F a) cs

def QgU (n:Int):List QD:=[.v (.int .i64 n)]
def vl {α:Type} (F:α->List QD) (l:List α):List QD:=[.s l.length (l.flatMap F)]

theorem Vp.int {P:Program} {N:Nat} {t:TypeId} (ht:P.underlying t=some (.int .i64)):Vp P N t QgU:=by
 intro H enc w n cs x _ h
 obtain⟨m,rfl,_,hw⟩:=DataW.trod_int ht h
 refine⟨m,?_,RdV.one (by rw [Rd])⟩
 have hw':=bounds_i64 hw
 simp only [QgU,Jl,Qdq,QgD,and_true]
 omega
theorem Vp.mono {α:Type} {P:Program} {N M:Nat} {t:TypeId} {F:α->List QD} (h:Vp P N t F) (hm:M<=N):Vp P M t F:=fun enc w n cs x hn hx=>h enc w n cs x (by omega) hx
theorem Vp.slice {α:Type} {P:Program} {N c:Nat} {t e:TypeId} {F:α->List QD} (ht:P.underlying t=some (.slice e)) (hc:P.cellsOf e=c) (hpos:0<c) (hF:∀a,(F a).length=c) (h:Vp P N e F):Vp P (N+1) t (vl F):=by
 intro H enc w n cs x hn hx
 rcases DataW.trod_slice ht hx with ⟨rfl,_⟩|⟨a,len,cap,elems,rest,m,hm,rfl,_,_,hl,hcap,hlen,hel,_,_⟩
 ·refine⟨[],by simp [vl,Jl,Qdq],RdV.one ?_⟩
  rw [Rd]
  exact⟨none,0,rfl,F0 _,by simp [maxLen],.inl rfl⟩
 ·have each:∀i,i<len->∃b:α,Jl (F b)/\∃cs',w.cells? 0 (a.add (i * c)) c=some cs'/\RdV w (F b) cs':=by
   intro i hi
   have hb:=hel i hi
   rw [F8 (by omega),Option.bind_eq_some_iff] at hb
   obtain⟨cs',h1,h2⟩:=hb
   obtain⟨b,h3,h4⟩:=h enc w m cs' _ (by omega) h2
   rw [hc] at h1
   exact⟨b,h3,cs',h1,h4⟩
  have build:∀k,k<=len->∃l:List α,l.length=k/\(∀i (hi:i<l.length),Jl (F l[i])/\∃cs',w.cells? 0 (a.add (i * c)) c=some cs'/\RdV w (F l[i]) cs'):=by
   intro k
   induction k with
   |zero=>exact fun _=>⟨[],rfl,fun i hi=>by simp at hi⟩
   | succ k ih=>
    intro hk
    obtain⟨l,hl1,hl2⟩:=ih (by omega)
    obtain⟨b,hb1,hb2⟩:=each k (by omega)
    refine⟨l++ [b],by simp [hl1],fun i hi=>?_⟩
    by_cases hik:i<l.length
    ·rw [Q7 hik];exact hl2 i hik
    ·have:i=l.length:=by simp at hi;omega
     subst this
     rw [List.getElem_concat_length (by rfl),hl1]
     exact⟨hb1,hb2⟩
  obtain⟨l,hl1,hl2⟩:=build len (F0 _)
  have hfit:Jl (vl F l):=by
   simp only [vl,Jl,Qdq,and_true]
   refine⟨by unfold maxLen at hcap;omega,kS.2 fun b hb=>?_⟩
   obtain⟨i,hi,rfl⟩:=M0 hb
   exact(hl2 i hi).1
  refine⟨l,hfit,RdV.one ?_⟩
  rw [Rd,hl1]
  refine⟨some a,cap,rfl,hl,hcap,?_⟩
  rcases Nat.eq_zero_or_pos len with h0|h0
  ·left
   have:l=[]:=I6 (by omega)
   subst this;rfl
  ·right
   have hcell0:∀i (hi:i<l.length) j,j<c->∃u,w.cell? ((a.add (i * c)).add j)=some u:=by
    intro i hi j hj
    obtain⟨_,cs',h1,h2⟩:=hl2 i hi
    obtain⟨_,h4,h5⟩:=World.cells?_some h1
    exact⟨cs'[j]'(by omega),by rw [h5 j hj,F8]⟩
   have hsp:a.spot=none:=by
    obtain⟨u,hu⟩:=hcell0 0 (by omega) 0 (by omega)
    have:=World.cell?_spot hu
    simpa [Addr.add] using this
   obtain⟨b,off,spot⟩:=a
   simp at hsp;subst hsp
   have hbl:b<w.heap.size:=by
    obtain⟨u,hu⟩:=hcell0 0 (by omega) 0 (by omega)
    have:=World.block_lt_of_cell? w _ hu
    simpa [Addr.add] using this
   refine⟨b,off,rfl,hbl,Jr.2 fun j d hj=>?_⟩
   have hjl:j<(l.flatMap F).length:=by
    rcases Y6 j (l.flatMap F).length with h|h
    ·exact h
    ·rw [L2 h] at hj;cases hj
   rw [Zs hF] at hjl
   have hq:j / c<l.length:=by rw [Nat.div_lt_iff_lt_mul hpos];exact hjl
   have hr:j % c<c:=Nat.mod_lt _ hpos
   have hjj:j / c * c+j % c=j:=by rw [Nat.mul_comm];exact Nat.div_add_mod j c
   have hat:=Vk hF l (j / c) (j % c) hq hr
   rw [hjj,hj] at hat
   obtain⟨_,cs',h1,h2⟩:=hl2 (j / c) hq
   obtain⟨_,_,h5⟩:=World.cells?_some h1
   obtain⟨u,hu,hd⟩:=h2.2 (j % c) d hat.symm
   refine⟨u,?_,hd⟩
   have:=h5 (j % c) hr
   rw [hu,add_plain,add_plain,O4,hjj] at this
   exact this

theorem Vp.arg {H:Type} {enc:TypeId×Value->H} {α:Type} {P:Program} {t e:TypeId} {F:α->List QD} (hO:∀N,Vp P N t (vl F)) (ht:P.underlying t=some (.slice e)) {W:World} {r:Reach} {b0:Nat} {v:Value} {d:DataW H} {ps:List MemPlace}
  (hv:Value.okWide P W r b0 t v) (h:DataW.Trod enc P W 0 (fun _=>true) true t v d ps):∃l:List α,Jl (vl F l)/\Rd W W.heap.size (.s l.length (l.flatMap F)) v:=by
 obtain⟨a,len,cap,rfl⟩:=okWide_slice ht hv
 obtain⟨n,hn⟩:=h
 obtain⟨l,h1,h2⟩:=hO n enc W n _ _ (F0 _) hn
 obtain⟨u,hu,hd⟩:=RdV.one_inv h2
 simp [Value.cells] at hu
 subst hu
 exact⟨l,h1,hd⟩

end Go.Proofs.YtfjhdnjlhjimeaaGreatDoor
namespace Go.Proofs.YtfjhdnjlhjimeaaGreatDoor
open Go.RowKit

def mtL:Nat->Int->ByteArray->ByteArray
 |0,_,s=>s
 |f+1,n,s=>if 0<n then mtL f (n / 10) (strOfNums [48+n % 10] ++s) else s
def mt (k:Int):ByteArray:=if k<=0 then⟨#[109,48]⟩ else⟨#[109]⟩++mtL k.toNat k ⟨#[]⟩


theorem zW {α:Type} {l:List α} {a:α} (f:α->Nat) (h:a∈l):f a<=(l.map f).sum:=by
 induction l with
 |nil=>cases h
 |cons b l ih=>
  rw [I9,V8]
  rcases C7.1 h with rfl|h
  ·omega
  ·have:=ih h;omega
theorem sum_append {α:Type} (f:α->Nat) (l m:List α):((l++m).map f).sum=(l.map f).sum+(m.map f).sum:=by simp
theorem Qe8 {α:Type} (f:α->Nat) (l:List α) (k:Nat) (h:k<l.length):((l.take (k+1)).map f).sum=((l.take k).map f).sum+f l[k]:=by
 rw [G6 h,sum_append];simp
theorem Qff {α:Type} (f:α->Nat) (l:List α) (k:Nat):((l.take k).map f).sum<=(l.map f).sum:=by
 have:=sum_append f (l.take k) (l.drop k)
 rw [T7] at this
 omega
section
variable {α:Type} {M:α->Int->α} {N:α->Nat}
variable {F:α->List QD}
end
theorem Yp.own {w:World} {n:Nat} {cs:List QD} {A:Option Addr} {cap:Nat} {S:List Nat} (h:Yp w (.s n cs) (.slice A n cap) S) (hn:0<n):∃g,A=some ⟨g,0,none⟩/\g∈S:=by
 rcases h.cases_ with ⟨_,h2,_⟩|⟨g,cap',S',hu,_,_,rfl,_⟩
 ·omega
 ·simp only [Value.slice.injEq] at hu
  exact⟨g,hu.1,by simp⟩

def Ur (s:ByteArray):List QD:=[.v (.string s)]
def WB (l:List ByteArray):QD:=.s l.length (l.flatMap Ur)
theorem Qe5 (s:ByteArray):(Ur s).length=1:=rfl
theorem YB {w:World} {B:Nat} {l:List ByteArray} {u:Value} (h:Rd w B (WB l) u):∃A cap,u= .slice A l.length cap/\l.length<=cap/\cap<=maxLen/\WC w B Ur 1 l A:=h.row Qe5 (by omega)
theorem ZO {w:World} {B:Nat} {l:List ByteArray} {A:Option Addr} (h:WC w B Ur 1 l A) (k:Nat) (hk:k<l.length):∃b off,A=some ⟨b,off,none⟩/\b<B/\w.cell? ⟨b,off+k,none⟩=some (.string l[k]):=by
 obtain⟨b,off,rfl,hb,hx⟩:=h k hk
 obtain⟨u,hu,hd⟩:=hx 0 _ rfl
 rw [Rd] at hd
 subst hd
 exact⟨b,off,rfl,hb,by simpa using hu⟩
def Zp (l:List ByteArray):Nat:=(l.map ByteArray.size).sum
def Qfo (l:List ByteArray):Nat:=l.length+Zp l
theorem Yx:(Tryz.prog.info? 9).map (fun i=>(i.zero,i.size,i.bytes))=some (some (.string ⟨#[]⟩),1,16):=by kernel_rfl


theorem U4:type_of% @Qc.alloc:=@Qc.alloc
theorem i6:type_of% @Qc.drew:=@Qc.drew
theorem a7:type_of% @Qc.drewN:=@Qc.drewN
theorem j6:type_of% @Qc.mono:=@Qc.mono
theorem C6:type_of% @Qc.now:=@Qc.now
theorem B0:type_of% @Qc.refl:=@Qc.refl
theorem Q8:type_of% @Qc.setCell:=@Qc.setCell
theorem H9:type_of% @Qc.to:=@Qc.to
theorem K6:type_of% @Qc.trans:=@Qc.trans
theorem H0:type_of% @Qc.tz:=@Qc.tz
theorem I2:type_of% @Zm.cons_v:=@Zm.cons_v
theorem T8:type_of% @Zm.nil:=@Zm.nil
theorem Y8:type_of% @Qt.keep:=@Qt.keep
end Go.Proofs.YtfjhdnjlhjimeaaGreatDoor
