/- End. Conditions: as stated. -/
import Derived.Test.YtfjhdnjlhjimeaaGreatDoorCellT
import Derived.Test.YtfjhdnjlhjimeaaGreatDoorActOks
import Derived.Test.YtfjhdnjlhjimeaaGreatDoorWraps
set_option maxRecDepth 100000
set_option maxHeartbeats 2000000
namespace Go.Proofs.YtfjhdnjlhjimeaaGreatDoor
open Go.RowKit

structure Xo where
 code:Int
 place:Int
 want:Int
 had:Int
def Qhd (a:Xo):List QD:=[.v (.int .i64 a.code)] ++([.v (.int .i64 a.place)] ++([.v (.int .i64 a.want)] ++ [.v (.int .i64 a.had)]))
def ends (l:List Xo):QD:=.s l.length (l.flatMap Qhd)
def ZR (m:ByteArray):Int:=match Zg m with|some k=>2 ^ k.toNat|none=>0
def qX (n:Int):Int:=min (n+1) 999
def VQ:List QC->ByteArray->Option Int
 | [],_=>none
 |c::l,k=>if c.key=k then some c.value else VQ l k
def XY:List QC->ByteArray->Int->List QC
 | [],k,v=>[⟨k,v⟩]
 |c::l,k,v=>if Op.bytesLess c.key.toList k.toList=true then c::XY l k v else if c.key=k then⟨k,v⟩::l else⟨k,v⟩::c::l
def QaU (k:ByteArray):Bool:=has ((Qo k).getD 0) 0
def WX (p:ZS) (x:QL):ZS×Uw:=
 if QaU p.kind=true/\p.on=false then(p,Qf 2 0 0 0)
 else if x.method=Zz then(p,match VQ p.cells x.key with|some v=>Qf 0 v 0 0|none=>Qf 4 0 0 0)
 else if VQ p.cells x.key=none/\4<=p.cells.length then(p,Qf 5 0 0 0)
 else({p with cells:=XY p.cells x.key x.value,count:=qX p.count},Qf 0 (XY p.cells x.key x.value).length 0 0)
noncomputable def XJ (p:ZS) (x:QL):ZS×Uw:=
 if p.broken=true/\x.method≠Xk/\x.method≠QQ then(p,Qf 3 0 0 0)
 else if x.method=Qw then(if p.on=true then({p with on:=false,broken:=true},Qf 3 0 0 0) else({p with on:=true,count:=qX p.count},Qf 0 0 0 0))
 else if x.method=QR then(if p.on=true then({p with on:=false},Qf 0 0 0 0) else(p,Qf 2 0 0 0))
 else if x.method=Zz∨x.method=Zu then WX p x
 else if x.method=QQ then(p,Qf 0 p.count 0 0)
 else if x.method=QV then({p with count:=qX p.count,on:=(x.value==1) || (p.on&&!(x.value==0)) },Qf 0 (qX p.count) 0 0)
 else if x.method=XI then(p,⟨0,0,VX p.cells,0,0⟩)
 else if x.method=Zy then(match Qy x.text with|none=>(p,Qf 6 0 0 0)|some l=>({p with cells:=l},Qf 0 l.length 0 0))
 else({p with on:=false,broken:=false},Qf 0 0 0 0)
def Zk:ByteArray:=⟨#[99,111,117,110,116,115]⟩
def YA:ByteArray:=⟨#[108,97,122,121]⟩
def XD:ByteArray:=⟨#[114,101,97,100,115]⟩
def ZW:ByteArray:=⟨#[104,101,97,114,115]⟩
def Xs:ByteArray:=⟨#[104,101,97,108,115]⟩
def XU:ByteArray:=⟨#[116,119,105,99,101]⟩
def only (m:ByteArray):QL:=⟨m,⟨#[]⟩,0,⟨#[]⟩⟩
def VK (x:QL):Prop:=x.method=Zz∨x.method=Zu
instance (x:QL):Decidable (VK x):=by unfold VK;infer_instance
def YP (p:Qe) (n:Nat):Qe:=⟨p.core,match p.layers[n]? with|some y=>p.layers.set n ⟨y.name,qX y.count⟩|none=>p.layers⟩
def Zh (p:Qe) (n:Nat):ZZ:=(p.layers[n]?).getD ⟨⟨#[]⟩,0⟩
noncomputable def XG:Nat->Qe->QL->Qe×Uw
 |0,p,x=>(⟨(XJ p.core x).1,p.layers⟩,(XJ p.core x).2)
 |n+1,p,x=>
  if(Zh p n).name=Zk/\x.method=QQ then(p,Qf 0 (Zh p n).count 0 0)
  else if(Zh p n).name=Zk/\VK x then(YP (XG n p x).1 n,(XG n p x).2)
  else if(Zh p n).name=YA/\VK x then(if(XG n p x).2.code=2 then XG n (XG n (XG n p x).1 (only Qw)).1 x else XG n p x)
  else if(Zh p n).name=XD/\x.method=Zu then(p,Qf 6 0 0 0)
  else if(Zh p n).name=ZW/\x.method=QV then(if x.value=0 then XG n (YP p n) (only QR) else if x.value=1 then XG n (YP p n) (only Qw) else(YP p n,Qf 0 (Zh (YP p n) n).count 0 0))
  else if(Zh p n).name=Xs/\x.method=Xk then XG n (XG n p (only QR)).1 (only Qw)
  else if(Zh p n).name=XU then(if(XG n p x).2.code=0 then((XG n p x).1, { (XG n p x).2 with value:=min (2 * (XG n p x).2.value) 999}) else XG n p x)
  else XG n p x
open Classical in
noncomputable def QB (p:Qe) (x:QL):Qe×Uw:=
 if ¬Qn p∨¬QS x then(p,Qf 7 0 0 0)
 else if ¬ZL (Qq p p.layers.length) (ZR x.method) then(p,Qf 1 0 (ZR x.method) (Qq p p.layers.length))
 else XG p.layers.length p x
open Classical in
noncomputable def Yn (p:Qe):Qe×Bool:=
 if ¬Qn p∨p.layers.length=0 then(p,false) else(⟨p.core,p.layers.take (p.layers.length-1)⟩,true)
structure ZV where
 slots:List Ql
 taken:Int
def WM:Ql:=⟨false,Zb⟩
def slotAt (l:List Ql) (i:Int):Ql:=(l[i.toNat]?).getD WM
def Wn (input:List Int) (taken:Int):Int:=match input[taken.toNat]? with|some n=>n % 4|none=>0
noncomputable def XP (a:Qa) (p:Qe):Qe×Uw:=
 if a.op=3 then((Yn p).1,Qf 0 0 0 0)
 else if a.op=2 then QY p a.word
 else if a.op=6 then(p,if ZL (Qq p p.layers.length) a.face then Qf 0 0 0 0 else Qf 1 0 a.face (Qq p p.layers.length))
 else if a.op=7 then QB p a.call
 else(p,Qf 0 0 0 0)
def QJ:Xo:=⟨0,0,0,0⟩
noncomputable def ZF (a:Qa) (place:Int) (s:ZV):ZV×Xo:=
 if a.op=1 then(⟨s.slots.set a.slot.toNat ⟨true,Xu a.word⟩,s.taken⟩,QJ)
 else if a.op=5 then(⟨s.slots.set a.slot.toNat WM,s.taken⟩,QJ)
 else if a.op=4 then(⟨s.slots.set a.slot.toNat (slotAt s.slots a.other),s.taken⟩,QJ)
 else if(slotAt s.slots a.slot).full=false then(s,⟨2,place,0,0⟩)
 else(⟨s.slots.set a.slot.toNat ⟨true,(XP a (slotAt s.slots a.slot).part).1⟩,s.taken⟩,
  if(XP a (slotAt s.slots a.slot).part).2.code=1 then⟨1,place,(XP a (slotAt s.slots a.slot).part).2.want,(XP a (slotAt s.slots a.slot).part).2.had⟩ else QJ)
def Zo:Nat->(ZV->ZV×Xo)->ZV->ZV×Xo
 |0,_,s=>(s,QJ)
 |n+1,f,s=>if(f s).2.code=0 then Zo n f (f s).1 else f s
mutual
noncomputable def Qa.run (input:List Int):Qa->Int->ZV->ZV×Xo
 | .mk op slot other word call face A B,place,s=>
  if op=8 then(if Wn input s.taken % 2=1 then QM input A (place+1) ⟨s.slots,s.taken+1⟩ else QM input B (place+1+Qd A) ⟨s.slots,s.taken+1⟩)
  else if op=9 then Zo (Wn input s.taken).toNat (fun t=>QM input A (place+1) t) ⟨s.slots,s.taken+1⟩
  else if op=10 then(if(QM input A (place+1) s).2.code=1 then QM input B (place+1+Qd A) (QM input A (place+1) s).1 else QM input A (place+1) s)
  else ZF (.mk op slot other word call face A B) place s
noncomputable def QM (input:List Int):List Qa->Int->ZV->ZV×Xo
 | [],_,s=>(s,QJ)
 |a::l,place,s=>if(a.run input place s).2.code=0 then QM input l (place+a.size) (a.run input place s).1 else a.run input place s
end
theorem Qa.run_eq (input:List Int) (a:Qa) (place:Int) (s:ZV):a.run input place s=
  if a.op=8 then(if Wn input s.taken % 2=1 then QM input a.A (place+1) ⟨s.slots,s.taken+1⟩ else QM input a.B (place+1+Qd a.A) ⟨s.slots,s.taken+1⟩)
  else if a.op=9 then Zo (Wn input s.taken).toNat (fun t=>QM input a.A (place+1) t) ⟨s.slots,s.taken+1⟩
  else if a.op=10 then(if(QM input a.A (place+1) s).2.code=1 then QM input a.B (place+1+Qd a.A) (QM input a.A (place+1) s).1 else QM input a.A (place+1) s)
  else ZF a place s:=by
 cases a;rw [Qa.run];rfl
open Classical in
noncomputable def uj (l:List Ql) (p:List Qa) (input:List Int):Xo×List Ql×Int:=
 if QH l/\Xn p then((QM input p 0 ⟨l,0⟩).2,(QM input p 0 ⟨l,0⟩).1.slots,(QM input p 0 ⟨l,0⟩).1.taken) else(⟨3,0,0,0⟩,l,0)
theorem Ga (l:List Ql) (i:Nat) (hi:i<l.length):l.flatMap Zj=(l.take i).flatMap Zj++(Zj l[i] ++(l.drop (i+1)).flatMap Zj):=by
 conv=>lhs;rw [<-T7 i l,N6 hi]
 rw [J0,J6]
theorem uZ (l:List Ql) (i:Nat) (hi:i<l.length) (x:Ql):(l.set i x).flatMap Zj=(l.take i).flatMap Zj++(Zj x++(l.drop (i+1)).flatMap Zj):=by
 rw [Ga (l.set i x) i (by simpa using hi),List.getElem_set_self,List.take_set_of_le (F0 i),List.drop_set_of_lt (by omega)]
theorem Gr (l:List Ql) (i:Nat) (hi:i<=l.length):((l.take i).flatMap Zj).length=i * 7:=by
 rw [Zs UH,J7,Nat.min_eq_left hi]
theorem yb (l:List Ql):(l.flatMap Zj).length=l.length * 7:=Zs UH l
theorem Yp.slotSet {w:World} {g cap L:Nat} {l:List Ql} {S S1:List Nat} {i:Nat} {x:Ql} {us:List Value} (hL:l.length=L) (h:Yp w (slots l) (.slice (some ⟨g,0,none⟩) L cap) S) (hi:i<L) (hx:Zm w (Zj x) us S1) (hd:∀y,y∈S1->y∉S):
  ∃S',Yp (Xc w g (i * 7) us) (slots (l.set i x)) (.slice (some ⟨g,0,none⟩) L cap) S'/\(∀y,y∈S'->y∈S∨y∈S1)/\g∈S/\Qc [g] w (Xc w g (i * 7) us):=by
 subst hL
 unfold slots at h ⊢
 obtain⟨S',h1,h2,h3,h4⟩:=h.putRow (j:=i * 7) (by rw [UH,yb];omega) hx hd
 refine⟨S',?_,h2,h3,h4⟩
 rw [Q1,uZ l i hi]
 have hs:=qI (Zj x) ((l.take i).flatMap Zj) (Zj l[i]) ((l.drop (i+1)).flatMap Zj) (by rw [UH,UH])
 rw [Gr l i (by omega), <-Ga l i hi] at hs
 rw [<-hs]
 exact h1
theorem Yp.slotPart {w:World} {g cap L:Nat} {l:List Ql} {S S1:List Nat} {i:Nat} {q:Qe} {us:List Value} (hL:l.length=L) (h:Yp w (slots l) (.slice (some ⟨g,0,none⟩) L cap) S) (hi:i<L) (hx:Zm w (WH q) us S1) (hd:∀y,y∈S1->y∉S) (hi2:i<l.length):
  ∃S',Yp (Xc w g (i * 7+1) us) (slots (l.set i ⟨l[i].full,q⟩)) (.slice (some ⟨g,0,none⟩) L cap) S'/\(∀y,y∈S'->y∈S∨y∈S1)/\g∈S/\Qc [g] w (Xc w g (i * 7+1) us):=by
 subst hL
 unfold slots at h ⊢
 obtain⟨S',h1,h2,h3,h4⟩:=h.putRow (j:=i * 7+1) (by rw [yx,yb];omega) hx hd
 refine⟨S',?_,h2,h3,h4⟩
 rw [Q1,uZ l i hi]
 have hs:=qI (WH q) ((l.take i).flatMap Zj++ [.v (.bool l[i].full)]) (WH l[i].part) ((l.drop (i+1)).flatMap Zj) (by rw [yx,yx])
 rw [I0,Gr l i (by omega)] at hs
 have e1:(l.take i).flatMap Zj++ [QD.v (.bool l[i].full)] ++(WH l[i].part++(l.drop (i+1)).flatMap Zj)=l.flatMap Zj:=by
  rw [Ga l i hi];unfold Zj;simp only [U2,M2,J9]
 have e2:(l.take i).flatMap Zj++ [QD.v (.bool l[i].full)] ++(WH q++(l.drop (i+1)).flatMap Zj)=(l.take i).flatMap Zj++(Zj ⟨l[i].full,q⟩++(l.drop (i+1)).flatMap Zj):=by
  unfold Zj;simp only [U2,M2,J9]
 rw [e1,e2] at hs
 rw [<-hs]
 exact h1
theorem Yp.slotAt {w:World} {g cap L:Nat} {l:List Ql} {S:List Nat} (hL:l.length=L) (h:Yp w (slots l) (.slice (some ⟨g,0,none⟩) L cap) S) {i:Nat} (hi:i<L) (hi2:i<l.length):
  ∃A3 c3 A5 c5,w.cell? ⟨g,i * 7,none⟩=some (.bool l[i].full)/\w.cell? ⟨g,i * 7+1,none⟩=some (.string l[i].part.core.kind)/\w.cell? ⟨g,i * 7+2,none⟩=some (.bool l[i].part.core.on)/\w.cell? ⟨g,i * 7+3,none⟩=some (.bool l[i].part.core.broken)/\
   w.cell? ⟨g,i * 7+4,none⟩=some (.slice A3 l[i].part.core.cells.length c3)/\w.cell? ⟨g,i * 7+5,none⟩=some (.int .i64 l[i].part.core.count)/\w.cell? ⟨g,i * 7+6,none⟩=some (.slice A5 l[i].part.layers.length c5)/\
   Rd w w.heap.size (cells l[i].part.core.cells) (.slice A3 l[i].part.core.cells.length c3)/\Rd w w.heap.size (layers l[i].part.layers) (.slice A5 l[i].part.layers.length c5)/\(∀o:Nat,o<7->w.frozen? ⟨g,i * 7+o,none⟩=false)/\g<w.heap.size:=by
 subst hL
 have hf:∀o:Nat,o<7->w.frozen? ⟨g,i * 7+o,none⟩=false:=fun o ho=>by
  unfold slots at h
  exact(h.room (j:=i * 7+o) (by rw [yb];omega)).1
 obtain⟨A,cap',e,_,_,hrow⟩:=Ja h.rd
 simp only [Value.slice.injEq,true_and] at e
 obtain⟨e1,e2⟩:=e
 subst e1 e2
 obtain⟨b,off,u4,u6,e,hb,q0,q1,q2,q3,q4,q5,q6,r4,r6⟩:=Kw hrow i hi
 simp only [O7,Addr.mk.injEq] at e
 obtain⟨rfl,rfl,_⟩:=e
 rw [J3] at q0 q1 q2 q3 q4 q5 q6
 obtain⟨A3,c3,rfl,_,_,_⟩:=QX r4
 obtain⟨A5,c5,rfl,_,_,_⟩:=Xb r6
 exact⟨A3,c3,A5,c5,q0,q1,q2,q3,q4,q5,q6,r4,r6,hf,hb⟩
theorem KS:∀x:List UInt8,Op.bytesLess x x=false
 | []=>rfl
 |a::x=>by simp [Op.bytesLess,KS x,UInt8.lt_irrefl]
theorem Gz:∀ {x y z:List UInt8},Op.bytesLess x y=true->Op.bytesLess y z=true->Op.bytesLess x z=true
 |_,[],_,h,_=>by unfold Op.bytesLess at h;simp at h
 |_,_::_,[],_,h=>by unfold Op.bytesLess at h;simp at h
 | [],_::_,_::_,_,_=>by unfold Op.bytesLess;rfl
 | a::x,b::y,c::z,h,k=>by
  unfold Op.bytesLess at h k ⊢
  simp only [Bool.or_eq_true,decide_eq_true_eq,T0,beq_iff_eq] at h k ⊢
  rcases h with h|⟨rfl,h⟩
  ·rcases k with k|⟨rfl,k⟩
   ·exact .inl (UInt8.lt_trans h k)
   ·exact .inl h
  ·rcases k with k|⟨rfl,k⟩
   ·exact .inl k
   ·exact .inr ⟨rfl,Gz h k⟩
theorem zA:∀ {x y:List UInt8},Op.bytesLess x y=false->x≠y->Op.bytesLess y x=true
 | [],[],_,h=>absurd rfl h
 | [],_::_,h,_=>by unfold Op.bytesLess at h;simp at h
 |_::_,[],_,_=>by unfold Op.bytesLess;rfl
 | a::x,b::y,h,k=>by
  unfold Op.bytesLess at h ⊢
  simp only [Bool.or_eq_false_iff,decide_eq_false_iff_not,Bool.and_eq_false_imp,beq_iff_eq,Bool.or_eq_true,decide_eq_true_eq,T0] at h ⊢
  by_cases hab:a=b
  ·subst hab
   exact .inr ⟨rfl,zA (h.2 rfl) (fun e=>k (by rw [e]))⟩
  ·left
   rcases UInt8.lt_or_lt_of_ne hab with h1|h1
   ·exact absurd h1 h.1
   ·exact h1
theorem vN {a b:ByteArray}:a.toList=b.toList↔a=b:=by
 constructor
 ·intro h
  rw [ByteArray.toList_eq,ByteArray.toList_eq] at h
  exact O5 (Q2.1 h)
 ·rintro rfl;rfl
def Asc (l:List QC):Prop:=l.Pairwise fun a b=>Op.bytesLess a.key.toList b.key.toList=true
theorem JT {l:List QC} (h:ZA l):Asc l:=by
 unfold Asc
 rw [U9]
 intro i j hi hj hij
 have key:∀d i (hi:i<l.length) (hj:i+1+d<l.length),Op.bytesLess l[i].key.toList l[i+1+d].key.toList=true:=by
  intro d
  induction d with
  |zero=>intro i hi hj;have:=(h.2 (i+1) hj).2.2 (by omega);simpa using this
  |succ d ih=>
   intro i hi hj
   have h1:=ih i hi (by omega)
   have h2:=(h.2 (i+1+(d+1)) hj).2.2 (by omega)
   exact Gz h1 (by simpa using h2)
 have:=key (j-i-1) i hi (by omega)
 have e:i+1+(j-i-1)=j:=by omega
 simpa only [e] using this
theorem Kf (l:List QC):ZA l↔l.length<=4/\(∀c∈l,qZ c.key/\ZK c.value)/\Asc l:=by
 constructor
 ·intro h
  refine⟨h.1,fun c hc=>?_,JT h⟩
  obtain⟨i,hi,rfl⟩:=M0 hc
  exact⟨(h.2 i hi).1,(h.2 i hi).2.1⟩
 ·rintro⟨h1,h2,h3⟩
  refine⟨h1,fun k hk=>⟨(h2 _ (I4 hk)).1,(h2 _ (I4 hk)).2,fun h0=>?_⟩⟩
  exact U9.1 h3 (k-1) k (by omega) hk (by omega)
theorem jM {l:List QC} {k:ByteArray} (h:∀c∈l,Op.bytesLess k.toList c.key.toList=true):VQ l k=none:=by
 induction l with
 |nil=>rfl
 |cons c l ih=>
  rw [VQ,if_neg (fun e=>by have:=h c (by simp);rw [e,KS] at this;cases this)]
  exact ih fun d hd=>h d (by simp [hd])
theorem vq {l:List QC} {k:ByteArray} (h:∀c∈l,c.key≠k):VQ l k=none:=by
 induction l with
 |nil=>rfl
 |cons c l ih=>
  rw [VQ,if_neg (h c (by simp))]
  exact ih fun d hd=>h d (by simp [hd])
theorem jX {k:ByteArray}:∀ {l:List QC} {i:Nat} (hi:i<l.length),(∀j (hj:j<l.length),j<i->l[j].key≠k)->l[i].key=k->VQ l k=some l[i].value
 |c::l,0,hi,_,h=>by rw [VQ];simp at h;rw [if_pos h];rfl
 |c::l,i+1,hi,hn,h=>by
  have h0:=hn 0 (by simp) (by omega)
  simp only [S6] at h0
  rw [VQ,if_neg h0]
  exact jX (l:=l) (i:=i) (by simpa using hi) (fun j hj hji=>by have:=hn (j+1) (by simpa using hj) (by omega);simpa using this) (by simpa using h)
theorem xK {k:ByteArray} {v:Int}:∀ {l:List QC} {i:Nat},i<=l.length->(∀j (hj:j<l.length),j<i->Op.bytesLess l[j].key.toList k.toList=true)->
  (∀(hi:i<l.length),Op.bytesLess l[i].key.toList k.toList=false)->XY l k v=if(l[i]?).any (fun c=>decide (c.key=k)) then l.set i ⟨k,v⟩ else l.take i++⟨k,v⟩::l.drop i
 | [],i,hi,_,_=>by
  obtain rfl:i=0:=by simpa using hi
  simp [XY]
 |c::l,0,_,_,h=>by
  have h0:=h (by simp)
  simp only [S6] at h0
  rw [XY,h0]
  simp only [Bool.false_eq_true,if_false,List.getElem?_cons_zero,Option.any_some,C8,T9,J9,List.drop_zero]
  by_cases hk:c.key=k
  ·simp [hk]
  ·simp [hk]
 |c::l,i+1,hi,hn,h=>by
  have h0:=hn 0 (by simp) (by omega)
  simp only [S6] at h0
  rw [XY,if_pos h0,xK (l:=l) (i:=i) (by simpa using hi) (fun j hj hji=>by have:=hn (j+1) (by simpa using hj) (by omega);simpa using this) (fun hi'=>by have:=h (by simpa using hi');simpa using this)]
  simp only [List.getElem?_cons_succ]
  split<;>simp
theorem Qfg (l:List QC) (k:ByteArray) (v:Int):(XY l k v).length<=l.length+1:=by
 induction l with
 |nil=>simp [XY]
 |cons c l ih=>
  rw [XY]
  split
  ·simp;omega
  ·split<;>simp
theorem wx {l:List QC} {k:ByteArray} {v:Int} (ha:Asc l) (h:VQ l k≠none):(XY l k v).length=l.length:=by
 induction l with
 |nil=>exact absurd rfl h
 | cons c l ih=>
  rw [VQ] at h
  rw [XY]
  have ha':=V1.1 ha
  by_cases h1:Op.bytesLess c.key.toList k.toList=true
  ·rw [if_pos h1]
   have:c.key≠k:=fun e=>by rw [e,KS] at h1;cases h1
   rw [if_neg this] at h
   simp [ih ha'.2 h]
  ·rw [if_neg h1]
   by_cases h2:c.key=k
   ·rw [if_pos h2];simp
   ·rw [if_neg h2] at h
    have h3:=zA (by simpa using h1) (fun e=>h2 (vN.1 e))
    exact absurd (jM fun d hd=>Gz h3 (ha'.1 d hd)) h
theorem j8 {l:List QC} {k:ByteArray} {v:Int} {c:QC} (h:c∈XY l k v):c=⟨k,v⟩∨c∈l:=by
 induction l with
 |nil=>simpa [XY] using h
 | cons d l ih=>
  rw [XY] at h
  split at h
  ·rcases C7.1 h with rfl|h
   ·exact .inr (by simp)
   ·exact(ih h).imp id (fun x=>by simp [x])
  ·split at h
   ·rcases C7.1 h with rfl|h
    ·exact .inl rfl
    ·exact .inr (by simp [h])
   ·rcases C7.1 h with rfl|h
    ·exact .inl rfl
    ·exact .inr h
theorem Qfp {l:List QC} {k:ByteArray} {v:Int} (ha:Asc l):Asc (XY l k v):=by
 induction l with
 |nil=>unfold XY Asc;simp
 | cons c l ih=>
  have ha':=V1.1 ha
  rw [XY]
  by_cases h1:Op.bytesLess c.key.toList k.toList=true
  ·rw [if_pos h1]
   refine V1.2 ⟨fun d hd=>?_,ih ha'.2⟩
   rcases j8 hd with rfl|hd
   ·exact h1
   ·exact ha'.1 d hd
  ·rw [if_neg h1]
   by_cases h2:c.key=k
   ·rw [if_pos h2]
    exact V1.2 ⟨fun d hd=>by have:=ha'.1 d hd;rw [h2] at this;exact this,ha'.2⟩
   ·rw [if_neg h2]
    have h3:=zA (by simpa using h1) (fun e=>h2 (vN.1 e))
    refine V1.2 ⟨fun d hd=>?_,ha⟩
    rcases C7.1 hd with rfl|hd
    ·exact h3
    ·exact Gz h3 (ha'.1 d hd)
theorem Qft {l:List QC} {k:ByteArray} {v:Int} (h:ZA l) (hk:qZ k) (hv:ZK v) (hl:VQ l k≠none∨l.length<4):ZA (XY l k v):=by
 rw [Kf] at h ⊢
 refine⟨?_,fun c hc=>?_,Qfp h.2.2⟩
 ·rcases hl with hl|hl
  ·rw [wx h.2.2 hl];exact h.1
  ·have:=Qfg l k v;omega
 ·rcases j8 hc with rfl|hc
  ·exact⟨hk,hv⟩
  ·exact h.2.1 c hc
theorem Jp {l:List QC} {k:ByteArray} {i:Nat} (ha:Asc l) (hb:∀j (hj:j<l.length),j<i->Op.bytesLess l[j].key.toList k.toList=true) (hs:∀h:i<l.length,Op.bytesLess l[i].key.toList k.toList=false):
  VQ l k=(l[i]?).bind fun c=>if c.key=k then some c.value else none:=by
 have hlow:∀j (hj:j<l.length),j<i->l[j].key≠k:=fun j hj hji e=>by have:=hb j hj hji;rw [e,KS] at this;cases this
 by_cases hi:i<l.length
 ·rw [F8 hi]
  show _=if l[i].key=k then some l[i].value else none
  by_cases hk:l[i].key=k
  ·rw [if_pos hk];exact jX hi hlow hk
  ·rw [if_neg hk]
   refine vq fun c hc=>?_
   obtain⟨j,hj,rfl⟩:=M0 hc
   rcases Nat.lt_trichotomy j i with h|h|h
   ·exact hlow j hj h
   ·subst h;exact hk
   ·intro e
    have h1:=zA (hs hi) (fun e=>hk (vN.1 e))
    have h2:=Gz h1 (U9.1 ha i j hi hj h)
    rw [e,KS] at h2;cases h2
 ·rw [L2 (by omega)]
  refine vq fun c hc=>?_
  obtain⟨j,hj,rfl⟩:=M0 hc
  exact hlow j hj (by omega)
theorem xS:(Qw=QR)=False/\(Qw=Zz)=False/\(Qw=Zu)=False/\(Qw=QQ)=False/\(Qw=QV)=False/\(Qw=Zy)=False/\(Qw=XI)=False/\(Qw=Xk)=False/\(QR=Qw)=False/\(QR=Zz)=False/\(QR=Zu)=False/\(QR=QQ)=False/\(QR=QV)=False/\(QR=Zy)=False/\(QR=XI)=False/\(QR=Xk)=False/\(Zz=Qw)=False/\(Zz=QR)=False/\(Zz=Zu)=False/\(Zz=QQ)=False/\(Zz=QV)=False/\(Zz=Zy)=False/\(Zz=XI)=False/\(Zz=Xk)=False/\(Zu=Qw)=False/\(Zu=QR)=False/\(Zu=Zz)=False/\(Zu=QQ)=False/\(Zu=QV)=False/\(Zu=Zy)=False/\(Zu=XI)=False/\(Zu=Xk)=False/\(QQ=Qw)=False/\(QQ=QR)=False/\(QQ=Zz)=False/\(QQ=Zu)=False/\(QQ=QV)=False/\(QQ=Zy)=False/\(QQ=XI)=False/\(QQ=Xk)=False/\(QV=Qw)=False/\(QV=QR)=False/\(QV=Zz)=False/\(QV=Zu)=False/\(QV=QQ)=False/\(QV=Zy)=False/\(QV=XI)=False/\(QV=Xk)=False/\(Zy=Qw)=False/\(Zy=QR)=False/\(Zy=Zz)=False/\(Zy=Zu)=False/\(Zy=QQ)=False/\(Zy=QV)=False/\(Zy=XI)=False/\(Zy=Xk)=False/\(XI=Qw)=False/\(XI=QR)=False/\(XI=Zz)=False/\(XI=Zu)=False/\(XI=QQ)=False/\(XI=QV)=False/\(XI=Zy)=False/\(XI=Xk)=False/\(Xk=Qw)=False/\(Xk=QR)=False/\(Xk=Zz)=False/\(Xk=Zu)=False/\(Xk=QQ)=False/\(Xk=QV)=False/\(Xk=Zy)=False/\(Xk=XI)=False:=by and_intros<;>exact eq_false (by decide)
theorem UQ:Zg Qw=some 0/\Zg QR=some 0/\Zg Zz=some 1/\Zg Zu=some 1/\Zg QQ=some 2/\Zg QV=some 3/\Zg Zy=some 4/\Zg XI=some 4/\Zg Xk=some 5:=by
 refine⟨?_,?_,?_,?_,?_,?_,?_,?_,?_⟩<;>(unfold Zg;rw [ByteArray.toList_eq];rfl)
theorem Yl:ZR Qw=1:=by unfold ZR;rw [UQ.1];rfl
theorem YT:ZR QR=1:=by unfold ZR;rw [UQ.2.1];rfl
theorem Vd:ZR Zz=2:=by unfold ZR;rw [UQ.2.2.1];rfl
theorem Va:ZR Zu=2:=by unfold ZR;rw [UQ.2.2.2.1];rfl
theorem WQ:ZR QQ=4:=by unfold ZR;rw [UQ.2.2.2.2.1];rfl
theorem Ws:ZR QV=8:=by unfold ZR;rw [UQ.2.2.2.2.2.1];rfl
theorem Wt:ZR Zy=16:=by unfold ZR;rw [UQ.2.2.2.2.2.2.1];rfl
theorem WV:ZR XI=16:=by unfold ZR;rw [UQ.2.2.2.2.2.2.2.1];rfl
theorem WW:ZR Xk=32:=by unfold ZR;rw [UQ.2.2.2.2.2.2.2.2];rfl
theorem YS {x:QL} (h:QS x):x.method=Qw∨x.method=QR∨x.method=Zz∨x.method=Zu∨x.method=QQ∨x.method=QV∨x.method=Zy∨x.method=XI∨x.method=Xk:=by
 have h1:=h.1
 obtain⟨k,hk⟩:=O6.1 h1
 obtain⟨j,hj,rfl,hm⟩:=Ku hk
 match j,hj,hm with
 |0,_,hm|1,_,hm|4,_,hm=>simp only [XS,C7,F1,or_false] at hm;rcases hm with hm|hm<;>simp [hm]
 |2,_,hm|3,_,hm|5,_,hm=>simp only [XS,C7,F1,or_false] at hm;simp [hm]
theorem yX {p:ZS} {x:QL} (h:x.method=Qw):XJ p x=if p.broken=true then(p,Qf 3 0 0 0) else if p.on=true then({p with on:=false,broken:=true},Qf 3 0 0 0) else({p with on:=true,count:=qX p.count},Qf 0 0 0 0):=by
 unfold XJ;rw [h];simp [xS]
theorem vC {p:ZS} {x:QL} (h:x.method=QR):XJ p x=if p.broken=true then(p,Qf 3 0 0 0) else if p.on=true then({p with on:=false},Qf 0 0 0 0) else(p,Qf 2 0 0 0):=by
 unfold XJ;rw [h];simp [xS]
theorem kg {p:ZS} {x:QL} (h:x.method=Zz):XJ p x=if p.broken=true then(p,Qf 3 0 0 0) else WX p x:=by
 unfold XJ;rw [h];simp [xS]
theorem uC {p:ZS} {x:QL} (h:x.method=Zu):XJ p x=if p.broken=true then(p,Qf 3 0 0 0) else WX p x:=by
 unfold XJ;rw [h];simp [xS]
theorem qV {p:ZS} {x:QL} (h:x.method=QQ):XJ p x=(p,Qf 0 p.count 0 0):=by
 unfold XJ;rw [h];simp [xS]
theorem wN {p:ZS} {x:QL} (h:x.method=QV):XJ p x=if p.broken=true then(p,Qf 3 0 0 0) else({p with count:=qX p.count,on:=(x.value==1) || (p.on&&!(x.value==0)) },Qf 0 (qX p.count) 0 0):=by
 unfold XJ;rw [h];simp [xS]
theorem vn {p:ZS} {x:QL} (h:x.method=Zy):XJ p x=if p.broken=true then(p,Qf 3 0 0 0) else(match Qy x.text with|none=>(p,Qf 6 0 0 0)|some l=>({p with cells:=l},Qf 0 l.length 0 0)):=by
 unfold XJ;rw [h];simp [xS] <;>rfl
theorem wL {p:ZS} {x:QL} (h:x.method=XI):XJ p x=if p.broken=true then(p,Qf 3 0 0 0) else(p,⟨0,0,VX p.cells,0,0⟩):=by
 unfold XJ;rw [h];simp [xS]
theorem wS {p:ZS} {x:QL} (h:x.method=Xk):XJ p x=({p with on:=false,broken:=false},Qf 0 0 0 0):=by
 unfold XJ;rw [h];simp [xS]

theorem jd {n:Int} (h:ZK n):ZK (qX n):=by
 unfold ZK at *;unfold qX;omega
theorem vT {s:ByteArray} {l:List QC} (h:Qy s=some l):ZA l:=by
 unfold Qy at h
 split at h
 ·injection h with h;subst h;exact⟨by simp,fun k hk=>by simp at hk⟩
 ·split at h
  ·rename_i hx;injection h with h;rw [<-h];exact hx.choose_spec.2
  ·cases h
theorem UD {f:Int} {k:Nat} (hk:k<6) (h:ZL f (2 ^ k:Nat)):has f k=true:=by
 refine h.2.2 ⟨k,hk⟩ ?_
 obtain rfl|rfl|rfl|rfl|rfl|rfl:k=0∨k=1∨k=2∨k=3∨k=4∨k=5:=by omega
 all_goals(clear h;revert hk;decide)
theorem Qdp {s:ByteArray} {f:Int} (h:Qo s=some f):has f 3=true->has f 0=true:=by
 obtain⟨n,hn⟩:=Gk h
 have:∀x∈kinds,has x.2 3=true->has x.2 0=true:=by decide
 exact this _ hn
theorem QcZ {s:ByteArray} {f:Int} (h:Qo s=some f):has f 4=true->has f 1=true:=by
 obtain⟨n,hn⟩:=Gk h
 have:∀x∈kinds,has x.2 4=true->has x.2 1=true:=by decide
 exact this _ hn
theorem Qak (p:ZS) (x:QL):(WX p x).1=p∨(x.method≠Zz/\¬(VQ p.cells x.key=none/\4<=p.cells.length)/\(WX p x).1={p with cells:=XY p.cells x.key x.value,count:=qX p.count}):=by
 unfold WX
 split
 ·exact .inl rfl
 ·split
  ·exact .inl rfl
  ·split
   ·exact .inl rfl
   ·exact .inr ⟨by assumption,by assumption,rfl⟩
theorem Qa5 {p:ZS} {x:QL} (h:XO p) (hx:QS x) (hm:x.method=Zz∨x.method=Zu) (hf:has ((Qo p.kind).getD 0) 1=true):XO (WX p x).1/\(WX p x).1.kind=p.kind:=by
 rcases Qak p x with e|⟨e0,e1,e⟩
 ·rw [e];exact⟨h,rfl⟩
 ·rw [e]
  refine⟨?_,rfl⟩
  have hp:x.method=Zu:=hm.resolve_left e0
  obtain⟨f,h1,h2,h3,h4,h5,h6⟩:=h
  rw [h1] at hf
  have hk:qZ x.key/\ZK x.value:=by
   rcases hx.2.2 with hh|hh|hh|hh
   ·exact absurd hh.1 e0
   ·exact hh.2
   ·rw [hp] at hh;simp only [xS,false_and] at hh
   ·exact absurd hp hh.2.1
  exact⟨f,h1,Qft h2 hk.1 hk.2 (by
   by_cases h:VQ p.cells x.key=none
   ·exact .inr (Nat.lt_of_not_le fun h'=>e1 ⟨h,h'⟩)
   ·exact .inl h),fun _=>hf,jd h4,h5,h6⟩
theorem QeQ {p:ZS} {x:QL} (h:XO p) (hx:QS x) (hf:ZL ((Qo p.kind).getD 0) (ZR x.method)):XO (XJ p x).1/\(XJ p x).1.kind=p.kind:=by
 have hok:=h
 obtain⟨f,h1,h2,h3,h4,h5,h6⟩:=h
 have hff:=hf
 rw [h1] at hff
 simp only [Option.getD_some] at hff
 rcases YS hx with m|m|m|m|m|m|m|m|m
 ·rw [m,Yl] at hff
  have b:=UD (k:=0) (by omega) hff
  rw [yX m]
  split
  ·exact⟨hok,rfl⟩
  ·rename_i hb
   split
   ·exact⟨⟨f,h1,h2,h3,h4,by simp,.inl b⟩,rfl⟩
   ·exact⟨⟨f,h1,h2,h3,jd h4,by simp;simpa using hb,.inl b⟩,rfl⟩
 ·rw [m,YT] at hff
  have b:=UD (k:=0) (by omega) hff
  rw [vC m]
  split
  ·exact⟨hok,rfl⟩
  ·split
   ·exact⟨⟨f,h1,h2,h3,h4,by simp,.inl b⟩,rfl⟩
   ·exact⟨hok,rfl⟩
 ·rw [kg m]
  split
  ·exact⟨hok,rfl⟩
  ·rw [m,Vd] at hf
   exact Qa5 hok hx (.inl m) (UD (k:=1) (by omega) hf)
 ·rw [uC m]
  split
  ·exact⟨hok,rfl⟩
  ·rw [m,Va] at hf
   exact Qa5 hok hx (.inr m) (UD (k:=1) (by omega) hf)
 ·rw [qV m];exact⟨hok,rfl⟩
 ·rw [m,Ws] at hff
  have b:=Qdp h1 (UD (k:=3) (by omega) hff)
  rw [wN m]
  split
  ·exact⟨hok,rfl⟩
  ·rename_i hb
   exact⟨⟨f,h1,h2,h3,jd h4,by simp only [not_and];intro _;simpa using hb,.inl b⟩,rfl⟩
 ·rw [m,Wt] at hff
  have b:=QcZ h1 (UD (k:=4) (by omega) hff)
  rw [vn m]
  split
  ·exact⟨hok,rfl⟩
  ·split
   ·exact⟨hok,rfl⟩
   ·rename_i l hl
    exact⟨⟨f,h1,vT hl,fun _=>b,h4,h5,h6⟩,rfl⟩
 ·rw [wL m]
  split
  ·exact⟨hok,rfl⟩
  ·exact⟨hok,rfl⟩
 ·rw [wS m]
  exact⟨⟨f,h1,h2,h3,h4,by simp,.inr ⟨rfl,rfl⟩⟩,rfl⟩
structure YV (n:Nat) (p q:Qe):Prop where
 kind:q.core.kind=p.core.kind
 len:q.layers.length=p.layers.length
 name:∀(k:Nat) (h:k<p.layers.length) (h':k<q.layers.length),q.layers[k].name=p.layers[k].name
 rest:∀(k:Nat) (h:k<p.layers.length) (h':k<q.layers.length),n<=k->q.layers[k]=p.layers[k]
theorem YV.refl (n:Nat) (p:Qe):YV n p p:=⟨rfl,rfl,fun _ _ _=>rfl,fun _ _ _ _=>rfl⟩
theorem YV.trans {n:Nat} {p q r:Qe} (h:YV n p q) (k:YV n q r):YV n p r:=
 ⟨k.kind.trans h.kind,k.len.trans h.len,fun i hi hi'=>(k.name i (by rw [h.len];exact hi) hi').trans (h.name i hi (by rw [h.len];exact hi)),fun i hi hi' hn=>(k.rest i (by rw [h.len];exact hi) hi' hn).trans (h.rest i hi (by rw [h.len];exact hi) hn)⟩
theorem YV.mono {n m:Nat} {p q:Qe} (h:YV n p q) (hm:n<=m):YV m p q:=⟨h.kind,h.len,h.name,fun k a b c=>h.rest k a b (by omega)⟩
theorem YV.face {n:Nat} {p q:Qe} (h:YV n p q) (k:Nat) (hk:k<=p.layers.length):Qq q k=Qq p k:=by
 rcases Nat.eq_zero_or_pos k with rfl|h0
 ·rw [Kr,Kr,h.kind]
 ·rw [Wb q k h0 (by rw [h.len];omega),Wb p k h0 (by omega),h.name (k-1) (by omega) (by rw [h.len];omega)]
theorem YV.lay {n k:Nat} {p q:Qe} (h:YV n p q) (hk:k<p.layers.length) (hn:n<=k):Zh q k=Zh p k:=by
 unfold Zh
 rw [F8 hk,F8 (by rw [h.len];exact hk),h.rest k hk (by rw [h.len];exact hk) hn]
theorem ZJ {p:Qe} {k:Nat} (h:k<p.layers.length):Zh p k=p.layers[k]:=by unfold Zh;rw [F8 h];rfl
theorem Kx {p:Qe} {n:Nat} (h:n<p.layers.length):YP p n=⟨p.core,p.layers.set n ⟨p.layers[n].name,qX p.layers[n].count⟩⟩:=by
 unfold YP;rw [F8 h]
theorem UG {p:Qe} {n:Nat} (h:n<p.layers.length):YV (n+1) p (YP p n):=by
 rw [Kx h]
 refine⟨rfl,by simp,fun k hk hk'=>?_,fun k hk hk' hn=>?_⟩
 ·simp only [T4]
  split
  ·rename_i e;subst e;rfl
  ·rfl
 ·simp only [T4]
  rw [if_neg (by omega)]
structure Zr (n:Nat) (p:Qe) (x:QL):Prop where
 part:Qn p
 le:n<=p.layers.length
 call:QS x
 offer:ZL (Qq p n) (ZR x.method)
theorem Zr.to {n m:Nat} {p q:Qe} {x:QL} (h:Zr n p x) (hs:YV m p q) (hq:Qn q):Zr n q x:=
 ⟨hq,by rw [hs.len];exact h.le,h.call,by rw [hs.face n h.le];exact h.offer⟩
theorem QfM {p:Qe} {n:Nat} (hp:Qn p) (h:n<p.layers.length) (hn:p.layers[n].name=Zk∨p.layers[n].name=ZW):Qn (YP p n):=by
 have hs:=UG h
 refine⟨by rw [Kx h];exact hp.1,by rw [hs.len];exact hp.2.1,fun k hk=>?_⟩
 have hk':k<p.layers.length:=by rw [<-hs.len];exact hk
 obtain⟨x,h1,h2,h3,h4⟩:=hp.2.2 k hk'
 refine⟨x,by rw [hs.name k hk' hk];exact h1,by rw [hs.face k (by omega)];exact h2,?_⟩
 by_cases e:n=k
 ·subst e
  have e2:(YP p n).layers[n]=⟨p.layers[n].name,qX p.layers[n].count⟩:=by simp only [Kx h,T4,if_true]
  rw [e2]
  refine⟨jd h3,.inr ?_⟩
  rcases hn with hn|hn
  ·left;rw [hn,ByteArray.toList_eq];rfl
  ·right;rw [hn,ByteArray.toList_eq];rfl
 ·have e2:(YP p n).layers[k]=p.layers[k]:=by simp only [Kx h,T4];rw [if_neg e]
  rw [e2]
  exact⟨h3,h4⟩
theorem QfG {p:Qe} {c:ZS} (hp:Qn p) (hc:XO c) (hk:c.kind=p.core.kind):Qn ⟨c,p.layers⟩/\YV 0 p ⟨c,p.layers⟩:=by
 have hs:YV 0 p ⟨c,p.layers⟩:=⟨hk,rfl,fun _ _ _=>rfl,fun _ _ _ _=>rfl⟩
 exact⟨⟨hc,hp.2.1,fun k h=>by obtain⟨x,h1,h2,h3⟩:=hp.2.2 k h;exact⟨x,h1,by rw [hs.face k (by have:=h;simp at this;omega)];exact h2,h3⟩⟩,hs⟩
theorem QcH {m:ByteArray} (h:m=Qw∨m=QR):QS (only m):=by
 rcases h with rfl|rfl
 all_goals
  refine⟨?_,.inl rfl,.inr (.inr (.inr ⟨?_,?_,?_,rfl,rfl⟩))⟩
  ·first|(show Zg Qw≠none;rw [UQ.1];simp)|(show Zg QR≠none;rw [UQ.2.1];simp)
  all_goals(show ¬(_=_);simp only [only,xS,not_false_eq_true])

theorem QaX {s:ByteArray} {x:Int×Int} (h:Qj s=some x):(s=⟨#[112,108,97,105,110]⟩/\x=(0,0))∨(s=⟨#[114,117,110,115]⟩/\x=(1,1))∨(s=⟨#[107,101,101,112,115]⟩/\x=(2,2))∨(s=⟨#[99,111,117,110,116,115]⟩/\x=(2,6))∨(s=⟨#[108,97,122,121]⟩/\x=(3,3))∨(s=⟨#[114,101,97,100,115]⟩/\x=(2,2))∨(s=⟨#[104,101,97,114,115]⟩/\x=(1,9))∨(s=⟨#[104,101,97,108,115]⟩/\x=(1,33))∨(s=⟨#[116,119,105,99,101]⟩/\x=(4,4)):=by
 unfold Qj at h
 have key:∀(l:List (List UInt8×(Int×Int))),look s.toList l=some x->∃y∈l,s.toList=y.1/\x=y.2:=by
  intro l
  induction l with
  |nil=>intro h;simp [look] at h
  |cons y l ih=>
   obtain⟨n,z⟩:=y
   intro h
   rw [look] at h
   split at h
   ·injection h with h;exact⟨(n,z),by simp,by assumption,h.symm⟩
   ·obtain⟨y,h1,h2⟩:=ih h;exact⟨y,by simp [h1],h2⟩
 obtain⟨y,hy,h1,h2⟩:=key _ h
 have sb:∀l:List UInt8,s.toList=l->s=⟨l.toArray⟩:=fun l hl=>by
  rw [ByteArray.toList_eq] at hl
  exact O5 (Q2.1 hl)
 have h3:=sb _ h1
 simp only [Yk,C7,F1,or_false] at hy
 rcases hy with rfl|rfl|rfl|rfl|rfl|rfl|rfl|rfl|rfl<;>simp [h3,h2]

def WD:ByteArray:=⟨#[114,117,110,115]⟩
def Yc:ByteArray:=⟨#[107,101,101,112,115]⟩
theorem QcW {f a b:Int} (h:ZL f a) (hb:ZL a b):ZL f b:=⟨h.1,hb.2.1,fun k hk=>h.2.2 k (hb.2.2 k hk)⟩
inductive Qhb (n:Nat) (p:Qe) (x:QL) (name:ByteArray):Prop where
 |countTell (e:name=Zk) (m:x.method=QQ)
 |countKeep (e:name=Zk) (m:VK x) (h:Zr n p x)
 |lazyKeep (e:name=YA) (m:VK x) (h:Zr n p x) (h':Zr n p (only Qw))
 |readsPut (e:name=XD) (m:x.method=Zu)
 |hearsHear (e:name=ZW) (m:x.method=QV) (h:Zr n p (only QR)) (h':Zr n p (only Qw))
 |healsHeal (e:name=Xs) (m:x.method=Xk) (h:Zr n p (only QR)) (h':Zr n p (only Qw))
 |twiceTell (e:name=XU) (m:x.method=QQ) (h:Zr n p x)
 |start (e:name=WD∨name=YA∨name=ZW∨name=Xs) (m:x.method=Qw∨x.method=QR) (h:Zr n p x)
 |keep (e:name=Yc) (m:VK x) (h:Zr n p x)
 |readsGet (e:name=XD) (m:x.method=Zz) (h:Zr n p x)
theorem kR {n:Nat} {p:Qe} {x:QL} (h:Zr (n+1) p x) (hn:n<p.layers.length):Qhb n p x p.layers[n].name:=by
 obtain⟨y,h1,h2,_,_⟩:=h.part.2.2 n hn
 have hof:=h.offer
 rw [Wb p (n+1) (by omega) (by simpa using hn)] at hof
 simp only [Nat.add_sub_cancel,h1,Option.getD_some] at hof
 have mk:∀ {z:QL},QS z->ZL y.1 (ZR z.method)->Zr n p z:=fun hc ho=>⟨h.part,by omega,hc,QcW h2 ho⟩
 have hs:ZL y.1 (ZR (only Qw).method)->Zr n p (only Qw):=mk (QcH (.inl rfl))
 have ht:ZL y.1 (ZR (only QR).method)->Zr n p (only QR):=mk (QcH (.inr rfl))
 have hx:=mk h.call
 simp only [only,Yl] at hs
 simp only [only,YT] at ht
 rcases QaX h1 with ⟨e,rfl⟩|⟨e,rfl⟩|⟨e,rfl⟩|⟨e,rfl⟩|⟨e,rfl⟩|⟨e,rfl⟩|⟨e,rfl⟩|⟨e,rfl⟩|⟨e,rfl⟩
 ·simp only at hof hx hs ht
  rcases YS h.call with m|m|m|m|m|m|m|m|m
  ·rw [m,Yl] at hof;exact absurd hof (by decide)
  ·rw [m,YT] at hof;exact absurd hof (by decide)
  ·rw [m,Vd] at hof;exact absurd hof (by decide)
  ·rw [m,Va] at hof;exact absurd hof (by decide)
  ·rw [m,WQ] at hof;exact absurd hof (by decide)
  ·rw [m,Ws] at hof;exact absurd hof (by decide)
  ·rw [m,Wt] at hof;exact absurd hof (by decide)
  ·rw [m,WV] at hof;exact absurd hof (by decide)
  ·rw [m,WW] at hof;exact absurd hof (by decide)
 ·simp only at hof hx hs ht
  rcases YS h.call with m|m|m|m|m|m|m|m|m
  ·rw [m,Yl] at hx;exact .start (.inl e) (.inl m) (hx (by decide))
  ·rw [m,YT] at hx;exact .start (.inl e) (.inr m) (hx (by decide))
  ·rw [m,Vd] at hof;exact absurd hof (by decide)
  ·rw [m,Va] at hof;exact absurd hof (by decide)
  ·rw [m,WQ] at hof;exact absurd hof (by decide)
  ·rw [m,Ws] at hof;exact absurd hof (by decide)
  ·rw [m,Wt] at hof;exact absurd hof (by decide)
  ·rw [m,WV] at hof;exact absurd hof (by decide)
  ·rw [m,WW] at hof;exact absurd hof (by decide)
 ·simp only at hof hx hs ht
  rcases YS h.call with m|m|m|m|m|m|m|m|m
  ·rw [m,Yl] at hof;exact absurd hof (by decide)
  ·rw [m,YT] at hof;exact absurd hof (by decide)
  ·rw [m,Vd] at hx;exact .keep e (.inl m) (hx (by decide))
  ·rw [m,Va] at hx;exact .keep e (.inr m) (hx (by decide))
  ·rw [m,WQ] at hof;exact absurd hof (by decide)
  ·rw [m,Ws] at hof;exact absurd hof (by decide)
  ·rw [m,Wt] at hof;exact absurd hof (by decide)
  ·rw [m,WV] at hof;exact absurd hof (by decide)
  ·rw [m,WW] at hof;exact absurd hof (by decide)
 ·simp only at hof hx hs ht
  rcases YS h.call with m|m|m|m|m|m|m|m|m
  ·rw [m,Yl] at hof;exact absurd hof (by decide)
  ·rw [m,YT] at hof;exact absurd hof (by decide)
  ·rw [m,Vd] at hx;exact .countKeep e (.inl m) (hx (by decide))
  ·rw [m,Va] at hx;exact .countKeep e (.inr m) (hx (by decide))
  ·rw [m,WQ] at hx;exact .countTell e m
  ·rw [m,Ws] at hof;exact absurd hof (by decide)
  ·rw [m,Wt] at hof;exact absurd hof (by decide)
  ·rw [m,WV] at hof;exact absurd hof (by decide)
  ·rw [m,WW] at hof;exact absurd hof (by decide)
 ·simp only at hof hx hs ht
  rcases YS h.call with m|m|m|m|m|m|m|m|m
  ·rw [m,Yl] at hx;exact .start (.inr (.inl e)) (.inl m) (hx (by decide))
  ·rw [m,YT] at hx;exact .start (.inr (.inl e)) (.inr m) (hx (by decide))
  ·rw [m,Vd] at hx;exact .lazyKeep e (.inl m) (hx (by decide)) (hs (by decide))
  ·rw [m,Va] at hx;exact .lazyKeep e (.inr m) (hx (by decide)) (hs (by decide))
  ·rw [m,WQ] at hof;exact absurd hof (by decide)
  ·rw [m,Ws] at hof;exact absurd hof (by decide)
  ·rw [m,Wt] at hof;exact absurd hof (by decide)
  ·rw [m,WV] at hof;exact absurd hof (by decide)
  ·rw [m,WW] at hof;exact absurd hof (by decide)
 ·simp only at hof hx hs ht
  rcases YS h.call with m|m|m|m|m|m|m|m|m
  ·rw [m,Yl] at hof;exact absurd hof (by decide)
  ·rw [m,YT] at hof;exact absurd hof (by decide)
  ·rw [m,Vd] at hx;exact .readsGet e m (hx (by decide))
  ·rw [m,Va] at hx;exact .readsPut e m
  ·rw [m,WQ] at hof;exact absurd hof (by decide)
  ·rw [m,Ws] at hof;exact absurd hof (by decide)
  ·rw [m,Wt] at hof;exact absurd hof (by decide)
  ·rw [m,WV] at hof;exact absurd hof (by decide)
  ·rw [m,WW] at hof;exact absurd hof (by decide)
 ·simp only at hof hx hs ht
  rcases YS h.call with m|m|m|m|m|m|m|m|m
  ·rw [m,Yl] at hx;exact .start (.inr (.inr (.inl e))) (.inl m) (hx (by decide))
  ·rw [m,YT] at hx;exact .start (.inr (.inr (.inl e))) (.inr m) (hx (by decide))
  ·rw [m,Vd] at hof;exact absurd hof (by decide)
  ·rw [m,Va] at hof;exact absurd hof (by decide)
  ·rw [m,WQ] at hof;exact absurd hof (by decide)
  ·rw [m,Ws] at hx;exact .hearsHear e m (ht (by decide)) (hs (by decide))
  ·rw [m,Wt] at hof;exact absurd hof (by decide)
  ·rw [m,WV] at hof;exact absurd hof (by decide)
  ·rw [m,WW] at hof;exact absurd hof (by decide)
 ·simp only at hof hx hs ht
  rcases YS h.call with m|m|m|m|m|m|m|m|m
  ·rw [m,Yl] at hx;exact .start (.inr (.inr (.inr e))) (.inl m) (hx (by decide))
  ·rw [m,YT] at hx;exact .start (.inr (.inr (.inr e))) (.inr m) (hx (by decide))
  ·rw [m,Vd] at hof;exact absurd hof (by decide)
  ·rw [m,Va] at hof;exact absurd hof (by decide)
  ·rw [m,WQ] at hof;exact absurd hof (by decide)
  ·rw [m,Ws] at hof;exact absurd hof (by decide)
  ·rw [m,Wt] at hof;exact absurd hof (by decide)
  ·rw [m,WV] at hof;exact absurd hof (by decide)
  ·rw [m,WW] at hx;exact .healsHeal e m (ht (by decide)) (hs (by decide))
 ·simp only at hof hx hs ht
  rcases YS h.call with m|m|m|m|m|m|m|m|m
  ·rw [m,Yl] at hof;exact absurd hof (by decide)
  ·rw [m,YT] at hof;exact absurd hof (by decide)
  ·rw [m,Vd] at hof;exact absurd hof (by decide)
  ·rw [m,Va] at hof;exact absurd hof (by decide)
  ·rw [m,WQ] at hx;exact .twiceTell e m (hx (by decide))
  ·rw [m,Ws] at hof;exact absurd hof (by decide)
  ·rw [m,Wt] at hof;exact absurd hof (by decide)
  ·rw [m,WV] at hof;exact absurd hof (by decide)
  ·rw [m,WW] at hof;exact absurd hof (by decide)
theorem nne:(Zk=YA)=False/\(Zk=XD)=False/\(Zk=ZW)=False/\(Zk=Xs)=False/\(Zk=XU)=False/\(Zk=WD)=False/\(Zk=Yc)=False/\(YA=Zk)=False/\(YA=XD)=False/\(YA=ZW)=False/\(YA=Xs)=False/\(YA=XU)=False/\(YA=WD)=False/\(YA=Yc)=False/\(XD=Zk)=False/\(XD=YA)=False/\(XD=ZW)=False/\(XD=Xs)=False/\(XD=XU)=False/\(XD=WD)=False/\(XD=Yc)=False/\(ZW=Zk)=False/\(ZW=YA)=False/\(ZW=XD)=False/\(ZW=Xs)=False/\(ZW=XU)=False/\(ZW=WD)=False/\(ZW=Yc)=False/\(Xs=Zk)=False/\(Xs=YA)=False/\(Xs=XD)=False/\(Xs=ZW)=False/\(Xs=XU)=False/\(Xs=WD)=False/\(Xs=Yc)=False/\(XU=Zk)=False/\(XU=YA)=False/\(XU=XD)=False/\(XU=ZW)=False/\(XU=Xs)=False/\(XU=WD)=False/\(XU=Yc)=False/\(WD=Zk)=False/\(WD=YA)=False/\(WD=XD)=False/\(WD=ZW)=False/\(WD=Xs)=False/\(WD=XU)=False/\(WD=Yc)=False/\(Yc=Zk)=False/\(Yc=YA)=False/\(Yc=XD)=False/\(Yc=ZW)=False/\(Yc=Xs)=False/\(Yc=XU)=False/\(Yc=WD)=False:=by and_intros<;>exact eq_false (by decide)
theorem QfU {x:QL} {m:ByteArray} (h:x.method=m) (h1:(m=Zz)=False:=by simp only [xS]) (h2:(m=Zu)=False:=by simp only [xS]):VK x=False:=by
 unfold VK;rw [h,h1,h2];simp
theorem yn {x:QL} (h:x.method=QQ):VK x=False:=QfU h
section
variable {n:Nat} {p:Qe} {x:QL}
theorem KH (e:(Zh p n).name=Zk) (m:x.method=QQ):XG (n+1) p x=(p,Qf 0 (Zh p n).count 0 0):=by
 simp [XG,e,m]
theorem KJ (e:(Zh p n).name=Zk) (m:VK x):XG (n+1) p x=(YP (XG n p x).1 n,(XG n p x).2):=by
 rcases m with m|m
 all_goals simp [XG,e,m,VK,xS]
theorem Jk (e:(Zh p n).name=YA) (m:VK x):XG (n+1) p x=if(XG n p x).2.code=2 then XG n (XG n (XG n p x).1 (only Qw)).1 x else XG n p x:=by
 simp [XG,e,m,nne]
theorem zg (e:(Zh p n).name=XD) (m:x.method=Zu):XG (n+1) p x=(p,Qf 6 0 0 0):=by
 simp [XG,e,m,nne]
theorem qn (e:(Zh p n).name=ZW) (m:x.method=QV):XG (n+1) p x=if x.value=0 then XG n (YP p n) (only QR) else if x.value=1 then XG n (YP p n) (only Qw) else(YP p n,Qf 0 (Zh (YP p n) n).count 0 0):=by
 simp [XG,e,m,nne]
theorem qr (e:(Zh p n).name=Xs) (m:x.method=Xk):XG (n+1) p x=XG n (XG n p (only QR)).1 (only Qw):=by
 simp [XG,e,m,nne]
theorem KG (e:(Zh p n).name=XU):XG (n+1) p x=if(XG n p x).2.code=0 then((XG n p x).1, { (XG n p x).2 with value:=min (2 * (XG n p x).2.value) 999}) else XG n p x:=by
 simp [XG,e,nne]
theorem jG (e:(Zh p n).name=Yc):XG (n+1) p x=XG n p x:=by
 simp [XG,e,nne]
theorem zk (e:(Zh p n).name=XD) (m:x.method=Zz):XG (n+1) p x=XG n p x:=by
 simp [XG,e,m,nne,xS]
theorem uP (e:(Zh p n).name=WD∨(Zh p n).name=YA∨(Zh p n).name=ZW∨(Zh p n).name=Xs) (m:x.method=Qw∨x.method=QR):XG (n+1) p x=XG n p x:=by
 rcases m with m|m
 all_goals(rcases e with e|e|e|e)
 all_goals simp [XG,e,m,VK,nne,xS]
end
theorem zU {n:Nat} {p q:Qe} (hs:YV n p q) (hq:Qn q) (hn:n<p.layers.length) (e:p.layers[n].name=Zk∨p.layers[n].name=ZW):Qn (YP q n)/\YV (n+1) p (YP q n):=by
 have hn':n<q.layers.length:=by rw [hs.len];exact hn
 refine⟨QfM hq hn' (by rw [hs.name n hn hn'];exact e),(hs.mono (by omega)).trans (UG hn')⟩
theorem XF:∀(n:Nat) (p:Qe) (x:QL),Zr n p x->Qn (XG n p x).1/\YV n p (XG n p x).1
 |0,p,x,h=>by
  rw [XG]
  have h1:=QeQ h.part.1 h.call h.offer
  exact QfG h.part h1.1 h1.2
 | n+1,p,x,h=>by
  have hn:n<p.layers.length:=h.le
  have hl:=ZJ hn
  have up:∀ {q:Qe},Qn q/\YV n p q->Qn q/\YV (n+1) p q:=fun hq=>⟨hq.1,hq.2.mono (by omega)⟩
  cases kR h hn with
  |countTell e m=>rw [KH (by rw [hl];exact e) m];exact⟨h.part,YV.refl _ _⟩
  |countKeep e m h1=>
   rw [KJ (by rw [hl];exact e) m]
   have h2:=XF n p x h1
   exact zU h2.2 h2.1 hn (.inl e)
  | lazyKeep e m h1 h'=>
   rw [Jk (by rw [hl];exact e) m]
   have h2:=XF n p x h1
   split
   ·have h3:=XF n _ _ (h'.to h2.2 h2.1)
    have h4:=XF n _ _ (h1.to (h2.2.trans h3.2) h3.1)
    exact up ⟨h4.1,(h2.2.trans h3.2).trans h4.2⟩
   ·exact up h2
  |readsPut e m=>rw [zg (by rw [hl];exact e) m];exact⟨h.part,YV.refl _ _⟩
  | hearsHear e m h1 h'=>
   rw [qn (by rw [hl];exact e) m]
   have hb:=zU (YV.refl n p) h.part hn (.inr e)
   split
   ·have h2:=XF n _ _ (h1.to hb.2 hb.1)
    exact⟨h2.1,hb.2.trans (h2.2.mono (by omega))⟩
   ·split
    ·have h2:=XF n _ _ (h'.to hb.2 hb.1)
     exact⟨h2.1,hb.2.trans (h2.2.mono (by omega))⟩
    ·exact hb
  |healsHeal e m h1 h'=>
   rw [qr (by rw [hl];exact e) m]
   have h2:=XF n _ _ h1
   have h3:=XF n _ _ (h'.to h2.2 h2.1)
   exact up ⟨h3.1,h2.2.trans h3.2⟩
  |twiceTell e m h1=>
   rw [KG (by rw [hl];exact e)]
   have h2:=XF n _ _ h1
   split<;>exact up h2
  |start e m h1=>rw [uP (by rw [hl];exact e) m];exact up (XF n _ _ h1)
  |keep e m h1=>rw [jG (by rw [hl];exact e)];exact up (XF n _ _ h1)
  |readsGet e m h1=>rw [zk (by rw [hl];exact e) m];exact up (XF n _ _ h1)
theorem xI {PA:Qa->Prop} {PL:List Qa->Prop} (hA:∀a,PL a.A->PL a.B->PA a) (hn:PL []) (hc:∀a l,PA a->PL l->PL (a::l)) (l:List Qa):PL l:=by
 refine j4 (P:=PL) (fun l ih=>?_) l
 induction l with
 |nil=>exact hn
 |cons a l ihl=>exact hc a l (hA a (ih a (by simp)).1 (ih a (by simp)).2) (ihl fun b hb=>ih b (by simp [hb]))
def Xo.up (e:Xo) (d:Int):Xo:=if e.code=0 then e else⟨e.code,e.place+d,e.want,e.had⟩
theorem Xo.up_code (e:Xo) (d:Int):(e.up d).code=e.code:=by unfold Xo.up;split<;>rfl
theorem Qei (d:Int):QJ.up d=QJ:=rfl
theorem UW {a:Qa} {place:Int} {s:ZV} (h:a.op=1):ZF a place s=(⟨s.slots.set a.slot.toNat ⟨true,Xu a.word⟩,s.taken⟩,QJ):=by unfold ZF;rw [if_pos h]
theorem Kk {a:Qa} {place:Int} {s:ZV} (h:a.op=5):ZF a place s=(⟨s.slots.set a.slot.toNat WM,s.taken⟩,QJ):=by unfold ZF;rw [if_neg (by omega),if_pos h]
theorem UV {a:Qa} {place:Int} {s:ZV} (h:a.op=4):ZF a place s=(⟨s.slots.set a.slot.toNat (slotAt s.slots a.other),s.taken⟩,QJ):=by unfold ZF;rw [if_neg (by omega),if_neg (by omega),if_pos h]
theorem Kg {a:Qa} {place:Int} {s:ZV} (h1:a.op≠1) (h5:a.op≠5) (h4:a.op≠4) (hf:(slotAt s.slots a.slot).full=false):ZF a place s=(s,⟨2,place,0,0⟩):=by unfold ZF;rw [if_neg h1,if_neg h5,if_neg h4,if_pos hf]
theorem Ka {a:Qa} {place:Int} {s:ZV} (h1:a.op≠1) (h5:a.op≠5) (h4:a.op≠4) (hf:¬(slotAt s.slots a.slot).full=false) (hc:(XP a (slotAt s.slots a.slot).part).2.code=1):
  ZF a place s=(⟨s.slots.set a.slot.toNat ⟨true,(XP a (slotAt s.slots a.slot).part).1⟩,s.taken⟩,⟨1,place,(XP a (slotAt s.slots a.slot).part).2.want,(XP a (slotAt s.slots a.slot).part).2.had⟩):=by
 unfold ZF;rw [if_neg h1,if_neg h5,if_neg h4,if_neg hf,if_pos hc]
theorem Ks {a:Qa} {place:Int} {s:ZV} (h1:a.op≠1) (h5:a.op≠5) (h4:a.op≠4) (hf:¬(slotAt s.slots a.slot).full=false) (hc:¬(XP a (slotAt s.slots a.slot).part).2.code=1):
  ZF a place s=(⟨s.slots.set a.slot.toNat ⟨true,(XP a (slotAt s.slots a.slot).part).1⟩,s.taken⟩,QJ):=by
 unfold ZF;rw [if_neg h1,if_neg h5,if_neg h4,if_neg hf,if_neg hc]
theorem uS {input:List Int} {a:Qa} {place:Int} {s:ZV} (h:a.op=8):a.run input place s=if Wn input s.taken % 2=1 then QM input a.A (place+1) ⟨s.slots,s.taken+1⟩ else QM input a.B (place+1+Qd a.A) ⟨s.slots,s.taken+1⟩:=by rw [a.run_eq,if_pos h]
theorem uM {input:List Int} {a:Qa} {place:Int} {s:ZV} (h:a.op=9):a.run input place s=Zo (Wn input s.taken).toNat (fun t=>QM input a.A (place+1) t) ⟨s.slots,s.taken+1⟩:=by rw [a.run_eq,if_neg (by omega),if_pos h]
theorem qF {input:List Int} {a:Qa} {place:Int} {s:ZV} (h:a.op=10):a.run input place s=if(QM input a.A (place+1) s).2.code=1 then QM input a.B (place+1+Qd a.A) (QM input a.A (place+1) s).1 else QM input a.A (place+1) s:=by rw [a.run_eq,if_neg (by omega),if_neg (by omega),if_pos h]
theorem GM {input:List Int} {a:Qa} {place:Int} {s:ZV} (h8:a.op≠8) (h9:a.op≠9) (h10:a.op≠10):a.run input place s=ZF a place s:=by rw [a.run_eq,if_neg h8,if_neg h9,if_neg h10]
theorem QeK {d:Int} {f g:ZV->ZV×Xo} (h:∀s,g s=((f s).1,(f s).2.up d)):∀n s,Zo n g s=((Zo n f s).1,(Zo n f s).2.up d)
 |0,s=>by rw [Zo,Zo,Qei]
 |n+1,s=>by
  rw [Zo,Zo,h s]
  simp only [Xo.up_code]
  split
  ·exact QeK h n _
  ·rfl
theorem JY (input:List Int):∀(l m:List Qa) (place:Int) (s:ZV),QM input (l++m) place s=if(QM input l place s).2.code=0 then QM input m (place+Qd l) (QM input l place s).1 else QM input l place s
 | [],m,place,s=>by
  rw [QM,Qd]
  simp [QJ]
 | a::l,m,place,s=>by
  rw [M2,QM,QM]
  by_cases h:(a.run input place s).2.code=0
  ·simp only [h,if_true]
   rw [JY input l m,Qd]
   rw [show place+(a.size:Int)+(Qd l:Int)=place+((a.size+Qd l:Nat):Int) by omega]
  ·simp only [h,if_false]
theorem Gj (a:Qa) (place:Int) (s:ZV) (h:(ZF a place s).2.code=0):(ZF a place s).2=QJ:=by
 by_cases h1:a.op=1
 ·rw [UW h1]
 by_cases h5:a.op=5
 ·rw [Kk h5]
 by_cases h4:a.op=4
 ·rw [UV h4]
 by_cases hf:(slotAt s.slots a.slot).full=false
 ·rw [Kg h1 h5 h4 hf] at h;simp at h
 by_cases hc:(XP a (slotAt s.slots a.slot).part).2.code=1
 ·rw [Ka h1 h5 h4 hf hc] at h;simp at h
 ·rw [Ks h1 h5 h4 hf hc]
theorem GC {f:ZV->ZV×Xo}:∀n s,(Zo n f s).2.code=0->(Zo n f s).2=QJ
 |0,s,_=>by rw [Zo]
 |n+1,s,h=>by
  rw [Zo] at h ⊢
  by_cases h0:(f s).2.code=0
  ·simp only [h0,if_true] at h ⊢;exact GC n _ h
  ·simp only [h0,if_false] at h
theorem Uj (input:List Int) (l:List Qa):∀(place:Int) (s:ZV),(QM input l place s).2.code=0->(QM input l place s).2=QJ:=by
 refine xI (PL:=fun l=>∀(place:Int) (s:ZV),(QM input l place s).2.code=0->(QM input l place s).2=QJ) (PA:=fun a=>∀(place:Int) (s:ZV),(a.run input place s).2.code=0->(a.run input place s).2=QJ) (fun a hA hB place s h=>?_) (fun place s _=>?_) (fun a l ha hl place s h=>?_) l
 ·by_cases h8:a.op=8
  ·rw [uS h8] at h ⊢
   split
   ·rename_i hc;rw [if_pos hc] at h;exact hA _ _ h
   ·rename_i hc;rw [if_neg hc] at h;exact hB _ _ h
  by_cases h9:a.op=9
  ·rw [uM h9] at h ⊢
   exact GC _ _ h
  by_cases h10:a.op=10
  ·rw [qF h10] at h ⊢
   split
   ·rename_i hc;rw [if_pos hc] at h;exact hB _ _ h
   ·rename_i hc;rw [if_neg hc] at h;exact hA _ _ h
  rw [GM h8 h9 h10] at h ⊢
  exact Gj a place s h
 ·rw [QM]
 ·rw [QM] at h ⊢
  by_cases h0:(a.run input place s).2.code=0
  ·simp only [h0,if_true] at h ⊢;exact hl _ _ h
  ·simp only [h0,if_false] at h
def ZV.more (s:ZV) (k:Int):ZV:=⟨s.slots,s.taken+k⟩
theorem ve (a:Qa) (place k:Int) (s:ZV):ZF a place (s.more k)=((ZF a place s).1.more k,(ZF a place s).2)/\(ZF a place s).1.taken=s.taken:=by
 have es:(s.more k).slots=s.slots:=rfl
 by_cases h1:a.op=1
 ·rw [UW h1,UW h1];exact⟨rfl,rfl⟩
 by_cases h5:a.op=5
 ·rw [Kk h5,Kk h5];exact⟨rfl,rfl⟩
 by_cases h4:a.op=4
 ·rw [UV h4,UV h4];exact⟨rfl,rfl⟩
 by_cases hf:(slotAt s.slots a.slot).full=false
 ·rw [Kg h1 h5 h4 hf,Kg h1 h5 h4 (s:=s.more k) hf];exact⟨rfl,rfl⟩
 by_cases hc:(XP a (slotAt s.slots a.slot).part).2.code=1
 ·rw [Ka h1 h5 h4 hf hc,Ka h1 h5 h4 (s:=s.more k) hf hc];exact⟨rfl,rfl⟩
 ·rw [Ks h1 h5 h4 hf hc,Ks h1 h5 h4 (s:=s.more k) hf hc];exact⟨rfl,rfl⟩
theorem Je {p q:Qe} {k:Nat} (h0:q.core.kind=p.core.kind) (h:∀j,j<k->(q.layers[j]?).map (·.name)=(p.layers[j]?).map (·.name)):Qq q k=Qq p k:=by
 unfold Qq
 by_cases hk:k=0
 ·rw [if_pos hk,if_pos hk,h0]
 ·rw [if_neg hk,if_neg hk]
  have h1:=h (k-1) (by omega)
  have e:∀o:Option ZZ,(o.bind fun x=>Qj x.name)=(o.map (·.name)).bind Qj:=by intro o;cases o<;>rfl
  rw [e,e,h1]
theorem Jd {k:ByteArray} (h:Qo k≠none):Qn (Xu k):=by
 obtain⟨f,hf⟩:=O6.1 h
 exact⟨⟨f,hf,⟨by simp [Xu],fun k h=>by simp [Xu] at h⟩,by simp [Xu],by simp [Xu,ZK],by simp [Xu],.inr ⟨rfl,rfl⟩⟩,by simp [Xu],fun k h=>by simp [Xu] at h⟩
theorem wJ {p q:Qe} {k:Nat} {h:k<p.layers.length} {h':k<q.layers.length} (hl:Ve p k h) (e:q.layers[k]=p.layers[k]) (hf:Qq q k=Qq p k):Ve q k h':=by
 obtain⟨x,h1,h2,h3,h4⟩:=hl
 exact⟨x,by rw [e];exact h1,by rw [hf];exact h2,by rw [e];exact h3,by rw [e];exact h4⟩
theorem Qc8 {p:Qe} {name:ByteArray} (h:Qn p):Qn (QY p name).1:=by
 cases hx:Qj name with
 |none=>rw [Vm hx];exact h
 | some x=>
  by_cases h2:3<=p.layers.length
  ·rw [WG hx h h2];exact h
  by_cases h3:ZL (Qq p p.layers.length) x.1
  ·rw [Vw hx h h2 h3]
   have hf:∀k,k<=p.layers.length->Qq ⟨p.core,p.layers++ [⟨name,0⟩]⟩ k=Qq p k:=fun k hk=>Je rfl (fun j hj=>by simp only [];rw [List.getElem?_append_left (by omega)])
   refine⟨h.1,by simp;omega,fun k hk=>?_⟩
   have hk':k<p.layers.length+1:=by simpa using hk
   by_cases hl:k<p.layers.length
   ·exact wJ (h.2.2 k hl) (Q7 hl) (hf k (by omega))
   ·obtain rfl:k=p.layers.length:=by omega
    have e:(p.layers++ [(⟨name,0⟩:ZZ)])[p.layers.length]'(by simp)=⟨name,0⟩:=by simp
    refine⟨x,?_,?_,?_,.inl ?_⟩
    ·show Qj ((p.layers++ [(⟨name,0⟩:ZZ)])[p.layers.length]'(by simp)).name=some x
     rw [e];exact hx
    ·rw [hf _ (F0 _)];exact h3
    ·show ZK ((p.layers++ [(⟨name,0⟩:ZZ)])[p.layers.length]'(by simp)).count
     rw [e];exact⟨Int.le_refl _,by simp⟩
    ·show((p.layers++ [(⟨name,0⟩:ZZ)])[p.layers.length]'(by simp)).count=0
     rw [e]
  ·rw [VM hx h h2 h3];exact h
theorem Qcn {p:Qe} (h:Qn p):Qn (Yn p).1:=by
 unfold Yn
 by_cases h0:p.layers.length=0
 ·rw [if_pos (.inr h0)];exact h
 ·rw [if_neg (by intro hx;rcases hx with hx|hx;exact hx h;exact h0 hx)]
  refine⟨h.1,?_,fun k hk=>?_⟩
  ·have:=h.2.1;simp;omega
  have hk':k<p.layers.length-1:=by simp at hk;omega
  exact wJ (h.2.2 k (by omega)) (by simp) (Je rfl (fun j hj=>by simp only [];rw [List.getElem?_take_of_lt (by omega)]))
theorem Yw (p:Qe) (x:QL) (hp:Qn p):((QB p x).1=p/\(QB p x).2=Qf 7 0 0 0/\¬QS x)∨
  ((QB p x).1=p/\(QB p x).2=Qf 1 0 (ZR x.method) (Qq p p.layers.length)/\QS x/\¬ZL (Qq p p.layers.length) (ZR x.method))∨
  (QB p x=XG p.layers.length p x/\QS x/\ZL (Qq p p.layers.length) (ZR x.method)):=by
 unfold QB
 by_cases hx:QS x
 ·rw [if_neg (by intro h;rcases h with h|h;exact h hp;exact h hx)]
  by_cases ho:ZL (Qq p p.layers.length) (ZR x.method)
  ·rw [if_neg (fun h=>h ho)];exact .inr (.inr ⟨rfl,hx,ho⟩)
  ·rw [if_pos ho];exact .inr (.inl ⟨rfl,rfl,hx,ho⟩)
 ·rw [if_pos (.inr hx)];exact .inl ⟨rfl,rfl,hx⟩
theorem kD {p:Qe} {x:QL} (hp:Qn p):Qn (QB p x).1:=by
 rcases Yw p x hp with h|h|h
 ·rw [h.1];exact hp
 ·rw [h.1];exact hp
 ·rw [h.1];exact(XF _ _ _ ⟨hp,F0 _,h.2.1,h.2.2⟩).1
theorem GN {a:Qa} {p:Qe} (h:a.op=3):XP a p=((Yn p).1,Qf 0 0 0 0):=by unfold XP;rw [if_pos h]
theorem GT {a:Qa} {p:Qe} (h:a.op=2):XP a p=QY p a.word:=by unfold XP;rw [if_neg (by omega),if_pos h]
theorem Ju {a:Qa} {p:Qe} (h:a.op=6):XP a p=(p,if ZL (Qq p p.layers.length) a.face then Qf 0 0 0 0 else Qf 1 0 a.face (Qq p p.layers.length)):=by unfold XP;rw [if_neg (by omega),if_neg (by omega),if_pos h]
theorem GW {a:Qa} {p:Qe} (h:a.op=7):XP a p=QB p a.call:=by unfold XP;rw [if_neg (by omega),if_neg (by omega),if_neg (by omega),if_pos h]
theorem kU {a:Qa} {p:Qe} (h3:a.op≠3) (h2:a.op≠2) (h6:a.op≠6) (h7:a.op≠7):XP a p=(p,Qf 0 0 0 0):=by unfold XP;rw [if_neg h3,if_neg h2,if_neg h6,if_neg h7]
theorem Qen {a:Qa} {p:Qe} (h:Qn p):Qn (XP a p).1:=by
 by_cases h3:a.op=3
 ·rw [GN h3];exact Qcn h
 by_cases h2:a.op=2
 ·rw [GT h2];exact Qc8 h
 by_cases h6:a.op=6
 ·rw [Ju h6];exact h
 by_cases h7:a.op=7
 ·rw [GW h7];exact kD h
 rw [kU h3 h2 h6 h7];exact h
theorem Kl {l:List Ql} {i:Nat} {x:Ql} (h:QH l) (hx:Ww x):QH (l.set i x):=by
 refine⟨by rw [Q1];exact h.1,fun k hk=>?_⟩
 rw [T4]
 split
 ·exact hx
 ·exact h.2 k (by simpa using hk)
theorem yB {l:List Ql} {i:Int} (h:l.length=3) (hi:QE i):∃h:i.toNat<l.length,slotAt l i=l[i.toNat]:=by
 obtain⟨h1,h2⟩:=hi
 have hl:i.toNat<l.length:=by omega
 exact⟨hl,by unfold slotAt;rw [F8 hl];rfl⟩
theorem Ua {l:List Ql} {i:Int} (h:QH l) (hi:QE i):Ww (slotAt l i):=by
 obtain⟨hl,e⟩:=yB h.1 hi
 rw [e];exact h.2 _ hl
theorem GK:Ww WM:=vf rfl rfl
theorem VZ {a:Qa} (h:ZG a):QE a.slot:=by
 unfold ZG at h
 rcases h with h|h|h|h|h|h|h|h
 all_goals first|exact h.2.1|(have:=h.2.1;exact⟨by omega,by omega⟩)
theorem zO {a:Qa} {place:Int} {s:ZV} (ha:ZG a) (hs:QH s.slots):QH (ZF a place s).1.slots:=by
 by_cases h1:a.op=1
 ·rw [UW h1]
  exact Kl hs (GU rfl (Jd ((xQ h1).1 ha).2.1))
 by_cases h5:a.op=5
 ·rw [Kk h5]
  exact Kl hs GK
 by_cases h4:a.op=4
 ·rw [UV h4]
  exact Kl hs (Ua hs ((GV h4).1 ha).2.1)
 by_cases hf:(slotAt s.slots a.slot).full=false
 ·rw [Kg h1 h5 h4 hf];exact hs
 have hw:=Kl (i:=a.slot.toNat) hs (GU (s:=⟨true,(XP a (slotAt s.slots a.slot).part).1⟩) rfl (Qen ((Ua hs (VZ ha)).1 (by simpa using hf))))
 by_cases hc:(XP a (slotAt s.slots a.slot).part).2.code=1
 ·rw [Ka h1 h5 h4 hf hc];exact hw
 ·rw [Ks h1 h5 h4 hf hc];exact hw
theorem Qaj {P:ZV->Prop} {f:ZV->ZV×Xo} (h:∀s,P s->P (f s).1):∀n s,P s->P (Zo n f s).1
 |0,s,hs=>by rw [Zo];exact hs
 |n+1,s,hs=>by
  rw [Zo]
  split
  ·exact Qaj h n _ (h s hs)
  ·exact h s hs
theorem xL (input:List Int) (l:List Qa):Jm l->∀(place:Int) (s:ZV),QH s.slots->QH (QM input l place s).1.slots:=by
 refine xI (PL:=fun l=>Jm l->∀(place:Int) (s:ZV),QH s.slots->QH (QM input l place s).1.slots) (PA:=fun a=>a.ok->∀(place:Int) (s:ZV),QH s.slots->QH (a.run input place s).1.slots) (fun a hA hB hok place s hs=>?_) (fun _ place s hs=>?_) (fun a l ha hl hok place s hs=>?_) l
 ·obtain⟨h0,hoA,hoB⟩:=a.ok_iff.1 hok
  by_cases h8:a.op=8
  ·rw [uS h8]
   split
   ·exact hA hoA _ _ hs
   ·exact hB hoB _ _ hs
  by_cases h9:a.op=9
  ·rw [uM h9]
   exact Qaj (P:=fun s=>QH s.slots) (fun t ht=>hA hoA _ t ht) _ _ hs
  by_cases h10:a.op=10
  ·rw [qF h10]
   have h1:=hA hoA (place+1) s hs
   split
   ·exact hB hoB _ _ h1
   ·exact h1
  rw [GM h8 h9 h10]
  exact zO h0 hs
 ·rw [QM];exact hs
 ·rw [Jm] at hok
  rw [QM]
  have h1:=ha hok.1 place s hs
  split
  ·exact hl hok.2 _ _ h1
  ·exact h1
def XL (p q:Qe):Prop:=q.core.kind=p.core.kind/\q.layers.map (·.name)=p.layers.map (·.name)
theorem XL.refl (p:Qe):XL p p:=⟨rfl,rfl⟩
theorem XL.symm {p q:Qe} (h:XL p q):XL q p:=⟨h.1.symm,h.2.symm⟩
theorem XL.trans {p q r:Qe} (h:XL p q) (k:XL q r):XL p r:=⟨k.1.trans h.1,k.2.trans h.2⟩
theorem XL.len {p q:Qe} (h:XL p q):q.layers.length=p.layers.length:=by have:=congrArg List.length h.2;simpa using this
theorem XL.face {p q:Qe} (h:XL p q) (k:Nat):Qq q k=Qq p k:=
 Je h.1 (fun j _=>by rw [<-R0, <-R0,h.2])
theorem XL.top {p q:Qe} (h:XL p q):Qq q q.layers.length=Qq p p.layers.length:=by rw [h.len];exact h.face _
theorem XL.of {n:Nat} {p q:Qe} (h:YV n p q):XL p q:=by
 refine⟨h.kind,List.ext_getElem (by simpa using h.len) (fun k h1 h2=>?_)⟩
 simp only [List.getElem_map]
 exact h.name k (by simpa using h2) (by simpa using h1)
theorem jP {p q:Qe} {name:ByteArray} (h:XL p q) (hp:Qn p) (hq:Qn q):XL (QY p name).1 (QY q name).1/\(QY q name).2=(QY p name).2:=by
 cases hx:Qj name with
 |none=>rw [Vm hx,Vm hx];exact⟨h,rfl⟩
 | some x=>
  by_cases h2:3<=p.layers.length
  ·rw [WG hx hp h2,WG hx hq (by rw [h.len];exact h2)];exact⟨h,rfl⟩
  have h2':¬3<=q.layers.length:=by rw [h.len];exact h2
  by_cases h3:ZL (Qq p p.layers.length) x.1
  ·rw [Vw hx hp h2 h3,Vw hx hq h2' (by rw [h.top];exact h3)]
   exact⟨⟨h.1,by simp [h.2]⟩,rfl⟩
  ·rw [VM hx hp h2 h3,VM hx hq h2' (by rw [h.top];exact h3),h.top];exact⟨h,rfl⟩
theorem jB {p q:Qe} (h:XL p q) (hp:Qn p) (hq:Qn q):XL (Yn p).1 (Yn q).1:=by
 unfold Yn
 by_cases h0:p.layers.length=0
 ·rw [if_pos (.inr h0),if_pos (.inr (by rw [h.len];exact h0))];exact h
 ·rw [if_neg (by intro hx;rcases hx with hx|hx;exact hx hp;exact h0 hx),if_neg (by intro hx;rcases hx with hx|hx;exact hx hq;exact h0 (by rw [<-h.len];exact hx))]
  exact⟨h.1,by simp only [List.map_take];rw [h.2,h.len]⟩
theorem QbU (p:ZS) (x:QL):(WX p x).2.code≠1:=by
 unfold WX
 split
 ·simp [Qf]
 split
 ·cases VQ p.cells x.key<;>simp [Qf]
 split<;>simp [Qf]
theorem Qbr (p:ZS) (x:QL):(XJ p x).2.code≠1:=by
 unfold XJ
 split
 ·simp [Qf]
 split
 ·split<;>simp [Qf]
 split
 ·split<;>simp [Qf]
 split
 ·exact QbU p x
 split
 ·simp [Qf]
 split
 ·simp [Qf]
 split
 ·simp
 split
 ·cases Qy x.text<;>simp [Qf]
 ·simp [Qf]
theorem Wm:∀(n:Nat) (p:Qe) (x:QL),(XG n p x).2.code≠1
 |0,p,x=>by rw [XG];exact Qbr _ _
 | n+1,p,x=>by
  rw [XG]
  split
  ·simp [Qf]
  split
  ·exact Wm n p x
  split
  ·split
   ·exact Wm n _ _
   ·exact Wm n _ _
  split
  ·simp [Qf]
  split
  ·split
   ·exact Wm n _ _
   ·split
    ·exact Wm n _ _
    ·simp [Qf]
  split
  ·exact Wm n _ _
  split
  ·split
   ·exact Wm n p x
   ·exact Wm n _ _
  ·exact Wm n _ _
theorem Us {p:Qe} {x:QL} (hp:Qn p):XL p (QB p x).1:=by
 rcases Yw p x hp with h|h|h
 ·rw [h.1];exact XL.refl p
 ·rw [h.1];exact XL.refl p
 ·rw [h.1];exact XL.of (XF _ _ _ ⟨hp,F0 _,h.2.1,h.2.2⟩).2
def QeB (r s:Uw):Prop:=(r.code=1/\s=r)∨(r.code≠1/\s.code≠1)
theorem wK {p q:Qe} {x:QL} (h:XL p q) (hp:Qn p) (hq:Qn q):XL (QB p x).1 (QB q x).1/\QeB (QB p x).2 (QB q x).2:=by
 refine⟨((Us hp).symm.trans h).trans (Us hq),?_⟩
 rcases Yw p x hp with h1|h1|h1
 ·rcases Yw q x hq with h2|h2|h2
  ·rw [h1.2.1,h2.2.1];exact .inr ⟨by simp [Qf],by simp [Qf]⟩
  ·exact absurd h2.2.2.1 h1.2.2
  ·exact absurd h2.2.1 h1.2.2
 ·rcases Yw q x hq with h2|h2|h2
  ·exact absurd h1.2.2.1 h2.2.2
  ·rw [h1.2.1,h2.2.1,h.top];exact .inl ⟨rfl,rfl⟩
  ·rw [h.top] at h2;exact absurd h2.2.2 h1.2.2.2
 ·rcases Yw q x hq with h2|h2|h2
  ·exact absurd h1.2.1 h2.2.2
  ·rw [h.top] at h2;exact absurd h1.2.2 h2.2.2.2
  ·rw [h1.1,h2.1];exact .inr ⟨Wm _ _ _,Wm _ _ _⟩
theorem Qcc {a:Qa} {p q:Qe} (h:XL p q) (hp:Qn p) (hq:Qn q):XL (XP a p).1 (XP a q).1/\QeB (XP a p).2 (XP a q).2:=by
 have n1:QeB (Qf 0 0 0 0) (Qf 0 0 0 0):=.inr ⟨by simp [Qf],by simp [Qf]⟩
 by_cases h3:a.op=3
 ·rw [GN h3,GN h3];exact⟨jB h hp hq,n1⟩
 by_cases h2:a.op=2
 ·rw [GT h2,GT h2]
  have:=jP (name:=a.word) h hp hq
  refine⟨this.1,?_⟩
  rw [this.2]
  by_cases hc:(QY p a.word).2.code=1
  ·exact .inl ⟨hc,rfl⟩
  ·exact .inr ⟨hc,hc⟩
 by_cases h6:a.op=6
 ·rw [Ju h6,Ju h6,h.top]
  refine⟨h,?_⟩
  by_cases hc:ZL (Qq p p.layers.length) a.face
  ·rw [if_pos hc];exact n1
  ·rw [if_neg hc];exact .inl ⟨rfl,rfl⟩
 by_cases h7:a.op=7
 ·rw [GW h7,GW h7];exact wK h hp hq
 rw [kU h3 h2 h6 h7,kU h3 h2 h6 h7]
 exact⟨h,n1⟩
def ja (s t:Ql):Prop:=t.full=s.full/\XL s.part t.part
def vI (l m:List Ql):Prop:=m.length=l.length/\∀(k:Nat) (h:k<l.length) (h':k<m.length),ja l[k] m[k]
theorem vI.set {l m:List Ql} {i:Nat} {x y:Ql} (h:vI l m) (hx:ja x y):vI (l.set i x) (m.set i y):=by
 refine⟨by simpa using h.1,fun k h1 h2=>?_⟩
 rw [T4,T4]
 split
 ·exact hx
 ·exact h.2 k (by simpa using h1) (by simpa using h2)
theorem vI.at_ {l m:List Ql} {i:Int} (h:vI l m) (hl:l.length=3) (hi:QE i):ja (slotAt l i) (slotAt m i):=by
 obtain⟨h1,e1⟩:=yB hl hi
 obtain⟨h2,e2⟩:=yB (l:=m) (by rw [h.1];exact hl) hi
 rw [e1,e2];exact h.2 _ h1 h2
def Qfc (s t:ZV):Prop:=QH s.slots/\QH t.slots/\vI s.slots t.slots/\t.taken=s.taken
theorem QbA {a:Qa} {place:Int} {s t:ZV} (ha:ZG a) (h:Qfc s t):Qfc (ZF a place s).1 (ZF a place t).1/\(ZF a place t).2=(ZF a place s).2:=by
 obtain⟨hs,ht,hst,hk⟩:=h
 have hSl:=hst.at_ hs.1 (VZ ha)
 suffices hx:(vI (ZF a place s).1.slots (ZF a place t).1.slots/\(ZF a place t).1.taken=(ZF a place s).1.taken)/\(ZF a place t).2=(ZF a place s).2 from⟨⟨zO ha hs,zO ha ht,hx.1⟩,hx.2⟩
 by_cases h1:a.op=1
 ·rw [UW h1,UW h1];exact⟨⟨hst.set ⟨rfl,XL.refl _⟩,hk⟩,rfl⟩
 by_cases h5:a.op=5
 ·rw [Kk h5,Kk h5];exact⟨⟨hst.set ⟨rfl,XL.refl _⟩,hk⟩,rfl⟩
 by_cases h4:a.op=4
 ·rw [UV h4,UV h4];exact⟨⟨hst.set (hst.at_ hs.1 ((GV h4).1 ha).2.1),hk⟩,rfl⟩
 by_cases hf:(slotAt s.slots a.slot).full=false
 ·rw [Kg h1 h5 h4 hf,Kg h1 h5 h4 (hSl.1.trans hf)];exact⟨⟨hst,hk⟩,rfl⟩
 have hf':¬(slotAt t.slots a.slot).full=false:=by rw [hSl.1];exact hf
 have hw:=Qcc (a:=a) hSl.2 ((Ua hs (VZ ha)).1 (by simpa using hf)) ((Ua ht (VZ ha)).1 (by simpa using hf'))
 rcases hw.2 with ⟨h6,h7⟩|⟨h6,h7⟩
 ·rw [Ka h1 h5 h4 hf h6,Ka h1 h5 h4 hf' (by rw [h7];exact h6),h7];exact⟨⟨hst.set ⟨rfl,hw.1⟩,hk⟩,rfl⟩
 ·rw [Ks h1 h5 h4 hf h6,Ks h1 h5 h4 hf' h7];exact⟨⟨hst.set ⟨rfl,hw.1⟩,hk⟩,rfl⟩
mutual
def Qa.cost:Qa->Nat
 | .mk _ _ _ _ _ _ A B=>1+3 * QT A+QT B
def QT:List Qa->Nat
 | []=>0
 |a::l=>a.cost+QT l
end
theorem Qa.cost_eq (a:Qa):a.cost=1+3 * QT a.A+QT a.B:=by
 cases a;rw [Qa.cost];rfl
theorem Ux:∀l m:List Qa,QT (l++m)=QT l+QT m
 | [],m=>by simp [QT]
 |a::l,m=>by rw [M2,QT,Ux l m,QT];omega
theorem vk (l:List Qa) (k:Nat) (h:k<l.length):QT (l.take (k+1))=QT (l.take k)+l[k].cost:=by
 rw [G6 h,Ux];simp [QT]
theorem qe (l:List Qa) (k:Nat):QT (l.take k)<=QT l:=by
 have:=Ux (l.take k) (l.drop k)
 rw [T7] at this
 omega
theorem QaE (a:Qa) (l:List Qa):a.depth<=Qv (a::l)/\Qv l<=Qv (a::l):=by
 rw [Qv];omega
theorem Qep (l:List Qa):QT l<=Qd l * 3 ^ Qv l:=by
 refine xI (PL:=fun l=>QT l<=Qd l * 3 ^ Qv l) (PA:=fun a=>a.cost<=a.size * 3 ^ a.depth) (fun a hA hB=>?_) (by simp [QT]) (fun a l ha hl=>?_) l
 ·rw [a.cost_eq,a.size_eq,a.depth_eq]
  have h1:3 ^ Qv a.A<=3 ^ max (Qv a.A) (Qv a.B):=Nat.pow_le_pow_right (by omega) (Nat.le_max_left _ _)
  have h2:3 ^ Qv a.B<=3 ^ max (Qv a.A) (Qv a.B):=Nat.pow_le_pow_right (by omega) (Nat.le_max_right _ _)
  have h3:1<=3 ^ max (Qv a.A) (Qv a.B):=Nat.one_le_pow _ _ (by omega)
  rw [show 1+max (Qv a.A) (Qv a.B)=max (Qv a.A) (Qv a.B)+1 by omega,Nat.pow_succ]
  have h4:QT a.A<=Qd a.A * 3 ^ max (Qv a.A) (Qv a.B):=G5 hA (Nat.mul_le_mul_left _ h1)
  have h5:QT a.B<=Qd a.B * 3 ^ max (Qv a.A) (Qv a.B):=G5 hB (Nat.mul_le_mul_left _ h2)
  generalize 3 ^ max (Qv a.A) (Qv a.B)=M at *
  have e:(1+Qd a.A+Qd a.B) * (M * 3)=3 * M+3 * (Qd a.A * M)+3 * (Qd a.B * M):=by
   rw [Nat.add_mul,Nat.add_mul,Nat.one_mul,Nat.mul_comm M 3,Nat.mul_left_comm,Nat.mul_left_comm (Qd a.B)]
  omega
 ·rw [QT,Qd]
  have hd:=QaE a l
  have h1:a.cost<=a.size * 3 ^ Qv (a::l):=G5 ha (Nat.mul_le_mul_left _ (Nat.pow_le_pow_right (by omega) hd.1))
  have h2:QT l<=Qd l * 3 ^ Qv (a::l):=G5 hl (Nat.mul_le_mul_left _ (Nat.pow_le_pow_right (by omega) hd.2))
  rw [Nat.add_mul]
  omega
theorem Jc {l:List Qa} (h:Xn l):QT l<=378:=by
 have h1:=Qep l
 have h2:3 ^ Qv l<=3 ^ 3:=Nat.pow_le_pow_right (by omega) h.2.1
 have h3:Qd l * 3 ^ Qv l<=14 * 3 ^ 3:=V9 h.1 h2
 omega
theorem jL (input:List Int) (t:Int):0<=Wn input t/\Wn input t<=3:=by
 unfold Wn
 split
 ·omega
 ·omega
theorem yK {f:ZV->ZV×Xo} {c:Int} (hc:0<=c) (h:∀s:ZV,s.taken<=(f s).1.taken/\(f s).1.taken<=s.taken+c):∀(n:Nat) (s:ZV),s.taken<=(Zo n f s).1.taken/\(Zo n f s).1.taken<=s.taken+n * c
 |0,s=>by rw [Zo];simp
 | n+1,s=>by
  have h1:=h s
  rw [Zo]
  have e:((n+1:Nat):Int) * c=n * c+c:=by rw [Int.natCast_add,Int.add_mul];simp
  rw [e]
  have h0:0<=(n:Int) * c:=Int.mul_nonneg (by omega) hc
  split
  ·have h2:=yK hc h n (f s).1
   omega
  ·omega
theorem qE (input:List Int) (l:List Qa):∀(place:Int) (s:ZV),s.taken<=(QM input l place s).1.taken/\(QM input l place s).1.taken<=s.taken+QT l:=by
 refine xI (PL:=fun l=>∀(place:Int) (s:ZV),s.taken<=(QM input l place s).1.taken/\(QM input l place s).1.taken<=s.taken+QT l) (PA:=fun a=>∀(place:Int) (s:ZV),s.taken<=(a.run input place s).1.taken/\(a.run input place s).1.taken<=s.taken+a.cost)
  (fun a hA hB place s=>?_) (fun place s=>by rw [QM];simp [QT]) (fun a l ha hl place s=>?_) l
 ·have ec:=a.cost_eq
  by_cases h8:a.op=8
  ·rw [uS h8]
   split
   ·have:=hA (place+1) ⟨s.slots,s.taken+1⟩;simp only at this;omega
   ·have:=hB (place+1+Qd a.A) ⟨s.slots,s.taken+1⟩;simp only at this;omega
  by_cases h9:a.op=9
  ·rw [uM h9]
   have h1:=yK (c:=(QT a.A:Int)) (by omega) (fun s=>hA (place+1) s) (Wn input s.taken).toNat ⟨s.slots,s.taken+1⟩
   have h2:=jL input s.taken
   have h3:((Wn input s.taken).toNat:Int) * (QT a.A:Int)<=3 * (QT a.A:Int):=Int.mul_le_mul_of_nonneg_right (by omega) (by omega)
   simp only at h1
   omega
  by_cases h10:a.op=10
  ·rw [qF h10]
   have h1:=hA (place+1) s
   split
   ·have:=hB (place+1+Qd a.A) (QM input a.A (place+1) s).1;omega
   ·omega
  rw [GM h8 h9 h10]
  have:=(ve a place 0 s).2
  omega
 ·have h1:=ha place s
  rw [QM,QT]
  split
  ·have:=hl (place+a.size) (a.run input place s).1;omega
  ·omega
theorem Qek (input:List Int) (a:Qa) (ha:a.ok) (place:Int) (s:ZV) (hs:QH s.slots):QH (a.run input place s).1.slots:=by
 have h:=xL input [a] (by rw [Jm,Jm];exact⟨ha,trivial⟩) place s hs
 rw [QM] at h
 by_cases hc:(a.run input place s).2.code=0
 ·rw [if_pos hc,QM] at h;exact h
 ·rw [if_neg hc] at h;exact h
theorem ko (input:List Int) (a:Qa) (place:Int) (s:ZV) (hc:(a.run input place s).2.code=0):(a.run input place s).2=QJ:=by
 have h:=Uj input [a] place s
 rw [QM,if_pos hc,QM] at h
 have e:=a.run_eq input place s
 by_cases h8:a.op=8
 ·rw [uS h8] at hc ⊢;split<;>(rename_i hx;simp only [hx,if_true,if_false] at hc;exact Uj _ _ _ _ hc)
 by_cases h9:a.op=9
 ·rw [uM h9] at hc ⊢;exact GC _ _ hc
 by_cases h10:a.op=10
 ·rw [qF h10] at hc ⊢;split<;>(rename_i hx;simp only [hx,if_true,if_false] at hc;exact Uj _ _ _ _ hc)
 rw [GM h8 h9 h10] at hc ⊢
 exact Gj a place s hc
theorem Qb5 (input:List Int) (l:List Qa) (k:Nat) (hk:k<l.length) (place:Int) (s:ZV) (hc:(QM input (l.take k) place s).2.code=0):
  QM input (l.take (k+1)) place s=l[k].run input (place+Qd (l.take k)) (QM input (l.take k) place s).1:=by
 rw [G6 hk,JY,if_pos hc,QM]
 by_cases h:(l[k].run input (place+Qd (l.take k)) (QM input (l.take k) place s).1).2.code=0
 ·rw [if_pos h,QM]
  exact Prod.ext rfl (ko _ _ _ _ h).symm
 ·rw [if_neg h]
theorem Qdb (input:List Int) (l:List Qa) (k:Nat) (place:Int) (s:ZV) (hc:¬(QM input (l.take k) place s).2.code=0):QM input l place s=QM input (l.take k) place s:=by
 have h:=JY input (l.take k) (l.drop k) place s
 rw [T7,if_neg hc] at h
 exact h
end Go.Proofs.YtfjhdnjlhjimeaaGreatDoor
