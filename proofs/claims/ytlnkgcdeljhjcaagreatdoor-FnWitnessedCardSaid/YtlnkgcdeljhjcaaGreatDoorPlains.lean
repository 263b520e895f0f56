/- End. Conditions: as stated. -/
import Derived.Test.YtlnkgcdeljhjcaaGreatDoorCellT
import Derived.Test.YtlnkgcdeljhjcaaGreatDoorActOks
import Derived.Test.YtlnkgcdeljhjcaaGreatDoorWraps
set_option maxRecDepth 100000
set_option maxHeartbeats 2000000
namespace Go.Proofs.YtlnkgcdeljhjcaaGreatDoor
open Go.RowKit

structure XH where
 code:Int
 place:Int
 want:Int
 had:Int
def QhW (a:XH):List QK:=[.v (.int .i64 a.code)] ++([.v (.int .i64 a.place)] ++([.v (.int .i64 a.want)] ++ [.v (.int .i64 a.had)]))
def ends (l:List XH):QK:=.s l.length (l.flatMap QhW)
def ZQ (m:ByteArray):Int:=match Zk m with|some k=>2 ^ k.toNat|none=>0
def GT (n:Int):Int:=min (n+1) 999
def Vi:List QD->ByteArray->Option Int
 | [],_=>none
 |c::l,k=>if c.key=k then some c.value else Vi l k
def XX:List QD->ByteArray->Int->List QD
 | [],k,v=>[⟨k,v⟩]
 |c::l,k,v=>if Op.bytesLess c.key.toList k.toList=true then c::XX l k v else if c.key=k then⟨k,v⟩::l else⟨k,v⟩::c::l
def QbH (k:ByteArray):Bool:=has ((Qq k).getD 0) 0
def Wx (p:ZR) (x:QQ):ZR×Ud:=
 if QbH p.kind=true/\p.on=false then(p,Qj 2 0 0 0)
 else if x.method=Q8 then(p,match Vi p.cells x.key with|some v=>Qj 0 v 0 0|none=>Qj 4 0 0 0)
 else if Vi p.cells x.key=none/\4<=p.cells.length then(p,Qj 5 0 0 0)
 else({p with cells:=XX p.cells x.key x.value,count:=GT p.count},Qj 0 (XX p.cells x.key x.value).length 0 0)
noncomputable def XL (p:ZR) (x:QQ):ZR×Ud:=
 if p.broken=true/\x.method≠Zd/\x.method≠QE then(p,Qj 3 0 0 0)
 else if x.method=Qr then(if p.on=true then({p with on:=false,broken:=true},Qj 3 0 0 0) else({p with on:=true,count:=GT p.count},Qj 0 0 0 0))
 else if x.method=QG then(if p.on=true then({p with on:=false},Qj 0 0 0 0) else(p,Qj 2 0 0 0))
 else if x.method=Q8∨x.method=Q7 then Wx p x
 else if x.method=QE then(p,Qj 0 p.count 0 0)
 else if x.method=QJ then({p with count:=GT p.count,on:=(x.value==1) || (p.on&&!(x.value==0)) },Qj 0 (GT p.count) 0 0)
 else if x.method=Zq then(p,⟨0,0,VJ p.cells,0,0⟩)
 else if x.method=QS then(match QA x.text with|none=>(p,Qj 6 0 0 0)|some l=>({p with cells:=l},Qj 0 l.length 0 0))
 else({p with on:=false,broken:=false},Qj 0 0 0 0)
def QI:ByteArray:=⟨#[99,111,117,110,116,115]⟩
def ZX:ByteArray:=⟨#[108,97,122,121]⟩
def Zf:ByteArray:=⟨#[114,101,97,100,115]⟩
def QW:ByteArray:=⟨#[104,101,97,114,115]⟩
def Zb:ByteArray:=⟨#[104,101,97,108,115]⟩
def Zl:ByteArray:=⟨#[116,119,105,99,101]⟩
def only (m:ByteArray):QQ:=⟨m,⟨#[]⟩,0,⟨#[]⟩⟩
def Vm (x:QQ):Prop:=x.method=Q8∨x.method=Q7
instance (x:QQ):Decidable (Vm x):=by unfold Vm;infer_instance
def YC (p:Qh) (n:Nat):Qh:=⟨p.core,match p.layers[n]? with|some y=>p.layers.set n ⟨y.name,GT y.count⟩|none=>p.layers⟩
def Zn (p:Qh) (n:Nat):ZW:=(p.layers[n]?).getD ⟨⟨#[]⟩,0⟩
noncomputable def XC:Nat->Qh->QQ->Qh×Ud
 |0,p,x=>(⟨(XL p.core x).1,p.layers⟩,(XL p.core x).2)
 |n+1,p,x=>
  if(Zn p n).name=QI/\x.method=QE then(p,Qj 0 (Zn p n).count 0 0)
  else if(Zn p n).name=QI/\Vm x then(YC (XC n p x).1 n,(XC n p x).2)
  else if(Zn p n).name=ZX/\Vm x then(if(XC n p x).2.code=2 then XC n (XC n (XC n p x).1 (only Qr)).1 x else XC n p x)
  else if(Zn p n).name=Zf/\x.method=Q7 then(p,Qj 6 0 0 0)
  else if(Zn p n).name=QW/\x.method=QJ then(if x.value=0 then XC n (YC p n) (only QG) else if x.value=1 then XC n (YC p n) (only Qr) else(YC p n,Qj 0 (Zn (YC p n) n).count 0 0))
  else if(Zn p n).name=Zb/\x.method=Zd then XC n (XC n p (only QG)).1 (only Qr)
  else if(Zn p n).name=Zl then(if(XC n p x).2.code=0 then((XC n p x).1, { (XC n p x).2 with value:=min (2 * (XC n p x).2.value) 999}) else XC n p x)
  else XC n p x
open Classical in
noncomputable def QC (p:Qh) (x:QQ):Qh×Ud:=
 if ¬Qp p∨¬QZ x then(p,Qj 7 0 0 0)
 else if ¬ZN (Qs p p.layers.length) (ZQ x.method) then(p,Qj 1 0 (ZQ x.method) (Qs p p.layers.length))
 else XC p.layers.length p x
open Classical in
noncomputable def Yi (p:Qh):Qh×Bool:=
 if ¬Qp p∨p.layers.length=0 then(p,false) else(⟨p.core,p.layers.take (p.layers.length-1)⟩,true)
structure ZS where
 slots:List Qm
 taken:Int
def Wh:Qm:=⟨false,Zh⟩
def slotAt (l:List Qm) (i:Int):Qm:=(l[i.toNat]?).getD Wh
def YX (input:List Int) (taken:Int):Int:=match input[taken.toNat]? with|some n=>n % 4|none=>0
noncomputable def XR (a:Qa) (p:Qh):Qh×Ud:=
 if a.op=3 then((Yi p).1,Qj 0 0 0 0)
 else if a.op=2 then Zg p a.word
 else if a.op=6 then(p,if ZN (Qs p p.layers.length) a.face then Qj 0 0 0 0 else Qj 1 0 a.face (Qs p p.layers.length))
 else if a.op=7 then QC p a.call
 else(p,Qj 0 0 0 0)
def QO:XH:=⟨0,0,0,0⟩
noncomputable def ZH (a:Qa) (place:Int) (s:ZS):ZS×XH:=
 if a.op=1 then(⟨s.slots.set a.slot.toNat ⟨true,Xw a.word⟩,s.taken⟩,QO)
 else if a.op=5 then(⟨s.slots.set a.slot.toNat Wh,s.taken⟩,QO)
 else if a.op=4 then(⟨s.slots.set a.slot.toNat (slotAt s.slots a.other),s.taken⟩,QO)
 else if(slotAt s.slots a.slot).full=false then(s,⟨2,place,0,0⟩)
 else(⟨s.slots.set a.slot.toNat ⟨true,(XR a (slotAt s.slots a.slot).part).1⟩,s.taken⟩,
  if(XR a (slotAt s.slots a.slot).part).2.code=1 then⟨1,place,(XR a (slotAt s.slots a.slot).part).2.want,(XR a (slotAt s.slots a.slot).part).2.had⟩ else QO)
def Zs:Nat->(ZS->ZS×XH)->ZS->ZS×XH
 |0,_,s=>(s,QO)
 |n+1,f,s=>if(f s).2.code=0 then Zs n f (f s).1 else f s
mutual
noncomputable def Qa.run (input:List Int):Qa->Int->ZS->ZS×XH
 | .mk op slot other word call face A B,place,s=>
  if op=8 then(if YX input s.taken % 2=1 then QV input A (place+1) ⟨s.slots,s.taken+1⟩ else QV input B (place+1+Qe A) ⟨s.slots,s.taken+1⟩)
  else if op=9 then Zs (YX input s.taken).toNat (fun t=>QV input A (place+1) t) ⟨s.slots,s.taken+1⟩
  else if op=10 then(if(QV input A (place+1) s).2.code=1 then QV input B (place+1+Qe A) (QV input A (place+1) s).1 else QV input A (place+1) s)
  else ZH (.mk op slot other word call face A B) place s
noncomputable def QV (input:List Int):List Qa->Int->ZS->ZS×XH
 | [],_,s=>(s,QO)
 |a::l,place,s=>if(a.run input place s).2.code=0 then QV input l (place+a.size) (a.run input place s).1 else a.run input place s
end
theorem Qa.run_eq (input:List Int) (a:Qa) (place:Int) (s:ZS):a.run input place s=
  if a.op=8 then(if YX input s.taken % 2=1 then QV input a.A (place+1) ⟨s.slots,s.taken+1⟩ else QV input a.B (place+1+Qe a.A) ⟨s.slots,s.taken+1⟩)
  else if a.op=9 then Zs (YX input s.taken).toNat (fun t=>QV input a.A (place+1) t) ⟨s.slots,s.taken+1⟩
  else if a.op=10 then(if(QV input a.A (place+1) s).2.code=1 then QV input a.B (place+1+Qe a.A) (QV input a.A (place+1) s).1 else QV input a.A (place+1) s)
  else ZH a place s:=by
 cases a;rw [Qa.run];rfl
open Classical in
noncomputable def vR (l:List Qm) (p:List Qa) (input:List Int):XH×List Qm×Int:=
 if QN l/\X0 p then((QV input p 0 ⟨l,0⟩).2,(QV input p 0 ⟨l,0⟩).1.slots,(QV input p 0 ⟨l,0⟩).1.taken) else(⟨3,0,0,0⟩,l,0)
theorem Je (l:List Qm) (i:Nat) (hi:i<l.length):l.flatMap Zo=(l.take i).flatMap Zo++(Zo l[i] ++(l.drop (i+1)).flatMap Zo):=by
 conv=>lhs;rw [<-List.take_append_drop i l,List.drop_eq_getElem_cons hi]
 rw [List.flatMap_append,List.flatMap_cons]
theorem uD (l:List Qm) (i:Nat) (hi:i<l.length) (x:Qm):(l.set i x).flatMap Zo=(l.take i).flatMap Zo++(Zo x++(l.drop (i+1)).flatMap Zo):=by
 rw [Je (l.set i x) i (by simpa using hi),List.getElem_set_self,List.take_set_of_le (Nat.le_refl i),List.drop_set_of_lt (by omega)]
theorem Ji (l:List Qm) (i:Nat) (hi:i<=l.length):((l.take i).flatMap Zo).length=i * 7:=by
 rw [Xp Ug,List.length_take,Nat.min_eq_left hi]
theorem qV (l:List Qm):(l.flatMap Zo).length=l.length * 7:=Xp Ug l
theorem Yk.slotSet {w:World} {g cap L:Nat} {l:List Qm} {S S1:List Nat} {i:Nat} {x:Qm} {us:List Value} (hL:l.length=L) (h:Yk w (slots l) (.slice (some ⟨g,0,none⟩) L cap) S) (hi:i<L) (hx:Qu w (Zo x) us S1) (hd:∀y,y∈S1->y∉S):
  ∃S',Yk (Xd w g (i * 7) us) (slots (l.set i x)) (.slice (some ⟨g,0,none⟩) L cap) S'/\(∀y,y∈S'->y∈S∨y∈S1)/\g∈S/\Qb [g] w (Xd w g (i * 7) us):=by
 subst hL
 unfold slots at h ⊢
 obtain⟨S',h1,h2,h3,h4⟩:=h.putRow (j:=i * 7) (by rw [Ug,qV];omega) hx hd
 refine⟨S',?_,h2,h3,h4⟩
 rw [List.length_set,uD l i hi]
 have hs:=Gy (Zo x) ((l.take i).flatMap Zo) (Zo l[i]) ((l.drop (i+1)).flatMap Zo) (by rw [Ug,Ug])
 rw [Ji l i (by omega), <-Je l i hi] at hs
 rw [<-hs]
 exact h1
theorem Yk.slotPart {w:World} {g cap L:Nat} {l:List Qm} {S S1:List Nat} {i:Nat} {q:Qh} {us:List Value} (hL:l.length=L) (h:Yk w (slots l) (.slice (some ⟨g,0,none⟩) L cap) S) (hi:i<L) (hx:Qu w (Wm q) us S1) (hd:∀y,y∈S1->y∉S) (hi2:i<l.length):
  ∃S',Yk (Xd w g (i * 7+1) us) (slots (l.set i ⟨l[i].full,q⟩)) (.slice (some ⟨g,0,none⟩) L cap) S'/\(∀y,y∈S'->y∈S∨y∈S1)/\g∈S/\Qb [g] w (Xd w g (i * 7+1) us):=by
 subst hL
 unfold slots at h ⊢
 obtain⟨S',h1,h2,h3,h4⟩:=h.putRow (j:=i * 7+1) (by rw [zl,qV];omega) hx hd
 refine⟨S',?_,h2,h3,h4⟩
 rw [List.length_set,uD l i hi]
 have hs:=Gy (Wm q) ((l.take i).flatMap Zo++ [.v (.bool l[i].full)]) (Wm l[i].part) ((l.drop (i+1)).flatMap Zo) (by rw [zl,zl])
 rw [List.length_append,Ji l i (by omega)] at hs
 have e1:(l.take i).flatMap Zo++ [QK.v (.bool l[i].full)] ++(Wm l[i].part++(l.drop (i+1)).flatMap Zo)=l.flatMap Zo:=by
  rw [Je l i hi];unfold Zo;simp only [List.append_assoc,List.cons_append,List.nil_append]
 have e2:(l.take i).flatMap Zo++ [QK.v (.bool l[i].full)] ++(Wm q++(l.drop (i+1)).flatMap Zo)=(l.take i).flatMap Zo++(Zo ⟨l[i].full,q⟩++(l.drop (i+1)).flatMap Zo):=by
  unfold Zo;simp only [List.append_assoc,List.cons_append,List.nil_append]
 rw [e1,e2] at hs
 rw [<-hs]
 exact h1
theorem Yk.slotAt {w:World} {g cap L:Nat} {l:List Qm} {S:List Nat} (hL:l.length=L) (h:Yk w (slots l) (.slice (some ⟨g,0,none⟩) L cap) S) {i:Nat} (hi:i<L) (hi2:i<l.length):
  ∃A3 c3 A5 c5,w.cell? ⟨g,i * 7,none⟩=some (.bool l[i].full)/\w.cell? ⟨g,i * 7+1,none⟩=some (.string l[i].part.core.kind)/\w.cell? ⟨g,i * 7+2,none⟩=some (.bool l[i].part.core.on)/\w.cell? ⟨g,i * 7+3,none⟩=some (.bool l[i].part.core.broken)/\
   w.cell? ⟨g,i * 7+4,none⟩=some (.slice A3 l[i].part.core.cells.length c3)/\w.cell? ⟨g,i * 7+5,none⟩=some (.int .i64 l[i].part.core.count)/\w.cell? ⟨g,i * 7+6,none⟩=some (.slice A5 l[i].part.layers.length c5)/\
   Rd w w.heap.size (cells l[i].part.core.cells) (.slice A3 l[i].part.core.cells.length c3)/\Rd w w.heap.size (layers l[i].part.layers) (.slice A5 l[i].part.layers.length c5)/\(∀o:Nat,o<7->w.frozen? ⟨g,i * 7+o,none⟩=false)/\g<w.heap.size:=by
 subst hL
 have hf:∀o:Nat,o<7->w.frozen? ⟨g,i * 7+o,none⟩=false:=fun o ho=>by
  unfold slots at h
  exact(h.room (j:=i * 7+o) (by rw [qV];omega)).1
 obtain⟨A,cap',e,_,_,hrow⟩:=Ki h.rd
 simp only [Value.slice.injEq,true_and] at e
 obtain⟨e1,e2⟩:=e
 subst e1 e2
 obtain⟨b,off,u4,u6,e,hb,q0,q1,q2,q3,q4,q5,q6,r4,r6⟩:=UR hrow i hi
 simp only [Option.some.injEq,Addr.mk.injEq] at e
 obtain⟨rfl,rfl,_⟩:=e
 rw [Nat.zero_add] at q0 q1 q2 q3 q4 q5 q6
 obtain⟨A3,c3,rfl,_,_,_⟩:=Za r4
 obtain⟨A5,c5,rfl,_,_,_⟩:=Xa r6
 exact⟨A3,c3,A5,c5,q0,q1,q2,q3,q4,q5,q6,r4,r6,hf,hb⟩
theorem Ka:∀x:List UInt8,Op.bytesLess x x=false
 | []=>rfl
 |a::x=>by simp [Op.bytesLess,Ka x,UInt8.lt_irrefl]
theorem Jf:∀ {x y z:List UInt8},Op.bytesLess x y=true->Op.bytesLess y z=true->Op.bytesLess x z=true
 |_,[],_,h,_=>by unfold Op.bytesLess at h;simp at h
 |_,_::_,[],_,h=>by unfold Op.bytesLess at h;simp at h
 | [],_::_,_::_,_,_=>by unfold Op.bytesLess;rfl
 | a::x,b::y,c::z,h,k=>by
  unfold Op.bytesLess at h k ⊢
  simp only [Bool.or_eq_true,decide_eq_true_eq,Bool.and_eq_true,beq_iff_eq] at h k ⊢
  rcases h with h|⟨rfl,h⟩
  ·rcases k with k|⟨rfl,k⟩
   ·exact .inl (UInt8.lt_trans h k)
   ·exact .inl h
  ·rcases k with k|⟨rfl,k⟩
   ·exact .inl k
   ·exact .inr ⟨rfl,Jf h k⟩
theorem qm:∀ {x y:List UInt8},Op.bytesLess x y=false->x≠y->Op.bytesLess y x=true
 | [],[],_,h=>absurd rfl h
 | [],_::_,h,_=>by unfold Op.bytesLess at h;simp at h
 |_::_,[],_,_=>by unfold Op.bytesLess;rfl
 | a::x,b::y,h,k=>by
  unfold Op.bytesLess at h ⊢
  simp only [Bool.or_eq_false_iff,decide_eq_false_iff_not,Bool.and_eq_false_imp,beq_iff_eq,Bool.or_eq_true,decide_eq_true_eq,Bool.and_eq_true] at h ⊢
  by_cases hab:a=b
  ·subst hab
   exact .inr ⟨rfl,qm (h.2 rfl) (fun e=>k (by rw [e]))⟩
  ·left
   rcases UInt8.lt_or_lt_of_ne hab with h1|h1
   ·exact absurd h1 h.1
   ·exact h1
theorem wX {a b:ByteArray}:a.toList=b.toList↔a=b:=by
 constructor
 ·intro h
  rw [ByteArray.toList_eq,ByteArray.toList_eq] at h
  exact ByteArray.ext (Array.toList_inj.1 h)
 ·rintro rfl;rfl
def Asc (l:List QD):Prop:=l.Pairwise fun a b=>Op.bytesLess a.key.toList b.key.toList=true
theorem Jk {l:List QD} (h:Zy l):Asc l:=by
 unfold Asc
 rw [List.pairwise_iff_getElem]
 intro i j hi hj hij
 have key:∀d i (hi:i<l.length) (hj:i+1+d<l.length),Op.bytesLess l[i].key.toList l[i+1+d].key.toList=true:=by
  intro d
  induction d with
  |zero=>intro i hi hj;have:=(h.2 (i+1) hj).2.2 (by omega);simpa using this
  |succ d ih=>
   intro i hi hj
   have h1:=ih i hi (by omega)
   have h2:=(h.2 (i+1+(d+1)) hj).2.2 (by omega)
   exact Jf h1 (by simpa using h2)
 have:=key (j-i-1) i hi (by omega)
 have e:i+1+(j-i-1)=j:=by omega
 simpa only [e] using this
theorem UJ (l:List QD):Zy l↔l.length<=4/\(∀c∈l,qc c.key/\ZM c.value)/\Asc l:=by
 constructor
 ·intro h
  refine⟨h.1,fun c hc=>?_,Jk h⟩
  obtain⟨i,hi,rfl⟩:=List.getElem_of_mem hc
  exact⟨(h.2 i hi).1,(h.2 i hi).2.1⟩
 ·rintro⟨h1,h2,h3⟩
  refine⟨h1,fun k hk=>⟨(h2 _ (List.getElem_mem hk)).1,(h2 _ (List.getElem_mem hk)).2,fun h0=>?_⟩⟩
  exact List.pairwise_iff_getElem.1 h3 (k-1) k (by omega) hk (by omega)
theorem QaD {l:List QD} {k:ByteArray} (h:∀c∈l,Op.bytesLess k.toList c.key.toList=true):Vi l k=none:=by
 induction l with
 |nil=>rfl
 |cons c l ih=>
  rw [Vi,if_neg (fun e=>by have:=h c (by simp);rw [e,Ka] at this;cases this)]
  exact ih fun d hd=>h d (by simp [hd])
theorem vd {l:List QD} {k:ByteArray} (h:∀c∈l,c.key≠k):Vi l k=none:=by
 induction l with
 |nil=>rfl
 |cons c l ih=>
  rw [Vi,if_neg (h c (by simp))]
  exact ih fun d hd=>h d (by simp [hd])
theorem QaB {k:ByteArray}:∀ {l:List QD} {i:Nat} (hi:i<l.length),(∀j (hj:j<l.length),j<i->l[j].key≠k)->l[i].key=k->Vi l k=some l[i].value
 |c::l,0,hi,_,h=>by rw [Vi];simp at h;rw [if_pos h];rfl
 |c::l,i+1,hi,hn,h=>by
  have h0:=hn 0 (by simp) (by omega)
  simp only [List.getElem_cons_zero] at h0
  rw [Vi,if_neg h0]
  exact QaB (l:=l) (i:=i) (by simpa using hi) (fun j hj hji=>by have:=hn (j+1) (by simpa using hj) (by omega);simpa using this) (by simpa using h)
theorem yJ {k:ByteArray} {v:Int}:∀ {l:List QD} {i:Nat},i<=l.length->(∀j (hj:j<l.length),j<i->Op.bytesLess l[j].key.toList k.toList=true)->
  (∀(hi:i<l.length),Op.bytesLess l[i].key.toList k.toList=false)->XX l k v=if(l[i]?).any (fun c=>decide (c.key=k)) then l.set i ⟨k,v⟩ else l.take i++⟨k,v⟩::l.drop i
 | [],i,hi,_,_=>by
  obtain rfl:i=0:=by simpa using hi
  simp [XX]
 |c::l,0,_,_,h=>by
  have h0:=h (by simp)
  simp only [List.getElem_cons_zero] at h0
  rw [XX,h0]
  simp only [Bool.false_eq_true,if_false,List.getElem?_cons_zero,Option.any_some,List.set_cons_zero,List.take_zero,List.nil_append,List.drop_zero]
  by_cases hk:c.key=k
  ·simp [hk]
  ·simp [hk]
 |c::l,i+1,hi,hn,h=>by
  have h0:=hn 0 (by simp) (by omega)
  simp only [List.getElem_cons_zero] at h0
  rw [XX,if_pos h0,yJ (l:=l) (i:=i) (by simpa using hi) (fun j hj hji=>by have:=hn (j+1) (by simpa using hj) (by omega);simpa using this) (fun hi'=>by have:=h (by simpa using hi');simpa using this)]
  simp only [List.getElem?_cons_succ]
  split<;>simp
theorem QfZ (l:List QD) (k:ByteArray) (v:Int):(XX l k v).length<=l.length+1:=by
 induction l with
 |nil=>simp [XX]
 |cons c l ih=>
  rw [XX]
  split
  ·simp;omega
  ·split<;>simp
theorem xU {l:List QD} {k:ByteArray} {v:Int} (ha:Asc l) (h:Vi l k≠none):(XX l k v).length=l.length:=by
 induction l with
 |nil=>exact absurd rfl h
 | cons c l ih=>
  rw [Vi] at h
  rw [XX]
  have ha':=List.pairwise_cons.1 ha
  by_cases h1:Op.bytesLess c.key.toList k.toList=true
  ·rw [if_pos h1]
   have:c.key≠k:=fun e=>by rw [e,Ka] at h1;cases h1
   rw [if_neg this] at h
   simp [ih ha'.2 h]
  ·rw [if_neg h1]
   by_cases h2:c.key=k
   ·rw [if_pos h2];simp
   ·rw [if_neg h2] at h
    have h3:=qm (by simpa using h1) (fun e=>h2 (wX.1 e))
    exact absurd (QaD fun d hd=>Jf h3 (ha'.1 d hd)) h
theorem QaE {l:List QD} {k:ByteArray} {v:Int} {c:QD} (h:c∈XX l k v):c=⟨k,v⟩∨c∈l:=by
 induction l with
 |nil=>simpa [XX] using h
 | cons d l ih=>
  rw [XX] at h
  split at h
  ·rcases List.mem_cons.1 h with rfl|h
   ·exact .inr (by simp)
   ·exact(ih h).imp id (fun x=>by simp [x])
  ·split at h
   ·rcases List.mem_cons.1 h with rfl|h
    ·exact .inl rfl
    ·exact .inr (by simp [h])
   ·rcases List.mem_cons.1 h with rfl|h
    ·exact .inl rfl
    ·exact .inr h
theorem QfL {l:List QD} {k:ByteArray} {v:Int} (ha:Asc l):Asc (XX l k v):=by
 induction l with
 |nil=>unfold XX Asc;simp
 | cons c l ih=>
  have ha':=List.pairwise_cons.1 ha
  rw [XX]
  by_cases h1:Op.bytesLess c.key.toList k.toList=true
  ·rw [if_pos h1]
   refine List.pairwise_cons.2 ⟨fun d hd=>?_,ih ha'.2⟩
   rcases QaE hd with rfl|hd
   ·exact h1
   ·exact ha'.1 d hd
  ·rw [if_neg h1]
   by_cases h2:c.key=k
   ·rw [if_pos h2]
    exact List.pairwise_cons.2 ⟨fun d hd=>by have:=ha'.1 d hd;rw [h2] at this;exact this,ha'.2⟩
   ·rw [if_neg h2]
    have h3:=qm (by simpa using h1) (fun e=>h2 (wX.1 e))
    refine List.pairwise_cons.2 ⟨fun d hd=>?_,ha⟩
    rcases List.mem_cons.1 hd with rfl|hd
    ·exact h3
    ·exact Jf h3 (ha'.1 d hd)
theorem Qgk {l:List QD} {k:ByteArray} {v:Int} (h:Zy l) (hk:qc k) (hv:ZM v) (hl:Vi l k≠none∨l.length<4):Zy (XX l k v):=by
 rw [UJ] at h ⊢
 refine⟨?_,fun c hc=>?_,QfL h.2.2⟩
 ·rcases hl with hl|hl
  ·rw [xU h.2.2 hl];exact h.1
  ·have:=QfZ l k v;omega
 ·rcases QaE hc with rfl|hc
  ·exact⟨hk,hv⟩
  ·exact h.2.1 c hc
theorem KD {l:List QD} {k:ByteArray} {i:Nat} (ha:Asc l) (hb:∀j (hj:j<l.length),j<i->Op.bytesLess l[j].key.toList k.toList=true) (hs:∀h:i<l.length,Op.bytesLess l[i].key.toList k.toList=false):
  Vi l k=(l[i]?).bind fun c=>if c.key=k then some c.value else none:=by
 have hlow:∀j (hj:j<l.length),j<i->l[j].key≠k:=fun j hj hji e=>by have:=hb j hj hji;rw [e,Ka] at this;cases this
 by_cases hi:i<l.length
 ·rw [List.getElem?_eq_getElem hi]
  show _=if l[i].key=k then some l[i].value else none
  by_cases hk:l[i].key=k
  ·rw [if_pos hk];exact QaB hi hlow hk
  ·rw [if_neg hk]
   refine vd fun c hc=>?_
   obtain⟨j,hj,rfl⟩:=List.getElem_of_mem hc
   rcases Nat.lt_trichotomy j i with h|h|h
   ·exact hlow j hj h
   ·subst h;exact hk
   ·intro e
    have h1:=qm (hs hi) (fun e=>hk (wX.1 e))
    have h2:=Jf h1 (List.pairwise_iff_getElem.1 ha i j hi hj h)
    rw [e,Ka] at h2;cases h2
 ·rw [List.getElem?_eq_none (by omega)]
  refine vd fun c hc=>?_
  obtain⟨j,hj,rfl⟩:=List.getElem_of_mem hc
  exact hlow j hj (by omega)
theorem Qbo:(Qr=QG)=False:=eq_false (by decide)
theorem wE:(Qr=Q8)=False:=eq_false (by decide)
theorem vj:(Qr=Q7)=False:=eq_false (by decide)
theorem yg:(Qr=QE)=False:=eq_false (by decide)
theorem zR:(Qr=QJ)=False:=eq_false (by decide)
theorem QaF:(Qr=QS)=False:=eq_false (by decide)
theorem j8:(Qr=Zq)=False:=eq_false (by decide)
theorem zM:(Qr=Zd)=False:=eq_false (by decide)
theorem ym:(QG=Qr)=False:=eq_false (by decide)
theorem uZ:(QG=Q8)=False:=eq_false (by decide)
theorem kj:(QG=Q7)=False:=eq_false (by decide)
theorem xN:(QG=QE)=False:=eq_false (by decide)
theorem vo:(QG=QJ)=False:=eq_false (by decide)
theorem QcA:(QG=QS)=False:=eq_false (by decide)
theorem Qcv:(QG=Zq)=False:=eq_false (by decide)
theorem wx:(QG=Zd)=False:=eq_false (by decide)
theorem xT:(Q8=Qr)=False:=eq_false (by decide)
theorem uG:(Q8=QG)=False:=eq_false (by decide)
theorem Qf1:(Q8=Q7)=False:=eq_false (by decide)
theorem uq:(Q8=QE)=False:=eq_false (by decide)
theorem QdU:(Q8=QJ)=False:=eq_false (by decide)
theorem QdK:(Q8=QS)=False:=eq_false (by decide)
theorem Qev:(Q8=Zq)=False:=eq_false (by decide)
theorem uE:(Q8=Zd)=False:=eq_false (by decide)
theorem vp:(Q7=Qr)=False:=eq_false (by decide)
theorem uo:(Q7=QG)=False:=eq_false (by decide)
theorem xW:(Q7=Q8)=False:=eq_false (by decide)
theorem uI:(Q7=QE)=False:=eq_false (by decide)
theorem kC:(Q7=QJ)=False:=eq_false (by decide)
theorem Qd8:(Q7=QS)=False:=eq_false (by decide)
theorem QdX:(Q7=Zq)=False:=eq_false (by decide)
theorem uM:(Q7=Zd)=False:=eq_false (by decide)
theorem ye:(QE=Qr)=False:=eq_false (by decide)
theorem vq:(QE=QG)=False:=eq_false (by decide)
theorem qQ:(QE=Q8)=False:=eq_false (by decide)
theorem qW:(QE=Q7)=False:=eq_false (by decide)
theorem QcH:(QE=QJ)=False:=eq_false (by decide)
theorem Qcl:(QE=QS)=False:=eq_false (by decide)
theorem QcF:(QE=Zq)=False:=eq_false (by decide)
theorem vc:(QE=Zd)=False:=eq_false (by decide)
theorem zI:(QJ=Qr)=False:=eq_false (by decide)
theorem xr:(QJ=QG)=False:=eq_false (by decide)
theorem kn:(QJ=Q8)=False:=eq_false (by decide)
theorem kk:(QJ=Q7)=False:=eq_false (by decide)
theorem xP:(QJ=QE)=False:=eq_false (by decide)
theorem QcU:(QJ=QS)=False:=eq_false (by decide)
theorem Qco:(QJ=Zq)=False:=eq_false (by decide)
theorem wG:(QJ=Zd)=False:=eq_false (by decide)
theorem yn:(QS=Qr)=False:=eq_false (by decide)
theorem xc:(QS=QG)=False:=eq_false (by decide)
theorem uv:(QS=Q8)=False:=eq_false (by decide)
theorem uO:(QS=Q7)=False:=eq_false (by decide)
theorem wY:(QS=QE)=False:=eq_false (by decide)
theorem wt:(QS=QJ)=False:=eq_false (by decide)
theorem xz:(QS=Zq)=False:=eq_false (by decide)
theorem vm:(QS=Zd)=False:=eq_false (by decide)
theorem yl:(Zq=Qr)=False:=eq_false (by decide)
theorem wK:(Zq=QG)=False:=eq_false (by decide)
theorem uX:(Zq=Q8)=False:=eq_false (by decide)
theorem uP:(Zq=Q7)=False:=eq_false (by decide)
theorem wF:(Zq=QE)=False:=eq_false (by decide)
theorem vr:(Zq=QJ)=False:=eq_false (by decide)
theorem Qcc:(Zq=QS)=False:=eq_false (by decide)
theorem x6:(Zq=Zd)=False:=eq_false (by decide)
theorem yi:(Zd=Qr)=False:=eq_false (by decide)
theorem vt:(Zd=QG)=False:=eq_false (by decide)
theorem uF:(Zd=Q8)=False:=eq_false (by decide)
theorem uR:(Zd=Q7)=False:=eq_false (by decide)
theorem wL:(Zd=QE)=False:=eq_false (by decide)
theorem xI:(Zd=QJ)=False:=eq_false (by decide)
theorem xw:(Zd=QS)=False:=eq_false (by decide)
theorem xh:(Zd=Zq)=False:=eq_false (by decide)
theorem mne:(Qr=QG)=False/\(Qr=Q8)=False/\(Qr=Q7)=False/\(Qr=QE)=False/\(Qr=QJ)=False/\(Qr=QS)=False/\(Qr=Zq)=False/\(Qr=Zd)=False/\(QG=Qr)=False/\(QG=Q8)=False/\(QG=Q7)=False/\(QG=QE)=False/\(QG=QJ)=False/\(QG=QS)=False/\(QG=Zq)=False/\(QG=Zd)=False/\(Q8=Qr)=False/\(Q8=QG)=False/\(Q8=Q7)=False/\(Q8=QE)=False/\(Q8=QJ)=False/\(Q8=QS)=False/\(Q8=Zq)=False/\(Q8=Zd)=False/\(Q7=Qr)=False/\(Q7=QG)=False/\(Q7=Q8)=False/\(Q7=QE)=False/\(Q7=QJ)=False/\(Q7=QS)=False/\(Q7=Zq)=False/\(Q7=Zd)=False/\(QE=Qr)=False/\(QE=QG)=False/\(QE=Q8)=False/\(QE=Q7)=False/\(QE=QJ)=False/\(QE=QS)=False/\(QE=Zq)=False/\(QE=Zd)=False/\(QJ=Qr)=False/\(QJ=QG)=False/\(QJ=Q8)=False/\(QJ=Q7)=False/\(QJ=QE)=False/\(QJ=QS)=False/\(QJ=Zq)=False/\(QJ=Zd)=False/\(QS=Qr)=False/\(QS=QG)=False/\(QS=Q8)=False/\(QS=Q7)=False/\(QS=QE)=False/\(QS=QJ)=False/\(QS=Zq)=False/\(QS=Zd)=False/\(Zq=Qr)=False/\(Zq=QG)=False/\(Zq=Q8)=False/\(Zq=Q7)=False/\(Zq=QE)=False/\(Zq=QJ)=False/\(Zq=QS)=False/\(Zq=Zd)=False/\(Zd=Qr)=False/\(Zd=QG)=False/\(Zd=Q8)=False/\(Zd=Q7)=False/\(Zd=QE)=False/\(Zd=QJ)=False/\(Zd=QS)=False/\(Zd=Zq)=False:=⟨Qbo,wE,vj,yg,zR,QaF,j8,zM,ym,uZ,kj,xN,vo,QcA,Qcv,wx,xT,uG,Qf1,uq,QdU,QdK,Qev,uE,vp,uo,xW,uI,kC,Qd8,QdX,uM,ye,vq,qQ,qW,QcH,Qcl,QcF,vc,zI,xr,kn,kk,xP,QcU,Qco,wG,yn,xc,uv,uO,wY,wt,xz,vm,yl,wK,uX,uP,wF,vr,Qcc,x6,yi,vt,uF,uR,wL,xI,xw,xh⟩
theorem Un:Zk Qr=some 0/\Zk QG=some 0/\Zk Q8=some 1/\Zk Q7=some 1/\Zk QE=some 2/\Zk QJ=some 3/\Zk QS=some 4/\Zk Zq=some 4/\Zk Zd=some 5:=by
 refine⟨?_,?_,?_,?_,?_,?_,?_,?_,?_⟩<;>(unfold Zk;rw [ByteArray.toList_eq];rfl)
theorem Yf:ZQ Qr=1:=by unfold ZQ;rw [Un.1];rfl
theorem YG:ZQ QG=1:=by unfold ZQ;rw [Un.2.1];rfl
theorem WD:ZQ Q8=2:=by unfold ZQ;rw [Un.2.2.1];rfl
theorem WG:ZQ Q7=2:=by unfold ZQ;rw [Un.2.2.2.1];rfl
theorem Wq:ZQ QE=4:=by unfold ZQ;rw [Un.2.2.2.2.1];rfl
theorem Wa:ZQ QJ=8:=by unfold ZQ;rw [Un.2.2.2.2.2.1];rfl
theorem Y9:ZQ QS=16:=by unfold ZQ;rw [Un.2.2.2.2.2.2.1];rfl
theorem Wo:ZQ Zq=16:=by unfold ZQ;rw [Un.2.2.2.2.2.2.2.1];rfl
theorem Wr:ZQ Zd=32:=by unfold ZQ;rw [Un.2.2.2.2.2.2.2.2];rfl
theorem YH {x:QQ} (h:QZ x):x.method=Qr∨x.method=QG∨x.method=Q8∨x.method=Q7∨x.method=QE∨x.method=QJ∨x.method=QS∨x.method=Zq∨x.method=Zd:=by
 have h1:=h.1
 obtain⟨k,hk⟩:=Option.ne_none_iff_exists'.1 h1
 obtain⟨j,hj,rfl,hm⟩:=UI hk
 match j,hj,hm with
 |0,_,hm|1,_,hm|4,_,hm=>simp only [XP,List.mem_cons,List.not_mem_nil,or_false] at hm;rcases hm with hm|hm<;>simp [hm]
 |2,_,hm|3,_,hm|5,_,hm=>simp only [XP,List.mem_cons,List.not_mem_nil,or_false] at hm;simp [hm]
theorem yp {p:ZR} {x:QQ} (h:x.method=Qr):XL p x=if p.broken=true then(p,Qj 3 0 0 0) else if p.on=true then({p with on:=false,broken:=true},Qj 3 0 0 0) else({p with on:=true,count:=GT p.count},Qj 0 0 0 0):=by
 unfold XL;rw [h];simp [zM,yg]
theorem xt {p:ZR} {x:QQ} (h:x.method=QG):XL p x=if p.broken=true then(p,Qj 3 0 0 0) else if p.on=true then({p with on:=false},Qj 0 0 0 0) else(p,Qj 2 0 0 0):=by
 unfold XL;rw [h];simp [wx,xN,ym]
theorem ug {p:ZR} {x:QQ} (h:x.method=Q8):XL p x=if p.broken=true then(p,Qj 3 0 0 0) else Wx p x:=by
 unfold XL;rw [h];simp [uE,uq,xT,uG]
theorem ue {p:ZR} {x:QQ} (h:x.method=Q7):XL p x=if p.broken=true then(p,Qj 3 0 0 0) else Wx p x:=by
 unfold XL;rw [h];simp [uM,uI,vp,uo,xW]
theorem GE {p:ZR} {x:QQ} (h:x.method=QE):XL p x=(p,Qj 0 p.count 0 0):=by
 unfold XL;rw [h];simp [vc,ye,vq,qQ,qW]
theorem wW {p:ZR} {x:QQ} (h:x.method=QJ):XL p x=if p.broken=true then(p,Qj 3 0 0 0) else({p with count:=GT p.count,on:=(x.value==1) || (p.on&&!(x.value==0)) },Qj 0 (GT p.count) 0 0):=by
 unfold XL;rw [h];simp [wG,xP,zI,xr,kn,kk]
theorem vg {p:ZR} {x:QQ} (h:x.method=QS):XL p x=if p.broken=true then(p,Qj 3 0 0 0) else(match QA x.text with|none=>(p,Qj 6 0 0 0)|some l=>({p with cells:=l},Qj 0 l.length 0 0)):=by
 unfold XL;rw [h];simp [vm,wY,yn,xc,uv,uO,wt,xz] <;>rfl
theorem wR {p:ZR} {x:QQ} (h:x.method=Zq):XL p x=if p.broken=true then(p,Qj 3 0 0 0) else(p,⟨0,0,VJ p.cells,0,0⟩):=by
 unfold XL;rw [h];simp [x6,wF,yl,wK,uX,uP,vr]
theorem vh {p:ZR} {x:QQ} (h:x.method=Zd):XL p x=({p with on:=false,broken:=false},Qj 0 0 0 0):=by
 unfold XL;rw [h];simp [wL,yi,vt,uF,uR,xI,xh,xw]

theorem jm {n:Int} (h:ZM n):ZM (GT n):=by
 unfold ZM at *;unfold GT;omega
theorem vW {s:ByteArray} {l:List QD} (h:QA s=some l):Zy l:=by
 unfold QA at h
 split at h
 ·injection h with h;subst h;exact⟨by simp,fun k hk=>by simp at hk⟩
 ·split at h
  ·rename_i hx;injection h with h;rw [<-h];exact hx.choose_spec.2
  ·cases h
theorem Ui {f:Int} {k:Nat} (hk:k<6) (h:ZN f (2 ^ k:Nat)):has f k=true:=by
 refine h.2.2 ⟨k,hk⟩ ?_
 obtain rfl|rfl|rfl|rfl|rfl|rfl:k=0∨k=1∨k=2∨k=3∨k=4∨k=5:=by omega
 all_goals(clear h;revert hk;decide)
theorem Qeq {s:ByteArray} {f:Int} (h:Qq s=some f):has f 3=true->has f 0=true:=by
 obtain⟨n,hn⟩:=Jy h
 have:∀x∈kinds,has x.2 3=true->has x.2 0=true:=by decide
 exact this _ hn
theorem Qeb {s:ByteArray} {f:Int} (h:Qq s=some f):has f 4=true->has f 1=true:=by
 obtain⟨n,hn⟩:=Jy h
 have:∀x∈kinds,has x.2 4=true->has x.2 1=true:=by decide
 exact this _ hn
theorem Qbs (p:ZR) (x:QQ):(Wx p x).1=p∨(x.method≠Q8/\¬(Vi p.cells x.key=none/\4<=p.cells.length)/\(Wx p x).1={p with cells:=XX p.cells x.key x.value,count:=GT p.count}):=by
 unfold Wx
 split
 ·exact .inl rfl
 ·split
  ·exact .inl rfl
  ·split
   ·exact .inl rfl
   ·exact .inr ⟨by assumption,by assumption,rfl⟩
theorem Qaw {p:ZR} {x:QQ} (h:XI p) (hx:QZ x) (hm:x.method=Q8∨x.method=Q7) (hf:has ((Qq p.kind).getD 0) 1=true):XI (Wx p x).1/\(Wx p x).1.kind=p.kind:=by
 rcases Qbs p x with e|⟨e0,e1,e⟩
 ·rw [e];exact⟨h,rfl⟩
 ·rw [e]
  refine⟨?_,rfl⟩
  have hp:x.method=Q7:=hm.resolve_left e0
  obtain⟨f,h1,h2,h3,h4,h5,h6⟩:=h
  rw [h1] at hf
  have hk:qc x.key/\ZM x.value:=by
   rcases hx.2.2 with hh|hh|hh|hh
   ·exact absurd hh.1 e0
   ·exact hh.2
   ·rw [hp] at hh;simp only [kC,false_and] at hh
   ·exact absurd hp hh.2.1
  exact⟨f,h1,Qgk h2 hk.1 hk.2 (by
   by_cases h:Vi p.cells x.key=none
   ·exact .inr (Nat.lt_of_not_le fun h'=>e1 ⟨h,h'⟩)
   ·exact .inl h),fun _=>hf,jm h4,h5,h6⟩
theorem QeY {p:ZR} {x:QQ} (h:XI p) (hx:QZ x) (hf:ZN ((Qq p.kind).getD 0) (ZQ x.method)):XI (XL p x).1/\(XL p x).1.kind=p.kind:=by
 have hok:=h
 obtain⟨f,h1,h2,h3,h4,h5,h6⟩:=h
 have hff:=hf
 rw [h1] at hff
 simp only [Option.getD_some] at hff
 rcases YH hx with m|m|m|m|m|m|m|m|m
 ·rw [m,Yf] at hff
  have b:=Ui (k:=0) (by omega) hff
  rw [yp m]
  split
  ·exact⟨hok,rfl⟩
  ·rename_i hb
   split
   ·exact⟨⟨f,h1,h2,h3,h4,by simp,.inl b⟩,rfl⟩
   ·exact⟨⟨f,h1,h2,h3,jm h4,by simp;simpa using hb,.inl b⟩,rfl⟩
 ·rw [m,YG] at hff
  have b:=Ui (k:=0) (by omega) hff
  rw [xt m]
  split
  ·exact⟨hok,rfl⟩
  ·split
   ·exact⟨⟨f,h1,h2,h3,h4,by simp,.inl b⟩,rfl⟩
   ·exact⟨hok,rfl⟩
 ·rw [ug m]
  split
  ·exact⟨hok,rfl⟩
  ·rw [m,WD] at hf
   exact Qaw hok hx (.inl m) (Ui (k:=1) (by omega) hf)
 ·rw [ue m]
  split
  ·exact⟨hok,rfl⟩
  ·rw [m,WG] at hf
   exact Qaw hok hx (.inr m) (Ui (k:=1) (by omega) hf)
 ·rw [GE m];exact⟨hok,rfl⟩
 ·rw [m,Wa] at hff
  have b:=Qeq h1 (Ui (k:=3) (by omega) hff)
  rw [wW m]
  split
  ·exact⟨hok,rfl⟩
  ·rename_i hb
   exact⟨⟨f,h1,h2,h3,jm h4,by simp only [not_and];intro _;simpa using hb,.inl b⟩,rfl⟩
 ·rw [m,Y9] at hff
  have b:=Qeb h1 (Ui (k:=4) (by omega) hff)
  rw [vg m]
  split
  ·exact⟨hok,rfl⟩
  ·split
   ·exact⟨hok,rfl⟩
   ·rename_i l hl
    exact⟨⟨f,h1,vW hl,fun _=>b,h4,h5,h6⟩,rfl⟩
 ·rw [wR m]
  split
  ·exact⟨hok,rfl⟩
  ·exact⟨hok,rfl⟩
 ·rw [vh m]
  exact⟨⟨f,h1,h2,h3,h4,by simp,.inr ⟨rfl,rfl⟩⟩,rfl⟩
structure YK (n:Nat) (p q:Qh):Prop where
 kind:q.core.kind=p.core.kind
 len:q.layers.length=p.layers.length
 name:∀(k:Nat) (h:k<p.layers.length) (h':k<q.layers.length),q.layers[k].name=p.layers[k].name
 rest:∀(k:Nat) (h:k<p.layers.length) (h':k<q.layers.length),n<=k->q.layers[k]=p.layers[k]
theorem YK.refl (n:Nat) (p:Qh):YK n p p:=⟨rfl,rfl,fun _ _ _=>rfl,fun _ _ _ _=>rfl⟩
theorem YK.trans {n:Nat} {p q r:Qh} (h:YK n p q) (k:YK n q r):YK n p r:=
 ⟨k.kind.trans h.kind,k.len.trans h.len,fun i hi hi'=>(k.name i (by rw [h.len];exact hi) hi').trans (h.name i hi (by rw [h.len];exact hi)),fun i hi hi' hn=>(k.rest i (by rw [h.len];exact hi) hi' hn).trans (h.rest i hi (by rw [h.len];exact hi) hn)⟩
theorem YK.mono {n m:Nat} {p q:Qh} (h:YK n p q) (hm:n<=m):YK m p q:=⟨h.kind,h.len,h.name,fun k a b c=>h.rest k a b (by omega)⟩
theorem YK.face {n:Nat} {p q:Qh} (h:YK n p q) (k:Nat) (hk:k<=p.layers.length):Qs q k=Qs p k:=by
 rcases Nat.eq_zero_or_pos k with rfl|h0
 ·rw [Uz,Uz,h.kind]
 ·rw [YV q k h0 (by rw [h.len];omega),YV p k h0 (by omega),h.name (k-1) (by omega) (by rw [h.len];omega)]
theorem YK.lay {n k:Nat} {p q:Qh} (h:YK n p q) (hk:k<p.layers.length) (hn:n<=k):Zn q k=Zn p k:=by
 unfold Zn
 rw [List.getElem?_eq_getElem hk,List.getElem?_eq_getElem (by rw [h.len];exact hk),h.rest k hk (by rw [h.len];exact hk) hn]
theorem ZK {p:Qh} {k:Nat} (h:k<p.layers.length):Zn p k=p.layers[k]:=by unfold Zn;rw [List.getElem?_eq_getElem h];rfl
theorem UW {p:Qh} {n:Nat} (h:n<p.layers.length):YC p n=⟨p.core,p.layers.set n ⟨p.layers[n].name,GT p.layers[n].count⟩⟩:=by
 unfold YC;rw [List.getElem?_eq_getElem h]
theorem Uk {p:Qh} {n:Nat} (h:n<p.layers.length):YK (n+1) p (YC p n):=by
 rw [UW h]
 refine⟨rfl,by simp,fun k hk hk'=>?_,fun k hk hk' hn=>?_⟩
 ·simp only [List.getElem_set]
  split
  ·rename_i e;subst e;rfl
  ·rfl
 ·simp only [List.getElem_set]
  rw [if_neg (by omega)]
structure Zu (n:Nat) (p:Qh) (x:QQ):Prop where
 part:Qp p
 le:n<=p.layers.length
 call:QZ x
 offer:ZN (Qs p n) (ZQ x.method)
theorem Zu.to {n m:Nat} {p q:Qh} {x:QQ} (h:Zu n p x) (hs:YK m p q) (hq:Qp q):Zu n q x:=
 ⟨hq,by rw [hs.len];exact h.le,h.call,by rw [hs.face n h.le];exact h.offer⟩
theorem Qgm {p:Qh} {n:Nat} (hp:Qp p) (h:n<p.layers.length) (hn:p.layers[n].name=QI∨p.layers[n].name=QW):Qp (YC p n):=by
 have hs:=Uk h
 refine⟨by rw [UW h];exact hp.1,by rw [hs.len];exact hp.2.1,fun k hk=>?_⟩
 have hk':k<p.layers.length:=by rw [<-hs.len];exact hk
 obtain⟨x,h1,h2,h3,h4⟩:=hp.2.2 k hk'
 refine⟨x,by rw [hs.name k hk' hk];exact h1,by rw [hs.face k (by omega)];exact h2,?_⟩
 by_cases e:n=k
 ·subst e
  have e2:(YC p n).layers[n]=⟨p.layers[n].name,GT p.layers[n].count⟩:=by simp only [UW h,List.getElem_set,if_true]
  rw [e2]
  refine⟨jm h3,.inr ?_⟩
  rcases hn with hn|hn
  ·left;rw [hn,ByteArray.toList_eq];rfl
  ·right;rw [hn,ByteArray.toList_eq];rfl
 ·have e2:(YC p n).layers[k]=p.layers[k]:=by simp only [UW h,List.getElem_set];rw [if_neg e]
  rw [e2]
  exact⟨h3,h4⟩
theorem QgH {p:Qh} {c:ZR} (hp:Qp p) (hc:XI c) (hk:c.kind=p.core.kind):Qp ⟨c,p.layers⟩/\YK 0 p ⟨c,p.layers⟩:=by
 have hs:YK 0 p ⟨c,p.layers⟩:=⟨hk,rfl,fun _ _ _=>rfl,fun _ _ _ _=>rfl⟩
 exact⟨⟨hc,hp.2.1,fun k h=>by obtain⟨x,h1,h2,h3⟩:=hp.2.2 k h;exact⟨x,h1,by rw [hs.face k (by have:=h;simp at this;omega)];exact h2,h3⟩⟩,hs⟩
theorem Qdr {m:ByteArray} (h:m=Qr∨m=QG):QZ (only m):=by
 rcases h with rfl|rfl
 all_goals
  refine⟨?_,.inl rfl,.inr (.inr (.inr ⟨?_,?_,?_,rfl,rfl⟩))⟩
  ·first|(show Zk Qr≠none;rw [Un.1];simp)|(show Zk QG≠none;rw [Un.2.1];simp)
  all_goals(show ¬(_=_);simp only [only,wE,vj,zR,uZ,kj,vo,not_false_eq_true])

theorem Qa4 {s:ByteArray} {x:Int×Int} (h:Qk s=some x):(s=⟨#[112,108,97,105,110]⟩/\x=(0,0))∨(s=⟨#[114,117,110,115]⟩/\x=(1,1))∨(s=⟨#[107,101,101,112,115]⟩/\x=(2,2))∨(s=⟨#[99,111,117,110,116,115]⟩/\x=(2,6))∨(s=⟨#[108,97,122,121]⟩/\x=(3,3))∨(s=⟨#[114,101,97,100,115]⟩/\x=(2,2))∨(s=⟨#[104,101,97,114,115]⟩/\x=(1,9))∨(s=⟨#[104,101,97,108,115]⟩/\x=(1,33))∨(s=⟨#[116,119,105,99,101]⟩/\x=(4,4)):=by
 unfold Qk at h
 have key:∀(l:List (List UInt8×(Int×Int))),look s.toList l=some x->∃y∈l,s.toList=y.1/\x=y.2:=by
  intro l
  induction l with
  |nil=>intro h;simp [look] at h
  |cons y l ih=>
   obtain⟨n,z⟩:=y
   intro h
   rw [look] at h
   split at h
   ·injection h with h;exact⟨(n,z),by simp,by assumption,h.symm⟩
   ·obtain⟨y,h1,h2⟩:=ih h;exact⟨y,by simp [h1],h2⟩
 obtain⟨y,hy,h1,h2⟩:=key _ h
 have sb:∀l:List UInt8,s.toList=l->s=⟨l.toArray⟩:=fun l hl=>by
  rw [ByteArray.toList_eq] at hl
  exact ByteArray.ext (Array.toList_inj.1 hl)
 have h3:=sb _ h1
 simp only [Yh,List.mem_cons,List.not_mem_nil,or_false] at hy
 rcases hy with rfl|rfl|rfl|rfl|rfl|rfl|rfl|rfl|rfl<;>simp [h3,h2]

def Xs:ByteArray:=⟨#[114,117,110,115]⟩
def Zp:ByteArray:=⟨#[107,101,101,112,115]⟩
theorem QeB {f a b:Int} (h:ZN f a) (hb:ZN a b):ZN f b:=⟨h.1,hb.2.1,fun k hk=>h.2.2 k (hb.2.2 k hk)⟩
inductive QhY (n:Nat) (p:Qh) (x:QQ) (name:ByteArray):Prop where
 |countTell (e:name=QI) (m:x.method=QE)
 |countKeep (e:name=QI) (m:Vm x) (h:Zu n p x)
 |lazyKeep (e:name=ZX) (m:Vm x) (h:Zu n p x) (h':Zu n p (only Qr))
 |readsPut (e:name=Zf) (m:x.method=Q7)
 |hearsHear (e:name=QW) (m:x.method=QJ) (h:Zu n p (only QG)) (h':Zu n p (only Qr))
 |healsHeal (e:name=Zb) (m:x.method=Zd) (h:Zu n p (only QG)) (h':Zu n p (only Qr))
 |twiceTell (e:name=Zl) (m:x.method=QE) (h:Zu n p x)
 |start (e:name=Xs∨name=ZX∨name=QW∨name=Zb) (m:x.method=Qr∨x.method=QG) (h:Zu n p x)
 |keep (e:name=Zp) (m:Vm x) (h:Zu n p x)
 |readsGet (e:name=Zf) (m:x.method=Q8) (h:Zu n p x)
theorem kH {n:Nat} {p:Qh} {x:QQ} (h:Zu (n+1) p x) (hn:n<p.layers.length):QhY n p x p.layers[n].name:=by
 obtain⟨y,h1,h2,_,_⟩:=h.part.2.2 n hn
 have hof:=h.offer
 rw [YV p (n+1) (by omega) (by simpa using hn)] at hof
 simp only [Nat.add_sub_cancel,h1,Option.getD_some] at hof
 have mk:∀ {z:QQ},QZ z->ZN y.1 (ZQ z.method)->Zu n p z:=fun hc ho=>⟨h.part,by omega,hc,QeB h2 ho⟩
 have hs:ZN y.1 (ZQ (only Qr).method)->Zu n p (only Qr):=mk (Qdr (.inl rfl))
 have ht:ZN y.1 (ZQ (only QG).method)->Zu n p (only QG):=mk (Qdr (.inr rfl))
 have hx:=mk h.call
 simp only [only,Yf] at hs
 simp only [only,YG] at ht
 rcases Qa4 h1 with ⟨e,rfl⟩|⟨e,rfl⟩|⟨e,rfl⟩|⟨e,rfl⟩|⟨e,rfl⟩|⟨e,rfl⟩|⟨e,rfl⟩|⟨e,rfl⟩|⟨e,rfl⟩
 ·simp only at hof hx hs ht
  rcases YH h.call with m|m|m|m|m|m|m|m|m
  ·rw [m,Yf] at hof;exact absurd hof (by decide)
  ·rw [m,YG] at hof;exact absurd hof (by decide)
  ·rw [m,WD] at hof;exact absurd hof (by decide)
  ·rw [m,WG] at hof;exact absurd hof (by decide)
  ·rw [m,Wq] at hof;exact absurd hof (by decide)
  ·rw [m,Wa] at hof;exact absurd hof (by decide)
  ·rw [m,Y9] at hof;exact absurd hof (by decide)
  ·rw [m,Wo] at hof;exact absurd hof (by decide)
  ·rw [m,Wr] at hof;exact absurd hof (by decide)
 ·simp only at hof hx hs ht
  rcases YH h.call with m|m|m|m|m|m|m|m|m
  ·rw [m,Yf] at hx;exact .start (.inl e) (.inl m) (hx (by decide))
  ·rw [m,YG] at hx;exact .start (.inl e) (.inr m) (hx (by decide))
  ·rw [m,WD] at hof;exact absurd hof (by decide)
  ·rw [m,WG] at hof;exact absurd hof (by decide)
  ·rw [m,Wq] at hof;exact absurd hof (by decide)
  ·rw [m,Wa] at hof;exact absurd hof (by decide)
  ·rw [m,Y9] at hof;exact absurd hof (by decide)
  ·rw [m,Wo] at hof;exact absurd hof (by decide)
  ·rw [m,Wr] at hof;exact absurd hof (by decide)
 ·simp only at hof hx hs ht
  rcases YH h.call with m|m|m|m|m|m|m|m|m
  ·rw [m,Yf] at hof;exact absurd hof (by decide)
  ·rw [m,YG] at hof;exact absurd hof (by decide)
  ·rw [m,WD] at hx;exact .keep e (.inl m) (hx (by decide))
  ·rw [m,WG] at hx;exact .keep e (.inr m) (hx (by decide))
  ·rw [m,Wq] at hof;exact absurd hof (by decide)
  ·rw [m,Wa] at hof;exact absurd hof (by decide)
  ·rw [m,Y9] at hof;exact absurd hof (by decide)
  ·rw [m,Wo] at hof;exact absurd hof (by decide)
  ·rw [m,Wr] at hof;exact absurd hof (by decide)
 ·simp only at hof hx hs ht
  rcases YH h.call with m|m|m|m|m|m|m|m|m
  ·rw [m,Yf] at hof;exact absurd hof (by decide)
  ·rw [m,YG] at hof;exact absurd hof (by decide)
  ·rw [m,WD] at hx;exact .countKeep e (.inl m) (hx (by decide))
  ·rw [m,WG] at hx;exact .countKeep e (.inr m) (hx (by decide))
  ·rw [m,Wq] at hx;exact .countTell e m
  ·rw [m,Wa] at hof;exact absurd hof (by decide)
  ·rw [m,Y9] at hof;exact absurd hof (by decide)
  ·rw [m,Wo] at hof;exact absurd hof (by decide)
  ·rw [m,Wr] at hof;exact absurd hof (by decide)
 ·simp only at hof hx hs ht
  rcases YH h.call with m|m|m|m|m|m|m|m|m
  ·rw [m,Yf] at hx;exact .start (.inr (.inl e)) (.inl m) (hx (by decide))
  ·rw [m,YG] at hx;exact .start (.inr (.inl e)) (.inr m) (hx (by decide))
  ·rw [m,WD] at hx;exact .lazyKeep e (.inl m) (hx (by decide)) (hs (by decide))
  ·rw [m,WG] at hx;exact .lazyKeep e (.inr m) (hx (by decide)) (hs (by decide))
  ·rw [m,Wq] at hof;exact absurd hof (by decide)
  ·rw [m,Wa] at hof;exact absurd hof (by decide)
  ·rw [m,Y9] at hof;exact absurd hof (by decide)
  ·rw [m,Wo] at hof;exact absurd hof (by decide)
  ·rw [m,Wr] at hof;exact absurd hof (by decide)
 ·simp only at hof hx hs ht
  rcases YH h.call with m|m|m|m|m|m|m|m|m
  ·rw [m,Yf] at hof;exact absurd hof (by decide)
  ·rw [m,YG] at hof;exact absurd hof (by decide)
  ·rw [m,WD] at hx;exact .readsGet e m (hx (by decide))
  ·rw [m,WG] at hx;exact .readsPut e m
  ·rw [m,Wq] at hof;exact absurd hof (by decide)
  ·rw [m,Wa] at hof;exact absurd hof (by decide)
  ·rw [m,Y9] at hof;exact absurd hof (by decide)
  ·rw [m,Wo] at hof;exact absurd hof (by decide)
  ·rw [m,Wr] at hof;exact absurd hof (by decide)
 ·simp only at hof hx hs ht
  rcases YH h.call with m|m|m|m|m|m|m|m|m
  ·rw [m,Yf] at hx;exact .start (.inr (.inr (.inl e))) (.inl m) (hx (by decide))
  ·rw [m,YG] at hx;exact .start (.inr (.inr (.inl e))) (.inr m) (hx (by decide))
  ·rw [m,WD] at hof;exact absurd hof (by decide)
  ·rw [m,WG] at hof;exact absurd hof (by decide)
  ·rw [m,Wq] at hof;exact absurd hof (by decide)
  ·rw [m,Wa] at hx;exact .hearsHear e m (ht (by decide)) (hs (by decide))
  ·rw [m,Y9] at hof;exact absurd hof (by decide)
  ·rw [m,Wo] at hof;exact absurd hof (by decide)
  ·rw [m,Wr] at hof;exact absurd hof (by decide)
 ·simp only at hof hx hs ht
  rcases YH h.call with m|m|m|m|m|m|m|m|m
  ·rw [m,Yf] at hx;exact .start (.inr (.inr (.inr e))) (.inl m) (hx (by decide))
  ·rw [m,YG] at hx;exact .start (.inr (.inr (.inr e))) (.inr m) (hx (by decide))
  ·rw [m,WD] at hof;exact absurd hof (by decide)
  ·rw [m,WG] at hof;exact absurd hof (by decide)
  ·rw [m,Wq] at hof;exact absurd hof (by decide)
  ·rw [m,Wa] at hof;exact absurd hof (by decide)
  ·rw [m,Y9] at hof;exact absurd hof (by decide)
  ·rw [m,Wo] at hof;exact absurd hof (by decide)
  ·rw [m,Wr] at hx;exact .healsHeal e m (ht (by decide)) (hs (by decide))
 ·simp only at hof hx hs ht
  rcases YH h.call with m|m|m|m|m|m|m|m|m
  ·rw [m,Yf] at hof;exact absurd hof (by decide)
  ·rw [m,YG] at hof;exact absurd hof (by decide)
  ·rw [m,WD] at hof;exact absurd hof (by decide)
  ·rw [m,WG] at hof;exact absurd hof (by decide)
  ·rw [m,Wq] at hx;exact .twiceTell e m (hx (by decide))
  ·rw [m,Wa] at hof;exact absurd hof (by decide)
  ·rw [m,Y9] at hof;exact absurd hof (by decide)
  ·rw [m,Wo] at hof;exact absurd hof (by decide)
  ·rw [m,Wr] at hof;exact absurd hof (by decide)
theorem jt:(QI=ZX)=False:=eq_false (by decide)
theorem vG:(QI=Zf)=False:=eq_false (by decide)
theorem vV:(QI=QW)=False:=eq_false (by decide)
theorem vZ:(QI=Zb)=False:=eq_false (by decide)
theorem vC:(QI=Zl)=False:=eq_false (by decide)
theorem k9:(QI=Xs)=False:=eq_false (by decide)
theorem vJ:(QI=Zp)=False:=eq_false (by decide)
theorem jT:(ZX=QI)=False:=eq_false (by decide)
theorem Qbf:(ZX=Zf)=False:=eq_false (by decide)
theorem QaK:(ZX=QW)=False:=eq_false (by decide)
theorem QaN:(ZX=Zb)=False:=eq_false (by decide)
theorem Qbb:(ZX=Zl)=False:=eq_false (by decide)
theorem QcG:(ZX=Xs)=False:=eq_false (by decide)
theorem QbC:(ZX=Zp)=False:=eq_false (by decide)
theorem vT:(Zf=QI)=False:=eq_false (by decide)
theorem Qau:(Zf=ZX)=False:=eq_false (by decide)
theorem kN:(Zf=QW)=False:=eq_false (by decide)
theorem jj:(Zf=Zb)=False:=eq_false (by decide)
theorem jQ:(Zf=Zl)=False:=eq_false (by decide)
theorem Qa2:(Zf=Xs)=False:=eq_false (by decide)
theorem kJ:(Zf=Zp)=False:=eq_false (by decide)
theorem vH:(QW=QI)=False:=eq_false (by decide)
theorem QaA:(QW=ZX)=False:=eq_false (by decide)
theorem jG:(QW=Zf)=False:=eq_false (by decide)
theorem jv:(QW=Zb)=False:=eq_false (by decide)
theorem jK:(QW=Zl)=False:=eq_false (by decide)
theorem QaQ:(QW=Xs)=False:=eq_false (by decide)
theorem jY:(QW=Zp)=False:=eq_false (by decide)
theorem vv:(Zb=QI)=False:=eq_false (by decide)
theorem QaI:(Zb=ZX)=False:=eq_false (by decide)
theorem kM:(Zb=Zf)=False:=eq_false (by decide)
theorem jM:(Zb=QW)=False:=eq_false (by decide)
theorem jZ:(Zb=Zl)=False:=eq_false (by decide)
theorem Qam:(Zb=Xs)=False:=eq_false (by decide)
theorem jB:(Zb=Zp)=False:=eq_false (by decide)
theorem vI:(Zl=QI)=False:=eq_false (by decide)
theorem Qbr:(Zl=ZX)=False:=eq_false (by decide)
theorem jo:(Zl=Zf)=False:=eq_false (by decide)
theorem jh:(Zl=QW)=False:=eq_false (by decide)
theorem jP:(Zl=Zb)=False:=eq_false (by decide)
theorem QaV:(Zl=Xs)=False:=eq_false (by decide)
theorem ju:(Zl=Zp)=False:=eq_false (by decide)
theorem jE:(Xs=QI)=False:=eq_false (by decide)
theorem Qct:(Xs=ZX)=False:=eq_false (by decide)
theorem Qbw:(Xs=Zf)=False:=eq_false (by decide)
theorem Qax:(Xs=QW)=False:=eq_false (by decide)
theorem Qbg:(Xs=Zb)=False:=eq_false (by decide)
theorem Qaz:(Xs=Zl)=False:=eq_false (by decide)
theorem QbD:(Xs=Zp)=False:=eq_false (by decide)
theorem vw:(Zp=QI)=False:=eq_false (by decide)
theorem QbF:(Zp=ZX)=False:=eq_false (by decide)
theorem kW:(Zp=Zf)=False:=eq_false (by decide)
theorem kS:(Zp=QW)=False:=eq_false (by decide)
theorem jr:(Zp=Zb)=False:=eq_false (by decide)
theorem jH:(Zp=Zl)=False:=eq_false (by decide)
theorem Qah:(Zp=Xs)=False:=eq_false (by decide)
theorem nne:(QI=ZX)=False/\(QI=Zf)=False/\(QI=QW)=False/\(QI=Zb)=False/\(QI=Zl)=False/\(QI=Xs)=False/\(QI=Zp)=False/\(ZX=QI)=False/\(ZX=Zf)=False/\(ZX=QW)=False/\(ZX=Zb)=False/\(ZX=Zl)=False/\(ZX=Xs)=False/\(ZX=Zp)=False/\(Zf=QI)=False/\(Zf=ZX)=False/\(Zf=QW)=False/\(Zf=Zb)=False/\(Zf=Zl)=False/\(Zf=Xs)=False/\(Zf=Zp)=False/\(QW=QI)=False/\(QW=ZX)=False/\(QW=Zf)=False/\(QW=Zb)=False/\(QW=Zl)=False/\(QW=Xs)=False/\(QW=Zp)=False/\(Zb=QI)=False/\(Zb=ZX)=False/\(Zb=Zf)=False/\(Zb=QW)=False/\(Zb=Zl)=False/\(Zb=Xs)=False/\(Zb=Zp)=False/\(Zl=QI)=False/\(Zl=ZX)=False/\(Zl=Zf)=False/\(Zl=QW)=False/\(Zl=Zb)=False/\(Zl=Xs)=False/\(Zl=Zp)=False/\(Xs=QI)=False/\(Xs=ZX)=False/\(Xs=Zf)=False/\(Xs=QW)=False/\(Xs=Zb)=False/\(Xs=Zl)=False/\(Xs=Zp)=False/\(Zp=QI)=False/\(Zp=ZX)=False/\(Zp=Zf)=False/\(Zp=QW)=False/\(Zp=Zb)=False/\(Zp=Zl)=False/\(Zp=Xs)=False:=⟨jt,vG,vV,vZ,vC,k9,vJ,jT,Qbf,QaK,QaN,Qbb,QcG,QbC,vT,Qau,kN,jj,jQ,Qa2,kJ,vH,QaA,jG,jv,jK,QaQ,jY,vv,QaI,kM,jM,jZ,Qam,jB,vI,Qbr,jo,jh,jP,QaV,ju,jE,Qct,Qbw,Qax,Qbg,Qaz,QbD,vw,QbF,kW,kS,jr,jH,Qah⟩
theorem Qgj {x:QQ} {m:ByteArray} (h:x.method=m) (h1:(m=Q8)=False) (h2:(m=Q7)=False):Vm x=False:=by
 unfold Vm;rw [h,h1,h2];simp
theorem qU {x:QQ} (h:x.method=QE):Vm x=False:=Qgj h qQ qW
section
variable {n:Nat} {p:Qh} {x:QQ}
theorem U7 (e:(Zn p n).name=QI) (m:x.method=QE):XC (n+1) p x=(p,Qj 0 (Zn p n).count 0 0):=by
 simp [XC,e,m]
theorem U0 (e:(Zn p n).name=QI) (m:Vm x):XC (n+1) p x=(YC (XC n p x).1 n,(XC n p x).2):=by
 rcases m with m|m
 all_goals simp [XC,e,m,Vm,mne]
theorem Ky (e:(Zn p n).name=ZX) (m:Vm x):XC (n+1) p x=if(XC n p x).2.code=2 then XC n (XC n (XC n p x).1 (only Qr)).1 x else XC n p x:=by
 simp [XC,e,m,nne]
theorem GY (e:(Zn p n).name=Zf) (m:x.method=Q7):XC (n+1) p x=(p,Qj 6 0 0 0):=by
 simp [XC,e,m,nne]
theorem Gp (e:(Zn p n).name=QW) (m:x.method=QJ):XC (n+1) p x=if x.value=0 then XC n (YC p n) (only QG) else if x.value=1 then XC n (YC p n) (only Qr) else(YC p n,Qj 0 (Zn (YC p n) n).count 0 0):=by
 simp [XC,e,m,nne]
theorem Gn (e:(Zn p n).name=Zb) (m:x.method=Zd):XC (n+1) p x=XC n (XC n p (only QG)).1 (only Qr):=by
 simp [XC,e,m,nne]
theorem UY (e:(Zn p n).name=Zl):XC (n+1) p x=if(XC n p x).2.code=0 then((XC n p x).1, { (XC n p x).2 with value:=min (2 * (XC n p x).2.value) 999}) else XC n p x:=by
 simp [XC,e,nne]
theorem Qbi (e:(Zn p n).name=Zp):XC (n+1) p x=XC n p x:=by
 simp [XC,e,nne]
theorem qo (e:(Zn p n).name=Zf) (m:x.method=Q8):XC (n+1) p x=XC n p x:=by
 simp [XC,e,m,nne,mne]
theorem kw (e:(Zn p n).name=Xs∨(Zn p n).name=ZX∨(Zn p n).name=QW∨(Zn p n).name=Zb) (m:x.method=Qr∨x.method=QG):XC (n+1) p x=XC n p x:=by
 rcases m with m|m
 all_goals(rcases e with e|e|e|e)
 all_goals simp [XC,e,m,Vm,nne,mne]
end
theorem qH {n:Nat} {p q:Qh} (hs:YK n p q) (hq:Qp q) (hn:n<p.layers.length) (e:p.layers[n].name=QI∨p.layers[n].name=QW):Qp (YC q n)/\YK (n+1) p (YC q n):=by
 have hn':n<q.layers.length:=by rw [hs.len];exact hn
 refine⟨Qgm hq hn' (by rw [hs.name n hn hn'];exact e),(hs.mono (by omega)).trans (Uk hn')⟩
theorem XE:∀(n:Nat) (p:Qh) (x:QQ),Zu n p x->Qp (XC n p x).1/\YK n p (XC n p x).1
 |0,p,x,h=>by
  rw [XC]
  have h1:=QeY h.part.1 h.call h.offer
  exact QgH h.part h1.1 h1.2
 | n+1,p,x,h=>by
  have hn:n<p.layers.length:=h.le
  have hl:=ZK hn
  have up:∀ {q:Qh},Qp q/\YK n p q->Qp q/\YK (n+1) p q:=fun hq=>⟨hq.1,hq.2.mono (by omega)⟩
  cases kH h hn with
  |countTell e m=>rw [U7 (by rw [hl];exact e) m];exact⟨h.part,YK.refl _ _⟩
  |countKeep e m h1=>
   rw [U0 (by rw [hl];exact e) m]
   have h2:=XE n p x h1
   exact qH h2.2 h2.1 hn (.inl e)
  | lazyKeep e m h1 h'=>
   rw [Ky (by rw [hl];exact e) m]
   have h2:=XE n p x h1
   split
   ·have h3:=XE n _ _ (h'.to h2.2 h2.1)
    have h4:=XE n _ _ (h1.to (h2.2.trans h3.2) h3.1)
    exact up ⟨h4.1,(h2.2.trans h3.2).trans h4.2⟩
   ·exact up h2
  |readsPut e m=>rw [GY (by rw [hl];exact e) m];exact⟨h.part,YK.refl _ _⟩
  | hearsHear e m h1 h'=>
   rw [Gp (by rw [hl];exact e) m]
   have hb:=qH (YK.refl n p) h.part hn (.inr e)
   split
   ·have h2:=XE n _ _ (h1.to hb.2 hb.1)
    exact⟨h2.1,hb.2.trans (h2.2.mono (by omega))⟩
   ·split
    ·have h2:=XE n _ _ (h'.to hb.2 hb.1)
     exact⟨h2.1,hb.2.trans (h2.2.mono (by omega))⟩
    ·exact hb
  |healsHeal e m h1 h'=>
   rw [Gn (by rw [hl];exact e) m]
   have h2:=XE n _ _ h1
   have h3:=XE n _ _ (h'.to h2.2 h2.1)
   exact up ⟨h3.1,h2.2.trans h3.2⟩
  |twiceTell e m h1=>
   rw [UY (by rw [hl];exact e)]
   have h2:=XE n _ _ h1
   split<;>exact up h2
  |start e m h1=>rw [kw (by rw [hl];exact e) m];exact up (XE n _ _ h1)
  |keep e m h1=>rw [Qbi (by rw [hl];exact e)];exact up (XE n _ _ h1)
  |readsGet e m h1=>rw [qo (by rw [hl];exact e) m];exact up (XE n _ _ h1)
theorem yY {PA:Qa->Prop} {PL:List Qa->Prop} (hA:∀a,PL a.A->PL a.B->PA a) (hn:PL []) (hc:∀a l,PA a->PL l->PL (a::l)) (l:List Qa):PL l:=by
 refine Qa.ind (P:=PL) (fun l ih=>?_) l
 induction l with
 |nil=>exact hn
 |cons a l ihl=>exact hc a l (hA a (ih a (by simp)).1 (ih a (by simp)).2) (ihl fun b hb=>ih b (by simp [hb]))
def XH.up (e:XH) (d:Int):XH:=if e.code=0 then e else⟨e.code,e.place+d,e.want,e.had⟩
theorem XH.up_code (e:XH) (d:Int):(e.up d).code=e.code:=by unfold XH.up;split<;>rfl
theorem Qfq (d:Int):QO.up d=QO:=rfl
theorem UB {a:Qa} {place:Int} {s:ZS} (h:a.op=1):ZH a place s=(⟨s.slots.set a.slot.toNat ⟨true,Xw a.word⟩,s.taken⟩,QO):=by unfold ZH;rw [if_pos h]
theorem Uw {a:Qa} {place:Int} {s:ZS} (h:a.op=5):ZH a place s=(⟨s.slots.set a.slot.toNat Wh,s.taken⟩,QO):=by unfold ZH;rw [if_neg (by omega),if_pos h]
theorem UL {a:Qa} {place:Int} {s:ZS} (h:a.op=4):ZH a place s=(⟨s.slots.set a.slot.toNat (slotAt s.slots a.other),s.taken⟩,QO):=by unfold ZH;rw [if_neg (by omega),if_neg (by omega),if_pos h]
theorem UA {a:Qa} {place:Int} {s:ZS} (h1:a.op≠1) (h5:a.op≠5) (h4:a.op≠4) (hf:(slotAt s.slots a.slot).full=false):ZH a place s=(s,⟨2,place,0,0⟩):=by unfold ZH;rw [if_neg h1,if_neg h5,if_neg h4,if_pos hf]
theorem UD {a:Qa} {place:Int} {s:ZS} (h1:a.op≠1) (h5:a.op≠5) (h4:a.op≠4) (hf:¬(slotAt s.slots a.slot).full=false) (hc:(XR a (slotAt s.slots a.slot).part).2.code=1):
  ZH a place s=(⟨s.slots.set a.slot.toNat ⟨true,(XR a (slotAt s.slots a.slot).part).1⟩,s.taken⟩,⟨1,place,(XR a (slotAt s.slots a.slot).part).2.want,(XR a (slotAt s.slots a.slot).part).2.had⟩):=by
 unfold ZH;rw [if_neg h1,if_neg h5,if_neg h4,if_neg hf,if_pos hc]
theorem UQ {a:Qa} {place:Int} {s:ZS} (h1:a.op≠1) (h5:a.op≠5) (h4:a.op≠4) (hf:¬(slotAt s.slots a.slot).full=false) (hc:¬(XR a (slotAt s.slots a.slot).part).2.code=1):
  ZH a place s=(⟨s.slots.set a.slot.toNat ⟨true,(XR a (slotAt s.slots a.slot).part).1⟩,s.taken⟩,QO):=by
 unfold ZH;rw [if_neg h1,if_neg h5,if_neg h4,if_neg hf,if_neg hc]
theorem uS {input:List Int} {a:Qa} {place:Int} {s:ZS} (h:a.op=8):a.run input place s=if YX input s.taken % 2=1 then QV input a.A (place+1) ⟨s.slots,s.taken+1⟩ else QV input a.B (place+1+Qe a.A) ⟨s.slots,s.taken+1⟩:=by rw [a.run_eq,if_pos h]
theorem uV {input:List Int} {a:Qa} {place:Int} {s:ZS} (h:a.op=9):a.run input place s=Zs (YX input s.taken).toNat (fun t=>QV input a.A (place+1) t) ⟨s.slots,s.taken+1⟩:=by rw [a.run_eq,if_neg (by omega),if_pos h]
theorem GB {input:List Int} {a:Qa} {place:Int} {s:ZS} (h:a.op=10):a.run input place s=if(QV input a.A (place+1) s).2.code=1 then QV input a.B (place+1+Qe a.A) (QV input a.A (place+1) s).1 else QV input a.A (place+1) s:=by rw [a.run_eq,if_neg (by omega),if_neg (by omega),if_pos h]
theorem JL {input:List Int} {a:Qa} {place:Int} {s:ZS} (h8:a.op≠8) (h9:a.op≠9) (h10:a.op≠10):a.run input place s=ZH a place s:=by rw [a.run_eq,if_neg h8,if_neg h9,if_neg h10]
theorem Qfm {d:Int} {f g:ZS->ZS×XH} (h:∀s,g s=((f s).1,(f s).2.up d)):∀n s,Zs n g s=((Zs n f s).1,(Zs n f s).2.up d)
 |0,s=>by rw [Zs,Zs,Qfq]
 |n+1,s=>by
  rw [Zs,Zs,h s]
  simp only [XH.up_code]
  split
  ·exact Qfm h n _
  ·rfl
theorem JG (input:List Int):∀(l m:List Qa) (place:Int) (s:ZS),QV input (l++m) place s=if(QV input l place s).2.code=0 then QV input m (place+Qe l) (QV input l place s).1 else QV input l place s
 | [],m,place,s=>by
  rw [QV,Qe]
  simp [QO]
 | a::l,m,place,s=>by
  rw [List.cons_append,QV,QV]
  by_cases h:(a.run input place s).2.code=0
  ·simp only [h,if_true]
   rw [JG input l m,Qe]
   rw [show place+(a.size:Int)+(Qe l:Int)=place+((a.size+Qe l:Nat):Int) by omega]
  ·simp only [h,if_false]
theorem Jx (a:Qa) (place:Int) (s:ZS) (h:(ZH a place s).2.code=0):(ZH a place s).2=QO:=by
 by_cases h1:a.op=1
 ·rw [UB h1]
 by_cases h5:a.op=5
 ·rw [Uw h5]
 by_cases h4:a.op=4
 ·rw [UL h4]
 by_cases hf:(slotAt s.slots a.slot).full=false
 ·rw [UA h1 h5 h4 hf] at h;simp at h
 by_cases hc:(XR a (slotAt s.slots a.slot).part).2.code=1
 ·rw [UD h1 h5 h4 hf hc] at h;simp at h
 ·rw [UQ h1 h5 h4 hf hc]
theorem JD {f:ZS->ZS×XH}:∀n s,(Zs n f s).2.code=0->(Zs n f s).2=QO
 |0,s,_=>by rw [Zs]
 |n+1,s,h=>by
  rw [Zs] at h ⊢
  by_cases h0:(f s).2.code=0
  ·simp only [h0,if_true] at h ⊢;exact JD n _ h
  ·simp only [h0,if_false] at h
theorem VF (input:List Int) (l:List Qa):∀(place:Int) (s:ZS),(QV input l place s).2.code=0->(QV input l place s).2=QO:=by
 refine yY (PL:=fun l=>∀(place:Int) (s:ZS),(QV input l place s).2.code=0->(QV input l place s).2=QO) (PA:=fun a=>∀(place:Int) (s:ZS),(a.run input place s).2.code=0->(a.run input place s).2=QO) (fun a hA hB place s h=>?_) (fun place s _=>?_) (fun a l ha hl place s h=>?_) l
 ·by_cases h8:a.op=8
  ·rw [uS h8] at h ⊢
   split
   ·rename_i hc;rw [if_pos hc] at h;exact hA _ _ h
   ·rename_i hc;rw [if_neg hc] at h;exact hB _ _ h
  by_cases h9:a.op=9
  ·rw [uV h9] at h ⊢
   exact JD _ _ h
  by_cases h10:a.op=10
  ·rw [GB h10] at h ⊢
   split
   ·rename_i hc;rw [if_pos hc] at h;exact hB _ _ h
   ·rename_i hc;rw [if_neg hc] at h;exact hA _ _ h
  rw [JL h8 h9 h10] at h ⊢
  exact Jx a place s h
 ·rw [QV]
 ·rw [QV] at h ⊢
  by_cases h0:(a.run input place s).2.code=0
  ·simp only [h0,if_true] at h ⊢;exact hl _ _ h
  ·simp only [h0,if_false] at h
def ZS.more (s:ZS) (k:Int):ZS:=⟨s.slots,s.taken+k⟩
theorem vl (a:Qa) (place k:Int) (s:ZS):ZH a place (s.more k)=((ZH a place s).1.more k,(ZH a place s).2)/\(ZH a place s).1.taken=s.taken:=by
 have es:(s.more k).slots=s.slots:=rfl
 by_cases h1:a.op=1
 ·rw [UB h1,UB h1];exact⟨rfl,rfl⟩
 by_cases h5:a.op=5
 ·rw [Uw h5,Uw h5];exact⟨rfl,rfl⟩
 by_cases h4:a.op=4
 ·rw [UL h4,UL h4];exact⟨rfl,rfl⟩
 by_cases hf:(slotAt s.slots a.slot).full=false
 ·rw [UA h1 h5 h4 hf,UA h1 h5 h4 (s:=s.more k) hf];exact⟨rfl,rfl⟩
 by_cases hc:(XR a (slotAt s.slots a.slot).part).2.code=1
 ·rw [UD h1 h5 h4 hf hc,UD h1 h5 h4 (s:=s.more k) hf hc];exact⟨rfl,rfl⟩
 ·rw [UQ h1 h5 h4 hf hc,UQ h1 h5 h4 (s:=s.more k) hf hc];exact⟨rfl,rfl⟩
theorem KH {p q:Qh} {k:Nat} (h0:q.core.kind=p.core.kind) (h:∀j,j<k->(q.layers[j]?).map (·.name)=(p.layers[j]?).map (·.name)):Qs q k=Qs p k:=by
 unfold Qs
 by_cases hk:k=0
 ·rw [if_pos hk,if_pos hk,h0]
 ·rw [if_neg hk,if_neg hk]
  have h1:=h (k-1) (by omega)
  have e:∀o:Option ZW,(o.bind fun x=>Qk x.name)=(o.map (·.name)).bind Qk:=by intro o;cases o<;>rfl
  rw [e,e,h1]
theorem Ko {k:ByteArray} (h:Qq k≠none):Qp (Xw k):=by
 obtain⟨f,hf⟩:=Option.ne_none_iff_exists'.1 h
 exact⟨⟨f,hf,⟨by simp [Xw],fun k h=>by simp [Xw] at h⟩,by simp [Xw],by simp [Xw,ZM],by simp [Xw],.inr ⟨rfl,rfl⟩⟩,by simp [Xw],fun k h=>by simp [Xw] at h⟩
theorem yZ {p q:Qh} {k:Nat} {h:k<p.layers.length} {h':k<q.layers.length} (hl:WI p k h) (e:q.layers[k]=p.layers[k]) (hf:Qs q k=Qs p k):WI q k h':=by
 obtain⟨x,h1,h2,h3,h4⟩:=hl
 exact⟨x,by rw [e];exact h1,by rw [hf];exact h2,by rw [e];exact h3,by rw [e];exact h4⟩
theorem Qeh {p:Qh} {name:ByteArray} (h:Qp p):Qp (Zg p name).1:=by
 cases hx:Qk name with
 |none=>rw [W5 hx];exact h
 | some x=>
  by_cases h2:3<=p.layers.length
  ·rw [Wl hx h h2];exact h
  by_cases h3:ZN (Qs p p.layers.length) x.1
  ·rw [W7 hx h h2 h3]
   have hf:∀k,k<=p.layers.length->Qs ⟨p.core,p.layers++ [⟨name,0⟩]⟩ k=Qs p k:=fun k hk=>KH rfl (fun j hj=>by simp only [];rw [List.getElem?_append_left (by omega)])
   refine⟨h.1,by simp;omega,fun k hk=>?_⟩
   have hk':k<p.layers.length+1:=by simpa using hk
   by_cases hl:k<p.layers.length
   ·exact yZ (h.2.2 k hl) (List.getElem_append_left hl) (hf k (by omega))
   ·obtain rfl:k=p.layers.length:=by omega
    have e:(p.layers++ [(⟨name,0⟩:ZW)])[p.layers.length]'(by simp)=⟨name,0⟩:=by simp
    refine⟨x,?_,?_,?_,.inl ?_⟩
    ·show Qk ((p.layers++ [(⟨name,0⟩:ZW)])[p.layers.length]'(by simp)).name=some x
     rw [e];exact hx
    ·rw [hf _ (Nat.le_refl _)];exact h3
    ·show ZM ((p.layers++ [(⟨name,0⟩:ZW)])[p.layers.length]'(by simp)).count
     rw [e];exact⟨Int.le_refl _,by simp⟩
    ·show((p.layers++ [(⟨name,0⟩:ZW)])[p.layers.length]'(by simp)).count=0
     rw [e]
  ·rw [Vb hx h h2 h3];exact h
theorem Qcy {p:Qh} (h:Qp p):Qp (Yi p).1:=by
 unfold Yi
 by_cases h0:p.layers.length=0
 ·rw [if_pos (.inr h0)];exact h
 ·rw [if_neg (by intro hx;rcases hx with hx|hx;exact hx h;exact h0 hx)]
  refine⟨h.1,?_,fun k hk=>?_⟩
  ·have:=h.2.1;simp;omega
  have hk':k<p.layers.length-1:=by simp at hk;omega
  exact yZ (h.2.2 k (by omega)) (by simp) (KH rfl (fun j hj=>by simp only [];rw [List.getElem?_take_of_lt (by omega)]))
theorem Yp (p:Qh) (x:QQ) (hp:Qp p):((QC p x).1=p/\(QC p x).2=Qj 7 0 0 0/\¬QZ x)∨
  ((QC p x).1=p/\(QC p x).2=Qj 1 0 (ZQ x.method) (Qs p p.layers.length)/\QZ x/\¬ZN (Qs p p.layers.length) (ZQ x.method))∨
  (QC p x=XC p.layers.length p x/\QZ x/\ZN (Qs p p.layers.length) (ZQ x.method)):=by
 unfold QC
 by_cases hx:QZ x
 ·rw [if_neg (by intro h;rcases h with h|h;exact h hp;exact h hx)]
  by_cases ho:ZN (Qs p p.layers.length) (ZQ x.method)
  ·rw [if_neg (fun h=>h ho)];exact .inr (.inr ⟨rfl,hx,ho⟩)
  ·rw [if_pos ho];exact .inr (.inl ⟨rfl,rfl,hx,ho⟩)
 ·rw [if_pos (.inr hx)];exact .inl ⟨rfl,rfl,hx⟩
theorem jA {p:Qh} {x:QQ} (hp:Qp p):Qp (QC p x).1:=by
 rcases Yp p x hp with h|h|h
 ·rw [h.1];exact hp
 ·rw [h.1];exact hp
 ·rw [h.1];exact(XE _ _ _ ⟨hp,Nat.le_refl _,h.2.1,h.2.2⟩).1
theorem JW {a:Qa} {p:Qh} (h:a.op=3):XR a p=((Yi p).1,Qj 0 0 0 0):=by unfold XR;rw [if_pos h]
theorem JO {a:Qa} {p:Qh} (h:a.op=2):XR a p=Zg p a.word:=by unfold XR;rw [if_neg (by omega),if_pos h]
theorem KQ {a:Qa} {p:Qh} (h:a.op=6):XR a p=(p,if ZN (Qs p p.layers.length) a.face then Qj 0 0 0 0 else Qj 1 0 a.face (Qs p p.layers.length)):=by unfold XR;rw [if_neg (by omega),if_neg (by omega),if_pos h]
theorem JU {a:Qa} {p:Qh} (h:a.op=7):XR a p=QC p a.call:=by unfold XR;rw [if_neg (by omega),if_neg (by omega),if_neg (by omega),if_pos h]
theorem kZ {a:Qa} {p:Qh} (h3:a.op≠3) (h2:a.op≠2) (h6:a.op≠6) (h7:a.op≠7):XR a p=(p,Qj 0 0 0 0):=by unfold XR;rw [if_neg h3,if_neg h2,if_neg h6,if_neg h7]
theorem QeR {a:Qa} {p:Qh} (h:Qp p):Qp (XR a p).1:=by
 by_cases h3:a.op=3
 ·rw [JW h3];exact Qcy h
 by_cases h2:a.op=2
 ·rw [JO h2];exact Qeh h
 by_cases h6:a.op=6
 ·rw [KQ h6];exact h
 by_cases h7:a.op=7
 ·rw [JU h7];exact jA h
 rw [kZ h3 h2 h6 h7];exact h
theorem UT {l:List Qm} {i:Nat} {x:Qm} (h:QN l) (hx:Wb x):QN (l.set i x):=by
 refine⟨by rw [List.length_set];exact h.1,fun k hk=>?_⟩
 rw [List.getElem_set]
 split
 ·exact hx
 ·exact h.2 k (by simpa using hk)
theorem qT {l:List Qm} {i:Int} (h:l.length=3) (hi:QF i):∃h:i.toNat<l.length,slotAt l i=l[i.toNat]:=by
 obtain⟨h1,h2⟩:=hi
 have hl:i.toNat<l.length:=by omega
 exact⟨hl,by unfold slotAt;rw [List.getElem?_eq_getElem hl];rfl⟩
theorem Vz {l:List Qm} {i:Int} (h:QN l) (hi:QF i):Wb (slotAt l i):=by
 obtain⟨hl,e⟩:=qT h.1 hi
 rw [e];exact h.2 _ hl
theorem JF:Wb Wh:=xu rfl rfl
theorem VE {a:Qa} (h:ZG a):QF a.slot:=by
 unfold ZG at h
 rcases h with h|h|h|h|h|h|h|h
 all_goals first|exact h.2.1|(have:=h.2.1;exact⟨by omega,by omega⟩)
theorem qI {a:Qa} {place:Int} {s:ZS} (ha:ZG a) (hs:QN s.slots):QN (ZH a place s).1.slots:=by
 by_cases h1:a.op=1
 ·rw [UB h1]
  exact UT hs (JQ rfl (Ko ((yP h1).1 ha).2.1))
 by_cases h5:a.op=5
 ·rw [Uw h5]
  exact UT hs JF
 by_cases h4:a.op=4
 ·rw [UL h4]
  exact UT hs (Vz hs ((JZ h4).1 ha).2.1)
 by_cases hf:(slotAt s.slots a.slot).full=false
 ·rw [UA h1 h5 h4 hf];exact hs
 have hw:=UT (i:=a.slot.toNat) hs (JQ (s:=⟨true,(XR a (slotAt s.slots a.slot).part).1⟩) rfl (QeR ((Vz hs (VE ha)).1 (by simpa using hf))))
 by_cases hc:(XR a (slotAt s.slots a.slot).part).2.code=1
 ·rw [UD h1 h5 h4 hf hc];exact hw
 ·rw [UQ h1 h5 h4 hf hc];exact hw
theorem Qa0 {P:ZS->Prop} {f:ZS->ZS×XH} (h:∀s,P s->P (f s).1):∀n s,P s->P (Zs n f s).1
 |0,s,hs=>by rw [Zs];exact hs
 |n+1,s,hs=>by
  rw [Zs]
  split
  ·exact Qa0 h n _ (h s hs)
  ·exact h s hs
theorem yN (input:List Int) (l:List Qa):Kp l->∀(place:Int) (s:ZS),QN s.slots->QN (QV input l place s).1.slots:=by
 refine yY (PL:=fun l=>Kp l->∀(place:Int) (s:ZS),QN s.slots->QN (QV input l place s).1.slots) (PA:=fun a=>a.ok->∀(place:Int) (s:ZS),QN s.slots->QN (a.run input place s).1.slots) (fun a hA hB hok place s hs=>?_) (fun _ place s hs=>?_) (fun a l ha hl hok place s hs=>?_) l
 ·obtain⟨h0,hoA,hoB⟩:=a.ok_iff.1 hok
  by_cases h8:a.op=8
  ·rw [uS h8]
   split
   ·exact hA hoA _ _ hs
   ·exact hB hoB _ _ hs
  by_cases h9:a.op=9
  ·rw [uV h9]
   exact Qa0 (P:=fun s=>QN s.slots) (fun t ht=>hA hoA _ t ht) _ _ hs
  by_cases h10:a.op=10
  ·rw [GB h10]
   have h1:=hA hoA (place+1) s hs
   split
   ·exact hB hoB _ _ h1
   ·exact h1
  rw [JL h8 h9 h10]
  exact qI h0 hs
 ·rw [QV];exact hs
 ·rw [Kp] at hok
  rw [QV]
  have h1:=ha hok.1 place s hs
  split
  ·exact hl hok.2 _ _ h1
  ·exact h1
def XJ (p q:Qh):Prop:=q.core.kind=p.core.kind/\q.layers.map (·.name)=p.layers.map (·.name)
theorem XJ.refl (p:Qh):XJ p p:=⟨rfl,rfl⟩
theorem XJ.symm {p q:Qh} (h:XJ p q):XJ q p:=⟨h.1.symm,h.2.symm⟩
theorem XJ.trans {p q r:Qh} (h:XJ p q) (k:XJ q r):XJ p r:=⟨k.1.trans h.1,k.2.trans h.2⟩
theorem XJ.len {p q:Qh} (h:XJ p q):q.layers.length=p.layers.length:=by have:=congrArg List.length h.2;simpa using this
theorem XJ.face {p q:Qh} (h:XJ p q) (k:Nat):Qs q k=Qs p k:=
 KH h.1 (fun j _=>by rw [<-List.getElem?_map, <-List.getElem?_map,h.2])
theorem XJ.top {p q:Qh} (h:XJ p q):Qs q q.layers.length=Qs p p.layers.length:=by rw [h.len];exact h.face _
theorem XJ.of {n:Nat} {p q:Qh} (h:YK n p q):XJ p q:=by
 refine⟨h.kind,List.ext_getElem (by simpa using h.len) (fun k h1 h2=>?_)⟩
 simp only [List.getElem_map]
 exact h.name k (by simpa using h2) (by simpa using h1)
theorem Qav {p q:Qh} {name:ByteArray} (h:XJ p q) (hp:Qp p) (hq:Qp q):XJ (Zg p name).1 (Zg q name).1/\(Zg q name).2=(Zg p name).2:=by
 cases hx:Qk name with
 |none=>rw [W5 hx,W5 hx];exact⟨h,rfl⟩
 | some x=>
  by_cases h2:3<=p.layers.length
  ·rw [Wl hx hp h2,Wl hx hq (by rw [h.len];exact h2)];exact⟨h,rfl⟩
  have h2':¬3<=q.layers.length:=by rw [h.len];exact h2
  by_cases h3:ZN (Qs p p.layers.length) x.1
  ·rw [W7 hx hp h2 h3,W7 hx hq h2' (by rw [h.top];exact h3)]
   exact⟨⟨h.1,by simp [h.2]⟩,rfl⟩
  ·rw [Vb hx hp h2 h3,Vb hx hq h2' (by rw [h.top];exact h3),h.top];exact⟨h,rfl⟩
theorem jJ {p q:Qh} (h:XJ p q) (hp:Qp p) (hq:Qp q):XJ (Yi p).1 (Yi q).1:=by
 unfold Yi
 by_cases h0:p.layers.length=0
 ·rw [if_pos (.inr h0),if_pos (.inr (by rw [h.len];exact h0))];exact h
 ·rw [if_neg (by intro hx;rcases hx with hx|hx;exact hx hp;exact h0 hx),if_neg (by intro hx;rcases hx with hx|hx;exact hx hq;exact h0 (by rw [<-h.len];exact hx))]
  exact⟨h.1,by simp only [List.map_take];rw [h.2,h.len]⟩
theorem Qcr (p:ZR) (x:QQ):(Wx p x).2.code≠1:=by
 unfold Wx
 split
 ·simp [Qj]
 split
 ·cases Vi p.cells x.key<;>simp [Qj]
 split<;>simp [Qj]
theorem QbS (p:ZR) (x:QQ):(XL p x).2.code≠1:=by
 unfold XL
 split
 ·simp [Qj]
 split
 ·split<;>simp [Qj]
 split
 ·split<;>simp [Qj]
 split
 ·exact Qcr p x
 split
 ·simp [Qj]
 split
 ·simp [Qj]
 split
 ·simp
 split
 ·cases QA x.text<;>simp [Qj]
 ·simp [Qj]
theorem Y7:∀(n:Nat) (p:Qh) (x:QQ),(XC n p x).2.code≠1
 |0,p,x=>by rw [XC];exact QbS _ _
 | n+1,p,x=>by
  rw [XC]
  split
  ·simp [Qj]
  split
  ·exact Y7 n p x
  split
  ·split
   ·exact Y7 n _ _
   ·exact Y7 n _ _
  split
  ·simp [Qj]
  split
  ·split
   ·exact Y7 n _ _
   ·split
    ·exact Y7 n _ _
    ·simp [Qj]
  split
  ·exact Y7 n _ _
  split
  ·split
   ·exact Y7 n p x
   ·exact Y7 n _ _
  ·exact Y7 n _ _
theorem VZ {p:Qh} {x:QQ} (hp:Qp p):XJ p (QC p x).1:=by
 rcases Yp p x hp with h|h|h
 ·rw [h.1];exact XJ.refl p
 ·rw [h.1];exact XJ.refl p
 ·rw [h.1];exact XJ.of (XE _ _ _ ⟨hp,Nat.le_refl _,h.2.1,h.2.2⟩).2
def Qe0 (r s:Ud):Prop:=(r.code=1/\s=r)∨(r.code≠1/\s.code≠1)
theorem wQ {p q:Qh} {x:QQ} (h:XJ p q) (hp:Qp p) (hq:Qp q):XJ (QC p x).1 (QC q x).1/\Qe0 (QC p x).2 (QC q x).2:=by
 refine⟨((VZ hp).symm.trans h).trans (VZ hq),?_⟩
 rcases Yp p x hp with h1|h1|h1
 ·rcases Yp q x hq with h2|h2|h2
  ·rw [h1.2.1,h2.2.1];exact .inr ⟨by simp [Qj],by simp [Qj]⟩
  ·exact absurd h2.2.2.1 h1.2.2
  ·exact absurd h2.2.1 h1.2.2
 ·rcases Yp q x hq with h2|h2|h2
  ·exact absurd h1.2.2.1 h2.2.2
  ·rw [h1.2.1,h2.2.1,h.top];exact .inl ⟨rfl,rfl⟩
  ·rw [h.top] at h2;exact absurd h2.2.2 h1.2.2.2
 ·rcases Yp q x hq with h2|h2|h2
  ·exact absurd h1.2.1 h2.2.2
  ·rw [h.top] at h2;exact absurd h1.2.2 h2.2.2.2
  ·rw [h1.1,h2.1];exact .inr ⟨Y7 _ _ _,Y7 _ _ _⟩
theorem Qci {a:Qa} {p q:Qh} (h:XJ p q) (hp:Qp p) (hq:Qp q):XJ (XR a p).1 (XR a q).1/\Qe0 (XR a p).2 (XR a q).2:=by
 have n1:Qe0 (Qj 0 0 0 0) (Qj 0 0 0 0):=.inr ⟨by simp [Qj],by simp [Qj]⟩
 by_cases h3:a.op=3
 ·rw [JW h3,JW h3];exact⟨jJ h hp hq,n1⟩
 by_cases h2:a.op=2
 ·rw [JO h2,JO h2]
  have:=Qav (name:=a.word) h hp hq
  refine⟨this.1,?_⟩
  rw [this.2]
  by_cases hc:(Zg p a.word).2.code=1
  ·exact .inl ⟨hc,rfl⟩
  ·exact .inr ⟨hc,hc⟩
 by_cases h6:a.op=6
 ·rw [KQ h6,KQ h6,h.top]
  refine⟨h,?_⟩
  by_cases hc:ZN (Qs p p.layers.length) a.face
  ·rw [if_pos hc];exact n1
  ·rw [if_neg hc];exact .inl ⟨rfl,rfl⟩
 by_cases h7:a.op=7
 ·rw [JU h7,JU h7];exact wQ h hp hq
 rw [kZ h3 h2 h6 h7,kZ h3 h2 h6 h7]
 exact⟨h,n1⟩
def kI (s t:Qm):Prop:=t.full=s.full/\XJ s.part t.part
def wS (l m:List Qm):Prop:=m.length=l.length/\∀(k:Nat) (h:k<l.length) (h':k<m.length),kI l[k] m[k]
theorem wS.set {l m:List Qm} {i:Nat} {x y:Qm} (h:wS l m) (hx:kI x y):wS (l.set i x) (m.set i y):=by
 refine⟨by simpa using h.1,fun k h1 h2=>?_⟩
 rw [List.getElem_set,List.getElem_set]
 split
 ·exact hx
 ·exact h.2 k (by simpa using h1) (by simpa using h2)
theorem wS.at_ {l m:List Qm} {i:Int} (h:wS l m) (hl:l.length=3) (hi:QF i):kI (slotAt l i) (slotAt m i):=by
 obtain⟨h1,e1⟩:=qT hl hi
 obtain⟨h2,e2⟩:=qT (l:=m) (by rw [h.1];exact hl) hi
 rw [e1,e2];exact h.2 _ h1 h2
def Qfj (s t:ZS):Prop:=QN s.slots/\QN t.slots/\wS s.slots t.slots/\t.taken=s.taken
theorem Qcu {a:Qa} {place:Int} {s t:ZS} (ha:ZG a) (h:Qfj s t):Qfj (ZH a place s).1 (ZH a place t).1/\(ZH a place t).2=(ZH a place s).2:=by
 obtain⟨hs,ht,hst,hk⟩:=h
 have hSl:=hst.at_ hs.1 (VE ha)
 suffices hx:(wS (ZH a place s).1.slots (ZH a place t).1.slots/\(ZH a place t).1.taken=(ZH a place s).1.taken)/\(ZH a place t).2=(ZH a place s).2 from⟨⟨qI ha hs,qI ha ht,hx.1⟩,hx.2⟩
 by_cases h1:a.op=1
 ·rw [UB h1,UB h1];exact⟨⟨hst.set ⟨rfl,XJ.refl _⟩,hk⟩,rfl⟩
 by_cases h5:a.op=5
 ·rw [Uw h5,Uw h5];exact⟨⟨hst.set ⟨rfl,XJ.refl _⟩,hk⟩,rfl⟩
 by_cases h4:a.op=4
 ·rw [UL h4,UL h4];exact⟨⟨hst.set (hst.at_ hs.1 ((JZ h4).1 ha).2.1),hk⟩,rfl⟩
 by_cases hf:(slotAt s.slots a.slot).full=false
 ·rw [UA h1 h5 h4 hf,UA h1 h5 h4 (hSl.1.trans hf)];exact⟨⟨hst,hk⟩,rfl⟩
 have hf':¬(slotAt t.slots a.slot).full=false:=by rw [hSl.1];exact hf
 have hw:=Qci (a:=a) hSl.2 ((Vz hs (VE ha)).1 (by simpa using hf)) ((Vz ht (VE ha)).1 (by simpa using hf'))
 rcases hw.2 with ⟨h6,h7⟩|⟨h6,h7⟩
 ·rw [UD h1 h5 h4 hf h6,UD h1 h5 h4 hf' (by rw [h7];exact h6),h7];exact⟨⟨hst.set ⟨rfl,hw.1⟩,hk⟩,rfl⟩
 ·rw [UQ h1 h5 h4 hf h6,UQ h1 h5 h4 hf' h7];exact⟨⟨hst.set ⟨rfl,hw.1⟩,hk⟩,rfl⟩
mutual
def Qa.cost:Qa->Nat
 | .mk _ _ _ _ _ _ A B=>1+3 * Q1 A+Q1 B
def Q1:List Qa->Nat
 | []=>0
 |a::l=>a.cost+Q1 l
end
theorem Qa.cost_eq (a:Qa):a.cost=1+3 * Q1 a.A+Q1 a.B:=by
 cases a;rw [Qa.cost];rfl
theorem Ua:∀l m:List Qa,Q1 (l++m)=Q1 l+Q1 m
 | [],m=>by simp [Q1]
 |a::l,m=>by rw [List.cons_append,Q1,Ua l m,Q1];omega
theorem xZ (l:List Qa) (k:Nat) (h:k<l.length):Q1 (l.take (k+1))=Q1 (l.take k)+l[k].cost:=by
 rw [List.take_succ_eq_append_getElem h,Ua];simp [Q1]
theorem Gc (l:List Qa) (k:Nat):Q1 (l.take k)<=Q1 l:=by
 have:=Ua (l.take k) (l.drop k)
 rw [List.take_append_drop] at this
 omega
theorem QaC (a:Qa) (l:List Qa):a.depth<=Qx (a::l)/\Qx l<=Qx (a::l):=by
 rw [Qx];omega
theorem QeZ (l:List Qa):Q1 l<=Qe l * 3 ^ Qx l:=by
 refine yY (PL:=fun l=>Q1 l<=Qe l * 3 ^ Qx l) (PA:=fun a=>a.cost<=a.size * 3 ^ a.depth) (fun a hA hB=>?_) (by simp [Q1]) (fun a l ha hl=>?_) l
 ·rw [a.cost_eq,a.size_eq,a.depth_eq]
  have h1:3 ^ Qx a.A<=3 ^ max (Qx a.A) (Qx a.B):=Nat.pow_le_pow_right (by omega) (Nat.le_max_left _ _)
  have h2:3 ^ Qx a.B<=3 ^ max (Qx a.A) (Qx a.B):=Nat.pow_le_pow_right (by omega) (Nat.le_max_right _ _)
  have h3:1<=3 ^ max (Qx a.A) (Qx a.B):=Nat.one_le_pow _ _ (by omega)
  rw [show 1+max (Qx a.A) (Qx a.B)=max (Qx a.A) (Qx a.B)+1 by omega,Nat.pow_succ]
  have h4:Q1 a.A<=Qe a.A * 3 ^ max (Qx a.A) (Qx a.B):=Nat.le_trans hA (Nat.mul_le_mul_left _ h1)
  have h5:Q1 a.B<=Qe a.B * 3 ^ max (Qx a.A) (Qx a.B):=Nat.le_trans hB (Nat.mul_le_mul_left _ h2)
  generalize 3 ^ max (Qx a.A) (Qx a.B)=M at *
  have e:(1+Qe a.A+Qe a.B) * (M * 3)=3 * M+3 * (Qe a.A * M)+3 * (Qe a.B * M):=by
   rw [Nat.add_mul,Nat.add_mul,Nat.one_mul,Nat.mul_comm M 3,Nat.mul_left_comm,Nat.mul_left_comm (Qe a.B)]
  omega
 ·rw [Q1,Qe]
  have hd:=QaC a l
  have h1:a.cost<=a.size * 3 ^ Qx (a::l):=Nat.le_trans ha (Nat.mul_le_mul_left _ (Nat.pow_le_pow_right (by omega) hd.1))
  have h2:Q1 l<=Qe l * 3 ^ Qx (a::l):=Nat.le_trans hl (Nat.mul_le_mul_left _ (Nat.pow_le_pow_right (by omega) hd.2))
  rw [Nat.add_mul]
  omega
theorem JY {l:List Qa} (h:X0 l):Q1 l<=378:=by
 have h1:=QeZ l
 have h2:3 ^ Qx l<=3 ^ 3:=Nat.pow_le_pow_right (by omega) h.2.1
 have h3:Qe l * 3 ^ Qx l<=14 * 3 ^ 3:=Nat.mul_le_mul h.1 h2
 omega
theorem QaL (input:List Int) (t:Int):0<=YX input t/\YX input t<=3:=by
 unfold YX
 split
 ·omega
 ·omega
theorem zK {f:ZS->ZS×XH} {c:Int} (hc:0<=c) (h:∀s:ZS,s.taken<=(f s).1.taken/\(f s).1.taken<=s.taken+c):∀(n:Nat) (s:ZS),s.taken<=(Zs n f s).1.taken/\(Zs n f s).1.taken<=s.taken+n * c
 |0,s=>by rw [Zs];simp
 | n+1,s=>by
  have h1:=h s
  rw [Zs]
  have e:((n+1:Nat):Int) * c=n * c+c:=by rw [Int.natCast_add,Int.add_mul];simp
  rw [e]
  have h0:0<=(n:Int) * c:=Int.mul_nonneg (by omega) hc
  split
  ·have h2:=zK hc h n (f s).1
   omega
  ·omega
theorem GA (input:List Int) (l:List Qa):∀(place:Int) (s:ZS),s.taken<=(QV input l place s).1.taken/\(QV input l place s).1.taken<=s.taken+Q1 l:=by
 refine yY (PL:=fun l=>∀(place:Int) (s:ZS),s.taken<=(QV input l place s).1.taken/\(QV input l place s).1.taken<=s.taken+Q1 l) (PA:=fun a=>∀(place:Int) (s:ZS),s.taken<=(a.run input place s).1.taken/\(a.run input place s).1.taken<=s.taken+a.cost)
  (fun a hA hB place s=>?_) (fun place s=>by rw [QV];simp [Q1]) (fun a l ha hl place s=>?_) l
 ·have ec:=a.cost_eq
  by_cases h8:a.op=8
  ·rw [uS h8]
   split
   ·have:=hA (place+1) ⟨s.slots,s.taken+1⟩;simp only at this;omega
   ·have:=hB (place+1+Qe a.A) ⟨s.slots,s.taken+1⟩;simp only at this;omega
  by_cases h9:a.op=9
  ·rw [uV h9]
   have h1:=zK (c:=(Q1 a.A:Int)) (by omega) (fun s=>hA (place+1) s) (YX input s.taken).toNat ⟨s.slots,s.taken+1⟩
   have h2:=QaL input s.taken
   have h3:((YX input s.taken).toNat:Int) * (Q1 a.A:Int)<=3 * (Q1 a.A:Int):=Int.mul_le_mul_of_nonneg_right (by omega) (by omega)
   simp only at h1
   omega
  by_cases h10:a.op=10
  ·rw [GB h10]
   have h1:=hA (place+1) s
   split
   ·have:=hB (place+1+Qe a.A) (QV input a.A (place+1) s).1;omega
   ·omega
  rw [JL h8 h9 h10]
  have:=(vl a place 0 s).2
  omega
 ·have h1:=ha place s
  rw [QV,Q1]
  split
  ·have:=hl (place+a.size) (a.run input place s).1;omega
  ·omega
theorem QfI (input:List Int) (a:Qa) (ha:a.ok) (place:Int) (s:ZS) (hs:QN s.slots):QN (a.run input place s).1.slots:=by
 have h:=yN input [a] (by rw [Kp,Kp];exact⟨ha,trivial⟩) place s hs
 rw [QV] at h
 by_cases hc:(a.run input place s).2.code=0
 ·rw [if_pos hc,QV] at h;exact h
 ·rw [if_neg hc] at h;exact h
theorem ks (input:List Int) (a:Qa) (place:Int) (s:ZS) (hc:(a.run input place s).2.code=0):(a.run input place s).2=QO:=by
 have h:=VF input [a] place s
 rw [QV,if_pos hc,QV] at h
 have e:=a.run_eq input place s
 by_cases h8:a.op=8
 ·rw [uS h8] at hc ⊢;split<;>(rename_i hx;simp only [hx,if_true,if_false] at hc;exact VF _ _ _ _ hc)
 by_cases h9:a.op=9
 ·rw [uV h9] at hc ⊢;exact JD _ _ hc
 by_cases h10:a.op=10
 ·rw [GB h10] at hc ⊢;split<;>(rename_i hx;simp only [hx,if_true,if_false] at hc;exact VF _ _ _ _ hc)
 rw [JL h8 h9 h10] at hc ⊢
 exact Jx a place s hc
theorem Qcg (input:List Int) (l:List Qa) (k:Nat) (hk:k<l.length) (place:Int) (s:ZS) (hc:(QV input (l.take k) place s).2.code=0):
  QV input (l.take (k+1)) place s=l[k].run input (place+Qe (l.take k)) (QV input (l.take k) place s).1:=by
 rw [List.take_succ_eq_append_getElem hk,JG,if_pos hc,QV]
 by_cases h:(l[k].run input (place+Qe (l.take k)) (QV input (l.take k) place s).1).2.code=0
 ·rw [if_pos h,QV]
  exact Prod.ext rfl (ks _ _ _ _ h).symm
 ·rw [if_neg h]
theorem QdQ (input:List Int) (l:List Qa) (k:Nat) (place:Int) (s:ZS) (hc:¬(QV input (l.take k) place s).2.code=0):QV input l place s=QV input (l.take k) place s:=by
 have h:=JG input (l.take k) (l.drop k) place s
 rw [List.take_append_drop,if_neg hc] at h
 exact h
end Go.Proofs.YtlnkgcdeljhjcaaGreatDoor
