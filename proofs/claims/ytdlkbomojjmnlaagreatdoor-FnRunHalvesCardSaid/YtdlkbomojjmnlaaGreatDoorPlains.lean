/- End: as plain data; the walks of its size, copy, equality, marks. Written by a program. / What a call does to a part, and what a plan does to slots, in plain Lean. Conditions: none. / Slots of one's own: a slot is read, a slot or the part in it is written. Conditions: none. / Cells in their order: one found, one set, in plain Lean. Conditions: none. / What a call does keeps a part valid, in plain Lean; what it does, by method. Conditions: none. Written by a program. / Which calls go through which layers, and that parts stay valid, in plain Lean. Conditions: none. Written by a program. / Runs of plans, in plain Lean: places, numbers taken, plans one behind the other; valid slots stay valid. Conditions: none. / Valid slots stay valid in a run; how it ends depends on the shapes alone; in plain Lean. Conditions: none. / How many numbers a run takes; runs of the first actions; in plain Lean. Conditions: none. -/
import Derived.Test.YtdlkbomojjmnlaaGreatDoorGround
import Derived.StillTailTactics
import Derived.Deep.RegionHeld3
import Derived.Test.YtdlkbomojjmnlaaGreatDoorCellT
import Derived.Test.YtdlkbomojjmnlaaGreatDoorCellsAll
import Derived.Test.YtdlkbomojjmnlaaGreatDoorActOks
import Derived.Test.YtdlkbomojjmnlaaGreatDoorWraps
import Derived.Test.YtdlkbomojjmnlaaGreatDoorTypes
import Derived.Test.YtdlkbomojjmnlaaGreatDoorParts
set_option maxRecDepth 100000
set_option maxHeartbeats 2000000
namespace Go.Proofs.YtdlkbomojjmnlaaGreatDoor
open Go.RowKit

structure EndT where
 code:Int
 place:Int
 want:Int
 had:Int
def endF (a:EndT):List Dat:=[.v (.int .i64 a.code)] ++([.v (.int .i64 a.place)] ++([.v (.int .i64 a.want)] ++ [.v (.int .i64 a.had)]))
def ends (l:List EndT):Dat:=.s l.length (l.flatMap endF)
/-- What a method wants. -/
def wantT (m:ByteArray):Int:=match abilOf m with|some k=>2 ^ k.toNat|none=>0
def upN (n:Int):Int:=min (n+1) 999
/-- The value of a key. -/
def findC:List CellT->ByteArray->Option Int
 | [],_=>none
 |c::l,k=>if c.key=k then some c.value else findC l k
/-- Cells with one set, in their order. -/
def putC:List CellT->ByteArray->Int->List CellT
 | [],k,v=>[⟨k,v⟩]
 |c::l,k,v=>if Op.bytesLess c.key.toList k.toList=true then c::putC l k v else if c.key=k then⟨k,v⟩::l else⟨k,v⟩::c::l
/-- May a kind run? -/
def runsK (k:ByteArray):Bool:=has ((kindOf k).getD 0) 0
/-- Get and Put. -/
def keepT (p:CoreT) (x:CallT):CoreT×RepT:=
 if runsK p.kind=true/\p.on=false then(p,repOf 2 0 0 0)
 else if x.method=mGet then(p,match findC p.cells x.key with|some v=>repOf 0 v 0 0|none=>repOf 4 0 0 0)
 else if findC p.cells x.key=none/\4<=p.cells.length then(p,repOf 5 0 0 0)
 else({p with cells:=putC p.cells x.key x.value,count:=upN p.count},repOf 0 (putC p.cells x.key x.value).length 0 0)
/-- What a call does to a core that offers it. -/
noncomputable def doesT (p:CoreT) (x:CallT):CoreT×RepT:=
 if p.broken=true/\x.method≠mHeal/\x.method≠mTell then(p,repOf 3 0 0 0)
 else if x.method=mStart then(if p.on=true then({p with on:=false,broken:=true},repOf 3 0 0 0) else({p with on:=true,count:=upN p.count},repOf 0 0 0 0))
 else if x.method=mStop then(if p.on=true then({p with on:=false},repOf 0 0 0 0) else(p,repOf 2 0 0 0))
 else if x.method=mGet∨x.method=mPut then keepT p x
 else if x.method=mTell then(p,repOf 0 p.count 0 0)
 else if x.method=mHear then({p with count:=upN p.count,on:=(x.value==1) || (p.on&&!(x.value==0)) },repOf 0 (upN p.count) 0 0)
 else if x.method=mSave then(p,⟨0,0,cellsT p.cells,0,0⟩)
 else if x.method=mLoad then(match parseCells x.text with|none=>(p,repOf 6 0 0 0)|some l=>({p with cells:=l},repOf 0 l.length 0 0))
 else({p with on:=false,broken:=false},repOf 0 0 0 0)
def nCounts:ByteArray:=⟨#[99,111,117,110,116,115]⟩
def nLazy:ByteArray:=⟨#[108,97,122,121]⟩
def nReads:ByteArray:=⟨#[114,101,97,100,115]⟩
def nHears:ByteArray:=⟨#[104,101,97,114,115]⟩
def nHeals:ByteArray:=⟨#[104,101,97,108,115]⟩
def nTwice:ByteArray:=⟨#[116,119,105,99,101]⟩
def only (m:ByteArray):CallT:=⟨m,⟨#[]⟩,0,⟨#[]⟩⟩
def isKeep (x:CallT):Prop:=x.method=mGet∨x.method=mPut
instance (x:CallT):Decidable (isKeep x):=by unfold isKeep;infer_instance
/-- A part of which layer n has counted one more. -/
def bump (p:PartT) (n:Nat):PartT:=⟨p.core,match p.layers[n]? with|some y=>p.layers.set n ⟨y.name,upN y.count⟩|none=>p.layers⟩
def layN (p:PartT) (n:Nat):LayerT:=(p.layers[n]?).getD ⟨⟨#[]⟩,0⟩
/-- What a call does through the first layers. -/
noncomputable def thr:Nat->PartT->CallT->PartT×RepT
 |0,p,x=>(⟨(doesT p.core x).1,p.layers⟩,(doesT p.core x).2)
 |n+1,p,x=>
  if(layN p n).name=nCounts/\x.method=mTell then(p,repOf 0 (layN p n).count 0 0)
  else if(layN p n).name=nCounts/\isKeep x then(bump (thr n p x).1 n,(thr n p x).2)
  else if(layN p n).name=nLazy/\isKeep x then(if(thr n p x).2.code=2 then thr n (thr n (thr n p x).1 (only mStart)).1 x else thr n p x)
  else if(layN p n).name=nReads/\x.method=mPut then(p,repOf 6 0 0 0)
  else if(layN p n).name=nHears/\x.method=mHear then(if x.value=0 then thr n (bump p n) (only mStop) else if x.value=1 then thr n (bump p n) (only mStart) else(bump p n,repOf 0 (layN (bump p n) n).count 0 0))
  else if(layN p n).name=nHeals/\x.method=mHeal then thr n (thr n p (only mStop)).1 (only mStart)
  else if(layN p n).name=nTwice then(if(thr n p x).2.code=0 then((thr n p x).1, { (thr n p x).2 with value:=min (2 * (thr n p x).2.value) 999}) else thr n p x)
  else thr n p x
open Classical in
/-- What a call does to a part. -/
noncomputable def callPartT (p:PartT) (x:CallT):PartT×RepT:=
 if ¬PartOk p∨¬CallOk x then(p,repOf 7 0 0 0)
 else if ¬Offer (faceAt p p.layers.length) (wantT x.method) then(p,repOf 1 0 (wantT x.method) (faceAt p p.layers.length))
 else thr p.layers.length p x
open Classical in
noncomputable def unwrapT (p:PartT):PartT×Bool:=
 if ¬PartOk p∨p.layers.length=0 then(p,false) else(⟨p.core,p.layers.take (p.layers.length-1)⟩,true)
/-- A run: slots, and how many numbers were taken. -/
structure RunT where
 slots:List SlotT
 taken:Int
def zeroSlot:SlotT:=⟨false,zeroPart⟩
def slotAt (l:List SlotT) (i:Int):SlotT:=(l[i.toNat]?).getD zeroSlot
/-- The number that is taken. -/
def takeN (input:List Int) (taken:Int):Int:=match input[taken.toNat]? with|some n=>n % 4|none=>0
/-- What an action does with the part of a slot: the part, and a failed assertion's reply. -/
noncomputable def withT (a:ActionT) (p:PartT):PartT×RepT:=
 if a.op=3 then((unwrapT p).1,repOf 0 0 0 0)
 else if a.op=2 then wrapOf p a.word
 else if a.op=6 then(p,if Offer (faceAt p p.layers.length) a.face then repOf 0 0 0 0 else repOf 1 0 a.face (faceAt p p.layers.length))
 else if a.op=7 then callPartT p a.call
 else(p,repOf 0 0 0 0)
def okEnd:EndT:=⟨0,0,0,0⟩
/-- What an action without blocks does. -/
noncomputable def stepT (a:ActionT) (place:Int) (s:RunT):RunT×EndT:=
 if a.op=1 then(⟨s.slots.set a.slot.toNat ⟨true,newPart a.word⟩,s.taken⟩,okEnd)
 else if a.op=5 then(⟨s.slots.set a.slot.toNat zeroSlot,s.taken⟩,okEnd)
 else if a.op=4 then(⟨s.slots.set a.slot.toNat (slotAt s.slots a.other),s.taken⟩,okEnd)
 else if(slotAt s.slots a.slot).full=false then(s,⟨2,place,0,0⟩)
 else(⟨s.slots.set a.slot.toNat ⟨true,(withT a (slotAt s.slots a.slot).part).1⟩,s.taken⟩,
  if(withT a (slotAt s.slots a.slot).part).2.code=1 then⟨1,place,(withT a (slotAt s.slots a.slot).part).2.want,(withT a (slotAt s.slots a.slot).part).2.had⟩ else okEnd)
/-- Again and again, as long as nothing ends. -/
def loopN:Nat->(RunT->RunT×EndT)->RunT->RunT×EndT
 |0,_,s=>(s,okEnd)
 |n+1,f,s=>if(f s).2.code=0 then loopN n f (f s).1 else f s
mutual
/-- What an action does, from a place on. -/
noncomputable def ActionT.run (input:List Int):ActionT->Int->RunT->RunT×EndT
 | .mk op slot other word call face A B,place,s=>
  if op=8 then(if takeN input s.taken % 2=1 then runL input A (place+1) ⟨s.slots,s.taken+1⟩ else runL input B (place+1+sizeL A) ⟨s.slots,s.taken+1⟩)
  else if op=9 then loopN (takeN input s.taken).toNat (fun t=>runL input A (place+1) t) ⟨s.slots,s.taken+1⟩
  else if op=10 then(if(runL input A (place+1) s).2.code=1 then runL input B (place+1+sizeL A) (runL input A (place+1) s).1 else runL input A (place+1) s)
  else stepT (.mk op slot other word call face A B) place s
/-- .. and actions, one behind the other. -/
noncomputable def runL (input:List Int):List ActionT->Int->RunT->RunT×EndT
 | [],_,s=>(s,okEnd)
 |a::l,place,s=>if(a.run input place s).2.code=0 then runL input l (place+a.size) (a.run input place s).1 else a.run input place s
end
theorem ActionT.run_eq (input:List Int) (a:ActionT) (place:Int) (s:RunT):a.run input place s=
  if a.op=8 then(if takeN input s.taken % 2=1 then runL input a.A (place+1) ⟨s.slots,s.taken+1⟩ else runL input a.B (place+1+sizeL a.A) ⟨s.slots,s.taken+1⟩)
  else if a.op=9 then loopN (takeN input s.taken).toNat (fun t=>runL input a.A (place+1) t) ⟨s.slots,s.taken+1⟩
  else if a.op=10 then(if(runL input a.A (place+1) s).2.code=1 then runL input a.B (place+1+sizeL a.A) (runL input a.A (place+1) s).1 else runL input a.A (place+1) s)
  else stepT a place s:=by
 cases a;rw [ActionT.run];rfl
open Classical in
/-- What RunPlan answers. -/
noncomputable def runT (l:List SlotT) (p:List ActionT) (input:List Int):EndT×List SlotT×Int:=
 if SlotsOk l/\PlanOk p then((runL input p 0 ⟨l,0⟩).2,(runL input p 0 ⟨l,0⟩).1.slots,(runL input p 0 ⟨l,0⟩).1.taken) else(⟨3,0,0,0⟩,l,0)
theorem slots_split (l:List SlotT) (i:Nat) (hi:i<l.length):l.flatMap slotF=(l.take i).flatMap slotF++(slotF l[i] ++(l.drop (i+1)).flatMap slotF):=by
 conv=>lhs;rw [<-List.take_append_drop i l,List.drop_eq_getElem_cons hi]
 rw [List.flatMap_append,List.flatMap_cons]
theorem slots_set (l:List SlotT) (i:Nat) (hi:i<l.length) (x:SlotT):(l.set i x).flatMap slotF=(l.take i).flatMap slotF++(slotF x++(l.drop (i+1)).flatMap slotF):=by
 rw [slots_split (l.set i x) i (by simpa using hi),List.getElem_set_self,List.take_set_of_le (Nat.le_refl i),List.drop_set_of_lt (by omega)]
theorem slots_take_len (l:List SlotT) (i:Nat) (hi:i<=l.length):((l.take i).flatMap slotF).length=i * 7:=by
 rw [flatMap_length_of slotF_len,List.length_take,Nat.min_eq_left hi]
theorem slots_len (l:List SlotT):(l.flatMap slotF).length=l.length * 7:=flatMap_length_of slotF_len l
/-- A slot is written. -/
theorem Has.slotSet {w:World} {g cap L:Nat} {l:List SlotT} {S S1:List Nat} {i:Nat} {x:SlotT} {us:List Value} (hL:l.length=L) (h:Has w (slots l) (.slice (some ⟨g,0,none⟩) L cap) S) (hi:i<L) (hx:HasL w (slotF x) us S1) (hd:∀y,y∈S1->y∉S):
  ∃S',Has (setCells w g (i * 7) us) (slots (l.set i x)) (.slice (some ⟨g,0,none⟩) L cap) S'/\(∀y,y∈S'->y∈S∨y∈S1)/\g∈S/\Chg [g] w (setCells w g (i * 7) us):=by
 subst hL
 unfold slots at h ⊢
 obtain⟨S',h1,h2,h3,h4⟩:=h.putRow (j:=i * 7) (by rw [slotF_len,slots_len];omega) hx hd
 refine⟨S',?_,h2,h3,h4⟩
 rw [List.length_set,slots_set l i hi]
 have hs:=setRow_mid (slotF x) ((l.take i).flatMap slotF) (slotF l[i]) ((l.drop (i+1)).flatMap slotF) (by rw [slotF_len,slotF_len])
 rw [slots_take_len l i (by omega), <-slots_split l i hi] at hs
 rw [<-hs]
 exact h1
/-- The part in a slot is written. -/
theorem Has.slotPart {w:World} {g cap L:Nat} {l:List SlotT} {S S1:List Nat} {i:Nat} {q:PartT} {us:List Value} (hL:l.length=L) (h:Has w (slots l) (.slice (some ⟨g,0,none⟩) L cap) S) (hi:i<L) (hx:HasL w (partF q) us S1) (hd:∀y,y∈S1->y∉S) (hi2:i<l.length):
  ∃S',Has (setCells w g (i * 7+1) us) (slots (l.set i ⟨l[i].full,q⟩)) (.slice (some ⟨g,0,none⟩) L cap) S'/\(∀y,y∈S'->y∈S∨y∈S1)/\g∈S/\Chg [g] w (setCells w g (i * 7+1) us):=by
 subst hL
 unfold slots at h ⊢
 obtain⟨S',h1,h2,h3,h4⟩:=h.putRow (j:=i * 7+1) (by rw [partF_len,slots_len];omega) hx hd
 refine⟨S',?_,h2,h3,h4⟩
 rw [List.length_set,slots_set l i hi]
 have hs:=setRow_mid (partF q) ((l.take i).flatMap slotF++ [.v (.bool l[i].full)]) (partF l[i].part) ((l.drop (i+1)).flatMap slotF) (by rw [partF_len,partF_len])
 rw [List.length_append,slots_take_len l i (by omega)] at hs
 have e1:(l.take i).flatMap slotF++ [Dat.v (.bool l[i].full)] ++(partF l[i].part++(l.drop (i+1)).flatMap slotF)=l.flatMap slotF:=by
  rw [slots_split l i hi];unfold slotF;simp only [List.append_assoc,List.cons_append,List.nil_append]
 have e2:(l.take i).flatMap slotF++ [Dat.v (.bool l[i].full)] ++(partF q++(l.drop (i+1)).flatMap slotF)=(l.take i).flatMap slotF++(slotF ⟨l[i].full,q⟩++(l.drop (i+1)).flatMap slotF):=by
  unfold slotF;simp only [List.append_assoc,List.cons_append,List.nil_append]
 rw [e1,e2] at hs
 rw [<-hs]
 exact h1
/-- What stands in a slot. -/
theorem Has.slotAt {w:World} {g cap L:Nat} {l:List SlotT} {S:List Nat} (hL:l.length=L) (h:Has w (slots l) (.slice (some ⟨g,0,none⟩) L cap) S) {i:Nat} (hi:i<L) (hi2:i<l.length):
  ∃A3 c3 A5 c5,w.cell? ⟨g,i * 7,none⟩=some (.bool l[i].full)/\w.cell? ⟨g,i * 7+1,none⟩=some (.string l[i].part.core.kind)/\w.cell? ⟨g,i * 7+2,none⟩=some (.bool l[i].part.core.on)/\w.cell? ⟨g,i * 7+3,none⟩=some (.bool l[i].part.core.broken)/\
   w.cell? ⟨g,i * 7+4,none⟩=some (.slice A3 l[i].part.core.cells.length c3)/\w.cell? ⟨g,i * 7+5,none⟩=some (.int .i64 l[i].part.core.count)/\w.cell? ⟨g,i * 7+6,none⟩=some (.slice A5 l[i].part.layers.length c5)/\
   Rd w w.heap.size (cells l[i].part.core.cells) (.slice A3 l[i].part.core.cells.length c3)/\Rd w w.heap.size (layers l[i].part.layers) (.slice A5 l[i].part.layers.length c5)/\(∀o:Nat,o<7->w.frozen? ⟨g,i * 7+o,none⟩=false)/\g<w.heap.size:=by
 subst hL
 have hf:∀o:Nat,o<7->w.frozen? ⟨g,i * 7+o,none⟩=false:=fun o ho=>by
  unfold slots at h
  exact(h.room (j:=i * 7+o) (by rw [slots_len];omega)).1
 obtain⟨A,cap',e,_,_,hrow⟩:=slots_row h.rd
 simp only [Value.slice.injEq,true_and] at e
 obtain⟨e1,e2⟩:=e
 subst e1 e2
 obtain⟨b,off,u4,u6,e,hb,q0,q1,q2,q3,q4,q5,q6,r4,r6⟩:=slots_cells hrow i hi
 simp only [Option.some.injEq,Addr.mk.injEq] at e
 obtain⟨rfl,rfl,_⟩:=e
 rw [Nat.zero_add] at q0 q1 q2 q3 q4 q5 q6
 obtain⟨A3,c3,rfl,_,_,_⟩:=cells_row r4
 obtain⟨A5,c5,rfl,_,_,_⟩:=layers_row r6
 exact⟨A3,c3,A5,c5,q0,q1,q2,q3,q4,q5,q6,r4,r6,hf,hb⟩
theorem bl_irrefl:∀x:List UInt8,Op.bytesLess x x=false
 | []=>rfl
 |a::x=>by simp [Op.bytesLess,bl_irrefl x,UInt8.lt_irrefl]
theorem bl_trans:∀ {x y z:List UInt8},Op.bytesLess x y=true->Op.bytesLess y z=true->Op.bytesLess x z=true
 |_,[],_,h,_=>by unfold Op.bytesLess at h;simp at h
 |_,_::_,[],_,h=>by unfold Op.bytesLess at h;simp at h
 | [],_::_,_::_,_,_=>by unfold Op.bytesLess;rfl
 | a::x,b::y,c::z,h,k=>by
  unfold Op.bytesLess at h k ⊢
  simp only [Bool.or_eq_true,decide_eq_true_eq,Bool.and_eq_true,beq_iff_eq] at h k ⊢
  rcases h with h|⟨rfl,h⟩
  ·rcases k with k|⟨rfl,k⟩
   ·exact .inl (UInt8.lt_trans h k)
   ·exact .inl h
  ·rcases k with k|⟨rfl,k⟩
   ·exact .inl k
   ·exact .inr ⟨rfl,bl_trans h k⟩
theorem bl_total:∀ {x y:List UInt8},Op.bytesLess x y=false->x≠y->Op.bytesLess y x=true
 | [],[],_,h=>absurd rfl h
 | [],_::_,h,_=>by unfold Op.bytesLess at h;simp at h
 |_::_,[],_,_=>by unfold Op.bytesLess;rfl
 | a::x,b::y,h,k=>by
  unfold Op.bytesLess at h ⊢
  simp only [Bool.or_eq_false_iff,decide_eq_false_iff_not,Bool.and_eq_false_imp,beq_iff_eq,Bool.or_eq_true,decide_eq_true_eq,Bool.and_eq_true] at h ⊢
  by_cases hab:a=b
  ·subst hab
   exact .inr ⟨rfl,bl_total (h.2 rfl) (fun e=>k (by rw [e]))⟩
  ·left
   rcases UInt8.lt_or_lt_of_ne hab with h1|h1
   ·exact absurd h1 h.1
   ·exact h1
theorem key_eq {a b:ByteArray}:a.toList=b.toList↔a=b:=by
 constructor
 ·intro h
  rw [ByteArray.toList_eq,ByteArray.toList_eq] at h
  exact ByteArray.ext (Array.toList_inj.1 h)
 ·rintro rfl;rfl
/-- Cells in ascending order. -/
def Asc (l:List CellT):Prop:=l.Pairwise fun a b=>Op.bytesLess a.key.toList b.key.toList=true
theorem cellsOk_asc {l:List CellT} (h:CellsOk l):Asc l:=by
 unfold Asc
 rw [List.pairwise_iff_getElem]
 intro i j hi hj hij
 have key:∀d i (hi:i<l.length) (hj:i+1+d<l.length),Op.bytesLess l[i].key.toList l[i+1+d].key.toList=true:=by
  intro d
  induction d with
  |zero=>intro i hi hj;have:=(h.2 (i+1) hj).2.2 (by omega);simpa using this
  |succ d ih=>
   intro i hi hj
   have h1:=ih i hi (by omega)
   have h2:=(h.2 (i+1+(d+1)) hj).2.2 (by omega)
   exact bl_trans h1 (by simpa using h2)
 have:=key (j-i-1) i hi (by omega)
 have e:i+1+(j-i-1)=j:=by omega
 simpa only [e] using this
theorem cellsOk_iff (l:List CellT):CellsOk l↔l.length<=4/\(∀c∈l,IsNm c.key/\IsNum c.value)/\Asc l:=by
 constructor
 ·intro h
  refine⟨h.1,fun c hc=>?_,cellsOk_asc h⟩
  obtain⟨i,hi,rfl⟩:=List.getElem_of_mem hc
  exact⟨(h.2 i hi).1,(h.2 i hi).2.1⟩
 ·rintro⟨h1,h2,h3⟩
  refine⟨h1,fun k hk=>⟨(h2 _ (List.getElem_mem hk)).1,(h2 _ (List.getElem_mem hk)).2,fun h0=>?_⟩⟩
  exact List.pairwise_iff_getElem.1 h3 (k-1) k (by omega) hk (by omega)
theorem findC_below {l:List CellT} {k:ByteArray} (h:∀c∈l,Op.bytesLess k.toList c.key.toList=true):findC l k=none:=by
 induction l with
 |nil=>rfl
 |cons c l ih=>
  rw [findC,if_neg (fun e=>by have:=h c (by simp);rw [e,bl_irrefl] at this;cases this)]
  exact ih fun d hd=>h d (by simp [hd])
theorem findC_none {l:List CellT} {k:ByteArray} (h:∀c∈l,c.key≠k):findC l k=none:=by
 induction l with
 |nil=>rfl
 |cons c l ih=>
  rw [findC,if_neg (h c (by simp))]
  exact ih fun d hd=>h d (by simp [hd])
theorem findC_at {k:ByteArray}:∀ {l:List CellT} {i:Nat} (hi:i<l.length),(∀j (hj:j<l.length),j<i->l[j].key≠k)->l[i].key=k->findC l k=some l[i].value
 |c::l,0,hi,_,h=>by rw [findC];simp at h;rw [if_pos h];rfl
 |c::l,i+1,hi,hn,h=>by
  have h0:=hn 0 (by simp) (by omega)
  simp only [List.getElem_cons_zero] at h0
  rw [findC,if_neg h0]
  exact findC_at (l:=l) (i:=i) (by simpa using hi) (fun j hj hji=>by have:=hn (j+1) (by simpa using hj) (by omega);simpa using this) (by simpa using h)
/-- Where the program puts a cell: behind all that come before it. -/
theorem putC_at {k:ByteArray} {v:Int}:∀ {l:List CellT} {i:Nat},i<=l.length->(∀j (hj:j<l.length),j<i->Op.bytesLess l[j].key.toList k.toList=true)->
  (∀(hi:i<l.length),Op.bytesLess l[i].key.toList k.toList=false)->putC l k v=if(l[i]?).any (fun c=>decide (c.key=k)) then l.set i ⟨k,v⟩ else l.take i++⟨k,v⟩::l.drop i
 | [],i,hi,_,_=>by
  obtain rfl:i=0:=by simpa using hi
  simp [putC]
 |c::l,0,_,_,h=>by
  have h0:=h (by simp)
  simp only [List.getElem_cons_zero] at h0
  rw [putC,h0]
  simp only [Bool.false_eq_true,if_false,List.getElem?_cons_zero,Option.any_some,List.set_cons_zero,List.take_zero,List.nil_append,List.drop_zero]
  by_cases hk:c.key=k
  ·simp [hk]
  ·simp [hk]
 |c::l,i+1,hi,hn,h=>by
  have h0:=hn 0 (by simp) (by omega)
  simp only [List.getElem_cons_zero] at h0
  rw [putC,if_pos h0,putC_at (l:=l) (i:=i) (by simpa using hi) (fun j hj hji=>by have:=hn (j+1) (by simpa using hj) (by omega);simpa using this) (fun hi'=>by have:=h (by simpa using hi');simpa using this)]
  simp only [List.getElem?_cons_succ]
  split<;>simp
theorem putC_len (l:List CellT) (k:ByteArray) (v:Int):(putC l k v).length<=l.length+1:=by
 induction l with
 |nil=>simp [putC]
 |cons c l ih=>
  rw [putC]
  split
  ·simp;omega
  ·split<;>simp
theorem putC_len_there {l:List CellT} {k:ByteArray} {v:Int} (ha:Asc l) (h:findC l k≠none):(putC l k v).length=l.length:=by
 induction l with
 |nil=>exact absurd rfl h
 | cons c l ih=>
  rw [findC] at h
  rw [putC]
  have ha':=List.pairwise_cons.1 ha
  by_cases h1:Op.bytesLess c.key.toList k.toList=true
  ·rw [if_pos h1]
   have:c.key≠k:=fun e=>by rw [e,bl_irrefl] at h1;cases h1
   rw [if_neg this] at h
   simp [ih ha'.2 h]
  ·rw [if_neg h1]
   by_cases h2:c.key=k
   ·rw [if_pos h2];simp
   ·rw [if_neg h2] at h
    have h3:=bl_total (by simpa using h1) (fun e=>h2 (key_eq.1 e))
    exact absurd (findC_below fun d hd=>bl_trans h3 (ha'.1 d hd)) h
theorem putC_mem {l:List CellT} {k:ByteArray} {v:Int} {c:CellT} (h:c∈putC l k v):c=⟨k,v⟩∨c∈l:=by
 induction l with
 |nil=>simpa [putC] using h
 | cons d l ih=>
  rw [putC] at h
  split at h
  ·rcases List.mem_cons.1 h with rfl|h
   ·exact .inr (by simp)
   ·exact(ih h).imp id (fun x=>by simp [x])
  ·split at h
   ·rcases List.mem_cons.1 h with rfl|h
    ·exact .inl rfl
    ·exact .inr (by simp [h])
   ·rcases List.mem_cons.1 h with rfl|h
    ·exact .inl rfl
    ·exact .inr h
theorem putC_asc {l:List CellT} {k:ByteArray} {v:Int} (ha:Asc l):Asc (putC l k v):=by
 induction l with
 |nil=>unfold putC Asc;simp
 | cons c l ih=>
  have ha':=List.pairwise_cons.1 ha
  rw [putC]
  by_cases h1:Op.bytesLess c.key.toList k.toList=true
  ·rw [if_pos h1]
   refine List.pairwise_cons.2 ⟨fun d hd=>?_,ih ha'.2⟩
   rcases putC_mem hd with rfl|hd
   ·exact h1
   ·exact ha'.1 d hd
  ·rw [if_neg h1]
   by_cases h2:c.key=k
   ·rw [if_pos h2]
    exact List.pairwise_cons.2 ⟨fun d hd=>by have:=ha'.1 d hd;rw [h2] at this;exact this,ha'.2⟩
   ·rw [if_neg h2]
    have h3:=bl_total (by simpa using h1) (fun e=>h2 (key_eq.1 e))
    refine List.pairwise_cons.2 ⟨fun d hd=>?_,ha⟩
    rcases List.mem_cons.1 hd with rfl|hd
    ·exact h3
    ·exact bl_trans h3 (ha'.1 d hd)
theorem putC_ok {l:List CellT} {k:ByteArray} {v:Int} (h:CellsOk l) (hk:IsNm k) (hv:IsNum v) (hl:findC l k≠none∨l.length<4):CellsOk (putC l k v):=by
 rw [cellsOk_iff] at h ⊢
 refine⟨?_,fun c hc=>?_,putC_asc h.2.2⟩
 ·rcases hl with hl|hl
  ·rw [putC_len_there h.2.2 hl];exact h.1
  ·have:=putC_len l k v;omega
 ·rcases putC_mem hc with rfl|hc
  ·exact⟨hk,hv⟩
  ·exact h.2.1 c hc
theorem findC_stop {l:List CellT} {k:ByteArray} {i:Nat} (ha:Asc l) (hb:∀j (hj:j<l.length),j<i->Op.bytesLess l[j].key.toList k.toList=true) (hs:∀h:i<l.length,Op.bytesLess l[i].key.toList k.toList=false):
  findC l k=(l[i]?).bind fun c=>if c.key=k then some c.value else none:=by
 have hlow:∀j (hj:j<l.length),j<i->l[j].key≠k:=fun j hj hji e=>by have:=hb j hj hji;rw [e,bl_irrefl] at this;cases this
 by_cases hi:i<l.length
 ·rw [List.getElem?_eq_getElem hi]
  show _=if l[i].key=k then some l[i].value else none
  by_cases hk:l[i].key=k
  ·rw [if_pos hk];exact findC_at hi hlow hk
  ·rw [if_neg hk]
   refine findC_none fun c hc=>?_
   obtain⟨j,hj,rfl⟩:=List.getElem_of_mem hc
   rcases Nat.lt_trichotomy j i with h|h|h
   ·exact hlow j hj h
   ·subst h;exact hk
   ·intro e
    have h1:=bl_total (hs hi) (fun e=>hk (key_eq.1 e))
    have h2:=bl_trans h1 (List.pairwise_iff_getElem.1 ha i j hi hj h)
    rw [e,bl_irrefl] at h2;cases h2
 ·rw [List.getElem?_eq_none (by omega)]
  refine findC_none fun c hc=>?_
  obtain⟨j,hj,rfl⟩:=List.getElem_of_mem hc
  exact hlow j hj (by omega)
/-- What the reference's loop has still to add. -/
def putS (k:ByteArray) (v:Int):Bool->List CellT->List CellT
 |d,[]=>if d then [] else [⟨k,v⟩]
 |d,c::l=>(if d=false/\Op.bytesLess c.key.toList k.toList=false then [⟨k,v⟩] else [])++((if c.key=k then [] else [c])++putS k v (d || !Op.bytesLess c.key.toList k.toList) l)
theorem putS_done {k:ByteArray} {v:Int}:∀ {l:List CellT},(∀c∈l,c.key≠k)->putS k v true l=l
 | [],_=>rfl
 |c::l,h=>by rw [putS,if_neg (h c (by simp))];simp [putS_done (l:=l) fun d hd=>h d (by simp [hd])]
theorem putS_eq {k:ByteArray} {v:Int}:∀ {l:List CellT},Asc l->putS k v false l=putC l k v
 | [],_=>rfl
 | c::l,ha=>by
  have ha':=List.pairwise_cons.1 ha
  rw [putS,putC]
  cases h1:Op.bytesLess c.key.toList k.toList
  ·simp only [and_self,if_true,Bool.false_eq_true,if_false,Bool.not_false,Bool.or_true]
   have hn:∀d∈l,d.key≠k:=by
    intro d hd e
    have h2:=ha'.1 d hd
    rw [e] at h2
    rw [h1] at h2;cases h2
   rw [putS_done hn]
   by_cases h2:c.key=k
   ·simp [h2]
   ·simp [h2]
  ·simp only [Bool.true_eq_false,and_false,if_false,if_true,Bool.not_true,Bool.or_false,List.nil_append]
   rw [putS_eq ha'.2,if_neg (fun e=>by rw [e,bl_irrefl] at h1;cases h1)]
   rfl
theorem mStart_Stop:(mStart=mStop)=False:=eq_false (by decide)
theorem mStart_Get:(mStart=mGet)=False:=eq_false (by decide)
theorem mStart_Put:(mStart=mPut)=False:=eq_false (by decide)
theorem mStart_Tell:(mStart=mTell)=False:=eq_false (by decide)
theorem mStart_Hear:(mStart=mHear)=False:=eq_false (by decide)
theorem mStart_Load:(mStart=mLoad)=False:=eq_false (by decide)
theorem mStart_Save:(mStart=mSave)=False:=eq_false (by decide)
theorem mStart_Heal:(mStart=mHeal)=False:=eq_false (by decide)
theorem mStop_Start:(mStop=mStart)=False:=eq_false (by decide)
theorem mStop_Get:(mStop=mGet)=False:=eq_false (by decide)
theorem mStop_Put:(mStop=mPut)=False:=eq_false (by decide)
theorem mStop_Tell:(mStop=mTell)=False:=eq_false (by decide)
theorem mStop_Hear:(mStop=mHear)=False:=eq_false (by decide)
theorem mStop_Load:(mStop=mLoad)=False:=eq_false (by decide)
theorem mStop_Save:(mStop=mSave)=False:=eq_false (by decide)
theorem mStop_Heal:(mStop=mHeal)=False:=eq_false (by decide)
theorem mGet_Start:(mGet=mStart)=False:=eq_false (by decide)
theorem mGet_Stop:(mGet=mStop)=False:=eq_false (by decide)
theorem mGet_Put:(mGet=mPut)=False:=eq_false (by decide)
theorem mGet_Tell:(mGet=mTell)=False:=eq_false (by decide)
theorem mGet_Hear:(mGet=mHear)=False:=eq_false (by decide)
theorem mGet_Load:(mGet=mLoad)=False:=eq_false (by decide)
theorem mGet_Save:(mGet=mSave)=False:=eq_false (by decide)
theorem mGet_Heal:(mGet=mHeal)=False:=eq_false (by decide)
theorem mPut_Start:(mPut=mStart)=False:=eq_false (by decide)
theorem mPut_Stop:(mPut=mStop)=False:=eq_false (by decide)
theorem mPut_Get:(mPut=mGet)=False:=eq_false (by decide)
theorem mPut_Tell:(mPut=mTell)=False:=eq_false (by decide)
theorem mPut_Hear:(mPut=mHear)=False:=eq_false (by decide)
theorem mPut_Load:(mPut=mLoad)=False:=eq_false (by decide)
theorem mPut_Save:(mPut=mSave)=False:=eq_false (by decide)
theorem mPut_Heal:(mPut=mHeal)=False:=eq_false (by decide)
theorem mTell_Start:(mTell=mStart)=False:=eq_false (by decide)
theorem mTell_Stop:(mTell=mStop)=False:=eq_false (by decide)
theorem mTell_Get:(mTell=mGet)=False:=eq_false (by decide)
theorem mTell_Put:(mTell=mPut)=False:=eq_false (by decide)
theorem mTell_Hear:(mTell=mHear)=False:=eq_false (by decide)
theorem mTell_Load:(mTell=mLoad)=False:=eq_false (by decide)
theorem mTell_Save:(mTell=mSave)=False:=eq_false (by decide)
theorem mTell_Heal:(mTell=mHeal)=False:=eq_false (by decide)
theorem mHear_Start:(mHear=mStart)=False:=eq_false (by decide)
theorem mHear_Stop:(mHear=mStop)=False:=eq_false (by decide)
theorem mHear_Get:(mHear=mGet)=False:=eq_false (by decide)
theorem mHear_Put:(mHear=mPut)=False:=eq_false (by decide)
theorem mHear_Tell:(mHear=mTell)=False:=eq_false (by decide)
theorem mHear_Load:(mHear=mLoad)=False:=eq_false (by decide)
theorem mHear_Save:(mHear=mSave)=False:=eq_false (by decide)
theorem mHear_Heal:(mHear=mHeal)=False:=eq_false (by decide)
theorem mLoad_Start:(mLoad=mStart)=False:=eq_false (by decide)
theorem mLoad_Stop:(mLoad=mStop)=False:=eq_false (by decide)
theorem mLoad_Get:(mLoad=mGet)=False:=eq_false (by decide)
theorem mLoad_Put:(mLoad=mPut)=False:=eq_false (by decide)
theorem mLoad_Tell:(mLoad=mTell)=False:=eq_false (by decide)
theorem mLoad_Hear:(mLoad=mHear)=False:=eq_false (by decide)
theorem mLoad_Save:(mLoad=mSave)=False:=eq_false (by decide)
theorem mLoad_Heal:(mLoad=mHeal)=False:=eq_false (by decide)
theorem mSave_Start:(mSave=mStart)=False:=eq_false (by decide)
theorem mSave_Stop:(mSave=mStop)=False:=eq_false (by decide)
theorem mSave_Get:(mSave=mGet)=False:=eq_false (by decide)
theorem mSave_Put:(mSave=mPut)=False:=eq_false (by decide)
theorem mSave_Tell:(mSave=mTell)=False:=eq_false (by decide)
theorem mSave_Hear:(mSave=mHear)=False:=eq_false (by decide)
theorem mSave_Load:(mSave=mLoad)=False:=eq_false (by decide)
theorem mSave_Heal:(mSave=mHeal)=False:=eq_false (by decide)
theorem mHeal_Start:(mHeal=mStart)=False:=eq_false (by decide)
theorem mHeal_Stop:(mHeal=mStop)=False:=eq_false (by decide)
theorem mHeal_Get:(mHeal=mGet)=False:=eq_false (by decide)
theorem mHeal_Put:(mHeal=mPut)=False:=eq_false (by decide)
theorem mHeal_Tell:(mHeal=mTell)=False:=eq_false (by decide)
theorem mHeal_Hear:(mHeal=mHear)=False:=eq_false (by decide)
theorem mHeal_Load:(mHeal=mLoad)=False:=eq_false (by decide)
theorem mHeal_Save:(mHeal=mSave)=False:=eq_false (by decide)
theorem mne:(mStart=mStop)=False/\(mStart=mGet)=False/\(mStart=mPut)=False/\(mStart=mTell)=False/\(mStart=mHear)=False/\(mStart=mLoad)=False/\(mStart=mSave)=False/\(mStart=mHeal)=False/\(mStop=mStart)=False/\(mStop=mGet)=False/\(mStop=mPut)=False/\(mStop=mTell)=False/\(mStop=mHear)=False/\(mStop=mLoad)=False/\(mStop=mSave)=False/\(mStop=mHeal)=False/\(mGet=mStart)=False/\(mGet=mStop)=False/\(mGet=mPut)=False/\(mGet=mTell)=False/\(mGet=mHear)=False/\(mGet=mLoad)=False/\(mGet=mSave)=False/\(mGet=mHeal)=False/\(mPut=mStart)=False/\(mPut=mStop)=False/\(mPut=mGet)=False/\(mPut=mTell)=False/\(mPut=mHear)=False/\(mPut=mLoad)=False/\(mPut=mSave)=False/\(mPut=mHeal)=False/\(mTell=mStart)=False/\(mTell=mStop)=False/\(mTell=mGet)=False/\(mTell=mPut)=False/\(mTell=mHear)=False/\(mTell=mLoad)=False/\(mTell=mSave)=False/\(mTell=mHeal)=False/\(mHear=mStart)=False/\(mHear=mStop)=False/\(mHear=mGet)=False/\(mHear=mPut)=False/\(mHear=mTell)=False/\(mHear=mLoad)=False/\(mHear=mSave)=False/\(mHear=mHeal)=False/\(mLoad=mStart)=False/\(mLoad=mStop)=False/\(mLoad=mGet)=False/\(mLoad=mPut)=False/\(mLoad=mTell)=False/\(mLoad=mHear)=False/\(mLoad=mSave)=False/\(mLoad=mHeal)=False/\(mSave=mStart)=False/\(mSave=mStop)=False/\(mSave=mGet)=False/\(mSave=mPut)=False/\(mSave=mTell)=False/\(mSave=mHear)=False/\(mSave=mLoad)=False/\(mSave=mHeal)=False/\(mHeal=mStart)=False/\(mHeal=mStop)=False/\(mHeal=mGet)=False/\(mHeal=mPut)=False/\(mHeal=mTell)=False/\(mHeal=mHear)=False/\(mHeal=mLoad)=False/\(mHeal=mSave)=False:=⟨mStart_Stop,mStart_Get,mStart_Put,mStart_Tell,mStart_Hear,mStart_Load,mStart_Save,mStart_Heal,mStop_Start,mStop_Get,mStop_Put,mStop_Tell,mStop_Hear,mStop_Load,mStop_Save,mStop_Heal,mGet_Start,mGet_Stop,mGet_Put,mGet_Tell,mGet_Hear,mGet_Load,mGet_Save,mGet_Heal,mPut_Start,mPut_Stop,mPut_Get,mPut_Tell,mPut_Hear,mPut_Load,mPut_Save,mPut_Heal,mTell_Start,mTell_Stop,mTell_Get,mTell_Put,mTell_Hear,mTell_Load,mTell_Save,mTell_Heal,mHear_Start,mHear_Stop,mHear_Get,mHear_Put,mHear_Tell,mHear_Load,mHear_Save,mHear_Heal,mLoad_Start,mLoad_Stop,mLoad_Get,mLoad_Put,mLoad_Tell,mLoad_Hear,mLoad_Save,mLoad_Heal,mSave_Start,mSave_Stop,mSave_Get,mSave_Put,mSave_Tell,mSave_Hear,mSave_Load,mSave_Heal,mHeal_Start,mHeal_Stop,mHeal_Get,mHeal_Put,mHeal_Tell,mHeal_Hear,mHeal_Load,mHeal_Save⟩
theorem abil_m:abilOf mStart=some 0/\abilOf mStop=some 0/\abilOf mGet=some 1/\abilOf mPut=some 1/\abilOf mTell=some 2/\abilOf mHear=some 3/\abilOf mLoad=some 4/\abilOf mSave=some 4/\abilOf mHeal=some 5:=by
 refine⟨?_,?_,?_,?_,?_,?_,?_,?_,?_⟩<;>(unfold abilOf;rw [ByteArray.toList_eq];rfl)
theorem want_Start:wantT mStart=1:=by unfold wantT;rw [abil_m.1];rfl
theorem want_Stop:wantT mStop=1:=by unfold wantT;rw [abil_m.2.1];rfl
theorem want_Get:wantT mGet=2:=by unfold wantT;rw [abil_m.2.2.1];rfl
theorem want_Put:wantT mPut=2:=by unfold wantT;rw [abil_m.2.2.2.1];rfl
theorem want_Tell:wantT mTell=4:=by unfold wantT;rw [abil_m.2.2.2.2.1];rfl
theorem want_Hear:wantT mHear=8:=by unfold wantT;rw [abil_m.2.2.2.2.2.1];rfl
theorem want_Load:wantT mLoad=16:=by unfold wantT;rw [abil_m.2.2.2.2.2.2.1];rfl
theorem want_Save:wantT mSave=16:=by unfold wantT;rw [abil_m.2.2.2.2.2.2.2.1];rfl
theorem want_Heal:wantT mHeal=32:=by unfold wantT;rw [abil_m.2.2.2.2.2.2.2.2];rfl
theorem call_meth {x:CallT} (h:CallOk x):x.method=mStart∨x.method=mStop∨x.method=mGet∨x.method=mPut∨x.method=mTell∨x.method=mHear∨x.method=mLoad∨x.method=mSave∨x.method=mHeal:=by
 have h1:=h.1
 obtain⟨k,hk⟩:=Option.ne_none_iff_exists'.1 h1
 obtain⟨j,hj,rfl,hm⟩:=abilOf_some hk
 match j,hj,hm with
 |0,_,hm|1,_,hm|4,_,hm=>simp only [methL,List.mem_cons,List.not_mem_nil,or_false] at hm;rcases hm with hm|hm<;>simp [hm]
 |2,_,hm|3,_,hm|5,_,hm=>simp only [methL,List.mem_cons,List.not_mem_nil,or_false] at hm;simp [hm]
theorem doesT_Start {p:CoreT} {x:CallT} (h:x.method=mStart):doesT p x=if p.broken=true then(p,repOf 3 0 0 0) else if p.on=true then({p with on:=false,broken:=true},repOf 3 0 0 0) else({p with on:=true,count:=upN p.count},repOf 0 0 0 0):=by
 unfold doesT;rw [h];simp [mStart_Heal,mStart_Tell]
theorem doesT_Stop {p:CoreT} {x:CallT} (h:x.method=mStop):doesT p x=if p.broken=true then(p,repOf 3 0 0 0) else if p.on=true then({p with on:=false},repOf 0 0 0 0) else(p,repOf 2 0 0 0):=by
 unfold doesT;rw [h];simp [mStop_Heal,mStop_Tell,mStop_Start]
theorem doesT_Get {p:CoreT} {x:CallT} (h:x.method=mGet):doesT p x=if p.broken=true then(p,repOf 3 0 0 0) else keepT p x:=by
 unfold doesT;rw [h];simp [mGet_Heal,mGet_Tell,mGet_Start,mGet_Stop]
theorem doesT_Put {p:CoreT} {x:CallT} (h:x.method=mPut):doesT p x=if p.broken=true then(p,repOf 3 0 0 0) else keepT p x:=by
 unfold doesT;rw [h];simp [mPut_Heal,mPut_Tell,mPut_Start,mPut_Stop,mPut_Get]
theorem doesT_Tell {p:CoreT} {x:CallT} (h:x.method=mTell):doesT p x=(p,repOf 0 p.count 0 0):=by
 unfold doesT;rw [h];simp [mTell_Heal,mTell_Start,mTell_Stop,mTell_Get,mTell_Put]
theorem doesT_Hear {p:CoreT} {x:CallT} (h:x.method=mHear):doesT p x=if p.broken=true then(p,repOf 3 0 0 0) else({p with count:=upN p.count,on:=(x.value==1) || (p.on&&!(x.value==0)) },repOf 0 (upN p.count) 0 0):=by
 unfold doesT;rw [h];simp [mHear_Heal,mHear_Tell,mHear_Start,mHear_Stop,mHear_Get,mHear_Put]
theorem doesT_Load {p:CoreT} {x:CallT} (h:x.method=mLoad):doesT p x=if p.broken=true then(p,repOf 3 0 0 0) else(match parseCells x.text with|none=>(p,repOf 6 0 0 0)|some l=>({p with cells:=l},repOf 0 l.length 0 0)):=by
 unfold doesT;rw [h];simp [mLoad_Heal,mLoad_Tell,mLoad_Start,mLoad_Stop,mLoad_Get,mLoad_Put,mLoad_Hear,mLoad_Save] <;>rfl
theorem doesT_Save {p:CoreT} {x:CallT} (h:x.method=mSave):doesT p x=if p.broken=true then(p,repOf 3 0 0 0) else(p,⟨0,0,cellsT p.cells,0,0⟩):=by
 unfold doesT;rw [h];simp [mSave_Heal,mSave_Tell,mSave_Start,mSave_Stop,mSave_Get,mSave_Put,mSave_Hear]
theorem doesT_Heal {p:CoreT} {x:CallT} (h:x.method=mHeal):doesT p x=({p with on:=false,broken:=false},repOf 0 0 0 0):=by
 unfold doesT;rw [h];simp [mHeal_Tell,mHeal_Start,mHeal_Stop,mHeal_Get,mHeal_Put,mHeal_Hear,mHeal_Save,mHeal_Load]

theorem upN_ok {n:Int} (h:IsNum n):IsNum (upN n):=by
 unfold IsNum at *;unfold upN;omega
theorem parseCells_ok {s:ByteArray} {l:List CellT} (h:parseCells s=some l):CellsOk l:=by
 unfold parseCells at h
 split at h
 ·injection h with h;subst h;exact⟨by simp,fun k hk=>by simp at hk⟩
 ·split at h
  ·rename_i hx;injection h with h;rw [<-h];exact hx.choose_spec.2
  ·cases h
theorem offer_has {f:Int} {k:Nat} (hk:k<6) (h:Offer f (2 ^ k:Nat)):has f k=true:=by
 refine h.2.2 ⟨k,hk⟩ ?_
 obtain rfl|rfl|rfl|rfl|rfl|rfl:k=0∨k=1∨k=2∨k=3∨k=4∨k=5:=by omega
 all_goals(clear h;revert hk;decide)
theorem kind_hear {s:ByteArray} {f:Int} (h:kindOf s=some f):has f 3=true->has f 0=true:=by
 obtain⟨n,hn⟩:=look_mem h
 have:∀x∈kinds,has x.2 3=true->has x.2 0=true:=by decide
 exact this _ hn
theorem kind_save {s:ByteArray} {f:Int} (h:kindOf s=some f):has f 4=true->has f 1=true:=by
 obtain⟨n,hn⟩:=look_mem h
 have:∀x∈kinds,has x.2 4=true->has x.2 1=true:=by decide
 exact this _ hn
theorem keepT_cases (p:CoreT) (x:CallT):(keepT p x).1=p∨(x.method≠mGet/\¬(findC p.cells x.key=none/\4<=p.cells.length)/\(keepT p x).1={p with cells:=putC p.cells x.key x.value,count:=upN p.count}):=by
 unfold keepT
 split
 ·exact .inl rfl
 ·split
  ·exact .inl rfl
  ·split
   ·exact .inl rfl
   ·exact .inr ⟨by assumption,by assumption,rfl⟩
theorem keepT_ok {p:CoreT} {x:CallT} (h:CoreOk p) (hx:CallOk x) (hm:x.method=mGet∨x.method=mPut) (hf:has ((kindOf p.kind).getD 0) 1=true):CoreOk (keepT p x).1/\(keepT p x).1.kind=p.kind:=by
 rcases keepT_cases p x with e|⟨e0,e1,e⟩
 ·rw [e];exact⟨h,rfl⟩
 ·rw [e]
  refine⟨?_,rfl⟩
  have hp:x.method=mPut:=hm.resolve_left e0
  obtain⟨f,h1,h2,h3,h4,h5,h6⟩:=h
  rw [h1] at hf
  have hk:IsNm x.key/\IsNum x.value:=by
   rcases hx.2.2 with hh|hh|hh|hh
   ·exact absurd hh.1 e0
   ·exact hh.2
   ·rw [hp] at hh;simp only [mPut_Hear,false_and] at hh
   ·exact absurd hp hh.2.1
  exact⟨f,h1,putC_ok h2 hk.1 hk.2 (by
   by_cases h:findC p.cells x.key=none
   ·exact .inr (Nat.lt_of_not_le fun h'=>e1 ⟨h,h'⟩)
   ·exact .inl h),fun _=>hf,upN_ok h4,h5,h6⟩
theorem doesT_ok {p:CoreT} {x:CallT} (h:CoreOk p) (hx:CallOk x) (hf:Offer ((kindOf p.kind).getD 0) (wantT x.method)):CoreOk (doesT p x).1/\(doesT p x).1.kind=p.kind:=by
 have hok:=h
 obtain⟨f,h1,h2,h3,h4,h5,h6⟩:=h
 have hff:=hf
 rw [h1] at hff
 simp only [Option.getD_some] at hff
 rcases call_meth hx with m|m|m|m|m|m|m|m|m
 ·rw [m,want_Start] at hff
  have b:=offer_has (k:=0) (by omega) hff
  rw [doesT_Start m]
  split
  ·exact⟨hok,rfl⟩
  ·rename_i hb
   split
   ·exact⟨⟨f,h1,h2,h3,h4,by simp,.inl b⟩,rfl⟩
   ·exact⟨⟨f,h1,h2,h3,upN_ok h4,by simp;simpa using hb,.inl b⟩,rfl⟩
 ·rw [m,want_Stop] at hff
  have b:=offer_has (k:=0) (by omega) hff
  rw [doesT_Stop m]
  split
  ·exact⟨hok,rfl⟩
  ·split
   ·exact⟨⟨f,h1,h2,h3,h4,by simp,.inl b⟩,rfl⟩
   ·exact⟨hok,rfl⟩
 ·rw [doesT_Get m]
  split
  ·exact⟨hok,rfl⟩
  ·rw [m,want_Get] at hf
   exact keepT_ok hok hx (.inl m) (offer_has (k:=1) (by omega) hf)
 ·rw [doesT_Put m]
  split
  ·exact⟨hok,rfl⟩
  ·rw [m,want_Put] at hf
   exact keepT_ok hok hx (.inr m) (offer_has (k:=1) (by omega) hf)
 ·rw [doesT_Tell m];exact⟨hok,rfl⟩
 ·rw [m,want_Hear] at hff
  have b:=kind_hear h1 (offer_has (k:=3) (by omega) hff)
  rw [doesT_Hear m]
  split
  ·exact⟨hok,rfl⟩
  ·rename_i hb
   exact⟨⟨f,h1,h2,h3,upN_ok h4,by simp only [not_and];intro _;simpa using hb,.inl b⟩,rfl⟩
 ·rw [m,want_Load] at hff
  have b:=kind_save h1 (offer_has (k:=4) (by omega) hff)
  rw [doesT_Load m]
  split
  ·exact⟨hok,rfl⟩
  ·split
   ·exact⟨hok,rfl⟩
   ·rename_i l hl
    exact⟨⟨f,h1,parseCells_ok hl,fun _=>b,h4,h5,h6⟩,rfl⟩
 ·rw [doesT_Save m]
  split
  ·exact⟨hok,rfl⟩
  ·exact⟨hok,rfl⟩
 ·rw [doesT_Heal m]
  exact⟨⟨f,h1,h2,h3,h4,by simp,.inr ⟨rfl,rfl⟩⟩,rfl⟩
/-- The same part, but for its core and for what its first layers have counted. -/
structure Same (n:Nat) (p q:PartT):Prop where
 kind:q.core.kind=p.core.kind
 len:q.layers.length=p.layers.length
 name:∀(k:Nat) (h:k<p.layers.length) (h':k<q.layers.length),q.layers[k].name=p.layers[k].name
 rest:∀(k:Nat) (h:k<p.layers.length) (h':k<q.layers.length),n<=k->q.layers[k]=p.layers[k]
theorem Same.refl (n:Nat) (p:PartT):Same n p p:=⟨rfl,rfl,fun _ _ _=>rfl,fun _ _ _ _=>rfl⟩
theorem Same.trans {n:Nat} {p q r:PartT} (h:Same n p q) (k:Same n q r):Same n p r:=
 ⟨k.kind.trans h.kind,k.len.trans h.len,fun i hi hi'=>(k.name i (by rw [h.len];exact hi) hi').trans (h.name i hi (by rw [h.len];exact hi)),fun i hi hi' hn=>(k.rest i (by rw [h.len];exact hi) hi' hn).trans (h.rest i hi (by rw [h.len];exact hi) hn)⟩
theorem Same.mono {n m:Nat} {p q:PartT} (h:Same n p q) (hm:n<=m):Same m p q:=⟨h.kind,h.len,h.name,fun k a b c=>h.rest k a b (by omega)⟩
theorem Same.face {n:Nat} {p q:PartT} (h:Same n p q) (k:Nat) (hk:k<=p.layers.length):faceAt q k=faceAt p k:=by
 rcases Nat.eq_zero_or_pos k with rfl|h0
 ·rw [faceAt_zero,faceAt_zero,h.kind]
 ·rw [faceAt_pos q k h0 (by rw [h.len];omega),faceAt_pos p k h0 (by omega),h.name (k-1) (by omega) (by rw [h.len];omega)]
theorem Same.lay {n k:Nat} {p q:PartT} (h:Same n p q) (hk:k<p.layers.length) (hn:n<=k):layN q k=layN p k:=by
 unfold layN
 rw [List.getElem?_eq_getElem hk,List.getElem?_eq_getElem (by rw [h.len];exact hk),h.rest k hk (by rw [h.len];exact hk) hn]
theorem layN_eq {p:PartT} {k:Nat} (h:k<p.layers.length):layN p k=p.layers[k]:=by unfold layN;rw [List.getElem?_eq_getElem h];rfl
theorem bump_eq {p:PartT} {n:Nat} (h:n<p.layers.length):bump p n=⟨p.core,p.layers.set n ⟨p.layers[n].name,upN p.layers[n].count⟩⟩:=by
 unfold bump;rw [List.getElem?_eq_getElem h]
theorem bump_same {p:PartT} {n:Nat} (h:n<p.layers.length):Same (n+1) p (bump p n):=by
 rw [bump_eq h]
 refine⟨rfl,by simp,fun k hk hk'=>?_,fun k hk hk' hn=>?_⟩
 ·simp only [List.getElem_set]
  split
  ·rename_i e;subst e;rfl
  ·rfl
 ·simp only [List.getElem_set]
  rw [if_neg (by omega)]
/-- May the call go through the first n layers? -/
structure ThrOk (n:Nat) (p:PartT) (x:CallT):Prop where
 part:PartOk p
 le:n<=p.layers.length
 call:CallOk x
 offer:Offer (faceAt p n) (wantT x.method)
theorem ThrOk.to {n m:Nat} {p q:PartT} {x:CallT} (h:ThrOk n p x) (hs:Same m p q) (hq:PartOk q):ThrOk n q x:=
 ⟨hq,by rw [hs.len];exact h.le,h.call,by rw [hs.face n h.le];exact h.offer⟩
theorem bump_ok {p:PartT} {n:Nat} (hp:PartOk p) (h:n<p.layers.length) (hn:p.layers[n].name=nCounts∨p.layers[n].name=nHears):PartOk (bump p n):=by
 have hs:=bump_same h
 refine⟨by rw [bump_eq h];exact hp.1,by rw [hs.len];exact hp.2.1,fun k hk=>?_⟩
 have hk':k<p.layers.length:=by rw [<-hs.len];exact hk
 obtain⟨x,h1,h2,h3,h4⟩:=hp.2.2 k hk'
 refine⟨x,by rw [hs.name k hk' hk];exact h1,by rw [hs.face k (by omega)];exact h2,?_⟩
 by_cases e:n=k
 ·subst e
  have e2:(bump p n).layers[n]=⟨p.layers[n].name,upN p.layers[n].count⟩:=by simp only [bump_eq h,List.getElem_set,if_true]
  rw [e2]
  refine⟨upN_ok h3,.inr ?_⟩
  rcases hn with hn|hn
  ·left;rw [hn,ByteArray.toList_eq];rfl
  ·right;rw [hn,ByteArray.toList_eq];rfl
 ·have e2:(bump p n).layers[k]=p.layers[k]:=by simp only [bump_eq h,List.getElem_set];rw [if_neg e]
  rw [e2]
  exact⟨h3,h4⟩
theorem core_ok {p:PartT} {c:CoreT} (hp:PartOk p) (hc:CoreOk c) (hk:c.kind=p.core.kind):PartOk ⟨c,p.layers⟩/\Same 0 p ⟨c,p.layers⟩:=by
 have hs:Same 0 p ⟨c,p.layers⟩:=⟨hk,rfl,fun _ _ _=>rfl,fun _ _ _ _=>rfl⟩
 exact⟨⟨hc,hp.2.1,fun k h=>by obtain⟨x,h1,h2,h3⟩:=hp.2.2 k h;exact⟨x,h1,by rw [hs.face k (by have:=h;simp at this;omega)];exact h2,h3⟩⟩,hs⟩
theorem only_ok {m:ByteArray} (h:m=mStart∨m=mStop):CallOk (only m):=by
 rcases h with rfl|rfl
 all_goals
  refine⟨?_,.inl rfl,.inr (.inr (.inr ⟨?_,?_,?_,rfl,rfl⟩))⟩
  ·first|(show abilOf mStart≠none;rw [abil_m.1];simp)|(show abilOf mStop≠none;rw [abil_m.2.1];simp)
  all_goals(show ¬(_=_);simp only [only,mStart_Get,mStart_Put,mStart_Hear,mStop_Get,mStop_Put,mStop_Hear,not_false_eq_true])

/-- What stands in the table, by name. -/
theorem layer_names {s:ByteArray} {x:Int×Int} (h:layerOf s=some x):(s=⟨#[112,108,97,105,110]⟩/\x=(0,0))∨(s=⟨#[114,117,110,115]⟩/\x=(1,1))∨(s=⟨#[107,101,101,112,115]⟩/\x=(2,2))∨(s=⟨#[99,111,117,110,116,115]⟩/\x=(2,6))∨(s=⟨#[108,97,122,121]⟩/\x=(3,3))∨(s=⟨#[114,101,97,100,115]⟩/\x=(2,2))∨(s=⟨#[104,101,97,114,115]⟩/\x=(1,9))∨(s=⟨#[104,101,97,108,115]⟩/\x=(1,33))∨(s=⟨#[116,119,105,99,101]⟩/\x=(4,4)):=by
 unfold layerOf at h
 have key:∀(l:List (List UInt8×(Int×Int))),look s.toList l=some x->∃y∈l,s.toList=y.1/\x=y.2:=by
  intro l
  induction l with
  |nil=>intro h;simp [look] at h
  |cons y l ih=>
   obtain⟨n,z⟩:=y
   intro h
   rw [look] at h
   split at h
   ·injection h with h;exact⟨(n,z),by simp,by assumption,h.symm⟩
   ·obtain⟨y,h1,h2⟩:=ih h;exact⟨y,by simp [h1],h2⟩
 obtain⟨y,hy,h1,h2⟩:=key _ h
 have sb:∀l:List UInt8,s.toList=l->s=⟨l.toArray⟩:=fun l hl=>by
  rw [ByteArray.toList_eq] at hl
  exact ByteArray.ext (Array.toList_inj.1 hl)
 have h3:=sb _ h1
 simp only [layerTab,List.mem_cons,List.not_mem_nil,or_false] at hy
 rcases hy with rfl|rfl|rfl|rfl|rfl|rfl|rfl|rfl|rfl<;>simp [h3,h2]

def nRuns:ByteArray:=⟨#[114,117,110,115]⟩
def nKeeps:ByteArray:=⟨#[107,101,101,112,115]⟩
theorem offer_sub {f a b:Int} (h:Offer f a) (hb:Offer a b):Offer f b:=⟨h.1,hb.2.1,fun k hk=>h.2.2 k (hb.2.2 k hk)⟩
/-- Through a layer: what the call is, and what goes on. -/
inductive Thru (n:Nat) (p:PartT) (x:CallT) (name:ByteArray):Prop where
 |countTell (e:name=nCounts) (m:x.method=mTell)
 |countKeep (e:name=nCounts) (m:isKeep x) (h:ThrOk n p x)
 |lazyKeep (e:name=nLazy) (m:isKeep x) (h:ThrOk n p x) (h':ThrOk n p (only mStart))
 |readsPut (e:name=nReads) (m:x.method=mPut)
 |hearsHear (e:name=nHears) (m:x.method=mHear) (h:ThrOk n p (only mStop)) (h':ThrOk n p (only mStart))
 |healsHeal (e:name=nHeals) (m:x.method=mHeal) (h:ThrOk n p (only mStop)) (h':ThrOk n p (only mStart))
 |twiceTell (e:name=nTwice) (m:x.method=mTell) (h:ThrOk n p x)
 |start (e:name=nRuns∨name=nLazy∨name=nHears∨name=nHeals) (m:x.method=mStart∨x.method=mStop) (h:ThrOk n p x)
 |keep (e:name=nKeeps) (m:isKeep x) (h:ThrOk n p x)
 |readsGet (e:name=nReads) (m:x.method=mGet) (h:ThrOk n p x)
theorem thru_of {n:Nat} {p:PartT} {x:CallT} (h:ThrOk (n+1) p x) (hn:n<p.layers.length):Thru n p x p.layers[n].name:=by
 obtain⟨y,h1,h2,_,_⟩:=h.part.2.2 n hn
 have hof:=h.offer
 rw [faceAt_pos p (n+1) (by omega) (by simpa using hn)] at hof
 simp only [Nat.add_sub_cancel,h1,Option.getD_some] at hof
 have mk:∀ {z:CallT},CallOk z->Offer y.1 (wantT z.method)->ThrOk n p z:=fun hc ho=>⟨h.part,by omega,hc,offer_sub h2 ho⟩
 have hs:Offer y.1 (wantT (only mStart).method)->ThrOk n p (only mStart):=mk (only_ok (.inl rfl))
 have ht:Offer y.1 (wantT (only mStop).method)->ThrOk n p (only mStop):=mk (only_ok (.inr rfl))
 have hx:=mk h.call
 simp only [only,want_Start] at hs
 simp only [only,want_Stop] at ht
 rcases layer_names h1 with ⟨e,rfl⟩|⟨e,rfl⟩|⟨e,rfl⟩|⟨e,rfl⟩|⟨e,rfl⟩|⟨e,rfl⟩|⟨e,rfl⟩|⟨e,rfl⟩|⟨e,rfl⟩
 ·simp only at hof hx hs ht
  rcases call_meth h.call with m|m|m|m|m|m|m|m|m
  ·rw [m,want_Start] at hof;exact absurd hof (by decide)
  ·rw [m,want_Stop] at hof;exact absurd hof (by decide)
  ·rw [m,want_Get] at hof;exact absurd hof (by decide)
  ·rw [m,want_Put] at hof;exact absurd hof (by decide)
  ·rw [m,want_Tell] at hof;exact absurd hof (by decide)
  ·rw [m,want_Hear] at hof;exact absurd hof (by decide)
  ·rw [m,want_Load] at hof;exact absurd hof (by decide)
  ·rw [m,want_Save] at hof;exact absurd hof (by decide)
  ·rw [m,want_Heal] at hof;exact absurd hof (by decide)
 ·simp only at hof hx hs ht
  rcases call_meth h.call with m|m|m|m|m|m|m|m|m
  ·rw [m,want_Start] at hx;exact .start (.inl e) (.inl m) (hx (by decide))
  ·rw [m,want_Stop] at hx;exact .start (.inl e) (.inr m) (hx (by decide))
  ·rw [m,want_Get] at hof;exact absurd hof (by decide)
  ·rw [m,want_Put] at hof;exact absurd hof (by decide)
  ·rw [m,want_Tell] at hof;exact absurd hof (by decide)
  ·rw [m,want_Hear] at hof;exact absurd hof (by decide)
  ·rw [m,want_Load] at hof;exact absurd hof (by decide)
  ·rw [m,want_Save] at hof;exact absurd hof (by decide)
  ·rw [m,want_Heal] at hof;exact absurd hof (by decide)
 ·simp only at hof hx hs ht
  rcases call_meth h.call with m|m|m|m|m|m|m|m|m
  ·rw [m,want_Start] at hof;exact absurd hof (by decide)
  ·rw [m,want_Stop] at hof;exact absurd hof (by decide)
  ·rw [m,want_Get] at hx;exact .keep e (.inl m) (hx (by decide))
  ·rw [m,want_Put] at hx;exact .keep e (.inr m) (hx (by decide))
  ·rw [m,want_Tell] at hof;exact absurd hof (by decide)
  ·rw [m,want_Hear] at hof;exact absurd hof (by decide)
  ·rw [m,want_Load] at hof;exact absurd hof (by decide)
  ·rw [m,want_Save] at hof;exact absurd hof (by decide)
  ·rw [m,want_Heal] at hof;exact absurd hof (by decide)
 ·simp only at hof hx hs ht
  rcases call_meth h.call with m|m|m|m|m|m|m|m|m
  ·rw [m,want_Start] at hof;exact absurd hof (by decide)
  ·rw [m,want_Stop] at hof;exact absurd hof (by decide)
  ·rw [m,want_Get] at hx;exact .countKeep e (.inl m) (hx (by decide))
  ·rw [m,want_Put] at hx;exact .countKeep e (.inr m) (hx (by decide))
  ·rw [m,want_Tell] at hx;exact .countTell e m
  ·rw [m,want_Hear] at hof;exact absurd hof (by decide)
  ·rw [m,want_Load] at hof;exact absurd hof (by decide)
  ·rw [m,want_Save] at hof;exact absurd hof (by decide)
  ·rw [m,want_Heal] at hof;exact absurd hof (by decide)
 ·simp only at hof hx hs ht
  rcases call_meth h.call with m|m|m|m|m|m|m|m|m
  ·rw [m,want_Start] at hx;exact .start (.inr (.inl e)) (.inl m) (hx (by decide))
  ·rw [m,want_Stop] at hx;exact .start (.inr (.inl e)) (.inr m) (hx (by decide))
  ·rw [m,want_Get] at hx;exact .lazyKeep e (.inl m) (hx (by decide)) (hs (by decide))
  ·rw [m,want_Put] at hx;exact .lazyKeep e (.inr m) (hx (by decide)) (hs (by decide))
  ·rw [m,want_Tell] at hof;exact absurd hof (by decide)
  ·rw [m,want_Hear] at hof;exact absurd hof (by decide)
  ·rw [m,want_Load] at hof;exact absurd hof (by decide)
  ·rw [m,want_Save] at hof;exact absurd hof (by decide)
  ·rw [m,want_Heal] at hof;exact absurd hof (by decide)
 ·simp only at hof hx hs ht
  rcases call_meth h.call with m|m|m|m|m|m|m|m|m
  ·rw [m,want_Start] at hof;exact absurd hof (by decide)
  ·rw [m,want_Stop] at hof;exact absurd hof (by decide)
  ·rw [m,want_Get] at hx;exact .readsGet e m (hx (by decide))
  ·rw [m,want_Put] at hx;exact .readsPut e m
  ·rw [m,want_Tell] at hof;exact absurd hof (by decide)
  ·rw [m,want_Hear] at hof;exact absurd hof (by decide)
  ·rw [m,want_Load] at hof;exact absurd hof (by decide)
  ·rw [m,want_Save] at hof;exact absurd hof (by decide)
  ·rw [m,want_Heal] at hof;exact absurd hof (by decide)
 ·simp only at hof hx hs ht
  rcases call_meth h.call with m|m|m|m|m|m|m|m|m
  ·rw [m,want_Start] at hx;exact .start (.inr (.inr (.inl e))) (.inl m) (hx (by decide))
  ·rw [m,want_Stop] at hx;exact .start (.inr (.inr (.inl e))) (.inr m) (hx (by decide))
  ·rw [m,want_Get] at hof;exact absurd hof (by decide)
  ·rw [m,want_Put] at hof;exact absurd hof (by decide)
  ·rw [m,want_Tell] at hof;exact absurd hof (by decide)
  ·rw [m,want_Hear] at hx;exact .hearsHear e m (ht (by decide)) (hs (by decide))
  ·rw [m,want_Load] at hof;exact absurd hof (by decide)
  ·rw [m,want_Save] at hof;exact absurd hof (by decide)
  ·rw [m,want_Heal] at hof;exact absurd hof (by decide)
 ·simp only at hof hx hs ht
  rcases call_meth h.call with m|m|m|m|m|m|m|m|m
  ·rw [m,want_Start] at hx;exact .start (.inr (.inr (.inr e))) (.inl m) (hx (by decide))
  ·rw [m,want_Stop] at hx;exact .start (.inr (.inr (.inr e))) (.inr m) (hx (by decide))
  ·rw [m,want_Get] at hof;exact absurd hof (by decide)
  ·rw [m,want_Put] at hof;exact absurd hof (by decide)
  ·rw [m,want_Tell] at hof;exact absurd hof (by decide)
  ·rw [m,want_Hear] at hof;exact absurd hof (by decide)
  ·rw [m,want_Load] at hof;exact absurd hof (by decide)
  ·rw [m,want_Save] at hof;exact absurd hof (by decide)
  ·rw [m,want_Heal] at hx;exact .healsHeal e m (ht (by decide)) (hs (by decide))
 ·simp only at hof hx hs ht
  rcases call_meth h.call with m|m|m|m|m|m|m|m|m
  ·rw [m,want_Start] at hof;exact absurd hof (by decide)
  ·rw [m,want_Stop] at hof;exact absurd hof (by decide)
  ·rw [m,want_Get] at hof;exact absurd hof (by decide)
  ·rw [m,want_Put] at hof;exact absurd hof (by decide)
  ·rw [m,want_Tell] at hx;exact .twiceTell e m (hx (by decide))
  ·rw [m,want_Hear] at hof;exact absurd hof (by decide)
  ·rw [m,want_Load] at hof;exact absurd hof (by decide)
  ·rw [m,want_Save] at hof;exact absurd hof (by decide)
  ·rw [m,want_Heal] at hof;exact absurd hof (by decide)
theorem nCounts_Lazy:(nCounts=nLazy)=False:=eq_false (by decide)
theorem nCounts_Reads:(nCounts=nReads)=False:=eq_false (by decide)
theorem nCounts_Hears:(nCounts=nHears)=False:=eq_false (by decide)
theorem nCounts_Heals:(nCounts=nHeals)=False:=eq_false (by decide)
theorem nCounts_Twice:(nCounts=nTwice)=False:=eq_false (by decide)
theorem nCounts_Runs:(nCounts=nRuns)=False:=eq_false (by decide)
theorem nCounts_Keeps:(nCounts=nKeeps)=False:=eq_false (by decide)
theorem nLazy_Counts:(nLazy=nCounts)=False:=eq_false (by decide)
theorem nLazy_Reads:(nLazy=nReads)=False:=eq_false (by decide)
theorem nLazy_Hears:(nLazy=nHears)=False:=eq_false (by decide)
theorem nLazy_Heals:(nLazy=nHeals)=False:=eq_false (by decide)
theorem nLazy_Twice:(nLazy=nTwice)=False:=eq_false (by decide)
theorem nLazy_Runs:(nLazy=nRuns)=False:=eq_false (by decide)
theorem nLazy_Keeps:(nLazy=nKeeps)=False:=eq_false (by decide)
theorem nReads_Counts:(nReads=nCounts)=False:=eq_false (by decide)
theorem nReads_Lazy:(nReads=nLazy)=False:=eq_false (by decide)
theorem nReads_Hears:(nReads=nHears)=False:=eq_false (by decide)
theorem nReads_Heals:(nReads=nHeals)=False:=eq_false (by decide)
theorem nReads_Twice:(nReads=nTwice)=False:=eq_false (by decide)
theorem nReads_Runs:(nReads=nRuns)=False:=eq_false (by decide)
theorem nReads_Keeps:(nReads=nKeeps)=False:=eq_false (by decide)
theorem nHears_Counts:(nHears=nCounts)=False:=eq_false (by decide)
theorem nHears_Lazy:(nHears=nLazy)=False:=eq_false (by decide)
theorem nHears_Reads:(nHears=nReads)=False:=eq_false (by decide)
theorem nHears_Heals:(nHears=nHeals)=False:=eq_false (by decide)
theorem nHears_Twice:(nHears=nTwice)=False:=eq_false (by decide)
theorem nHears_Runs:(nHears=nRuns)=False:=eq_false (by decide)
theorem nHears_Keeps:(nHears=nKeeps)=False:=eq_false (by decide)
theorem nHeals_Counts:(nHeals=nCounts)=False:=eq_false (by decide)
theorem nHeals_Lazy:(nHeals=nLazy)=False:=eq_false (by decide)
theorem nHeals_Reads:(nHeals=nReads)=False:=eq_false (by decide)
theorem nHeals_Hears:(nHeals=nHears)=False:=eq_false (by decide)
theorem nHeals_Twice:(nHeals=nTwice)=False:=eq_false (by decide)
theorem nHeals_Runs:(nHeals=nRuns)=False:=eq_false (by decide)
theorem nHeals_Keeps:(nHeals=nKeeps)=False:=eq_false (by decide)
theorem nTwice_Counts:(nTwice=nCounts)=False:=eq_false (by decide)
theorem nTwice_Lazy:(nTwice=nLazy)=False:=eq_false (by decide)
theorem nTwice_Reads:(nTwice=nReads)=False:=eq_false (by decide)
theorem nTwice_Hears:(nTwice=nHears)=False:=eq_false (by decide)
theorem nTwice_Heals:(nTwice=nHeals)=False:=eq_false (by decide)
theorem nTwice_Runs:(nTwice=nRuns)=False:=eq_false (by decide)
theorem nTwice_Keeps:(nTwice=nKeeps)=False:=eq_false (by decide)
theorem nRuns_Counts:(nRuns=nCounts)=False:=eq_false (by decide)
theorem nRuns_Lazy:(nRuns=nLazy)=False:=eq_false (by decide)
theorem nRuns_Reads:(nRuns=nReads)=False:=eq_false (by decide)
theorem nRuns_Hears:(nRuns=nHears)=False:=eq_false (by decide)
theorem nRuns_Heals:(nRuns=nHeals)=False:=eq_false (by decide)
theorem nRuns_Twice:(nRuns=nTwice)=False:=eq_false (by decide)
theorem nRuns_Keeps:(nRuns=nKeeps)=False:=eq_false (by decide)
theorem nKeeps_Counts:(nKeeps=nCounts)=False:=eq_false (by decide)
theorem nKeeps_Lazy:(nKeeps=nLazy)=False:=eq_false (by decide)
theorem nKeeps_Reads:(nKeeps=nReads)=False:=eq_false (by decide)
theorem nKeeps_Hears:(nKeeps=nHears)=False:=eq_false (by decide)
theorem nKeeps_Heals:(nKeeps=nHeals)=False:=eq_false (by decide)
theorem nKeeps_Twice:(nKeeps=nTwice)=False:=eq_false (by decide)
theorem nKeeps_Runs:(nKeeps=nRuns)=False:=eq_false (by decide)
theorem nne:(nCounts=nLazy)=False/\(nCounts=nReads)=False/\(nCounts=nHears)=False/\(nCounts=nHeals)=False/\(nCounts=nTwice)=False/\(nCounts=nRuns)=False/\(nCounts=nKeeps)=False/\(nLazy=nCounts)=False/\(nLazy=nReads)=False/\(nLazy=nHears)=False/\(nLazy=nHeals)=False/\(nLazy=nTwice)=False/\(nLazy=nRuns)=False/\(nLazy=nKeeps)=False/\(nReads=nCounts)=False/\(nReads=nLazy)=False/\(nReads=nHears)=False/\(nReads=nHeals)=False/\(nReads=nTwice)=False/\(nReads=nRuns)=False/\(nReads=nKeeps)=False/\(nHears=nCounts)=False/\(nHears=nLazy)=False/\(nHears=nReads)=False/\(nHears=nHeals)=False/\(nHears=nTwice)=False/\(nHears=nRuns)=False/\(nHears=nKeeps)=False/\(nHeals=nCounts)=False/\(nHeals=nLazy)=False/\(nHeals=nReads)=False/\(nHeals=nHears)=False/\(nHeals=nTwice)=False/\(nHeals=nRuns)=False/\(nHeals=nKeeps)=False/\(nTwice=nCounts)=False/\(nTwice=nLazy)=False/\(nTwice=nReads)=False/\(nTwice=nHears)=False/\(nTwice=nHeals)=False/\(nTwice=nRuns)=False/\(nTwice=nKeeps)=False/\(nRuns=nCounts)=False/\(nRuns=nLazy)=False/\(nRuns=nReads)=False/\(nRuns=nHears)=False/\(nRuns=nHeals)=False/\(nRuns=nTwice)=False/\(nRuns=nKeeps)=False/\(nKeeps=nCounts)=False/\(nKeeps=nLazy)=False/\(nKeeps=nReads)=False/\(nKeeps=nHears)=False/\(nKeeps=nHeals)=False/\(nKeeps=nTwice)=False/\(nKeeps=nRuns)=False:=⟨nCounts_Lazy,nCounts_Reads,nCounts_Hears,nCounts_Heals,nCounts_Twice,nCounts_Runs,nCounts_Keeps,nLazy_Counts,nLazy_Reads,nLazy_Hears,nLazy_Heals,nLazy_Twice,nLazy_Runs,nLazy_Keeps,nReads_Counts,nReads_Lazy,nReads_Hears,nReads_Heals,nReads_Twice,nReads_Runs,nReads_Keeps,nHears_Counts,nHears_Lazy,nHears_Reads,nHears_Heals,nHears_Twice,nHears_Runs,nHears_Keeps,nHeals_Counts,nHeals_Lazy,nHeals_Reads,nHeals_Hears,nHeals_Twice,nHeals_Runs,nHeals_Keeps,nTwice_Counts,nTwice_Lazy,nTwice_Reads,nTwice_Hears,nTwice_Heals,nTwice_Runs,nTwice_Keeps,nRuns_Counts,nRuns_Lazy,nRuns_Reads,nRuns_Hears,nRuns_Heals,nRuns_Twice,nRuns_Keeps,nKeeps_Counts,nKeeps_Lazy,nKeeps_Reads,nKeeps_Hears,nKeeps_Heals,nKeeps_Twice,nKeeps_Runs⟩
theorem keep_no {x:CallT} {m:ByteArray} (h:x.method=m) (h1:(m=mGet)=False) (h2:(m=mPut)=False):isKeep x=False:=by
 unfold isKeep;rw [h,h1,h2];simp
theorem keep_Tell {x:CallT} (h:x.method=mTell):isKeep x=False:=keep_no h mTell_Get mTell_Put
section
variable {n:Nat} {p:PartT} {x:CallT}
theorem thr_countTell (e:(layN p n).name=nCounts) (m:x.method=mTell):thr (n+1) p x=(p,repOf 0 (layN p n).count 0 0):=by
 simp [thr,e,m]
theorem thr_countKeep (e:(layN p n).name=nCounts) (m:isKeep x):thr (n+1) p x=(bump (thr n p x).1 n,(thr n p x).2):=by
 rcases m with m|m
 all_goals simp [thr,e,m,isKeep,mne]
theorem thr_lazyKeep (e:(layN p n).name=nLazy) (m:isKeep x):thr (n+1) p x=if(thr n p x).2.code=2 then thr n (thr n (thr n p x).1 (only mStart)).1 x else thr n p x:=by
 simp [thr,e,m,nne]
theorem thr_readsPut (e:(layN p n).name=nReads) (m:x.method=mPut):thr (n+1) p x=(p,repOf 6 0 0 0):=by
 simp [thr,e,m,nne]
theorem thr_hearsHear (e:(layN p n).name=nHears) (m:x.method=mHear):thr (n+1) p x=if x.value=0 then thr n (bump p n) (only mStop) else if x.value=1 then thr n (bump p n) (only mStart) else(bump p n,repOf 0 (layN (bump p n) n).count 0 0):=by
 simp [thr,e,m,nne]
theorem thr_healsHeal (e:(layN p n).name=nHeals) (m:x.method=mHeal):thr (n+1) p x=thr n (thr n p (only mStop)).1 (only mStart):=by
 simp [thr,e,m,nne]
theorem thr_twiceTell (e:(layN p n).name=nTwice):thr (n+1) p x=if(thr n p x).2.code=0 then((thr n p x).1, { (thr n p x).2 with value:=min (2 * (thr n p x).2.value) 999}) else thr n p x:=by
 simp [thr,e,nne]
theorem thr_keep (e:(layN p n).name=nKeeps):thr (n+1) p x=thr n p x:=by
 simp [thr,e,nne]
theorem thr_readsGet (e:(layN p n).name=nReads) (m:x.method=mGet):thr (n+1) p x=thr n p x:=by
 simp [thr,e,m,nne,mne]
theorem thr_start (e:(layN p n).name=nRuns∨(layN p n).name=nLazy∨(layN p n).name=nHears∨(layN p n).name=nHeals) (m:x.method=mStart∨x.method=mStop):thr (n+1) p x=thr n p x:=by
 rcases m with m|m
 all_goals(rcases e with e|e|e|e)
 all_goals simp [thr,e,m,isKeep,nne,mne]
end
theorem bump_thr {n:Nat} {p q:PartT} (hs:Same n p q) (hq:PartOk q) (hn:n<p.layers.length) (e:p.layers[n].name=nCounts∨p.layers[n].name=nHears):PartOk (bump q n)/\Same (n+1) p (bump q n):=by
 have hn':n<q.layers.length:=by rw [hs.len];exact hn
 refine⟨bump_ok hq hn' (by rw [hs.name n hn hn'];exact e),(hs.mono (by omega)).trans (bump_same hn')⟩
theorem thr_ok:∀(n:Nat) (p:PartT) (x:CallT),ThrOk n p x->PartOk (thr n p x).1/\Same n p (thr n p x).1
 |0,p,x,h=>by
  rw [thr]
  have h1:=doesT_ok h.part.1 h.call h.offer
  exact core_ok h.part h1.1 h1.2
 | n+1,p,x,h=>by
  have hn:n<p.layers.length:=h.le
  have hl:=layN_eq hn
  have up:∀ {q:PartT},PartOk q/\Same n p q->PartOk q/\Same (n+1) p q:=fun hq=>⟨hq.1,hq.2.mono (by omega)⟩
  cases thru_of h hn with
  |countTell e m=>rw [thr_countTell (by rw [hl];exact e) m];exact⟨h.part,Same.refl _ _⟩
  |countKeep e m h1=>
   rw [thr_countKeep (by rw [hl];exact e) m]
   have h2:=thr_ok n p x h1
   exact bump_thr h2.2 h2.1 hn (.inl e)
  | lazyKeep e m h1 h'=>
   rw [thr_lazyKeep (by rw [hl];exact e) m]
   have h2:=thr_ok n p x h1
   split
   ·have h3:=thr_ok n _ _ (h'.to h2.2 h2.1)
    have h4:=thr_ok n _ _ (h1.to (h2.2.trans h3.2) h3.1)
    exact up ⟨h4.1,(h2.2.trans h3.2).trans h4.2⟩
   ·exact up h2
  |readsPut e m=>rw [thr_readsPut (by rw [hl];exact e) m];exact⟨h.part,Same.refl _ _⟩
  | hearsHear e m h1 h'=>
   rw [thr_hearsHear (by rw [hl];exact e) m]
   have hb:=bump_thr (Same.refl n p) h.part hn (.inr e)
   split
   ·have h2:=thr_ok n _ _ (h1.to hb.2 hb.1)
    exact⟨h2.1,hb.2.trans (h2.2.mono (by omega))⟩
   ·split
    ·have h2:=thr_ok n _ _ (h'.to hb.2 hb.1)
     exact⟨h2.1,hb.2.trans (h2.2.mono (by omega))⟩
    ·exact hb
  |healsHeal e m h1 h'=>
   rw [thr_healsHeal (by rw [hl];exact e) m]
   have h2:=thr_ok n _ _ h1
   have h3:=thr_ok n _ _ (h'.to h2.2 h2.1)
   exact up ⟨h3.1,h2.2.trans h3.2⟩
  |twiceTell e m h1=>
   rw [thr_twiceTell (by rw [hl];exact e)]
   have h2:=thr_ok n _ _ h1
   split<;>exact up h2
  |start e m h1=>rw [thr_start (by rw [hl];exact e) m];exact up (thr_ok n _ _ h1)
  |keep e m h1=>rw [thr_keep (by rw [hl];exact e)];exact up (thr_ok n _ _ h1)
  |readsGet e m h1=>rw [thr_readsGet (by rw [hl];exact e) m];exact up (thr_ok n _ _ h1)
theorem run_ind {PA:ActionT->Prop} {PL:List ActionT->Prop} (hA:∀a,PL a.A->PL a.B->PA a) (hn:PL []) (hc:∀a l,PA a->PL l->PL (a::l)) (l:List ActionT):PL l:=by
 refine ActionT.ind (P:=PL) (fun l ih=>?_) l
 induction l with
 |nil=>exact hn
 |cons a l ihl=>exact hc a l (hA a (ih a (by simp)).1 (ih a (by simp)).2) (ihl fun b hb=>ih b (by simp [hb]))
/-- An end that lies further on. -/
def EndT.up (e:EndT) (d:Int):EndT:=if e.code=0 then e else⟨e.code,e.place+d,e.want,e.had⟩
theorem EndT.up_code (e:EndT) (d:Int):(e.up d).code=e.code:=by unfold EndT.up;split<;>rfl
theorem okEnd_up (d:Int):okEnd.up d=okEnd:=rfl
theorem stepT_1 {a:ActionT} {place:Int} {s:RunT} (h:a.op=1):stepT a place s=(⟨s.slots.set a.slot.toNat ⟨true,newPart a.word⟩,s.taken⟩,okEnd):=by unfold stepT;rw [if_pos h]
theorem stepT_5 {a:ActionT} {place:Int} {s:RunT} (h:a.op=5):stepT a place s=(⟨s.slots.set a.slot.toNat zeroSlot,s.taken⟩,okEnd):=by unfold stepT;rw [if_neg (by omega),if_pos h]
theorem stepT_4 {a:ActionT} {place:Int} {s:RunT} (h:a.op=4):stepT a place s=(⟨s.slots.set a.slot.toNat (slotAt s.slots a.other),s.taken⟩,okEnd):=by unfold stepT;rw [if_neg (by omega),if_neg (by omega),if_pos h]
theorem stepT_e {a:ActionT} {place:Int} {s:RunT} (h1:a.op≠1) (h5:a.op≠5) (h4:a.op≠4) (hf:(slotAt s.slots a.slot).full=false):stepT a place s=(s,⟨2,place,0,0⟩):=by unfold stepT;rw [if_neg h1,if_neg h5,if_neg h4,if_pos hf]
theorem stepT_f {a:ActionT} {place:Int} {s:RunT} (h1:a.op≠1) (h5:a.op≠5) (h4:a.op≠4) (hf:¬(slotAt s.slots a.slot).full=false) (hc:(withT a (slotAt s.slots a.slot).part).2.code=1):
  stepT a place s=(⟨s.slots.set a.slot.toNat ⟨true,(withT a (slotAt s.slots a.slot).part).1⟩,s.taken⟩,⟨1,place,(withT a (slotAt s.slots a.slot).part).2.want,(withT a (slotAt s.slots a.slot).part).2.had⟩):=by
 unfold stepT;rw [if_neg h1,if_neg h5,if_neg h4,if_neg hf,if_pos hc]
theorem stepT_g {a:ActionT} {place:Int} {s:RunT} (h1:a.op≠1) (h5:a.op≠5) (h4:a.op≠4) (hf:¬(slotAt s.slots a.slot).full=false) (hc:¬(withT a (slotAt s.slots a.slot).part).2.code=1):
  stepT a place s=(⟨s.slots.set a.slot.toNat ⟨true,(withT a (slotAt s.slots a.slot).part).1⟩,s.taken⟩,okEnd):=by
 unfold stepT;rw [if_neg h1,if_neg h5,if_neg h4,if_neg hf,if_neg hc]
theorem run_8 {input:List Int} {a:ActionT} {place:Int} {s:RunT} (h:a.op=8):a.run input place s=if takeN input s.taken % 2=1 then runL input a.A (place+1) ⟨s.slots,s.taken+1⟩ else runL input a.B (place+1+sizeL a.A) ⟨s.slots,s.taken+1⟩:=by rw [a.run_eq,if_pos h]
theorem run_9 {input:List Int} {a:ActionT} {place:Int} {s:RunT} (h:a.op=9):a.run input place s=loopN (takeN input s.taken).toNat (fun t=>runL input a.A (place+1) t) ⟨s.slots,s.taken+1⟩:=by rw [a.run_eq,if_neg (by omega),if_pos h]
theorem run_10 {input:List Int} {a:ActionT} {place:Int} {s:RunT} (h:a.op=10):a.run input place s=if(runL input a.A (place+1) s).2.code=1 then runL input a.B (place+1+sizeL a.A) (runL input a.A (place+1) s).1 else runL input a.A (place+1) s:=by rw [a.run_eq,if_neg (by omega),if_neg (by omega),if_pos h]
theorem run_s {input:List Int} {a:ActionT} {place:Int} {s:RunT} (h8:a.op≠8) (h9:a.op≠9) (h10:a.op≠10):a.run input place s=stepT a place s:=by rw [a.run_eq,if_neg h8,if_neg h9,if_neg h10]
theorem stepT_up (a:ActionT) (place d:Int) (s:RunT):stepT a (place+d) s=((stepT a place s).1,(stepT a place s).2.up d):=by
 by_cases h1:a.op=1
 ·rw [stepT_1 h1,stepT_1 h1,okEnd_up]
 by_cases h5:a.op=5
 ·rw [stepT_5 h5,stepT_5 h5,okEnd_up]
 by_cases h4:a.op=4
 ·rw [stepT_4 h4,stepT_4 h4,okEnd_up]
 by_cases hf:(slotAt s.slots a.slot).full=false
 ·rw [stepT_e h1 h5 h4 hf,stepT_e h1 h5 h4 hf];rfl
 by_cases hc:(withT a (slotAt s.slots a.slot).part).2.code=1
 ·rw [stepT_f h1 h5 h4 hf hc,stepT_f h1 h5 h4 hf hc];rfl
 ·rw [stepT_g h1 h5 h4 hf hc,stepT_g h1 h5 h4 hf hc,okEnd_up]
theorem loopN_up {d:Int} {f g:RunT->RunT×EndT} (h:∀s,g s=((f s).1,(f s).2.up d)):∀n s,loopN n g s=((loopN n f s).1,(loopN n f s).2.up d)
 |0,s=>by rw [loopN,loopN,okEnd_up]
 |n+1,s=>by
  rw [loopN,loopN,h s]
  simp only [EndT.up_code]
  split
  ·exact loopN_up h n _
  ·rfl
theorem runL_up (input:List Int) (l:List ActionT):∀(place d:Int) (s:RunT),runL input l (place+d) s=((runL input l place s).1,(runL input l place s).2.up d):=by
 refine run_ind (PL:=fun l=>∀(place d:Int) (s:RunT),runL input l (place+d) s=((runL input l place s).1,(runL input l place s).2.up d)) (PA:=fun a=>∀(place d:Int) (s:RunT),a.run input (place+d) s=((a.run input place s).1,(a.run input place s).2.up d)) (fun a hA hB place d s=>?_) (fun place d s=>?_) (fun a l ha hl place d s=>?_) l
 ·have e1:place+d+1=place+1+d:=by omega
  have e2:place+d+1+(sizeL a.A:Int)=place+1+sizeL a.A+d:=by omega
  by_cases h8:a.op=8
  ·rw [run_8 h8,run_8 h8]
   split
   ·rw [e1];exact hA _ _ _
   ·rw [e2];exact hB _ _ _
  by_cases h9:a.op=9
  ·rw [run_9 h9,run_9 h9]
   exact loopN_up (fun t=>by rw [e1];exact hA _ _ _) _ _
  by_cases h10:a.op=10
  ·rw [run_10 h10,run_10 h10,e2,e1,hA (place+1) d s]
   simp only [EndT.up_code]
   split
   ·exact hB _ _ _
   ·rfl
  rw [run_s h8 h9 h10,run_s h8 h9 h10]
  exact stepT_up a place d s
 ·rw [runL,runL,okEnd_up]
 ·rw [runL,runL,ha place d s]
  simp only [EndT.up_code]
  split
  ·rw [show place+d+(a.size:Int)=place+a.size+d by omega];exact hl _ _ _
  ·rfl
theorem runL_append (input:List Int):∀(l m:List ActionT) (place:Int) (s:RunT),runL input (l++m) place s=if(runL input l place s).2.code=0 then runL input m (place+sizeL l) (runL input l place s).1 else runL input l place s
 | [],m,place,s=>by
  rw [runL,sizeL]
  simp [okEnd]
 | a::l,m,place,s=>by
  rw [List.cons_append,runL,runL]
  by_cases h:(a.run input place s).2.code=0
  ·simp only [h,if_true]
   rw [runL_append input l m,sizeL]
   rw [show place+(a.size:Int)+(sizeL l:Int)=place+((a.size+sizeL l:Nat):Int) by omega]
  ·simp only [h,if_false]
theorem stepT_okEnd (a:ActionT) (place:Int) (s:RunT) (h:(stepT a place s).2.code=0):(stepT a place s).2=okEnd:=by
 by_cases h1:a.op=1
 ·rw [stepT_1 h1]
 by_cases h5:a.op=5
 ·rw [stepT_5 h5]
 by_cases h4:a.op=4
 ·rw [stepT_4 h4]
 by_cases hf:(slotAt s.slots a.slot).full=false
 ·rw [stepT_e h1 h5 h4 hf] at h;simp at h
 by_cases hc:(withT a (slotAt s.slots a.slot).part).2.code=1
 ·rw [stepT_f h1 h5 h4 hf hc] at h;simp at h
 ·rw [stepT_g h1 h5 h4 hf hc]
theorem loopN_okEnd {f:RunT->RunT×EndT}:∀n s,(loopN n f s).2.code=0->(loopN n f s).2=okEnd
 |0,s,_=>by rw [loopN]
 |n+1,s,h=>by
  rw [loopN] at h ⊢
  by_cases h0:(f s).2.code=0
  ·simp only [h0,if_true] at h ⊢;exact loopN_okEnd n _ h
  ·simp only [h0,if_false] at h
theorem runL_okEnd (input:List Int) (l:List ActionT):∀(place:Int) (s:RunT),(runL input l place s).2.code=0->(runL input l place s).2=okEnd:=by
 refine run_ind (PL:=fun l=>∀(place:Int) (s:RunT),(runL input l place s).2.code=0->(runL input l place s).2=okEnd) (PA:=fun a=>∀(place:Int) (s:RunT),(a.run input place s).2.code=0->(a.run input place s).2=okEnd) (fun a hA hB place s h=>?_) (fun place s _=>?_) (fun a l ha hl place s h=>?_) l
 ·by_cases h8:a.op=8
  ·rw [run_8 h8] at h ⊢
   split
   ·rename_i hc;rw [if_pos hc] at h;exact hA _ _ h
   ·rename_i hc;rw [if_neg hc] at h;exact hB _ _ h
  by_cases h9:a.op=9
  ·rw [run_9 h9] at h ⊢
   exact loopN_okEnd _ _ h
  by_cases h10:a.op=10
  ·rw [run_10 h10] at h ⊢
   split
   ·rename_i hc;rw [if_pos hc] at h;exact hB _ _ h
   ·rename_i hc;rw [if_neg hc] at h;exact hA _ _ h
  rw [run_s h8 h9 h10] at h ⊢
  exact stepT_okEnd a place s h
 ·rw [runL]
 ·rw [runL] at h ⊢
  by_cases h0:(a.run input place s).2.code=0
  ·simp only [h0,if_true] at h ⊢;exact hl _ _ h
  ·simp only [h0,if_false] at h
/-- A run that has taken k numbers more. -/
def RunT.more (s:RunT) (k:Int):RunT:=⟨s.slots,s.taken+k⟩
theorem stepT_more (a:ActionT) (place k:Int) (s:RunT):stepT a place (s.more k)=((stepT a place s).1.more k,(stepT a place s).2)/\(stepT a place s).1.taken=s.taken:=by
 have es:(s.more k).slots=s.slots:=rfl
 by_cases h1:a.op=1
 ·rw [stepT_1 h1,stepT_1 h1];exact⟨rfl,rfl⟩
 by_cases h5:a.op=5
 ·rw [stepT_5 h5,stepT_5 h5];exact⟨rfl,rfl⟩
 by_cases h4:a.op=4
 ·rw [stepT_4 h4,stepT_4 h4];exact⟨rfl,rfl⟩
 by_cases hf:(slotAt s.slots a.slot).full=false
 ·rw [stepT_e h1 h5 h4 hf,stepT_e h1 h5 h4 (s:=s.more k) hf];exact⟨rfl,rfl⟩
 by_cases hc:(withT a (slotAt s.slots a.slot).part).2.code=1
 ·rw [stepT_f h1 h5 h4 hf hc,stepT_f h1 h5 h4 (s:=s.more k) hf hc];exact⟨rfl,rfl⟩
 ·rw [stepT_g h1 h5 h4 hf hc,stepT_g h1 h5 h4 (s:=s.more k) hf hc];exact⟨rfl,rfl⟩
theorem faceAt_congr {p q:PartT} {k:Nat} (h0:q.core.kind=p.core.kind) (h:∀j,j<k->(q.layers[j]?).map (·.name)=(p.layers[j]?).map (·.name)):faceAt q k=faceAt p k:=by
 unfold faceAt
 by_cases hk:k=0
 ·rw [if_pos hk,if_pos hk,h0]
 ·rw [if_neg hk,if_neg hk]
  have h1:=h (k-1) (by omega)
  have e:∀o:Option LayerT,(o.bind fun x=>layerOf x.name)=(o.map (·.name)).bind layerOf:=by intro o;cases o<;>rfl
  rw [e,e,h1]
theorem newPart_ok {k:ByteArray} (h:kindOf k≠none):PartOk (newPart k):=by
 obtain⟨f,hf⟩:=Option.ne_none_iff_exists'.1 h
 exact⟨⟨f,hf,⟨by simp [newPart],fun k h=>by simp [newPart] at h⟩,by simp [newPart],by simp [newPart,IsNum],by simp [newPart],.inr ⟨rfl,rfl⟩⟩,by simp [newPart],fun k h=>by simp [newPart] at h⟩
theorem layerAt_of {p q:PartT} {k:Nat} {h:k<p.layers.length} {h':k<q.layers.length} (hl:LayerAt p k h) (e:q.layers[k]=p.layers[k]) (hf:faceAt q k=faceAt p k):LayerAt q k h':=by
 obtain⟨x,h1,h2,h3,h4⟩:=hl
 exact⟨x,by rw [e];exact h1,by rw [hf];exact h2,by rw [e];exact h3,by rw [e];exact h4⟩
theorem wrapOf_ok {p:PartT} {name:ByteArray} (h:PartOk p):PartOk (wrapOf p name).1:=by
 cases hx:layerOf name with
 |none=>rw [wrapOf_none hx];exact h
 | some x=>
  by_cases h2:3<=p.layers.length
  ·rw [wrapOf_full hx h h2];exact h
  by_cases h3:Offer (faceAt p p.layers.length) x.1
  ·rw [wrapOf_done hx h h2 h3]
   have hf:∀k,k<=p.layers.length->faceAt ⟨p.core,p.layers++ [⟨name,0⟩]⟩ k=faceAt p k:=fun k hk=>faceAt_congr rfl (fun j hj=>by simp only [];rw [List.getElem?_append_left (by omega)])
   refine⟨h.1,by simp;omega,fun k hk=>?_⟩
   have hk':k<p.layers.length+1:=by simpa using hk
   by_cases hl:k<p.layers.length
   ·exact layerAt_of (h.2.2 k hl) (List.getElem_append_left hl) (hf k (by omega))
   ·obtain rfl:k=p.layers.length:=by omega
    have e:(p.layers++ [(⟨name,0⟩:LayerT)])[p.layers.length]'(by simp)=⟨name,0⟩:=by simp
    refine⟨x,?_,?_,?_,.inl ?_⟩
    ·show layerOf ((p.layers++ [(⟨name,0⟩:LayerT)])[p.layers.length]'(by simp)).name=some x
     rw [e];exact hx
    ·rw [hf _ (Nat.le_refl _)];exact h3
    ·show IsNum ((p.layers++ [(⟨name,0⟩:LayerT)])[p.layers.length]'(by simp)).count
     rw [e];exact⟨Int.le_refl _,by simp⟩
    ·show((p.layers++ [(⟨name,0⟩:LayerT)])[p.layers.length]'(by simp)).count=0
     rw [e]
  ·rw [wrapOf_lacks hx h h2 h3];exact h
theorem unwrapT_ok {p:PartT} (h:PartOk p):PartOk (unwrapT p).1:=by
 unfold unwrapT
 by_cases h0:p.layers.length=0
 ·rw [if_pos (.inr h0)];exact h
 ·rw [if_neg (by intro hx;rcases hx with hx|hx;exact hx h;exact h0 hx)]
  refine⟨h.1,?_,fun k hk=>?_⟩
  ·have:=h.2.1;simp;omega
  have hk':k<p.layers.length-1:=by simp at hk;omega
  exact layerAt_of (h.2.2 k (by omega)) (by simp) (faceAt_congr rfl (fun j hj=>by simp only [];rw [List.getElem?_take_of_lt (by omega)]))
theorem callPartT_cases (p:PartT) (x:CallT) (hp:PartOk p):((callPartT p x).1=p/\(callPartT p x).2=repOf 7 0 0 0/\¬CallOk x)∨
  ((callPartT p x).1=p/\(callPartT p x).2=repOf 1 0 (wantT x.method) (faceAt p p.layers.length)/\CallOk x/\¬Offer (faceAt p p.layers.length) (wantT x.method))∨
  (callPartT p x=thr p.layers.length p x/\CallOk x/\Offer (faceAt p p.layers.length) (wantT x.method)):=by
 unfold callPartT
 by_cases hx:CallOk x
 ·rw [if_neg (by intro h;rcases h with h|h;exact h hp;exact h hx)]
  by_cases ho:Offer (faceAt p p.layers.length) (wantT x.method)
  ·rw [if_neg (fun h=>h ho)];exact .inr (.inr ⟨rfl,hx,ho⟩)
  ·rw [if_pos ho];exact .inr (.inl ⟨rfl,rfl,hx,ho⟩)
 ·rw [if_pos (.inr hx)];exact .inl ⟨rfl,rfl,hx⟩
theorem callPartT_ok {p:PartT} {x:CallT} (hp:PartOk p):PartOk (callPartT p x).1:=by
 rcases callPartT_cases p x hp with h|h|h
 ·rw [h.1];exact hp
 ·rw [h.1];exact hp
 ·rw [h.1];exact(thr_ok _ _ _ ⟨hp,Nat.le_refl _,h.2.1,h.2.2⟩).1
theorem withT_3 {a:ActionT} {p:PartT} (h:a.op=3):withT a p=((unwrapT p).1,repOf 0 0 0 0):=by unfold withT;rw [if_pos h]
theorem withT_2 {a:ActionT} {p:PartT} (h:a.op=2):withT a p=wrapOf p a.word:=by unfold withT;rw [if_neg (by omega),if_pos h]
theorem withT_6 {a:ActionT} {p:PartT} (h:a.op=6):withT a p=(p,if Offer (faceAt p p.layers.length) a.face then repOf 0 0 0 0 else repOf 1 0 a.face (faceAt p p.layers.length)):=by unfold withT;rw [if_neg (by omega),if_neg (by omega),if_pos h]
theorem withT_7 {a:ActionT} {p:PartT} (h:a.op=7):withT a p=callPartT p a.call:=by unfold withT;rw [if_neg (by omega),if_neg (by omega),if_neg (by omega),if_pos h]
theorem withT_0 {a:ActionT} {p:PartT} (h3:a.op≠3) (h2:a.op≠2) (h6:a.op≠6) (h7:a.op≠7):withT a p=(p,repOf 0 0 0 0):=by unfold withT;rw [if_neg h3,if_neg h2,if_neg h6,if_neg h7]
theorem withT_ok {a:ActionT} {p:PartT} (h:PartOk p):PartOk (withT a p).1:=by
 by_cases h3:a.op=3
 ·rw [withT_3 h3];exact unwrapT_ok h
 by_cases h2:a.op=2
 ·rw [withT_2 h2];exact wrapOf_ok h
 by_cases h6:a.op=6
 ·rw [withT_6 h6];exact h
 by_cases h7:a.op=7
 ·rw [withT_7 h7];exact callPartT_ok h
 rw [withT_0 h3 h2 h6 h7];exact h
theorem slotsOk_set {l:List SlotT} {i:Nat} {x:SlotT} (h:SlotsOk l) (hx:SlotOk x):SlotsOk (l.set i x):=by
 refine⟨by rw [List.length_set];exact h.1,fun k hk=>?_⟩
 rw [List.getElem_set]
 split
 ·exact hx
 ·exact h.2 k (by simpa using hk)
theorem slotAt_at {l:List SlotT} {i:Int} (h:l.length=3) (hi:SlotNo i):∃h:i.toNat<l.length,slotAt l i=l[i.toNat]:=by
 obtain⟨h1,h2⟩:=hi
 have hl:i.toNat<l.length:=by omega
 exact⟨hl,by unfold slotAt;rw [List.getElem?_eq_getElem hl];rfl⟩
theorem slotAt_ok {l:List SlotT} {i:Int} (h:SlotsOk l) (hi:SlotNo i):SlotOk (slotAt l i):=by
 obtain⟨hl,e⟩:=slotAt_at h.1 hi
 rw [e];exact h.2 _ hl
theorem zeroSlot_ok:SlotOk zeroSlot:=slotOk_off rfl rfl
theorem actOk_slot {a:ActionT} (h:ActOk a):SlotNo a.slot:=by
 unfold ActOk at h
 rcases h with h|h|h|h|h|h|h|h
 all_goals first|exact h.2.1|(have:=h.2.1;exact⟨by omega,by omega⟩)
theorem stepT_ok {a:ActionT} {place:Int} {s:RunT} (ha:ActOk a) (hs:SlotsOk s.slots):SlotsOk (stepT a place s).1.slots:=by
 by_cases h1:a.op=1
 ·rw [stepT_1 h1]
  exact slotsOk_set hs (slotOk_on rfl (newPart_ok ((actOk_1 h1).1 ha).2.1))
 by_cases h5:a.op=5
 ·rw [stepT_5 h5]
  exact slotsOk_set hs zeroSlot_ok
 by_cases h4:a.op=4
 ·rw [stepT_4 h4]
  exact slotsOk_set hs (slotAt_ok hs ((actOk_4 h4).1 ha).2.1)
 by_cases hf:(slotAt s.slots a.slot).full=false
 ·rw [stepT_e h1 h5 h4 hf];exact hs
 have hw:=slotsOk_set (i:=a.slot.toNat) hs (slotOk_on (s:=⟨true,(withT a (slotAt s.slots a.slot).part).1⟩) rfl (withT_ok ((slotAt_ok hs (actOk_slot ha)).1 (by simpa using hf))))
 by_cases hc:(withT a (slotAt s.slots a.slot).part).2.code=1
 ·rw [stepT_f h1 h5 h4 hf hc];exact hw
 ·rw [stepT_g h1 h5 h4 hf hc];exact hw
theorem loopN_ok {P:RunT->Prop} {f:RunT->RunT×EndT} (h:∀s,P s->P (f s).1):∀n s,P s->P (loopN n f s).1
 |0,s,hs=>by rw [loopN];exact hs
 |n+1,s,hs=>by
  rw [loopN]
  split
  ·exact loopN_ok h n _ (h s hs)
  ·exact h s hs
theorem runL_ok (input:List Int) (l:List ActionT):okL l->∀(place:Int) (s:RunT),SlotsOk s.slots->SlotsOk (runL input l place s).1.slots:=by
 refine run_ind (PL:=fun l=>okL l->∀(place:Int) (s:RunT),SlotsOk s.slots->SlotsOk (runL input l place s).1.slots) (PA:=fun a=>a.ok->∀(place:Int) (s:RunT),SlotsOk s.slots->SlotsOk (a.run input place s).1.slots) (fun a hA hB hok place s hs=>?_) (fun _ place s hs=>?_) (fun a l ha hl hok place s hs=>?_) l
 ·obtain⟨h0,hoA,hoB⟩:=a.ok_iff.1 hok
  by_cases h8:a.op=8
  ·rw [run_8 h8]
   split
   ·exact hA hoA _ _ hs
   ·exact hB hoB _ _ hs
  by_cases h9:a.op=9
  ·rw [run_9 h9]
   exact loopN_ok (P:=fun s=>SlotsOk s.slots) (fun t ht=>hA hoA _ t ht) _ _ hs
  by_cases h10:a.op=10
  ·rw [run_10 h10]
   have h1:=hA hoA (place+1) s hs
   split
   ·exact hB hoB _ _ h1
   ·exact h1
  rw [run_s h8 h9 h10]
  exact stepT_ok h0 hs
 ·rw [runL];exact hs
 ·rw [okL] at hok
  rw [runL]
  have h1:=ha hok.1 place s hs
  split
  ·exact hl hok.2 _ _ h1
  ·exact h1
/-- The same shape. -/
def SameP (p q:PartT):Prop:=q.core.kind=p.core.kind/\q.layers.map (·.name)=p.layers.map (·.name)
theorem SameP.refl (p:PartT):SameP p p:=⟨rfl,rfl⟩
theorem SameP.symm {p q:PartT} (h:SameP p q):SameP q p:=⟨h.1.symm,h.2.symm⟩
theorem SameP.trans {p q r:PartT} (h:SameP p q) (k:SameP q r):SameP p r:=⟨k.1.trans h.1,k.2.trans h.2⟩
theorem SameP.len {p q:PartT} (h:SameP p q):q.layers.length=p.layers.length:=by have:=congrArg List.length h.2;simpa using this
theorem SameP.face {p q:PartT} (h:SameP p q) (k:Nat):faceAt q k=faceAt p k:=
 faceAt_congr h.1 (fun j _=>by rw [<-List.getElem?_map, <-List.getElem?_map,h.2])
theorem SameP.top {p q:PartT} (h:SameP p q):faceAt q q.layers.length=faceAt p p.layers.length:=by rw [h.len];exact h.face _
theorem SameP.of {n:Nat} {p q:PartT} (h:Same n p q):SameP p q:=by
 refine⟨h.kind,List.ext_getElem (by simpa using h.len) (fun k h1 h2=>?_)⟩
 simp only [List.getElem_map]
 exact h.name k (by simpa using h2) (by simpa using h1)
theorem wrapOf_same {p q:PartT} {name:ByteArray} (h:SameP p q) (hp:PartOk p) (hq:PartOk q):SameP (wrapOf p name).1 (wrapOf q name).1/\(wrapOf q name).2=(wrapOf p name).2:=by
 cases hx:layerOf name with
 |none=>rw [wrapOf_none hx,wrapOf_none hx];exact⟨h,rfl⟩
 | some x=>
  by_cases h2:3<=p.layers.length
  ·rw [wrapOf_full hx hp h2,wrapOf_full hx hq (by rw [h.len];exact h2)];exact⟨h,rfl⟩
  have h2':¬3<=q.layers.length:=by rw [h.len];exact h2
  by_cases h3:Offer (faceAt p p.layers.length) x.1
  ·rw [wrapOf_done hx hp h2 h3,wrapOf_done hx hq h2' (by rw [h.top];exact h3)]
   exact⟨⟨h.1,by simp [h.2]⟩,rfl⟩
  ·rw [wrapOf_lacks hx hp h2 h3,wrapOf_lacks hx hq h2' (by rw [h.top];exact h3),h.top];exact⟨h,rfl⟩
theorem unwrapT_same {p q:PartT} (h:SameP p q) (hp:PartOk p) (hq:PartOk q):SameP (unwrapT p).1 (unwrapT q).1:=by
 unfold unwrapT
 by_cases h0:p.layers.length=0
 ·rw [if_pos (.inr h0),if_pos (.inr (by rw [h.len];exact h0))];exact h
 ·rw [if_neg (by intro hx;rcases hx with hx|hx;exact hx hp;exact h0 hx),if_neg (by intro hx;rcases hx with hx|hx;exact hx hq;exact h0 (by rw [<-h.len];exact hx))]
  exact⟨h.1,by simp only [List.map_take];rw [h.2,h.len]⟩
theorem keepT_code (p:CoreT) (x:CallT):(keepT p x).2.code≠1:=by
 unfold keepT
 split
 ·simp [repOf]
 split
 ·cases findC p.cells x.key<;>simp [repOf]
 split<;>simp [repOf]
theorem doesT_code (p:CoreT) (x:CallT):(doesT p x).2.code≠1:=by
 unfold doesT
 split
 ·simp [repOf]
 split
 ·split<;>simp [repOf]
 split
 ·split<;>simp [repOf]
 split
 ·exact keepT_code p x
 split
 ·simp [repOf]
 split
 ·simp [repOf]
 split
 ·simp
 split
 ·cases parseCells x.text<;>simp [repOf]
 ·simp [repOf]
theorem thr_code:∀(n:Nat) (p:PartT) (x:CallT),(thr n p x).2.code≠1
 |0,p,x=>by rw [thr];exact doesT_code _ _
 | n+1,p,x=>by
  rw [thr]
  split
  ·simp [repOf]
  split
  ·exact thr_code n p x
  split
  ·split
   ·exact thr_code n _ _
   ·exact thr_code n _ _
  split
  ·simp [repOf]
  split
  ·split
   ·exact thr_code n _ _
   ·split
    ·exact thr_code n _ _
    ·simp [repOf]
  split
  ·exact thr_code n _ _
  split
  ·split
   ·exact thr_code n p x
   ·exact thr_code n _ _
  ·exact thr_code n _ _
theorem callPartT_same1 {p:PartT} {x:CallT} (hp:PartOk p):SameP p (callPartT p x).1:=by
 rcases callPartT_cases p x hp with h|h|h
 ·rw [h.1];exact SameP.refl p
 ·rw [h.1];exact SameP.refl p
 ·rw [h.1];exact SameP.of (thr_ok _ _ _ ⟨hp,Nat.le_refl _,h.2.1,h.2.2⟩).2
/-- Two replies assert the same. -/
def SameR (r s:RepT):Prop:=(r.code=1/\s=r)∨(r.code≠1/\s.code≠1)
theorem callPartT_same {p q:PartT} {x:CallT} (h:SameP p q) (hp:PartOk p) (hq:PartOk q):SameP (callPartT p x).1 (callPartT q x).1/\SameR (callPartT p x).2 (callPartT q x).2:=by
 refine⟨((callPartT_same1 hp).symm.trans h).trans (callPartT_same1 hq),?_⟩
 rcases callPartT_cases p x hp with h1|h1|h1
 ·rcases callPartT_cases q x hq with h2|h2|h2
  ·rw [h1.2.1,h2.2.1];exact .inr ⟨by simp [repOf],by simp [repOf]⟩
  ·exact absurd h2.2.2.1 h1.2.2
  ·exact absurd h2.2.1 h1.2.2
 ·rcases callPartT_cases q x hq with h2|h2|h2
  ·exact absurd h1.2.2.1 h2.2.2
  ·rw [h1.2.1,h2.2.1,h.top];exact .inl ⟨rfl,rfl⟩
  ·rw [h.top] at h2;exact absurd h2.2.2 h1.2.2.2
 ·rcases callPartT_cases q x hq with h2|h2|h2
  ·exact absurd h1.2.1 h2.2.2
  ·rw [h.top] at h2;exact absurd h1.2.2 h2.2.2.2
  ·rw [h1.1,h2.1];exact .inr ⟨thr_code _ _ _,thr_code _ _ _⟩
theorem withT_same {a:ActionT} {p q:PartT} (h:SameP p q) (hp:PartOk p) (hq:PartOk q):SameP (withT a p).1 (withT a q).1/\SameR (withT a p).2 (withT a q).2:=by
 have n1:SameR (repOf 0 0 0 0) (repOf 0 0 0 0):=.inr ⟨by simp [repOf],by simp [repOf]⟩
 by_cases h3:a.op=3
 ·rw [withT_3 h3,withT_3 h3];exact⟨unwrapT_same h hp hq,n1⟩
 by_cases h2:a.op=2
 ·rw [withT_2 h2,withT_2 h2]
  have:=wrapOf_same (name:=a.word) h hp hq
  refine⟨this.1,?_⟩
  rw [this.2]
  by_cases hc:(wrapOf p a.word).2.code=1
  ·exact .inl ⟨hc,rfl⟩
  ·exact .inr ⟨hc,hc⟩
 by_cases h6:a.op=6
 ·rw [withT_6 h6,withT_6 h6,h.top]
  refine⟨h,?_⟩
  by_cases hc:Offer (faceAt p p.layers.length) a.face
  ·rw [if_pos hc];exact n1
  ·rw [if_neg hc];exact .inl ⟨rfl,rfl⟩
 by_cases h7:a.op=7
 ·rw [withT_7 h7,withT_7 h7];exact callPartT_same h hp hq
 rw [withT_0 h3 h2 h6 h7,withT_0 h3 h2 h6 h7]
 exact⟨h,n1⟩
def SameSh (s t:SlotT):Prop:=t.full=s.full/\SameP s.part t.part
def SameS (l m:List SlotT):Prop:=m.length=l.length/\∀(k:Nat) (h:k<l.length) (h':k<m.length),SameSh l[k] m[k]
theorem SameS.set {l m:List SlotT} {i:Nat} {x y:SlotT} (h:SameS l m) (hx:SameSh x y):SameS (l.set i x) (m.set i y):=by
 refine⟨by simpa using h.1,fun k h1 h2=>?_⟩
 rw [List.getElem_set,List.getElem_set]
 split
 ·exact hx
 ·exact h.2 k (by simpa using h1) (by simpa using h2)
theorem SameS.at_ {l m:List SlotT} {i:Int} (h:SameS l m) (hl:l.length=3) (hi:SlotNo i):SameSh (slotAt l i) (slotAt m i):=by
 obtain⟨h1,e1⟩:=slotAt_at hl hi
 obtain⟨h2,e2⟩:=slotAt_at (l:=m) (by rw [h.1];exact hl) hi
 rw [e1,e2];exact h.2 _ h1 h2
/-- Two runs that are alike. -/
def SameT (s t:RunT):Prop:=SlotsOk s.slots/\SlotsOk t.slots/\SameS s.slots t.slots/\t.taken=s.taken
theorem stepT_same {a:ActionT} {place:Int} {s t:RunT} (ha:ActOk a) (h:SameT s t):SameT (stepT a place s).1 (stepT a place t).1/\(stepT a place t).2=(stepT a place s).2:=by
 obtain⟨hs,ht,hst,hk⟩:=h
 have hSl:=hst.at_ hs.1 (actOk_slot ha)
 suffices hx:(SameS (stepT a place s).1.slots (stepT a place t).1.slots/\(stepT a place t).1.taken=(stepT a place s).1.taken)/\(stepT a place t).2=(stepT a place s).2 from⟨⟨stepT_ok ha hs,stepT_ok ha ht,hx.1⟩,hx.2⟩
 by_cases h1:a.op=1
 ·rw [stepT_1 h1,stepT_1 h1];exact⟨⟨hst.set ⟨rfl,SameP.refl _⟩,hk⟩,rfl⟩
 by_cases h5:a.op=5
 ·rw [stepT_5 h5,stepT_5 h5];exact⟨⟨hst.set ⟨rfl,SameP.refl _⟩,hk⟩,rfl⟩
 by_cases h4:a.op=4
 ·rw [stepT_4 h4,stepT_4 h4];exact⟨⟨hst.set (hst.at_ hs.1 ((actOk_4 h4).1 ha).2.1),hk⟩,rfl⟩
 by_cases hf:(slotAt s.slots a.slot).full=false
 ·rw [stepT_e h1 h5 h4 hf,stepT_e h1 h5 h4 (hSl.1.trans hf)];exact⟨⟨hst,hk⟩,rfl⟩
 have hf':¬(slotAt t.slots a.slot).full=false:=by rw [hSl.1];exact hf
 have hw:=withT_same (a:=a) hSl.2 ((slotAt_ok hs (actOk_slot ha)).1 (by simpa using hf)) ((slotAt_ok ht (actOk_slot ha)).1 (by simpa using hf'))
 rcases hw.2 with ⟨h6,h7⟩|⟨h6,h7⟩
 ·rw [stepT_f h1 h5 h4 hf h6,stepT_f h1 h5 h4 hf' (by rw [h7];exact h6),h7];exact⟨⟨hst.set ⟨rfl,hw.1⟩,hk⟩,rfl⟩
 ·rw [stepT_g h1 h5 h4 hf h6,stepT_g h1 h5 h4 hf' h7];exact⟨⟨hst.set ⟨rfl,hw.1⟩,hk⟩,rfl⟩
theorem loopN_same {f:RunT->RunT×EndT} (h:∀s t,SameT s t->SameT (f s).1 (f t).1/\(f t).2=(f s).2):∀n s t,SameT s t->SameT (loopN n f s).1 (loopN n f t).1/\(loopN n f t).2=(loopN n f s).2
 |0,s,t,hs=>by rw [loopN,loopN];exact⟨hs,rfl⟩
 | n+1,s,t,hs=>by
  have h1:=h s t hs
  rw [loopN,loopN,h1.2]
  by_cases hc:(f s).2.code=0
  ·simp only [hc,if_true]
   exact loopN_same h n _ _ h1.1
  ·simp only [hc,if_false]
   exact h1
theorem runL_same (input:List Int) (l:List ActionT):okL l->∀(place:Int) (s t:RunT),SameT s t->SameT (runL input l place s).1 (runL input l place t).1/\(runL input l place t).2=(runL input l place s).2:=by
 refine run_ind (PL:=fun l=>okL l->∀(place:Int) (s t:RunT),SameT s t->SameT (runL input l place s).1 (runL input l place t).1/\(runL input l place t).2=(runL input l place s).2) (PA:=fun a=>a.ok->∀(place:Int) (s t:RunT),SameT s t->SameT (a.run input place s).1 (a.run input place t).1/\(a.run input place t).2=(a.run input place s).2) (fun a hA hB hok place s t h=>?_) (fun _ place s t h=>?_) (fun a l ha hl hok place s t h=>?_) l
 ·obtain⟨h0,hoA,hoB⟩:=a.ok_iff.1 hok
  have hk:t.taken=s.taken:=h.2.2.2
  have h':SameT ⟨s.slots,s.taken+1⟩ ⟨t.slots,t.taken+1⟩:=⟨h.1,h.2.1,h.2.2.1,by simp only [hk]⟩
  rw [hk] at h'
  by_cases h8:a.op=8
  ·rw [run_8 h8,run_8 h8,hk]
   split
   ·exact hA hoA _ _ _ h'
   ·exact hB hoB _ _ _ h'
  by_cases h9:a.op=9
  ·rw [run_9 h9,run_9 h9,hk]
   exact loopN_same (fun u v huv=>hA hoA _ u v huv) _ _ _ h'
  by_cases h10:a.op=10
  ·have h1:=hA hoA (place+1) s t h
   rw [run_10 h10,run_10 h10,h1.2]
   by_cases hc:(runL input a.A (place+1) s).2.code=1
   ·simp only [hc,if_true]
    exact hB hoB _ _ _ h1.1
   ·simp only [hc,if_false]
    exact h1
  rw [run_s h8 h9 h10,run_s h8 h9 h10]
  exact stepT_same h0 h
 ·rw [runL,runL];exact⟨h,rfl⟩
 ·rw [okL] at hok
  have h1:=ha hok.1 place s t h
  rw [runL,runL,h1.2]
  by_cases hc:(a.run input place s).2.code=0
  ·simp only [hc,if_true]
   exact hl hok.2 _ _ _ h1.1
  ·simp only [hc,if_false]
   exact h1
mutual
/-- How many numbers an action takes at most. -/
def ActionT.cost:ActionT->Nat
 | .mk _ _ _ _ _ _ A B=>1+3 * costL A+costL B
def costL:List ActionT->Nat
 | []=>0
 |a::l=>a.cost+costL l
end
theorem ActionT.cost_eq (a:ActionT):a.cost=1+3 * costL a.A+costL a.B:=by
 cases a;rw [ActionT.cost];rfl
theorem costL_append:∀l m:List ActionT,costL (l++m)=costL l+costL m
 | [],m=>by simp [costL]
 |a::l,m=>by rw [List.cons_append,costL,costL_append l m,costL];omega
theorem costL_take (l:List ActionT) (k:Nat) (h:k<l.length):costL (l.take (k+1))=costL (l.take k)+l[k].cost:=by
 rw [List.take_succ_eq_append_getElem h,costL_append];simp [costL]
theorem costL_take_le (l:List ActionT) (k:Nat):costL (l.take k)<=costL l:=by
 have:=costL_append (l.take k) (l.drop k)
 rw [List.take_append_drop] at this
 omega
theorem depthL_cons (a:ActionT) (l:List ActionT):a.depth<=depthL (a::l)/\depthL l<=depthL (a::l):=by
 rw [depthL];omega
theorem costL_le (l:List ActionT):costL l<=sizeL l * 3 ^ depthL l:=by
 refine run_ind (PL:=fun l=>costL l<=sizeL l * 3 ^ depthL l) (PA:=fun a=>a.cost<=a.size * 3 ^ a.depth) (fun a hA hB=>?_) (by simp [costL]) (fun a l ha hl=>?_) l
 ·rw [a.cost_eq,a.size_eq,a.depth_eq]
  have h1:3 ^ depthL a.A<=3 ^ max (depthL a.A) (depthL a.B):=Nat.pow_le_pow_right (by omega) (Nat.le_max_left _ _)
  have h2:3 ^ depthL a.B<=3 ^ max (depthL a.A) (depthL a.B):=Nat.pow_le_pow_right (by omega) (Nat.le_max_right _ _)
  have h3:1<=3 ^ max (depthL a.A) (depthL a.B):=Nat.one_le_pow _ _ (by omega)
  rw [show 1+max (depthL a.A) (depthL a.B)=max (depthL a.A) (depthL a.B)+1 by omega,Nat.pow_succ]
  have h4:costL a.A<=sizeL a.A * 3 ^ max (depthL a.A) (depthL a.B):=Nat.le_trans hA (Nat.mul_le_mul_left _ h1)
  have h5:costL a.B<=sizeL a.B * 3 ^ max (depthL a.A) (depthL a.B):=Nat.le_trans hB (Nat.mul_le_mul_left _ h2)
  generalize 3 ^ max (depthL a.A) (depthL a.B)=M at *
  have e:(1+sizeL a.A+sizeL a.B) * (M * 3)=3 * M+3 * (sizeL a.A * M)+3 * (sizeL a.B * M):=by
   rw [Nat.add_mul,Nat.add_mul,Nat.one_mul,Nat.mul_comm M 3,Nat.mul_left_comm,Nat.mul_left_comm (sizeL a.B)]
  omega
 ·rw [costL,sizeL]
  have hd:=depthL_cons a l
  have h1:a.cost<=a.size * 3 ^ depthL (a::l):=Nat.le_trans ha (Nat.mul_le_mul_left _ (Nat.pow_le_pow_right (by omega) hd.1))
  have h2:costL l<=sizeL l * 3 ^ depthL (a::l):=Nat.le_trans hl (Nat.mul_le_mul_left _ (Nat.pow_le_pow_right (by omega) hd.2))
  rw [Nat.add_mul]
  omega
theorem plan_cost {l:List ActionT} (h:PlanOk l):costL l<=378:=by
 have h1:=costL_le l
 have h2:3 ^ depthL l<=3 ^ 3:=Nat.pow_le_pow_right (by omega) h.2.1
 have h3:sizeL l * 3 ^ depthL l<=14 * 3 ^ 3:=Nat.mul_le_mul h.1 h2
 omega
theorem takeN_le (input:List Int) (t:Int):0<=takeN input t/\takeN input t<=3:=by
 unfold takeN
 split
 ·omega
 ·omega
theorem loopN_taken {f:RunT->RunT×EndT} {c:Int} (hc:0<=c) (h:∀s:RunT,s.taken<=(f s).1.taken/\(f s).1.taken<=s.taken+c):∀(n:Nat) (s:RunT),s.taken<=(loopN n f s).1.taken/\(loopN n f s).1.taken<=s.taken+n * c
 |0,s=>by rw [loopN];simp
 | n+1,s=>by
  have h1:=h s
  rw [loopN]
  have e:((n+1:Nat):Int) * c=n * c+c:=by rw [Int.natCast_add,Int.add_mul];simp
  rw [e]
  have h0:0<=(n:Int) * c:=Int.mul_nonneg (by omega) hc
  split
  ·have h2:=loopN_taken hc h n (f s).1
   omega
  ·omega
theorem runL_taken (input:List Int) (l:List ActionT):∀(place:Int) (s:RunT),s.taken<=(runL input l place s).1.taken/\(runL input l place s).1.taken<=s.taken+costL l:=by
 refine run_ind (PL:=fun l=>∀(place:Int) (s:RunT),s.taken<=(runL input l place s).1.taken/\(runL input l place s).1.taken<=s.taken+costL l) (PA:=fun a=>∀(place:Int) (s:RunT),s.taken<=(a.run input place s).1.taken/\(a.run input place s).1.taken<=s.taken+a.cost)
  (fun a hA hB place s=>?_) (fun place s=>by rw [runL];simp [costL]) (fun a l ha hl place s=>?_) l
 ·have ec:=a.cost_eq
  by_cases h8:a.op=8
  ·rw [run_8 h8]
   split
   ·have:=hA (place+1) ⟨s.slots,s.taken+1⟩;simp only at this;omega
   ·have:=hB (place+1+sizeL a.A) ⟨s.slots,s.taken+1⟩;simp only at this;omega
  by_cases h9:a.op=9
  ·rw [run_9 h9]
   have h1:=loopN_taken (c:=(costL a.A:Int)) (by omega) (fun s=>hA (place+1) s) (takeN input s.taken).toNat ⟨s.slots,s.taken+1⟩
   have h2:=takeN_le input s.taken
   have h3:((takeN input s.taken).toNat:Int) * (costL a.A:Int)<=3 * (costL a.A:Int):=Int.mul_le_mul_of_nonneg_right (by omega) (by omega)
   simp only at h1
   omega
  by_cases h10:a.op=10
  ·rw [run_10 h10]
   have h1:=hA (place+1) s
   split
   ·have:=hB (place+1+sizeL a.A) (runL input a.A (place+1) s).1;omega
   ·omega
  rw [run_s h8 h9 h10]
  have:=(stepT_more a place 0 s).2
  omega
 ·have h1:=ha place s
  rw [runL,costL]
  split
  ·have:=hl (place+a.size) (a.run input place s).1;omega
  ·omega
theorem run_ok (input:List Int) (a:ActionT) (ha:a.ok) (place:Int) (s:RunT) (hs:SlotsOk s.slots):SlotsOk (a.run input place s).1.slots:=by
 have h:=runL_ok input [a] (by rw [okL,okL];exact⟨ha,trivial⟩) place s hs
 rw [runL] at h
 by_cases hc:(a.run input place s).2.code=0
 ·rw [if_pos hc,runL] at h;exact h
 ·rw [if_neg hc] at h;exact h
theorem run_okEnd (input:List Int) (a:ActionT) (place:Int) (s:RunT) (hc:(a.run input place s).2.code=0):(a.run input place s).2=okEnd:=by
 have h:=runL_okEnd input [a] place s
 rw [runL,if_pos hc,runL] at h
 have e:=a.run_eq input place s
 by_cases h8:a.op=8
 ·rw [run_8 h8] at hc ⊢;split<;>(rename_i hx;simp only [hx,if_true,if_false] at hc;exact runL_okEnd _ _ _ _ hc)
 by_cases h9:a.op=9
 ·rw [run_9 h9] at hc ⊢;exact loopN_okEnd _ _ hc
 by_cases h10:a.op=10
 ·rw [run_10 h10] at hc ⊢;split<;>(rename_i hx;simp only [hx,if_true,if_false] at hc;exact runL_okEnd _ _ _ _ hc)
 rw [run_s h8 h9 h10] at hc ⊢
 exact stepT_okEnd a place s hc
/-- The first actions, and one more. -/
theorem runL_more1 (input:List Int) (l:List ActionT) (k:Nat) (hk:k<l.length) (place:Int) (s:RunT) (hc:(runL input (l.take k) place s).2.code=0):
  runL input (l.take (k+1)) place s=l[k].run input (place+sizeL (l.take k)) (runL input (l.take k) place s).1:=by
 rw [List.take_succ_eq_append_getElem hk,runL_append,if_pos hc,runL]
 by_cases h:(l[k].run input (place+sizeL (l.take k)) (runL input (l.take k) place s).1).2.code=0
 ·rw [if_pos h,runL]
  exact Prod.ext rfl (run_okEnd _ _ _ _ h).symm
 ·rw [if_neg h]
theorem runL_stop (input:List Int) (l:List ActionT) (k:Nat) (place:Int) (s:RunT) (hc:¬(runL input (l.take k) place s).2.code=0):runL input l place s=runL input (l.take k) place s:=by
 have h:=runL_append input (l.take k) (l.drop k) place s
 rw [List.take_append_drop,if_neg hc] at h
 exact h
end Go.Proofs.YtdlkbomojjmnlaaGreatDoor
