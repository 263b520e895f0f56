/- Maps that the call has made. Conditions: as stated. -/
import Derived.Test.YtfjhdnjlhjimeaaGreatDoorRunsP
import Derived.Maps.RangeWalk
import Derived.DeepKeys4
set_option maxRecDepth 100000
set_option maxHeartbeats 4000000
namespace Go.Proofs.YtfjhdnjlhjimeaaGreatDoor
open Go.RowKit
open Go.ChangeMaps (setBlock)
open Go.MapKept (Stamped stamped_iff stamped_empty stamped_push stamped_modify)

structure qO (P:Program) (k:TypeId) (KC:Value->Prop) (G:World->Prop):Prop where
 check:∀ {w:World},G w->∀(em:Bool) {v:Value},KC v->(Instr.checkKey em 10000 k v).run P w= .ok () w
 find:∀ {w:World},G w->∀ {x:Value},KC x->∀es:List MapEntry,(∀e∈es,KC e.key)->
  ((Instr.findKey k x es).run P w= .ok none w/\∀e∈es,e.key≠x)∨∃j e,(Instr.findKey k x es).run P w= .ok (some (j,e.val)) w/\es[j]?=some e/\e.key=x
 stays:∀ {w:World},G w->∀ {v:Value},KC v->(Instr.keyThatStays v v).run P w= .ok v w
theorem qO.of_keyed {P:Program} {k:TypeId} (K:Maps.Keyed P k) {KC:Value->Prop} {G:World->Prop} (h:∀v,KC v->∃l,keyOf P k v=some l):qO P k KC G where
 check {w} _ em v hv:=(h v hv).elim fun _ hl=>K.check w em hl
 find {w} _ x hx es hes:=(h x hx).elim fun _ hl=>K.find w hl es (fun e he=>h _ (hes e he))
 stays {w} _ v hv:=(h v hv).elim fun _ hl=>K.stays w hl
theorem xe {P:Program} {k:TypeId} {KC:Value->Prop} {w:World} (heq:∀ {x y:Value},KC x->KC y->∃b,(Op.equal k x y).run P w= .ok b w/\(b=true↔x=y)) {x:Value} (hx:KC x):
  ∀(es:List MapEntry) (i:Nat),(∀e∈es,KC e.key)->((Instr.findAsking k x es i).run P w= .ok none w/\∀e∈es,e.key≠x)∨∃j e,(Instr.findAsking k x es i).run P w= .ok (some (i+j,e.val)) w/\es[j]?=some e/\e.key=x
 | [],i,_=>.inl ⟨by simp [Instr.findAsking],by simp⟩
 | e::es,i,h=>by
  obtain⟨b,hb,hiff⟩:=heq hx (h e K0)
  cases b with
  |true=>
   exact .inr ⟨0,e,by simp [Instr.findAsking,hb,Result.andThen],rfl,(hiff.1 rfl).symm⟩
  | false=>
   have hne:e.key≠x:=fun h1=>by have:=hiff.2 h1.symm;cases this
   rcases xe heq hx es (i+1) (fun y hy=>h y (I5 _ hy)) with ⟨h1,h2⟩|⟨j,y,h1,h2,h3⟩
   ·refine .inl ⟨by simp [Instr.findAsking,hb,Result.andThen,h1],fun y hy=>?_⟩
    rcases C7.1 hy with rfl|hy
    ·exact hne
    ·exact h2 y hy
   ·refine .inr ⟨j+1,y,?_,by simpa using h2,h3⟩
    have e1:i+1+j=i+(j+1):=by omega
    rw [e1] at h1
    simp [Instr.findAsking,hb,Result.andThen,h1]

def kv (e:MapEntry):Value×Value:=(e.key,e.val)
def ZH (w:World) (KC:Value->Prop) (b:Nat) (E:List (Value×Value)):Prop:=
 ∃es clock,w.heap[b]?=some (.map es clock)/\Stamped es clock/\(∀e∈es.toList,KC e.key)/\es.toList.map kv=E
section
variable {P:Program} {k t e:TypeId} {KC:Value->Prop} {G:World->Prop} {w w':World} {b r:Nat} {E L:List (Value×Value)}
theorem ZH.lt (h:ZH w KC b E):b<w.heap.size:=by
 obtain⟨es,clock,hb,_⟩:=h
 exact(F5.1 hb).1
theorem ZH.chg {S:List Nat} (h:ZH w KC b E) (hc:Qc S w w') (hS:b∉S):ZH w' KC b E:=by
 have hlt:=h.lt
 obtain⟨es,clock,hb,h1⟩:=h
 exact⟨es,clock,(hc.block b hlt hS).trans hb,h1⟩
theorem ZH.made (w:World) (KC:Value->Prop):ZH (w.alloc (.map #[] 0)) KC w.heap.size []:=⟨#[],0,(MapKept.heap_alloc w _).1,stamped_empty 0,by simp,rfl⟩
theorem ZH.keys (h:ZH w KC b E):∀p∈E,KC p.1:=by
 obtain⟨es,clock,_,_,hk,rfl⟩:=h
 intro p hp
 obtain⟨x,hx,rfl⟩:=L7.1 hp
 exact hk x hx
theorem ZH.apart (h:ZH w KC b E):E.Pairwise (fun p q=>p.1≠q.1):=by
 obtain⟨es,clock,_,hs,_,rfl⟩:=h
 rw [List.pairwise_map]
 exact((stamped_iff es clock).1 hs).2.2
theorem ux:∀ {E:List (Value×Value)},E.Pairwise (fun p q=>p.1≠q.1)->∀ {x u v:Value},(x,u)∈E->(x,v)∈E->u=v
 | [],_,_,_,_,h,_=>by cases h
 | p::E,hp,x,u,v,hu,hv=>by
  obtain⟨h1,h2⟩:=V1.1 hp
  rcases C7.1 hu with rfl|hu'
  ·rcases C7.1 hv with h|hv'
   ·injection h with _ h;exact h.symm
   ·exact(h1 (x,v) hv' rfl).elim
  ·rcases C7.1 hv with rfl|hv'
   ·exact(h1 (x,u) hu' rfl).elim
   ·exact ux h2 hu' hv'
theorem ZH.look (h:ZH w KC b E) (K:qO P k KC G) (hG:G w) (ht:P.underlying t=some (.map k e)) {z:Value} (hz:(zeroValue e).run P w= .ok z w) {key:Value} (hk:KC key) (c:Bool):
  (∃v,(key,v)∈E/\(Instr.lookup t (.map (some b)) key c).run P w= .ok (if c then .tuple #[v,.bool true] else v) w)∨
  ((∀p∈E,p.1≠key)/\(Instr.lookup t (.map (some b)) key c).run P w= .ok (if c then .tuple #[z,.bool false] else z) w):=by
 obtain⟨es,clock,hb,hs,hks,rfl⟩:=h
 rcases K.find hG hk es.toList hks with ⟨h1,h2⟩|⟨j,x,h1,h2,h3⟩
 ·refine .inr ⟨fun p hp=>?_,?_⟩
  ·obtain⟨x,hx,rfl⟩:=L7.1 hp
   exact h2 x hx
  ·cases c<;>simp [Instr.lookup,run_underlying ht,MapKept.run_getObj_map hb,K.check hG _ hk,h1,hz,Result.andThen]
 ·refine .inl ⟨x.val,L7.2 ⟨x,U0 h2,by rw [<-h3];rfl⟩,?_⟩
  cases c<;>simp [Instr.lookup,run_underlying ht,MapKept.run_getObj_map hb,K.check hG _ hk,h1,Result.andThen]
theorem Jj {w:World} {b:Nat} (o:Obj):Qc [b] w (setBlock w b o):=
 ⟨rfl,rfl,rfl,by simp [setBlock],fun i _ hi=>by
  show(w.heap.setIfInBounds b o)[i]?=_
  rw [Array.getElem?_setIfInBounds_ne (fun e=>hi (by simp [e]))]⟩
theorem KM (w:World) (b:Nat) (o:Obj):(setBlock w b o).heap.size=w.heap.size:=by simp [setBlock]
theorem ZH.store (h:ZH w KC b E) (K:qO P k KC G) (hG:G w) (ht:P.underlying t=some (.map k e)) {key val:Value} (hk:KC key):
  ∃w' E',(Instr.mapUpdate t (.map (some b)) key val).run P w= .ok () w'/\ZH w' KC b E'/\Qc [b] w w'/\w'.heap.size=w.heap.size/\∀p,p∈E'↔(p∈E/\p.1≠key)∨p=(key,val):=by
 obtain⟨es,clock,hb,hs,hks,rfl⟩:=h
 rcases K.find hG hk es.toList hks with ⟨h1,h2⟩|⟨j,x,h1,h2,h3⟩
 ·refine⟨setBlock w b (.map (es.push ⟨key,val,clock⟩) (clock+1)),_,?_,⟨_,_,ChangeMaps.heap_setBlock_same hb _,stamped_push hs h2,?_,rfl⟩,Jj _,KM _ _ _,fun p=>?_⟩
  ·simp [Instr.mapUpdate,run_underlying ht,MapKept.run_getObj_map hb,K.check hG false hk,h1,MapKept.run_setObj_map _ hb,Result.andThen,setBlock]
  ·intro y hy
   simp only [Array.toList_push,F4,E0] at hy
   rcases hy with hy|rfl
   ·exact hks y hy
   ·exact hk
  ·simp only [Array.toList_push,J2,F4,I9,O2,E0,kv]
   constructor
   ·rintro(h|h)
    ·obtain⟨y,hy,rfl⟩:=L7.1 h
     exact .inl ⟨h,h2 y hy⟩
    ·exact .inr h
   ·rintro(h|h)
    ·exact .inl h.1
    ·exact .inr h
 ·have hj:es[j]?=some x:=by simpa using h2
  have hkeyf:∀y,es[j]?=some y->({y with key:=key,val:=val}:MapEntry).key=y.key:=fun y hy=>by rw [hj] at hy;cases hy;exact h3.symm
  have hlist:(es.modify j (fun y=>{y with key:=key,val:=val})).toList=es.toList.set j {x with key:=key,val:=val}:=by rw [Array.toList_modify,ChangeMaps.modify_eq_set _ _ _ _ h2]
  have hap:=((stamped_iff es clock).1 hs).2.2
  have hjl:j<es.toList.length:=(N9.1 h2).1
  have who:∀y,y∈es.toList.set j {x with key:=key,val:=val}↔y={x with key:=key,val:=val}∨(y∈es.toList/\y.key≠key):=by
   intro y
   rw [List.mem_iff_getElem?]
   constructor
   ·rintro⟨i,hi⟩
    rw [O8] at hi
    by_cases hij:j=i
    ·rw [if_pos hij,if_pos (by omega)] at hi
     exact .inl (M1 hi).symm
    ·rw [if_neg hij] at hi
     refine .inr ⟨U0 hi,fun hyk=>?_⟩
     have hil:=(N9.1 hi)
     have hjx:=(N9.1 h2)
     rcases Nat.lt_or_gt_of_ne hij with hlt|hlt
     ·exact(U9.1 hap j i hjl hil.1 hlt) (by rw [hjx.2,hil.2,h3,hyk])
     ·exact(U9.1 hap i j hil.1 hjl hlt) (by rw [hjx.2,hil.2,h3,hyk])
   ·rintro(rfl|⟨hy,hne⟩)
    ·exact⟨j,by rw [O8,if_pos rfl,if_pos (by omega)]⟩
    ·obtain⟨i,hi⟩:=List.mem_iff_getElem?.1 hy
     refine⟨i,?_⟩
     rw [O8,if_neg]
     ·exact hi
     ·rintro rfl
      rw [h2] at hi
      cases hi
      exact hne h3
  refine⟨setBlock w b (.map (es.modify j (fun y=>{y with key:=key,val:=val})) clock),_,?_,⟨_,_,ChangeMaps.heap_setBlock_same hb _,stamped_modify hs _ _ (fun _ _=>rfl) (fun y _ hy=>hkeyf y hy),?_,rfl⟩,Jj _,KM _ _ _,fun p=>?_⟩
  ·simp [Instr.mapUpdate,run_underlying ht,MapKept.run_getObj_map hb,K.check hG false hk,h1,hj,h3,K.stays hG hk,MapKept.run_setObj_map _ hb,Result.andThen,setBlock]
  ·intro y hy
   rw [hlist] at hy
   rcases(who y).1 hy with rfl|⟨hy',_⟩
   ·exact hk
   ·exact hks y hy'
  ·rw [hlist,L7]
   constructor
   ·rintro⟨y,hy,rfl⟩
    rcases(who y).1 hy with rfl|⟨hy',hne⟩
    ·exact .inr rfl
    ·exact .inl ⟨L7.2 ⟨y,hy',rfl⟩,hne⟩
   ·rintro(⟨hp,hne⟩|rfl)
    ·obtain⟨y,hy,rfl⟩:=L7.1 hp
     exact⟨y,(who y).2 (.inr ⟨hy,hne⟩),rfl⟩
    ·exact⟨_,(who _).2 (.inl rfl),rfl⟩

def Gp (w:World) (b r:Nat) (E L:List (Value×Value)):Prop:=
 ∃es clock since seen c0,w.heap[b]?=some (.map es clock)/\w.heap[r]?=some (.mapIter (some b) since seen c0)/\Stamped es clock/\(∀x∈es.toList,x.born<since)/\since<=c0/\since<=clock/\
  es.toList.map kv=E/\(leftOf es seen).toList.map kv=L
theorem Gp.chg {S:List Nat} (h:Gp w b r E L) (hc:Qc S w w') (hb:b∉S) (hr:r∉S):Gp w' b r E L:=by
 obtain⟨es,clock,since,seen,c0,h1,h2,h3⟩:=h
 exact⟨es,clock,since,seen,c0,(hc.block b (F5.1 h1).1 hb).trans h1,(hc.block r (F5.1 h2).1 hr).trans h2,h3⟩
theorem Gp.lt (h:Gp w b r E L):b<w.heap.size/\r<w.heap.size:=by
 obtain⟨es,clock,since,seen,c0,h1,h2,_⟩:=h
 exact⟨(F5.1 h1).1,(F5.1 h2).1⟩
theorem ZH.range (h:ZH w KC b E) (ht:P.underlying t=some (.map k e)):
  ∃w',(Instr.range t (.map (some b))).run P w= .ok (.pointer (some ⟨w.heap.size,0,none⟩)) w'/\Gp w' b w.heap.size E E/\Qc [] w w'/\w'.heap.size=w.heap.size+1:=by
 have hlt:=h.lt
 obtain⟨es,clock,hb,hs,hks,rfl⟩:=h
 refine⟨_,run_range_map w t k e b es clock ht hb,⟨es,clock,clock, #[],clock,?_,(MapKept.heap_alloc w _).1,hs,((stamped_iff es clock).1 hs).1,F0 _,F0 _,rfl,?_⟩,(B0 _ _).alloc _,by simp⟩
 ·exact(((B0 [] w).alloc _).block b hlt (by simp)).trans hb
 ·have e1:(leftOf es #[]).toList=es.toList:=by
   unfold leftOf
   rw [Array.toList_filter]
   exact List.filter_eq_self.2 (by simp)
  rw [e1]
theorem uI (x:MapEntry):∀(l:List MapEntry),(l.map (·.born)).Nodup->x∈l->l.Perm (x::l.filter (fun y=>!(y.born==x.born)))
 | [],_,h=>by cases h
 | y::l,hn,h=>by
  obtain⟨h1,h2⟩:=U6.1 (by simpa using hn:(y.born::l.map (·.born)).Nodup)
  rcases C7.1 h with rfl|h'
  ·have e1:(x::l).filter (fun y=>!(y.born==x.born))=l:=by
    rw [List.filter_cons,if_neg (by simp)]
    refine List.filter_eq_self.2 (fun z hz=>?_)
    simp only [Bool.not_eq_true',beq_eq_false_iff_ne]
    intro e1
    exact h1 (L7.2 ⟨z,hz,e1⟩)
   rw [e1]
  ·have e1:(y::l).filter (fun z=>!(z.born==x.born))=y::l.filter (fun z=>!(z.born==x.born)):=by
    rw [List.filter_cons,if_pos]
    simp only [Bool.not_eq_true',beq_eq_false_iff_ne]
    intro e1
    exact h1 (L7.2 ⟨x,h',e1.symm⟩)
   rw [e1]
   exact((uI x l h2 h').cons y).trans (List.Perm.swap x y _)
theorem Gp.next (h:Gp w b r E L) (hbr:b≠r) (ty:TypeId):
  (L=[] /\(Instr.next (.pointer (some ⟨r,0,none⟩)) false ty).run P w= .ok (.tuple #[.bool false]) w)∨
  ∃p L' w',L.Perm (p::L')/\p∈E/\(Instr.next (.pointer (some ⟨r,0,none⟩)) false ty).run P w= .ok (.tuple #[.bool true,p.1,p.2]) w'/\Gp w' b r E L'/\Qc [r] w w'/\w'.heap.size=w.heap.size/\
   (Instr.entry (.pointer (some ⟨r,0,none⟩))).run P w'= .ok (.tuple #[p.1,p.2]) w':=by
 obtain⟨es,clock,since,seen,c0,hb,hr,hs,hold,hsc,hsk,rfl,rfl⟩:=h
 have hn:=((stamped_iff es clock).1 hs).2.1
 rcases run_next_at (P:=P) w ty r b since c0 seen es clock hr hb hold hsc with ⟨h0,hrun⟩|⟨x,hx,w1,hw1,hrun⟩
 ·exact .inl ⟨by rw [Array.eq_empty_of_size_eq_zero h0];rfl,hrun⟩
 ·have hxe:x∈es.toList:=(mem_left hx).1
  have hr1:w1.heap[r]?=some (.mapIter (some b) since seen c0):=by rcases hw1 with rfl|rfl<;>exact hr
  have hb1:w1.heap[b]?=some (.map es clock):=by rcases hw1 with rfl|rfl<;>exact hb
  have hc1:Qc [r] w w1:=by
   rcases hw1 with rfl|rfl
   ·exact B0 _ _
   ·exact(B0 _ _).drew
  have hz1:w1.heap.size=w.heap.size:=by rcases hw1 with rfl|rfl<;>rfl
  have hc2:Qc [r] w1 (setBlock w1 r (.mapIter (some b) since (seen.push x.born) clock)):=Jj _
  have hb2:=(hc2.block b (F5.1 hb1).1 (by simpa using hbr)).trans hb1
  have hr2:(setBlock w1 r (.mapIter (some b) since (seen.push x.born) clock)).heap[r]?=some (.mapIter (some b) since (seen.push x.born) clock):=by
   show(w1.heap.setIfInBounds r _)[r]?=_
   rw [Array.getElem?_setIfInBounds_self_of_lt (F5.1 hr1).1]
  refine .inr ⟨kv x,(leftOf es (seen.push x.born)).toList.map kv,_,?_,L7.2 ⟨x,hxe,rfl⟩,hrun,⟨es,clock,since,_,clock,hb2,hr2,hs,hold,hsk,hsk,rfl,rfl⟩,hc1.trans hc2 (fun _ h=>.inl h),by rw [KM,hz1],
   run_entry_at _ r b since seen es clock x hr2 hb2 hxe hn⟩
  have e1:(leftOf es (seen.push x.born)).toList=(leftOf es seen).toList.filter (fun y=>!(y.born==x.born)):=by
   unfold leftOf
   rw [Array.toList_filter,Array.toList_filter,List.filter_filter]
   refine List.filter_congr (fun y _=>?_)
   rw [contains_push]
   cases seen.contains y.born<;>simp
  rw [e1]
  have hp:=uI x (leftOf es seen).toList (by
   unfold leftOf
   rw [Array.toList_filter]
   exact hn.sublist ((List.filter_sublist).map _)) hx
  exact hp.map kv
end

section
variable {P:Program} {w:World} {ops:Array Oper} {rest:List Oper} {o:Oper} {a:Act} {Q:Exit->Act->World->Prop} {KC:Value->Prop} {G:World->Prop} {k e:TypeId} {b r:Nat} {E L:List (Value×Value)}
theorem JZ (hg:o.guard=none) (m x:Operand) (t:TypeId) (c:Bool) (hop:o.op=Op.lookup t m x c) (K:qO P k KC G) (hG:G w) (ht:P.underlying t=some (.map k e)) {z:Value} (hz:(zeroValue e).run P w= .ok z w)
  (hm:a.eval m= .map (some b)) (h:ZH w KC b E) {key:Value} (hx:a.eval x=key) (hk:KC key)
  (hIs:∀v,(key,v)∈E->wpList P ops Q rest (a.put o.dst (if c then .tuple #[v,.bool true] else v)) w)
  (hNo:(∀p∈E,p.1≠key)->wpList P ops Q rest (a.put o.dst (if c then .tuple #[z,.bool false] else z)) w):
  wpList P ops Q (o::rest) a w:=by
 refine wpList_plain hg fun K' hK'=>?_
 unfold Oper.wp
 rcases h.look K hG ht hz hk c with ⟨v,hv,hrun⟩|⟨hn,hrun⟩
 ·simp [execOp,hop,hm,hx,hrun,Result.andThen]
  exact hK' _ _ (hIs v hv)
 ·simp [execOp,hop,hm,hx,hrun,Result.andThen]
  exact hK' _ _ (hNo hn)
theorem YE (hg:o.guard=none) (m x v:Operand) (t:TypeId) (hop:o.op=Op.mapUpdate t m x v) (K:qO P k KC G) (hG:G w) (ht:P.underlying t=some (.map k e))
  (hm:a.eval m= .map (some b)) (h:ZH w KC b E) {key val:Value} (hx:a.eval x=key) (hv:a.eval v=val) (hk:KC key)
  (hK:∀w' E',ZH w' KC b E'->Qc [b] w w'->w'.heap.size=w.heap.size->(∀p,p∈E'↔(p∈E/\p.1≠key)∨p=(key,val))->wpList P ops Q rest (a.put o.dst undef) w'):
  wpList P ops Q (o::rest) a w:=by
 refine wpList_plain hg fun K' hK'=>?_
 unfold Oper.wp
 obtain⟨w',E',hrun,h1,h2,h3,h4⟩:=h.store (val:=val) K hG ht hk
 simp [execOp,hop,hm,hx,hv,hrun,Result.andThen]
 exact hK' _ _ (hK w' E' h1 h2 h3 h4)
theorem Qcg (hg:o.guard=none) (m:Operand) (t:TypeId) (hop:o.op=Op.range t m) (ht:P.underlying t=some (.map k e)) (hm:a.eval m= .map (some b)) (h:ZH w KC b E)
  (hK:∀w',Gp w' b w.heap.size E E->Qc [] w w'->w'.heap.size=w.heap.size+1->wpList P ops Q rest (a.put o.dst (.pointer (some ⟨w.heap.size,0,none⟩))) w'):
  wpList P ops Q (o::rest) a w:=by
 refine wpList_plain hg fun K' hK'=>?_
 unfold Oper.wp
 obtain⟨w',hrun,h1,h2,h3⟩:=h.range (P:=P) ht
 simp [execOp,hop,hm,hrun,Result.andThen]
 exact hK' _ _ (hK w' h1 h2 h3)
theorem QbR (hg:o.guard=none) (it:Operand) (hop:o.op=Op.next it false) (hit:a.eval it= .pointer (some ⟨r,0,none⟩)) (h:Gp w b r E L) (hbr:b≠r)
  (hDone:L=[] ->wpList P ops Q rest (a.put o.dst (.tuple #[.bool false])) w)
  (hMore:∀x v L' w',L.Perm ((x,v)::L')->(x,v)∈E->Gp w' b r E L'->Qc [r] w w'->w'.heap.size=w.heap.size->(Instr.entry (.pointer (some ⟨r,0,none⟩))).run P w'= .ok (.tuple #[x,v]) w'->
   wpList P ops Q rest (a.put o.dst (.tuple #[.bool true,x,v])) w'):
  wpList P ops Q (o::rest) a w:=by
 refine wpList_plain hg fun K' hK'=>?_
 unfold Oper.wp
 rcases h.next (P:=P) hbr o.type with ⟨h0,hrun⟩|⟨⟨x,v⟩,L',w',hp,he,hrun,h1,h2,h3,h4⟩
 ·simp [execOp,hop,hit,hrun,Result.andThen]
  exact hK' _ _ (hDone h0)
 ·simp [execOp,hop,hit,hrun,Result.andThen]
  exact hK' _ _ (hMore x v L' w' hp he h1 h2 h3 h4)
end
end Go.Proofs.YtfjhdnjlhjimeaaGreatDoor
namespace Go.Proofs.YtfjhdnjlhjimeaaGreatDoor
open Go.RowKit

def Zn (w:World) (i:List Int) (v:Value):Prop:=∃A cap,v= .slice A i.length cap/\i.length<=cap/\cap<=maxLen/\
 (i=[] ∨∃b off cs fr,A=some ⟨b,off,none⟩/\w.heap[b]?=some (.cells cs 3 fr)/\∀(j:Nat) (h:j<i.length),w.cell? ⟨b,off+j,none⟩=some (.int .i64 i[j]))
def Qm (w:World) (S:List Nat):Prop:=∀x∈S,∀cs fr,w.heap[x]?≠some (.cells cs 3 fr)
theorem Qm.nil {w:World}:Qm w []:=fun x hx=>by cases hx
theorem Qm.cons {w:World} {x:Nat} {S:List Nat} (h:∀cs fr,w.heap[x]?≠some (.cells cs 3 fr)) (hS:Qm w S):Qm w (x::S):=fun y hy=>by
 rcases C7.1 hy with rfl|hy
 ·exact h
 ·exact hS y hy
theorem ZH.nz {w:World} {KC:Value->Prop} {b:Nat} {E:List (Value×Value)} (h:ZH w KC b E):∀cs fr,w.heap[b]?≠some (.cells cs 3 fr):=fun cs fr h1=>by
 obtain⟨es,clock,hb,_⟩:=h
 rw [hb] at h1
 cases h1
theorem Zn.keep {w w':World} {i:List Int} {v:Value} {S:List Nat} (h:Zn w i v) (hc:Qc S w w') (hS:Qm w S):Zn w' i v:=by
 obtain⟨A,cap,rfl,h1,h2,h3⟩:=h
 refine⟨A,cap,rfl,h1,h2,?_⟩
 rcases h3 with h3|⟨b,off,cs,fr,rfl,hb,h3⟩
 ·exact .inl h3
 ·have hlt:b<w.heap.size:=(F5.1 hb).1
  have hn:b∉S:=fun hx=>hS b hx cs fr hb
  exact .inr ⟨b,off,cs,fr,rfl,(hc.block b hlt hn).trans hb,fun j hj=>(hc.cell (p:=⟨b,off+j,none⟩) hlt hn).trans (h3 j hj)⟩
theorem Zn.nil (w:World) {cap:Nat} (A:Option Addr) (hc:cap<=maxLen):Zn w [] (.slice A 0 cap):=⟨A,cap,rfl,I3 _,hc,.inl rfl⟩
theorem Zn.rd {w:World} {i:List Int} {v:Value} (h:Zn w i v):Rd w w.heap.size (xE i) v:=by
 obtain⟨A,cap,rfl,h1,h2,h3⟩:=h
 unfold xE
 rw [Rd]
 refine⟨A,cap,rfl,h1,h2,?_⟩
 rcases h3 with rfl|⟨b,off,cs,fr,rfl,hb,h3⟩
 ·exact .inl rfl
 ·refine .inr ⟨b,off,rfl,(F5.1 hb).1,?_⟩
  rw [Jr]
  intro j d hd
  have hlen:∀l:List Int,(l.flatMap vW).length=l.length:=fun l=>by
   induction l with
   |nil=>rfl
   |cons a l ih=>rw [J6,I0,ih];simp [vW];omega
  have hj':j<i.length:=by
   have:=(N9.1 hd).1
   rwa [hlen] at this
  rw [QfX i j hj'] at hd
  cases hd
  exact⟨_,h3 j hj',rfl⟩

def Qx (w:World) {κ:Type} (KC:Value->Prop) (enc:κ->Value) (b:Nat) (X:κ->List Int->Prop):Prop:=
 ∃E,ZH w KC b E/\(∀p∈E,∃k i,p.1=enc k/\Zn w i p.2/\XC (X k) i)/\∀k i,X k i->∃p∈E,p.1=enc k
section
variable {w w':World} {κ:Type} {KC:Value->Prop} {enc:κ->Value} {b:Nat} {X Y:κ->List Int->Prop}
theorem Qx.lt (h:Qx w KC enc b X):b<w.heap.size:=by obtain⟨E,h1,_⟩:=h;exact h1.lt
theorem Qx.nz (h:Qx w KC enc b X):∀cs fr,w.heap[b]?≠some (.cells cs 3 fr):=by obtain⟨E,h1,_⟩:=h;exact h1.nz
theorem Qx.keep {S:List Nat} (h:Qx w KC enc b X) (hc:Qc S w w') (hS:Qm w S) (hb:b∉S:=by first|(simp;done)|((repeat' first|exact F1|refine J4 ?_ ?_)<;>first|assumption|(apply j5;assumption)|omega)|(simp;omega)):Qx w' KC enc b X:=by
 obtain⟨E,h1,h2,h3⟩:=h
 exact⟨E,h1.chg hc hb,fun p hp=>by
  obtain⟨k,i,e,hi,hl⟩:=h2 p hp
  exact⟨k,i,e,hi.keep hc hS,hl⟩,h3⟩
theorem Qx.made (w:World) (KC:Value->Prop) (enc:κ->Value) (h:∀k i,¬X k i):Qx (w.alloc (.map #[] 0)) KC enc w.heap.size X:=
 ⟨[],ZH.made w KC,fun p hp=>(by cases hp),fun k i h1=>absurd h1 (h k i)⟩
theorem Qx.congr (h:Qx w KC enc b X) (hx:∀k i,X k i↔Y k i):Qx w KC enc b Y:=by
 have:X=Y:=funext fun k=>funext fun i=>propext (hx k i)
 rwa [<-this]
theorem Qx.wider (h:Qx w KC enc b X) (hsub:∀k i,X k i->Y k i) (hall:∀k i,Y k i->∃j,X k j/\Wy j i<=0):Qx w KC enc b Y:=by
 obtain⟨E,h1,h2,h3⟩:=h
 refine⟨E,h1,fun p hp=>?_,fun k i hi=>?_⟩
 ·obtain⟨k,i,e,hv,hl⟩:=h2 p hp
  exact⟨k,i,e,hv,hsub _ _ hl.1,fun j hj=>by
   obtain⟨j',h4,h5⟩:=hall _ _ hj
   exact Jg (hl.2 _ h4) h5⟩
 ·obtain⟨j,h4,_⟩:=hall k i hi
  exact h3 k j h4
theorem Qx.put {E E':List (Value×Value)} {k0:κ} {i0:List Int} {vi:Value} (hinj:∀a c,enc a=enc c->a=c) (h2:∀p∈E,∃k i,p.1=enc k/\Zn w i p.2/\XC (X k) i) (h3:∀k i,X k i->∃p∈E,p.1=enc k)
  (hle:∀p∈E,p.1=enc k0->∃old,Zn w old p.2/\XC (X k0) old/\Wy i0 old<=0)
  (h':ZH w' KC b E') (hm:∀p,p∈E'↔(p∈E/\p.1≠enc k0)∨p=(enc k0,vi)) (hkeep:∀i v,Zn w i v->Zn w' i v) (hv:Zn w' i0 vi):Qx w' KC enc b (fun k i=>X k i∨(k=k0/\i=i0)):=by
 refine⟨E',h',fun p hp=>?_,fun k i hi=>?_⟩
 ·rcases(hm p).1 hp with ⟨hp1,hne⟩|rfl
  ·obtain⟨k,i,e,hv1,hl⟩:=h2 p hp1
   refine⟨k,i,e,hkeep _ _ hv1,.inl hl.1,?_⟩
   rintro j (hj|⟨rfl,_⟩)
   ·exact hl.2 _ hj
   ·exact absurd e hne
  ·refine⟨k0,i0,rfl,hv,.inr ⟨rfl,rfl⟩,?_⟩
   rintro j (hj|⟨_,rfl⟩)
   ·obtain⟨q,hq,e⟩:=h3 k0 j hj
    obtain⟨old,_,hl,hc⟩:=hle q hq e
    exact Jg hc (hl.2 _ hj)
   ·rw [Vx];omega
 ·rcases hi with hi|⟨rfl,_⟩
  ·obtain⟨q,hq,e⟩:=h3 k i hi
   by_cases hk:k=k0
   ·exact⟨(enc k0,vi),(hm _).2 (.inr rfl),by rw [hk]⟩
   ·exact⟨q,(hm _).2 (.inl ⟨hq,fun e1=>hk (hinj _ _ (by rw [<-e,e1]))⟩),e⟩
  ·exact⟨(enc k,vi),(hm _).2 (.inr rfl),rfl⟩
theorem Qx.stay {E:List (Value×Value)} {k0:κ} {i0 old:List Int} {v:Value} (h1:ZH w KC b E) (h2:∀p∈E,∃k i,p.1=enc k/\Zn w i p.2/\XC (X k) i) (h3:∀k i,X k i->∃p∈E,p.1=enc k)
  (hp:(enc k0,v)∈E) (ho:XC (X k0) old) (hc:0<=Wy i0 old):Qx w KC enc b (fun k i=>X k i∨(k=k0/\i=i0)):=by
 refine⟨E,h1,fun p hp'=>?_,fun k i hi=>?_⟩
 ·obtain⟨k,i,e,hv,hl⟩:=h2 p hp'
  refine⟨k,i,e,hv,.inl hl.1,?_⟩
  rintro j (hj|⟨rfl,rfl⟩)
  ·exact hl.2 _ hj
  ·rw [hl.one ho]
   exact(yr _ _).2 hc
 ·rcases hi with hi|⟨rfl,_⟩
  ·exact h3 k i hi
  ·exact⟨_,hp,rfl⟩
end
def QW (t:ByteArray×ByteArray×ByteArray):Value:=.agg #[.string t.1,.string t.2.1,.string t.2.2]
theorem Qb1:Maps.Keyed Tryz.prog 82:=Maps.Keyed.of_law (deep_law_laid (m:=4) (by kernel_rfl) (by decide) (by decide+kernel) (by kernel_rfl) (by kernel_rfl))
theorem Qco:Maps.Keyed Tryz.prog 84:=Maps.Keyed.of_law (deep_law_laid (m:=4) (by kernel_rfl) (by decide) (by decide+kernel) (by kernel_rfl) (by kernel_rfl))
theorem Qch (t:ByteArray×ByteArray×ByteArray) (h1:t.1.size<=maxLen) (h2:t.2.1.size<=maxLen) (h3:t.2.2.size<=maxLen):∃l,keyOf Tryz.prog 82 (QW t)=some l:=by
 have h0:Tryz.prog.underlying 82=some (.array 3 9):=by kernel_rfl
 have hs:Tryz.prog.underlying 9=some .string:=by kernel_rfl
 have hk:(Tryz.prog.keyType 82&&(QW t).formed Tryz.prog 82)=true:=by kernel_rfl
 have hc:Tryz.prog.cellsOf 82=3:=by kernel_rfl
 have hc1:Tryz.prog.cellsOf 9=1:=by kernel_rfl
 have h3t:3<=Tryz.prog.types.size:=by decide+kernel
 obtain⟨m,hm⟩:∃m,Tryz.prog.types.size+1=m+1+1:=⟨Tryz.prog.types.size-1,by omega⟩
 have hl:∀s:ByteArray,s.size<=maxLen->Tryz.prog.keyLits (m+1) 9 [.string s]=some [.string s.data.toList]:=fun s h=>by
  unfold Program.keyLits
  rw [hs]
  simp only
  rw [if_pos h]
 have ha:Tryz.prog.keyLits (m+1+1) 82 [.string t.1,.string t.2.1,.string t.2.2]=some [.string t.1.data.toList,.string t.2.1.data.toList,.string t.2.2.data.toList]:=by
  unfold Program.keyLits
  rw [h0]
  simp only
  rw [hc,hc1]
  simp [List.range_succ,hl,h1,h2,h3]
 unfold keyOf
 rw [h0]
 simp only
 rw [if_pos hk,hm]
 have hcs:(QW t).cells.toList=[.string t.1,.string t.2.1,.string t.2.2]:=rfl
 rw [hcs,ha]
 exact⟨_,rfl⟩
def Uu (v:Value):Prop:=∃t:ByteArray×ByteArray×ByteArray,v=QW t/\t.1.size<=maxLen/\t.2.1.size<=maxLen/\t.2.2.size<=maxLen
theorem Vo:qO Tryz.prog 82 Uu (fun _=>True):=qO.of_keyed Qb1 (fun v hv=>by
 obtain⟨t,rfl,h1,h2,h3⟩:=hv
 exact Qch t h1 h2 h3)
theorem Xw {a c:ByteArray×ByteArray×ByteArray} (h:QW a=QW c):a=c:=by
 obtain⟨a1,a2,a3⟩:=a
 obtain⟨c1,c2,c3⟩:=c
 simp [QW] at h
 simp [h]
theorem Vs (X:ByteArray×ByteArray×ByteArray->List Int->Prop) (b:Nat) (t:ByteArray×ByteArray×ByteArray) (i:List Int) (vi:Value) (w:World) (h1:t.1.size<=maxLen) (h2:t.2.1.size<=maxLen) (h3:t.2.2.size<=maxLen)
  (hm:Qx w Uu QW b X) (hv:Zn w i vi):
  Calls Tryz.prog 99 #[.map (some b),QW t,vi] w fun e w'=>e= .returned (.tuple #[])/\Qx w' Uu QW b (fun k j=>X k j∨(k=t/\j=i))/\Qc [b] w w':=by
 have hkc:Uu (QW t):=⟨t,rfl,h1,h2,h3⟩
 have hlt:=hm.lt
 obtain⟨E,hE,hp,hall⟩:=hm
 have hu:Tryz.prog.underlying 70=some (.map 82 25):=by kernel_rfl
 have hz:∀W:World,(zeroValue 25).run Tryz.prog W= .ok (.slice none 0 0) W:=fun W=>by kernel_rfl
 unfold QW at *
 go_enter Tryz.func99,Tryz.ntmps99
 have hE1:=fun o:Obj=>hE.chg ((B0 [] w).alloc o) (by simp)
 have tt:w.heap.size<w.heap.size+1:=L4 _
 go_wp2_with (first|(at_lookup;refine JZ rfl (.tmp 9) (.tmp 10) 70 true rfl Vo trivial hu (hz _) rfl (hE1 _) rfl hkc ?_ ?_)|fail)
 ·intro v hmem
  obtain⟨k,old,ek,hvo,hl⟩:=hp _ hmem
  obtain rfl:t=k:=Xw ek
  have hvo2:=hvo
  have hv2:=hv
  obtain⟨A,cap,ev,_⟩:=hvo2
  obtain⟨A',cap',ev',_⟩:=hv2
  simp only at ev
  subst ev ev'
  have CI:=Qb (fun W (hW:Qc [] w W)=>Xl i old _ _ _ _ W (hv.keep hW Qm.nil).rd (hvo.keep hW Qm.nil).rd (F0 _) (F0 _))
  by_cases hc:Wy i old<0
  ·go_wp2_with fail
   refine(CI.out _ C6).mono ?_
   rintro e w1 ⟨rfl,c1⟩
   have y0:=(c1.ce w.heap.size (by simp) (by simp)) 0
   have y1:=(c1.ce w.heap.size (by simp) (by simp)) 1
   have y2:=(c1.ce w.heap.size (by simp) (by simp)) 2
   have hcw:Qc [] w w1:=H0 C6 c1
   have hE2:=hE.chg hcw (by simp)
   go_wp2_with (first|(at_mapUpdate;refine YE rfl (.tmp 22) (.tmp 23) (.tmp 24) 70 rfl Vo trivial hu rfl hE2 rfl rfl hkc ?_;intro w2 E' hE' hc2 hs2 hm2)|fail)
   go_end0
   have hno:Qm w1 [b]:=Qm.cons hE2.nz Qm.nil
   exact⟨rfl,Qx.put (w:=w1) (fun _ _ h=>Xw h) (fun p hq=>by
    obtain⟨k,i,e,h4,h5⟩:=hp p hq
    exact⟨k,i,e,h4.keep hcw Qm.nil,h5⟩) hall (fun p hq e=>by
    obtain⟨k,j,e2,h4,h5⟩:=hp p hq
    obtain rfl:t=k:=Xw (e.symm.trans e2)
    exact⟨j,h4.keep hcw Qm.nil,h5,by rw [h5.one hl];omega⟩) hE' hm2 (fun j u hj=>hj.keep hc2 hno) ((hv.keep hcw Qm.nil).keep hc2 hno),hcw.ty hc2⟩
  ·go_wp2_with fail
   refine(CI.out _ C6).mono ?_
   rintro e w1 ⟨rfl,c1⟩
   have hcw:Qc [] w w1:=H0 C6 c1
   go_wp2_with fail
   go_end0
   have hst:=Qx.stay (w:=w) (enc:=QW) (k0:=t) (i0:=i) hE hp hall hmem hl (by omega)
   exact⟨rfl,hst.keep hcw Qm.nil (by simp),hcw.mono (by simp)⟩
 ·intro hno0
  have hcw:∀o,Qc [] w (w.alloc o):=fun o=>(B0 _ _).alloc o
  go_wp2_with (first|(at_mapUpdate;refine YE rfl (.tmp 22) (.tmp 23) (.tmp 24) 70 rfl Vo trivial hu rfl (hE1 _) rfl rfl hkc ?_;intro w2 E' hE' hc2 hs2 hm2)|fail)
  go_end0
  have hno:∀o,Qm (w.alloc o) [b]:=fun o=>Qm.cons (hE1 o).nz Qm.nil
  exact⟨rfl,Qx.put (w:=w.alloc _) (fun _ _ h=>Xw h) (fun p hq=>by
   obtain⟨k,i,e,h4,h5⟩:=hp p hq
   exact⟨k,i,e,h4.keep (hcw _) Qm.nil,h5⟩) hall (fun p hq e=>absurd e (hno0 p.1 p.2 hq)) hE' hm2 (fun j u hj=>hj.keep hc2 (hno _)) ((hv.keep (hcw _) Qm.nil).keep hc2 (hno _)),(hcw _).ty hc2⟩
theorem kk {w:World}:∀ {l:List Int} {us:List Value} {S:List Nat},Qt w (l.map fun x=>QD.v (.int .i64 x)) us S->us=l.map (Value.int .i64)
 | [],us,S,h=>by
  rw [O2,Qt] at h
  exact h.1
 |x::l,us,S,h=>by
  rw [I9,Qt] at h
  obtain⟨u,us',S1,S2,rfl,_,h1,h2⟩:=h
  rw [Yb] at h1
  rw [I9,kk h2,h1.1]
theorem Yo.intsV {w0 w:World} {v:Value} {l:List Int} (h:Yo w0 w 3 1 v l.length (l.map fun x=>QD.v (.int .i64 x))):Zn w l v:=by
 obtain⟨xs,S',hrow,hown,_⟩:=h
 have hxs:=kk hown
 obtain⟨hlen,⟨rfl,h0⟩|⟨g,cap,cur,rfl,_,hg,h1,h2,h3,h4⟩⟩:=hrow
 ·exact⟨none,0,by rw [h0],by omega,by unfold maxLen;omega,.inl (I6 h0)⟩
 ·refine⟨_,cap,rfl,h1,h2,.inr ⟨g,0,cur,(0,0),rfl,hg,fun j hj=>?_⟩⟩
  rw [cell_of_row w g (0+j) cur 3 (0,0) hg,J3, <-T6]
  have e1:cur.toList[j]?=(cur.toList.take (l.length * 1))[j]?:=by rw [R8,if_pos (by omega)]
  rw [e1,h4,hxs,R0,F8 hj]
  rfl
theorem Zn.news {w:World} {l:List Int} {A:Option Addr} {cap:Nat} (h:Zn w l (.slice A l.length cap)):(l.map (Value.int .i64))≠ [] ->∃b off,A=some ⟨b,off,none⟩/\∀j u,(l.map (Value.int .i64))[j]?=some u->w.cell? ⟨b,off+j,none⟩=some u:=fun hne=>by
 obtain⟨A',cap',e,_,_,h3⟩:=h
 obtain⟨rfl,_⟩:A=A'/\True:=⟨by injection e,trivial⟩
 rcases h3 with rfl|⟨b,off,cs,fr,rfl,_,h3⟩
 ·exact absurd rfl hne
 ·refine⟨b,off,rfl,fun j u hu=>?_⟩
  rw [R0] at hu
  obtain⟨hj,e2⟩:∃hj:j<l.length,u= .int .i64 l[j]:=by
   cases hj:l[j]? with
   |none=>rw [hj] at hu;cases hu
   |some x=>
    obtain⟨h4,h5⟩:=N9.1 hj
    rw [hj] at hu
    exact⟨h4,by rw [h5];exact(M1 hu).symm⟩
  rw [e2]
  exact h3 j hj
theorem Ug (a b:List Int) (va vb:Value) (w:World) (ha:Zn w a va) (hb:Zn w b vb) (hn:a.length+b.length<=1000000):
  Calls Tryz.prog 100 #[va,vb] w fun e w'=>∃v,e= .returned v/\Zn w' (a++b) v/\Qc [] w w':=by
 obtain⟨Aa,ca,ea,_⟩:=id ha
 obtain⟨Ab,cb,eb,_⟩:=id hb
 subst ea eb
 have one:∀(l:List Int),∀u∈l.map (Value.int .i64),u.oneCell'=true:=fun l u hu=>by
  obtain⟨x,_,rfl⟩:=L7.1 hu
  rfl
 go_enter Tryz.func100,Tryz.ntmps100
 have R1:=Qb (Zi 25 25 3 _ 1 8 Tryz.underlying25 GI rfl (by omega) (S8 w 3 1 (B0 _ _)) (B0 _ _) Aa a.length ca (a.map (Value.int .i64)) (by simp) ha.news (one a) (by omega) (by omega))
 have R2:=Qb (fun(A1:Option Addr) (c1:Nat) (w1:World) (hA1:Yo w w1 3 1 (.slice A1 a.length c1) a.length ((a.map (Value.int .i64)).map QD.v))=>Zi 25 25 3 _ 1 8 Tryz.underlying25 GI rfl (by omega) hA1 (B0 _ _) Ab b.length cb (b.map (Value.int .i64)) (by simp) (hb.keep (show Qc [] w w1 from hA1.chg) Qm.nil).news (one b) (by omega) (by omega))
 clear ha hb one
 go_wp2_with (first|(at_builtin;refine Vv rfl (.const (.slice none 0 0)) (.tmp 5) _ rfl rfl rfl R1.out ?_;rintro A1 c1 w1 ⟨hA1,_,_⟩;simp only [J3,J9] at hA1 ⊢;have R3:=Qb (R2.out A1 c1 w1 hA1);clear hA1 R1 R2)|(at_builtin;refine Vv rfl (.tmp 6) (.tmp 7) _ rfl rfl rfl R3.out ?_;rintro A2 c2 w2 ⟨hA2,_,_⟩)|fail)
 go_ret
 refine⟨_,rfl,?_,hA2.chg⟩
 have e1:(a.map (Value.int .i64)).map QD.v++(b.map (Value.int .i64)).map QD.v=(a++b).map fun x=>QD.v (.int .i64 x):=by rw [List.map_map,List.map_map, <-J2];rfl
 have e2:a.length+b.length=(a++b).length:=by simp
 rw [e1] at hA2
 first
  |(rw [e2] at hA2 ⊢;exact hA2.intsV)
  |(have h:=hA2;rw [e2] at h;simpa using h.intsV)
theorem F7:type_of% @Qm.cons:=@Qm.cons
theorem C0:type_of% @Qm.nil:=@Qm.nil
end Go.Proofs.YtfjhdnjlhjimeaaGreatDoor
