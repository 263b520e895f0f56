/- Maps that the call has made. Conditions: as stated. -/
import Derived.Test.YtlnkgcdeljhjcaaGreatDoorRunsP
import Derived.Maps.RangeWalk
import Derived.DeepKeys4
set_option maxRecDepth 100000
set_option maxHeartbeats 4000000
namespace Go.Proofs.YtlnkgcdeljhjcaaGreatDoor
open Go.RowKit
open Go.ChangeMaps (setBlock)
open Go.MapKept (Stamped stamped_iff stamped_empty stamped_push stamped_modify)

structure GM (P:Program) (k:TypeId) (KC:Value->Prop) (G:World->Prop):Prop where
 check:∀ {w:World},G w->∀(em:Bool) {v:Value},KC v->(Instr.checkKey em 10000 k v).run P w= .ok () w
 find:∀ {w:World},G w->∀ {x:Value},KC x->∀es:List MapEntry,(∀e∈es,KC e.key)->
  ((Instr.findKey k x es).run P w= .ok none w/\∀e∈es,e.key≠x)∨∃j e,(Instr.findKey k x es).run P w= .ok (some (j,e.val)) w/\es[j]?=some e/\e.key=x
 stays:∀ {w:World},G w->∀ {v:Value},KC v->(Instr.keyThatStays v v).run P w= .ok v w
theorem GM.of_keyed {P:Program} {k:TypeId} (K:Maps.Keyed P k) {KC:Value->Prop} {G:World->Prop} (h:∀v,KC v->∃l,keyOf P k v=some l):GM P k KC G where
 check {w} _ em v hv:=(h v hv).elim fun _ hl=>K.check w em hl
 find {w} _ x hx es hes:=(h x hx).elim fun _ hl=>K.find w hl es (fun e he=>h _ (hes e he))
 stays {w} _ v hv:=(h v hv).elim fun _ hl=>K.stays w hl
theorem yb {P:Program} {k:TypeId} {KC:Value->Prop} {w:World} (heq:∀ {x y:Value},KC x->KC y->∃b,(Op.equal k x y).run P w= .ok b w/\(b=true↔x=y)) {x:Value} (hx:KC x):
  ∀(es:List MapEntry) (i:Nat),(∀e∈es,KC e.key)->((Instr.findAsking k x es i).run P w= .ok none w/\∀e∈es,e.key≠x)∨∃j e,(Instr.findAsking k x es i).run P w= .ok (some (i+j,e.val)) w/\es[j]?=some e/\e.key=x
 | [],i,_=>.inl ⟨by simp [Instr.findAsking],by simp⟩
 | e::es,i,h=>by
  obtain⟨b,hb,hiff⟩:=heq hx (h e List.mem_cons_self)
  cases b with
  |true=>
   exact .inr ⟨0,e,by simp [Instr.findAsking,hb,Result.andThen],rfl,(hiff.1 rfl).symm⟩
  | false=>
   have hne:e.key≠x:=fun h1=>by have:=hiff.2 h1.symm;cases this
   rcases yb heq hx es (i+1) (fun y hy=>h y (List.mem_cons_of_mem _ hy)) with ⟨h1,h2⟩|⟨j,y,h1,h2,h3⟩
   ·refine .inl ⟨by simp [Instr.findAsking,hb,Result.andThen,h1],fun y hy=>?_⟩
    rcases List.mem_cons.1 hy with rfl|hy
    ·exact hne
    ·exact h2 y hy
   ·refine .inr ⟨j+1,y,?_,by simpa using h2,h3⟩
    have e1:i+1+j=i+(j+1):=by omega
    rw [e1] at h1
    simp [Instr.findAsking,hb,Result.andThen,h1]

def kv (e:MapEntry):Value×Value:=(e.key,e.val)
def ZI (w:World) (KC:Value->Prop) (b:Nat) (E:List (Value×Value)):Prop:=
 ∃es clock,w.heap[b]?=some (.map es clock)/\Stamped es clock/\(∀e∈es.toList,KC e.key)/\es.toList.map kv=E
section
variable {P:Program} {k t e:TypeId} {KC:Value->Prop} {G:World->Prop} {w w':World} {b r:Nat} {E L:List (Value×Value)}
theorem ZI.lt (h:ZI w KC b E):b<w.heap.size:=by
 obtain⟨es,clock,hb,_⟩:=h
 exact(Array.getElem?_eq_some_iff.1 hb).1
theorem ZI.chg {S:List Nat} (h:ZI w KC b E) (hc:Qb S w w') (hS:b∉S):ZI w' KC b E:=by
 have hlt:=h.lt
 obtain⟨es,clock,hb,h1⟩:=h
 exact⟨es,clock,(hc.block b hlt hS).trans hb,h1⟩
theorem ZI.made (w:World) (KC:Value->Prop):ZI (w.alloc (.map #[] 0)) KC w.heap.size []:=⟨#[],0,(MapKept.heap_alloc w _).1,stamped_empty 0,by simp,rfl⟩
theorem ZI.keys (h:ZI w KC b E):∀p∈E,KC p.1:=by
 obtain⟨es,clock,_,_,hk,rfl⟩:=h
 intro p hp
 obtain⟨x,hx,rfl⟩:=List.mem_map.1 hp
 exact hk x hx
theorem ZI.apart (h:ZI w KC b E):E.Pairwise (fun p q=>p.1≠q.1):=by
 obtain⟨es,clock,_,hs,_,rfl⟩:=h
 rw [List.pairwise_map]
 exact((stamped_iff es clock).1 hs).2.2
theorem uH:∀ {E:List (Value×Value)},E.Pairwise (fun p q=>p.1≠q.1)->∀ {x u v:Value},(x,u)∈E->(x,v)∈E->u=v
 | [],_,_,_,_,h,_=>by cases h
 | p::E,hp,x,u,v,hu,hv=>by
  obtain⟨h1,h2⟩:=List.pairwise_cons.1 hp
  rcases List.mem_cons.1 hu with rfl|hu'
  ·rcases List.mem_cons.1 hv with h|hv'
   ·injection h with _ h;exact h.symm
   ·exact(h1 (x,v) hv' rfl).elim
  ·rcases List.mem_cons.1 hv with rfl|hv'
   ·exact(h1 (x,u) hu' rfl).elim
   ·exact uH h2 hu' hv'
theorem ZI.look (h:ZI w KC b E) (K:GM P k KC G) (hG:G w) (ht:P.underlying t=some (.map k e)) {z:Value} (hz:(zeroValue e).run P w= .ok z w) {key:Value} (hk:KC key) (c:Bool):
  (∃v,(key,v)∈E/\(Instr.lookup t (.map (some b)) key c).run P w= .ok (if c then .tuple #[v,.bool true] else v) w)∨
  ((∀p∈E,p.1≠key)/\(Instr.lookup t (.map (some b)) key c).run P w= .ok (if c then .tuple #[z,.bool false] else z) w):=by
 obtain⟨es,clock,hb,hs,hks,rfl⟩:=h
 rcases K.find hG hk es.toList hks with ⟨h1,h2⟩|⟨j,x,h1,h2,h3⟩
 ·refine .inr ⟨fun p hp=>?_,?_⟩
  ·obtain⟨x,hx,rfl⟩:=List.mem_map.1 hp
   exact h2 x hx
  ·cases c<;>simp [Instr.lookup,run_underlying ht,MapKept.run_getObj_map hb,K.check hG _ hk,h1,hz,Result.andThen]
 ·refine .inl ⟨x.val,List.mem_map.2 ⟨x,List.mem_of_getElem? h2,by rw [<-h3];rfl⟩,?_⟩
  cases c<;>simp [Instr.lookup,run_underlying ht,MapKept.run_getObj_map hb,K.check hG _ hk,h1,Result.andThen]
theorem KL {w:World} {b:Nat} (o:Obj):Qb [b] w (setBlock w b o):=
 ⟨rfl,rfl,rfl,by simp [setBlock],fun i _ hi=>by
  show(w.heap.setIfInBounds b o)[i]?=_
  rw [Array.getElem?_setIfInBounds_ne (fun e=>hi (by simp [e]))]⟩
theorem U6 (w:World) (b:Nat) (o:Obj):(setBlock w b o).heap.size=w.heap.size:=by simp [setBlock]
theorem ZI.store (h:ZI w KC b E) (K:GM P k KC G) (hG:G w) (ht:P.underlying t=some (.map k e)) {key val:Value} (hk:KC key):
  ∃w' E',(Instr.mapUpdate t (.map (some b)) key val).run P w= .ok () w'/\ZI w' KC b E'/\Qb [b] w w'/\w'.heap.size=w.heap.size/\∀p,p∈E'↔(p∈E/\p.1≠key)∨p=(key,val):=by
 obtain⟨es,clock,hb,hs,hks,rfl⟩:=h
 rcases K.find hG hk es.toList hks with ⟨h1,h2⟩|⟨j,x,h1,h2,h3⟩
 ·refine⟨setBlock w b (.map (es.push ⟨key,val,clock⟩) (clock+1)),_,?_,⟨_,_,ChangeMaps.heap_setBlock_same hb _,stamped_push hs h2,?_,rfl⟩,KL _,U6 _ _ _,fun p=>?_⟩
  ·simp [Instr.mapUpdate,run_underlying ht,MapKept.run_getObj_map hb,K.check hG false hk,h1,MapKept.run_setObj_map _ hb,Result.andThen,setBlock]
  ·intro y hy
   simp only [Array.toList_push,List.mem_append,List.mem_singleton] at hy
   rcases hy with hy|rfl
   ·exact hks y hy
   ·exact hk
  ·simp only [Array.toList_push,List.map_append,List.mem_append,List.map_cons,List.map_nil,List.mem_singleton,kv]
   constructor
   ·rintro(h|h)
    ·obtain⟨y,hy,rfl⟩:=List.mem_map.1 h
     exact .inl ⟨h,h2 y hy⟩
    ·exact .inr h
   ·rintro(h|h)
    ·exact .inl h.1
    ·exact .inr h
 ·have hj:es[j]?=some x:=by simpa using h2
  have hkeyf:∀y,es[j]?=some y->({y with key:=key,val:=val}:MapEntry).key=y.key:=fun y hy=>by rw [hj] at hy;cases hy;exact h3.symm
  have hlist:(es.modify j (fun y=>{y with key:=key,val:=val})).toList=es.toList.set j {x with key:=key,val:=val}:=by rw [Array.toList_modify,ChangeMaps.modify_eq_set _ _ _ _ h2]
  have hap:=((stamped_iff es clock).1 hs).2.2
  have hjl:j<es.toList.length:=(List.getElem?_eq_some_iff.1 h2).1
  have who:∀y,y∈es.toList.set j {x with key:=key,val:=val}↔y={x with key:=key,val:=val}∨(y∈es.toList/\y.key≠key):=by
   intro y
   rw [List.mem_iff_getElem?]
   constructor
   ·rintro⟨i,hi⟩
    rw [List.getElem?_set] at hi
    by_cases hij:j=i
    ·rw [if_pos hij,if_pos (by omega)] at hi
     exact .inl (Option.some.inj hi).symm
    ·rw [if_neg hij] at hi
     refine .inr ⟨List.mem_of_getElem? hi,fun hyk=>?_⟩
     have hil:=(List.getElem?_eq_some_iff.1 hi)
     have hjx:=(List.getElem?_eq_some_iff.1 h2)
     rcases Nat.lt_or_gt_of_ne hij with hlt|hlt
     ·exact(List.pairwise_iff_getElem.1 hap j i hjl hil.1 hlt) (by rw [hjx.2,hil.2,h3,hyk])
     ·exact(List.pairwise_iff_getElem.1 hap i j hil.1 hjl hlt) (by rw [hjx.2,hil.2,h3,hyk])
   ·rintro(rfl|⟨hy,hne⟩)
    ·exact⟨j,by rw [List.getElem?_set,if_pos rfl,if_pos (by omega)]⟩
    ·obtain⟨i,hi⟩:=List.mem_iff_getElem?.1 hy
     refine⟨i,?_⟩
     rw [List.getElem?_set,if_neg]
     ·exact hi
     ·rintro rfl
      rw [h2] at hi
      cases hi
      exact hne h3
  refine⟨setBlock w b (.map (es.modify j (fun y=>{y with key:=key,val:=val})) clock),_,?_,⟨_,_,ChangeMaps.heap_setBlock_same hb _,stamped_modify hs _ _ (fun _ _=>rfl) (fun y _ hy=>hkeyf y hy),?_,rfl⟩,KL _,U6 _ _ _,fun p=>?_⟩
  ·simp [Instr.mapUpdate,run_underlying ht,MapKept.run_getObj_map hb,K.check hG false hk,h1,hj,h3,K.stays hG hk,MapKept.run_setObj_map _ hb,Result.andThen,setBlock]
  ·intro y hy
   rw [hlist] at hy
   rcases(who y).1 hy with rfl|⟨hy',_⟩
   ·exact hk
   ·exact hks y hy'
  ·rw [hlist,List.mem_map]
   constructor
   ·rintro⟨y,hy,rfl⟩
    rcases(who y).1 hy with rfl|⟨hy',hne⟩
    ·exact .inr rfl
    ·exact .inl ⟨List.mem_map.2 ⟨y,hy',rfl⟩,hne⟩
   ·rintro(⟨hp,hne⟩|rfl)
    ·obtain⟨y,hy,rfl⟩:=List.mem_map.1 hp
     exact⟨y,(who y).2 (.inr ⟨hy,hne⟩),rfl⟩
    ·exact⟨_,(who _).2 (.inl rfl),rfl⟩

def Jt (w:World) (b r:Nat) (E L:List (Value×Value)):Prop:=
 ∃es clock since seen c0,w.heap[b]?=some (.map es clock)/\w.heap[r]?=some (.mapIter (some b) since seen c0)/\Stamped es clock/\(∀x∈es.toList,x.born<since)/\since<=c0/\since<=clock/\
  es.toList.map kv=E/\(leftOf es seen).toList.map kv=L
theorem Jt.chg {S:List Nat} (h:Jt w b r E L) (hc:Qb S w w') (hb:b∉S) (hr:r∉S):Jt w' b r E L:=by
 obtain⟨es,clock,since,seen,c0,h1,h2,h3⟩:=h
 exact⟨es,clock,since,seen,c0,(hc.block b (Array.getElem?_eq_some_iff.1 h1).1 hb).trans h1,(hc.block r (Array.getElem?_eq_some_iff.1 h2).1 hr).trans h2,h3⟩
theorem Jt.lt (h:Jt w b r E L):b<w.heap.size/\r<w.heap.size:=by
 obtain⟨es,clock,since,seen,c0,h1,h2,_⟩:=h
 exact⟨(Array.getElem?_eq_some_iff.1 h1).1,(Array.getElem?_eq_some_iff.1 h2).1⟩
theorem ZI.range (h:ZI w KC b E) (ht:P.underlying t=some (.map k e)):
  ∃w',(Instr.range t (.map (some b))).run P w= .ok (.pointer (some ⟨w.heap.size,0,none⟩)) w'/\Jt w' b w.heap.size E E/\Qb [] w w'/\w'.heap.size=w.heap.size+1:=by
 have hlt:=h.lt
 obtain⟨es,clock,hb,hs,hks,rfl⟩:=h
 refine⟨_,run_range_map w t k e b es clock ht hb,⟨es,clock,clock, #[],clock,?_,(MapKept.heap_alloc w _).1,hs,((stamped_iff es clock).1 hs).1,Nat.le_refl _,Nat.le_refl _,rfl,?_⟩,(Qb.refl _ _).alloc _,by simp⟩
 ·exact(((Qb.refl [] w).alloc _).block b hlt (by simp)).trans hb
 ·have e1:(leftOf es #[]).toList=es.toList:=by
   unfold leftOf
   rw [Array.toList_filter]
   exact List.filter_eq_self.2 (by simp)
  rw [e1]
theorem uh (x:MapEntry):∀(l:List MapEntry),(l.map (·.born)).Nodup->x∈l->l.Perm (x::l.filter (fun y=>!(y.born==x.born)))
 | [],_,h=>by cases h
 | y::l,hn,h=>by
  obtain⟨h1,h2⟩:=List.nodup_cons.1 (by simpa using hn:(y.born::l.map (·.born)).Nodup)
  rcases List.mem_cons.1 h with rfl|h'
  ·have e1:(x::l).filter (fun y=>!(y.born==x.born))=l:=by
    rw [List.filter_cons,if_neg (by simp)]
    refine List.filter_eq_self.2 (fun z hz=>?_)
    simp only [Bool.not_eq_true',beq_eq_false_iff_ne]
    intro e1
    exact h1 (List.mem_map.2 ⟨z,hz,e1⟩)
   rw [e1]
  ·have e1:(y::l).filter (fun z=>!(z.born==x.born))=y::l.filter (fun z=>!(z.born==x.born)):=by
    rw [List.filter_cons,if_pos]
    simp only [Bool.not_eq_true',beq_eq_false_iff_ne]
    intro e1
    exact h1 (List.mem_map.2 ⟨x,h',e1.symm⟩)
   rw [e1]
   exact((uh x l h2 h').cons y).trans (List.Perm.swap x y _)
theorem Jt.next (h:Jt w b r E L) (hbr:b≠r) (ty:TypeId):
  (L=[] /\(Instr.next (.pointer (some ⟨r,0,none⟩)) false ty).run P w= .ok (.tuple #[.bool false]) w)∨
  ∃p L' w',L.Perm (p::L')/\p∈E/\(Instr.next (.pointer (some ⟨r,0,none⟩)) false ty).run P w= .ok (.tuple #[.bool true,p.1,p.2]) w'/\Jt w' b r E L'/\Qb [r] w w'/\w'.heap.size=w.heap.size/\
   (Instr.entry (.pointer (some ⟨r,0,none⟩))).run P w'= .ok (.tuple #[p.1,p.2]) w':=by
 obtain⟨es,clock,since,seen,c0,hb,hr,hs,hold,hsc,hsk,rfl,rfl⟩:=h
 have hn:=((stamped_iff es clock).1 hs).2.1
 rcases run_next_at (P:=P) w ty r b since c0 seen es clock hr hb hold hsc with ⟨h0,hrun⟩|⟨x,hx,w1,hw1,hrun⟩
 ·exact .inl ⟨by rw [Array.eq_empty_of_size_eq_zero h0];rfl,hrun⟩
 ·have hxe:x∈es.toList:=(mem_left hx).1
  have hr1:w1.heap[r]?=some (.mapIter (some b) since seen c0):=by rcases hw1 with rfl|rfl<;>exact hr
  have hb1:w1.heap[b]?=some (.map es clock):=by rcases hw1 with rfl|rfl<;>exact hb
  have hc1:Qb [r] w w1:=by
   rcases hw1 with rfl|rfl
   ·exact Qb.refl _ _
   ·exact(Qb.refl _ _).drew
  have hz1:w1.heap.size=w.heap.size:=by rcases hw1 with rfl|rfl<;>rfl
  have hc2:Qb [r] w1 (setBlock w1 r (.mapIter (some b) since (seen.push x.born) clock)):=KL _
  have hb2:=(hc2.block b (Array.getElem?_eq_some_iff.1 hb1).1 (by simpa using hbr)).trans hb1
  have hr2:(setBlock w1 r (.mapIter (some b) since (seen.push x.born) clock)).heap[r]?=some (.mapIter (some b) since (seen.push x.born) clock):=by
   show(w1.heap.setIfInBounds r _)[r]?=_
   rw [Array.getElem?_setIfInBounds_self_of_lt (Array.getElem?_eq_some_iff.1 hr1).1]
  refine .inr ⟨kv x,(leftOf es (seen.push x.born)).toList.map kv,_,?_,List.mem_map.2 ⟨x,hxe,rfl⟩,hrun,⟨es,clock,since,_,clock,hb2,hr2,hs,hold,hsk,hsk,rfl,rfl⟩,hc1.trans hc2 (fun _ h=>.inl h),by rw [U6,hz1],
   run_entry_at _ r b since seen es clock x hr2 hb2 hxe hn⟩
  have e1:(leftOf es (seen.push x.born)).toList=(leftOf es seen).toList.filter (fun y=>!(y.born==x.born)):=by
   unfold leftOf
   rw [Array.toList_filter,Array.toList_filter,List.filter_filter]
   refine List.filter_congr (fun y _=>?_)
   rw [contains_push]
   cases seen.contains y.born<;>simp
  rw [e1]
  have hp:=uh x (leftOf es seen).toList (by
   unfold leftOf
   rw [Array.toList_filter]
   exact hn.sublist ((List.filter_sublist).map _)) hx
  exact hp.map kv
end

section
variable {P:Program} {w:World} {ops:Array Oper} {rest:List Oper} {o:Oper} {a:Act} {Q:Exit->Act->World->Prop} {KC:Value->Prop} {G:World->Prop} {k e:TypeId} {b r:Nat} {E L:List (Value×Value)}
theorem JC (hg:o.guard=none) (m x:Operand) (t:TypeId) (c:Bool) (hop:o.op=Op.lookup t m x c) (K:GM P k KC G) (hG:G w) (ht:P.underlying t=some (.map k e)) {z:Value} (hz:(zeroValue e).run P w= .ok z w)
  (hm:a.eval m= .map (some b)) (h:ZI w KC b E) {key:Value} (hx:a.eval x=key) (hk:KC key)
  (hIs:∀v,(key,v)∈E->wpList P ops Q rest (a.put o.dst (if c then .tuple #[v,.bool true] else v)) w)
  (hNo:(∀p∈E,p.1≠key)->wpList P ops Q rest (a.put o.dst (if c then .tuple #[z,.bool false] else z)) w):
  wpList P ops Q (o::rest) a w:=by
 refine wpList_plain hg fun K' hK'=>?_
 unfold Oper.wp
 rcases h.look K hG ht hz hk c with ⟨v,hv,hrun⟩|⟨hn,hrun⟩
 ·simp [execOp,hop,hm,hx,hrun,Result.andThen]
  exact hK' _ _ (hIs v hv)
 ·simp [execOp,hop,hm,hx,hrun,Result.andThen]
  exact hK' _ _ (hNo hn)
theorem Yx (hg:o.guard=none) (m x v:Operand) (t:TypeId) (hop:o.op=Op.mapUpdate t m x v) (K:GM P k KC G) (hG:G w) (ht:P.underlying t=some (.map k e))
  (hm:a.eval m= .map (some b)) (h:ZI w KC b E) {key val:Value} (hx:a.eval x=key) (hv:a.eval v=val) (hk:KC key)
  (hK:∀w' E',ZI w' KC b E'->Qb [b] w w'->w'.heap.size=w.heap.size->(∀p,p∈E'↔(p∈E/\p.1≠key)∨p=(key,val))->wpList P ops Q rest (a.put o.dst undef) w'):
  wpList P ops Q (o::rest) a w:=by
 refine wpList_plain hg fun K' hK'=>?_
 unfold Oper.wp
 obtain⟨w',E',hrun,h1,h2,h3,h4⟩:=h.store (val:=val) K hG ht hk
 simp [execOp,hop,hm,hx,hv,hrun,Result.andThen]
 exact hK' _ _ (hK w' E' h1 h2 h3 h4)
theorem QcT (hg:o.guard=none) (m:Operand) (t:TypeId) (hop:o.op=Op.range t m) (ht:P.underlying t=some (.map k e)) (hm:a.eval m= .map (some b)) (h:ZI w KC b E)
  (hK:∀w',Jt w' b w.heap.size E E->Qb [] w w'->w'.heap.size=w.heap.size+1->wpList P ops Q rest (a.put o.dst (.pointer (some ⟨w.heap.size,0,none⟩))) w'):
  wpList P ops Q (o::rest) a w:=by
 refine wpList_plain hg fun K' hK'=>?_
 unfold Oper.wp
 obtain⟨w',hrun,h1,h2,h3⟩:=h.range (P:=P) ht
 simp [execOp,hop,hm,hrun,Result.andThen]
 exact hK' _ _ (hK w' h1 h2 h3)
theorem QbW (hg:o.guard=none) (it:Operand) (hop:o.op=Op.next it false) (hit:a.eval it= .pointer (some ⟨r,0,none⟩)) (h:Jt w b r E L) (hbr:b≠r)
  (hDone:L=[] ->wpList P ops Q rest (a.put o.dst (.tuple #[.bool false])) w)
  (hMore:∀x v L' w',L.Perm ((x,v)::L')->(x,v)∈E->Jt w' b r E L'->Qb [r] w w'->w'.heap.size=w.heap.size->(Instr.entry (.pointer (some ⟨r,0,none⟩))).run P w'= .ok (.tuple #[x,v]) w'->
   wpList P ops Q rest (a.put o.dst (.tuple #[.bool true,x,v])) w'):
  wpList P ops Q (o::rest) a w:=by
 refine wpList_plain hg fun K' hK'=>?_
 unfold Oper.wp
 rcases h.next (P:=P) hbr o.type with ⟨h0,hrun⟩|⟨⟨x,v⟩,L',w',hp,he,hrun,h1,h2,h3,h4⟩
 ·simp [execOp,hop,hit,hrun,Result.andThen]
  exact hK' _ _ (hDone h0)
 ·simp [execOp,hop,hit,hrun,Result.andThen]
  exact hK' _ _ (hMore x v L' w' hp he h1 h2 h3 h4)
end
end Go.Proofs.YtlnkgcdeljhjcaaGreatDoor
namespace Go.Proofs.YtlnkgcdeljhjcaaGreatDoor
open Go.RowKit

def Zj (w:World) (i:List Int) (v:Value):Prop:=∃A cap,v= .slice A i.length cap/\i.length<=cap/\cap<=maxLen/\
 (i=[] ∨∃b off cs fr,A=some ⟨b,off,none⟩/\w.heap[b]?=some (.cells cs 3 fr)/\∀(j:Nat) (h:j<i.length),w.cell? ⟨b,off+j,none⟩=some (.int .i64 i[j]))
def Qc (w:World) (S:List Nat):Prop:=∀x∈S,∀cs fr,w.heap[x]?≠some (.cells cs 3 fr)
theorem Qc.nil {w:World}:Qc w []:=fun x hx=>by cases hx
theorem Qc.cons {w:World} {x:Nat} {S:List Nat} (h:∀cs fr,w.heap[x]?≠some (.cells cs 3 fr)) (hS:Qc w S):Qc w (x::S):=fun y hy=>by
 rcases List.mem_cons.1 hy with rfl|hy
 ·exact h
 ·exact hS y hy
theorem ZI.nz {w:World} {KC:Value->Prop} {b:Nat} {E:List (Value×Value)} (h:ZI w KC b E):∀cs fr,w.heap[b]?≠some (.cells cs 3 fr):=fun cs fr h1=>by
 obtain⟨es,clock,hb,_⟩:=h
 rw [hb] at h1
 cases h1
theorem Zj.keep {w w':World} {i:List Int} {v:Value} {S:List Nat} (h:Zj w i v) (hc:Qb S w w') (hS:Qc w S):Zj w' i v:=by
 obtain⟨A,cap,rfl,h1,h2,h3⟩:=h
 refine⟨A,cap,rfl,h1,h2,?_⟩
 rcases h3 with h3|⟨b,off,cs,fr,rfl,hb,h3⟩
 ·exact .inl h3
 ·have hlt:b<w.heap.size:=(Array.getElem?_eq_some_iff.1 hb).1
  have hn:b∉S:=fun hx=>hS b hx cs fr hb
  exact .inr ⟨b,off,cs,fr,rfl,(hc.block b hlt hn).trans hb,fun j hj=>(hc.cell (p:=⟨b,off+j,none⟩) hlt hn).trans (h3 j hj)⟩
theorem Zj.nil (w:World) {cap:Nat} (A:Option Addr) (hc:cap<=maxLen):Zj w [] (.slice A 0 cap):=⟨A,cap,rfl,Nat.zero_le _,hc,.inl rfl⟩
theorem Zj.rd {w:World} {i:List Int} {v:Value} (h:Zj w i v):Rd w w.heap.size (yw i) v:=by
 obtain⟨A,cap,rfl,h1,h2,h3⟩:=h
 unfold yw
 rw [Rd]
 refine⟨A,cap,rfl,h1,h2,?_⟩
 rcases h3 with rfl|⟨b,off,cs,fr,rfl,hb,h3⟩
 ·exact .inl rfl
 ·refine .inr ⟨b,off,rfl,(Array.getElem?_eq_some_iff.1 hb).1,?_⟩
  rw [qn]
  intro j d hd
  have hlen:∀l:List Int,(l.flatMap vD).length=l.length:=fun l=>by
   induction l with
   |nil=>rfl
   |cons a l ih=>rw [List.flatMap_cons,List.length_append,ih];simp [vD];omega
  have hj':j<i.length:=by
   have:=(List.getElem?_eq_some_iff.1 hd).1
   rwa [hlen] at this
  rw [Qgp i j hj'] at hd
  cases hd
  exact⟨_,h3 j hj',rfl⟩

def Qz (w:World) {κ:Type} (KC:Value->Prop) (enc:κ->Value) (b:Nat) (X:κ->List Int->Prop):Prop:=
 ∃E,ZI w KC b E/\(∀p∈E,∃k i,p.1=enc k/\Zj w i p.2/\XF (X k) i)/\∀k i,X k i->∃p∈E,p.1=enc k
section
variable {w w':World} {κ:Type} {KC:Value->Prop} {enc:κ->Value} {b:Nat} {X Y:κ->List Int->Prop}
theorem Qz.lt (h:Qz w KC enc b X):b<w.heap.size:=by obtain⟨E,h1,_⟩:=h;exact h1.lt
theorem Qz.nz (h:Qz w KC enc b X):∀cs fr,w.heap[b]?≠some (.cells cs 3 fr):=by obtain⟨E,h1,_⟩:=h;exact h1.nz
theorem Qz.keep {S:List Nat} (h:Qz w KC enc b X) (hc:Qb S w w') (hS:Qc w S) (hb:b∉S:=by first|(simp;done)|((repeat' first|exact List.not_mem_nil|refine List.not_mem_cons_of_ne_of_not_mem ?_ ?_)<;>first|assumption|(apply Ne.symm;assumption)|omega)|(simp;omega)):Qz w' KC enc b X:=by
 obtain⟨E,h1,h2,h3⟩:=h
 exact⟨E,h1.chg hc hb,fun p hp=>by
  obtain⟨k,i,e,hi,hl⟩:=h2 p hp
  exact⟨k,i,e,hi.keep hc hS,hl⟩,h3⟩
theorem Qz.made (w:World) (KC:Value->Prop) (enc:κ->Value) (h:∀k i,¬X k i):Qz (w.alloc (.map #[] 0)) KC enc w.heap.size X:=
 ⟨[],ZI.made w KC,fun p hp=>(by cases hp),fun k i h1=>absurd h1 (h k i)⟩
theorem Qz.congr (h:Qz w KC enc b X) (hx:∀k i,X k i↔Y k i):Qz w KC enc b Y:=by
 have:X=Y:=funext fun k=>funext fun i=>propext (hx k i)
 rwa [<-this]
theorem Qz.wider (h:Qz w KC enc b X) (hsub:∀k i,X k i->Y k i) (hall:∀k i,Y k i->∃j,X k j/\YY j i<=0):Qz w KC enc b Y:=by
 obtain⟨E,h1,h2,h3⟩:=h
 refine⟨E,h1,fun p hp=>?_,fun k i hi=>?_⟩
 ·obtain⟨k,i,e,hv,hl⟩:=h2 p hp
  exact⟨k,i,e,hv,hsub _ _ hl.1,fun j hj=>by
   obtain⟨j',h4,h5⟩:=hall _ _ hj
   exact Kx (hl.2 _ h4) h5⟩
 ·obtain⟨j,h4,_⟩:=hall k i hi
  exact h3 k j h4
theorem Qz.put {E E':List (Value×Value)} {k0:κ} {i0:List Int} {vi:Value} (hinj:∀a c,enc a=enc c->a=c) (h2:∀p∈E,∃k i,p.1=enc k/\Zj w i p.2/\XF (X k) i) (h3:∀k i,X k i->∃p∈E,p.1=enc k)
  (hle:∀p∈E,p.1=enc k0->∃old,Zj w old p.2/\XF (X k0) old/\YY i0 old<=0)
  (h':ZI w' KC b E') (hm:∀p,p∈E'↔(p∈E/\p.1≠enc k0)∨p=(enc k0,vi)) (hkeep:∀i v,Zj w i v->Zj w' i v) (hv:Zj w' i0 vi):Qz w' KC enc b (fun k i=>X k i∨(k=k0/\i=i0)):=by
 refine⟨E',h',fun p hp=>?_,fun k i hi=>?_⟩
 ·rcases(hm p).1 hp with ⟨hp1,hne⟩|rfl
  ·obtain⟨k,i,e,hv1,hl⟩:=h2 p hp1
   refine⟨k,i,e,hkeep _ _ hv1,.inl hl.1,?_⟩
   rintro j (hj|⟨rfl,_⟩)
   ·exact hl.2 _ hj
   ·exact absurd e hne
  ·refine⟨k0,i0,rfl,hv,.inr ⟨rfl,rfl⟩,?_⟩
   rintro j (hj|⟨_,rfl⟩)
   ·obtain⟨q,hq,e⟩:=h3 k0 j hj
    obtain⟨old,_,hl,hc⟩:=hle q hq e
    exact Kx hc (hl.2 _ hj)
   ·rw [WZ];omega
 ·rcases hi with hi|⟨rfl,_⟩
  ·obtain⟨q,hq,e⟩:=h3 k i hi
   by_cases hk:k=k0
   ·exact⟨(enc k0,vi),(hm _).2 (.inr rfl),by rw [hk]⟩
   ·exact⟨q,(hm _).2 (.inl ⟨hq,fun e1=>hk (hinj _ _ (by rw [<-e,e1]))⟩),e⟩
  ·exact⟨(enc k,vi),(hm _).2 (.inr rfl),rfl⟩
theorem Qz.stay {E:List (Value×Value)} {k0:κ} {i0 old:List Int} {v:Value} (h1:ZI w KC b E) (h2:∀p∈E,∃k i,p.1=enc k/\Zj w i p.2/\XF (X k) i) (h3:∀k i,X k i->∃p∈E,p.1=enc k)
  (hp:(enc k0,v)∈E) (ho:XF (X k0) old) (hc:0<=YY i0 old):Qz w KC enc b (fun k i=>X k i∨(k=k0/\i=i0)):=by
 refine⟨E,h1,fun p hp'=>?_,fun k i hi=>?_⟩
 ·obtain⟨k,i,e,hv,hl⟩:=h2 p hp'
  refine⟨k,i,e,hv,.inl hl.1,?_⟩
  rintro j (hj|⟨rfl,rfl⟩)
  ·exact hl.2 _ hj
  ·rw [hl.one ho]
   exact(zA _ _).2 hc
 ·rcases hi with hi|⟨rfl,_⟩
  ·exact h3 k i hi
  ·exact⟨_,hp,rfl⟩
end
def QX (t:ByteArray×ByteArray×ByteArray):Value:=.agg #[.string t.1,.string t.2.1,.string t.2.2]
theorem Qch:Maps.Keyed Tryz.prog 88:=Maps.Keyed.of_law (deep_law_laid (m:=4) (by kernel_rfl) (by decide) (by decide+kernel) (by kernel_rfl) (by kernel_rfl))
theorem Qc2:Maps.Keyed Tryz.prog 90:=Maps.Keyed.of_law (deep_law_laid (m:=4) (by kernel_rfl) (by decide) (by decide+kernel) (by kernel_rfl) (by kernel_rfl))
theorem Qb2 (t:ByteArray×ByteArray×ByteArray) (h1:t.1.size<=maxLen) (h2:t.2.1.size<=maxLen) (h3:t.2.2.size<=maxLen):∃l,keyOf Tryz.prog 88 (QX t)=some l:=by
 have h0:Tryz.prog.underlying 88=some (.array 3 9):=by kernel_rfl
 have hs:Tryz.prog.underlying 9=some .string:=by kernel_rfl
 have hk:(Tryz.prog.keyType 88&&(QX t).formed Tryz.prog 88)=true:=by kernel_rfl
 have hc:Tryz.prog.cellsOf 88=3:=by kernel_rfl
 have hc1:Tryz.prog.cellsOf 9=1:=by kernel_rfl
 have h3t:3<=Tryz.prog.types.size:=by decide+kernel
 obtain⟨m,hm⟩:∃m,Tryz.prog.types.size+1=m+1+1:=⟨Tryz.prog.types.size-1,by omega⟩
 have hl:∀s:ByteArray,s.size<=maxLen->Tryz.prog.keyLits (m+1) 9 [.string s]=some [.string s.data.toList]:=fun s h=>by
  unfold Program.keyLits
  rw [hs]
  simp only
  rw [if_pos h]
 have ha:Tryz.prog.keyLits (m+1+1) 88 [.string t.1,.string t.2.1,.string t.2.2]=some [.string t.1.data.toList,.string t.2.1.data.toList,.string t.2.2.data.toList]:=by
  unfold Program.keyLits
  rw [h0]
  simp only
  rw [hc,hc1]
  simp [List.range_succ,hl,h1,h2,h3]
 unfold keyOf
 rw [h0]
 simp only
 rw [if_pos hk,hm]
 have hcs:(QX t).cells.toList=[.string t.1,.string t.2.1,.string t.2.2]:=rfl
 rw [hcs,ha]
 exact⟨_,rfl⟩
def VU (v:Value):Prop:=∃t:ByteArray×ByteArray×ByteArray,v=QX t/\t.1.size<=maxLen/\t.2.1.size<=maxLen/\t.2.2.size<=maxLen
theorem W6:GM Tryz.prog 88 VU (fun _=>True):=GM.of_keyed Qch (fun v hv=>by
 obtain⟨t,rfl,h1,h2,h3⟩:=hv
 exact Qb2 t h1 h2 h3)
theorem Xe {a c:ByteArray×ByteArray×ByteArray} (h:QX a=QX c):a=c:=by
 obtain⟨a1,a2,a3⟩:=a
 obtain⟨c1,c2,c3⟩:=c
 simp [QX] at h
 simp [h]
theorem Wj (X:ByteArray×ByteArray×ByteArray->List Int->Prop) (b:Nat) (t:ByteArray×ByteArray×ByteArray) (i:List Int) (vi:Value) (w:World) (h1:t.1.size<=maxLen) (h2:t.2.1.size<=maxLen) (h3:t.2.2.size<=maxLen)
  (hm:Qz w VU QX b X) (hv:Zj w i vi):
  Calls Tryz.prog 96 #[.map (some b),QX t,vi] w fun e w'=>e= .returned (.tuple #[])/\Qz w' VU QX b (fun k j=>X k j∨(k=t/\j=i))/\Qb [b] w w':=by
 have hkc:VU (QX t):=⟨t,rfl,h1,h2,h3⟩
 have hlt:=hm.lt
 obtain⟨E,hE,hp,hall⟩:=hm
 have hu:Tryz.prog.underlying 69=some (.map 88 25):=by kernel_rfl
 have hz:∀W:World,(zeroValue 25).run Tryz.prog W= .ok (.slice none 0 0) W:=fun W=>by kernel_rfl
 unfold QX at *
 go_enter Tryz.func96,Tryz.ntmps96
 have hE1:=fun o:Obj=>hE.chg ((Qb.refl [] w).alloc o) (by simp)
 have tt:w.heap.size<w.heap.size+1:=Nat.lt_succ_self _
 go_wp2_with (first|(at_lookup;refine JC rfl (.tmp 9) (.tmp 10) 69 true rfl W6 trivial hu (hz _) rfl (hE1 _) rfl hkc ?_ ?_)|fail)
 ·intro v hmem
  obtain⟨k,old,ek,hvo,hl⟩:=hp _ hmem
  obtain rfl:t=k:=Xe ek
  have hvo2:=hvo
  have hv2:=hv
  obtain⟨A,cap,ev,_⟩:=hvo2
  obtain⟨A',cap',ev',_⟩:=hv2
  simp only at ev
  subst ev ev'
  have CI:=Qd (fun W (hW:Qb [] w W)=>ZJ i old _ _ _ _ W (hv.keep hW Qc.nil).rd (hvo.keep hW Qc.nil).rd (Nat.le_refl _) (Nat.le_refl _))
  by_cases hc:YY i old<0
  ·go_wp2_with fail
   refine(CI.out _ Qb.now).mono ?_
   rintro e w1 ⟨rfl,c1⟩
   have y0:=(c1.ce w.heap.size (by simp) (by simp)) 0
   have y1:=(c1.ce w.heap.size (by simp) (by simp)) 1
   have y2:=(c1.ce w.heap.size (by simp) (by simp)) 2
   have hcw:Qb [] w w1:=Qb.tz Qb.now c1
   have hE2:=hE.chg hcw (by simp)
   go_wp2_with (first|(at_mapUpdate;refine Yx rfl (.tmp 22) (.tmp 23) (.tmp 24) 69 rfl W6 trivial hu rfl hE2 rfl rfl hkc ?_;intro w2 E' hE' hc2 hs2 hm2)|fail)
   go_end0
   have hno:Qc w1 [b]:=Qc.cons hE2.nz Qc.nil
   exact⟨rfl,Qz.put (w:=w1) (fun _ _ h=>Xe h) (fun p hq=>by
    obtain⟨k,i,e,h4,h5⟩:=hp p hq
    exact⟨k,i,e,h4.keep hcw Qc.nil,h5⟩) hall (fun p hq e=>by
    obtain⟨k,j,e2,h4,h5⟩:=hp p hq
    obtain rfl:t=k:=Xe (e.symm.trans e2)
    exact⟨j,h4.keep hcw Qc.nil,h5,by rw [h5.one hl];omega⟩) hE' hm2 (fun j u hj=>hj.keep hc2 hno) ((hv.keep hcw Qc.nil).keep hc2 hno),hcw.ty hc2⟩
  ·go_wp2_with fail
   refine(CI.out _ Qb.now).mono ?_
   rintro e w1 ⟨rfl,c1⟩
   have hcw:Qb [] w w1:=Qb.tz Qb.now c1
   go_wp2_with fail
   go_end0
   have hst:=Qz.stay (w:=w) (enc:=QX) (k0:=t) (i0:=i) hE hp hall hmem hl (by omega)
   exact⟨rfl,hst.keep hcw Qc.nil (by simp),hcw.mono (by simp)⟩
 ·intro hno0
  have hcw:∀o,Qb [] w (w.alloc o):=fun o=>(Qb.refl _ _).alloc o
  go_wp2_with (first|(at_mapUpdate;refine Yx rfl (.tmp 22) (.tmp 23) (.tmp 24) 69 rfl W6 trivial hu rfl (hE1 _) rfl rfl hkc ?_;intro w2 E' hE' hc2 hs2 hm2)|fail)
  go_end0
  have hno:∀o,Qc (w.alloc o) [b]:=fun o=>Qc.cons (hE1 o).nz Qc.nil
  exact⟨rfl,Qz.put (w:=w.alloc _) (fun _ _ h=>Xe h) (fun p hq=>by
   obtain⟨k,i,e,h4,h5⟩:=hp p hq
   exact⟨k,i,e,h4.keep (hcw _) Qc.nil,h5⟩) hall (fun p hq e=>absurd e (hno0 p.1 p.2 hq)) hE' hm2 (fun j u hj=>hj.keep hc2 (hno _)) ((hv.keep (hcw _) Qc.nil).keep hc2 (hno _)),(hcw _).ty hc2⟩
theorem uN {w:World}:∀ {l:List Int} {us:List Value} {S:List Nat},Qt w (l.map fun x=>QK.v (.int .i64 x)) us S->us=l.map (Value.int .i64)
 | [],us,S,h=>by
  rw [List.map_nil,Qt] at h
  exact h.1
 |x::l,us,S,h=>by
  rw [List.map_cons,Qt] at h
  obtain⟨u,us',S1,S2,rfl,_,h1,h2⟩:=h
  rw [Ye] at h1
  rw [List.map_cons,uN h2,h1.1]
theorem XG.intsV {w0 w:World} {v:Value} {l:List Int} (h:XG w0 w 3 1 v l.length (l.map fun x=>QK.v (.int .i64 x))):Zj w l v:=by
 obtain⟨xs,S',hrow,hown,_⟩:=h
 have hxs:=uN hown
 obtain⟨hlen,⟨rfl,h0⟩|⟨g,cap,cur,rfl,_,hg,h1,h2,h3,h4⟩⟩:=hrow
 ·exact⟨none,0,by rw [h0],by omega,by unfold maxLen;omega,.inl (List.eq_nil_of_length_eq_zero h0)⟩
 ·refine⟨_,cap,rfl,h1,h2,.inr ⟨g,0,cur,(0,0),rfl,hg,fun j hj=>?_⟩⟩
  rw [cell_of_row w g (0+j) cur 3 (0,0) hg,Nat.zero_add, <-Array.getElem?_toList]
  have e1:cur.toList[j]?=(cur.toList.take (l.length * 1))[j]?:=by rw [List.getElem?_take,if_pos (by omega)]
  rw [e1,h4,hxs,List.getElem?_map,List.getElem?_eq_getElem hj]
  rfl
theorem Zj.news {w:World} {l:List Int} {A:Option Addr} {cap:Nat} (h:Zj w l (.slice A l.length cap)):(l.map (Value.int .i64))≠ [] ->∃b off,A=some ⟨b,off,none⟩/\∀j u,(l.map (Value.int .i64))[j]?=some u->w.cell? ⟨b,off+j,none⟩=some u:=fun hne=>by
 obtain⟨A',cap',e,_,_,h3⟩:=h
 obtain⟨rfl,_⟩:A=A'/\True:=⟨by injection e,trivial⟩
 rcases h3 with rfl|⟨b,off,cs,fr,rfl,_,h3⟩
 ·exact absurd rfl hne
 ·refine⟨b,off,rfl,fun j u hu=>?_⟩
  rw [List.getElem?_map] at hu
  obtain⟨hj,e2⟩:∃hj:j<l.length,u= .int .i64 l[j]:=by
   cases hj:l[j]? with
   |none=>rw [hj] at hu;cases hu
   |some x=>
    obtain⟨h4,h5⟩:=List.getElem?_eq_some_iff.1 hj
    rw [hj] at hu
    exact⟨h4,by rw [h5];exact(Option.some.inj hu).symm⟩
  rw [e2]
  exact h3 j hj
theorem WN (a b:List Int) (va vb:Value) (w:World) (ha:Zj w a va) (hb:Zj w b vb) (hn:a.length+b.length<=1000000):
  Calls Tryz.prog 97 #[va,vb] w fun e w'=>∃v,e= .returned v/\Zj w' (a++b) v/\Qb [] w w':=by
 obtain⟨Aa,ca,ea,_⟩:=id ha
 obtain⟨Ab,cb,eb,_⟩:=id hb
 subst ea eb
 have one:∀(l:List Int),∀u∈l.map (Value.int .i64),u.oneCell'=true:=fun l u hu=>by
  obtain⟨x,_,rfl⟩:=List.mem_map.1 hu
  rfl
 go_enter Tryz.func97,Tryz.ntmps97
 have R1:=Qd (ZE 25 25 3 _ 1 8 Tryz.underlying25 Jg rfl (by omega) (XG.nil w 3 1 (Qb.refl _ _)) (Qb.refl _ _) Aa a.length ca (a.map (Value.int .i64)) (by simp) ha.news (one a) (by omega) (by omega))
 have R2:=Qd (fun(A1:Option Addr) (c1:Nat) (w1:World) (hA1:XG w w1 3 1 (.slice A1 a.length c1) a.length ((a.map (Value.int .i64)).map QK.v))=>ZE 25 25 3 _ 1 8 Tryz.underlying25 Jg rfl (by omega) hA1 (Qb.refl _ _) Ab b.length cb (b.map (Value.int .i64)) (by simp) (hb.keep (show Qb [] w w1 from hA1.chg) Qc.nil).news (one b) (by omega) (by omega))
 clear ha hb one
 go_wp2_with (first|(at_builtin;refine WW rfl (.const (.slice none 0 0)) (.tmp 5) _ rfl rfl rfl R1.out ?_;rintro A1 c1 w1 ⟨hA1,_,_⟩;simp only [Nat.zero_add,List.nil_append] at hA1 ⊢;have R3:=Qd (R2.out A1 c1 w1 hA1);clear hA1 R1 R2)|(at_builtin;refine WW rfl (.tmp 6) (.tmp 7) _ rfl rfl rfl R3.out ?_;rintro A2 c2 w2 ⟨hA2,_,_⟩)|fail)
 go_ret
 refine⟨_,rfl,?_,hA2.chg⟩
 have e1:(a.map (Value.int .i64)).map QK.v++(b.map (Value.int .i64)).map QK.v=(a++b).map fun x=>QK.v (.int .i64 x):=by rw [List.map_map,List.map_map, <-List.map_append];rfl
 have e2:a.length+b.length=(a++b).length:=by simp
 rw [e1] at hA2
 first
  |(rw [e2] at hA2 ⊢;exact hA2.intsV)
  |(have h:=hA2;rw [e2] at h;simpa using h.intsV)
end Go.Proofs.YtlnkgcdeljhjcaaGreatDoor
