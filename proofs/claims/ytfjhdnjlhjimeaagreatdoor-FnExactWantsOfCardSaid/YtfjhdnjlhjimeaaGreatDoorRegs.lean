/- A region that draws its order. Conditions: as stated. -/
import Derived.Test.YtfjhdnjlhjimeaaGreatDoorGround
import Derived.OrdersHeld
import Derived.RegionTactic
namespace Go.Proofs.YtfjhdnjlhjimeaaGreatDoor
open Go.RowKit

theorem alc {w:World} {o:Obj} {p:Addr} {u:Value} {P Q:Prop} (k:P->Q) (h:w.cell? p=some u/\P):(w.alloc o).cell? p=some u/\Q:=⟨(World.cell?_alloc_lt _ _ _ (Qk h.1)).trans h.1,k h.2⟩
theorem j9 {w:World} {o:Obj} {p:Addr} {u:Value} (h:w.cell? p=some u):(w.alloc o).cell? p=some u:=(World.cell?_alloc_lt _ _ _ (Qk h)).trans h
section
variable {P:Program} {ops:Array Oper} {Q:Exit->Act->World->Prop} {md:Region.Mode} {S:World->Prop}

def Wj (b:Array Bool):Bool:=b.any fun x=>!x
def QI (P:Program) (md:Region.Mode) (ops:Array Oper) (Q:Exit->Act->World->Prop) (S:World->Prop):Nat->Array Bool->Act->World->Prop
 |0,b,a,w=>Region.ready md ops b=[] /\Q .normal a w
 | n+1,b,a,w=>(Region.ready md ops b=[] ->Q .normal a w)/\∀i∈Region.ready md ops b,
   wpOp P ops Q i (fun a' w'=>(Wj (b.setIfInBounds i true)=true->S w')/\QI P md ops Q S n (b.setIfInBounds i true) a' w') a w
theorem QI.any:∀(n:Nat) (b:Array Bool) (a:Act) (w:World),QI P md ops Q S n b a w->wpAny P md ops Q n b a w
 |0,_,_,_,h=>h
 |n+1,_,_,_,h=>⟨h.1,fun i hi=>wpOp_mono (fun a' w' k=>QI.any n _ a' w' k.2) (h.2 i hi)⟩
theorem QbI {b:Array Bool} {k:Nat} (h:b.getD k true=false):Wj b=true:=by
 unfold Wj
 rcases Y6 k b.size with hk|hk
 ·rw [Array.any_eq_true]
  refine⟨k,hk,?_⟩
  have:b.getD k true=b[k]:=by simp [Array.getD,hk]
  rw [this] at h
  simp [h]
 ·simp [hk] at h
theorem QI.first {i k:Nat} {oi ok:Oper} {v:Value} (hi:ops[i]?=some oi) (hsel:∀(j:Nat) (o:Oper) cs b,ops[j]?=some o->o.op≠ .select cs b) (hQ:∀c a w,Q (.panic c) (a.put oi.dst v) w->Q (.panic c) a w)
  (hk:ops[k]?=some ok) (hw:∃e∈ok.after,Region.binds md e=true/\e.on=i) (hki:k≠i):∀(n:Nat) (b:Array Bool) (a:Act) (w:World),
  (∀j oj,ops[j]?=some oj->j≠i->b.getD j true=false->(∀e∈oj.after,Region.binds md e=true->e.on≠i)->oi.apart ops oj=true)->
  b.getD k true=false->i∈Region.ready md ops b->YieldsIf P ops S oi v a->S w->QI P md ops Q S n (b.setIfInBounds i true) (a.put oi.dst v) w->QI P md ops Q S (n+1) b a w:=by
 intro n
 induction n with
 | zero=>
  intro b a w _ hkb hr hy hS h
  refine⟨fun e=>absurd (e ▸ hr) (by simp),fun j hj=>?_⟩
  by_cases e:j=i
  ·subst e
   exact hy.wpOp hi hS ⟨fun _=>hS,h⟩
  ·have:=ready_mono hj e
   rw [h.1] at this;cases this
 | succ n ih=>
  intro b a w hf hkb hr hy hS h
  refine⟨fun e=>absurd (e ▸ hr) (by simp),fun j hj=>?_⟩
  by_cases e:j=i
  ·subst e
   exact hy.wpOp hi hS ⟨fun _=>hS,h⟩
  ·obtain⟨hjb,oj,hoj,hja⟩:=mem_ready.1 hj
   have hib:=(mem_ready.1 hr).1
   have hfalse:∀m,b.getD m true=false->b.getD m false=true->False:=fun m h0 h1=>by
    rcases Y6 m b.size with h'|h'
    ·simp [h'] at h0 h1;rw [h0] at h1;cases h1
    ·simp [h'] at h0
   have hnot:∀e∈oj.after,Region.binds md e=true->e.on≠i:=fun x hx hb heq=>hfalse i hib (by have:=hja x hx hb;rwa [heq] at this)
   have hjk:j≠k:=by
    rintro rfl
    obtain rfl:=M1 (hk.symm.trans hoj)
    obtain⟨x,hx,hb,heq⟩:=hw
    exact hnot x hx hb heq
   have h2:=wpOp_putIf hoj (hf j oj hoj e hjb hnot) (fun cs b=>hsel i oi cs b hi) (fun cs b=>hsel j oj cs b hoj) hQ hy (h.2 j (ready_mono hj e))
   refine wpOp_mono (fun a' w' h3=>?_) h2
   have hk1:(b.setIfInBounds j true).getD k true=false:=by rw [getD_set_ne true hjk];exact hkb
   have hk2:((b.setIfInBounds i true).setIfInBounds j true).getD k true=false:=by
    rw [getD_set_ne true hjk,getD_set_ne true (j5 hki)];exact hkb
   have hS':S w':=h3.2.1 (QbI hk2)
   refine⟨fun _=>hS',ih _ a' w' (fun m om hm hmi hun hno=>hf m om hm hmi ?_ hno) hk1 (ready_mono hr (j5 e)) h3.1 hS' ?_⟩
   ·by_cases hjm:j=m
    ·subst hjm;exact hjb
    ·rw [getD_set_ne true hjm] at hun;exact hun
   ·rw [Array.setIfInBounds_comm _ _ e]
    exact h3.2.2
theorem QI.take {i k:Nat} {oi ok:Oper} {v:Value} {n:Nat} {b:Array Bool} {a:Act} {w:World} (hi:ops[i]?=some oi) (hk:ops[k]?=some ok) (hw:(ok.after.any fun e=>Region.binds md e&&e.on==i)=true) (hki:(k==i)=false) (hkb:b.getD k true=false)
  (hs:Region.noSelect ops=true) (hf:Region.free md ops b i=true) (hr:(Region.ready md ops b).contains i=true) (hQ:∀c a w,Q (.panic c) (a.put oi.dst v) w->Q (.panic c) a w)
  (hy:YieldsIf P ops S oi v a) (hS:S w) (h:QI P md ops Q S n (b.setIfInBounds i true) (a.put oi.dst v) w):QI P md ops Q S (n+1) b a w:=by
 refine QI.first hi (Region.noSelect_spec hs) hQ hk ?_ (by simpa using hki) n b a w (Region.free_spec hi hf) hkb (by simpa using hr) hy hS h
 obtain⟨e,he,hb⟩:=Array.any_eq_true'.1 hw
 rw [T0,beq_iff_eq] at hb
 exact⟨e,he,hb⟩
theorem QI.tk (i k:Nat) {oi ok:Oper} {v:Value} {n:Nat} {b:Array Bool} {a a':Act} {w:World} (hS:S w) (hi:ops[i]?=some oi:=by rw [List.getElem?_toArray];exact rfl) (hk:ops[k]?=some ok:=by rfl) (hw:(ok.after.any fun e=>Region.binds md e&&e.on==i)=true:=by kernel_rfl) (hki:(k==i)=false:=by rfl) (hkb:b.getD k true=false:=by kernel_rfl)
  (hs:Region.noSelect ops=true:=by kernel_rfl) (hf:Region.free md ops b i=true:=by kernel_rfl) (hr:(Region.ready md ops b).contains i=true:=by kernel_rfl) (hQ:∀c a w,Q (.panic c) (a.put oi.dst v) w->Q (.panic c) a w:=by exact fun _ _ _ h=>h)
  (hy:YieldsIf P ops S oi v a:=by(refine Or.inl ⟨by rfl,?_⟩;intro W hW;(try dsimp only at hW);go_simp;try with_reducible rfl)) (ha:a.put oi.dst v=a':=by(try simp only [Act.put,D0,C8,C9]);rfl)
  (h:QI P md ops Q S n (b.setIfInBounds i true) a' w):QI P md ops Q S (n+1) b a w:=by
 subst ha
 exact QI.take hi hk hw hki hkb hs hf hr hQ hy hS h
def WS (P:Program) (md:Region.Mode) (ops:Array Oper) (Q:Exit->Act->World->Prop) (S:World->Prop) (n:Nat) (b:Array Bool) (a:Act) (w:World) (rs:List Nat):Prop:=
 ∀i∈rs,wpOp P ops Q i (fun a' w'=>(Wj (b.setIfInBounds i true)=true->S w')/\QI P md ops Q S n (b.setIfInBounds i true) a' w') a w
theorem QI.all {rs:List Nat} {n:Nat} {b:Array Bool} {a:Act} {w:World} (hr:Region.ready md ops b=rs) (hne:rs≠ []) (h:WS P md ops Q S n b a w rs):QI P md ops Q S (n+1) b a w:=
 ⟨fun e=>absurd (hr ▸ e) hne,hr ▸ h⟩
theorem WS.nil {n:Nat} {b:Array Bool} {a:Act} {w:World}:WS P md ops Q S n b a w []:=fun _ h=>by cases h
theorem WS.cons {n:Nat} {b:Array Bool} {a:Act} {w:World} {i:Nat} {o:Oper} {rs:List Nat} (ho:ops[i]?=some o)
  (h:∀K':Act->World->Prop,Hid (∀a w,(Wj (b.setIfInBounds i true)=true->S w)->((Wj (b.setIfInBounds i true)=true->S w)->QI P md ops Q S n (b.setIfInBounds i true) a w)->K' a w)->if Region.wanted o (yielded ops a.tmps)=true then Oper.wp P o a w K' Q else K' (a.put o.dst undef) w)
  (hs:WS P md ops Q S n b a w rs):WS P md ops Q S n b a w (i::rs):=fun j hj=>by
 rcases C7.1 hj with rfl|hj
 ·exact wpOp_step ho (fun K' hK=>h K' (Qb (fun a w hS hW=>hK a w ⟨hS,hW hS⟩)))
 ·exact hs j hj
theorem WS.cn {n:Nat} {b:Array Bool} {a:Act} {w:World} {i:Nat} {o:Oper} {rs:List Nat} (ho:ops[i]?=some o:=by rw [List.getElem?_toArray];exact rfl)
  (h:∀K':Act->World->Prop,Hid (∀a w,(Wj (b.setIfInBounds i true)=true->S w)->((Wj (b.setIfInBounds i true)=true->S w)->QI P md ops Q S n (b.setIfInBounds i true) a w)->K' a w)->if Region.wanted o (yielded ops a.tmps)=true then Oper.wp P o a w K' Q else K' (a.put o.dst undef) w)
  (hs:WS P md ops Q S n b a w rs):WS P md ops Q S n b a w (i::rs):=.cons ho h hs
theorem QI.on {n:Nat} {b:Array Bool} {a:Act} {w:World} (i:Nat) {o:Oper} (hr:Region.ready md ops b=[i]:=by kernel_rfl) (ho:ops[i]?=some o:=by rw [List.getElem?_toArray];exact rfl)
  (h:∀K':Act->World->Prop,Hid (∀a w,(Wj (b.setIfInBounds i true)=true->S w)->((Wj (b.setIfInBounds i true)=true->S w)->QI P md ops Q S n (b.setIfInBounds i true) a w)->K' a w)->if Region.wanted o (yielded ops a.tmps)=true then Oper.wp P o a w K' Q else K' (a.put o.dst undef) w):QI P md ops Q S (n+1) b a w:=
 .all hr (by simp) (.cons ho h .nil)
theorem Wk {n:Nat} {b:Array Bool} {a a':Act} {w:World} {K':Act->World->Prop} (hK:Hid (∀a w,(Wj b=true->S w)->((Wj b=true->S w)->QI P md ops Q S n b a w)->K' a w)) (hS:S w) (k:S w->QI P md ops Q S n b a' w) (ha:a=a':=by(try simp only [Act.put,D0,C8,C9]);rfl):K' a w:=
 ha ▸ hK.out _ _ (fun _=>hS) (fun _=>ha ▸ k hS)
theorem jK {n:Nat} {b:Array Bool} {a a':Act} {w:World} {K':Act->World->Prop} (hK:Hid (∀a w,(Wj b=true->S w)->((Wj b=true->S w)->QI P md ops Q S n b a w)->K' a w)) (k:QI P md ops Q S n b a' w) (hl:Wj b=false:=by kernel_rfl) (ha:a=a':=by(try simp only [Act.put,D0,C8,C9]);rfl):K' a w:=
 ha ▸ hK.out _ _ (fun h=>absurd (hl.symm.trans h) Bool.false_ne_true) (fun _=>ha ▸ k)
theorem QI.done {b:Array Bool} {a:Act} {w:World} (hr:Region.ready md ops b=[]) (h:Q .normal a w):∀n,QI P md ops Q S n b a w
 |0=>⟨hr,h⟩
 |_+1=>⟨fun _=>h,by rw [hr];simp⟩
theorem QI.mono {S':World->Prop} (hS:∀w,S w->S' w):∀(n:Nat) (b:Array Bool) (a:Act) (w:World),QI P md ops Q S n b a w->QI P md ops Q S' n b a w
 |0,_,_,_,h=>h
 |n+1,_,_,_,h=>⟨h.1,fun i hi=>wpOp_mono (fun a' w' k=>⟨fun hl=>hS _ (k.1 hl),QI.mono hS n _ a' w' k.2⟩) (h.2 i hi)⟩
theorem QI.with_ {n:Nat} {b:Array Bool} {a:Act} {w:World} (h:S w) (k:S w->QI P md ops Q S n b a w):QI P md ops Q S n b a w:=k h
theorem WL {id:Nat} {a:Act} {w:World} (hm:P.follows .mixedOrders=true) (h:QI P .any ops Q S ops.size (Array.replicate ops.size false) a w.drew):(Code.region id ops true).wp P Q a w:=
 wp_region_any hm (h.any _ _ _ _)
end
theorem yy:∀(l:List Bool) (i:Nat),l[i]?=some false->(l.set i true).count false+1=l.count false
 | [],_,h=>by simp at h
 |b::l,0,h=>by
  simp at h
  subst h
  simp
 |b::l,i+1,h=>by
  have:=yy l i (by simpa using h)
  rw [C9,List.count_cons,List.count_cons]
  omega
def kT (ops:Array Oper):Bool:=(List.range ops.size).all fun i=>((ops[i]?).map (fun o=>o.after.all fun e=>!Region.binds .any e || decide (e.on<i))).getD true
theorem uy {ops:Array Oper} (h:kT ops=true) {i:Nat} {o:Oper} (hi:ops[i]?=some o) {e:Edge} (he:e∈o.after) (hb:Region.binds .any e=true):e.on<i:=by
 have hl:i<ops.size:=(F5.1 hi).1
 have h1:=g7.1 h i (List.mem_range.2 hl)
 rw [hi] at h1
 simp only [Option.map_some,Option.getD_some] at h1
 have h2:=Array.all_eq_true_iff_forall_mem.1 h1 e he
 simpa [hb] using h2
theorem qx {ops:Array Oper} (hl:kT ops=true) {b:Array Bool} (hs:b.size=ops.size) (h:Region.ready .any ops b=[]):∀n j,j<n->b.getD j true=true
 |0,j,hj=>by omega
 | n+1,j,hj=>by
  have ih:=qx hl hs h n
  rcases Y6 j b.size with h1|h1
  ·cases hb:b.getD j true with
   |true=>rfl
   | false=>
    have hm:j∈Region.ready .any ops b:=mem_ready.2 ⟨hb,ops[j]'(by omega),Array.getElem?_eq_getElem (by omega),fun e he hbb=>by
     have hlt:=uy hl (Array.getElem?_eq_getElem (show j<ops.size by omega)) he hbb
     have:=ih e.on (by omega)
     have h3:e.on<b.size:=by omega
     simpa [Array.getD,h3] using this⟩
    rw [h] at hm
    cases hm
  ·simp [Array.getD,show ¬j<b.size by omega]
section
variable {P:Program} {ops:Array Oper} {Q:Exit->Act->World->Prop}
theorem Qgo {Inv:(Nat->Bool)->Act->World->Prop} (hl:kT ops=true)
  (step:∀i o,ops[i]?=some o->∀d a w,d i=false->(∀e∈o.after,Region.binds .any e=true->d e.on=true)->Inv d a w->
   ∀K':Act->World->Prop,Hid (∀a w,Inv (fun j=>j==i || d j) a w->K' a w)->if Region.wanted o (yielded ops a.tmps)=true then Oper.wp P o a w K' Q else K' (a.put o.dst undef) w)
  (fin:∀a w,Inv (fun _=>true) a w->Q .normal a w):
  ∀(n:Nat) (b:Array Bool) (a:Act) (w:World),b.size=ops.size->b.toList.count false<=n->Inv (fun j=>b.getD j true) a w->wpAny P .any ops Q n b a w:=by
 intro n
 induction n with
 | zero=>
  intro b a w hs hc hI
  have hr:Region.ready .any ops b=[]:=by
   cases h:Region.ready .any ops b with
   |nil=>rfl
   | cons i r=>
    have hm:i∈Region.ready .any ops b:=by rw [h];exact K0
    have h0:=(mem_ready.1 hm).1
    rcases Y6 i b.size with h1|h1
    ·have h2:b.toList[i]?=some false:=by
      have:b[i]=false:=by simpa [Array.getD,h1] using h0
      rw [T6,Array.getElem?_eq_getElem h1,this]
     have:=yy b.toList i h2
     omega
    ·simp [Array.getD,show ¬i<b.size by omega] at h0
  refine⟨hr,fin a w ?_⟩
  have:(fun j=>b.getD j true)=fun _=>true:=funext fun j=>qx hl hs hr (j+1) j (by omega)
  rwa [this] at hI
 | succ n ih=>
  intro b a w hs hc hI
  refine⟨fun hr=>fin a w ?_,fun i hm=>?_⟩
  ·have:(fun j=>b.getD j true)=fun _=>true:=funext fun j=>qx hl hs hr (j+1) j (by omega)
   rwa [this] at hI
  ·obtain⟨h0,o,ho,hpre⟩:=mem_ready.1 hm
   have hlt:i<ops.size:=(F5.1 ho).1
   have h1:i<b.size:=by omega
   have h2:b.toList[i]?=some false:=by
    have:b[i]=false:=by simpa [Array.getD,h1] using h0
    rw [T6,Array.getElem?_eq_getElem h1,this]
   refine wpOp_step ho (fun K' hK=>step i o ho _ a w h0 (fun e he hb=>?_) hI K' (Qb fun a' w' h=>hK a' w' (ih _ a' w' (by simpa using hs) ?_ ?_)))
   ·have h3:=hpre e he hb
    have h4:e.on<b.size:=by have:=uy hl ho he hb;omega
    simpa [Array.getD,h4] using h3
   ·rw [Array.toList_setIfInBounds]
    have:=yy b.toList i h2
    omega
   ·have:(fun j=>(b.setIfInBounds i true).getD j true)=fun j=>j==i || b.getD j true:=funext fun j=>by
     by_cases e:j=i
     ·subst e
      simp [Array.getD,h1]
     ·rw [getD_set_ne true (j5 e)]
      simp [e]
    rw [this]
    exact h
def QbO (R:Nat->Oper->Prop):Nat->List Oper->Prop
 |_,[]=>True
 |i,o::l=>R i o/\QbO R (i+1) l
theorem kt {R:Nat->Oper->Prop}:∀(l:List Oper) (i j:Nat) (o:Oper),QbO R i l->l[j]?=some o->R (i+j) o
 | [],_,_,_,_,h=>by simp at h
 |o::l,i,0,o',h,hj=>by
  simp at hj
  subst hj
  exact h.1
 |o::l,i,j+1,o',h,hj=>by
  have:=kt l (i+1) j o' h.2 (by simpa using hj)
  rwa [O4,Nat.add_comm 1 j] at this
def Xq (l:List Value) (v:Nat->Value):List Nat->List Value
 | []=>l
 |s::r=>Xq (l.set s (v s)) v r
theorem QbP (v:Nat->Value):∀(r:List Nat) (l:List Value) (j:Nat),(Xq l v r)[j]?=if j∈r then(if j<l.length then some (v j) else none) else l[j]?
 | [],l,j=>by simp [Xq]
 | s::r,l,j=>by
  rw [Xq,QbP v r (l.set s (v s)) j]
  by_cases h1:j∈r
  ·rw [if_pos h1,if_pos (I5 _ h1),Q1]
  ·rw [if_neg h1]
   by_cases h2:j=s
   ·subst h2
    rw [if_pos K0,O8]
    simp
   ·rw [if_neg (by simp [h1,h2]),O8,if_neg (j5 h2)]
def KI:Option Nat->Value->(Nat->Value)->Nat->Value
 |none,_,v=>v
 |some s,x,v=>fun t=>if t=s then x else v t
theorem QfJ {l:List Value} {v:Nat->Value} {r:List Nat} {o:Option Nat} {x:Value} {defs:Act} (hs:∀s,o=some s->s∈r):
  Act.put ⟨(Xq l v r).toArray,defs.defers⟩ o x=⟨(Xq l (KI o x v) r).toArray,defs.defers⟩:=by
 cases o with
 |none=>rfl
 | some s=>
  have hm:=hs s rfl
  simp only [Act.put,D0]
  congr 2
  apply i8
  intro j
  rw [O8,QbP,QbP]
  have hl:(Xq l v r).length=l.length:=by
   have:∀(r:List Nat) (l:List Value),(Xq l v r).length=l.length:=by
    intro r
    induction r with
    |nil=>intro l;rfl
    |cons s r ih=>intro l;rw [Xq,ih,Q1]
   exact this r l
  by_cases h:s=j
  ·subst h
   simp only [if_true,if_pos hm,hl,KI]
  ·rw [if_neg h]
   simp only [KI,if_neg (j5 h)]
theorem YD {J:(Nat->Bool)->(Nat->Value)->World->Prop} {d:Nat->Bool} {v:Nat->Value} {i:Nat} {t:Option Nat} {f a':Act} {K':Act->World->Prop} {x:Value} {w':World}
  (hK:Hid (∀x w',J (fun j=>j==i || d j) (KI t x v) w'->K' (Act.put f t x) w')) (ha:Act.put f t x=a') (hJ:J (fun j=>j==i || d j) (KI t x v) w'):K' a' w':=ha ▸ hK.out _ _ hJ
end
def kL (ops:Array Oper) (d:Nat->Bool):Prop:=∀i o,ops[i]?=some o->d i=true->∀e∈o.after,Region.binds .any e=true->d e.on=true
def zJ (ops:Array Oper) (i:Nat):List Nat:=match ops[i]? with
 |some o=>(o.after.toList.filter fun e=>Region.binds .any e).map (·.on)
 |none=>[]
def QcJ (ops:Array Oper):Nat->List Nat->List Nat
 |0,S=>S
 |n+1,S=>QcJ ops n (S++S.flatMap (zJ ops))
theorem vM {ops:Array Oper} {d:Nat->Bool} (hC:kL ops d):∀(n:Nat) (S:List Nat),(∀j∈S,d j=true)->∀j∈QcJ ops n S,d j=true
 |0,_,h=>h
 | n+1,S,h=>vM hC n _ (fun j hj=>by
  rcases F4.1 hj with hj|hj
  ·exact h j hj
  ·obtain⟨i,hi,hj⟩:=Y7.1 hj
   unfold zJ at hj
   split at hj
   ·rename_i o ho
    obtain⟨e,he,rfl⟩:=L7.1 hj
    obtain⟨he1,he2⟩:=List.mem_filter.1 he
    exact hC i o ho (h i hi) e (by simpa using he1) he2
   ·cases hj)
def Qf1 (ops:Array Oper) (n:Nat):Bool:=(List.range ops.size).all fun j=>j==n || (QcJ ops 8 (zJ ops n)).contains j
def Qg8 (ops:Array Oper) (r:List Nat) (n:Nat):Bool:=(List.range ops.size).all fun i=>i==n || match (ops[i]?).bind (·.dst) with
 |none=>true
 |some s=>r.contains s
def Qg1 (P:Program) (ops:Array Oper) (Q:Exit->Act->World->Prop) (l:List Value) (r:List Nat) (b:Act) (J:(Nat->Bool)->(Nat->Value)->World->Prop) (n i:Nat) (o:Oper):Prop:=i=n∨∀d v w,kL ops d->d i=false->(∀e∈o.after,Region.binds .any e=true->d e.on=true)->J d v w->
  ∀K':Act->World->Prop,Hid (∀x w',J (fun j=>j==i || d j) (KI o.dst x v) w'->K' (Act.put ⟨(Xq l v r).toArray,b.defers⟩ o.dst x) w')->
   if Region.wanted o (yielded ops (Xq l v r).toArray)=true then Oper.wp P o ⟨(Xq l v r).toArray,b.defers⟩ w K' Q else K' (Act.put ⟨(Xq l v r).toArray,b.defers⟩ o.dst undef) w
section
variable {P:Program} {ops:Array Oper} {Q:Exit->Act->World->Prop}
theorem Ze {id:Nat} {l:List Value} {b:Act} {w:World} (n:Nat) (r:List Nat) (J:(Nat->Bool)->(Nat->Value)->World->Prop) (hm:P.follows .mixedOrders=true)
  (hu:Xq l (fun s=>l.getD s undef) r=l) (hd:Qg8 ops r n=true) (hl:kT ops=true) (hz:Qf1 ops n=true)
  (h0:J (fun j=>decide (ops.size<=j)) (fun s=>l.getD s undef) w.drew)
  (step:QbO (Qg1 P ops Q l r b J n) 0 ops.toList)
  (last:∃o,ops[n]?=some o/\∀v w,J (fun j=>!(j==n)) v w->∀K':Act->World->Prop,Hid (∀a' w',Q .normal a' w'->K' a' w')->
   if Region.wanted o (yielded ops (Xq l v r).toArray)=true then Oper.wp P o ⟨(Xq l v r).toArray,b.defers⟩ w K' Q else K' (Act.put ⟨(Xq l v r).toArray,b.defers⟩ o.dst undef) w):
  (Code.region id ops true).wp P Q ⟨l.toArray,b.defers⟩ w:=by
 obtain⟨on,hon,hlast⟩:=last
 have hnl:n<ops.size:=(F5.1 hon).1
 refine wp_region_any hm (Qgo (Inv:=fun d a w=>kL ops d/\(∀j,ops.size<=j->d j=true)/\((d n=false/\∃v,a=⟨(Xq l v r).toArray,b.defers⟩/\J d v w)∨((∀j,d j=true)/\Q .normal a w))) hl (fun i o hi d a w hdi hpre hI K' hK=>?_) (fun a w hI=>?_) ops.size _ _ _ (by simp) (by simp) ⟨?_,?_,.inl ⟨?_,fun s=>l.getD s undef,by rw [hu],?_⟩⟩)
 ·obtain⟨hC,hS,hI⟩:=hI
  rcases hI with ⟨hdn,v,rfl,hJ⟩|⟨hall,_⟩
  ·have hC':kL ops (fun j=>j==i || d j):=fun i' o' hi' hd' e he hb=>by
    by_cases hii:i'=i
    ·subst hii
     rw [hi] at hi'
     cases hi'
     simp [hpre e he hb]
    ·have:d i'=true:=by simpa [hii] using hd'
     simp [hC i' o' hi' this e he hb]
   have hS':∀j,ops.size<=j->(j==i || d j)=true:=fun j hj=>by simp [hS j hj]
   by_cases hin:i=n
   ·subst hin
    rw [hon] at hi
    cases hi
    have hw:∀j∈QcJ ops 8 (zJ ops i),d j=true:=vM hC 8 _ (fun j hj=>by
     unfold zJ at hj
     rw [hon] at hj
     obtain⟨e,he,rfl⟩:=L7.1 hj
     obtain⟨he1,he2⟩:=List.mem_filter.1 he
     exact hpre e (by simpa using he1) he2)
    have hd1:d=fun j=>!(j==i):=funext fun j=>by
     by_cases hj:j=i
     ·subst hj;simp [hdi]
     ·rcases Y6 j ops.size with h1|h1
      ·have h2:=g7.1 hz j (List.mem_range.2 h1)
       rcases(by simpa using h2:j=i∨_) with h3|h3
       ·exact absurd h3 hj
       ·simp [hj,hw j (by simpa using h3)]
      ·simp [hj,hS j h1]
    exact hlast v w (hd1 ▸ hJ) K' (Qb fun a' w' hq=>hK.out _ _ ⟨hC',hS',.inr ⟨fun j=>by
     by_cases hj:j=i
     ·simp [hj]
     ·simp [hd1],hq⟩⟩)
   ·have hst:=kt ops.toList 0 i o step (by simpa using hi)
    rw [J3] at hst
    have hst:=hst.resolve_left hin
    have hin2:∀s,o.dst=some s->s∈r:=fun s hs=>by
     have h1:=g7.1 hd i (List.mem_range.2 (F5.1 hi).1)
     rw [hi,Y9,hs] at h1
     simpa [hin] using h1
    exact hst d v w hC hdi hpre hJ K' (Qb fun x w' hx=>hK.out _ _ ⟨hC',hS',.inl ⟨by simp [hdn,j5 hin],_,QfJ (defs:=b) hin2,hx⟩⟩)
  ·rw [hall i] at hdi
   cases hdi
 ·obtain⟨_,_,⟨h1,_⟩|⟨_,h1⟩⟩:=hI
  ·cases h1
  ·exact h1
 ·intro i o hi hd e he hb
  exfalso
  have h1:i<ops.size:=(F5.1 hi).1
  simp [Array.getD,h1] at hd
 ·intro j hj
  simp [Array.getD,show ¬j<ops.size by omega]
 ·simp [Array.getD,hnl]
 ·have:(fun j=>(Array.replicate ops.size false).getD j true)=fun j=>decide (ops.size<=j):=funext fun j=>by
   by_cases h:j<ops.size
   ·simp [Array.getD,h]
   ·simp [Array.getD,h,show ops.size<=j by omega]
  rw [this]
  exact h0
end
theorem XN (l:List Value):∀r:List Nat,Xq l (fun s=>l.getD s undef) r=l:=by
 have h:∀s,l.set s (l.getD s undef)=l:=fun s=>by
  apply i8
  intro j
  rw [O8]
  by_cases e:s=j
  ·subst e
   by_cases hl:s<l.length
   ·simp [hl]
   ·simp [hl]
  ·rw [if_neg e]
 have:∀(v:Nat->Value) (m:List Value),(∀s,m.set s (v s)=m)->∀r:List Nat,Xq m v r=m:=by
  intro v m hm r
  induction r with
  |nil=>rfl
  |cons s r ih=>rw [Xq,hm,ih]
 exact this _ l h
def JG (SL:List (Nat×Nat)) (VL:List Value) (d:Nat->Bool) (v:Nat->Value):Prop:=∀(n i s:Nat) (x:Value),SL[n]?=some (i,s)->VL[n]?=some x->d i=true->v s=x
theorem UO {SL:List (Nat×Nat)} {VL:List Value} {k:Nat} {v:Nat->Value} (h:∀p∈SL,p.1<k):JG SL VL (fun j=>decide (k<=j)) v:=fun n i s x h1 _ h3=>by
 have:=h _ (U0 h1)
 have h4:k<=i:=by simpa using h3
 simp only at this
 omega
theorem Qu {SL:List (Nat×Nat)} {VL:List Value} {d:Nat->Bool} {v:Nat->Value} (h1:(SL.map (·.1)).Nodup) (h2:(SL.map (·.2)).Nodup) (H:JG SL VL d v) (n i s:Nat) (x:Value) (hs:SL[n]?=some (i,s)) (hx:VL[n]?=some x):JG SL VL (fun j=>j==i || d j) (KI (some s) x v):=by
 intro n' i' s' x' g1 g2 g3
 have key:∀ {α:Type} (f:Nat×Nat->α),(SL.map f).Nodup->f (i',s')=f (i,s)->n'=n:=fun f hn e=>by
  obtain⟨l1,e1⟩:=N9.1 g1
  obtain⟨l2,e2⟩:=N9.1 hs
  have q1:(SL.map f)[n']'(by simpa using l1)=(SL.map f)[n]'(by simpa using l2):=by rw [List.getElem_map,List.getElem_map,e1,e2,e]
  exact(List.getElem_inj hn).1 q1
 by_cases e:s'=s
 ·have hn:=key (·.2) h2 e
  subst hn
  cases hx.symm.trans g2
  simp [KI,e]
 ·have hi:i'≠i:=fun ei=>by
   have hn:=key (·.1) h1 ei
   subst hn
   cases hs.symm.trans g1
   exact e rfl
  simp only [KI,if_neg e]
  exact H n' i' s' x' g1 g2 (by simpa [hi] using g3)
theorem GX {SL:List (Nat×Nat)} {VL:List Value} {d:Nat->Bool} {v:Nat->Value} (H:JG SL VL d v) (i s:Nat) (x:Value) (h1:∀p∈SL,p.1≠i/\p.2≠s):JG SL VL (fun j=>j==i || d j) (KI (some s) x v):=by
 intro n' i' s' x' g1 g2 g3
 have h:=h1 _ (U0 g1)
 simp only [KI,if_neg h.2]
 exact H n' i' s' x' g1 g2 (by simpa [h.1] using g3)
theorem wt {SL:List (Nat×Nat)} {VL:List Value} {d:Nat->Bool} {v:Nat->Value} (H:JG SL VL d v) (i:Nat) (x:Value) (h1:∀p∈SL,p.1≠i):JG SL VL (fun j=>j==i || d j) (KI none x v):=by
 intro n' i' s' x' g1 g2 g3
 have h:=h1 _ (U0 g1)
 exact H n' i' s' x' g1 g2 (by simpa [h] using g3)
theorem Qh {after:Array Edge} {d:Nat->Bool} (h:∀e∈after,Region.binds .any e=true->d e.on=true) (g:Nat) (hg:(after.any fun e=>Region.binds .any e&&e.on==g)=true:=by kernel_rfl):d g=true:=by
 obtain⟨e,he,hb⟩:=Array.any_eq_true'.1 hg
 rw [T0,beq_iff_eq] at hb
 rw [<-hb.2]
 exact h e he hb.1
structure JR (SL:List (Nat×Nat)) (VL:List Value) (PI:List (Nat×Nat)) (PP:List (World->Value->Prop)) (q:Option Nat) (S:List Nat) (x:World) (d:Nat->Bool) (v:Nat->Value) (W:World):Prop where
 val:JG SL VL d v
 prop:∀(n i s:Nat) (P:World->Value->Prop),PI[n]?=some (i,s)->PP[n]?=some P->d i=true->P W (v s)
 quiet:∀k,q=some k->d k=false->Qc [] x W
 chg:Qc S x W
section
variable {SL PI:List (Nat×Nat)} {VL:List Value} {PP:List (World->Value->Prop)} {q:Option Nat} {S:List Nat} {x W W2:World} {d:Nat->Bool} {v:Nat->Value} {i s i' s':Nat} {y:Value} {P P':World->Value->Prop}
theorem JR.zero {k:Nat} (h:∀p∈SL,p.1<k) (h':∀p∈PI,p.1<k):JR SL VL PI PP q S x (fun j=>decide (k<=j)) v x.drew:=
 ⟨UO h,fun n i s P h1 _ h3=>by
  have:=h' _ (U0 h1)
  have h4:k<=i:=by simpa using h3
  simp only at this
  omega,fun _ _ _=>(B0 _ _).drew,(B0 _ _).drew⟩
def okP (SL PI:List (Nat×Nat)) (q:Option Nat) (i s:Nat):Bool:=decide (SL.map (·.1)).Nodup&&decide (SL.map (·.2)).Nodup&&PI.all (fun p=>p.1 !=i&&p.2 !=s)&&q !=some i
theorem JR.turn (H:JR SL VL PI PP q S x d v W) (n:Nat) (hs:SL[n]?=some (i,s)) (hx:VL[n]?=some y) (c:Qc [] W W2) (hk:∀(n i s:Nat) (P:World->Value->Prop),PI[n]?=some (i,s)->PP[n]?=some P->d i=true->P W (v s)->P W2 (v s)) (ok:okP SL PI q i s=true:=by decide):JR SL VL PI PP q S x (fun j=>j==i || d j) (KI (some s) y v) W2:=by
 unfold okP at ok
 simp only [T0,decide_eq_true_eq,bne_iff_ne,g7] at ok
 obtain⟨⟨⟨o1,o2⟩,o3⟩,o4⟩:=ok
 refine⟨Qu o1 o2 H.val n i s y hs hx,fun m i' s' P h1 h2 h3=>?_,fun k hk hd=>?_,H.chg.tz c⟩
 ·have h:=o3 _ (U0 h1)
  simp only [KI,if_neg h.2]
  have h3:d i'=true:=by simpa [h.1] using h3
  exact hk m i' s' P h1 h2 h3 (H.prop m i' s' P h1 h2 h3)
 ·have hki:k≠i:=fun e=>o4 (by rw [hk,e])
  exact(H.quiet k hk (by simpa [hki] using hd)).tz c
theorem JR.put (H:JR SL VL PI PP q S x d v W) (n:Nat) (hs:SL[n]?=some (i,s)) (hx:VL[n]?=some y) (ok:okP SL PI q i s=true:=by decide):JR SL VL PI PP q S x (fun j=>j==i || d j) (KI (some s) y v) W:=
 H.turn n hs hx (B0 _ _) (fun _ _ _ _ _ _ _ h=>h) ok
def okN (SL PI:List (Nat×Nat)) (i s:Nat):Bool:=SL.all (fun p=>p.1 !=i&&p.2 !=s)&&PI.all (fun p=>p.1 !=i&&p.2 !=s)
theorem JR.n1 (H:JR SL VL [(i,s)] [P] q S x d v W) (y:Value) (h:P W2 y) (hq:q=some i∨Qc [] W W2) (hc:Qc S x W2) (ok:okN SL [] i s=true:=by decide):JR SL VL [(i,s)] [P] q S x (fun j=>j==i || d j) (KI (some s) y v) W2:=by
 unfold okN at ok
 simp only [T0,bne_iff_ne,g7] at ok
 refine⟨GX H.val i s y ok.1,fun m j t Q h1 h2 h3=>?_,fun k hk hd=>?_,hc⟩
 ·match m,h1,h2 with
  |0,h1,h2=>cases h1;cases h2;simpa [KI] using h
  |m+1,h1,_=>simp at h1
 ·by_cases hki:k=i
  ·simp [hki] at hd
  ·rcases hq with hq|hq
   ·rw [hk] at hq;cases hq;exact absurd rfl hki
   ·exact(H.quiet k hk (by simpa [hki] using hd)).tz hq
theorem JR.n2 (H:JR SL VL [(i,s),(i',s')] [P,P'] q S x d v W) (y:Value) (h:P W2 y) (hk':d i'=true->P' W (v s')->P' W2 (v s')) (hq:q=some i∨Qc [] W W2) (hc:Qc S x W2) (ok:okN SL [(i',s')] i s=true:=by decide):JR SL VL [(i,s),(i',s')] [P,P'] q S x (fun j=>j==i || d j) (KI (some s) y v) W2:=by
 unfold okN at ok
 simp only [T0,bne_iff_ne,g7] at ok
 have o2:=ok.2 (i',s') (by simp)
 simp only at o2
 refine⟨GX H.val i s y ok.1,fun m j t Q h1 h2 h3=>?_,fun k hk hd=>?_,hc⟩
 ·match m,h1,h2 with
  |0,h1,h2=>cases h1;cases h2;simpa [KI] using h
  |1,h1,h2=>
   cases h1;cases h2
   simp only [KI,if_neg o2.2]
   have h3:d i'=true:=by simpa [o2.1] using h3
   exact hk' h3 (H.prop 1 i' s' _ rfl rfl h3)
  |m+2,h1,_=>simp at h1
 ·by_cases hki:k=i
  ·simp [hki] at hd
  ·rcases hq with hq|hq
   ·rw [hk] at hq;cases hq;exact absurd rfl hki
   ·exact(H.quiet k hk (by simpa [hki] using hd)).tz hq
theorem JR.swap (H:JR SL VL [(i,s),(i',s')] [P,P'] q S x d v W):JR SL VL [(i',s'),(i,s)] [P',P] q S x d v W:=
 ⟨H.val,fun m j t Q h1 h2 h3=>by
  match m,h1,h2 with
  |0,h1,h2=>cases h1;cases h2;exact H.prop 1 _ _ _ rfl rfl h3
  |1,h1,h2=>cases h1;cases h2;exact H.prop 0 _ _ _ rfl rfl h3
  |m+2,h1,_=>simp at h1,H.quiet,H.chg⟩
theorem JR.t2 {i1 s1:Nat} {P1:World->Value->Prop} (H:JR SL VL [(i',s'),(i1,s1)] [P',P1] q S x d v W) (n:Nat) (hs:SL[n]?=some (i,s)) (hx:VL[n]?=some y) (c:Qc [] W W2) (hk:d i'=true->P' W (v s')->P' W2 (v s')) (hk1:d i1=true->P1 W (v s1)->P1 W2 (v s1)) (ok:okP SL [(i',s'),(i1,s1)] q i s=true:=by decide):JR SL VL [(i',s'),(i1,s1)] [P',P1] q S x (fun j=>j==i || d j) (KI (some s) y v) W2:=
 H.turn n hs hx c (fun m j t Q h1 h2 h3 h4=>by
  match m,h1,h2 with
  |0,h1,h2=>cases h1;cases h2;exact hk h3 h4
  |1,h1,h2=>cases h1;cases h2;exact hk1 h3 h4
  |m+2,h1,_=>simp at h1) ok
end
theorem z1 {α:Type} (a b:α) (l:List α):(a::l).set 0 b=b::l:=rfl
theorem z2 {α:Type} (a b:α) (n:Nat) (l:List α):(a::l).set (n+1) b=a::l.set n b:=rfl
theorem z4 (l:List Value) (v:Nat->Value):Xq l v []=l:=rfl
theorem z5 (l:List Value) (v:Nat->Value) (s:Nat) (r:List Nat):Xq l v (s::r)=Xq (l.set s (v s)) v r:=rfl
theorem z6 (l:List Value) (ds:_) (s:Nat) (x:Value):Act.put ⟨l.toArray,ds⟩ (some s) x=⟨(l.set s x).toArray,ds⟩:=by simp [Act.put]
theorem Q5:type_of% @QI.on:=@QI.on
theorem G0:type_of% @QI.tk:=@QI.tk
end Go.Proofs.YtfjhdnjlhjimeaaGreatDoor
