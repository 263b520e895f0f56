/- A region that draws its order, whose last operation may write what the others have read: one condition on the world is held until then. Conditions: none. -/
import Derived.OrdersHeld
import Derived.RegionTactic
import Derived.Test.YtjigcplpkhpgnaaGreatDoorGround
namespace Go.Proofs.YtjigcplpkhpgnaaGreatDoor
open Go.RowKit

theorem alc {w:World} {o:Obj} {p:Addr} {u:Value} {P Q:Prop} (k:P->Q) (h:w.cell? p=some u/\P):(w.alloc o).cell? p=some u/\Q:=⟨(World.cell?_alloc_lt _ _ _ (lt_of_cell h.1)).trans h.1,k h.2⟩
theorem alc0 {w:World} {o:Obj} {p:Addr} {u:Value} (h:w.cell? p=some u):(w.alloc o).cell? p=some u:=(World.cell?_alloc_lt _ _ _ (lt_of_cell h)).trans h
section
variable {P:Program} {ops:Array Oper} {Q:Exit->Act->World->Prop} {md:Region.Mode} {S:World->Prop}

/-- Is there an operation that has not come up? -/
def opsLeft (b:Array Bool):Bool:=b.any fun x=>!x
/-- In whatever order the operations come up; behind each but the last S holds. -/
def wpTill (P:Program) (md:Region.Mode) (ops:Array Oper) (Q:Exit->Act->World->Prop) (S:World->Prop):Nat->Array Bool->Act->World->Prop
 |0,b,a,w=>Region.ready md ops b=[] /\Q .normal a w
 | n+1,b,a,w=>(Region.ready md ops b=[] ->Q .normal a w)/\∀i∈Region.ready md ops b,
   wpOp P ops Q i (fun a' w'=>(opsLeft (b.setIfInBounds i true)=true->S w')/\wpTill P md ops Q S n (b.setIfInBounds i true) a' w') a w
theorem wpTill.any:∀(n:Nat) (b:Array Bool) (a:Act) (w:World),wpTill P md ops Q S n b a w->wpAny P md ops Q n b a w
 |0,_,_,_,h=>h
 |n+1,_,_,_,h=>⟨h.1,fun i hi=>wpOp_mono (fun a' w' k=>wpTill.any n _ a' w' k.2) (h.2 i hi)⟩
theorem opsLeft_of {b:Array Bool} {k:Nat} (h:b.getD k true=false):opsLeft b=true:=by
 unfold opsLeft
 rcases Nat.lt_or_ge k b.size with hk|hk
 ·rw [Array.any_eq_true]
  refine⟨k,hk,?_⟩
  have:b.getD k true=b[k]:=by simp [Array.getD,hk]
  rw [this] at h
  simp [h]
 ·simp [hk] at h
/-- Operation i, for which operation k waits, is taken first. -/
theorem wpTill.first {i k:Nat} {oi ok:Oper} {v:Value} (hi:ops[i]?=some oi) (hsel:∀(j:Nat) (o:Oper) cs b,ops[j]?=some o->o.op≠ .select cs b) (hQ:∀c a w,Q (.panic c) (a.put oi.dst v) w->Q (.panic c) a w)
  (hk:ops[k]?=some ok) (hw:∃e∈ok.after,Region.binds md e=true/\e.on=i) (hki:k≠i):∀(n:Nat) (b:Array Bool) (a:Act) (w:World),
  (∀j oj,ops[j]?=some oj->j≠i->b.getD j true=false->(∀e∈oj.after,Region.binds md e=true->e.on≠i)->oi.apart ops oj=true)->
  b.getD k true=false->i∈Region.ready md ops b->YieldsIf P ops S oi v a->S w->wpTill P md ops Q S n (b.setIfInBounds i true) (a.put oi.dst v) w->wpTill P md ops Q S (n+1) b a w:=by
 intro n
 induction n with
 | zero=>
  intro b a w _ hkb hr hy hS h
  refine⟨fun e=>absurd (e ▸ hr) (by simp),fun j hj=>?_⟩
  by_cases e:j=i
  ·subst e
   exact hy.wpOp hi hS ⟨fun _=>hS,h⟩
  ·have:=ready_mono hj e
   rw [h.1] at this;cases this
 | succ n ih=>
  intro b a w hf hkb hr hy hS h
  refine⟨fun e=>absurd (e ▸ hr) (by simp),fun j hj=>?_⟩
  by_cases e:j=i
  ·subst e
   exact hy.wpOp hi hS ⟨fun _=>hS,h⟩
  ·obtain⟨hjb,oj,hoj,hja⟩:=mem_ready.1 hj
   have hib:=(mem_ready.1 hr).1
   have hfalse:∀m,b.getD m true=false->b.getD m false=true->False:=fun m h0 h1=>by
    rcases Nat.lt_or_ge m b.size with h'|h'
    ·simp [h'] at h0 h1;rw [h0] at h1;cases h1
    ·simp [h'] at h0
   have hnot:∀e∈oj.after,Region.binds md e=true->e.on≠i:=fun x hx hb heq=>hfalse i hib (by have:=hja x hx hb;rwa [heq] at this)
   have hjk:j≠k:=by
    rintro rfl
    obtain rfl:=Option.some.inj (hk.symm.trans hoj)
    obtain⟨x,hx,hb,heq⟩:=hw
    exact hnot x hx hb heq
   have h2:=wpOp_putIf hoj (hf j oj hoj e hjb hnot) (fun cs b=>hsel i oi cs b hi) (fun cs b=>hsel j oj cs b hoj) hQ hy (h.2 j (ready_mono hj e))
   refine wpOp_mono (fun a' w' h3=>?_) h2
   have hk1:(b.setIfInBounds j true).getD k true=false:=by rw [getD_set_ne true hjk];exact hkb
   have hk2:((b.setIfInBounds i true).setIfInBounds j true).getD k true=false:=by
    rw [getD_set_ne true hjk,getD_set_ne true (Ne.symm hki)];exact hkb
   have hS':S w':=h3.2.1 (opsLeft_of hk2)
   refine⟨fun _=>hS',ih _ a' w' (fun m om hm hmi hun hno=>hf m om hm hmi ?_ hno) hk1 (ready_mono hr (Ne.symm e)) h3.1 hS' ?_⟩
   ·by_cases hjm:j=m
    ·subst hjm;exact hjb
    ·rw [getD_set_ne true hjm] at hun;exact hun
   ·rw [Array.setIfInBounds_comm _ _ e]
    exact h3.2.2
theorem wpTill.take {i k:Nat} {oi ok:Oper} {v:Value} {n:Nat} {b:Array Bool} {a:Act} {w:World} (hi:ops[i]?=some oi) (hk:ops[k]?=some ok) (hw:(ok.after.any fun e=>Region.binds md e&&e.on==i)=true) (hki:(k==i)=false) (hkb:b.getD k true=false)
  (hs:Region.noSelect ops=true) (hf:Region.free md ops b i=true) (hr:(Region.ready md ops b).contains i=true) (hQ:∀c a w,Q (.panic c) (a.put oi.dst v) w->Q (.panic c) a w)
  (hy:YieldsIf P ops S oi v a) (hS:S w) (h:wpTill P md ops Q S n (b.setIfInBounds i true) (a.put oi.dst v) w):wpTill P md ops Q S (n+1) b a w:=by
 refine wpTill.first hi (Region.noSelect_spec hs) hQ hk ?_ (by simpa using hki) n b a w (Region.free_spec hi hf) hkb (by simpa using hr) hy hS h
 obtain⟨e,he,hb⟩:=Array.any_eq_true'.1 hw
 rw [Bool.and_eq_true,beq_iff_eq] at hb
 exact⟨e,he,hb⟩
/-- .. all that can be seen is seen by itself. -/
theorem wpTill.tk (i k:Nat) {oi ok:Oper} {v:Value} {n:Nat} {b:Array Bool} {a a':Act} {w:World} (hS:S w) (hi:ops[i]?=some oi:=by rw [List.getElem?_toArray];exact rfl) (hk:ops[k]?=some ok:=by rfl) (hw:(ok.after.any fun e=>Region.binds md e&&e.on==i)=true:=by kernel_rfl) (hki:(k==i)=false:=by rfl) (hkb:b.getD k true=false:=by kernel_rfl)
  (hs:Region.noSelect ops=true:=by kernel_rfl) (hf:Region.free md ops b i=true:=by kernel_rfl) (hr:(Region.ready md ops b).contains i=true:=by kernel_rfl) (hQ:∀c a w,Q (.panic c) (a.put oi.dst v) w->Q (.panic c) a w:=by exact fun _ _ _ h=>h)
  (hy:YieldsIf P ops S oi v a:=by(refine Or.inl ⟨by rfl,?_⟩;intro W hW;(try dsimp only at hW);go_simp;try with_reducible rfl)) (ha:a.put oi.dst v=a':=by(try simp only [Act.put,List.setIfInBounds_toArray,List.set_cons_zero,List.set_cons_succ]);rfl)
  (h:wpTill P md ops Q S n (b.setIfInBounds i true) a' w):wpTill P md ops Q S (n+1) b a w:=by
 subst ha
 exact wpTill.take hi hk hw hki hkb hs hf hr hQ hy hS h
/-- Whichever of these comes up. -/
def ReadyTill (P:Program) (md:Region.Mode) (ops:Array Oper) (Q:Exit->Act->World->Prop) (S:World->Prop) (n:Nat) (b:Array Bool) (a:Act) (w:World) (rs:List Nat):Prop:=
 ∀i∈rs,wpOp P ops Q i (fun a' w'=>(opsLeft (b.setIfInBounds i true)=true->S w')/\wpTill P md ops Q S n (b.setIfInBounds i true) a' w') a w
theorem wpTill.all {rs:List Nat} {n:Nat} {b:Array Bool} {a:Act} {w:World} (hr:Region.ready md ops b=rs) (hne:rs≠ []) (h:ReadyTill P md ops Q S n b a w rs):wpTill P md ops Q S (n+1) b a w:=
 ⟨fun e=>absurd (hr ▸ e) hne,hr ▸ h⟩
theorem ReadyTill.nil {n:Nat} {b:Array Bool} {a:Act} {w:World}:ReadyTill P md ops Q S n b a w []:=fun _ h=>by cases h
theorem ReadyTill.cons {n:Nat} {b:Array Bool} {a:Act} {w:World} {i:Nat} {o:Oper} {rs:List Nat} (ho:ops[i]?=some o)
  (h:∀K':Act->World->Prop,Hid (∀a w,(opsLeft (b.setIfInBounds i true)=true->S w)->((opsLeft (b.setIfInBounds i true)=true->S w)->wpTill P md ops Q S n (b.setIfInBounds i true) a w)->K' a w)->if Region.wanted o (yielded ops a.tmps)=true then Oper.wp P o a w K' Q else K' (a.put o.dst undef) w)
  (hs:ReadyTill P md ops Q S n b a w rs):ReadyTill P md ops Q S n b a w (i::rs):=fun j hj=>by
 rcases List.mem_cons.1 hj with rfl|hj
 ·exact wpOp_step ho (fun K' hK=>h K' (hid (fun a w hS hW=>hK a w ⟨hS,hW hS⟩)))
 ·exact hs j hj
theorem ReadyTill.cn {n:Nat} {b:Array Bool} {a:Act} {w:World} {i:Nat} {o:Oper} {rs:List Nat} (ho:ops[i]?=some o:=by rw [List.getElem?_toArray];exact rfl)
  (h:∀K':Act->World->Prop,Hid (∀a w,(opsLeft (b.setIfInBounds i true)=true->S w)->((opsLeft (b.setIfInBounds i true)=true->S w)->wpTill P md ops Q S n (b.setIfInBounds i true) a w)->K' a w)->if Region.wanted o (yielded ops a.tmps)=true then Oper.wp P o a w K' Q else K' (a.put o.dst undef) w)
  (hs:ReadyTill P md ops Q S n b a w rs):ReadyTill P md ops Q S n b a w (i::rs):=.cons ho h hs
/-- One alone may come up. -/
theorem wpTill.on {n:Nat} {b:Array Bool} {a:Act} {w:World} (i:Nat) {o:Oper} (hr:Region.ready md ops b=[i]:=by kernel_rfl) (ho:ops[i]?=some o:=by rw [List.getElem?_toArray];exact rfl)
  (h:∀K':Act->World->Prop,Hid (∀a w,(opsLeft (b.setIfInBounds i true)=true->S w)->((opsLeft (b.setIfInBounds i true)=true->S w)->wpTill P md ops Q S n (b.setIfInBounds i true) a w)->K' a w)->if Region.wanted o (yielded ops a.tmps)=true then Oper.wp P o a w K' Q else K' (a.put o.dst undef) w):wpTill P md ops Q S (n+1) b a w:=
 .all hr (by simp) (.cons ho h .nil)
/-- S holds behind the operation; on. -/
theorem tillK {n:Nat} {b:Array Bool} {a a':Act} {w:World} {K':Act->World->Prop} (hK:Hid (∀a w,(opsLeft b=true->S w)->((opsLeft b=true->S w)->wpTill P md ops Q S n b a w)->K' a w)) (hS:S w) (k:S w->wpTill P md ops Q S n b a' w) (ha:a=a':=by(try simp only [Act.put,List.setIfInBounds_toArray,List.set_cons_zero,List.set_cons_succ]);rfl):K' a w:=
 ha ▸ hK.out _ _ (fun _=>hS) (fun _=>ha ▸ k hS)
/-- The last one. -/
theorem tillE {n:Nat} {b:Array Bool} {a a':Act} {w:World} {K':Act->World->Prop} (hK:Hid (∀a w,(opsLeft b=true->S w)->((opsLeft b=true->S w)->wpTill P md ops Q S n b a w)->K' a w)) (k:wpTill P md ops Q S n b a' w) (hl:opsLeft b=false:=by kernel_rfl) (ha:a=a':=by(try simp only [Act.put,List.setIfInBounds_toArray,List.set_cons_zero,List.set_cons_succ]);rfl):K' a w:=
 ha ▸ hK.out _ _ (fun h=>absurd (hl.symm.trans h) Bool.false_ne_true) (fun _=>ha ▸ k)
theorem wpTill.done {b:Array Bool} {a:Act} {w:World} (hr:Region.ready md ops b=[]) (h:Q .normal a w):∀n,wpTill P md ops Q S n b a w
 |0=>⟨hr,h⟩
 |_+1=>⟨fun _=>h,by rw [hr];simp⟩
theorem wpTill.mono {S':World->Prop} (hS:∀w,S w->S' w):∀(n:Nat) (b:Array Bool) (a:Act) (w:World),wpTill P md ops Q S n b a w->wpTill P md ops Q S' n b a w
 |0,_,_,_,h=>h
 |n+1,_,_,_,h=>⟨h.1,fun i hi=>wpOp_mono (fun a' w' k=>⟨fun hl=>hS _ (k.1 hl),wpTill.mono hS n _ a' w' k.2⟩) (h.2 i hi)⟩
theorem wpTill.with_ {n:Nat} {b:Array Bool} {a:Act} {w:World} (h:S w) (k:S w->wpTill P md ops Q S n b a w):wpTill P md ops Q S n b a w:=k h
theorem wp_region_till {id:Nat} {a:Act} {w:World} (hm:P.follows .mixedOrders=true) (h:wpTill P .any ops Q S ops.size (Array.replicate ops.size false) a w.drew):(Code.region id ops true).wp P Q a w:=
 wp_region_any hm (h.any _ _ _ _)
end
end Go.Proofs.YtjigcplpkhpgnaaGreatDoor
