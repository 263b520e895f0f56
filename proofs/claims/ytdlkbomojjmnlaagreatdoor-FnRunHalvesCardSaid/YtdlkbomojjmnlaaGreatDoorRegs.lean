/- A region that draws its order, whose last operation may write what the others have read: one condition on the world is held until then. Conditions: none. / A region that draws its order, by an invariant: whichever operation comes up, the invariant is kept; each operation is walked once, not each order. Conditions: none. -/
import Derived.OrdersHeld
import Derived.RegionTactic
import Derived.Test.YtdlkbomojjmnlaaGreatDoorGround
namespace Go.Proofs.YtdlkbomojjmnlaaGreatDoor
open Go.RowKit

theorem alc {w : World} {o : Obj} {p : Addr} {u : Value} {P Q : Prop} (k : P → Q) (h : w.cell? p = some u ∧ P) : (w.alloc o).cell? p = some u ∧ Q := ⟨(World.cell?_alloc_lt _ _ _ (lt_of_cell h.1)).trans h.1, k h.2⟩
theorem alc0 {w : World} {o : Obj} {p : Addr} {u : Value} (h : w.cell? p = some u) : (w.alloc o).cell? p = some u := (World.cell?_alloc_lt _ _ _ (lt_of_cell h)).trans h
section
variable {P : Program} {ops : Array Oper} {Q : Exit → Act → World → Prop} {md : Region.Mode} {S : World → Prop}

/-- Is there an operation that has not come up? -/
def opsLeft (b : Array Bool) : Bool := b.any fun x => !x
/-- In whatever order the operations come up; behind each but the last S holds. -/
def wpTill (P : Program) (md : Region.Mode) (ops : Array Oper) (Q : Exit → Act → World → Prop) (S : World → Prop) : Nat → Array Bool → Act → World → Prop
 | 0, b, a, w => Region.ready md ops b = [] ∧ Q .normal a w
 | n + 1, b, a, w => (Region.ready md ops b = [] → Q .normal a w) ∧ ∀ i ∈ Region.ready md ops b,
   wpOp P ops Q i (fun a' w' => (opsLeft (b.setIfInBounds i true) = true → S w') ∧ wpTill P md ops Q S n (b.setIfInBounds i true) a' w') a w
theorem wpTill.any : ∀ (n : Nat) (b : Array Bool) (a : Act) (w : World), wpTill P md ops Q S n b a w → wpAny P md ops Q n b a w
 | 0, _, _, _, h => h
 | n + 1, _, _, _, h => ⟨h.1, fun i hi => wpOp_mono (fun a' w' k => wpTill.any n _ a' w' k.2) (h.2 i hi)⟩
theorem opsLeft_of {b : Array Bool} {k : Nat} (h : b.getD k true = false) : opsLeft b = true := by
 unfold opsLeft
 rcases Nat.lt_or_ge k b.size with hk | hk
 ·rw [Array.any_eq_true]
  refine ⟨k, hk, ?_⟩
  have : b.getD k true = b[k] := by simp [Array.getD, hk]
  rw [this] at h
  simp [h]
 ·simp [hk] at h
/-- Operation i, for which operation k waits, is taken first. -/
theorem wpTill.first {i k : Nat} {oi ok : Oper} {v : Value} (hi : ops[i]? = some oi) (hsel : ∀ (j : Nat) (o : Oper) cs b, ops[j]? = some o → o.op ≠ .select cs b) (hQ : ∀ c a w, Q (.panic c) (a.put oi.dst v) w → Q (.panic c) a w)
  (hk : ops[k]? = some ok) (hw : ∃ e ∈ ok.after, Region.binds md e = true ∧ e.on = i) (hki : k ≠ i) : ∀ (n : Nat) (b : Array Bool) (a : Act) (w : World),
  (∀ j oj, ops[j]? = some oj → j ≠ i → b.getD j true = false → (∀ e ∈ oj.after, Region.binds md e = true → e.on ≠ i) → oi.apart ops oj = true) →
  b.getD k true = false → i ∈ Region.ready md ops b → YieldsIf P ops S oi v a → S w → wpTill P md ops Q S n (b.setIfInBounds i true) (a.put oi.dst v) w → wpTill P md ops Q S (n + 1) b a w := by
 intro n
 induction n with
 | zero =>
  intro b a w _ hkb hr hy hS h
  refine ⟨fun e => absurd (e ▸ hr) (by simp), fun j hj => ?_⟩
  by_cases e : j = i
  ·subst e
   exact hy.wpOp hi hS ⟨fun _ => hS, h⟩
  ·have := ready_mono hj e
   rw [h.1] at this; cases this
 | succ n ih =>
  intro b a w hf hkb hr hy hS h
  refine ⟨fun e => absurd (e ▸ hr) (by simp), fun j hj => ?_⟩
  by_cases e : j = i
  ·subst e
   exact hy.wpOp hi hS ⟨fun _ => hS, h⟩
  ·obtain ⟨hjb, oj, hoj, hja⟩ := mem_ready.1 hj
   have hib := (mem_ready.1 hr).1
   have hfalse : ∀ m, b.getD m true = false → b.getD m false = true → False := fun m h0 h1 => by
    rcases Nat.lt_or_ge m b.size with h' | h'
    ·simp [h'] at h0 h1; rw [h0] at h1; cases h1
    ·simp [h'] at h0
   have hnot : ∀ e ∈ oj.after, Region.binds md e = true → e.on ≠ i := fun x hx hb heq => hfalse i hib (by have := hja x hx hb; rwa [heq] at this)
   have hjk : j ≠ k := by
    rintro rfl
    obtain rfl := Option.some.inj (hk.symm.trans hoj)
    obtain ⟨x, hx, hb, heq⟩ := hw
    exact hnot x hx hb heq
   have h2 := wpOp_putIf hoj (hf j oj hoj e hjb hnot) (fun cs b => hsel i oi cs b hi) (fun cs b => hsel j oj cs b hoj) hQ hy (h.2 j (ready_mono hj e))
   refine wpOp_mono (fun a' w' h3 => ?_) h2
   have hk1 : (b.setIfInBounds j true).getD k true = false := by rw [getD_set_ne true hjk]; exact hkb
   have hk2 : ((b.setIfInBounds i true).setIfInBounds j true).getD k true = false := by
    rw [getD_set_ne true hjk, getD_set_ne true (Ne.symm hki)]; exact hkb
   have hS' : S w' := h3.2.1 (opsLeft_of hk2)
   refine ⟨fun _ => hS', ih _ a' w' (fun m om hm hmi hun hno => hf m om hm hmi ?_ hno) hk1 (ready_mono hr (Ne.symm e)) h3.1 hS' ?_⟩
   ·by_cases hjm : j = m
    ·subst hjm; exact hjb
    ·rw [getD_set_ne true hjm] at hun; exact hun
   ·rw [Array.setIfInBounds_comm _ _ e]
    exact h3.2.2
theorem wpTill.take {i k : Nat} {oi ok : Oper} {v : Value} {n : Nat} {b : Array Bool} {a : Act} {w : World} (hi : ops[i]? = some oi) (hk : ops[k]? = some ok) (hw : (ok.after.any fun e => Region.binds md e && e.on == i) = true) (hki : (k == i) = false) (hkb : b.getD k true = false)
  (hs : Region.noSelect ops = true) (hf : Region.free md ops b i = true) (hr : (Region.ready md ops b).contains i = true) (hQ : ∀ c a w, Q (.panic c) (a.put oi.dst v) w → Q (.panic c) a w)
  (hy : YieldsIf P ops S oi v a) (hS : S w) (h : wpTill P md ops Q S n (b.setIfInBounds i true) (a.put oi.dst v) w) : wpTill P md ops Q S (n + 1) b a w := by
 refine wpTill.first hi (Region.noSelect_spec hs) hQ hk ?_ (by simpa using hki) n b a w (Region.free_spec hi hf) hkb (by simpa using hr) hy hS h
 obtain ⟨e, he, hb⟩ := Array.any_eq_true'.1 hw
 rw [Bool.and_eq_true, beq_iff_eq] at hb
 exact ⟨e, he, hb⟩
/-- .. all that can be seen is seen by itself. -/
theorem wpTill.tk (i k : Nat) {oi ok : Oper} {v : Value} {n : Nat} {b : Array Bool} {a a' : Act} {w : World} (hS : S w) (hi : ops[i]? = some oi := by rw [List.getElem?_toArray]; exact rfl) (hk : ops[k]? = some ok := by rfl) (hw : (ok.after.any fun e => Region.binds md e && e.on == i) = true := by kernel_rfl) (hki : (k == i) = false := by rfl) (hkb : b.getD k true = false := by kernel_rfl)
  (hs : Region.noSelect ops = true := by kernel_rfl) (hf : Region.free md ops b i = true := by kernel_rfl) (hr : (Region.ready md ops b).contains i = true := by kernel_rfl) (hQ : ∀ c a w, Q (.panic c) (a.put oi.dst v) w → Q (.panic c) a w := by exact fun _ _ _ h => h)
  (hy : YieldsIf P ops S oi v a := by (refine Or.inl ⟨by rfl, ?_⟩; intro W hW; (try dsimp only at hW); go_simp; try with_reducible rfl)) (ha : a.put oi.dst v = a' := by (try simp only [Act.put, List.setIfInBounds_toArray, List.set_cons_zero, List.set_cons_succ]); rfl)
  (h : wpTill P md ops Q S n (b.setIfInBounds i true) a' w) : wpTill P md ops Q S (n + 1) b a w := by
 subst ha
 exact wpTill.take hi hk hw hki hkb hs hf hr hQ hy hS h
/-- Whichever of these comes up. -/
def ReadyTill (P : Program) (md : Region.Mode) (ops : Array Oper) (Q : Exit → Act → World → Prop) (S : World → Prop) (n : Nat) (b : Array Bool) (a : Act) (w : World) (rs : List Nat) : Prop :=
 ∀ i ∈ rs, wpOp P ops Q i (fun a' w' => (opsLeft (b.setIfInBounds i true) = true → S w') ∧ wpTill P md ops Q S n (b.setIfInBounds i true) a' w') a w
theorem wpTill.all {rs : List Nat} {n : Nat} {b : Array Bool} {a : Act} {w : World} (hr : Region.ready md ops b = rs) (hne : rs ≠ []) (h : ReadyTill P md ops Q S n b a w rs) : wpTill P md ops Q S (n + 1) b a w :=
 ⟨fun e => absurd (hr ▸ e) hne, hr ▸ h⟩
theorem ReadyTill.nil {n : Nat} {b : Array Bool} {a : Act} {w : World} : ReadyTill P md ops Q S n b a w [] := fun _ h => by cases h
theorem ReadyTill.cons {n : Nat} {b : Array Bool} {a : Act} {w : World} {i : Nat} {o : Oper} {rs : List Nat} (ho : ops[i]? = some o)
  (h : ∀ K' : Act → World → Prop, Hid (∀ a w, (opsLeft (b.setIfInBounds i true) = true → S w) → ((opsLeft (b.setIfInBounds i true) = true → S w) → wpTill P md ops Q S n (b.setIfInBounds i true) a w) → K' a w) → if Region.wanted o (yielded ops a.tmps) = true then Oper.wp P o a w K' Q else K' (a.put o.dst undef) w)
  (hs : ReadyTill P md ops Q S n b a w rs) : ReadyTill P md ops Q S n b a w (i :: rs) := fun j hj => by
 rcases List.mem_cons.1 hj with rfl | hj
 ·exact wpOp_step ho (fun K' hK => h K' (Lib.hid (fun a w hS hW => hK a w ⟨hS, hW hS⟩)))
 ·exact hs j hj
theorem ReadyTill.cn {n : Nat} {b : Array Bool} {a : Act} {w : World} {i : Nat} {o : Oper} {rs : List Nat} (ho : ops[i]? = some o := by rw [List.getElem?_toArray]; exact rfl)
  (h : ∀ K' : Act → World → Prop, Hid (∀ a w, (opsLeft (b.setIfInBounds i true) = true → S w) → ((opsLeft (b.setIfInBounds i true) = true → S w) → wpTill P md ops Q S n (b.setIfInBounds i true) a w) → K' a w) → if Region.wanted o (yielded ops a.tmps) = true then Oper.wp P o a w K' Q else K' (a.put o.dst undef) w)
  (hs : ReadyTill P md ops Q S n b a w rs) : ReadyTill P md ops Q S n b a w (i :: rs) := .cons ho h hs
/-- One alone may come up. -/
theorem wpTill.on {n : Nat} {b : Array Bool} {a : Act} {w : World} (i : Nat) {o : Oper} (hr : Region.ready md ops b = [i] := by kernel_rfl) (ho : ops[i]? = some o := by rw [List.getElem?_toArray]; exact rfl)
  (h : ∀ K' : Act → World → Prop, Hid (∀ a w, (opsLeft (b.setIfInBounds i true) = true → S w) → ((opsLeft (b.setIfInBounds i true) = true → S w) → wpTill P md ops Q S n (b.setIfInBounds i true) a w) → K' a w) → if Region.wanted o (yielded ops a.tmps) = true then Oper.wp P o a w K' Q else K' (a.put o.dst undef) w) : wpTill P md ops Q S (n + 1) b a w :=
 .all hr (by simp) (.cons ho h .nil)
/-- S holds behind the operation; on. -/
theorem tillK {n : Nat} {b : Array Bool} {a a' : Act} {w : World} {K' : Act → World → Prop} (hK : Hid (∀ a w, (opsLeft b = true → S w) → ((opsLeft b = true → S w) → wpTill P md ops Q S n b a w) → K' a w)) (hS : S w) (k : S w → wpTill P md ops Q S n b a' w) (ha : a = a' := by (try simp only [Act.put, List.setIfInBounds_toArray, List.set_cons_zero, List.set_cons_succ]); rfl) : K' a w :=
 ha ▸ hK.out _ _ (fun _ => hS) (fun _ => ha ▸ k hS)
/-- The last one. -/
theorem tillE {n : Nat} {b : Array Bool} {a a' : Act} {w : World} {K' : Act → World → Prop} (hK : Hid (∀ a w, (opsLeft b = true → S w) → ((opsLeft b = true → S w) → wpTill P md ops Q S n b a w) → K' a w)) (k : wpTill P md ops Q S n b a' w) (hl : opsLeft b = false := by kernel_rfl) (ha : a = a' := by (try simp only [Act.put, List.setIfInBounds_toArray, List.set_cons_zero, List.set_cons_succ]); rfl) : K' a w :=
 ha ▸ hK.out _ _ (fun h => absurd (hl.symm.trans h) Bool.false_ne_true) (fun _ => ha ▸ k)
theorem wpTill.done {b : Array Bool} {a : Act} {w : World} (hr : Region.ready md ops b = []) (h : Q .normal a w) : ∀ n, wpTill P md ops Q S n b a w
 | 0 => ⟨hr, h⟩
 | _ + 1 => ⟨fun _ => h, by rw [hr]; simp⟩
theorem wpTill.mono {S' : World → Prop} (hS : ∀ w, S w → S' w) : ∀ (n : Nat) (b : Array Bool) (a : Act) (w : World), wpTill P md ops Q S n b a w → wpTill P md ops Q S' n b a w
 | 0, _, _, _, h => h
 | n + 1, _, _, _, h => ⟨h.1, fun i hi => wpOp_mono (fun a' w' k => ⟨fun hl => hS _ (k.1 hl), wpTill.mono hS n _ a' w' k.2⟩) (h.2 i hi)⟩
theorem wpTill.with_ {n : Nat} {b : Array Bool} {a : Act} {w : World} (h : S w) (k : S w → wpTill P md ops Q S n b a w) : wpTill P md ops Q S n b a w := k h
theorem wp_region_till {id : Nat} {a : Act} {w : World} (hm : P.follows .mixedOrders = true) (h : wpTill P .any ops Q S ops.size (Array.replicate ops.size false) a w.drew) : (Code.region id ops true).wp P Q a w :=
 wp_region_any hm (h.any _ _ _ _)
end
end Go.Proofs.YtdlkbomojjmnlaaGreatDoor
namespace Go.Proofs.YtdlkbomojjmnlaaGreatDoor
open Go.RowKit

theorem count_put : ∀ (l : List Bool) (i : Nat), l[i]? = some false → (l.set i true).count false + 1 = l.count false
 | [], _, h => by simp at h
 | b :: l, 0, h => by
  simp at h
  subst h
  simp
 | b :: l, i + 1, h => by
  have := count_put l i (by simpa using h)
  rw [List.set_cons_succ, List.count_cons, List.count_cons]
  omega
/-- Each operation waits for earlier ones alone. -/
def lowOps (ops : Array Oper) : Bool := (List.range ops.size).all fun i => ((ops[i]?).map (fun o => o.after.all fun e => !Region.binds .any e || decide (e.on < i))).getD true
theorem lowOps_of {ops : Array Oper} (h : lowOps ops = true) {i : Nat} {o : Oper} (hi : ops[i]? = some o) {e : Edge} (he : e ∈ o.after) (hb : Region.binds .any e = true) : e.on < i := by
 have hl : i < ops.size := (Array.getElem?_eq_some_iff.1 hi).1
 have h1 := List.all_eq_true.1 h i (List.mem_range.2 hl)
 rw [hi] at h1
 simp only [Option.map_some, Option.getD_some] at h1
 have h2 := Array.all_eq_true_iff_forall_mem.1 h1 e he
 simpa [hb] using h2
theorem ready_none {ops : Array Oper} (hl : lowOps ops = true) {b : Array Bool} (hs : b.size = ops.size) (h : Region.ready .any ops b = []) : ∀ n j, j < n → b.getD j true = true
 | 0, j, hj => by omega
 | n + 1, j, hj => by
  have ih := ready_none hl hs h n
  rcases Nat.lt_or_ge j b.size with h1 | h1
  ·cases hb : b.getD j true with
   | true => rfl
   | false =>
    have hm : j ∈ Region.ready .any ops b := mem_ready.2 ⟨hb, ops[j]'(by omega), Array.getElem?_eq_getElem (by omega), fun e he hbb => by
     have hlt := lowOps_of hl (Array.getElem?_eq_getElem (show j < ops.size by omega)) he hbb
     have := ih e.on (by omega)
     have h3 : e.on < b.size := by omega
     simpa [Array.getD, h3] using this⟩
    rw [h] at hm
    cases hm
  ·simp [Array.getD, show ¬ j < b.size by omega]
section
variable {P : Program} {ops : Array Oper} {Q : Exit → Act → World → Prop}
theorem anyInv {Inv : (Nat → Bool) → Act → World → Prop} (hl : lowOps ops = true)
  (step : ∀ i o, ops[i]? = some o → ∀ d a w, d i = false → (∀ e ∈ o.after, Region.binds .any e = true → d e.on = true) → Inv d a w →
   ∀ K' : Act → World → Prop, Hid (∀ a w, Inv (fun j => j == i || d j) a w → K' a w) → if Region.wanted o (yielded ops a.tmps) = true then Oper.wp P o a w K' Q else K' (a.put o.dst undef) w)
  (fin : ∀ a w, Inv (fun _ => true) a w → Q .normal a w) :
  ∀ (n : Nat) (b : Array Bool) (a : Act) (w : World), b.size = ops.size → b.toList.count false ≤ n → Inv (fun j => b.getD j true) a w → wpAny P .any ops Q n b a w := by
 intro n
 induction n with
 | zero =>
  intro b a w hs hc hI
  have hr : Region.ready .any ops b = [] := by
   cases h : Region.ready .any ops b with
   | nil => rfl
   | cons i r =>
    have hm : i ∈ Region.ready .any ops b := by rw [h]; exact List.mem_cons_self
    have h0 := (mem_ready.1 hm).1
    rcases Nat.lt_or_ge i b.size with h1 | h1
    ·have h2 : b.toList[i]? = some false := by
      have : b[i] = false := by simpa [Array.getD, h1] using h0
      rw [Array.getElem?_toList, Array.getElem?_eq_getElem h1, this]
     have := count_put b.toList i h2
     omega
    ·simp [Array.getD, show ¬ i < b.size by omega] at h0
  refine ⟨hr, fin a w ?_⟩
  have : (fun j => b.getD j true) = fun _ => true := funext fun j => ready_none hl hs hr (j + 1) j (by omega)
  rwa [this] at hI
 | succ n ih =>
  intro b a w hs hc hI
  refine ⟨fun hr => fin a w ?_, fun i hm => ?_⟩
  ·have : (fun j => b.getD j true) = fun _ => true := funext fun j => ready_none hl hs hr (j + 1) j (by omega)
   rwa [this] at hI
  ·obtain ⟨h0, o, ho, hpre⟩ := mem_ready.1 hm
   have hlt : i < ops.size := (Array.getElem?_eq_some_iff.1 ho).1
   have h1 : i < b.size := by omega
   have h2 : b.toList[i]? = some false := by
    have : b[i] = false := by simpa [Array.getD, h1] using h0
    rw [Array.getElem?_toList, Array.getElem?_eq_getElem h1, this]
   refine wpOp_step ho (fun K' hK => step i o ho _ a w h0 (fun e he hb => ?_) hI K' (Lib.hid fun a' w' h => hK a' w' (ih _ a' w' (by simpa using hs) ?_ ?_)))
   ·have h3 := hpre e he hb
    have h4 : e.on < b.size := by have := lowOps_of hl ho he hb; omega
    simpa [Array.getD, h4] using h3
   ·rw [Array.toList_setIfInBounds]
    have := count_put b.toList i h2
    omega
   ·have : (fun j => (b.setIfInBounds i true).getD j true) = fun j => j == i || b.getD j true := funext fun j => by
     by_cases e : j = i
     ·subst e
      simp [Array.getD, h1]
     ·rw [getD_set_ne true (Ne.symm e)]
      simp [e]
    rw [this]
    exact h
/-- A property of all operations, one by one. -/
def AllOps (R : Nat → Oper → Prop) : Nat → List Oper → Prop
 | _, [] => True
 | i, o :: l => R i o ∧ AllOps R (i + 1) l
theorem allOps_of {R : Nat → Oper → Prop} : ∀ (l : List Oper) (i j : Nat) (o : Oper), AllOps R i l → l[j]? = some o → R (i + j) o
 | [], _, _, _, _, h => by simp at h
 | o :: l, i, 0, o', h, hj => by
  simp at hj
  subst hj
  exact h.1
 | o :: l, i, j + 1, o', h, hj => by
  have := allOps_of l (i + 1) j o' h.2 (by simpa using hj)
  rwa [Nat.add_assoc, Nat.add_comm 1 j] at this
/-- A frame in which some slots hold what v says. -/
def upd (l : List Value) (v : Nat → Value) : List Nat → List Value
 | [] => l
 | s :: r => upd (l.set s (v s)) v r
theorem upd_at (v : Nat → Value) : ∀ (r : List Nat) (l : List Value) (j : Nat), (upd l v r)[j]? = if j ∈ r then (if j < l.length then some (v j) else none) else l[j]?
 | [], l, j => by simp [upd]
 | s :: r, l, j => by
  rw [upd, upd_at v r (l.set s (v s)) j]
  by_cases h1 : j ∈ r
  ·rw [if_pos h1, if_pos (List.mem_cons_of_mem _ h1), List.length_set]
  ·rw [if_neg h1]
   by_cases h2 : j = s
   ·subst h2
    rw [if_pos List.mem_cons_self, List.getElem?_set]
    simp
   ·rw [if_neg (by simp [h1, h2]), List.getElem?_set, if_neg (Ne.symm h2)]
/-- What the slots hold, once one has been written. -/
def putv : Option Nat → Value → (Nat → Value) → Nat → Value
 | none, _, v => v
 | some s, x, v => fun t => if t = s then x else v t
theorem upd_put {l : List Value} {v : Nat → Value} {r : List Nat} {o : Option Nat} {x : Value} {defs : Act} (hs : ∀ s, o = some s → s ∈ r) :
  Act.put ⟨(upd l v r).toArray, defs.defers⟩ o x = ⟨(upd l (putv o x v) r).toArray, defs.defers⟩ := by
 cases o with
 | none => rfl
 | some s =>
  have hm := hs s rfl
  simp only [Act.put, List.setIfInBounds_toArray]
  congr 2
  apply List.ext_getElem?
  intro j
  rw [List.getElem?_set, upd_at, upd_at]
  have hl : (upd l v r).length = l.length := by
   have : ∀ (r : List Nat) (l : List Value), (upd l v r).length = l.length := by
    intro r
    induction r with
    | nil => intro l; rfl
    | cons s r ih => intro l; rw [upd, ih, List.length_set]
   exact this r l
  by_cases h : s = j
  ·subst h
   simp only [if_true, if_pos hm, hl, putv]
  ·rw [if_neg h]
   simp only [putv, if_neg (Ne.symm h)]
/-- All that is written lies in these slots. -/
def dstsIn (ops : List Oper) (r : List Nat) : Bool := ops.all fun o => match o.dst with
 | none => true
 | some s => r.contains s
/-- One operation keeps J. -/
def StepJ (P : Program) (ops : Array Oper) (Q : Exit → Act → World → Prop) (l : List Value) (r : List Nat) (b : Act) (J : (Nat → Bool) → (Nat → Value) → World → Prop) (i : Nat) (o : Oper) : Prop :=
 ∀ d v w, d i = false → (∀ e ∈ o.after, Region.binds .any e = true → d e.on = true) → J d v w →
  ∀ K' : Act → World → Prop, Hid (∀ x w', J (fun j => j == i || d j) (putv o.dst x v) w' → K' (Act.put ⟨(upd l v r).toArray, b.defers⟩ o.dst x) w') →
   if Region.wanted o (yielded ops (upd l v r).toArray) = true then Oper.wp P o ⟨(upd l v r).toArray, b.defers⟩ w K' Q else K' (Act.put ⟨(upd l v r).toArray, b.defers⟩ o.dst undef) w
theorem wp_region_J {id : Nat} {l : List Value} {b : Act} {w : World} (r : List Nat) (J : (Nat → Bool) → (Nat → Value) → World → Prop) (hm : P.follows .mixedOrders = true)
  (hu : upd l (fun s => l.getD s undef) r = l) (hd : dstsIn ops.toList r = true) (hl : lowOps ops = true)
  (h0 : J (fun j => decide (ops.size ≤ j)) (fun s => l.getD s undef) w.drew)
  (step : AllOps (StepJ P ops Q l r b J) 0 ops.toList)
  (fin : ∀ v w, J (fun _ => true) v w → Q .normal ⟨(upd l v r).toArray, b.defers⟩ w) : (Code.region id ops true).wp P Q ⟨l.toArray, b.defers⟩ w := by
 refine wp_region_any hm (anyInv (Inv := fun d a w => ∃ v, a = ⟨(upd l v r).toArray, b.defers⟩ ∧ J d v w) hl (fun i o hi d a w hdi hpre hI K' hK => ?_) (fun a w hI => ?_) ops.size _ _ _ (by simp) (by simp) ⟨fun s => l.getD s undef, by rw [hu], ?_⟩)
 ·obtain ⟨v, rfl, hJ⟩ := hI
  have hst := allOps_of ops.toList 0 i o step (by simpa using hi)
  rw [Nat.zero_add] at hst
  have hin : ∀ s, o.dst = some s → s ∈ r := fun s hs => by
   have h1 := List.all_eq_true.1 hd o (by rw [← Array.getElem?_toList] at hi; exact List.mem_of_getElem? hi)
   rw [hs] at h1
   simpa using h1
  exact hst d v w hdi hpre hJ K' (Lib.hid fun x w' hx => hK.out _ _ ⟨_, upd_put (defs := b) hin, hx⟩)
 ·obtain ⟨v, rfl, hJ⟩ := hI
  exact fin v w hJ
 ·have : (fun j => (Array.replicate ops.size false).getD j true) = fun j => decide (ops.size ≤ j) := funext fun j => by
   by_cases h : j < ops.size
   ·simp [Array.getD, h]
   ·simp [Array.getD, h, show ops.size ≤ j by omega]
  rw [this]
  exact h0
/-- On, behind an operation. -/
theorem regK {J : (Nat → Bool) → (Nat → Value) → World → Prop} {d : Nat → Bool} {v : Nat → Value} {i : Nat} {t : Option Nat} {f a' : Act} {K' : Act → World → Prop} {x : Value} {w' : World}
  (hK : Hid (∀ x w', J (fun j => j == i || d j) (putv t x v) w' → K' (Act.put f t x) w')) (ha : Act.put f t x = a') (hJ : J (fun j => j == i || d j) (putv t x v) w') : K' a' w' := ha ▸ hK.out _ _ hJ
end
end Go.Proofs.YtdlkbomojjmnlaaGreatDoor
