/- Copies of actions, of the program and of the reference. Written by a program. / Copies of actions, of the reference. Written by a program. / ActionAt, of the program and of the reference. Written by a program. / What is in an action has the places behind it: plain Lean. -/
import Derived.Test.YtkgffhlpcjjobaaTypes
import Derived.Test.YtkgffhlpcjjobaaApps
import Derived.Test.YtkgffhlpcjjobaaPlan
namespace Go.Proofs.Ytkgffhlpcjjobaa
open Go.RowKit

def CopyP (l : List ActionT) : Prop := ∀ (u : Value) (B : Nat) (w : World), actionsW l ≤ 1048576 → Rd w B (actions l) u → B ≤ w.heap.size → Calls Try.prog 23 #[u] w (Gives (actions l) w)
set_option maxRecDepth 100000 in
set_option maxHeartbeats 2000000 in
theorem copyAction_el (a : ActionT) (hA : CopyP a.A) (hB : CopyP a.B) (u9 u10 : Value) (B : Nat) (w : World) (hW : actionW a ≤ 1048576) (r9 : Rd w B (actions a.A) u9) (r10 : Rd w B (actions a.B) u10) (hBw : B ≤ w.heap.size) :
    Calls Try.prog 15 #[.agg #[.int .i64 a.op, .int .i64 a.slot, .int .i64 a.other, .string a.word, .string a.call.method, .string a.call.key, .int .i64 a.call.value, .string a.call.text, .int .i64 a.face, u9, u10]] w (fun e w' => ∃ A9 cap9 A10 cap10, e = .returned (.agg #[.int .i64 a.op, .int .i64 a.slot, .int .i64 a.other, .string a.word, .string a.call.method, .string a.call.key, .int .i64 a.call.value, .string a.call.text, .int .i64 a.face, .slice A9 a.A.length cap9, .slice A10 a.B.length cap10]) ∧ NewL w w' (actionF a) [.int .i64 a.op, .int .i64 a.slot, .int .i64 a.other, .string a.word, .string a.call.method, .string a.call.key, .int .i64 a.call.value, .string a.call.text, .int .i64 a.face, .slice A9 a.A.length cap9, .slice A10 a.B.length cap10]) := by
  rw [actionW_eq] at hW
  obtain ⟨X9, xap9, rfl, _, _, _⟩ := actions_row r9
  obtain ⟨X10, xap10, rfl, _, _, _⟩ := actions_row r10
  go_enter Try.func15, Try.ntmps15
  go_wp2_with fail
  refine (hA _ B _ (by omega) (r9.chg0 (((Chg.refl _ _).alloc _).alloc _) hBw) (by simp; omega)).mono ?_; intro e w1 G1; obtain ⟨A9, cap9, rfl, n1⟩ := G1.sl
  obtain ⟨y1, z1, s1⟩ := n1.chg.cells
  have d1 : Chg [] w w1 := Chg.trans0 (((Chg.refl _ _).alloc _).alloc _) n1.chg
  have t1 : w.heap.size + 1 < w1.heap.size := by simp at s1; omega
  have t1' : w.heap.size < w1.heap.size := by omega
  have c1 : w1.cell? ⟨w.heap.size, 9, none⟩ = some (.slice X9 a.A.length xap9) := by rw [y1 _ _ (by simp; omega)]; go_simp
  go_wp2_with fail
  refine (hB _ B _ (by omega) (r10.chg0 (by repeat (first | with_reducible exact d1 | with_reducible refine Chg.drew ?_ | with_reducible refine Chg.alloc ?_ _ | with_reducible refine Chg.setCell ?_ (.inr (by simp; try omega)) _)) hBw) (by simp; omega)).mono ?_; intro e w2 G2; obtain ⟨A10, cap10, rfl, n2⟩ := G2.sl
  obtain ⟨y2, z2, s2⟩ := n2.chg.cells
  have t2 : w.heap.size + 1 < w2.heap.size := by simp at s2; omega
  have t2' : w.heap.size < w2.heap.size := by omega
  have c2 : w2.cell? ⟨w.heap.size, 9, none⟩ = some (.slice A9 a.A.length cap9) := by rw [y2 _ _ (by simpa [World.setCell] using t1')]; exact World.cell?_setCell_same _ _ _ c1
  have c3 : w2.cell? ⟨w.heap.size, 10, none⟩ = some (.slice X10 a.B.length xap10) := by
    rw [y2 _ _ (by simpa [World.setCell] using t1'), World.cell?_setCell_other _ _ _ _ (by simp), y1 _ _ (by simp; omega)]; go_simp
  have c4 : (w2.setCell ⟨w.heap.size, 10, none⟩ (.slice A10 a.B.length cap10)).cell? ⟨w.heap.size, 10, none⟩ = some (.slice A10 a.B.length cap10) := World.cell?_setCell_same _ _ _ c3
  have tt : w.heap.size < w.heap.size + 1 + 1 := by omega
  go_wp2_with fail
  refine bodyPost_ret (v := .agg #[.int .i64 a.op, .int .i64 a.slot, .int .i64 a.other, .string a.word, .string a.call.method, .string a.call.key, .int .i64 a.call.value, .string a.call.text, .int .i64 a.face, .slice A9 a.A.length cap9, .slice A10 a.B.length cap10]) (by simp only [results, Try.results15]; go_simp) rfl ⟨_, _, _, _, rfl, ?_⟩
  rw [actionF_parts]
  refine NewT.start (T := [w.heap.size, w.heap.size + 1]) ?_ (by intro x hx; simp at hx; omega)
  refine NewT.cons_v ?_
  refine NewT.cons_v ?_
  refine NewT.cons_v ?_
  refine NewT.cons_v ?_
  refine NewT.cons_v ?_
  refine NewT.cons_v ?_
  refine NewT.cons_v ?_
  refine NewT.cons_v ?_
  refine NewT.cons_v ?_
  refine NewT.cons_new n1 (by intro x hx; simp at hx ⊢; omega) (by repeat (first | with_reducible exact Chg.refl _ _ | with_reducible refine Chg.drew ?_ | with_reducible refine Chg.alloc ?_ _ | with_reducible refine Chg.setCell ?_ (.inl (by simp)) _)) (Chg.refl _ _) ?_
  refine NewT.cons_new n2 (by intro x hx; simp at hx ⊢; omega) (by repeat (first | with_reducible exact Chg.refl _ _ | with_reducible refine Chg.drew ?_ | with_reducible refine Chg.alloc ?_ _ | with_reducible refine Chg.setCell ?_ (.inl (by simp)) _)) (Chg.refl _ _) ?_
  refine NewT.nil ?_
  repeat (first | with_reducible exact Chg.refl _ _ | with_reducible refine Chg.drew ?_ | with_reducible refine Chg.alloc ?_ _ | with_reducible refine Chg.setCell ?_ (.inl (by simp)) _)

set_option maxRecDepth 100000 in
set_option maxHeartbeats 2000000 in
theorem copyActions_any : ∀ l, CopyP l := by
  refine ActionT.ind fun l ih => ?_
  intro u B w hl hr hB
  have hll : l.length ≤ 1048576 := by unfold actionsW at hl; omega
  obtain ⟨A, cap, rfl, h0, h1, hrow⟩ := actions_row hr
  unfold maxLen at h1
  have IH := Lib.hid ih
  clear ih hr
  go_enter Try.func23, Try.ntmps23
  go_wp2_with fail
  go_loopw [3, 8] (fun v i wr => ∃ (k : Nat) (A' : Option Addr) (cap' : Nat), k ≤ l.length ∧ i = .int .i64 k ∧ v = .slice A' k cap' ∧ App w wr 30 11 (.slice A' k cap') k ((l.take k).flatMap actionF)) (fun _ i _ => l.length - (intOf i).toNat)
  case atStart => exact ⟨0, none, 0, Nat.zero_le _, rfl, rfl, App.nil w _ _ (Chg.refl _ _)⟩
  case round =>
    obtain ⟨k, A', cap', hk, rfl, rfl, hh⟩ := hrel
    by_cases hlt : k < l.length
    · obtain ⟨b, off, u9, u10, rfl, hb, q0, q1, q2, q3, q4, q5, q6, q7, q8, q9, q10, r9, r10⟩ := actions_cells (hrow.chg0 hh.chg hB) k hlt
      have hmem := List.getElem_mem hlt
      have hwt := actionsW_mem hmem
      obtain ⟨X9, xap9, rfl, _, _, _⟩ := actions_row r9
      obtain ⟨X10, xap10, rfl, _, _, _⟩ := actions_row r10
      have hsz := hh.chg.size
      go_wp2_with fail
      refine (copyAction_el l[k] (IH.out _ hmem).1 (IH.out _ hmem).2 _ _ B _ (by unfold actionsW at hl; omega) (r9.chg0 ((Chg.refl _ _).alloc _) (by omega)) (r10.chg0 ((Chg.refl _ _).alloc _) (by omega)) (by simp; omega)).mono ?_
      rintro e w1 ⟨A9, cap9, A10, cap10, rfl, n1⟩
      have n2 := n1.sooner ((Chg.refl [] wr).alloc _)
      have hone : ∀ u ∈ ([.int .i64 (l[k].op), .int .i64 (l[k].slot), .int .i64 (l[k].other), .string (l[k].word), .string (l[k].call.method), .string (l[k].call.key), .int .i64 (l[k].call.value), .string (l[k].call.text), .int .i64 (l[k].face), .slice A9 l[k].A.length cap9, .slice A10 l[k].B.length cap10] : List Value), u.oneCell' = true := by intro u hu; simp at hu; rcases hu with rfl | rfl | rfl | rfl | rfl | rfl | rfl | rfl | rfl | rfl | rfl <;> rfl
      have hnw : ∀ j u, ([.int .i64 (l[k].op), .int .i64 (l[k].slot), .int .i64 (l[k].other), .string (l[k].word), .string (l[k].call.method), .string (l[k].call.key), .int .i64 (l[k].call.value), .string (l[k].call.text), .int .i64 (l[k].face), .slice A9 l[k].A.length cap9, .slice A10 l[k].B.length cap10] : List Value)[j]? = some u → (w1.alloc (.cells #[.int .i64 (l[k].op), .int .i64 (l[k].slot), .int .i64 (l[k].other), .string (l[k].word), .string (l[k].call.method), .string (l[k].call.key), .int .i64 (l[k].call.value), .string (l[k].call.text), .int .i64 (l[k].face), .slice A9 l[k].A.length cap9, .slice A10 l[k].B.length cap10] 30)).cell? ⟨w1.heap.size, j, none⟩ = some u := by
        intro j u hj
        rw [World.cell?_alloc_mark]
        simpa using hj
      have HNW := Lib.hid hnw; have HONE := Lib.hid hone
      clear hnw hone
      go_wp2_with (at_builtin; refine wpList_app rfl (.tmp 12) (.tmp 15) _ rfl 30 _ 11 152 Try.underlying24 action_info rfl (by omega) hh (n2.later ((Chg.refl _ _).alloc _)) rfl w1.heap.size 1 rfl rfl HNW.out HONE.out (by omega) (by omega) ?_; intro A2 cap2 w2 hA2)
      go_roundw
      case rel => exact ⟨k + 1, A2, cap2, by omega, by go_num, by go_num, by rw [List.take_succ_eq_append_getElem hlt, List.flatMap_append]; simpa using hA2⟩
      case measure => simp [intOf]; omega
    · obtain rfl : k = l.length := by omega
      rw [List.take_length] at hh
      go_wp2_with fail
      go_ret
      exact ⟨_, rfl, hh.new⟩
end Go.Proofs.Ytkgffhlpcjjobaa
namespace Go.Proofs.Ytkgffhlpcjjobaa
open Go.RowKit
end Go.Proofs.Ytkgffhlpcjjobaa
namespace Go.Proofs.Ytkgffhlpcjjobaa
open Go.RowKit

mutual
/-- The action in a place, of an action. -/
def ActionT.at : ActionT → Nat → Option ActionT
  | .mk o s t w c f A B, n => if n = 0 then some (.mk o s t w c f A B) else if n - 1 < sizeL A then atL A (n - 1) else atL B (n - 1 - sizeL A)
def atL : List ActionT → Nat → Option ActionT
  | [], _ => none
  | a :: l, n => if n < a.size then a.at n else atL l (n - a.size)
end
theorem ActionT.at_eq (a : ActionT) (n : Nat) : a.at n = if n = 0 then some a else if n - 1 < sizeL a.A then atL a.A (n - 1) else atL a.B (n - 1 - sizeL a.A) := by
  cases a; rw [ActionT.at]; rfl
theorem atL_append : ∀ (l m : List ActionT) (n : Nat), atL (l ++ m) n = if n < sizeL l then atL l n else atL m (n - sizeL l)
  | [], m, n => by simp [sizeL]
  | a :: l, m, n => by
    rw [List.cons_append, atL, atL, sizeL, atL_append l m]
    by_cases h : n < a.size
    · rw [if_pos h, if_pos h, if_pos (by omega)]
    · rw [if_neg h, if_neg h]
      by_cases h' : n - a.size < sizeL l
      · rw [if_pos h', if_pos (by omega)]
      · rw [if_neg h', if_neg (by omega)]; congr 1; omega
theorem atL_none : ∀ (l : List ActionT) (n : Nat), sizeL l ≤ n → atL l n = none
  | [], n, _ => by rw [atL]
  | a :: l, n, h => by
    rw [sizeL] at h
    rw [atL, if_neg (by omega), atL_none l _ (by omega)]
theorem atL_at (l : List ActionT) (k n : Nat) (h : k < l.length) (h0 : sizeL (l.take k) ≤ n) (h1 : n < sizeL (l.take k) + l[k].size) : atL l n = l[k].at (n - sizeL (l.take k)) := by
  have e : l = l.take k ++ l[k] :: l.drop (k + 1) := by rw [← List.drop_eq_getElem_cons h, List.take_append_drop]
  have e2 : atL l n = atL (l.take k ++ l[k] :: l.drop (k + 1)) n := congrArg (fun x => atL x n) e
  rw [e2, atL_append, if_neg (by omega), atL, if_pos (by omega)]
/-- The action in a place, which may lie outside. -/
def atI (l : List ActionT) (p : Int) : Option ActionT := if p < 0 then none else atL l p.toNat
theorem atI_none (l : List ActionT) (p : Int) (h : p < 0 ∨ (sizeL l : Int) ≤ p) : atI l p = none := by
  unfold atI
  by_cases h' : p < 0
  · rw [if_pos h']
  · rw [if_neg h', atL_none]; omega
theorem atI_self (l : List ActionT) (k : Nat) (h : k < l.length) (p : Int) (e : p = sizeL (l.take k)) : atI l p = some l[k] := by
  unfold atI
  have := l[k].size_eq
  rw [if_neg (by omega), atL_at l k _ h (by omega) (by omega), ActionT.at_eq, if_pos (by omega)]
theorem atI_A (l : List ActionT) (k : Nat) (h : k < l.length) (p q : Int) (h0 : 0 ≤ q) (h1 : q < sizeL l[k].A) (e : p = sizeL (l.take k) + 1 + q) : atI l p = atI l[k].A q := by
  unfold atI
  have := l[k].size_eq
  rw [if_neg (by omega), if_neg (by omega), atL_at l k _ h (by omega) (by omega), ActionT.at_eq, if_neg (by omega), if_pos (by omega)]
  congr 1; omega
theorem atI_B (l : List ActionT) (k : Nat) (h : k < l.length) (p q : Int) (h0 : 0 ≤ q) (h1 : q < sizeL l[k].B) (e : p = sizeL (l.take k) + 1 + sizeL l[k].A + q) : atI l p = atI l[k].B q := by
  unfold atI
  have := l[k].size_eq
  rw [if_neg (by omega), if_neg (by omega), atL_at l k _ h (by omega) (by omega), ActionT.at_eq, if_neg (by omega), if_neg (by omega)]
  congr 1; omega
def zeroA : ActionT := .mk 0 0 0 ⟨#[]⟩ ⟨⟨#[]⟩, ⟨#[]⟩, 0, ⟨#[]⟩⟩ 0 [] []
abbrev AtIs (o : Option ActionT) (a : ActionT) (b : Bool) : Prop := match o with | none => a = zeroA ∧ b = false | some x => a = x ∧ b = true
theorem AtIs.same {o : Option ActionT} {a a' : ActionT} {b b' : Bool} (h : AtIs o a b) (h' : AtIs o a' b') : a' = a ∧ b' = b := by
  cases o with
  | none => exact ⟨h'.1.trans h.1.symm, h'.2.trans h.2.symm⟩
  | some x => exact ⟨h'.1.trans h.1.symm, h'.2.trans h.2.symm⟩
def AtPost (l : List ActionT) (p : Int) (w : World) (e : Ending) (w' : World) : Prop :=
  ∃ (a : ActionT) (b : Bool) (A9 : Option Addr) (cap9 : Nat) (A10 : Option Addr) (cap10 : Nat), AtIs (atI l p) a b ∧ e = .returned (.tuple #[.agg #[.int .i64 a.op, .int .i64 a.slot, .int .i64 a.other, .string a.word, .string a.call.method, .string a.call.key, .int .i64 a.call.value, .string a.call.text, .int .i64 a.face, .slice A9 a.A.length cap9, .slice A10 a.B.length cap10], .bool b]) ∧ NewL w w' (actionF a) [.int .i64 a.op, .int .i64 a.slot, .int .i64 a.other, .string a.word, .string a.call.method, .string a.call.key, .int .i64 a.call.value, .string a.call.text, .int .i64 a.face, .slice A9 a.A.length cap9, .slice A10 a.B.length cap10]
theorem atL_size : ∀ (n : Nat) (l : List ActionT), sizeL l ≤ n → ∀ i x, atL l i = some x → x.size ≤ sizeL l := by
  intro n
  induction n with
  | zero =>
    intro l h i x hx
    cases l with
    | nil => rw [atL] at hx; cases hx
    | cons a l => rw [sizeL] at h; have := a.size_eq; omega
  | succ n ih =>
    intro l
    induction l with
    | nil => intro _ i x hx; rw [atL] at hx; cases hx
    | cons a l ihl =>
      intro h i x hx
      rw [sizeL] at h ⊢
      have e1 := a.size_eq
      rw [atL] at hx
      split at hx
      · rw [ActionT.at_eq] at hx
        split at hx
        · cases hx; omega
        · split at hx
          · have := ih a.A (by omega) _ _ hx; omega
          · have := ih a.B (by omega) _ _ hx; omega
      · have := ihl (by omega) _ _ hx; omega
theorem AtIs.size {l : List ActionT} {p : Int} {a : ActionT} {b : Bool} (h : AtIs (atI l p) a b) : sizeL a.A + sizeL a.B ≤ sizeL l := by
  cases e : atI l p with
  | none => rw [e] at h; rw [h.1]; simp [zeroA, ActionT.A, ActionT.B, sizeL]
  | some x =>
    rw [e] at h
    unfold atI at e
    split at e
    · cases e
    · have := atL_size _ l (Nat.le_refl _) _ _ e
      rw [h.1]; have := x.size_eq; omega
theorem actionsN_size (l : List ActionT) : actionsN l = 9 * sizeL l := by
  have key : ∀ n (l : List ActionT), sizeL l ≤ n → actionsN l = 9 * sizeL l := by
    intro n
    induction n with
    | zero =>
      intro l h
      cases l with
      | nil => rfl
      | cons a l => rw [sizeL] at h; have := a.size_eq; omega
    | succ n ih =>
      intro l
      induction l with
      | nil => intro _; rfl
      | cons a l ihl =>
        intro h
        rw [sizeL] at h ⊢
        have e1 := a.size_eq
        have h1 := ih a.A (by omega)
        have h2 := ih a.B (by omega)
        have h3 := ihl (by omega)
        unfold actionsN at h3 ⊢
        simp only [List.map_cons, List.sum_cons]
        rw [actionN_eq]
        omega
  exact key _ l (Nat.le_refl _)
theorem NewL.halves {w w' : World} {a : ActionT} {v0 v1 v2 v3 v4 v5 v6 v7 v8 u9 u10 : Value} (h : NewL w w' (actionF a) [v0, v1, v2, v3, v4, v5, v6, v7, v8, u9, u10]) :
    ∃ S9 S10, Has w' (actions a.A) u9 S9 ∧ Has w' (actions a.B) u10 S10 ∧ (∀ x, x ∈ S9 → x ∉ S10) ∧ (∀ x, x ∈ S9 → w.heap.size ≤ x) ∧ (∀ x, x ∈ S10 → w.heap.size ≤ x) := by
  obtain ⟨S, hS, hlo, _⟩ := h
  rw [actionF_eq] at hS
  obtain ⟨us, e, hS⟩ := hS.uncons_v; cases e
  obtain ⟨us, e, hS⟩ := hS.uncons_v; cases e
  obtain ⟨us, e, hS⟩ := hS.uncons_v; cases e
  obtain ⟨us, e, hS⟩ := hS.uncons_v; cases e
  obtain ⟨us, e, hS⟩ := hS.uncons_v; cases e
  obtain ⟨us, e, hS⟩ := hS.uncons_v; cases e
  obtain ⟨us, e, hS⟩ := hS.uncons_v; cases e
  obtain ⟨us, e, hS⟩ := hS.uncons_v; cases e
  obtain ⟨us, e, hS⟩ := hS.uncons_v; cases e
  obtain ⟨u, us', S1, S2, e, rfl, h9, hS, hd⟩ := hS.uncons; cases e
  obtain ⟨u, us', S3, S4, e, rfl, h10, hS, hd2⟩ := hS.uncons; cases e
  exact ⟨S1, S3, h9, h10, fun x hx hy => hd x hx (by simp [hy]), fun x hx => hlo x (by simp [hx]), fun x hx => hlo x (by simp [hx])⟩
theorem AtPost.via {l l' : List ActionT} {p p' : Int} {w w1 : World} {e : Ending} {w' : World} (h : AtPost l p w1 e w') (he : atI l' p' = atI l p) (hc : Chg [] w w1) : AtPost l' p' w e w' := by
  obtain ⟨a, b, A9, cap9, A10, cap10, h1, h2, h3⟩ := h
  exact ⟨a, b, A9, cap9, A10, cap10, by rw [he]; exact h1, h2, h3.sooner hc⟩
theorem none_new {w w' : World} (h : Chg [] w w') : New w w' (.s 0 []) (.slice none 0 0) := (App.nil w 0 0 h).new
theorem zeroA_new {w w' : World} (h : Chg [] w w') : NewL w w' (actionF zeroA) [.int .i64 0, .int .i64 0, .int .i64 0, .string ⟨#[]⟩, .string ⟨#[]⟩, .string ⟨#[]⟩, .int .i64 0, .string ⟨#[]⟩, .int .i64 0, .slice none 0 0, .slice none 0 0] := by
  rw [actionF_parts]
  refine NewT.start (T := []) ?_ (by intro x hx; simp at hx)
  refine NewT.cons_v ?_
  refine NewT.cons_v ?_
  refine NewT.cons_v ?_
  refine NewT.cons_v ?_
  refine NewT.cons_v ?_
  refine NewT.cons_v ?_
  refine NewT.cons_v ?_
  refine NewT.cons_v ?_
  refine NewT.cons_v ?_
  refine NewT.cons_new (d := actions zeroA.A) (none_new h) (by intro x hx; simp at hx) (Chg.refl _ _) (Chg.refl _ _) ?_
  refine NewT.cons_new (d := actions zeroA.B) (none_new (Chg.refl _ _)) (by intro x hx; simp at hx) (Chg.refl _ _) (Chg.refl _ _) ?_
  exact NewT.nil (Chg.refl _ _)

def ActAtP_impl (l : List ActionT) : Prop := ∀ (u : Value) (p : Int) (B : Nat) (w : World), actionsW l ≤ 1048576 → -9223372036854775808 ≤ p → p ≤ 9223372036854775807 → Rd w B (actions l) u → B ≤ w.heap.size → Calls Try.prog 6 #[u, .int .i64 p] w (AtPost l p w)
set_option maxRecDepth 100000 in
set_option maxHeartbeats 2000000 in
theorem actionAt_impl_any : ∀ l, ActAtP_impl l := by
  refine ActionT.ind fun l ih => ?_
  intro u p B w hl hp0 hp1 hr hB
  have hll : l.length ≤ 1048576 := by unfold actionsW at hl; omega
  have hsl : sizeL l ≤ 1048576 := by have := sizeL_W l; omega
  obtain ⟨A, cap, rfl, h0, h1, hrow⟩ := actions_row hr
  unfold maxLen at h1
  have IH := Lib.hid ih
  clear ih hr
  go_enter Try.func6, Try.ntmps6
  go_wp2_with fail
  · have tt : w.heap.size < w.heap.size + 1 := by omega
    refine bodyPost_ret (v := .tuple #[.agg #[.int .i64 0, .int .i64 0, .int .i64 0, .string ⟨#[]⟩, .string ⟨#[]⟩, .string ⟨#[]⟩, .int .i64 0, .string ⟨#[]⟩, .int .i64 0, .slice none 0 0, .slice none 0 0], .bool false]) (by simp only [results, Try.results6]; go_simp) rfl ?_
    exact ⟨zeroA, false, none, 0, none, 0, by rw [atI_none l p (.inl (by assumption))]; exact ⟨rfl, rfl⟩, rfl, zeroA_new (by repeat (first | with_reducible exact Chg.refl _ _ | with_reducible refine Chg.drew ?_ | with_reducible refine Chg.alloc ?_ _))⟩
  go_loopw [1, 14] (fun v i wr => ∃ (k : Nat) (q : Int), k ≤ l.length ∧ i = .int .i64 k ∧ v = .int .i64 q ∧ 0 ≤ q ∧ q ≤ p ∧ Hid (p = sizeL (l.take k) + q) ∧ Hid (Chg [] (w.alloc (.cells #[.int .i64 0, .int .i64 0, .int .i64 0, .string ⟨#[]⟩, .string ⟨#[]⟩, .string ⟨#[]⟩, .int .i64 0, .string ⟨#[]⟩, .int .i64 0, .slice none 0 0, .slice none 0 0] 30)) wr)) (fun _ i _ => l.length - (intOf i).toNat)
  case atStart => exact ⟨0, p, Nat.zero_le _, rfl, rfl, by assumption, Int.le_refl _, by simp [sizeL, Hid], Lib.hid (Chg.refl _ _)⟩
  case round =>
    obtain ⟨k, q, hk, rfl, rfl, hq0, hq1, HP, HC⟩ := hrel
    have hc : Chg [] w wr := Chg.trans0 ((Chg.refl _ _).alloc _) HC.out
    obtain ⟨y0, z0, s0⟩ := HC.out.cells
    have t0 : w.heap.size < wr.heap.size := by simp at s0; omega
    have tt : w.heap.size < w.heap.size + 1 := by omega
    have hwB : B ≤ wr.heap.size := by omega
    have hcT : Chg [w.heap.size] w wr := hc.mono (by intro x hx; cases hx)
    by_cases hlt : k < l.length
    · obtain ⟨b, off, u9, u10, rfl, hb, q0, q1, q2, q3, q4, q5, q6, q7, q8, q9, q10, r9, r10⟩ := actions_cells (hrow.chg0 hc hB) k hlt
      have hmem := List.getElem_mem hlt
      have hwt := actionsW_mem hmem
      rw [actionW_eq] at hwt
      obtain ⟨X9, xap9, rfl, _, _, _⟩ := actions_row r9
      obtain ⟨X10, xap10, rfl, _, _, _⟩ := actions_row r10
      go_wp2_with fail
      · -- the action itself
        have hq : q = 0 := by simpa using ‹(q == 0) = true›
        refine (copyAction_el l[k] (copyActions_any _) (copyActions_any _) _ _ B _ (by rw [actionW_eq]; unfold actionsW at hl; omega) (r9.chg0 ((Chg.refl _ _).alloc _) hwB) (r10.chg0 ((Chg.refl _ _).alloc _) hwB) (by simp; omega)).mono ?_
        rintro e w1 ⟨A9, cap9, A10, cap10, rfl, n1⟩
        obtain ⟨y1, z1, s1⟩ := n1.chg.cells
        have t1 : w.heap.size < w1.heap.size := by simp at s1; omega
        have t2 : w.heap.size < wr.heap.size + 1 := by omega
        go_wp2_with fail
        refine bodyPost_ret (v := .tuple #[.agg #[.int .i64 (l[k].op), .int .i64 (l[k].slot), .int .i64 (l[k].other), .string (l[k].word), .string (l[k].call.method), .string (l[k].call.key), .int .i64 (l[k].call.value), .string (l[k].call.text), .int .i64 (l[k].face), .slice A9 l[k].A.length cap9, .slice A10 l[k].B.length cap10], .bool true]) (by simp only [results, Try.results6]; go_simp) rfl ?_
        exact ⟨l[k], true, A9, cap9, A10, cap10, by rw [atI_self l k hlt p (by have := HP.out; omega)]; exact ⟨rfl, rfl⟩, rfl, NewT.start (T := [w.heap.size]) (NewT.last_new n1 (by intro x hx; simp at hx ⊢; omega) (by repeat (first | with_reducible exact hcT | with_reducible refine Chg.drew ?_ | with_reducible refine Chg.alloc ?_ _ | with_reducible refine Chg.setCell ?_ (.inl (by simp)) _)) (by repeat (first | with_reducible exact Chg.refl _ _ | with_reducible refine Chg.drew ?_ | with_reducible refine Chg.alloc ?_ _ | with_reducible refine Chg.setCell ?_ (.inl (by simp)) _))) (by intro x hx; simp at hx; omega)⟩
      · -- further
        have hq : q ≠ 0 := by simpa using ‹(q == 0) = false›
        refine (planSize_impl_any l[k].A _ B _ (by have := sizeL_take l k hlt; have := sizeL_le l (k + 1); have := l[k].size_eq; omega) (r9.chg0 ((Chg.refl _ _).alloc _) hwB) (by simp; omega)).mono ?_
        rintro e w1 ⟨rfl, e1⟩
        obtain ⟨y1, z1, s1⟩ := e1.cells
        have t1 : w.heap.size < w1.heap.size := by simp at s1; omega
        have t1' : wr.heap.size < w1.heap.size := by simp at s1; omega
        have t2 : w.heap.size < wr.heap.size + 1 := by omega
        have t3 : wr.heap.size < wr.heap.size + 1 := by omega
        have hw1 : Chg [] wr w1 := Chg.trans0 ((Chg.refl _ _).alloc _) e1
        go_wp2_with fail
        · refine ((IH.out _ hmem).1 _ (q - 1) B _ (by unfold actionsW at hl; omega) (by omega) (by omega) (r9.chg0 hw1 hwB) (by omega)).mono ?_
          rintro e w2 ⟨a, bb, A9, cap9, A10, cap10, hab, rfl, n2⟩
          obtain ⟨y2, z2, s2⟩ := n2.chg.cells
          have t4 : w.heap.size < w2.heap.size := by omega
          go_wp2_with fail
          refine bodyPost_ret (v := .tuple #[.agg #[.int .i64 a.op, .int .i64 a.slot, .int .i64 a.other, .string a.word, .string a.call.method, .string a.call.key, .int .i64 a.call.value, .string a.call.text, .int .i64 a.face, .slice A9 a.A.length cap9, .slice A10 a.B.length cap10], .bool bb]) (by simp only [results, Try.results6]; go_simp) rfl ?_
          exact ⟨a, bb, A9, cap9, A10, cap10, by rw [atI_A l k hlt p (q - 1) (by omega) (by assumption) (by have := HP.out; omega)]; exact hab, rfl, NewT.start (T := [w.heap.size]) (NewT.last_new n2 (by intro x hx; simp at hx ⊢; omega) ((Chg.trans0 hc hw1).mono (by intro x hx; cases hx)) (by repeat (first | with_reducible exact Chg.refl _ _ | with_reducible refine Chg.drew ?_ | with_reducible refine Chg.alloc ?_ _ | with_reducible refine Chg.setCell ?_ (.inl (by simp)) _))) (by intro x hx; simp at hx; omega)⟩
        · refine (planSize_impl_any l[k].B _ B _ (by have := sizeL_take l k hlt; have := sizeL_le l (k + 1); have := l[k].size_eq; omega) (r10.chg0 hw1 hwB) (by omega)).mono ?_
          rintro e w3 ⟨rfl, e3⟩
          obtain ⟨y3, z3, s3⟩ := e3.cells
          have t5 : w.heap.size < w3.heap.size := by omega
          have hw3 : Chg [] wr w3 := Chg.trans0 hw1 e3
          have t6 : wr.heap.size ≤ w3.heap.size := by omega
          go_wp2_with fail
          · refine ((IH.out _ hmem).2 _ (q - 1 - sizeL l[k].A) B _ (by unfold actionsW at hl; omega) (by omega) (by omega) (r10.chg0 hw3 hwB) (by omega)).mono ?_
            rintro e w2 ⟨a, bb, A9, cap9, A10, cap10, hab, rfl, n2⟩
            obtain ⟨y2, z2, s2⟩ := n2.chg.cells
            have t4 : w.heap.size < w2.heap.size := by omega
            go_wp2_with fail
            refine bodyPost_ret (v := .tuple #[.agg #[.int .i64 a.op, .int .i64 a.slot, .int .i64 a.other, .string a.word, .string a.call.method, .string a.call.key, .int .i64 a.call.value, .string a.call.text, .int .i64 a.face, .slice A9 a.A.length cap9, .slice A10 a.B.length cap10], .bool bb]) (by simp only [results, Try.results6]; go_simp) rfl ?_
            exact ⟨a, bb, A9, cap9, A10, cap10, by rw [atI_B l k hlt p (q - 1 - sizeL l[k].A) (by omega) (by assumption) (by have := HP.out; omega)]; exact hab, rfl, NewT.start (T := [w.heap.size]) (NewT.last_new n2 (by intro x hx; simp at hx ⊢; omega) ((Chg.trans0 hc hw3).mono (by intro x hx; cases hx)) (by repeat (first | with_reducible exact Chg.refl _ _ | with_reducible refine Chg.drew ?_ | with_reducible refine Chg.alloc ?_ _ | with_reducible refine Chg.setCell ?_ (.inl (by simp)) _))) (by intro x hx; simp at hx; omega)⟩
          · go_roundw
            case rel => exact ⟨k + 1, q - 1 - sizeL l[k].A - sizeL l[k].B, by omega, by go_num, by go_num, by omega, by omega, Lib.hid (by have := HP.out; have := sizeL_take l k hlt; have := l[k].size_eq; omega), Lib.hid (Chg.trans0 HC.out hw3)⟩
            case measure => simp [intOf]; omega
    · obtain rfl : k = l.length := by omega
      rw [List.take_length] at HP
      go_wp2_with fail
      refine bodyPost_ret (v := .tuple #[.agg #[.int .i64 0, .int .i64 0, .int .i64 0, .string ⟨#[]⟩, .string ⟨#[]⟩, .string ⟨#[]⟩, .int .i64 0, .string ⟨#[]⟩, .int .i64 0, .slice none 0 0, .slice none 0 0], .bool false]) (by simp only [results, Try.results6]; go_simp) rfl ?_
      exact ⟨zeroA, false, none, 0, none, 0, by rw [atI_none l p (.inr (by have := HP.out; omega))]; exact ⟨rfl, rfl⟩, rfl, NewT.start (T := [w.heap.size]) (NewT.last_new (zeroA_new (Chg.refl [] wr)) (by intro x hx; simp at hx ⊢; omega) hcT (by repeat (first | with_reducible exact Chg.refl _ _ | with_reducible refine Chg.drew ?_ | with_reducible refine Chg.alloc ?_ _ | with_reducible refine Chg.setCell ?_ (.inl (by simp)) _))) (by intro x hx; simp at hx; omega)⟩
end Go.Proofs.Ytkgffhlpcjjobaa
namespace Go.Proofs.Ytkgffhlpcjjobaa
open Go.RowKit

theorem atL_sub : ∀ (n : Nat) (l : List ActionT), sizeL l ≤ n → ∀ p a, atL l p = some a → p + a.size ≤ sizeL l ∧ ∀ i, i < sizeL a.A + sizeL a.B → atL l (p + 1 + i) = if i < sizeL a.A then atL a.A i else atL a.B (i - sizeL a.A) := by
  intro n
  induction n with
  | zero =>
    intro l hl p a h
    cases l with
    | nil => rw [atL] at h; cases h
    | cons b l => rw [sizeL] at hl; have := b.size_eq; omega
  | succ n ih =>
    intro l hl p a h
    cases l with
    | nil => rw [atL] at h; cases h
    | cons b l =>
      rw [sizeL] at hl
      have hb := b.size_eq
      rw [atL] at h
      by_cases h1 : p < b.size
      · rw [if_pos h1, ActionT.at_eq] at h
        by_cases h2 : p = 0
        · rw [if_pos h2] at h
          obtain rfl := Option.some.inj h
          refine ⟨by rw [sizeL]; omega, fun i hi => ?_⟩
          rw [atL, if_pos (by omega), ActionT.at_eq, if_neg (by omega)]
          by_cases h3 : i < sizeL b.A
          · rw [if_pos (by omega), if_pos h3]; congr 1; omega
          · rw [if_neg (by omega), if_neg h3]; congr 1; omega
        · rw [if_neg h2] at h
          by_cases h3 : p - 1 < sizeL b.A
          · rw [if_pos h3] at h
            obtain ⟨k1, k2⟩ := ih b.A (by omega) _ _ h
            have ha := a.size_eq
            refine ⟨by rw [sizeL]; omega, fun i hi => ?_⟩
            rw [← k2 i hi, atL, if_pos (by omega), ActionT.at_eq, if_neg (by omega), if_pos (by omega)]
            congr 1; omega
          · rw [if_neg h3] at h
            obtain ⟨k1, k2⟩ := ih b.B (by omega) _ _ h
            have ha := a.size_eq
            refine ⟨by rw [sizeL]; omega, fun i hi => ?_⟩
            rw [← k2 i hi, atL, if_pos (by omega), ActionT.at_eq, if_neg (by omega), if_neg (by omega)]
            congr 1; omega
      · rw [if_neg h1] at h
        obtain ⟨k1, k2⟩ := ih l (by omega) _ _ h
        refine ⟨by rw [sizeL]; omega, fun i hi => ?_⟩
        rw [← k2 i hi, atL, if_neg (by omega)]
        congr 1; omega
theorem atL_some : ∀ (n : Nat) (l : List ActionT), sizeL l ≤ n → ∀ p, p < sizeL l → ∃ a, atL l p = some a := by
  intro n
  induction n with
  | zero => intro l hl p hp; omega
  | succ n ih =>
    intro l hl p hp
    cases l with
    | nil => rw [sizeL] at hp; omega
    | cons b l =>
      rw [sizeL] at hl hp
      have hb := b.size_eq
      rw [atL]
      by_cases h1 : p < b.size
      · rw [if_pos h1, ActionT.at_eq]
        by_cases h2 : p = 0
        · rw [if_pos h2]; exact ⟨b, rfl⟩
        · rw [if_neg h2]
          by_cases h3 : p - 1 < sizeL b.A
          · rw [if_pos h3]; exact ih b.A (by omega) _ h3
          · rw [if_neg h3]; exact ih b.B (by omega) _ (by omega)
      · rw [if_neg h1]; exact ih l (by omega) _ (by omega)
/-- There is an action in each place below the size, and in no other one. -/
theorem atI_iff (l : List ActionT) (p : Int) : (atI l p).isSome = true ↔ 0 ≤ p ∧ p < sizeL l := by
  constructor
  · intro h
    by_cases h1 : p < 0 ∨ (sizeL l : Int) ≤ p
    · rw [atI_none l p h1] at h; cases h
    · omega
  · rintro ⟨h0, h1⟩
    obtain ⟨a, ha⟩ := atL_some _ l (Nat.le_refl _) p.toNat (by omega)
    unfold atI
    rw [if_neg (by omega), ha]; rfl
/-- What is in an action has the places behind it. -/
theorem atI_sub {l : List ActionT} {p : Int} {a : ActionT} (h : atI l p = some a) (i : Nat) (hi : i < sizeL a.A + sizeL a.B) : atI l (p + 1 + i) = if i < sizeL a.A then atI a.A i else atI a.B ((i : Int) - sizeL a.A) := by
  unfold atI at h
  by_cases h0 : p < 0
  · rw [if_pos h0] at h; cases h
  · rw [if_neg h0] at h
    have k := (atL_sub _ l (Nat.le_refl _) _ _ h).2 i hi
    have e1 : atI l (p + 1 + i) = atL l (p.toNat + 1 + i) := by
      unfold atI
      rw [if_neg (by omega)]
      congr 1; omega
    rw [e1, k]
    by_cases h1 : i < sizeL a.A
    · rw [if_pos h1, if_pos h1]
      unfold atI
      rw [if_neg (by omega)]
      rfl
    · rw [if_neg h1, if_neg h1]
      unfold atI
      rw [if_neg (by omega)]
      congr 1; omega
theorem atI_some_of {l : List ActionT} {p : Int} {a : ActionT} (h : atI l p = some a) (i : Nat) (hi : i < sizeL a.A + sizeL a.B) : ∃ x, atI l (p + 1 + i) = some x ∧ (if i < sizeL a.A then atI a.A i else atI a.B ((i : Int) - sizeL a.A)) = some x := by
  have k := atI_sub h i hi
  have : (if i < sizeL a.A then atI a.A i else atI a.B ((i : Int) - sizeL a.A)).isSome = true := by
    by_cases h1 : i < sizeL a.A
    · rw [if_pos h1]; exact (atI_iff _ _).2 ⟨by omega, by omega⟩
    · rw [if_neg h1]; exact (atI_iff _ _).2 ⟨by omega, by omega⟩
  obtain ⟨x, hx⟩ := Option.isSome_iff_exists.1 this
  exact ⟨x, k.trans hx, hx⟩
theorem depthL_pos {l : List ActionT} {p : Int} {a : ActionT} (h : atI l p = some a) : 1 ≤ depthL l ∧ depthL l ≤ sizeL l := by
  refine ⟨?_, depthL_size l⟩
  cases l with
  | nil => rw [atI_none [] p (by simp [sizeL]; omega)] at h; cases h
  | cons b l => have := depthL_mem (l := b :: l) (a := b) (by simp); have := b.depth_eq; omega
end Go.Proofs.Ytkgffhlpcjjobaa
