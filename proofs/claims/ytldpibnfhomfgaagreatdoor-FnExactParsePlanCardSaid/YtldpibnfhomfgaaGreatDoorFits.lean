/- The fields that an action may have: zeroCall, fieldsFit of the program, l8Empty of the reference. -/
import Derived.Test.YtldpibnfhomfgaaGreatDoorActOks
import Derived.Test.YtldpibnfhomfgaaGreatDoorSame
namespace Go.Proofs.YtldpibnfhomfgaaGreatDoor
open Go.RowKit

theorem nil_size {s : ByteArray} : s.toList = [] ↔ s.size = 0 := by
  rw [ByteArray.toList_eq]
  exact ⟨fun h => congrArg List.length h, fun h => List.eq_nil_of_length_eq_zero h⟩
open Classical in
theorem eql_call0 (c : CallT) (W : World) : (binOp .eql 39 (.agg #[.string c.method, .string c.key, .int .i64 c.value, .string c.text]) (.agg #[.string ⟨#[]⟩, .string ⟨#[]⟩, .int .i64 0, .string ⟨#[]⟩])).run Tryz.prog W = .ok (.bool (decide (CallZ c))) W := by
  have h : ∀ n : Nat, (Op.equalIn (n + 2) 39 (.agg #[.string c.method, .string c.key, .int .i64 c.value, .string c.text]) (.agg #[.string ⟨#[]⟩, .string ⟨#[]⟩, .int .i64 0, .string ⟨#[]⟩])).run Tryz.prog W = .ok (decide (CallZ c)) W := fun n => by
    rw [run_equalIn_struct W (n + 1) 39 _ _ (by simp only [Program.fieldsOf, Tryz.underlying39]) (by kernel_rfl)]
    simp [go_sem, Program.fieldsOf, Tryz.underlying39]
    unfold CallZ
    rw [← nil_size, ← nil_size, ← nil_size]
    by_cases h1 : c.method.toList = [] <;> by_cases h2 : c.key.toList = [] <;> by_cases h3 : c.value = 0 <;> by_cases h4 : c.text.toList = [] <;> simp [h1, h2, h3, h4]
  simp only [binOp]
  simp [Op.equal, Op.maxDepth, h 9998]
theorem eql_call_yes (c : CallT) (h : CallZ c) (W : World) : (binOp .eql 39 (.agg #[.string c.method, .string c.key, .int .i64 c.value, .string c.text]) (.agg #[.string ⟨#[]⟩, .string ⟨#[]⟩, .int .i64 0, .string ⟨#[]⟩])).run Tryz.prog W = .ok (.bool true) W := by
  rw [eql_call0]; simp [h]
theorem eql_call_no (c : CallT) (h : ¬ CallZ c) (W : World) : (binOp .eql 39 (.agg #[.string c.method, .string c.key, .int .i64 c.value, .string c.text]) (.agg #[.string ⟨#[]⟩, .string ⟨#[]⟩, .int .i64 0, .string ⟨#[]⟩])).run Tryz.prog W = .ok (.bool false) W := by
  rw [eql_call0]; simp [h]
open Classical in
theorem neq_call0 (c : CallT) (W : World) : (binOp .neq 39 (.agg #[.string c.method, .string c.key, .int .i64 c.value, .string c.text]) (.agg #[.string ⟨#[]⟩, .string ⟨#[]⟩, .int .i64 0, .string ⟨#[]⟩])).run Tryz.prog W = .ok (.bool (!(decide (CallZ c)))) W := by
  have h : ∀ n : Nat, (Op.equalIn (n + 2) 39 (.agg #[.string c.method, .string c.key, .int .i64 c.value, .string c.text]) (.agg #[.string ⟨#[]⟩, .string ⟨#[]⟩, .int .i64 0, .string ⟨#[]⟩])).run Tryz.prog W = .ok (decide (CallZ c)) W := fun n => by
    rw [run_equalIn_struct W (n + 1) 39 _ _ (by simp only [Program.fieldsOf, Tryz.underlying39]) (by kernel_rfl)]
    simp [go_sem, Program.fieldsOf, Tryz.underlying39]
    unfold CallZ
    rw [← nil_size, ← nil_size, ← nil_size]
    by_cases h1 : c.method.toList = [] <;> by_cases h2 : c.key.toList = [] <;> by_cases h3 : c.value = 0 <;> by_cases h4 : c.text.toList = [] <;> simp [h1, h2, h3, h4]
  simp only [binOp]
  simp [Op.equal, Op.maxDepth, h 9998]
theorem neq_call_yes (c : CallT) (h : CallZ c) (W : World) : (binOp .neq 39 (.agg #[.string c.method, .string c.key, .int .i64 c.value, .string c.text]) (.agg #[.string ⟨#[]⟩, .string ⟨#[]⟩, .int .i64 0, .string ⟨#[]⟩])).run Tryz.prog W = .ok (.bool false) W := by
  rw [neq_call0]; simp [h]
theorem neq_call_no (c : CallT) (h : ¬ CallZ c) (W : World) : (binOp .neq 39 (.agg #[.string c.method, .string c.key, .int .i64 c.value, .string c.text]) (.agg #[.string ⟨#[]⟩, .string ⟨#[]⟩, .int .i64 0, .string ⟨#[]⟩])).run Tryz.prog W = .ok (.bool true) W := by
  rw [neq_call0]; simp [h]
/-- Which fields are allowed, of all calls that there are. -/
def Flags (other word call face first second : Bool) : Prop :=
  [(false, true, false, false, false, false), (false, false, false, false, false, false), (true, false, false, false, false, false), (false, false, false, true, false, false), (false, false, true, false, false, false), (false, false, false, false, true, true), (false, false, false, false, true, false)].contains (other, word, call, face, first, second) = true
theorem Flags.cases {o w c f a b : Bool} (h : Flags o w c f a b) : (o = false ∧ w = true ∧ c = false ∧ f = false ∧ a = false ∧ b = false) ∨ (o = false ∧ w = false ∧ c = false ∧ f = false ∧ a = false ∧ b = false) ∨ (o = true ∧ w = false ∧ c = false ∧ f = false ∧ a = false ∧ b = false) ∨
    (o = false ∧ w = false ∧ c = false ∧ f = true ∧ a = false ∧ b = false) ∨ (o = false ∧ w = false ∧ c = true ∧ f = false ∧ a = false ∧ b = false) ∨ (o = false ∧ w = false ∧ c = false ∧ f = false ∧ a = true ∧ b = true) ∨ (o = false ∧ w = false ∧ c = false ∧ f = false ∧ a = true ∧ b = false) := by
  revert h
  cases o <;> cases w <;> cases c <;> cases f <;> cases a <;> cases b <;> simp [Flags]
set_option maxRecDepth 100000 in
theorem zeroCall_any (c : CallT) (w : World) :
    Calls Tryz.prog 88 #[.agg #[.string c.method, .string c.key, .int .i64 c.value, .string c.text]] w (BoolPost (CallZ c) w) := by
  by_cases h : CallZ c
  · have he := eql_call_yes c h
    have H := Lib.hid h
    clear h
    go_enter Tryz.func88, Tryz.ntmps88
    go_wp2_with fail
    go_ret
    exact ⟨_, rfl, ⟨fun _ => H.out, fun _ => rfl⟩, (Chg.refl _ _).alloc _⟩
  · have he := eql_call_no c h
    have H := Lib.hid h
    clear h
    go_enter Tryz.func88, Tryz.ntmps88
    go_wp2_with fail
    go_ret
    exact ⟨_, rfl, ⟨fun h => by simp at h, fun h => absurd h H.out⟩, (Chg.refl _ _).alloc _⟩
set_option maxRecDepth 100000 in
set_option maxHeartbeats 8000000 in
theorem l8Empty_any (a : ActionT) (A1 A2 : Option Addr) (c1 c2 : Nat) (o wd cl f a1 b1 : Bool) (hf : Flags o wd cl f a1 b1) (w : World) :
    Calls Tryz.prog 75 #[.agg #[.int .i64 a.op, .int .i64 a.slot, .int .i64 a.other, .string a.word, .string a.call.method, .string a.call.key, .int .i64 a.call.value, .string a.call.text, .int .i64 a.face, .slice A1 a.A.length c1, .slice A2 a.B.length c2], .bool o, .bool wd, .bool cl, .bool f, .bool a1, .bool b1] w (BoolPost (FieldsOk a o wd cl f a1 b1) w) := by
  have fin : ∀ (t : Bool) (W : World), Chg [] w W → (t = true ↔ FieldsOk a o wd cl f a1 b1) → BoolPost (FieldsOk a o wd cl f a1 b1) w (.returned (.bool t)) W := fun t W hc h => ⟨t, rfl, h, hc⟩
  have FIN := Lib.hid fin
  clear fin
  by_cases hz : CallZ a.call
  · have he := neq_call_yes a.call hz
    rcases hf.cases with ⟨rfl, rfl, rfl, rfl, rfl, rfl⟩ | ⟨rfl, rfl, rfl, rfl, rfl, rfl⟩ | ⟨rfl, rfl, rfl, rfl, rfl, rfl⟩ | ⟨rfl, rfl, rfl, rfl, rfl, rfl⟩ | ⟨rfl, rfl, rfl, rfl, rfl, rfl⟩ | ⟨rfl, rfl, rfl, rfl, rfl, rfl⟩ | ⟨rfl, rfl, rfl, rfl, rfl, rfl⟩
    all_goals
      clear hf
      go_enter Tryz.func75, Tryz.ntmps75
      go_wp2_with fail
      all_goals (go_ret; refine FIN.out _ _ ((Chg.refl _ _).alloc _) ?_; unfold FieldsOk; rw [← nil_size]; first | (simp [*]; done) | (simp_all; done))
  · have he := neq_call_no a.call hz
    rcases hf.cases with ⟨rfl, rfl, rfl, rfl, rfl, rfl⟩ | ⟨rfl, rfl, rfl, rfl, rfl, rfl⟩ | ⟨rfl, rfl, rfl, rfl, rfl, rfl⟩ | ⟨rfl, rfl, rfl, rfl, rfl, rfl⟩ | ⟨rfl, rfl, rfl, rfl, rfl, rfl⟩ | ⟨rfl, rfl, rfl, rfl, rfl, rfl⟩ | ⟨rfl, rfl, rfl, rfl, rfl, rfl⟩
    all_goals
      clear hf
      go_enter Tryz.func75, Tryz.ntmps75
      go_wp2_with fail
      all_goals (go_ret; refine FIN.out _ _ ((Chg.refl _ _).alloc _) ?_; unfold FieldsOk; rw [← nil_size]; first | (simp [*]; done) | (simp_all; done))
set_option maxRecDepth 100000 in
set_option maxHeartbeats 8000000 in
theorem fieldsFit_any (a : ActionT) (A1 A2 : Option Addr) (c1 c2 : Nat) (sl o wd cl f a1 b1 : Bool) (hf : Flags o wd cl f a1 b1) (hsl : sl = !a1) (w : World) :
    Calls Tryz.prog 62 #[.agg #[.int .i64 a.op, .int .i64 a.slot, .int .i64 a.other, .string a.word, .string a.call.method, .string a.call.key, .int .i64 a.call.value, .string a.call.text, .int .i64 a.face, .slice A1 a.A.length c1, .slice A2 a.B.length c2], .bool sl, .bool o, .bool wd, .bool cl, .bool f, .bool a1, .bool b1] w (BoolPost ((sl = true ∨ a.slot = 0) ∧ FieldsOk a o wd cl f a1 b1) w) := by
  obtain ⟨P, hP⟩ : ∃ P, P = ((sl = true ∨ a.slot = 0) ∧ FieldsOk a o wd cl f a1 b1) := ⟨_, rfl⟩
  rw [← hP]
  have HP : Hid (P ↔ (sl = true ∨ a.slot = 0) ∧ FieldsOk a o wd cl f a1 b1) := by show _ ↔ _; rw [hP]
  clear hP
  have fin : ∀ (t : Bool) (W : World), Chg [] w W → (t = true ↔ P) → BoolPost P w (.returned (.bool t)) W := fun t W hc h => ⟨t, rfl, h, hc⟩
  have FIN := Lib.hid fin
  clear fin
  by_cases hz : CallZ a.call
  · have ZC := Lib.hid (fun W => (zeroCall_any a.call W).mono (BoolPost.pos hz))
    rcases hf.cases with ⟨rfl, rfl, rfl, rfl, rfl, rfl⟩ | ⟨rfl, rfl, rfl, rfl, rfl, rfl⟩ | ⟨rfl, rfl, rfl, rfl, rfl, rfl⟩ | ⟨rfl, rfl, rfl, rfl, rfl, rfl⟩ | ⟨rfl, rfl, rfl, rfl, rfl, rfl⟩ | ⟨rfl, rfl, rfl, rfl, rfl, rfl⟩ | ⟨rfl, rfl, rfl, rfl, rfl, rfl⟩
    all_goals
      clear hf
      simp at hsl
      subst hsl
      go_enter Tryz.func62, Tryz.ntmps62
      go_wp2_with fail
      all_goals first
        | (go_ret; refine FIN.out _ _ ((Chg.refl _ _).alloc _) ?_; rw [HP.out]; unfold FieldsOk; rw [← nil_size]; first | (simp [*]; done) | (simp_all; done))
        | (refine (ZC.out _).mono ?_
           rintro e w1 ⟨rfl, k1⟩
           have q8 : w1.cell? ⟨w.heap.size, 8, none⟩ = some (.int .i64 a.face) := (k1.cell (p := ⟨w.heap.size, 8, none⟩) (by simp) (by simp)).trans (by go_simp)
           have q9 : w1.cell? ⟨w.heap.size, 9, none⟩ = some (.slice A1 a.A.length c1) := (k1.cell (p := ⟨w.heap.size, 9, none⟩) (by simp) (by simp)).trans (by go_simp)
           have q10 : w1.cell? ⟨w.heap.size, 10, none⟩ = some (.slice A2 a.B.length c2) := (k1.cell (p := ⟨w.heap.size, 10, none⟩) (by simp) (by simp)).trans (by go_simp)
           have d1 : Chg [] w w1 := ((Chg.refl _ _).alloc _).trans0 k1
           clear k1
           go_wp2_with fail
           all_goals (go_ret; refine FIN.out _ _ d1 ?_; rw [HP.out]; unfold FieldsOk; rw [← nil_size]; first | (simp [*]; done) | (simp_all; done)))
  · have ZC := Lib.hid (fun W => (zeroCall_any a.call W).mono (BoolPost.neg hz))
    rcases hf.cases with ⟨rfl, rfl, rfl, rfl, rfl, rfl⟩ | ⟨rfl, rfl, rfl, rfl, rfl, rfl⟩ | ⟨rfl, rfl, rfl, rfl, rfl, rfl⟩ | ⟨rfl, rfl, rfl, rfl, rfl, rfl⟩ | ⟨rfl, rfl, rfl, rfl, rfl, rfl⟩ | ⟨rfl, rfl, rfl, rfl, rfl, rfl⟩ | ⟨rfl, rfl, rfl, rfl, rfl, rfl⟩
    all_goals
      clear hf
      simp at hsl
      subst hsl
      go_enter Tryz.func62, Tryz.ntmps62
      go_wp2_with fail
      all_goals first
        | (go_ret; refine FIN.out _ _ ((Chg.refl _ _).alloc _) ?_; rw [HP.out]; unfold FieldsOk; rw [← nil_size]; first | (simp [*]; done) | (simp_all; done))
        | (refine (ZC.out _).mono ?_
           rintro e w1 ⟨rfl, k1⟩
           have q8 : w1.cell? ⟨w.heap.size, 8, none⟩ = some (.int .i64 a.face) := (k1.cell (p := ⟨w.heap.size, 8, none⟩) (by simp) (by simp)).trans (by go_simp)
           have q9 : w1.cell? ⟨w.heap.size, 9, none⟩ = some (.slice A1 a.A.length c1) := (k1.cell (p := ⟨w.heap.size, 9, none⟩) (by simp) (by simp)).trans (by go_simp)
           have q10 : w1.cell? ⟨w.heap.size, 10, none⟩ = some (.slice A2 a.B.length c2) := (k1.cell (p := ⟨w.heap.size, 10, none⟩) (by simp) (by simp)).trans (by go_simp)
           have d1 : Chg [] w w1 := ((Chg.refl _ _).alloc _).trans0 k1
           clear k1
           go_wp2_with fail
           all_goals (go_ret; refine FIN.out _ _ d1 ?_; rw [HP.out]; unfold FieldsOk; rw [← nil_size]; first | (simp [*]; done) | (simp_all; done)))
end Go.Proofs.YtldpibnfhomfgaaGreatDoor
