/- IsCall of both packages. / The fields that an action may have: zeroCall, fieldsFit of the program, l8Empty of the reference. / l8Call, l8Action, l8All of the reference. / l8Action of the reference, for some kinds of actions. Written by a program. / l8Action of the reference, for some kinds of actions. Written by a program. / l8Action of the reference, for some kinds of actions. Written by a program. / l8Action of the reference, for some kinds of actions. Written by a program. / l8Action and l8All of the reference. / IsPlan of the reference. Conditions: none. -/
import Derived.Test.YtdlkbomojjmnlaaGreatDoorActOks
import Derived.Test.YtdlkbomojjmnlaaGreatDoorMeths
import Derived.Test.YtdlkbomojjmnlaaGreatDoorNames
import Derived.Test.YtdlkbomojjmnlaaGreatDoorCellsAll
import Derived.Deep.Light
namespace Go.Proofs.YtdlkbomojjmnlaaGreatDoor
open Go.RowKit

theorem text_is {a : ByteArray} {l : List UInt8} (h : a = ⟨l.toArray⟩) : (a.toList == l) = true := by
  rw [h, ByteArray.toList_eq]; simp
theorem text_no {a : ByteArray} {l : List UInt8} (h : a ≠ ⟨l.toArray⟩) : (a.toList == l) = false := by
  rw [beq_eq_false_iff_ne, ByteArray.toList_eq]
  intro e
  exact h (ByteArray.ext (Array.toList_inj.1 (by simpa using e)))
theorem empty_is {s : ByteArray} : (s.toList == []) = true ↔ s.size = 0 := by
  rw [ByteArray.toList_eq, beq_iff_eq]
  exact ⟨fun h => congrArg List.length h, fun h => List.eq_nil_of_length_eq_zero h⟩
/-- Which method it is. -/
theorem methCases (m : ByteArray) :
    (m = mGet ∧ (m.toList == [71, 101, 116]) = true ∧ (m.toList == [80, 117, 116]) = false ∧ (m.toList == [72, 101, 97, 114]) = false ∧ (m.toList == [76, 111, 97, 100]) = false) ∨
    (m = mPut ∧ (m.toList == [71, 101, 116]) = false ∧ (m.toList == [80, 117, 116]) = true ∧ (m.toList == [72, 101, 97, 114]) = false ∧ (m.toList == [76, 111, 97, 100]) = false) ∨
    (m = mHear ∧ (m.toList == [71, 101, 116]) = false ∧ (m.toList == [80, 117, 116]) = false ∧ (m.toList == [72, 101, 97, 114]) = true ∧ (m.toList == [76, 111, 97, 100]) = false) ∨
    (m = mLoad ∧ (m.toList == [71, 101, 116]) = false ∧ (m.toList == [80, 117, 116]) = false ∧ (m.toList == [72, 101, 97, 114]) = false ∧ (m.toList == [76, 111, 97, 100]) = true) ∨
    ((m ≠ mGet ∧ m ≠ mPut ∧ m ≠ mHear ∧ m ≠ mLoad) ∧ (m.toList == [71, 101, 116]) = false ∧ (m.toList == [80, 117, 116]) = false ∧ (m.toList == [72, 101, 97, 114]) = false ∧ (m.toList == [76, 111, 97, 100]) = false) := by
  by_cases h1 : m = mGet
  · exact .inl ⟨h1, text_is h1, text_no (by rw [h1]; decide), text_no (by rw [h1]; decide), text_no (by rw [h1]; decide)⟩
  · by_cases h2 : m = mPut
    · exact .inr (.inl ⟨h2, text_no h1, text_is h2, text_no (by rw [h2]; decide), text_no (by rw [h2]; decide)⟩)
    · by_cases h3 : m = mHear
      · exact .inr (.inr (.inl ⟨h3, text_no h1, text_no h2, text_is h3, text_no (by rw [h3]; decide)⟩))
      · by_cases h4 : m = mLoad
        · exact .inr (.inr (.inr (.inl ⟨h4, text_no h1, text_no h2, text_no h3, text_is h4⟩)))
        · exact .inr (.inr (.inr (.inr ⟨⟨h1, h2, h3, h4⟩, text_no h1, text_no h2, text_no h3, text_no h4⟩)))
theorem abil_get : abilOf mGet = some 1 := (abilOf_mem (k := 1) (by simp [methL])).2
theorem abil_put : abilOf mPut = some 1 := (abilOf_mem (k := 1) (by simp [methL])).2
theorem abil_hear : abilOf mHear = some 3 := (abilOf_mem (k := 3) (by simp [methL])).2
theorem abil_load : abilOf mLoad = some 4 := (abilOf_mem (k := 4) (by simp [methL])).2
theorem callOk_get {x : CallT} (h : x.method = mGet) : CallOk x ↔ (x.text.toList == []) = true ∧ IsNm x.key ∧ x.value = 0 := by
  unfold CallOk
  rw [h, abil_get, empty_is]
  have h1 : mGet ≠ mLoad := by decide
  have h2 : mGet ≠ mPut := by decide
  have h3 : mGet ≠ mHear := by decide
  simp [h1, h2, h3]
theorem callOk_put {x : CallT} (h : x.method = mPut) : CallOk x ↔ (x.text.toList == []) = true ∧ IsNm x.key ∧ IsNum x.value := by
  unfold CallOk
  rw [h, abil_put, empty_is]
  have h1 : mPut ≠ mLoad := by decide
  have h2 : mPut ≠ mGet := by decide
  have h3 : mPut ≠ mHear := by decide
  simp [h1, h2, h3]
theorem callOk_hear {x : CallT} (h : x.method = mHear) : CallOk x ↔ (x.text.toList == []) = true ∧ (x.key.toList == []) = true ∧ IsNum x.value := by
  unfold CallOk
  rw [h, abil_hear, empty_is, empty_is]
  have h1 : mHear ≠ mLoad := by decide
  have h2 : mHear ≠ mGet := by decide
  have h3 : mHear ≠ mPut := by decide
  simp [h1, h2, h3]
theorem callOk_load {x : CallT} (h : x.method = mLoad) : CallOk x ↔ (x.key.toList == []) = true ∧ x.value = 0 := by
  unfold CallOk
  rw [h, abil_load, empty_is]
  have h1 : mLoad ≠ mHear := by decide
  have h2 : mLoad ≠ mGet := by decide
  have h3 : mLoad ≠ mPut := by decide
  simp [h1, h2, h3]
theorem callOk_other {x : CallT} (h : x.method ≠ mGet ∧ x.method ≠ mPut ∧ x.method ≠ mHear ∧ x.method ≠ mLoad) : CallOk x ↔ abilOf x.method ≠ none ∧ (x.text.toList == []) = true ∧ (x.key.toList == []) = true ∧ x.value = 0 := by
  unfold CallOk
  rw [empty_is, empty_is]
  simp [h.1, h.2.1, h.2.2.1, h.2.2.2]
set_option maxRecDepth 100000 in
set_option maxHeartbeats 4000000 in
theorem isCall_impl_any (x : CallT) (w : World) (hs : x.key.size ≤ 1048576) :
    Calls Tryz.prog 125 #[.agg #[.string x.method, .string x.key, .int .i64 x.value, .string x.text]] w (BoolPost (CallOk x) w) := by
  have NM := Lib.hid (fun W => isName_impl_any x.key W hs)
  have NU := Lib.hid (fun W => isNumber_any x.value W)
  have AB := Lib.hid (fun W => abilityOfMethod_impl_any x.method W)
  have fin : ∀ (t : Bool) (W : World), Chg [] w W → (t = true ↔ CallOk x) → BoolPost (CallOk x) w (.returned (.bool t)) W := fun t W hc h => ⟨t, rfl, h, hc⟩
  have FIN := Lib.hid fin
  clear fin
  rcases methCases x.method with ⟨hm, m1, m2, m3, m4⟩ | ⟨hm, m1, m2, m3, m4⟩ | ⟨hm, m1, m2, m3, m4⟩ | ⟨hm, m1, m2, m3, m4⟩ | ⟨hm, m1, m2, m3, m4⟩
  case' inl =>
    unfold AbilPost at AB
    rw [(hm ▸ abil_get : abilOf x.method = some 1)] at AB
    have HO := Lib.hid (callOk_get hm)
    clear hm
  case' inr.inl =>
    unfold AbilPost at AB
    rw [(hm ▸ abil_put : abilOf x.method = some 1)] at AB
    have HO := Lib.hid (callOk_put hm)
    clear hm
  case' inr.inr.inl =>
    unfold AbilPost at AB
    rw [(hm ▸ abil_hear : abilOf x.method = some 3)] at AB
    have HO := Lib.hid (callOk_hear hm)
    clear hm
  case' inr.inr.inr.inl =>
    unfold AbilPost at AB
    rw [(hm ▸ abil_load : abilOf x.method = some 4)] at AB
    have HO := Lib.hid (callOk_load hm)
    clear hm
  case' inr.inr.inr.inr =>
    have HO := Lib.hid (callOk_other hm)
    clear hm
    cases ha : abilOf x.method
    case' none =>
      unfold AbilPost at AB
      rw [ha] at AB HO
      clear ha
    case' some k =>
      obtain ⟨j, hj, rfl, _⟩ := abilOf_some ha
      unfold AbilPost at AB
      rw [ha] at AB HO
      clear ha
  all_goals
    go_enter Tryz.func125, Tryz.ntmps125
    go_wp2_with fail
    refine (AB.out _).mono ?_
    rintro e w1 ⟨rfl, c1⟩
    have p0 : w1.cell? ⟨w.heap.size, 0, none⟩ = some (.string x.method) := (c1.cell (p := ⟨w.heap.size, 0, none⟩) (by simp) (by simp)).trans (by go_simp)
    have p1 : w1.cell? ⟨w.heap.size, 1, none⟩ = some (.string x.key) := (c1.cell (p := ⟨w.heap.size, 1, none⟩) (by simp) (by simp)).trans (by go_simp)
    have p2 : w1.cell? ⟨w.heap.size, 2, none⟩ = some (.int .i64 x.value) := (c1.cell (p := ⟨w.heap.size, 2, none⟩) (by simp) (by simp)).trans (by go_simp)
    have p3 : w1.cell? ⟨w.heap.size, 3, none⟩ = some (.string x.text) := (c1.cell (p := ⟨w.heap.size, 3, none⟩) (by simp) (by simp)).trans (by go_simp)
    have d1 : Chg [] w w1 := ((Chg.refl _ _).alloc _).trans0 c1
    clear c1
    go_wp2_with fail
    all_goals first
      | (go_ret; refine FIN.out _ _ d1 ?_; rw [HO.out]; (try have h1 := HT.out); (try simp at h1); (try have h2 := HU.out); first | (simp [*]; done) | (exfalso; simp_all; done))
      | (refine (NM.out _).mono ?_
         rintro e w2 ⟨t, rfl, ht, rfl⟩
         have HT := Lib.hid ht
         clear ht
         cases t
         all_goals
           go_wp2_with fail
           all_goals first
             | (go_ret; refine FIN.out _ _ d1 ?_; rw [HO.out]; (try have h1 := HT.out); (try simp at h1); (try have h2 := HU.out); first | (simp [*]; done) | (exfalso; simp_all; done))
             | (refine (NU.out _).mono ?_
                rintro e w3 ⟨t, rfl, ht, rfl⟩
                have HU := Lib.hid ht
                clear ht
                go_wp2_with fail
                all_goals (go_ret; refine FIN.out _ _ d1 ?_; rw [HO.out]; (try have h1 := HT.out); (try simp at h1); (try have h2 := HU.out); first | (simp [*]; done) | (exfalso; simp_all; done))))
      | (refine (NU.out _).mono ?_
         rintro e w2 ⟨t, rfl, ht, rfl⟩
         have HU := Lib.hid ht
         clear ht
         go_wp2_with fail
         all_goals (go_ret; refine FIN.out _ _ d1 ?_; rw [HO.out]; (try have h1 := HT.out); (try simp at h1); (try have h2 := HU.out); first | (simp [*]; done) | (exfalso; simp_all; done)))
theorem wantOf_some (s : ByteArray) (k : Int) (ha : abilOf s = some k) : ∃ v : Int, (v == 0) = false ∧ ∀ W, Calls Tryz.prog 141 #[.string s] W fun e w' => e = .returned (.int .i64 v) ∧ Chg [] W w' := by
  refine ⟨2 ^ k.toNat, beq_eq_false_iff_ne.2 (Int.ne_of_gt (Int.pow_pos (by decide))), fun W => ?_⟩
  have h := wantOf_spec_any s W
  rw [ha] at h
  exact h
set_option maxRecDepth 100000 in
set_option maxHeartbeats 4000000 in
theorem isCall_spec_any (x : CallT) (w : World) (hs : x.key.size ≤ 1048576) :
    Calls Tryz.prog 172 #[.agg #[.string x.method, .string x.key, .int .i64 x.value, .string x.text]] w (BoolPost (CallOk x) w) := by
  have NM := Lib.hid (fun W => isName_spec_any x.key W hs)
  have fin : ∀ (t : Bool) (W : World), Chg [] w W → (t = true ↔ CallOk x) → BoolPost (CallOk x) w (.returned (.bool t)) W := fun t W hc h => ⟨t, rfl, h, hc⟩
  have FIN := Lib.hid fin
  clear fin
  rcases methCases x.method with ⟨hm, m1, m2, m3, m4⟩ | ⟨hm, m1, m2, m3, m4⟩ | ⟨hm, m1, m2, m3, m4⟩ | ⟨hm, m1, m2, m3, m4⟩ | ⟨hm, m1, m2, m3, m4⟩
  case' inl =>
    obtain ⟨v, hv0, WO⟩ := wantOf_some x.method _ (hm ▸ abil_get)
    have WO := Lib.hid WO
    have HO := Lib.hid (callOk_get hm)
    clear hm
  case' inr.inl =>
    obtain ⟨v, hv0, WO⟩ := wantOf_some x.method _ (hm ▸ abil_put)
    have WO := Lib.hid WO
    have HO := Lib.hid (callOk_put hm)
    clear hm
  case' inr.inr.inl =>
    obtain ⟨v, hv0, WO⟩ := wantOf_some x.method _ (hm ▸ abil_hear)
    have WO := Lib.hid WO
    have HO := Lib.hid (callOk_hear hm)
    clear hm
  case' inr.inr.inr.inl =>
    obtain ⟨v, hv0, WO⟩ := wantOf_some x.method _ (hm ▸ abil_load)
    have WO := Lib.hid WO
    have HO := Lib.hid (callOk_load hm)
    clear hm
  case' inr.inr.inr.inr =>
    have HO := Lib.hid (callOk_other hm)
    clear hm
    cases ha : abilOf x.method
    case' none =>
      have WO := Lib.hid (fun W => wantOf_spec_any x.method W)
      rw [ha] at WO HO
      clear ha
    case' some k =>
      obtain ⟨v, hv0, WO⟩ := wantOf_some x.method _ ha
      have WO := Lib.hid WO
      rw [ha] at HO
      clear ha
  all_goals
    go_enter Tryz.func172, Tryz.ntmps172
    go_wp2_with fail
    refine (WO.out _).mono ?_
    rintro e w1 ⟨rfl, c1⟩
    have p0 : w1.cell? ⟨w.heap.size, 0, none⟩ = some (.string x.method) := (c1.cell (p := ⟨w.heap.size, 0, none⟩) (by simp) (by simp)).trans (by go_simp)
    have p1 : w1.cell? ⟨w.heap.size, 1, none⟩ = some (.string x.key) := (c1.cell (p := ⟨w.heap.size, 1, none⟩) (by simp) (by simp)).trans (by go_simp)
    have p2 : w1.cell? ⟨w.heap.size, 2, none⟩ = some (.int .i64 x.value) := (c1.cell (p := ⟨w.heap.size, 2, none⟩) (by simp) (by simp)).trans (by go_simp)
    have p3 : w1.cell? ⟨w.heap.size, 3, none⟩ = some (.string x.text) := (c1.cell (p := ⟨w.heap.size, 3, none⟩) (by simp) (by simp)).trans (by go_simp)
    have d1 : Chg [] w w1 := ((Chg.refl _ _).alloc _).trans0 c1
    clear c1
    go_wp2_with fail
    all_goals first
      | (go_ret; refine FIN.out _ _ d1 ?_; rw [HO.out]; (try have h1 := HT.out); (try simp at h1); (try unfold IsNum); first | (simp [*]; done) | (simp [*]; omega) | (exfalso; simp_all; done) | (exfalso; simp_all; omega))
      | (refine (NM.out _).mono ?_
         rintro e w2 ⟨t, rfl, ht, rfl⟩
         have HT := Lib.hid ht
         clear ht
         cases t
         all_goals
           go_wp2_with fail
           all_goals (go_ret; refine FIN.out _ _ d1 ?_; rw [HO.out]; (try have h1 := HT.out); (try simp at h1); (try unfold IsNum); first | (simp [*]; done) | (simp [*]; omega) | (exfalso; simp_all; done) | (exfalso; simp_all; omega)))
end Go.Proofs.YtdlkbomojjmnlaaGreatDoor
namespace Go.Proofs.YtdlkbomojjmnlaaGreatDoor
open Go.RowKit

theorem nil_size {s : ByteArray} : s.toList = [] ↔ s.size = 0 := by
  rw [ByteArray.toList_eq]
  exact ⟨fun h => congrArg List.length h, fun h => List.eq_nil_of_length_eq_zero h⟩
open Classical in
theorem eql_call0 (c : CallT) (W : World) : (binOp .eql 30 (.agg #[.string c.method, .string c.key, .int .i64 c.value, .string c.text]) (.agg #[.string ⟨#[]⟩, .string ⟨#[]⟩, .int .i64 0, .string ⟨#[]⟩])).run Tryz.prog W = .ok (.bool (decide (CallZ c))) W := by
  have h : ∀ n : Nat, (Op.equalIn (n + 2) 30 (.agg #[.string c.method, .string c.key, .int .i64 c.value, .string c.text]) (.agg #[.string ⟨#[]⟩, .string ⟨#[]⟩, .int .i64 0, .string ⟨#[]⟩])).run Tryz.prog W = .ok (decide (CallZ c)) W := fun n => by
    rw [run_equalIn_struct W (n + 1) 30 _ _ (by simp only [Program.fieldsOf, Tryz.underlying30]) (by kernel_rfl)]
    simp [go_sem, Program.fieldsOf, Tryz.underlying30]
    unfold CallZ
    rw [← nil_size, ← nil_size, ← nil_size]
    by_cases h1 : c.method.toList = [] <;> by_cases h2 : c.key.toList = [] <;> by_cases h3 : c.value = 0 <;> by_cases h4 : c.text.toList = [] <;> simp [h1, h2, h3, h4]
  simp only [binOp]
  simp [Op.equal, Op.maxDepth, h 9998]
theorem eql_call_yes (c : CallT) (h : CallZ c) (W : World) : (binOp .eql 30 (.agg #[.string c.method, .string c.key, .int .i64 c.value, .string c.text]) (.agg #[.string ⟨#[]⟩, .string ⟨#[]⟩, .int .i64 0, .string ⟨#[]⟩])).run Tryz.prog W = .ok (.bool true) W := by
  rw [eql_call0]; simp [h]
theorem eql_call_no (c : CallT) (h : ¬ CallZ c) (W : World) : (binOp .eql 30 (.agg #[.string c.method, .string c.key, .int .i64 c.value, .string c.text]) (.agg #[.string ⟨#[]⟩, .string ⟨#[]⟩, .int .i64 0, .string ⟨#[]⟩])).run Tryz.prog W = .ok (.bool false) W := by
  rw [eql_call0]; simp [h]
open Classical in
theorem neq_call0 (c : CallT) (W : World) : (binOp .neq 30 (.agg #[.string c.method, .string c.key, .int .i64 c.value, .string c.text]) (.agg #[.string ⟨#[]⟩, .string ⟨#[]⟩, .int .i64 0, .string ⟨#[]⟩])).run Tryz.prog W = .ok (.bool (!(decide (CallZ c)))) W := by
  have h : ∀ n : Nat, (Op.equalIn (n + 2) 30 (.agg #[.string c.method, .string c.key, .int .i64 c.value, .string c.text]) (.agg #[.string ⟨#[]⟩, .string ⟨#[]⟩, .int .i64 0, .string ⟨#[]⟩])).run Tryz.prog W = .ok (decide (CallZ c)) W := fun n => by
    rw [run_equalIn_struct W (n + 1) 30 _ _ (by simp only [Program.fieldsOf, Tryz.underlying30]) (by kernel_rfl)]
    simp [go_sem, Program.fieldsOf, Tryz.underlying30]
    unfold CallZ
    rw [← nil_size, ← nil_size, ← nil_size]
    by_cases h1 : c.method.toList = [] <;> by_cases h2 : c.key.toList = [] <;> by_cases h3 : c.value = 0 <;> by_cases h4 : c.text.toList = [] <;> simp [h1, h2, h3, h4]
  simp only [binOp]
  simp [Op.equal, Op.maxDepth, h 9998]
theorem neq_call_yes (c : CallT) (h : CallZ c) (W : World) : (binOp .neq 30 (.agg #[.string c.method, .string c.key, .int .i64 c.value, .string c.text]) (.agg #[.string ⟨#[]⟩, .string ⟨#[]⟩, .int .i64 0, .string ⟨#[]⟩])).run Tryz.prog W = .ok (.bool false) W := by
  rw [neq_call0]; simp [h]
theorem neq_call_no (c : CallT) (h : ¬ CallZ c) (W : World) : (binOp .neq 30 (.agg #[.string c.method, .string c.key, .int .i64 c.value, .string c.text]) (.agg #[.string ⟨#[]⟩, .string ⟨#[]⟩, .int .i64 0, .string ⟨#[]⟩])).run Tryz.prog W = .ok (.bool true) W := by
  rw [neq_call0]; simp [h]
/-- Which fields are allowed, of all calls that there are. -/
def Flags (other word call face first second : Bool) : Prop :=
  [(false, true, false, false, false, false), (false, false, false, false, false, false), (true, false, false, false, false, false), (false, false, false, true, false, false), (false, false, true, false, false, false), (false, false, false, false, true, true), (false, false, false, false, true, false)].contains (other, word, call, face, first, second) = true
theorem Flags.cases {o w c f a b : Bool} (h : Flags o w c f a b) : (o = false ∧ w = true ∧ c = false ∧ f = false ∧ a = false ∧ b = false) ∨ (o = false ∧ w = false ∧ c = false ∧ f = false ∧ a = false ∧ b = false) ∨ (o = true ∧ w = false ∧ c = false ∧ f = false ∧ a = false ∧ b = false) ∨
    (o = false ∧ w = false ∧ c = false ∧ f = true ∧ a = false ∧ b = false) ∨ (o = false ∧ w = false ∧ c = true ∧ f = false ∧ a = false ∧ b = false) ∨ (o = false ∧ w = false ∧ c = false ∧ f = false ∧ a = true ∧ b = true) ∨ (o = false ∧ w = false ∧ c = false ∧ f = false ∧ a = true ∧ b = false) := by
  revert h
  cases o <;> cases w <;> cases c <;> cases f <;> cases a <;> cases b <;> simp [Flags]
set_option maxRecDepth 100000 in
theorem zeroCall_any (c : CallT) (w : World) :
    Calls Tryz.prog 165 #[.agg #[.string c.method, .string c.key, .int .i64 c.value, .string c.text]] w (BoolPost (CallZ c) w) := by
  by_cases h : CallZ c
  · have he := eql_call_yes c h
    have H := Lib.hid h
    clear h
    go_enter Tryz.func165, Tryz.ntmps165
    go_wp2_with fail
    go_ret
    exact ⟨_, rfl, ⟨fun _ => H.out, fun _ => rfl⟩, (Chg.refl _ _).alloc _⟩
  · have he := eql_call_no c h
    have H := Lib.hid h
    clear h
    go_enter Tryz.func165, Tryz.ntmps165
    go_wp2_with fail
    go_ret
    exact ⟨_, rfl, ⟨fun h => by simp at h, fun h => absurd h H.out⟩, (Chg.refl _ _).alloc _⟩
set_option maxRecDepth 100000 in
set_option maxHeartbeats 8000000 in
theorem l8Empty_any (a : ActionT) (A1 A2 : Option Addr) (c1 c2 : Nat) (o wd cl f a1 b1 : Bool) (hf : Flags o wd cl f a1 b1) (w : World) :
    Calls Tryz.prog 127 #[.agg #[.int .i64 a.op, .int .i64 a.slot, .int .i64 a.other, .string a.word, .string a.call.method, .string a.call.key, .int .i64 a.call.value, .string a.call.text, .int .i64 a.face, .slice A1 a.A.length c1, .slice A2 a.B.length c2], .bool o, .bool wd, .bool cl, .bool f, .bool a1, .bool b1] w (BoolPost (FieldsOk a o wd cl f a1 b1) w) := by
  have fin : ∀ (t : Bool) (W : World), Chg [] w W → (t = true ↔ FieldsOk a o wd cl f a1 b1) → BoolPost (FieldsOk a o wd cl f a1 b1) w (.returned (.bool t)) W := fun t W hc h => ⟨t, rfl, h, hc⟩
  have FIN := Lib.hid fin
  clear fin
  by_cases hz : CallZ a.call
  · have he := neq_call_yes a.call hz
    rcases hf.cases with ⟨rfl, rfl, rfl, rfl, rfl, rfl⟩ | ⟨rfl, rfl, rfl, rfl, rfl, rfl⟩ | ⟨rfl, rfl, rfl, rfl, rfl, rfl⟩ | ⟨rfl, rfl, rfl, rfl, rfl, rfl⟩ | ⟨rfl, rfl, rfl, rfl, rfl, rfl⟩ | ⟨rfl, rfl, rfl, rfl, rfl, rfl⟩ | ⟨rfl, rfl, rfl, rfl, rfl, rfl⟩
    all_goals
      clear hf
      go_enter Tryz.func127, Tryz.ntmps127
      go_wp2_with fail
      all_goals (go_ret; refine FIN.out _ _ ((Chg.refl _ _).alloc _) ?_; unfold FieldsOk; rw [← nil_size]; first | (simp [*]; done) | (simp_all; done))
  · have he := neq_call_no a.call hz
    rcases hf.cases with ⟨rfl, rfl, rfl, rfl, rfl, rfl⟩ | ⟨rfl, rfl, rfl, rfl, rfl, rfl⟩ | ⟨rfl, rfl, rfl, rfl, rfl, rfl⟩ | ⟨rfl, rfl, rfl, rfl, rfl, rfl⟩ | ⟨rfl, rfl, rfl, rfl, rfl, rfl⟩ | ⟨rfl, rfl, rfl, rfl, rfl, rfl⟩ | ⟨rfl, rfl, rfl, rfl, rfl, rfl⟩
    all_goals
      clear hf
      go_enter Tryz.func127, Tryz.ntmps127
      go_wp2_with fail
      all_goals (go_ret; refine FIN.out _ _ ((Chg.refl _ _).alloc _) ?_; unfold FieldsOk; rw [← nil_size]; first | (simp [*]; done) | (simp_all; done))
set_option maxRecDepth 100000 in
set_option maxHeartbeats 8000000 in
theorem fieldsFit_any (a : ActionT) (A1 A2 : Option Addr) (c1 c2 : Nat) (sl o wd cl f a1 b1 : Bool) (hf : Flags o wd cl f a1 b1) (hsl : sl = !a1) (w : World) :
    Calls Tryz.prog 123 #[.agg #[.int .i64 a.op, .int .i64 a.slot, .int .i64 a.other, .string a.word, .string a.call.method, .string a.call.key, .int .i64 a.call.value, .string a.call.text, .int .i64 a.face, .slice A1 a.A.length c1, .slice A2 a.B.length c2], .bool sl, .bool o, .bool wd, .bool cl, .bool f, .bool a1, .bool b1] w (BoolPost ((sl = true ∨ a.slot = 0) ∧ FieldsOk a o wd cl f a1 b1) w) := by
  obtain ⟨P, hP⟩ : ∃ P, P = ((sl = true ∨ a.slot = 0) ∧ FieldsOk a o wd cl f a1 b1) := ⟨_, rfl⟩
  rw [← hP]
  have HP : Hid (P ↔ (sl = true ∨ a.slot = 0) ∧ FieldsOk a o wd cl f a1 b1) := by show _ ↔ _; rw [hP]
  clear hP
  have fin : ∀ (t : Bool) (W : World), Chg [] w W → (t = true ↔ P) → BoolPost P w (.returned (.bool t)) W := fun t W hc h => ⟨t, rfl, h, hc⟩
  have FIN := Lib.hid fin
  clear fin
  by_cases hz : CallZ a.call
  · have ZC := Lib.hid (fun W => (zeroCall_any a.call W).mono (BoolPost.pos hz))
    rcases hf.cases with ⟨rfl, rfl, rfl, rfl, rfl, rfl⟩ | ⟨rfl, rfl, rfl, rfl, rfl, rfl⟩ | ⟨rfl, rfl, rfl, rfl, rfl, rfl⟩ | ⟨rfl, rfl, rfl, rfl, rfl, rfl⟩ | ⟨rfl, rfl, rfl, rfl, rfl, rfl⟩ | ⟨rfl, rfl, rfl, rfl, rfl, rfl⟩ | ⟨rfl, rfl, rfl, rfl, rfl, rfl⟩
    all_goals
      clear hf
      simp at hsl
      subst hsl
      go_enter Tryz.func123, Tryz.ntmps123
      go_wp2_with fail
      all_goals first
        | (go_ret; refine FIN.out _ _ ((Chg.refl _ _).alloc _) ?_; rw [HP.out]; unfold FieldsOk; rw [← nil_size]; first | (simp [*]; done) | (simp_all; done))
        | (refine (ZC.out _).mono ?_
           rintro e w1 ⟨rfl, k1⟩
           have q8 : w1.cell? ⟨w.heap.size, 8, none⟩ = some (.int .i64 a.face) := (k1.cell (p := ⟨w.heap.size, 8, none⟩) (by simp) (by simp)).trans (by go_simp)
           have q9 : w1.cell? ⟨w.heap.size, 9, none⟩ = some (.slice A1 a.A.length c1) := (k1.cell (p := ⟨w.heap.size, 9, none⟩) (by simp) (by simp)).trans (by go_simp)
           have q10 : w1.cell? ⟨w.heap.size, 10, none⟩ = some (.slice A2 a.B.length c2) := (k1.cell (p := ⟨w.heap.size, 10, none⟩) (by simp) (by simp)).trans (by go_simp)
           have d1 : Chg [] w w1 := ((Chg.refl _ _).alloc _).trans0 k1
           clear k1
           go_wp2_with fail
           all_goals (go_ret; refine FIN.out _ _ d1 ?_; rw [HP.out]; unfold FieldsOk; rw [← nil_size]; first | (simp [*]; done) | (simp_all; done)))
  · have ZC := Lib.hid (fun W => (zeroCall_any a.call W).mono (BoolPost.neg hz))
    rcases hf.cases with ⟨rfl, rfl, rfl, rfl, rfl, rfl⟩ | ⟨rfl, rfl, rfl, rfl, rfl, rfl⟩ | ⟨rfl, rfl, rfl, rfl, rfl, rfl⟩ | ⟨rfl, rfl, rfl, rfl, rfl, rfl⟩ | ⟨rfl, rfl, rfl, rfl, rfl, rfl⟩ | ⟨rfl, rfl, rfl, rfl, rfl, rfl⟩ | ⟨rfl, rfl, rfl, rfl, rfl, rfl⟩
    all_goals
      clear hf
      simp at hsl
      subst hsl
      go_enter Tryz.func123, Tryz.ntmps123
      go_wp2_with fail
      all_goals first
        | (go_ret; refine FIN.out _ _ ((Chg.refl _ _).alloc _) ?_; rw [HP.out]; unfold FieldsOk; rw [← nil_size]; first | (simp [*]; done) | (simp_all; done))
        | (refine (ZC.out _).mono ?_
           rintro e w1 ⟨rfl, k1⟩
           have q8 : w1.cell? ⟨w.heap.size, 8, none⟩ = some (.int .i64 a.face) := (k1.cell (p := ⟨w.heap.size, 8, none⟩) (by simp) (by simp)).trans (by go_simp)
           have q9 : w1.cell? ⟨w.heap.size, 9, none⟩ = some (.slice A1 a.A.length c1) := (k1.cell (p := ⟨w.heap.size, 9, none⟩) (by simp) (by simp)).trans (by go_simp)
           have q10 : w1.cell? ⟨w.heap.size, 10, none⟩ = some (.slice A2 a.B.length c2) := (k1.cell (p := ⟨w.heap.size, 10, none⟩) (by simp) (by simp)).trans (by go_simp)
           have d1 : Chg [] w w1 := ((Chg.refl _ _).alloc _).trans0 k1
           clear k1
           go_wp2_with fail
           all_goals (go_ret; refine FIN.out _ _ d1 ?_; rw [HP.out]; unfold FieldsOk; rw [← nil_size]; first | (simp [*]; done) | (simp_all; done)))
end Go.Proofs.YtdlkbomojjmnlaaGreatDoor
namespace Go.Proofs.YtdlkbomojjmnlaaGreatDoor
open Go.RowKit

theorem BoolPost.of {p : Prop} {t : Bool} {w w' : World} (h : t = true ↔ p) (hc : Chg [] w w') : BoolPost p w (.returned (.bool t)) w' := ⟨t, rfl, h, hc⟩
/-- An action laid in a block of its own. -/
def ActBox (W : World) (g : Nat) (a : ActionT) (A1 A2 : Option Addr) (c1 c2 : Nat) : Prop := W.cell? ⟨g, 0, none⟩ = some (.int .i64 a.op) ∧ W.cell? ⟨g, 1, none⟩ = some (.int .i64 a.slot) ∧ W.cell? ⟨g, 2, none⟩ = some (.int .i64 a.other) ∧ W.cell? ⟨g, 3, none⟩ = some (.string a.word) ∧ W.cell? ⟨g, 4, none⟩ = some (.string a.call.method) ∧ W.cell? ⟨g, 5, none⟩ = some (.string a.call.key) ∧ W.cell? ⟨g, 6, none⟩ = some (.int .i64 a.call.value) ∧ W.cell? ⟨g, 7, none⟩ = some (.string a.call.text) ∧ W.cell? ⟨g, 8, none⟩ = some (.int .i64 a.face) ∧ W.cell? ⟨g, 9, none⟩ = some (.slice A1 a.A.length c1) ∧ W.cell? ⟨g, 10, none⟩ = some (.slice A2 a.B.length c2)
theorem act_box (a : ActionT) (A1 A2 : Option Addr) (c1 c2 : Nat) (w : World) : ∃ wb, wb = w.alloc (.cells #[.int .i64 a.op, .int .i64 a.slot, .int .i64 a.other, .string a.word, .string a.call.method, .string a.call.key, .int .i64 a.call.value, .string a.call.text, .int .i64 a.face, .slice A1 a.A.length c1, .slice A2 a.B.length c2] 32) ∧ Chg [] w wb ∧ w.heap.size < wb.heap.size ∧ Hid (∀ W, Chg [] wb W → ActBox W w.heap.size a A1 A2 c1 c2) := by
  refine ⟨_, rfl, (Chg.refl [] w).alloc _, by simp, Lib.hid (fun W hc => ?_)⟩
  have k : ∀ o, _ := hc.ce w.heap.size
  exact ⟨(k 0).trans (by go_simp), (k 1).trans (by go_simp), (k 2).trans (by go_simp), (k 3).trans (by go_simp), (k 4).trans (by go_simp), (k 5).trans (by go_simp), (k 6).trans (by go_simp), (k 7).trans (by go_simp), (k 8).trans (by go_simp), (k 9).trans (by go_simp), (k 10).trans (by go_simp)⟩
/-- Which of the kinds 1 to 10 an op is. -/
def OpIs (o : Int) (b1 b2 b3 b4 b5 b6 b7 b8 b9 b10 : Bool) : Prop := (o == 1) = b1 ∧ (o == 2) = b2 ∧ (o == 3) = b3 ∧ (o == 4) = b4 ∧ (o == 5) = b5 ∧ (o == 6) = b6 ∧ (o == 7) = b7 ∧ (o == 8) = b8 ∧ (o == 9) = b9 ∧ (o == 10) = b10
theorem opIs_1 {o : Int} (h : o = 1) : OpIs o true false false false false false false false false false := by subst h; exact ⟨rfl, rfl, rfl, rfl, rfl, rfl, rfl, rfl, rfl, rfl⟩
theorem opIs_2 {o : Int} (h : o = 2) : OpIs o false true false false false false false false false false := by subst h; exact ⟨rfl, rfl, rfl, rfl, rfl, rfl, rfl, rfl, rfl, rfl⟩
theorem opIs_3 {o : Int} (h : o = 3) : OpIs o false false true false false false false false false false := by subst h; exact ⟨rfl, rfl, rfl, rfl, rfl, rfl, rfl, rfl, rfl, rfl⟩
theorem opIs_4 {o : Int} (h : o = 4) : OpIs o false false false true false false false false false false := by subst h; exact ⟨rfl, rfl, rfl, rfl, rfl, rfl, rfl, rfl, rfl, rfl⟩
theorem opIs_5 {o : Int} (h : o = 5) : OpIs o false false false false true false false false false false := by subst h; exact ⟨rfl, rfl, rfl, rfl, rfl, rfl, rfl, rfl, rfl, rfl⟩
theorem opIs_6 {o : Int} (h : o = 6) : OpIs o false false false false false true false false false false := by subst h; exact ⟨rfl, rfl, rfl, rfl, rfl, rfl, rfl, rfl, rfl, rfl⟩
theorem opIs_7 {o : Int} (h : o = 7) : OpIs o false false false false false false true false false false := by subst h; exact ⟨rfl, rfl, rfl, rfl, rfl, rfl, rfl, rfl, rfl, rfl⟩
theorem opIs_8 {o : Int} (h : o = 8) : OpIs o false false false false false false false true false false := by subst h; exact ⟨rfl, rfl, rfl, rfl, rfl, rfl, rfl, rfl, rfl, rfl⟩
theorem opIs_9 {o : Int} (h : o = 9) : OpIs o false false false false false false false false true false := by subst h; exact ⟨rfl, rfl, rfl, rfl, rfl, rfl, rfl, rfl, rfl, rfl⟩
theorem opIs_10 {o : Int} (h : o = 10) : OpIs o false false false false false false false false false true := by subst h; exact ⟨rfl, rfl, rfl, rfl, rfl, rfl, rfl, rfl, rfl, rfl⟩
/-- How a walk of l8Action ends. -/
theorem leafR {P Q : Prop} (b : Q) (h : Q → P := by intro hd; go_ret; refine BoolPost.of ?_ hd; clear hd; have hact := HA.out; rw [hact]; (try have h1 := HS.out); (try simp at h1); (try have h2 := HK.out); (try simp at h2); (try have h3 := HL.out); (try simp at h3); (try have h4 := hz); (try simp at h4); clear hact; go_light; (try clear BX); (try clear CL); (try clear IC); (try clear PC); (try clear IA); (try clear IB); (try clear HA); (try clear p0 p1 p2 p3 p4 p5 p6 p7 p8 p9 p10); first | (simp [*]; done) | (simp_all; done)) : P := h b
/-- .. of isAction. -/
theorem leafP {P Q : Prop} (b : Q) (h : Q → P := by intro hd; go_ret; refine BoolPost.of ?_ (db.trans0 hd); clear hd; have hact := HA.out; rw [hact]; (try have h1 := HS.out); (try simp at h1); (try have h2 := HK.out); (try simp at h2); (try have h3 := HT.out); clear hact; go_light; (try clear BX); (try clear CL); (try clear IC); (try clear PC); (try clear IA); (try clear IB); (try clear HA); (try clear p0 p1 p2 p3 p4 p5 p6 p7 p8 p9 p10); first | (simp [*]; done) | (simp_all; done)) : P := h b
theorem flags_word : Flags false true false false false false := by unfold Flags; decide
theorem flags_none : Flags false false false false false false := by unfold Flags; decide
theorem flags_other : Flags true false false false false false := by unfold Flags; decide
theorem flags_face : Flags false false false true false false := by unfold Flags; decide
theorem flags_call : Flags false false true false false false := by unfold Flags; decide
theorem flags_two : Flags false false false false true true := by unfold Flags; decide
theorem flags_one : Flags false false false false true false := by unfold Flags; decide
set_option maxRecDepth 100000 in
set_option maxHeartbeats 4000000 in
theorem l8Call_any (x : CallT) (w : World) (hk : x.key.size ≤ 1048576) (ht : x.text.size ≤ 1048575) :
    Calls Tryz.prog 129 #[.agg #[.string x.method, .string x.key, .int .i64 x.value, .string x.text]] w (BoolPost (PlanCall x) w) := by
  have PC := Lib.hid (fun W => parseCells_spec_any x.text W ht)
  have IC := Lib.hid (fun W => isCall_spec_any x W hk)
  have HP : Hid (PlanCall x ↔ CallOk x ∧ (x.text.toList = [] ∨ (parseCells x.text).isSome = true)) := by
    show _ ↔ _
    unfold PlanCall
    rw [nil_size]
    cases parseCells x.text <;> simp
  go_enter Tryz.func129, Tryz.ntmps129
  go_wp2_with fail
  refine (PC.out _).mono ?_
  rintro e w1 ⟨l, A, cap, _, rfl, n1⟩
  have c1 := n1.chg
  clear n1
  have p0 : w1.cell? ⟨w.heap.size, 0, none⟩ = some (.string x.method) := (c1.cell (p := ⟨w.heap.size, 0, none⟩) (by simp) (by simp)).trans (by go_simp)
  have p1 : w1.cell? ⟨w.heap.size, 1, none⟩ = some (.string x.key) := (c1.cell (p := ⟨w.heap.size, 1, none⟩) (by simp) (by simp)).trans (by go_simp)
  have p2 : w1.cell? ⟨w.heap.size, 2, none⟩ = some (.int .i64 x.value) := (c1.cell (p := ⟨w.heap.size, 2, none⟩) (by simp) (by simp)).trans (by go_simp)
  have p3 : w1.cell? ⟨w.heap.size, 3, none⟩ = some (.string x.text) := (c1.cell (p := ⟨w.heap.size, 3, none⟩) (by simp) (by simp)).trans (by go_simp)
  have hlt : w.heap.size < w1.heap.size := by have := c1.size; simp at this; omega
  have d1 : Chg [] w w1 := ((Chg.refl _ _).alloc _).trans0 c1
  obtain ⟨ok, hok⟩ : ∃ ok, ok = (parseCells x.text).isSome := ⟨_, rfl⟩
  rw [← hok] at HP
  rw [← hok]
  clear hok c1
  go_wp2_with fail
  refine (IC.out _).mono ?_
  rintro e w2 ⟨t, rfl, ht2, c2⟩
  have q3 := (c2.cell (p := ⟨w.heap.size, 3, none⟩) hlt (by simp)).trans p3
  have HT := Lib.hid ht2
  have d2 : Chg [] w w2 := d1.trans0 c2
  clear ht2
  cases t
  all_goals
    go_wp2_with fail
    all_goals
      go_ret
      refine BoolPost.of ?_ d2
      rw [HP.out]
      have h1 := HT.out
      simp at h1
      first | (simp [*]; done) | (simp_all; done)
end Go.Proofs.YtdlkbomojjmnlaaGreatDoor
namespace Go.Proofs.YtdlkbomojjmnlaaGreatDoor
open Go.RowKit

set_option maxRecDepth 100000 in
set_option maxHeartbeats 8000000 in
theorem l8Action_1 (a : ActionT) (A1 A2 : Option Addr) (c1 c2 : Nat) (w : World) (h : a.op = 1) (hk : a.call.key.size ≤ 1048576) (ht : a.call.text.size ≤ 1048575) :
    Calls Tryz.prog 80 #[.agg #[.int .i64 a.op, .int .i64 a.slot, .int .i64 a.other, .string a.word, .string a.call.method, .string a.call.key, .int .i64 a.call.value, .string a.call.text, .int .i64 a.face, .slice A1 a.A.length c1, .slice A2 a.B.length c2]] w (BoolPost (ActOk a) w) := by
  have CL := Lib.hid (fun W => l8Call_any a.call W hk ht)
  have HA := Lib.hid (actOk_1 h)
  clear hk ht
  obtain ⟨n1, n2, n3, n4, n5, n6, n7, n8, n9, n10⟩ := opIs_1 h
  clear h
  go_enter Tryz.func80, Tryz.ntmps80
  go_wp2_with fail
  obtain ⟨wb, hwb, db, sb, BX⟩ := act_box a A1 A2 c1 c2 w
  rw [← hwb]
  clear hwb
  refine (kindFace_spec_any a.word _).mono ?_
  rintro e w1 ⟨he, k1⟩
  subst he
  have d1 : Chg [] wb w1 := k1
  obtain ⟨kb, hkb⟩ : ∃ b, b = (kindOf a.word).isSome := ⟨_, rfl⟩
  have HK : Hid (kb = true ↔ kindOf a.word ≠ none) := by show _ ↔ _; rw [hkb]; cases kindOf a.word <;> simp
  obtain ⟨kz, hkz⟩ : ∃ z, z = (kindOf a.word).getD 0 := ⟨_, rfl⟩
  rw [← hkb, ← hkz]
  clear hkb hkz k1
  obtain ⟨p0, p1, p2, p3, p4, p5, p6, p7, p8, p9, p10⟩ := BX.out _ d1
  go_wp2_with fail
  refine (layerNeeds_spec_any a.word _).mono ?_
  rintro e w2 ⟨he, k2⟩
  subst he
  have d2 : Chg [] wb w2 := d1.trans0 k2
  obtain ⟨lb, hlb⟩ : ∃ b, b = ((layerOf a.word).map (·.1)).isSome := ⟨_, rfl⟩
  have HL : Hid (lb = true ↔ layerOf a.word ≠ none) := by show _ ↔ _; rw [hlb]; cases layerOf a.word <;> simp
  obtain ⟨lz, hlz⟩ : ∃ z, z = ((layerOf a.word).map (·.1)).getD 0 := ⟨_, rfl⟩
  rw [← hlb, ← hlz]
  clear hlb hlz k2 p0 p1 p2 p3 p4 p5 p6 p7 p8 p9 p10
  obtain ⟨p0, p1, p2, p3, p4, p5, p6, p7, p8, p9, p10⟩ := BX.out _ d2
  go_wp2_with fail
  refine (l1In_any a.slot 0 2 _).mono ?_
  rintro e w3 ⟨sl, rfl, hsl, rfl⟩
  have HS : Hid (sl = true ↔ SlotNo a.slot) := hsl
  have d3 : Chg [] w w3 := db.trans0 d2
  clear hsl
  cases sl <;> cases kb
  all_goals
    go_wp2_with fail
    all_goals first
      | exact leafR (d3)
      | (refine (l8Empty_any a A1 A2 c1 c2 _ _ _ _ _ _ flags_word _).mono ?_; rintro e w4 ⟨t, rfl, ht4, c4⟩; go_wp2_with fail; all_goals exact leafR ((d3).trans0 c4))
set_option maxRecDepth 100000 in
set_option maxHeartbeats 8000000 in
theorem l8Action_3 (a : ActionT) (A1 A2 : Option Addr) (c1 c2 : Nat) (w : World) (h : a.op = 3) (hk : a.call.key.size ≤ 1048576) (ht : a.call.text.size ≤ 1048575) :
    Calls Tryz.prog 80 #[.agg #[.int .i64 a.op, .int .i64 a.slot, .int .i64 a.other, .string a.word, .string a.call.method, .string a.call.key, .int .i64 a.call.value, .string a.call.text, .int .i64 a.face, .slice A1 a.A.length c1, .slice A2 a.B.length c2]] w (BoolPost (ActOk a) w) := by
  have CL := Lib.hid (fun W => l8Call_any a.call W hk ht)
  have HA := Lib.hid (actOk_3 (.inl h))
  clear hk ht
  obtain ⟨n1, n2, n3, n4, n5, n6, n7, n8, n9, n10⟩ := opIs_3 h
  clear h
  go_enter Tryz.func80, Tryz.ntmps80
  go_wp2_with fail
  obtain ⟨wb, hwb, db, sb, BX⟩ := act_box a A1 A2 c1 c2 w
  rw [← hwb]
  clear hwb
  refine (kindFace_spec_any a.word _).mono ?_
  rintro e w1 ⟨he, k1⟩
  subst he
  have d1 : Chg [] wb w1 := k1
  obtain ⟨kb, hkb⟩ : ∃ b, b = (kindOf a.word).isSome := ⟨_, rfl⟩
  have HK : Hid (kb = true ↔ kindOf a.word ≠ none) := by show _ ↔ _; rw [hkb]; cases kindOf a.word <;> simp
  obtain ⟨kz, hkz⟩ : ∃ z, z = (kindOf a.word).getD 0 := ⟨_, rfl⟩
  rw [← hkb, ← hkz]
  clear hkb hkz k1
  obtain ⟨p0, p1, p2, p3, p4, p5, p6, p7, p8, p9, p10⟩ := BX.out _ d1
  go_wp2_with fail
  refine (layerNeeds_spec_any a.word _).mono ?_
  rintro e w2 ⟨he, k2⟩
  subst he
  have d2 : Chg [] wb w2 := d1.trans0 k2
  obtain ⟨lb, hlb⟩ : ∃ b, b = ((layerOf a.word).map (·.1)).isSome := ⟨_, rfl⟩
  have HL : Hid (lb = true ↔ layerOf a.word ≠ none) := by show _ ↔ _; rw [hlb]; cases layerOf a.word <;> simp
  obtain ⟨lz, hlz⟩ : ∃ z, z = ((layerOf a.word).map (·.1)).getD 0 := ⟨_, rfl⟩
  rw [← hlb, ← hlz]
  clear hlb hlz k2 p0 p1 p2 p3 p4 p5 p6 p7 p8 p9 p10
  obtain ⟨p0, p1, p2, p3, p4, p5, p6, p7, p8, p9, p10⟩ := BX.out _ d2
  go_wp2_with fail
  refine (l1In_any a.slot 0 2 _).mono ?_
  rintro e w3 ⟨sl, rfl, hsl, rfl⟩
  have HS : Hid (sl = true ↔ SlotNo a.slot) := hsl
  have d3 : Chg [] w w3 := db.trans0 d2
  clear hsl
  cases sl
  all_goals
    go_wp2_with fail
    all_goals first
      | exact leafR (d3)
      | (refine (l8Empty_any a A1 A2 c1 c2 _ _ _ _ _ _ flags_none _).mono ?_; rintro e w4 ⟨t, rfl, ht4, c4⟩; go_wp2_with fail; all_goals exact leafR ((d3).trans0 c4))
end Go.Proofs.YtdlkbomojjmnlaaGreatDoor
namespace Go.Proofs.YtdlkbomojjmnlaaGreatDoor
open Go.RowKit

set_option maxRecDepth 100000 in
set_option maxHeartbeats 8000000 in
theorem l8Action_2 (a : ActionT) (A1 A2 : Option Addr) (c1 c2 : Nat) (w : World) (h : a.op = 2) (hk : a.call.key.size ≤ 1048576) (ht : a.call.text.size ≤ 1048575) :
    Calls Tryz.prog 80 #[.agg #[.int .i64 a.op, .int .i64 a.slot, .int .i64 a.other, .string a.word, .string a.call.method, .string a.call.key, .int .i64 a.call.value, .string a.call.text, .int .i64 a.face, .slice A1 a.A.length c1, .slice A2 a.B.length c2]] w (BoolPost (ActOk a) w) := by
  have CL := Lib.hid (fun W => l8Call_any a.call W hk ht)
  have HA := Lib.hid (actOk_2 h)
  clear hk ht
  obtain ⟨n1, n2, n3, n4, n5, n6, n7, n8, n9, n10⟩ := opIs_2 h
  clear h
  go_enter Tryz.func80, Tryz.ntmps80
  go_wp2_with fail
  obtain ⟨wb, hwb, db, sb, BX⟩ := act_box a A1 A2 c1 c2 w
  rw [← hwb]
  clear hwb
  refine (kindFace_spec_any a.word _).mono ?_
  rintro e w1 ⟨he, k1⟩
  subst he
  have d1 : Chg [] wb w1 := k1
  obtain ⟨kb, hkb⟩ : ∃ b, b = (kindOf a.word).isSome := ⟨_, rfl⟩
  have HK : Hid (kb = true ↔ kindOf a.word ≠ none) := by show _ ↔ _; rw [hkb]; cases kindOf a.word <;> simp
  obtain ⟨kz, hkz⟩ : ∃ z, z = (kindOf a.word).getD 0 := ⟨_, rfl⟩
  rw [← hkb, ← hkz]
  clear hkb hkz k1
  obtain ⟨p0, p1, p2, p3, p4, p5, p6, p7, p8, p9, p10⟩ := BX.out _ d1
  go_wp2_with fail
  refine (layerNeeds_spec_any a.word _).mono ?_
  rintro e w2 ⟨he, k2⟩
  subst he
  have d2 : Chg [] wb w2 := d1.trans0 k2
  obtain ⟨lb, hlb⟩ : ∃ b, b = ((layerOf a.word).map (·.1)).isSome := ⟨_, rfl⟩
  have HL : Hid (lb = true ↔ layerOf a.word ≠ none) := by show _ ↔ _; rw [hlb]; cases layerOf a.word <;> simp
  obtain ⟨lz, hlz⟩ : ∃ z, z = ((layerOf a.word).map (·.1)).getD 0 := ⟨_, rfl⟩
  rw [← hlb, ← hlz]
  clear hlb hlz k2 p0 p1 p2 p3 p4 p5 p6 p7 p8 p9 p10
  obtain ⟨p0, p1, p2, p3, p4, p5, p6, p7, p8, p9, p10⟩ := BX.out _ d2
  go_wp2_with fail
  refine (l1In_any a.slot 0 2 _).mono ?_
  rintro e w3 ⟨sl, rfl, hsl, rfl⟩
  have HS : Hid (sl = true ↔ SlotNo a.slot) := hsl
  have d3 : Chg [] w w3 := db.trans0 d2
  clear hsl
  cases sl <;> cases lb
  all_goals
    go_wp2_with fail
    all_goals first
      | exact leafR (d3)
      | (refine (l8Empty_any a A1 A2 c1 c2 _ _ _ _ _ _ flags_word _).mono ?_; rintro e w4 ⟨t, rfl, ht4, c4⟩; go_wp2_with fail; all_goals exact leafR ((d3).trans0 c4))
set_option maxRecDepth 100000 in
set_option maxHeartbeats 8000000 in
theorem l8Action_5 (a : ActionT) (A1 A2 : Option Addr) (c1 c2 : Nat) (w : World) (h : a.op = 5) (hk : a.call.key.size ≤ 1048576) (ht : a.call.text.size ≤ 1048575) :
    Calls Tryz.prog 80 #[.agg #[.int .i64 a.op, .int .i64 a.slot, .int .i64 a.other, .string a.word, .string a.call.method, .string a.call.key, .int .i64 a.call.value, .string a.call.text, .int .i64 a.face, .slice A1 a.A.length c1, .slice A2 a.B.length c2]] w (BoolPost (ActOk a) w) := by
  have CL := Lib.hid (fun W => l8Call_any a.call W hk ht)
  have HA := Lib.hid (actOk_3 (.inr h))
  clear hk ht
  obtain ⟨n1, n2, n3, n4, n5, n6, n7, n8, n9, n10⟩ := opIs_5 h
  clear h
  go_enter Tryz.func80, Tryz.ntmps80
  go_wp2_with fail
  obtain ⟨wb, hwb, db, sb, BX⟩ := act_box a A1 A2 c1 c2 w
  rw [← hwb]
  clear hwb
  refine (kindFace_spec_any a.word _).mono ?_
  rintro e w1 ⟨he, k1⟩
  subst he
  have d1 : Chg [] wb w1 := k1
  obtain ⟨kb, hkb⟩ : ∃ b, b = (kindOf a.word).isSome := ⟨_, rfl⟩
  have HK : Hid (kb = true ↔ kindOf a.word ≠ none) := by show _ ↔ _; rw [hkb]; cases kindOf a.word <;> simp
  obtain ⟨kz, hkz⟩ : ∃ z, z = (kindOf a.word).getD 0 := ⟨_, rfl⟩
  rw [← hkb, ← hkz]
  clear hkb hkz k1
  obtain ⟨p0, p1, p2, p3, p4, p5, p6, p7, p8, p9, p10⟩ := BX.out _ d1
  go_wp2_with fail
  refine (layerNeeds_spec_any a.word _).mono ?_
  rintro e w2 ⟨he, k2⟩
  subst he
  have d2 : Chg [] wb w2 := d1.trans0 k2
  obtain ⟨lb, hlb⟩ : ∃ b, b = ((layerOf a.word).map (·.1)).isSome := ⟨_, rfl⟩
  have HL : Hid (lb = true ↔ layerOf a.word ≠ none) := by show _ ↔ _; rw [hlb]; cases layerOf a.word <;> simp
  obtain ⟨lz, hlz⟩ : ∃ z, z = ((layerOf a.word).map (·.1)).getD 0 := ⟨_, rfl⟩
  rw [← hlb, ← hlz]
  clear hlb hlz k2 p0 p1 p2 p3 p4 p5 p6 p7 p8 p9 p10
  obtain ⟨p0, p1, p2, p3, p4, p5, p6, p7, p8, p9, p10⟩ := BX.out _ d2
  go_wp2_with fail
  refine (l1In_any a.slot 0 2 _).mono ?_
  rintro e w3 ⟨sl, rfl, hsl, rfl⟩
  have HS : Hid (sl = true ↔ SlotNo a.slot) := hsl
  have d3 : Chg [] w w3 := db.trans0 d2
  clear hsl
  cases sl
  all_goals
    go_wp2_with fail
    all_goals first
      | exact leafR (d3)
      | (refine (l8Empty_any a A1 A2 c1 c2 _ _ _ _ _ _ flags_none _).mono ?_; rintro e w4 ⟨t, rfl, ht4, c4⟩; go_wp2_with fail; all_goals exact leafR ((d3).trans0 c4))
set_option maxRecDepth 100000 in
set_option maxHeartbeats 8000000 in
theorem l8Action_no (a : ActionT) (A1 A2 : Option Addr) (c1 c2 : Nat) (w : World) (h : ¬ (1 ≤ a.op ∧ a.op ≤ 10) ∧ OpIs a.op false false false false false false false false false false) (hk : a.call.key.size ≤ 1048576) (ht : a.call.text.size ≤ 1048575) :
    Calls Tryz.prog 80 #[.agg #[.int .i64 a.op, .int .i64 a.slot, .int .i64 a.other, .string a.word, .string a.call.method, .string a.call.key, .int .i64 a.call.value, .string a.call.text, .int .i64 a.face, .slice A1 a.A.length c1, .slice A2 a.B.length c2]] w (BoolPost (ActOk a) w) := by
  have CL := Lib.hid (fun W => l8Call_any a.call W hk ht)
  have HA := Lib.hid (show ¬ ActOk a from fun k => h.1 (actOk_op k))
  clear hk ht
  obtain ⟨_, n1, n2, n3, n4, n5, n6, n7, n8, n9, n10⟩ := h
  go_enter Tryz.func80, Tryz.ntmps80
  go_wp2_with fail
  obtain ⟨wb, hwb, db, sb, BX⟩ := act_box a A1 A2 c1 c2 w
  rw [← hwb]
  clear hwb
  refine (kindFace_spec_any a.word _).mono ?_
  rintro e w1 ⟨he, k1⟩
  subst he
  have d1 : Chg [] wb w1 := k1
  obtain ⟨kb, hkb⟩ : ∃ b, b = (kindOf a.word).isSome := ⟨_, rfl⟩
  have HK : Hid (kb = true ↔ kindOf a.word ≠ none) := by show _ ↔ _; rw [hkb]; cases kindOf a.word <;> simp
  obtain ⟨kz, hkz⟩ : ∃ z, z = (kindOf a.word).getD 0 := ⟨_, rfl⟩
  rw [← hkb, ← hkz]
  clear hkb hkz k1
  obtain ⟨p0, p1, p2, p3, p4, p5, p6, p7, p8, p9, p10⟩ := BX.out _ d1
  go_wp2_with fail
  refine (layerNeeds_spec_any a.word _).mono ?_
  rintro e w2 ⟨he, k2⟩
  subst he
  have d2 : Chg [] wb w2 := d1.trans0 k2
  obtain ⟨lb, hlb⟩ : ∃ b, b = ((layerOf a.word).map (·.1)).isSome := ⟨_, rfl⟩
  have HL : Hid (lb = true ↔ layerOf a.word ≠ none) := by show _ ↔ _; rw [hlb]; cases layerOf a.word <;> simp
  obtain ⟨lz, hlz⟩ : ∃ z, z = ((layerOf a.word).map (·.1)).getD 0 := ⟨_, rfl⟩
  rw [← hlb, ← hlz]
  clear hlb hlz k2 p0 p1 p2 p3 p4 p5 p6 p7 p8 p9 p10
  obtain ⟨p0, p1, p2, p3, p4, p5, p6, p7, p8, p9, p10⟩ := BX.out _ d2
  go_wp2_with fail
  refine (l1In_any a.slot 0 2 _).mono ?_
  rintro e w3 ⟨sl, rfl, hsl, rfl⟩
  have HS : Hid (sl = true ↔ SlotNo a.slot) := hsl
  have d3 : Chg [] w w3 := db.trans0 d2
  clear hsl
  go_wp2_with fail
  go_ret
  exact BoolPost.of ⟨fun h => by simp at h, fun h => absurd h HA.out⟩ d3
end Go.Proofs.YtdlkbomojjmnlaaGreatDoor
namespace Go.Proofs.YtdlkbomojjmnlaaGreatDoor
open Go.RowKit

set_option maxRecDepth 100000 in
set_option maxHeartbeats 8000000 in
theorem l8Action_4 (a : ActionT) (A1 A2 : Option Addr) (c1 c2 : Nat) (w : World) (h : a.op = 4) (hk : a.call.key.size ≤ 1048576) (ht : a.call.text.size ≤ 1048575) :
    Calls Tryz.prog 80 #[.agg #[.int .i64 a.op, .int .i64 a.slot, .int .i64 a.other, .string a.word, .string a.call.method, .string a.call.key, .int .i64 a.call.value, .string a.call.text, .int .i64 a.face, .slice A1 a.A.length c1, .slice A2 a.B.length c2]] w (BoolPost (ActOk a) w) := by
  have CL := Lib.hid (fun W => l8Call_any a.call W hk ht)
  have HA := Lib.hid (actOk_4 h)
  clear hk ht
  obtain ⟨n1, n2, n3, n4, n5, n6, n7, n8, n9, n10⟩ := opIs_4 h
  clear h
  go_enter Tryz.func80, Tryz.ntmps80
  go_wp2_with fail
  obtain ⟨wb, hwb, db, sb, BX⟩ := act_box a A1 A2 c1 c2 w
  rw [← hwb]
  clear hwb
  refine (kindFace_spec_any a.word _).mono ?_
  rintro e w1 ⟨he, k1⟩
  subst he
  have d1 : Chg [] wb w1 := k1
  obtain ⟨kb, hkb⟩ : ∃ b, b = (kindOf a.word).isSome := ⟨_, rfl⟩
  have HK : Hid (kb = true ↔ kindOf a.word ≠ none) := by show _ ↔ _; rw [hkb]; cases kindOf a.word <;> simp
  obtain ⟨kz, hkz⟩ : ∃ z, z = (kindOf a.word).getD 0 := ⟨_, rfl⟩
  rw [← hkb, ← hkz]
  clear hkb hkz k1
  obtain ⟨p0, p1, p2, p3, p4, p5, p6, p7, p8, p9, p10⟩ := BX.out _ d1
  go_wp2_with fail
  refine (layerNeeds_spec_any a.word _).mono ?_
  rintro e w2 ⟨he, k2⟩
  subst he
  have d2 : Chg [] wb w2 := d1.trans0 k2
  obtain ⟨lb, hlb⟩ : ∃ b, b = ((layerOf a.word).map (·.1)).isSome := ⟨_, rfl⟩
  have HL : Hid (lb = true ↔ layerOf a.word ≠ none) := by show _ ↔ _; rw [hlb]; cases layerOf a.word <;> simp
  obtain ⟨lz, hlz⟩ : ∃ z, z = ((layerOf a.word).map (·.1)).getD 0 := ⟨_, rfl⟩
  rw [← hlb, ← hlz]
  clear hlb hlz k2 p0 p1 p2 p3 p4 p5 p6 p7 p8 p9 p10
  obtain ⟨p0, p1, p2, p3, p4, p5, p6, p7, p8, p9, p10⟩ := BX.out _ d2
  go_wp2_with fail
  refine (l1In_any a.slot 0 2 _).mono ?_
  rintro e w3 ⟨sl, rfl, hsl, rfl⟩
  have HS : Hid (sl = true ↔ SlotNo a.slot) := hsl
  have d3 : Chg [] w w3 := db.trans0 d2
  clear hsl
  cases sl
  all_goals
    go_wp2_with fail
    all_goals first
      | exact leafR (d3)
      | (refine (l8Empty_any a A1 A2 c1 c2 _ _ _ _ _ _ flags_other _).mono ?_; rintro e w4 ⟨t, rfl, ht4, c4⟩; go_wp2_with fail; all_goals exact leafR ((d3).trans0 c4))
      | (refine (l1In_any a.other 0 2 _).mono ?_
         rintro e w5 ⟨t5, rfl, ht5, rfl⟩
         have hh5 : t5 = true ↔ SlotNo a.other := ht5
         clear ht5
         cases t5
         all_goals
           simp at hh5
           go_wp2_with fail
           all_goals first
             | exact leafR (d3)
             | (refine (l8Empty_any a A1 A2 c1 c2 _ _ _ _ _ _ flags_other _).mono ?_; rintro e w4 ⟨t, rfl, ht4, c4⟩; go_wp2_with fail; all_goals exact leafR ((d3).trans0 c4)))
set_option maxRecDepth 100000 in
set_option maxHeartbeats 8000000 in
theorem l8Action_6 (a : ActionT) (A1 A2 : Option Addr) (c1 c2 : Nat) (w : World) (h : a.op = 6) (hk : a.call.key.size ≤ 1048576) (ht : a.call.text.size ≤ 1048575) :
    Calls Tryz.prog 80 #[.agg #[.int .i64 a.op, .int .i64 a.slot, .int .i64 a.other, .string a.word, .string a.call.method, .string a.call.key, .int .i64 a.call.value, .string a.call.text, .int .i64 a.face, .slice A1 a.A.length c1, .slice A2 a.B.length c2]] w (BoolPost (ActOk a) w) := by
  have CL := Lib.hid (fun W => l8Call_any a.call W hk ht)
  have HA := Lib.hid (actOk_6 h)
  clear hk ht
  obtain ⟨n1, n2, n3, n4, n5, n6, n7, n8, n9, n10⟩ := opIs_6 h
  clear h
  go_enter Tryz.func80, Tryz.ntmps80
  go_wp2_with fail
  obtain ⟨wb, hwb, db, sb, BX⟩ := act_box a A1 A2 c1 c2 w
  rw [← hwb]
  clear hwb
  refine (kindFace_spec_any a.word _).mono ?_
  rintro e w1 ⟨he, k1⟩
  subst he
  have d1 : Chg [] wb w1 := k1
  obtain ⟨kb, hkb⟩ : ∃ b, b = (kindOf a.word).isSome := ⟨_, rfl⟩
  have HK : Hid (kb = true ↔ kindOf a.word ≠ none) := by show _ ↔ _; rw [hkb]; cases kindOf a.word <;> simp
  obtain ⟨kz, hkz⟩ : ∃ z, z = (kindOf a.word).getD 0 := ⟨_, rfl⟩
  rw [← hkb, ← hkz]
  clear hkb hkz k1
  obtain ⟨p0, p1, p2, p3, p4, p5, p6, p7, p8, p9, p10⟩ := BX.out _ d1
  go_wp2_with fail
  refine (layerNeeds_spec_any a.word _).mono ?_
  rintro e w2 ⟨he, k2⟩
  subst he
  have d2 : Chg [] wb w2 := d1.trans0 k2
  obtain ⟨lb, hlb⟩ : ∃ b, b = ((layerOf a.word).map (·.1)).isSome := ⟨_, rfl⟩
  have HL : Hid (lb = true ↔ layerOf a.word ≠ none) := by show _ ↔ _; rw [hlb]; cases layerOf a.word <;> simp
  obtain ⟨lz, hlz⟩ : ∃ z, z = ((layerOf a.word).map (·.1)).getD 0 := ⟨_, rfl⟩
  rw [← hlb, ← hlz]
  clear hlb hlz k2 p0 p1 p2 p3 p4 p5 p6 p7 p8 p9 p10
  obtain ⟨p0, p1, p2, p3, p4, p5, p6, p7, p8, p9, p10⟩ := BX.out _ d2
  go_wp2_with fail
  refine (l1In_any a.slot 0 2 _).mono ?_
  rintro e w3 ⟨sl, rfl, hsl, rfl⟩
  have HS : Hid (sl = true ↔ SlotNo a.slot) := hsl
  have d3 : Chg [] w w3 := db.trans0 d2
  clear hsl
  cases sl
  all_goals
    go_wp2_with fail
    all_goals first
      | exact leafR (d3)
      | (refine (l8Empty_any a A1 A2 c1 c2 _ _ _ _ _ _ flags_face _).mono ?_; rintro e w4 ⟨t, rfl, ht4, c4⟩; go_wp2_with fail; all_goals exact leafR ((d3).trans0 c4))
      | (refine (isFace_spec_any a.face _).mono ?_
         rintro e w5 ⟨t5, rfl, hh5, rfl⟩
         cases t5
         all_goals
           simp at hh5
           go_wp2_with fail
           all_goals first
             | exact leafR (d3)
             | (refine (l8Empty_any a A1 A2 c1 c2 _ _ _ _ _ _ flags_face _).mono ?_; rintro e w4 ⟨t, rfl, ht4, c4⟩; go_wp2_with fail; all_goals exact leafR ((d3).trans0 c4)))
end Go.Proofs.YtdlkbomojjmnlaaGreatDoor
namespace Go.Proofs.YtdlkbomojjmnlaaGreatDoor
open Go.RowKit

set_option maxRecDepth 100000 in
set_option maxHeartbeats 8000000 in
theorem l8Action_7 (a : ActionT) (A1 A2 : Option Addr) (c1 c2 : Nat) (w : World) (h : a.op = 7) (hk : a.call.key.size ≤ 1048576) (ht : a.call.text.size ≤ 1048575) :
    Calls Tryz.prog 80 #[.agg #[.int .i64 a.op, .int .i64 a.slot, .int .i64 a.other, .string a.word, .string a.call.method, .string a.call.key, .int .i64 a.call.value, .string a.call.text, .int .i64 a.face, .slice A1 a.A.length c1, .slice A2 a.B.length c2]] w (BoolPost (ActOk a) w) := by
  have CL := Lib.hid (fun W => l8Call_any a.call W hk ht)
  have HA := Lib.hid (actOk_7 h)
  clear hk ht
  obtain ⟨n1, n2, n3, n4, n5, n6, n7, n8, n9, n10⟩ := opIs_7 h
  clear h
  go_enter Tryz.func80, Tryz.ntmps80
  go_wp2_with fail
  obtain ⟨wb, hwb, db, sb, BX⟩ := act_box a A1 A2 c1 c2 w
  rw [← hwb]
  clear hwb
  refine (kindFace_spec_any a.word _).mono ?_
  rintro e w1 ⟨he, k1⟩
  subst he
  have d1 : Chg [] wb w1 := k1
  obtain ⟨kb, hkb⟩ : ∃ b, b = (kindOf a.word).isSome := ⟨_, rfl⟩
  have HK : Hid (kb = true ↔ kindOf a.word ≠ none) := by show _ ↔ _; rw [hkb]; cases kindOf a.word <;> simp
  obtain ⟨kz, hkz⟩ : ∃ z, z = (kindOf a.word).getD 0 := ⟨_, rfl⟩
  rw [← hkb, ← hkz]
  clear hkb hkz k1
  obtain ⟨p0, p1, p2, p3, p4, p5, p6, p7, p8, p9, p10⟩ := BX.out _ d1
  go_wp2_with fail
  refine (layerNeeds_spec_any a.word _).mono ?_
  rintro e w2 ⟨he, k2⟩
  subst he
  have d2 : Chg [] wb w2 := d1.trans0 k2
  obtain ⟨lb, hlb⟩ : ∃ b, b = ((layerOf a.word).map (·.1)).isSome := ⟨_, rfl⟩
  have HL : Hid (lb = true ↔ layerOf a.word ≠ none) := by show _ ↔ _; rw [hlb]; cases layerOf a.word <;> simp
  obtain ⟨lz, hlz⟩ : ∃ z, z = ((layerOf a.word).map (·.1)).getD 0 := ⟨_, rfl⟩
  rw [← hlb, ← hlz]
  clear hlb hlz k2 p0 p1 p2 p3 p4 p5 p6 p7 p8 p9 p10
  obtain ⟨p0, p1, p2, p3, p4, p5, p6, p7, p8, p9, p10⟩ := BX.out _ d2
  go_wp2_with fail
  refine (l1In_any a.slot 0 2 _).mono ?_
  rintro e w3 ⟨sl, rfl, hsl, rfl⟩
  have HS : Hid (sl = true ↔ SlotNo a.slot) := hsl
  have d3 : Chg [] w w3 := db.trans0 d2
  clear hsl
  cases sl
  all_goals
    go_wp2_with fail
    all_goals first
      | exact leafR (d3)
      | (refine (l8Empty_any a A1 A2 c1 c2 _ _ _ _ _ _ flags_call _).mono ?_; rintro e w4 ⟨t, rfl, ht4, c4⟩; go_wp2_with fail; all_goals exact leafR ((d3).trans0 c4))
      | (refine (CL.out _).mono ?_
         rintro e w5 ⟨t5, rfl, hh5, k5⟩
         have d5 : Chg [] wb w5 := d2.trans0 k5
         clear p0 p1 p2 p3 p4 p5 p6 p7 p8 p9 p10
         obtain ⟨p0, p1, p2, p3, p4, p5, p6, p7, p8, p9, p10⟩ := BX.out _ d5
         cases t5
         all_goals
           simp at hh5
           go_wp2_with fail
           all_goals first
             | exact leafR (db.trans0 d5)
             | (refine (l8Empty_any a A1 A2 c1 c2 _ _ _ _ _ _ flags_call _).mono ?_; rintro e w4 ⟨t, rfl, ht4, c4⟩; go_wp2_with fail; all_goals exact leafR ((db.trans0 d5).trans0 c4)))
set_option maxRecDepth 100000 in
set_option maxHeartbeats 8000000 in
theorem l8Action_8 (a : ActionT) (A1 A2 : Option Addr) (c1 c2 : Nat) (w : World) (h : a.op = 8) (hk : a.call.key.size ≤ 1048576) (ht : a.call.text.size ≤ 1048575) :
    Calls Tryz.prog 80 #[.agg #[.int .i64 a.op, .int .i64 a.slot, .int .i64 a.other, .string a.word, .string a.call.method, .string a.call.key, .int .i64 a.call.value, .string a.call.text, .int .i64 a.face, .slice A1 a.A.length c1, .slice A2 a.B.length c2]] w (BoolPost (ActOk a) w) := by
  have CL := Lib.hid (fun W => l8Call_any a.call W hk ht)
  have HA := Lib.hid (actOk_8 (.inl h))
  clear hk ht
  obtain ⟨n1, n2, n3, n4, n5, n6, n7, n8, n9, n10⟩ := opIs_8 h
  clear h
  go_enter Tryz.func80, Tryz.ntmps80
  go_wp2_with fail
  obtain ⟨wb, hwb, db, sb, BX⟩ := act_box a A1 A2 c1 c2 w
  rw [← hwb]
  clear hwb
  refine (kindFace_spec_any a.word _).mono ?_
  rintro e w1 ⟨he, k1⟩
  subst he
  have d1 : Chg [] wb w1 := k1
  obtain ⟨kb, hkb⟩ : ∃ b, b = (kindOf a.word).isSome := ⟨_, rfl⟩
  have HK : Hid (kb = true ↔ kindOf a.word ≠ none) := by show _ ↔ _; rw [hkb]; cases kindOf a.word <;> simp
  obtain ⟨kz, hkz⟩ : ∃ z, z = (kindOf a.word).getD 0 := ⟨_, rfl⟩
  rw [← hkb, ← hkz]
  clear hkb hkz k1
  obtain ⟨p0, p1, p2, p3, p4, p5, p6, p7, p8, p9, p10⟩ := BX.out _ d1
  go_wp2_with fail
  refine (layerNeeds_spec_any a.word _).mono ?_
  rintro e w2 ⟨he, k2⟩
  subst he
  have d2 : Chg [] wb w2 := d1.trans0 k2
  obtain ⟨lb, hlb⟩ : ∃ b, b = ((layerOf a.word).map (·.1)).isSome := ⟨_, rfl⟩
  have HL : Hid (lb = true ↔ layerOf a.word ≠ none) := by show _ ↔ _; rw [hlb]; cases layerOf a.word <;> simp
  obtain ⟨lz, hlz⟩ : ∃ z, z = ((layerOf a.word).map (·.1)).getD 0 := ⟨_, rfl⟩
  rw [← hlb, ← hlz]
  clear hlb hlz k2 p0 p1 p2 p3 p4 p5 p6 p7 p8 p9 p10
  obtain ⟨p0, p1, p2, p3, p4, p5, p6, p7, p8, p9, p10⟩ := BX.out _ d2
  go_wp2_with fail
  refine (l1In_any a.slot 0 2 _).mono ?_
  rintro e w3 ⟨sl, rfl, hsl, rfl⟩
  have HS : Hid (sl = true ↔ SlotNo a.slot) := hsl
  have d3 : Chg [] w w3 := db.trans0 d2
  clear hsl
  cases hz : (a.slot == 0)
  all_goals
    go_wp2_with fail
    all_goals first
      | exact leafR (d3)
      | (refine (l8Empty_any a A1 A2 c1 c2 _ _ _ _ _ _ flags_two _).mono ?_; rintro e w4 ⟨t, rfl, ht4, c4⟩; go_wp2_with fail; all_goals exact leafR ((d3).trans0 c4))
set_option maxRecDepth 100000 in
set_option maxHeartbeats 8000000 in
theorem l8Action_10 (a : ActionT) (A1 A2 : Option Addr) (c1 c2 : Nat) (w : World) (h : a.op = 10) (hk : a.call.key.size ≤ 1048576) (ht : a.call.text.size ≤ 1048575) :
    Calls Tryz.prog 80 #[.agg #[.int .i64 a.op, .int .i64 a.slot, .int .i64 a.other, .string a.word, .string a.call.method, .string a.call.key, .int .i64 a.call.value, .string a.call.text, .int .i64 a.face, .slice A1 a.A.length c1, .slice A2 a.B.length c2]] w (BoolPost (ActOk a) w) := by
  have CL := Lib.hid (fun W => l8Call_any a.call W hk ht)
  have HA := Lib.hid (actOk_8 (.inr h))
  clear hk ht
  obtain ⟨n1, n2, n3, n4, n5, n6, n7, n8, n9, n10⟩ := opIs_10 h
  clear h
  go_enter Tryz.func80, Tryz.ntmps80
  go_wp2_with fail
  obtain ⟨wb, hwb, db, sb, BX⟩ := act_box a A1 A2 c1 c2 w
  rw [← hwb]
  clear hwb
  refine (kindFace_spec_any a.word _).mono ?_
  rintro e w1 ⟨he, k1⟩
  subst he
  have d1 : Chg [] wb w1 := k1
  obtain ⟨kb, hkb⟩ : ∃ b, b = (kindOf a.word).isSome := ⟨_, rfl⟩
  have HK : Hid (kb = true ↔ kindOf a.word ≠ none) := by show _ ↔ _; rw [hkb]; cases kindOf a.word <;> simp
  obtain ⟨kz, hkz⟩ : ∃ z, z = (kindOf a.word).getD 0 := ⟨_, rfl⟩
  rw [← hkb, ← hkz]
  clear hkb hkz k1
  obtain ⟨p0, p1, p2, p3, p4, p5, p6, p7, p8, p9, p10⟩ := BX.out _ d1
  go_wp2_with fail
  refine (layerNeeds_spec_any a.word _).mono ?_
  rintro e w2 ⟨he, k2⟩
  subst he
  have d2 : Chg [] wb w2 := d1.trans0 k2
  obtain ⟨lb, hlb⟩ : ∃ b, b = ((layerOf a.word).map (·.1)).isSome := ⟨_, rfl⟩
  have HL : Hid (lb = true ↔ layerOf a.word ≠ none) := by show _ ↔ _; rw [hlb]; cases layerOf a.word <;> simp
  obtain ⟨lz, hlz⟩ : ∃ z, z = ((layerOf a.word).map (·.1)).getD 0 := ⟨_, rfl⟩
  rw [← hlb, ← hlz]
  clear hlb hlz k2 p0 p1 p2 p3 p4 p5 p6 p7 p8 p9 p10
  obtain ⟨p0, p1, p2, p3, p4, p5, p6, p7, p8, p9, p10⟩ := BX.out _ d2
  go_wp2_with fail
  refine (l1In_any a.slot 0 2 _).mono ?_
  rintro e w3 ⟨sl, rfl, hsl, rfl⟩
  have HS : Hid (sl = true ↔ SlotNo a.slot) := hsl
  have d3 : Chg [] w w3 := db.trans0 d2
  clear hsl
  cases hz : (a.slot == 0)
  all_goals
    go_wp2_with fail
    all_goals first
      | exact leafR (d3)
      | (refine (l8Empty_any a A1 A2 c1 c2 _ _ _ _ _ _ flags_two _).mono ?_; rintro e w4 ⟨t, rfl, ht4, c4⟩; go_wp2_with fail; all_goals exact leafR ((d3).trans0 c4))
set_option maxRecDepth 100000 in
set_option maxHeartbeats 8000000 in
theorem l8Action_9 (a : ActionT) (A1 A2 : Option Addr) (c1 c2 : Nat) (w : World) (h : a.op = 9) (hk : a.call.key.size ≤ 1048576) (ht : a.call.text.size ≤ 1048575) :
    Calls Tryz.prog 80 #[.agg #[.int .i64 a.op, .int .i64 a.slot, .int .i64 a.other, .string a.word, .string a.call.method, .string a.call.key, .int .i64 a.call.value, .string a.call.text, .int .i64 a.face, .slice A1 a.A.length c1, .slice A2 a.B.length c2]] w (BoolPost (ActOk a) w) := by
  have CL := Lib.hid (fun W => l8Call_any a.call W hk ht)
  have HA := Lib.hid (actOk_9 h)
  clear hk ht
  obtain ⟨n1, n2, n3, n4, n5, n6, n7, n8, n9, n10⟩ := opIs_9 h
  clear h
  go_enter Tryz.func80, Tryz.ntmps80
  go_wp2_with fail
  obtain ⟨wb, hwb, db, sb, BX⟩ := act_box a A1 A2 c1 c2 w
  rw [← hwb]
  clear hwb
  refine (kindFace_spec_any a.word _).mono ?_
  rintro e w1 ⟨he, k1⟩
  subst he
  have d1 : Chg [] wb w1 := k1
  obtain ⟨kb, hkb⟩ : ∃ b, b = (kindOf a.word).isSome := ⟨_, rfl⟩
  have HK : Hid (kb = true ↔ kindOf a.word ≠ none) := by show _ ↔ _; rw [hkb]; cases kindOf a.word <;> simp
  obtain ⟨kz, hkz⟩ : ∃ z, z = (kindOf a.word).getD 0 := ⟨_, rfl⟩
  rw [← hkb, ← hkz]
  clear hkb hkz k1
  obtain ⟨p0, p1, p2, p3, p4, p5, p6, p7, p8, p9, p10⟩ := BX.out _ d1
  go_wp2_with fail
  refine (layerNeeds_spec_any a.word _).mono ?_
  rintro e w2 ⟨he, k2⟩
  subst he
  have d2 : Chg [] wb w2 := d1.trans0 k2
  obtain ⟨lb, hlb⟩ : ∃ b, b = ((layerOf a.word).map (·.1)).isSome := ⟨_, rfl⟩
  have HL : Hid (lb = true ↔ layerOf a.word ≠ none) := by show _ ↔ _; rw [hlb]; cases layerOf a.word <;> simp
  obtain ⟨lz, hlz⟩ : ∃ z, z = ((layerOf a.word).map (·.1)).getD 0 := ⟨_, rfl⟩
  rw [← hlb, ← hlz]
  clear hlb hlz k2 p0 p1 p2 p3 p4 p5 p6 p7 p8 p9 p10
  obtain ⟨p0, p1, p2, p3, p4, p5, p6, p7, p8, p9, p10⟩ := BX.out _ d2
  go_wp2_with fail
  refine (l1In_any a.slot 0 2 _).mono ?_
  rintro e w3 ⟨sl, rfl, hsl, rfl⟩
  have HS : Hid (sl = true ↔ SlotNo a.slot) := hsl
  have d3 : Chg [] w w3 := db.trans0 d2
  clear hsl
  cases hz : (a.slot == 0)
  all_goals
    go_wp2_with fail
    all_goals first
      | exact leafR (d3)
      | (refine (l8Empty_any a A1 A2 c1 c2 _ _ _ _ _ _ flags_one _).mono ?_; rintro e w4 ⟨t, rfl, ht4, c4⟩; go_wp2_with fail; all_goals exact leafR ((d3).trans0 c4))
end Go.Proofs.YtdlkbomojjmnlaaGreatDoor
namespace Go.Proofs.YtdlkbomojjmnlaaGreatDoor
open Go.RowKit

theorem actionsW_inS {l : List ActionT} (h : actionsW l ≤ 1048576) {a : ActionT} (ha : a ∈ l) : actionsW a.A ≤ 1048576 ∧ actionsW a.B ≤ 1048576 ∧ a.call.key.size ≤ 1048576 ∧ a.call.text.size ≤ 1048575 := by
  have h1 : actionW a ≤ actionsW1 l := sum_mem actionW ha
  have h2 := actionW_eq a
  have h3 : 0 < l.length := List.length_pos_of_mem ha
  unfold actionsW at h
  unfold callW at h2
  refine ⟨?_, ?_, ?_, ?_⟩ <;> omega
theorem l8Action_any (a : ActionT) (A1 A2 : Option Addr) (c1 c2 : Nat) (w : World) (hk : a.call.key.size ≤ 1048576) (ht : a.call.text.size ≤ 1048575) :
    Calls Tryz.prog 80 #[.agg #[.int .i64 a.op, .int .i64 a.slot, .int .i64 a.other, .string a.word, .string a.call.method, .string a.call.key, .int .i64 a.call.value, .string a.call.text, .int .i64 a.face, .slice A1 a.A.length c1, .slice A2 a.B.length c2]] w (BoolPost (ActOk a) w) := by
  rcases op_cases a.op with (h | h | h | h | h | h | h | h | h | h) | h
  · exact l8Action_1 a A1 A2 c1 c2 w h hk ht
  · exact l8Action_2 a A1 A2 c1 c2 w h hk ht
  · exact l8Action_3 a A1 A2 c1 c2 w h hk ht
  · exact l8Action_4 a A1 A2 c1 c2 w h hk ht
  · exact l8Action_5 a A1 A2 c1 c2 w h hk ht
  · exact l8Action_6 a A1 A2 c1 c2 w h hk ht
  · exact l8Action_7 a A1 A2 c1 c2 w h hk ht
  · exact l8Action_8 a A1 A2 c1 c2 w h hk ht
  · exact l8Action_9 a A1 A2 c1 c2 w h hk ht
  · exact l8Action_10 a A1 A2 c1 c2 w h hk ht
  · exact l8Action_no a A1 A2 c1 c2 w h hk ht
def AllActs (l : List ActionT) : Prop := ∀ (u : Value) (B : Nat) (w : World), actionsW l ≤ 1048576 → Rd w B (actions l) u → B ≤ w.heap.size →
  Calls Tryz.prog 47 #[u] w (BoolPost (okL l) w)
set_option maxRecDepth 100000 in
set_option maxHeartbeats 4000000 in
theorem l8All_any : ∀ l, AllActs l := by
  refine ActionT.ind fun l ih => ?_
  intro u B w hW hr hB
  obtain ⟨A, cap, rfl, h0, h1, hrow⟩ := actions_row hr
  unfold maxLen at h1
  have IH := Lib.hid ih
  have HW := Lib.hid hW
  have HO := Lib.hid (okL_iff l)
  clear ih hr hW
  go_enter Tryz.func47, Tryz.ntmps47
  go_wp2_with fail
  go_loopw [7] (fun i wr => ∃ k : Nat, k ≤ l.length ∧ i = .int .i64 k ∧ Hid (∀ (j : Nat) (h : j < l.length), j < k → l[j].ok) ∧ Chg [] w wr) (fun i _ => l.length - (intOf i).toNat)
  case atStart => exact ⟨0, Nat.zero_le _, rfl, fun j h h0 => absurd h0 (Nat.not_lt_zero _), Chg.refl _ _⟩
  case round =>
    obtain ⟨k, hk, rfl, HN, hc⟩ := hrel
    by_cases hlt : k < l.length
    · obtain ⟨b, off, uA, uB, rfl, hb, q0, q1, q2, q3, q4, q5, q6, q7, q8, q9, q10, rA, rB⟩ := actions_cells (hrow.chg0 hc hB) k hlt
      obtain ⟨A1, cap1, rfl, _, _, _⟩ := actions_row rA
      obtain ⟨A2, cap2, rfl, _, _, _⟩ := actions_row rB
      have hmem := List.getElem_mem hlt
      have hin := actionsW_inS HW.out hmem
      have hcs := hc.size
      have HOK := Lib.hid (l[k].ok_iff)
      have IS := Lib.hid (fun W => l8Action_any l[k] A1 A2 cap1 cap2 W hin.2.2.1 hin.2.2.2)
      have IA := Lib.hid (fun W (hW : Chg [] wr W) => (IH.out _ hmem).1 _ B W hin.1 (rA.chg0 hW (by omega)) (by have := hW.size; omega))
      have IB := Lib.hid (fun W (hW : Chg [] wr W) => (IH.out _ hmem).2 _ B W hin.2.1 (rB.chg0 hW (by omega)) (by have := hW.size; omega))
      go_wp2_with fail
      refine (IS.out _).mono ?_
      rintro e w1 ⟨t, rfl, ht, c1⟩
      have g9 : w1.cell? ⟨wr.heap.size, 9, none⟩ = some (.slice A1 l[k].A.length cap1) := (c1.cell (p := ⟨wr.heap.size, 9, none⟩) (by simp) (by simp)).trans (by go_simp)
      have g10 : w1.cell? ⟨wr.heap.size, 10, none⟩ = some (.slice A2 l[k].B.length cap2) := (c1.cell (p := ⟨wr.heap.size, 10, none⟩) (by simp) (by simp)).trans (by go_simp)
      have s1 : wr.heap.size < w1.heap.size := by have := c1.size; simp at this; omega
      have HT := Lib.hid ht
      have d1 : Chg [] wr w1 := ((Chg.refl _ _).alloc _).trans0 c1
      clear ht c1
      cases t
      · go_wp2_with fail
        go_ret
        exact BoolPost.of ⟨fun h => by simp at h, fun h => by have := HT.out.2 (HOK.out.1 (HO.out.1 h _ hmem)).1; simp at this⟩ (hc.trans0 d1)
      · go_wp2_with fail
        refine (IA.out _ d1).mono ?_
        rintro e w2 ⟨t, rfl, ht, c2⟩
        have f10 := (c2.cell (p := ⟨wr.heap.size, 10, none⟩) s1 (by simp)).trans g10
        have HT2 := Lib.hid ht
        have d2 : Chg [] wr w2 := d1.trans0 c2
        clear ht c2
        cases t
        · go_wp2_with fail
          go_ret
          exact BoolPost.of ⟨fun h => by simp at h, fun h => by have := HT2.out.2 (HOK.out.1 (HO.out.1 h _ hmem)).2.1; simp at this⟩ (hc.trans0 d2)
        · go_wp2_with fail
          refine (IB.out _ d2).mono ?_
          rintro e w3 ⟨t, rfl, ht, c3⟩
          have HT3 := Lib.hid ht
          have d3 : Chg [] wr w3 := d2.trans0 c3
          clear ht c3
          cases t
          · go_wp2_with fail
            go_ret
            exact BoolPost.of ⟨fun h => by simp at h, fun h => by have := HT3.out.2 (HOK.out.1 (HO.out.1 h _ hmem)).2.2; simp at this⟩ (hc.trans0 d3)
          · go_wp2_with fail
            go_roundw
            case rel => exact ⟨k + 1, by omega, by go_num, Lib.hid (fun j h hj => (Nat.lt_succ_iff_lt_or_eq.1 hj).elim (HN.out j h) (fun e => by subst e; exact HOK.out.2 ⟨HT.out.1 (by simp), HT2.out.1 (by simp), HT3.out.1 (by simp)⟩)), hc.trans0 d3⟩
            case measure => simp [intOf]; omega
    · obtain rfl : k = l.length := by omega
      go_wp2_with fail
      go_ret
      refine BoolPost.of ⟨fun _ => HO.out.2 fun a ha => ?_, fun _ => rfl⟩ hc
      obtain ⟨j, hj, rfl⟩ := List.getElem_of_mem ha
      exact HN.out j hj hj
end Go.Proofs.YtdlkbomojjmnlaaGreatDoor
namespace Go.Proofs.YtdlkbomojjmnlaaGreatDoor
open Go.RowKit

set_option maxRecDepth 100000 in
set_option maxHeartbeats 2000000 in
theorem isPlan_spec_law (l : List ActionT) (u : Value) (B : Nat) (w : World) (hW : actionsW l ≤ 1048576) (hr : Rd w B (actions l) u) (hB : B ≤ w.heap.size) :
    Calls Tryz.prog 12 #[u] w (BoolPost (PlanOk l) w) := by
  have PS := Lib.hid (planSize_spec_law l u B w hW hr hB)
  have PD := Lib.hid (fun W (hc : Chg [] w W) => planDepth_spec_law l u B W hW (hr.chg0 hc hB) (Nat.le_trans hB hc.size))
  have PA := Lib.hid (fun W (hc : Chg [] w W) => l8All_any l u B W hW (hr.chg0 hc hB) (Nat.le_trans hB hc.size))
  obtain ⟨A, cap, rfl, _, _, _⟩ := actions_row hr
  clear hr hW
  go_enter Tryz.func12, Tryz.ntmps12
  go_wp2_with fail
  refine PS.out.mono ?_
  rintro e w1 ⟨rfl, c1⟩
  by_cases h1 : sizeL l ≤ 14
  · go_wp2_with fail
    refine (PD.out _ c1).mono ?_
    rintro e w2 ⟨rfl, c2⟩
    by_cases h2 : depthL l ≤ 3
    · go_wp2_with fail
      refine (PA.out _ (c1.trans0 c2)).mono ?_
      rintro e w3 ⟨t, rfl, ht, c3⟩
      have HT := Lib.hid ht
      clear ht
      go_wp2_with fail
      all_goals (go_ret; exact BoolPost.of (by unfold PlanOk; have := HT.out; simp [h1, h2, this]) ((c1.trans0 c2).trans0 c3))
    · go_wp2_with fail
      go_ret
      exact BoolPost.of ⟨fun h => by simp at h, fun h => absurd h.2.1 h2⟩ (c1.trans0 c2)
  · go_wp2_with fail
    go_ret
    exact BoolPost.of ⟨fun h => by simp at h, fun h => absurd h.1 h1⟩ c1
end Go.Proofs.YtdlkbomojjmnlaaGreatDoor
