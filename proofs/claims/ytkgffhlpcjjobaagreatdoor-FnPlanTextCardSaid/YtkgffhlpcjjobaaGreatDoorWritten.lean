/- The text of a face: FormatFace of both packages. Conditions: for the program's, the names of the abilities stand in their variable. / The text of a call: FormatCall of both packages. Conditions: for the program's, the library's variables stand. / The texts of actions and plans, in plain Lean. -/
import Derived.Test.YtkgffhlpcjjobaaGreatDoorNames
import Derived.Test.YtkgffhlpcjjobaaGreatDoorBuilders
import Derived.Test.YtkgffhlpcjjobaaGreatDoorNumsAll
import Derived.Test.YtkgffhlpcjjobaaGreatDoorApps
import Derived.Test.YtkgffhlpcjjobaaGreatDoorIsActs
import Derived.Deep.RegionHeld3
import Derived.Test.YtkgffhlpcjjobaaGreatDoorActOks
namespace Go.Proofs.YtkgffhlpcjjobaaGreatDoor
open Go.RowKit

/-- The names of the abilities. -/
def abil : List ByteArray := [⟨#[114, 117, 110]⟩, ⟨#[107, 101, 101, 112]⟩, ⟨#[116, 101, 108, 108]⟩, ⟨#[104, 101, 97, 114]⟩, ⟨#[115, 97, 118, 101]⟩, ⟨#[104, 101, 97, 108]⟩]
def abilAt (k : Nat) : ByteArray := abil.getD k ⟨#[]⟩
/-- The names of those of the first k abilities that are in a face. -/
def faceK (f : Int) : Nat → List ByteArray
  | 0 => []
  | k + 1 => if has f k = true then faceK f k ++ [abilAt k] else faceK f k
instance (f : Int) : Decidable (IsF f) := inferInstanceAs (Decidable (_ ∧ _))
/-- The text of a face. -/
def faceT (f : Int) : ByteArray := if f = 0 then ⟨#[110, 111, 110, 101]⟩ else if IsF f then joinB (faceK f 6) ⟨#[43]⟩ else ⟨#[]⟩
theorem faceT_zero : faceT 0 = ⟨#[110, 111, 110, 101]⟩ := rfl
theorem faceT_face {f : Int} (h0 : f ≠ 0) (h : IsF f) : faceT f = joinB (faceK f 6) ⟨#[43]⟩ := by
  unfold faceT; rw [if_neg h0, if_pos h]
theorem faceT_none {f : Int} (h : ¬ IsF f) : faceT f = ⟨#[]⟩ := by
  unfold faceT
  have h0 : f ≠ 0 := fun e => h ⟨by omega, by omega⟩
  rw [if_neg h0, if_neg h]
theorem faceK_len (f : Int) : ∀ k, (faceK f k).length ≤ k
  | 0 => Nat.le_refl _
  | k + 1 => by
    rw [faceK]
    have := faceK_len f k
    split
    · simp; omega
    · omega
theorem abilAt_size (k : Nat) : (abilAt k).size ≤ 4 := by
  unfold abilAt abil
  match k with
  | 0 | 1 | 2 | 3 | 4 | 5 => decide
  | k + 6 => simp [ByteArray.size]
theorem faceK_W (f : Int) : ∀ k, strsW1 (faceK f k) ≤ 4 * k
  | 0 => Nat.le_refl _
  | k + 1 => by
    rw [faceK]
    have := faceK_W f k
    have := abilAt_size k
    unfold strsW1 at *
    split
    · simp; omega
    · omega
theorem faceK_pos {f : Int} {k : Nat} (h : has f k = true) : faceK f (k + 1) = faceK f k ++ [abilAt k] := by rw [faceK, if_pos h]
theorem faceK_no {f : Int} {k : Nat} (h : has f k = false) : faceK f (k + 1) = faceK f k := by rw [faceK, if_neg (by simp [h])]
theorem joinB_size_le (l : List ByteArray) (sep : ByteArray) (n m : Nat) (hs : sep.size ≤ 8) (hn : l.length ≤ n) (hW : strsW1 l ≤ m) : (joinB l sep).size ≤ 8 * n + m := by
  cases l with
  | nil => simp [joinB_nil, ByteArray.size]
  | cons x r =>
    rw [joinB_size]
    simp at hn
    have : sep.size * r.length ≤ 8 * n := Nat.mul_le_mul hs (by omega)
    omega
theorem faceT_size (f : Int) : (faceT f).size ≤ 100 := by
  unfold faceT
  split
  · decide
  · split
    · exact Nat.le_trans (joinB_size_le _ ⟨#[43]⟩ 6 24 (by decide) (faceK_len f 6) (faceK_W f 6)) (by decide)
    · decide
theorem and_bit : ∀ (f : Fin 64) (k : Fin 6), (bits .and .i64 (((f.1 : Nat) : Int) / (2 ^ k.1 : Nat)) 1 == 1) = has ((f.1 : Nat) : Int) k := by decide +kernel
set_option maxRecDepth 100000 in
theorem l2Names_any (w : World) :
    Calls Tryz.prog 175 #[] w fun e w' => e = .returned (.slice (some ⟨w.heap.size, 0, none⟩) 6 6) ∧ w' = w.alloc (.cells (abil.map Value.string).toArray 9) := by
  go_enter Tryz.func175, Tryz.ntmps175
  go_wp2_with fail
  go_ret
  exact ⟨rfl, rfl⟩
set_option maxRecDepth 100000 in
set_option maxHeartbeats 1000000 in
theorem abilityName_spec_any (k : Nat) (w : World) (hk : k < 6) :
    Calls Tryz.prog 148 #[.int .i64 k] w (StrPost (abilAt k) w) := by
  go_enter Tryz.func148, Tryz.ntmps148
  go_wp2_with fail
  refine (l2Names_any w).mono ?_
  rintro e w1 ⟨rfl, hw1⟩
  have hc : w1.cell? ⟨w.heap.size, k, none⟩ = some (.string (abilAt k)) := by
    rw [hw1, cell_of_row (w.alloc (.cells (abil.map Value.string).toArray 9)) w.heap.size k _ 9 (0, 0) (heap_alloc_new w _)]
    match k, hk with
    | 0, _ | 1, _ | 2, _ | 3, _ | 4, _ | 5, _ => rfl
  have c1 : Chg [] w w1 := hw1 ▸ (Chg.refl [] w).alloc _
  clear hw1
  go_wp2_with fail
  go_ret
  exact ⟨rfl, c1⟩
set_option maxRecDepth 100000 in
set_option maxHeartbeats 2000000 in
theorem formatFace_spec_any (f : Int) (w : World) :
    Calls Tryz.prog 110 #[.int .i64 f] w (StrPost (faceT f) w) := by
  by_cases hf : IsF f
  · have IF := Lib.hid (fun W => (isFace_spec_any f W).mono (BoolIs.pos hf))
    have HF := Lib.hid hf
    clear hf
    go_enter Tryz.func110, Tryz.ntmps110
    go_wp2_with fail
    go_loopw [3, 4] (fun v i wr => ∃ (k : Nat) (A' : Option Addr) (cap' : Nat), k ≤ 6 ∧ i = .int .i64 k ∧ v = .slice A' (faceK f k).length cap' ∧ App w wr 9 1 (.slice A' (faceK f k).length cap') (faceK f k).length ((faceK f k).flatMap strC)) (fun _ i _ => 6 - (intOf i).toNat)
    case atStart => exact ⟨0, _, 0, by omega, rfl, rfl, App.empty w _ _ (Chg.refl _ _)⟩
    case round =>
      obtain ⟨k, A', cap', hk, rfl, rfl, hh⟩ := hrel
      obtain ⟨L, hL⟩ : ∃ L, L = faceK f k := ⟨_, rfl⟩
      have hlen := faceK_len f k
      have hlw := faceK_W f k
      rw [← hL] at hh hlen hlw
      rw [← hL]
      have LL := Lib.hid hL
      clear hL
      by_cases hlt : k < 6
      · cases hb : has f k
        · have HB := Lib.hid (faceK_no hb)
          have L2 := fun W => (l2Has_any f k W HF.out hlt).mono (BoolIs.neg (by simp [hb]))
          have L2 := Lib.hid L2
          clear hb
          go_wp2_with fail
          refine (IF.out _).mono ?_
          rintro e w1 ⟨rfl, rfl⟩
          go_wp2_with fail
          refine (L2.out _).mono ?_
          rintro e w1 ⟨rfl, rfl⟩
          go_wp2_with fail
          go_roundw
          case rel => exact ⟨k + 1, A', cap', by omega, by go_num, by rw [HB.out, ← LL.out], by rw [HB.out, ← LL.out]; exact hh⟩
          case measure => simp [intOf]; omega
        · have HB := Lib.hid (faceK_pos hb)
          have L2 := fun W => (l2Has_any f k W HF.out hlt).mono (BoolIs.pos hb)
          have L2 := Lib.hid L2
          clear hb
          go_wp2_with fail
          refine (IF.out _).mono ?_
          rintro e w1 ⟨rfl, rfl⟩
          go_wp2_with fail
          refine (L2.out _).mono ?_
          rintro e w1 ⟨rfl, rfl⟩
          go_wp2_with fail
          refine (abilityName_spec_any k _ hlt).mono ?_
          rintro e w2 ⟨rfl, c2⟩
          go_wp2_with (at_builtin; refine wpList_app rfl (.tmp 17) (.tmp 20) _ rfl 9 _ 1 16 Tryz.underlying61 string_info rfl (by omega) hh (us := [.string (abilAt k)]) (dsE := strC (abilAt k)) ⟨[], HasL.cons_v (HasL.nil _), by simp, c2.alloc _⟩ rfl w2.heap.size 1 rfl rfl (by intro j u hj; cases j with | zero => cases hj; go_simp | succ j => simp at hj) (by intro u hu; simp at hu; subst hu; rfl) (by omega) (by omega) ?_; intro A2 cap2 w3 hA2)
          go_roundw
          case rel => exact ⟨k + 1, A2, cap2, by omega, by go_num, by rw [HB.out, ← LL.out]; simp, by rw [HB.out, ← LL.out, List.flatMap_append]; simpa using hA2⟩
          case measure => simp [intOf]; omega
      · obtain rfl : k = 6 := by omega
        have hn := hh.new
        by_cases h0 : f = 0
        · subst h0
          go_wp2_with fail
          go_ret
          exact ⟨str_ret rfl, hh.chg⟩
        · have hj := Lib.hid (fun W (hc : Chg [] wr W) => joinWith_spec_any L ⟨#[43]⟩ _ wr.heap.size W (by omega) (by decide) (by omega) (show Rd W wr.heap.size (strs L) _ from hn.rd.chg0 hc (Nat.le_refl _)) hc.size)
          have hcg := hh.chg
          go_wp2_with fail
          refine (hj.out _ (Chg.refl _ _)).mono ?_
          rintro e w1 ⟨rfl, c1⟩
          go_wp2_with fail
          go_ret
          exact ⟨str_ret (by rw [faceT_face h0 HF.out, ← LL.out]), hcg.trans0 c1⟩
  · have IF := Lib.hid (fun W => (isFace_spec_any f W).mono (BoolIs.neg hf))
    have hz := Lib.hid (faceT_none hf)
    have h0 : f ≠ 0 := fun e => hf ⟨by omega, by omega⟩
    clear hf
    go_enter Tryz.func110, Tryz.ntmps110
    go_wp2_with fail
    go_loopw [3, 4] (fun v i wr => i = .int .i64 0 ∧ v = .slice (some ⟨w.heap.size, 0, none⟩) 0 0 ∧ wr = w.alloc (.cells #[] 9)) (fun _ i _ => 0)
    case atStart => exact ⟨rfl, rfl, rfl⟩
    case round =>
      obtain ⟨rfl, rfl, hw⟩ := hrel
      have c1 : Chg [] w wr := hw ▸ (Chg.refl [] w).alloc _
      have hrd : Rd wr wr.heap.size (strs []) (.slice (some ⟨w.heap.size, 0, none⟩) 0 0) := by
        unfold strs
        rw [Rd]
        exact ⟨_, 0, rfl, Nat.le_refl _, by unfold maxLen; omega, .inl rfl⟩
      have hj := Lib.hid (fun W (hc : Chg [] wr W) => joinWith_spec_any [] ⟨#[43]⟩ _ wr.heap.size W (by simp) (by decide) (by simp [strsW1]) (hrd.chg0 hc (Nat.le_refl _)) hc.size)
      clear hw hrd
      go_wp2_with fail
      refine (IF.out _).mono ?_
      rintro e w1 ⟨rfl, rfl⟩
      go_wp2_with fail
      refine (hj.out _ (Chg.refl _ _)).mono ?_
      rintro e w1 ⟨rfl, c2⟩
      go_wp2_with fail
      go_ret
      exact ⟨str_ret hz.out.symm, c1.trans0 c2⟩
/-- The names of the abilities stand in their variable. -/
def AbilAt (w : World) : Prop := 1 < w.heap.size ∧ ∀ k : Fin 6, w.cell? ⟨1, k, none⟩ = some (.string (abilAt k))
theorem AbilAt.keep {w w' : World} (h : AbilAt w) (hc : Chg [] w w') : AbilAt w' :=
  ⟨Nat.lt_of_lt_of_le h.1 hc.size, fun k => (hc.cell (p := ⟨1, k, none⟩) h.1 (by simp)).trans (h.2 k)⟩
set_option maxRecDepth 100000 in
set_option maxHeartbeats 2000000 in
theorem formatFace_impl_any (f : Int) (w : World) (hg : AbilAt w) :
    Calls Tryz.prog 92 #[.int .i64 f] w (StrPost (faceT f) w) := by
  by_cases hf : IsF f
  · have IF := Lib.hid (fun W => (isFace_impl_any f W).mono (BoolIs.pos hf))
    have HF := Lib.hid hf
    by_cases h0 : f = 0
    · subst h0
      clear hf
      go_enter Tryz.func92, Tryz.ntmps92
      go_wp2_with fail
      refine (IF.out _).mono ?_
      rintro e w1 ⟨rfl, rfl⟩
      go_wp2_with fail
      go_ret
      exact ⟨str_ret rfl, Chg.refl _ _⟩
    · have q0 : w.cell? ⟨1, 0, none⟩ = some (.string (abilAt 0)) := hg.2 0
      have q1 : w.cell? ⟨1, 1, none⟩ = some (.string (abilAt 1)) := hg.2 1
      have q2 : w.cell? ⟨1, 2, none⟩ = some (.string (abilAt 2)) := hg.2 2
      have q3 : w.cell? ⟨1, 3, none⟩ = some (.string (abilAt 3)) := hg.2 3
      have q4 : w.cell? ⟨1, 4, none⟩ = some (.string (abilAt 4)) := hg.2 4
      have q5 : w.cell? ⟨1, 5, none⟩ = some (.string (abilAt 5)) := hg.2 5
      have hz0 : (f == 0) = false := by simpa using h0
      clear hf hg
      go_enter Tryz.func92, Tryz.ntmps92
      go_wp2_with fail
      refine (IF.out _).mono ?_
      rintro e w1 ⟨rfl, rfl⟩
      go_wp2_with fail
      go_loopw [3, 12] (fun v i wr => ∃ (k : Nat) (A' : Option Addr) (cap' : Nat), k ≤ 6 ∧ i = .int .i64 k ∧ v = .slice A' (faceK f k).length cap' ∧ App w1 wr 9 1 (.slice A' (faceK f k).length cap') (faceK f k).length ((faceK f k).flatMap strC)) (fun _ i _ => 6 - (intOf i).toNat)
      case atStart => exact ⟨0, none, 0, by omega, rfl, rfl, App.nil w1 _ _ (Chg.refl _ _)⟩
      case round =>
        obtain ⟨k, A', cap', hk, rfl, rfl, hh⟩ := hrel
        obtain ⟨L, hL⟩ : ∃ L, L = faceK f k := ⟨_, rfl⟩
        have hlen := faceK_len f k
        have hlw := faceK_W f k
        rw [← hL] at hh hlen hlw
        rw [← hL]
        have LL := Lib.hid hL
        clear hL q0 q1 q2 q3 q4 q5
        by_cases hlt : k < 6
        · have hidx : ∀ W, (Instr.index 160 (.agg #[.string (abilAt 0), .string (abilAt 1), .string (abilAt 2), .string (abilAt 3), .string (abilAt 4), .string (abilAt 5)]) (.int .i64 k)).run Tryz.prog W = .ok (.string (abilAt k)) W := by
            obtain rfl | rfl | rfl | rfl | rfl | rfl : k = 0 ∨ k = 1 ∨ k = 2 ∨ k = 3 ∨ k = 4 ∨ k = 5 := by omega
            all_goals exact fun W => by kernel_rfl
          have hbit : (bits .and .i64 (f / 2 ^ k) 1 == 1) = has f k := by
            have h0' := HF.out.1
            have := and_bit ⟨f.toNat, by have := HF.out; unfold IsF at this; omega⟩ ⟨k, hlt⟩
            simpa [Int.toNat_of_nonneg h0'] using this
          cases hb : has f k
          · rw [hb] at hbit
            have HB := Lib.hid (faceK_no hb)
            clear hb
            go_wp2_with fail
            go_roundw
            case rel => exact ⟨k + 1, A', cap', by omega, by go_num, by rw [HB.out, ← LL.out], by rw [HB.out, ← LL.out]; exact hh⟩
            case measure => simp [intOf]; omega
          · rw [hb] at hbit
            have HB := Lib.hid (faceK_pos hb)
            clear hb
            go_wp2_with (at_builtin; refine wpList_app rfl (.tmp 21) (.tmp 23) _ rfl 9 _ 1 16 Tryz.underlying61 string_info rfl (by omega) hh (us := [.string (abilAt k)]) (dsE := strC (abilAt k)) ⟨[], HasL.cons_v (HasL.nil _), by simp, (Chg.refl _ _).alloc _⟩ rfl wr.heap.size 1 rfl rfl (by intro j u hj; cases j with | zero => cases hj; go_simp | succ j => simp at hj) (by intro u hu; simp at hu; subst hu; rfl) (by omega) (by omega) ?_; intro A2 cap2 w3 hA2)
            go_roundw
            case rel => exact ⟨k + 1, A2, cap2, by omega, by go_num, by rw [HB.out, ← LL.out]; simp, by rw [HB.out, ← LL.out, List.flatMap_append]; simpa using hA2⟩
            case measure => simp [intOf]; omega
        · obtain rfl : k = 6 := by omega
          have hn := hh.new
          have hj := Lib.hid (fun W (hc : Chg [] wr W) => joinWith_impl_any L ⟨#[43]⟩ _ wr.heap.size W (by omega) (by decide) (by omega) (show Rd W wr.heap.size (strs L) _ from hn.rd.chg0 hc (Nat.le_refl _)) hc.size)
          have hcg := hh.chg
          go_wp2_with fail
          refine (hj.out _ (Chg.refl _ _)).mono ?_
          rintro e w2 ⟨rfl, c1⟩
          go_wp2_with fail
          go_ret
          exact ⟨str_ret (by rw [faceT_face h0 HF.out, ← LL.out]), hcg.trans0 c1⟩
  · have IF := Lib.hid (fun W => (isFace_impl_any f W).mono (BoolIs.neg hf))
    have hz := Lib.hid (faceT_none hf)
    clear hf
    go_enter Tryz.func92, Tryz.ntmps92
    go_wp2_with fail
    refine (IF.out _).mono ?_
    rintro e w1 ⟨rfl, rfl⟩
    go_wp2_with fail
    go_ret
    exact ⟨str_ret hz.out.symm, Chg.refl _ _⟩
end Go.Proofs.YtkgffhlpcjjobaaGreatDoor
namespace Go.Proofs.YtkgffhlpcjjobaaGreatDoor
open Go.RowKit

open Classical in
/-- The text of a call. -/
noncomputable def callT (x : CallT) : ByteArray :=
  if CallOk x then
    if x.method = mPut then ⟨#[80, 117, 116, 32]⟩ ++ x.key ++ ⟨#[32]⟩ ++ numT x.value
    else if x.method = mGet then ⟨#[71, 101, 116, 32]⟩ ++ x.key
    else if x.method = mHear then ⟨#[72, 101, 97, 114, 32]⟩ ++ numT x.value
    else if x.method = mLoad then ⟨#[76, 111, 97, 100, 32]⟩ ++ x.text
    else x.method
  else ⟨#[]⟩
theorem callT_no {x : CallT} (h : ¬ CallOk x) : callT x = ⟨#[]⟩ := by unfold callT; rw [if_neg h]
theorem callT_put {x : CallT} (h : CallOk x) (hm : x.method = mPut) : callT x = ⟨#[80, 117, 116, 32]⟩ ++ x.key ++ ⟨#[32]⟩ ++ numT x.value := by unfold callT; rw [if_pos h, if_pos hm]
theorem callT_get {x : CallT} (h : CallOk x) (hm : x.method = mGet) : callT x = ⟨#[71, 101, 116, 32]⟩ ++ x.key := by
  unfold callT; rw [if_pos h, if_neg (by rw [hm]; decide), if_pos hm]
theorem callT_hear {x : CallT} (h : CallOk x) (hm : x.method = mHear) : callT x = ⟨#[72, 101, 97, 114, 32]⟩ ++ numT x.value := by
  unfold callT; rw [if_pos h, if_neg (by rw [hm]; decide), if_neg (by rw [hm]; decide), if_pos hm]
theorem callT_load {x : CallT} (h : CallOk x) (hm : x.method = mLoad) : callT x = ⟨#[76, 111, 97, 100, 32]⟩ ++ x.text := by
  unfold callT; rw [if_pos h, if_neg (by rw [hm]; decide), if_neg (by rw [hm]; decide), if_neg (by rw [hm]; decide), if_pos hm]
theorem callT_other {x : CallT} (h : CallOk x) (hm : x.method ≠ mGet ∧ x.method ≠ mPut ∧ x.method ≠ mHear ∧ x.method ≠ mLoad) : callT x = x.method := by
  unfold callT; rw [if_pos h, if_neg hm.2.1, if_neg hm.1, if_neg hm.2.2.1, if_neg hm.2.2.2]
theorem callOk_value {x : CallT} (h : CallOk x) : 0 ≤ x.value ∧ x.value ≤ 999 := by
  obtain ⟨_, _, h⟩ := h
  unfold IsNum at h
  rcases h with h | h | h | h <;> omega
theorem callT_size {x : CallT} : (callT x).size ≤ callW x + 1048600 := by
  by_cases h : CallOk x
  · have hv := callOk_value h
    have hn := numT_size (n := x.value) (by omega) (by omega)
    unfold callW
    rcases methCases x.method with ⟨hm, _⟩ | ⟨hm, _⟩ | ⟨hm, _⟩ | ⟨hm, _⟩ | ⟨hm, _⟩
    · rw [callT_get h hm, ByteArray.size_append]
      have e : (⟨#[71, 101, 116, 32]⟩ : ByteArray).size = 4 := rfl
      omega
    · rw [callT_put h hm, ByteArray.size_append, ByteArray.size_append, ByteArray.size_append]
      have e : (⟨#[80, 117, 116, 32]⟩ : ByteArray).size = 4 := rfl
      have e2 : (⟨#[32]⟩ : ByteArray).size = 1 := rfl
      omega
    · rw [callT_hear h hm, ByteArray.size_append]
      have e : (⟨#[72, 101, 97, 114, 32]⟩ : ByteArray).size = 5 := rfl
      omega
    · rw [callT_load h hm, ByteArray.size_append]
      have e : (⟨#[76, 111, 97, 100, 32]⟩ : ByteArray).size = 5 := rfl
      omega
    · rw [callT_other h hm]; omega
  · rw [callT_no h]
    have e : (⟨#[]⟩ : ByteArray).size = 0 := rfl
    omega
set_option maxRecDepth 100000 in
set_option maxHeartbeats 4000000 in
theorem formatCall_spec_any (x : CallT) (w : World) (hk : x.key.size ≤ 1048576) (hx : x.text.size ≤ 1048576) :
    Calls Tryz.prog 111 #[.agg #[.string x.method, .string x.key, .int .i64 x.value, .string x.text]] w (StrPost (callT x) w) := by
  by_cases hok : CallOk x
  · have IC := Lib.hid (fun W => (isCall_spec_any x W hk).mono (BoolPost.pos hok))
    have hv := callOk_value hok
    have FN := Lib.hid (fun W (_ : Chg [] w W) => formatNumber_spec_any x.value W (by omega) (by omega))
    have hn := numT_size (n := x.value) (by omega) (by omega)
    have e1 : (⟨#[80, 117, 116, 32]⟩ : ByteArray).size = 4 := rfl
    have e2 : (⟨#[32]⟩ : ByteArray).size = 1 := rfl
    have e3 : (⟨#[71, 101, 116, 32]⟩ : ByteArray).size = 4 := rfl
    have e4 : (⟨#[72, 101, 97, 114, 32]⟩ : ByteArray).size = 5 := rfl
    have e5 : (⟨#[76, 111, 97, 100, 32]⟩ : ByteArray).size = 5 := rfl
    obtain ⟨n, hnn⟩ : ∃ n, n = numT x.value := ⟨_, rfl⟩
    rw [← hnn] at FN hn
    rcases methCases x.method with ⟨hm, m1, m2, m3, m4⟩ | ⟨hm, m1, m2, m3, m4⟩ | ⟨hm, m1, m2, m3, m4⟩ | ⟨hm, m1, m2, m3, m4⟩ | ⟨hm, m1, m2, m3, m4⟩
    · obtain ⟨y, hy⟩ : ∃ y, y = callT x := ⟨_, rfl⟩
      have hy2 := hy.trans (callT_get hok hm)
      rw [← hy]
      have k1 := cat_is (P := Tryz.prog) hy2 (by omega)
      clear hy hy2 hok hm hv e1 e2 e3 e4 e5 hnn
      go_enter Tryz.func111, Tryz.ntmps111
      go_wp2_with fail
      refine (IC.out _).mono ?_
      rintro e w1 ⟨rfl, c1⟩
      have p0 : w1.cell? ⟨w.heap.size, 0, none⟩ = some (.string x.method) := (c1.cell (p := ⟨w.heap.size, 0, none⟩) (by simp) (by simp)).trans (by go_simp)
      have p1 : w1.cell? ⟨w.heap.size, 1, none⟩ = some (.string x.key) := (c1.cell (p := ⟨w.heap.size, 1, none⟩) (by simp) (by simp)).trans (by go_simp)
      have p2 : w1.cell? ⟨w.heap.size, 2, none⟩ = some (.int .i64 x.value) := (c1.cell (p := ⟨w.heap.size, 2, none⟩) (by simp) (by simp)).trans (by go_simp)
      have p3 : w1.cell? ⟨w.heap.size, 3, none⟩ = some (.string x.text) := (c1.cell (p := ⟨w.heap.size, 3, none⟩) (by simp) (by simp)).trans (by go_simp)
      have hlt : w.heap.size < w1.heap.size := by have := c1.size; simp at this; omega
      have d1 : Chg [] w w1 := ((Chg.refl _ _).alloc _).trans0 c1
      clear c1
      go_wp2_with fail
      go_ret
      exact ⟨rfl, d1⟩
    · obtain ⟨y, hy⟩ : ∃ y, y = callT x := ⟨_, rfl⟩
      have hy2 := hy.trans (callT_put hok hm)
      rw [← hy]
      rw [← hnn] at hy2
      obtain ⟨x1, hx1⟩ : ∃ z, z = ⟨#[80, 117, 116, 32]⟩ ++ x.key := ⟨_, rfl⟩
      obtain ⟨x2, hx2⟩ : ∃ z, z = x1 ++ ⟨#[32]⟩ := ⟨_, rfl⟩
      rw [← hx1, ← hx2] at hy2
      have z1 : x1.size = 4 + x.key.size := by rw [hx1, ByteArray.size_append, e1]
      have z2 : x2.size = x1.size + 1 := by rw [hx2, ByteArray.size_append, e2]
      have k1 := cat_is (P := Tryz.prog) hx1 (by omega)
      have k2 := cat_is (P := Tryz.prog) hx2 (by omega)
      have k3 := cat_is (P := Tryz.prog) hy2 (by omega)
      clear hy hy2 hx1 hx2 z1 z2 hok hm hv e1 e2 e3 e4 e5 hnn
      go_enter Tryz.func111, Tryz.ntmps111
      go_wp2_with fail
      refine (IC.out _).mono ?_
      rintro e w1 ⟨rfl, c1⟩
      have p0 : w1.cell? ⟨w.heap.size, 0, none⟩ = some (.string x.method) := (c1.cell (p := ⟨w.heap.size, 0, none⟩) (by simp) (by simp)).trans (by go_simp)
      have p1 : w1.cell? ⟨w.heap.size, 1, none⟩ = some (.string x.key) := (c1.cell (p := ⟨w.heap.size, 1, none⟩) (by simp) (by simp)).trans (by go_simp)
      have p2 : w1.cell? ⟨w.heap.size, 2, none⟩ = some (.int .i64 x.value) := (c1.cell (p := ⟨w.heap.size, 2, none⟩) (by simp) (by simp)).trans (by go_simp)
      have p3 : w1.cell? ⟨w.heap.size, 3, none⟩ = some (.string x.text) := (c1.cell (p := ⟨w.heap.size, 3, none⟩) (by simp) (by simp)).trans (by go_simp)
      have hlt : w.heap.size < w1.heap.size := by have := c1.size; simp at this; omega
      have d1 : Chg [] w w1 := ((Chg.refl _ _).alloc _).trans0 c1
      clear c1
      go_wp2_with fail
      go_region_held3 (fun w' => w'.cell? ⟨w.heap.size, 1, none⟩ = some (.string x.key) ∧ w'.cell? ⟨w.heap.size, 2, none⟩ = some (.int .i64 x.value) ∧ w.heap.size < w'.heap.size ∧ Chg [] w w') (first | exact ⟨p1, p2, hlt, d1.drew⟩ | exact ⟨(c1.cell E3 (by simp)).trans E1, (c1.cell E3 (by simp)).trans E2, by have := c1.size; omega, E4.trans0 c1⟩) (first | (go_at_call 109; obtain ⟨E1, E2, E3, E4⟩ := ‹_ ∧ _ ∧ _ ∧ Chg [] w _›; (with_reducible refine (FN.out _ E4).mono ?_); rintro e w1 ⟨rfl, c1⟩))
      obtain ⟨_, _, _, E⟩ := ‹_ ∧ _ ∧ _ ∧ Chg [] w _›
      go_wp2_with fail
      go_ret
      exact ⟨rfl, E⟩
    · obtain ⟨y, hy⟩ : ∃ y, y = callT x := ⟨_, rfl⟩
      have hy2 := hy.trans (callT_hear hok hm)
      rw [← hy]
      rw [← hnn] at hy2
      have k1 := cat_is (P := Tryz.prog) hy2 (by omega)
      clear hy hy2 hok hm hv e1 e2 e3 e4 e5 hnn
      go_enter Tryz.func111, Tryz.ntmps111
      go_wp2_with fail
      refine (IC.out _).mono ?_
      rintro e w1 ⟨rfl, c1⟩
      have p0 : w1.cell? ⟨w.heap.size, 0, none⟩ = some (.string x.method) := (c1.cell (p := ⟨w.heap.size, 0, none⟩) (by simp) (by simp)).trans (by go_simp)
      have p1 : w1.cell? ⟨w.heap.size, 1, none⟩ = some (.string x.key) := (c1.cell (p := ⟨w.heap.size, 1, none⟩) (by simp) (by simp)).trans (by go_simp)
      have p2 : w1.cell? ⟨w.heap.size, 2, none⟩ = some (.int .i64 x.value) := (c1.cell (p := ⟨w.heap.size, 2, none⟩) (by simp) (by simp)).trans (by go_simp)
      have p3 : w1.cell? ⟨w.heap.size, 3, none⟩ = some (.string x.text) := (c1.cell (p := ⟨w.heap.size, 3, none⟩) (by simp) (by simp)).trans (by go_simp)
      have hlt : w.heap.size < w1.heap.size := by have := c1.size; simp at this; omega
      have d1 : Chg [] w w1 := ((Chg.refl _ _).alloc _).trans0 c1
      clear c1
      go_wp2_with fail
      refine (FN.out _ d1).mono ?_
      rintro e w2 ⟨rfl, c2⟩
      go_wp2_with fail
      go_ret
      exact ⟨rfl, d1.trans0 c2⟩
    · obtain ⟨y, hy⟩ : ∃ y, y = callT x := ⟨_, rfl⟩
      have hy2 := hy.trans (callT_load hok hm)
      rw [← hy]
      have k1 := cat_is (P := Tryz.prog) hy2 (by omega)
      clear hy hy2 hok hm hv e1 e2 e3 e4 e5 hnn
      go_enter Tryz.func111, Tryz.ntmps111
      go_wp2_with fail
      refine (IC.out _).mono ?_
      rintro e w1 ⟨rfl, c1⟩
      have p0 : w1.cell? ⟨w.heap.size, 0, none⟩ = some (.string x.method) := (c1.cell (p := ⟨w.heap.size, 0, none⟩) (by simp) (by simp)).trans (by go_simp)
      have p1 : w1.cell? ⟨w.heap.size, 1, none⟩ = some (.string x.key) := (c1.cell (p := ⟨w.heap.size, 1, none⟩) (by simp) (by simp)).trans (by go_simp)
      have p2 : w1.cell? ⟨w.heap.size, 2, none⟩ = some (.int .i64 x.value) := (c1.cell (p := ⟨w.heap.size, 2, none⟩) (by simp) (by simp)).trans (by go_simp)
      have p3 : w1.cell? ⟨w.heap.size, 3, none⟩ = some (.string x.text) := (c1.cell (p := ⟨w.heap.size, 3, none⟩) (by simp) (by simp)).trans (by go_simp)
      have hlt : w.heap.size < w1.heap.size := by have := c1.size; simp at this; omega
      have d1 : Chg [] w w1 := ((Chg.refl _ _).alloc _).trans0 c1
      clear c1
      go_wp2_with fail
      go_ret
      exact ⟨rfl, d1⟩
    · have HY := Lib.hid (callT_other hok hm)
      clear hok hm hv e1 e2 e3 e4 e5 hnn
      go_enter Tryz.func111, Tryz.ntmps111
      go_wp2_with fail
      refine (IC.out _).mono ?_
      rintro e w1 ⟨rfl, c1⟩
      have p0 : w1.cell? ⟨w.heap.size, 0, none⟩ = some (.string x.method) := (c1.cell (p := ⟨w.heap.size, 0, none⟩) (by simp) (by simp)).trans (by go_simp)
      have p1 : w1.cell? ⟨w.heap.size, 1, none⟩ = some (.string x.key) := (c1.cell (p := ⟨w.heap.size, 1, none⟩) (by simp) (by simp)).trans (by go_simp)
      have p2 : w1.cell? ⟨w.heap.size, 2, none⟩ = some (.int .i64 x.value) := (c1.cell (p := ⟨w.heap.size, 2, none⟩) (by simp) (by simp)).trans (by go_simp)
      have p3 : w1.cell? ⟨w.heap.size, 3, none⟩ = some (.string x.text) := (c1.cell (p := ⟨w.heap.size, 3, none⟩) (by simp) (by simp)).trans (by go_simp)
      have hlt : w.heap.size < w1.heap.size := by have := c1.size; simp at this; omega
      have d1 : Chg [] w w1 := ((Chg.refl _ _).alloc _).trans0 c1
      clear c1
      go_wp2_with fail
      go_ret
      exact ⟨str_ret HY.out.symm, d1⟩
  · have IC := Lib.hid (fun W => (isCall_spec_any x W hk).mono (BoolPost.neg hok))
    have HY := Lib.hid (callT_no hok)
    clear hok
    go_enter Tryz.func111, Tryz.ntmps111
    go_wp2_with fail
    refine (IC.out _).mono ?_
    rintro e w1 ⟨rfl, c1⟩
    go_wp2_with fail
    go_ret
    exact ⟨str_ret HY.out.symm, ((Chg.refl _ _).alloc _).trans0 c1⟩
set_option maxRecDepth 100000 in
set_option maxHeartbeats 4000000 in
theorem formatCall_impl_any (x : CallT) (w : World) (hk : x.key.size ≤ 1048576) (hx : x.text.size ≤ 1048576) (hE : Env w) :
    Calls Tryz.prog 93 #[.agg #[.string x.method, .string x.key, .int .i64 x.value, .string x.text]] w (StrPost (callT x) w) := by
  by_cases hok : CallOk x
  · have IC := Lib.hid (fun W => (isCall_impl_any x W hk).mono (BoolPost.pos hok))
    have hv := callOk_value hok
    have FN := Lib.hid (fun W (hc : Chg [] w W) => formatNumber_impl_any x.value W (by omega) (by omega) (hE.pow.keep hc))
    have hn := numT_size (n := x.value) (by omega) (by omega)
    have e1 : (⟨#[80, 117, 116, 32]⟩ : ByteArray).size = 4 := rfl
    have e2 : (⟨#[32]⟩ : ByteArray).size = 1 := rfl
    have e3 : (⟨#[71, 101, 116, 32]⟩ : ByteArray).size = 4 := rfl
    have e4 : (⟨#[72, 101, 97, 114, 32]⟩ : ByteArray).size = 5 := rfl
    have e5 : (⟨#[76, 111, 97, 100, 32]⟩ : ByteArray).size = 5 := rfl
    obtain ⟨n, hnn⟩ : ∃ n, n = numT x.value := ⟨_, rfl⟩
    rw [← hnn] at FN hn
    rcases methCases x.method with ⟨hm, m1, m2, m3, m4⟩ | ⟨hm, m1, m2, m3, m4⟩ | ⟨hm, m1, m2, m3, m4⟩ | ⟨hm, m1, m2, m3, m4⟩ | ⟨hm, m1, m2, m3, m4⟩
    · obtain ⟨y, hy⟩ : ∃ y, y = callT x := ⟨_, rfl⟩
      have hy2 := hy.trans (callT_get hok hm)
      rw [← hy]
      have k1 := cat_is (P := Tryz.prog) hy2 (by omega)
      clear hy hy2 hok hm hv e1 e2 e3 e4 e5 hnn
      go_enter Tryz.func93, Tryz.ntmps93
      go_wp2_with fail
      refine (IC.out _).mono ?_
      rintro e w1 ⟨rfl, c1⟩
      have p0 : w1.cell? ⟨w.heap.size, 0, none⟩ = some (.string x.method) := (c1.cell (p := ⟨w.heap.size, 0, none⟩) (by simp) (by simp)).trans (by go_simp)
      have p1 : w1.cell? ⟨w.heap.size, 1, none⟩ = some (.string x.key) := (c1.cell (p := ⟨w.heap.size, 1, none⟩) (by simp) (by simp)).trans (by go_simp)
      have p2 : w1.cell? ⟨w.heap.size, 2, none⟩ = some (.int .i64 x.value) := (c1.cell (p := ⟨w.heap.size, 2, none⟩) (by simp) (by simp)).trans (by go_simp)
      have p3 : w1.cell? ⟨w.heap.size, 3, none⟩ = some (.string x.text) := (c1.cell (p := ⟨w.heap.size, 3, none⟩) (by simp) (by simp)).trans (by go_simp)
      have hlt : w.heap.size < w1.heap.size := by have := c1.size; simp at this; omega
      have d1 : Chg [] w w1 := ((Chg.refl _ _).alloc _).trans0 c1
      clear c1
      go_wp2_with fail
      go_ret
      exact ⟨rfl, d1⟩
    · obtain ⟨y, hy⟩ : ∃ y, y = callT x := ⟨_, rfl⟩
      have hy2 := hy.trans (callT_put hok hm)
      rw [← hy]
      rw [← hnn] at hy2
      obtain ⟨x1, hx1⟩ : ∃ z, z = ⟨#[80, 117, 116, 32]⟩ ++ x.key := ⟨_, rfl⟩
      obtain ⟨x2, hx2⟩ : ∃ z, z = x1 ++ ⟨#[32]⟩ := ⟨_, rfl⟩
      rw [← hx1, ← hx2] at hy2
      have z1 : x1.size = 4 + x.key.size := by rw [hx1, ByteArray.size_append, e1]
      have z2 : x2.size = x1.size + 1 := by rw [hx2, ByteArray.size_append, e2]
      have k1 := cat_is (P := Tryz.prog) hx1 (by omega)
      have k2 := cat_is (P := Tryz.prog) hx2 (by omega)
      have k3 := cat_is (P := Tryz.prog) hy2 (by omega)
      clear hy hy2 hx1 hx2 z1 z2 hok hm hv e1 e2 e3 e4 e5 hnn
      go_enter Tryz.func93, Tryz.ntmps93
      go_wp2_with fail
      refine (IC.out _).mono ?_
      rintro e w1 ⟨rfl, c1⟩
      have p0 : w1.cell? ⟨w.heap.size, 0, none⟩ = some (.string x.method) := (c1.cell (p := ⟨w.heap.size, 0, none⟩) (by simp) (by simp)).trans (by go_simp)
      have p1 : w1.cell? ⟨w.heap.size, 1, none⟩ = some (.string x.key) := (c1.cell (p := ⟨w.heap.size, 1, none⟩) (by simp) (by simp)).trans (by go_simp)
      have p2 : w1.cell? ⟨w.heap.size, 2, none⟩ = some (.int .i64 x.value) := (c1.cell (p := ⟨w.heap.size, 2, none⟩) (by simp) (by simp)).trans (by go_simp)
      have p3 : w1.cell? ⟨w.heap.size, 3, none⟩ = some (.string x.text) := (c1.cell (p := ⟨w.heap.size, 3, none⟩) (by simp) (by simp)).trans (by go_simp)
      have hlt : w.heap.size < w1.heap.size := by have := c1.size; simp at this; omega
      have d1 : Chg [] w w1 := ((Chg.refl _ _).alloc _).trans0 c1
      clear c1
      go_wp2_with fail
      go_region_held3 (fun w' => w'.cell? ⟨w.heap.size, 1, none⟩ = some (.string x.key) ∧ w'.cell? ⟨w.heap.size, 2, none⟩ = some (.int .i64 x.value) ∧ w.heap.size < w'.heap.size ∧ Chg [] w w') (first | exact ⟨p1, p2, hlt, d1.drew⟩ | exact ⟨(c1.cell E3 (by simp)).trans E1, (c1.cell E3 (by simp)).trans E2, by have := c1.size; omega, E4.trans0 c1⟩) (first | (go_at_call 91; obtain ⟨E1, E2, E3, E4⟩ := ‹_ ∧ _ ∧ _ ∧ Chg [] w _›; (with_reducible refine (FN.out _ E4).mono ?_); rintro e w1 ⟨rfl, c1⟩))
      obtain ⟨_, _, _, E⟩ := ‹_ ∧ _ ∧ _ ∧ Chg [] w _›
      go_wp2_with fail
      go_ret
      exact ⟨rfl, E⟩
    · obtain ⟨y, hy⟩ : ∃ y, y = callT x := ⟨_, rfl⟩
      have hy2 := hy.trans (callT_hear hok hm)
      rw [← hy]
      rw [← hnn] at hy2
      have k1 := cat_is (P := Tryz.prog) hy2 (by omega)
      clear hy hy2 hok hm hv e1 e2 e3 e4 e5 hnn
      go_enter Tryz.func93, Tryz.ntmps93
      go_wp2_with fail
      refine (IC.out _).mono ?_
      rintro e w1 ⟨rfl, c1⟩
      have p0 : w1.cell? ⟨w.heap.size, 0, none⟩ = some (.string x.method) := (c1.cell (p := ⟨w.heap.size, 0, none⟩) (by simp) (by simp)).trans (by go_simp)
      have p1 : w1.cell? ⟨w.heap.size, 1, none⟩ = some (.string x.key) := (c1.cell (p := ⟨w.heap.size, 1, none⟩) (by simp) (by simp)).trans (by go_simp)
      have p2 : w1.cell? ⟨w.heap.size, 2, none⟩ = some (.int .i64 x.value) := (c1.cell (p := ⟨w.heap.size, 2, none⟩) (by simp) (by simp)).trans (by go_simp)
      have p3 : w1.cell? ⟨w.heap.size, 3, none⟩ = some (.string x.text) := (c1.cell (p := ⟨w.heap.size, 3, none⟩) (by simp) (by simp)).trans (by go_simp)
      have hlt : w.heap.size < w1.heap.size := by have := c1.size; simp at this; omega
      have d1 : Chg [] w w1 := ((Chg.refl _ _).alloc _).trans0 c1
      clear c1
      go_wp2_with fail
      refine (FN.out _ d1).mono ?_
      rintro e w2 ⟨rfl, c2⟩
      go_wp2_with fail
      go_ret
      exact ⟨rfl, d1.trans0 c2⟩
    · obtain ⟨y, hy⟩ : ∃ y, y = callT x := ⟨_, rfl⟩
      have hy2 := hy.trans (callT_load hok hm)
      rw [← hy]
      have k1 := cat_is (P := Tryz.prog) hy2 (by omega)
      clear hy hy2 hok hm hv e1 e2 e3 e4 e5 hnn
      go_enter Tryz.func93, Tryz.ntmps93
      go_wp2_with fail
      refine (IC.out _).mono ?_
      rintro e w1 ⟨rfl, c1⟩
      have p0 : w1.cell? ⟨w.heap.size, 0, none⟩ = some (.string x.method) := (c1.cell (p := ⟨w.heap.size, 0, none⟩) (by simp) (by simp)).trans (by go_simp)
      have p1 : w1.cell? ⟨w.heap.size, 1, none⟩ = some (.string x.key) := (c1.cell (p := ⟨w.heap.size, 1, none⟩) (by simp) (by simp)).trans (by go_simp)
      have p2 : w1.cell? ⟨w.heap.size, 2, none⟩ = some (.int .i64 x.value) := (c1.cell (p := ⟨w.heap.size, 2, none⟩) (by simp) (by simp)).trans (by go_simp)
      have p3 : w1.cell? ⟨w.heap.size, 3, none⟩ = some (.string x.text) := (c1.cell (p := ⟨w.heap.size, 3, none⟩) (by simp) (by simp)).trans (by go_simp)
      have hlt : w.heap.size < w1.heap.size := by have := c1.size; simp at this; omega
      have d1 : Chg [] w w1 := ((Chg.refl _ _).alloc _).trans0 c1
      clear c1
      go_wp2_with fail
      go_ret
      exact ⟨rfl, d1⟩
    · have HY := Lib.hid (callT_other hok hm)
      clear hok hm hv e1 e2 e3 e4 e5 hnn
      go_enter Tryz.func93, Tryz.ntmps93
      go_wp2_with fail
      refine (IC.out _).mono ?_
      rintro e w1 ⟨rfl, c1⟩
      have p0 : w1.cell? ⟨w.heap.size, 0, none⟩ = some (.string x.method) := (c1.cell (p := ⟨w.heap.size, 0, none⟩) (by simp) (by simp)).trans (by go_simp)
      have p1 : w1.cell? ⟨w.heap.size, 1, none⟩ = some (.string x.key) := (c1.cell (p := ⟨w.heap.size, 1, none⟩) (by simp) (by simp)).trans (by go_simp)
      have p2 : w1.cell? ⟨w.heap.size, 2, none⟩ = some (.int .i64 x.value) := (c1.cell (p := ⟨w.heap.size, 2, none⟩) (by simp) (by simp)).trans (by go_simp)
      have p3 : w1.cell? ⟨w.heap.size, 3, none⟩ = some (.string x.text) := (c1.cell (p := ⟨w.heap.size, 3, none⟩) (by simp) (by simp)).trans (by go_simp)
      have hlt : w.heap.size < w1.heap.size := by have := c1.size; simp at this; omega
      have d1 : Chg [] w w1 := ((Chg.refl _ _).alloc _).trans0 c1
      clear c1
      go_wp2_with fail
      go_ret
      exact ⟨str_ret HY.out.symm, d1⟩
  · have IC := Lib.hid (fun W => (isCall_impl_any x W hk).mono (BoolPost.neg hok))
    have HY := Lib.hid (callT_no hok)
    clear hok
    go_enter Tryz.func93, Tryz.ntmps93
    go_wp2_with fail
    refine (IC.out _).mono ?_
    rintro e w1 ⟨rfl, c1⟩
    go_wp2_with fail
    go_ret
    exact ⟨str_ret HY.out.symm, ((Chg.refl _ _).alloc _).trans0 c1⟩
end Go.Proofs.YtkgffhlpcjjobaaGreatDoor
namespace Go.Proofs.YtkgffhlpcjjobaaGreatDoor
open Go.RowKit

/-- The words of the kinds of actions. -/
def planWordsL : List ByteArray := [⟨#[]⟩, ⟨#[109, 97, 107, 101]⟩, ⟨#[119, 114, 97, 112]⟩, ⟨#[117, 110, 119, 114, 97, 112]⟩, ⟨#[99, 111, 112, 121]⟩, ⟨#[100, 114, 111, 112]⟩, ⟨#[97, 115, 107]⟩, ⟨#[99, 97, 108, 108]⟩, ⟨#[105, 102]⟩, ⟨#[108, 111, 111, 112]⟩, ⟨#[116, 114, 121]⟩]
def wordT (op : Int) : ByteArray := planWordsL.getD op.toNat ⟨#[]⟩
/-- A block, as the program writes it. -/
def blkT : List ByteArray → ByteArray
  | [] => ⟨#[123, 32, 125]⟩
  | x :: r => ⟨#[123, 32]⟩ ++ joinB (x :: r) ⟨#[59, 32]⟩ ++ ⟨#[32, 125]⟩
/-- What is in a block, as the reference writes it. -/
def bodyT : List ByteArray → ByteArray
  | [] => ⟨#[]⟩
  | x :: r => joinB (x :: r) ⟨#[59, 32]⟩ ++ ⟨#[32]⟩
mutual
noncomputable def ActionT.txt : ActionT → ByteArray
  | .mk op slot other word call face A B =>
    if op = 1 ∨ op = 2 then wordT op ++ ⟨#[32]⟩ ++ numT slot ++ ⟨#[32]⟩ ++ word
    else if op = 4 then wordT op ++ ⟨#[32]⟩ ++ numT slot ++ ⟨#[32, 102, 114, 111, 109, 32]⟩ ++ numT other
    else if op = 6 then wordT op ++ ⟨#[32]⟩ ++ numT slot ++ ⟨#[32]⟩ ++ faceT face
    else if op = 7 then wordT op ++ ⟨#[32]⟩ ++ numT slot ++ ⟨#[32]⟩ ++ callT call
    else if op = 8 ∨ op = 10 then wordT op ++ ⟨#[32]⟩ ++ blkT (txtL A) ++ ⟨#[32, 101, 108, 115, 101, 32]⟩ ++ blkT (txtL B)
    else if op = 9 then wordT op ++ ⟨#[32]⟩ ++ blkT (txtL A)
    else wordT op ++ ⟨#[32]⟩ ++ numT slot
noncomputable def txtL : List ActionT → List ByteArray
  | [] => []
  | a :: l => a.txt :: txtL l
end
theorem txtL_map : ∀ l : List ActionT, txtL l = l.map ActionT.txt
  | [] => by rw [txtL]; rfl
  | a :: l => by rw [txtL, txtL_map l]; rfl
theorem txt_1 {a : ActionT} (h : a.op = 1 ∨ a.op = 2) : a.txt = wordT a.op ++ ⟨#[32]⟩ ++ numT a.slot ++ ⟨#[32]⟩ ++ a.word := by
  cases a; rw [ActionT.txt]; exact if_pos h
theorem txt_4 {a : ActionT} (h : a.op = 4) : a.txt = wordT a.op ++ ⟨#[32]⟩ ++ numT a.slot ++ ⟨#[32, 102, 114, 111, 109, 32]⟩ ++ numT a.other := by
  cases a with | mk op slot other word call face A B =>
  have h : op = 4 := h
  rw [ActionT.txt, if_neg (by omega), if_pos h]; rfl
theorem txt_6 {a : ActionT} (h : a.op = 6) : a.txt = wordT a.op ++ ⟨#[32]⟩ ++ numT a.slot ++ ⟨#[32]⟩ ++ faceT a.face := by
  cases a with | mk op slot other word call face A B =>
  have h : op = 6 := h
  rw [ActionT.txt, if_neg (by omega), if_neg (by omega), if_pos h]; rfl
theorem txt_7 {a : ActionT} (h : a.op = 7) : a.txt = wordT a.op ++ ⟨#[32]⟩ ++ numT a.slot ++ ⟨#[32]⟩ ++ callT a.call := by
  cases a with | mk op slot other word call face A B =>
  have h : op = 7 := h
  rw [ActionT.txt, if_neg (by omega), if_neg (by omega), if_neg (by omega), if_pos h]; rfl
theorem txt_8 {a : ActionT} (h : a.op = 8 ∨ a.op = 10) : a.txt = wordT a.op ++ ⟨#[32]⟩ ++ blkT (txtL a.A) ++ ⟨#[32, 101, 108, 115, 101, 32]⟩ ++ blkT (txtL a.B) := by
  cases a with | mk op slot other word call face A B =>
  have h : op = 8 ∨ op = 10 := h
  rw [ActionT.txt, if_neg (by omega), if_neg (by omega), if_neg (by omega), if_neg (by omega), if_pos h]; rfl
theorem txt_9 {a : ActionT} (h : a.op = 9) : a.txt = wordT a.op ++ ⟨#[32]⟩ ++ blkT (txtL a.A) := by
  cases a with | mk op slot other word call face A B =>
  have h : op = 9 := h
  rw [ActionT.txt, if_neg (by omega), if_neg (by omega), if_neg (by omega), if_neg (by omega), if_neg (by omega), if_pos h]; rfl
theorem txt_3 {a : ActionT} (h : a.op = 3 ∨ a.op = 5) : a.txt = wordT a.op ++ ⟨#[32]⟩ ++ numT a.slot := by
  cases a with | mk op slot other word call face A B =>
  have h : op = 3 ∨ op = 5 := h
  rw [ActionT.txt, if_neg (by omega), if_neg (by omega), if_neg (by omega), if_neg (by omega), if_neg (by omega), if_neg (by omega)]; rfl
theorem wordT_size {op : Int} : (wordT op).size ≤ 6 := by
  unfold wordT planWordsL
  generalize op.toNat = k
  match k with
  | 0 | 1 | 2 | 3 | 4 | 5 | 6 | 7 | 8 | 9 | 10 => decide
  | k + 11 => exact Nat.zero_le _
theorem blkT_size (l : List ByteArray) : (blkT l).size ≤ 4 + 2 * l.length + strsW1 l := by
  cases l with
  | nil => exact Nat.le_add_right 4 _ |> Nat.le_trans (by decide)
  | cons x r =>
    unfold blkT
    rw [ByteArray.size_append, ByteArray.size_append, joinB_size]
    have e1 : (⟨#[123, 32]⟩ : ByteArray).size = 2 := rfl
    have e2 : (⟨#[32, 125]⟩ : ByteArray).size = 2 := rfl
    have e3 : (⟨#[59, 32]⟩ : ByteArray).size = 2 := rfl
    rw [e1, e2, e3]
    simp only [List.length_cons]
    omega
theorem bodyT_size (l : List ByteArray) : (bodyT l).size ≤ 4 + 2 * l.length + strsW1 l := by
  cases l with
  | nil => exact Nat.zero_le _
  | cons x r =>
    unfold bodyT
    rw [ByteArray.size_append, joinB_size]
    have e2 : (⟨#[32]⟩ : ByteArray).size = 1 := rfl
    have e3 : (⟨#[59, 32]⟩ : ByteArray).size = 2 := rfl
    rw [e2, e3]
    simp only [List.length_cons]
    omega
/-- How long texts are. -/
def TxtB (l : List ActionT) : Prop := okL l → strsW1 (txtL l) ≤ 4194304 * sizeL l + 2 * actionsW1 l
theorem txtL_len (l : List ActionT) : (txtL l).length = l.length := by rw [txtL_map, List.length_map]
theorem txt_size (a : ActionT) (hA : TxtB a.A) (hB : TxtB a.B) (hok : a.ok) : a.txt.size ≤ 4194304 * a.size + 2 * actionW a := by
  have ho := (a.ok_iff).1 hok
  have bA := hA ho.2.1
  have bB := hB ho.2.2
  have w := wordT_size (op := a.op)
  have es := a.size_eq
  have ew := actionW_eq a
  have sl := ok_slot hok
  have ns := numT_size (n := a.slot) (by have := sl.1; omega) (by have := sl.2; omega)
  have e1 : (⟨#[32]⟩ : ByteArray).size = 1 := rfl
  have e2 : (⟨#[32, 102, 114, 111, 109, 32]⟩ : ByteArray).size = 6 := rfl
  have e3 : (⟨#[32, 101, 108, 115, 101, 32]⟩ : ByteArray).size = 6 := rfl
  have kA := blkT_size (txtL a.A)
  have kB := blkT_size (txtL a.B)
  rw [txtL_len] at kA kB
  unfold actionsW at ew
  rcases op_cases a.op with (h | h | h | h | h | h | h | h | h | h) | h
  · rw [txt_1 (.inl h)]; simp only [ByteArray.size_append]; omega
  · rw [txt_1 (.inr h)]; simp only [ByteArray.size_append]; omega
  · rw [txt_3 (.inl h)]; simp only [ByteArray.size_append]; omega
  · have so := ((okS_4 h).1 hok).2.1
    have no := numT_size (n := a.other) (by have := so.1; omega) (by have := so.2; omega)
    rw [txt_4 h]; simp only [ByteArray.size_append]; omega
  · rw [txt_3 (.inr h)]; simp only [ByteArray.size_append]; omega
  · have := faceT_size a.face
    rw [txt_6 h]; simp only [ByteArray.size_append]; omega
  · have := callT_size (x := a.call)
    rw [txt_7 h]; simp only [ByteArray.size_append]; omega
  · rw [txt_8 (.inl h)]; simp only [ByteArray.size_append]; omega
  · rw [txt_9 h]; simp only [ByteArray.size_append]; omega
  · rw [txt_8 (.inr h)]; simp only [ByteArray.size_append]; omega
  · exact absurd (ok_op hok) h.1
theorem txtB_all : ∀ l, TxtB l := by
  refine ActionT.ind fun l ih => ?_
  intro hok
  have each : ∀ a ∈ l, a.txt.size ≤ 4194304 * a.size + 2 * actionW a := fun a ha => txt_size a (ih a ha).1 (ih a ha).2 ((okL_iff l).1 hok a ha)
  clear ih hok
  induction l with
  | nil => simp [txtL, strsW1, sizeL]
  | cons a l ihl =>
    have h1 := each a (by simp)
    have h2 := ihl (fun b hb => each b (by simp [hb]))
    rw [txtL, sizeL]
    unfold strsW1 actionsW1 at *
    simp only [List.map_cons, List.sum_cons]
    omega
/-- A plan's texts are short enough to be joined. -/
theorem plan_small {l : List ActionT} (hok : okL l) (hs : sizeL l ≤ 14) (hW : actionsW l ≤ 1048576) : strsW1 (txtL l) ≤ 67108864 ∧ l.length ≤ 14 := by
  have h1 := txtB_all l hok
  have h2 : actionsW1 l ≤ actionsW l := by unfold actionsW; omega
  refine ⟨by omega, ?_⟩
  have : ∀ m : List ActionT, m.length ≤ sizeL m := by
    intro m
    induction m with
    | nil => exact Nat.zero_le _
    | cons a m ih => rw [sizeL]; have := a.size_eq; simp; omega
  have := this l
  omega
end Go.Proofs.YtkgffhlpcjjobaaGreatDoor
