/- The text of a face: FormatFace of both packages. Conditions: for the program's, the names of the abilities stand in their variable. -/
import Derived.Test.YtldpibnfhomfgaaGreatDoorNames
import Derived.Test.YtldpibnfhomfgaaGreatDoorBuilders
import Derived.Test.YtldpibnfhomfgaaGreatDoorNums
import Derived.Test.YtldpibnfhomfgaaGreatDoorApps
namespace Go.Proofs.YtldpibnfhomfgaaGreatDoor
open Go.RowKit

/-- The names of the abilities. -/
def abil : List ByteArray := [⟨#[114, 117, 110]⟩, ⟨#[107, 101, 101, 112]⟩, ⟨#[116, 101, 108, 108]⟩, ⟨#[104, 101, 97, 114]⟩, ⟨#[115, 97, 118, 101]⟩, ⟨#[104, 101, 97, 108]⟩]
def abilAt (k : Nat) : ByteArray := abil.getD k ⟨#[]⟩
/-- The names of those of the first k abilities that are in a face. -/
def faceK (f : Int) : Nat → List ByteArray
  | 0 => []
  | k + 1 => if has f k = true then faceK f k ++ [abilAt k] else faceK f k
instance (f : Int) : Decidable (IsF f) := inferInstanceAs (Decidable (_ ∧ _))
/-- The text of a face. -/
def faceT (f : Int) : ByteArray := if f = 0 then ⟨#[110, 111, 110, 101]⟩ else if IsF f then joinB (faceK f 6) ⟨#[43]⟩ else ⟨#[]⟩
theorem faceT_face {f : Int} (h0 : f ≠ 0) (h : IsF f) : faceT f = joinB (faceK f 6) ⟨#[43]⟩ := by
  unfold faceT; rw [if_neg h0, if_pos h]
theorem faceT_none {f : Int} (h : ¬ IsF f) : faceT f = ⟨#[]⟩ := by
  unfold faceT
  have h0 : f ≠ 0 := fun e => h ⟨by omega, by omega⟩
  rw [if_neg h0, if_neg h]
theorem faceK_len (f : Int) : ∀ k, (faceK f k).length ≤ k
  | 0 => Nat.le_refl _
  | k + 1 => by
    rw [faceK]
    have := faceK_len f k
    split
    · simp; omega
    · omega
theorem abilAt_size (k : Nat) : (abilAt k).size ≤ 4 := by
  unfold abilAt abil
  match k with
  | 0 | 1 | 2 | 3 | 4 | 5 => decide
  | k + 6 => simp [ByteArray.size]
theorem faceK_W (f : Int) : ∀ k, strsW1 (faceK f k) ≤ 4 * k
  | 0 => Nat.le_refl _
  | k + 1 => by
    rw [faceK]
    have := faceK_W f k
    have := abilAt_size k
    unfold strsW1 at *
    split
    · simp; omega
    · omega
theorem faceK_pos {f : Int} {k : Nat} (h : has f k = true) : faceK f (k + 1) = faceK f k ++ [abilAt k] := by rw [faceK, if_pos h]
theorem faceK_no {f : Int} {k : Nat} (h : has f k = false) : faceK f (k + 1) = faceK f k := by rw [faceK, if_neg (by simp [h])]
theorem joinB_size_le (l : List ByteArray) (sep : ByteArray) (n m : Nat) (hs : sep.size ≤ 8) (hn : l.length ≤ n) (hW : strsW1 l ≤ m) : (joinB l sep).size ≤ 8 * n + m := by
  cases l with
  | nil => simp [joinB_nil, ByteArray.size]
  | cons x r =>
    rw [joinB_size]
    simp at hn
    have : sep.size * r.length ≤ 8 * n := Nat.mul_le_mul hs (by omega)
    omega
theorem faceT_size (f : Int) : (faceT f).size ≤ 100 := by
  unfold faceT
  split
  · decide
  · split
    · exact Nat.le_trans (joinB_size_le _ ⟨#[43]⟩ 6 24 (by decide) (faceK_len f 6) (faceK_W f 6)) (by decide)
    · decide
theorem and_bit : ∀ (f : Fin 64) (k : Fin 6), (bits .and .i64 (((f.1 : Nat) : Int) / (2 ^ k.1 : Nat)) 1 == 1) = has ((f.1 : Nat) : Int) k := by decide +kernel
set_option maxRecDepth 100000 in
theorem l2Names_any (w : World) :
    Calls Tryz.prog 77 #[] w fun e w' => e = .returned (.slice (some ⟨w.heap.size, 0, none⟩) 6 6) ∧ w' = w.alloc (.cells (abil.map Value.string).toArray 9) := by
  go_enter Tryz.func77, Tryz.ntmps77
  go_wp2_with fail
  go_ret
  exact ⟨rfl, rfl⟩
set_option maxRecDepth 100000 in
set_option maxHeartbeats 1000000 in
theorem abilityName_spec_any (k : Nat) (w : World) (hk : k < 6) :
    Calls Tryz.prog 52 #[.int .i64 k] w (StrPost (abilAt k) w) := by
  go_enter Tryz.func52, Tryz.ntmps52
  go_wp2_with fail
  refine (l2Names_any w).mono ?_
  rintro e w1 ⟨rfl, hw1⟩
  have hc : w1.cell? ⟨w.heap.size, k, none⟩ = some (.string (abilAt k)) := by
    rw [hw1, cell_of_row (w.alloc (.cells (abil.map Value.string).toArray 9)) w.heap.size k _ 9 (0, 0) (heap_alloc_new w _)]
    match k, hk with
    | 0, _ | 1, _ | 2, _ | 3, _ | 4, _ | 5, _ => rfl
  have c1 : Chg [] w w1 := hw1 ▸ (Chg.refl [] w).alloc _
  clear hw1
  go_wp2_with fail
  go_ret
  exact ⟨rfl, c1⟩
set_option maxRecDepth 100000 in
set_option maxHeartbeats 2000000 in
theorem formatFace_spec_any (f : Int) (w : World) :
    Calls Tryz.prog 37 #[.int .i64 f] w (StrPost (faceT f) w) := by
  by_cases hf : IsF f
  · have IF := Lib.hid (fun W => (isFace_spec_any f W).mono (BoolIs.pos hf))
    have HF := Lib.hid hf
    clear hf
    go_enter Tryz.func37, Tryz.ntmps37
    go_wp2_with fail
    go_loopw [3, 4] (fun v i wr => ∃ (k : Nat) (A' : Option Addr) (cap' : Nat), k ≤ 6 ∧ i = .int .i64 k ∧ v = .slice A' (faceK f k).length cap' ∧ App w wr 9 1 (.slice A' (faceK f k).length cap') (faceK f k).length ((faceK f k).flatMap strC)) (fun _ i _ => 6 - (intOf i).toNat)
    case atStart => exact ⟨0, _, 0, by omega, rfl, rfl, App.empty w _ _ (Chg.refl _ _)⟩
    case round =>
      obtain ⟨k, A', cap', hk, rfl, rfl, hh⟩ := hrel
      obtain ⟨L, hL⟩ : ∃ L, L = faceK f k := ⟨_, rfl⟩
      have hlen := faceK_len f k
      have hlw := faceK_W f k
      rw [← hL] at hh hlen hlw
      rw [← hL]
      have LL := Lib.hid hL
      clear hL
      by_cases hlt : k < 6
      · cases hb : has f k
        · have HB := Lib.hid (faceK_no hb)
          have L2 := fun W => (l2Has_any f k W HF.out hlt).mono (BoolIs.neg (by simp [hb]))
          have L2 := Lib.hid L2
          clear hb
          go_wp2_with fail
          refine (IF.out _).mono ?_
          rintro e w1 ⟨rfl, rfl⟩
          go_wp2_with fail
          refine (L2.out _).mono ?_
          rintro e w1 ⟨rfl, rfl⟩
          go_wp2_with fail
          go_roundw
          case rel => exact ⟨k + 1, A', cap', by omega, by go_num, by rw [HB.out, ← LL.out], by rw [HB.out, ← LL.out]; exact hh⟩
          case measure => simp [intOf]; omega
        · have HB := Lib.hid (faceK_pos hb)
          have L2 := fun W => (l2Has_any f k W HF.out hlt).mono (BoolIs.pos hb)
          have L2 := Lib.hid L2
          clear hb
          go_wp2_with fail
          refine (IF.out _).mono ?_
          rintro e w1 ⟨rfl, rfl⟩
          go_wp2_with fail
          refine (L2.out _).mono ?_
          rintro e w1 ⟨rfl, rfl⟩
          go_wp2_with fail
          refine (abilityName_spec_any k _ hlt).mono ?_
          rintro e w2 ⟨rfl, c2⟩
          go_wp2_with (at_builtin; refine wpList_app rfl (.tmp 17) (.tmp 20) _ rfl 9 _ 1 16 Tryz.underlying30 string_info rfl (by omega) hh (us := [.string (abilAt k)]) (dsE := strC (abilAt k)) ⟨[], HasL.cons_v (HasL.nil _), by simp, c2.alloc _⟩ rfl w2.heap.size 1 rfl rfl (by intro j u hj; cases j with | zero => cases hj; go_simp | succ j => simp at hj) (by intro u hu; simp at hu; subst hu; rfl) (by omega) (by omega) ?_; intro A2 cap2 w3 hA2)
          go_roundw
          case rel => exact ⟨k + 1, A2, cap2, by omega, by go_num, by rw [HB.out, ← LL.out]; simp, by rw [HB.out, ← LL.out, List.flatMap_append]; simpa using hA2⟩
          case measure => simp [intOf]; omega
      · obtain rfl : k = 6 := by omega
        have hn := hh.new
        by_cases h0 : f = 0
        · subst h0
          go_wp2_with fail
          go_ret
          exact ⟨str_ret rfl, hh.chg⟩
        · have hj := Lib.hid (fun W (hc : Chg [] wr W) => joinWith_spec_any L ⟨#[43]⟩ _ wr.heap.size W (by omega) (by decide) (by omega) (show Rd W wr.heap.size (strs L) _ from hn.rd.chg0 hc (Nat.le_refl _)) hc.size)
          have hcg := hh.chg
          go_wp2_with fail
          refine (hj.out _ (Chg.refl _ _)).mono ?_
          rintro e w1 ⟨rfl, c1⟩
          go_wp2_with fail
          go_ret
          exact ⟨str_ret (by rw [faceT_face h0 HF.out, ← LL.out]), hcg.trans0 c1⟩
  · have IF := Lib.hid (fun W => (isFace_spec_any f W).mono (BoolIs.neg hf))
    have hz := Lib.hid (faceT_none hf)
    have h0 : f ≠ 0 := fun e => hf ⟨by omega, by omega⟩
    clear hf
    go_enter Tryz.func37, Tryz.ntmps37
    go_wp2_with fail
    go_loopw [3, 4] (fun v i wr => i = .int .i64 0 ∧ v = .slice (some ⟨w.heap.size, 0, none⟩) 0 0 ∧ wr = w.alloc (.cells #[] 9)) (fun _ i _ => 0)
    case atStart => exact ⟨rfl, rfl, rfl⟩
    case round =>
      obtain ⟨rfl, rfl, hw⟩ := hrel
      have c1 : Chg [] w wr := hw ▸ (Chg.refl [] w).alloc _
      have hrd : Rd wr wr.heap.size (strs []) (.slice (some ⟨w.heap.size, 0, none⟩) 0 0) := by
        unfold strs
        rw [Rd]
        exact ⟨_, 0, rfl, Nat.le_refl _, by unfold maxLen; omega, .inl rfl⟩
      have hj := Lib.hid (fun W (hc : Chg [] wr W) => joinWith_spec_any [] ⟨#[43]⟩ _ wr.heap.size W (by simp) (by decide) (by simp [strsW1]) (hrd.chg0 hc (Nat.le_refl _)) hc.size)
      clear hw hrd
      go_wp2_with fail
      refine (IF.out _).mono ?_
      rintro e w1 ⟨rfl, rfl⟩
      go_wp2_with fail
      refine (hj.out _ (Chg.refl _ _)).mono ?_
      rintro e w1 ⟨rfl, c2⟩
      go_wp2_with fail
      go_ret
      exact ⟨str_ret hz.out.symm, c1.trans0 c2⟩
/-- The names of the abilities stand in their variable. -/
def AbilAt (w : World) : Prop := 2 < w.heap.size ∧ ∀ k : Fin 6, w.cell? ⟨2, k, none⟩ = some (.string (abilAt k))
theorem AbilAt.keep {w w' : World} (h : AbilAt w) (hc : Chg [] w w') : AbilAt w' :=
  ⟨Nat.lt_of_lt_of_le h.1 hc.size, fun k => (hc.cell (p := ⟨2, k, none⟩) h.1 (by simp)).trans (h.2 k)⟩
set_option maxRecDepth 100000 in
set_option maxHeartbeats 2000000 in
theorem formatFace_impl_any (f : Int) (w : World) (hg : AbilAt w) :
    Calls Tryz.prog 68 #[.int .i64 f] w (StrPost (faceT f) w) := by
  by_cases hf : IsF f
  · have IF := Lib.hid (fun W => (isFace_impl_any f W).mono (BoolIs.pos hf))
    have HF := Lib.hid hf
    by_cases h0 : f = 0
    · subst h0
      clear hf
      go_enter Tryz.func68, Tryz.ntmps68
      go_wp2_with fail
      refine (IF.out _).mono ?_
      rintro e w1 ⟨rfl, rfl⟩
      go_wp2_with fail
      go_ret
      exact ⟨str_ret rfl, Chg.refl _ _⟩
    · have q0 : w.cell? ⟨2, 0, none⟩ = some (.string (abilAt 0)) := hg.2 0
      have q1 : w.cell? ⟨2, 1, none⟩ = some (.string (abilAt 1)) := hg.2 1
      have q2 : w.cell? ⟨2, 2, none⟩ = some (.string (abilAt 2)) := hg.2 2
      have q3 : w.cell? ⟨2, 3, none⟩ = some (.string (abilAt 3)) := hg.2 3
      have q4 : w.cell? ⟨2, 4, none⟩ = some (.string (abilAt 4)) := hg.2 4
      have q5 : w.cell? ⟨2, 5, none⟩ = some (.string (abilAt 5)) := hg.2 5
      have hz0 : (f == 0) = false := by simpa using h0
      clear hf hg
      go_enter Tryz.func68, Tryz.ntmps68
      go_wp2_with fail
      refine (IF.out _).mono ?_
      rintro e w1 ⟨rfl, rfl⟩
      go_wp2_with fail
      go_loopw [3, 12] (fun v i wr => ∃ (k : Nat) (A' : Option Addr) (cap' : Nat), k ≤ 6 ∧ i = .int .i64 k ∧ v = .slice A' (faceK f k).length cap' ∧ App w1 wr 9 1 (.slice A' (faceK f k).length cap') (faceK f k).length ((faceK f k).flatMap strC)) (fun _ i _ => 6 - (intOf i).toNat)
      case atStart => exact ⟨0, none, 0, by omega, rfl, rfl, App.nil w1 _ _ (Chg.refl _ _)⟩
      case round =>
        obtain ⟨k, A', cap', hk, rfl, rfl, hh⟩ := hrel
        obtain ⟨L, hL⟩ : ∃ L, L = faceK f k := ⟨_, rfl⟩
        have hlen := faceK_len f k
        have hlw := faceK_W f k
        rw [← hL] at hh hlen hlw
        rw [← hL]
        have LL := Lib.hid hL
        clear hL q0 q1 q2 q3 q4 q5
        by_cases hlt : k < 6
        · have hidx : ∀ W, (Instr.index 94 (.agg #[.string (abilAt 0), .string (abilAt 1), .string (abilAt 2), .string (abilAt 3), .string (abilAt 4), .string (abilAt 5)]) (.int .i64 k)).run Tryz.prog W = .ok (.string (abilAt k)) W := by
            obtain rfl | rfl | rfl | rfl | rfl | rfl : k = 0 ∨ k = 1 ∨ k = 2 ∨ k = 3 ∨ k = 4 ∨ k = 5 := by omega
            all_goals exact fun W => by kernel_rfl
          have hbit : (bits .and .i64 (f / 2 ^ k) 1 == 1) = has f k := by
            have h0' := HF.out.1
            have := and_bit ⟨f.toNat, by have := HF.out; unfold IsF at this; omega⟩ ⟨k, hlt⟩
            simpa [Int.toNat_of_nonneg h0'] using this
          cases hb : has f k
          · rw [hb] at hbit
            have HB := Lib.hid (faceK_no hb)
            clear hb
            go_wp2_with fail
            go_roundw
            case rel => exact ⟨k + 1, A', cap', by omega, by go_num, by rw [HB.out, ← LL.out], by rw [HB.out, ← LL.out]; exact hh⟩
            case measure => simp [intOf]; omega
          · rw [hb] at hbit
            have HB := Lib.hid (faceK_pos hb)
            clear hb
            go_wp2_with (at_builtin; refine wpList_app rfl (.tmp 21) (.tmp 23) _ rfl 9 _ 1 16 Tryz.underlying30 string_info rfl (by omega) hh (us := [.string (abilAt k)]) (dsE := strC (abilAt k)) ⟨[], HasL.cons_v (HasL.nil _), by simp, (Chg.refl _ _).alloc _⟩ rfl wr.heap.size 1 rfl rfl (by intro j u hj; cases j with | zero => cases hj; go_simp | succ j => simp at hj) (by intro u hu; simp at hu; subst hu; rfl) (by omega) (by omega) ?_; intro A2 cap2 w3 hA2)
            go_roundw
            case rel => exact ⟨k + 1, A2, cap2, by omega, by go_num, by rw [HB.out, ← LL.out]; simp, by rw [HB.out, ← LL.out, List.flatMap_append]; simpa using hA2⟩
            case measure => simp [intOf]; omega
        · obtain rfl : k = 6 := by omega
          have hn := hh.new
          have hj := Lib.hid (fun W (hc : Chg [] wr W) => joinWith_impl_any L ⟨#[43]⟩ _ wr.heap.size W (by omega) (by decide) (by omega) (show Rd W wr.heap.size (strs L) _ from hn.rd.chg0 hc (Nat.le_refl _)) hc.size)
          have hcg := hh.chg
          go_wp2_with fail
          refine (hj.out _ (Chg.refl _ _)).mono ?_
          rintro e w2 ⟨rfl, c1⟩
          go_wp2_with fail
          go_ret
          exact ⟨str_ret (by rw [faceT_face h0 HF.out, ← LL.out]), hcg.trans0 c1⟩
  · have IF := Lib.hid (fun W => (isFace_impl_any f W).mono (BoolIs.neg hf))
    have hz := Lib.hid (faceT_none hf)
    clear hf
    go_enter Tryz.func68, Tryz.ntmps68
    go_wp2_with fail
    refine (IF.out _).mono ?_
    rintro e w1 ⟨rfl, rfl⟩
    go_wp2_with fail
    go_ret
    exact ⟨str_ret hz.out.symm, Chg.refl _ _⟩
end Go.Proofs.YtldpibnfhomfgaaGreatDoor
