/- The text of a number: FormatNumber of both packages. -/
import Derived.Test.YtgnggiibhkphjaaGreatDoorBase
import Derived.Lib.ItoaNum
import Derived.Laws.BytesArg
namespace Go.Proofs.YtgnggiibhkphjaaGreatDoor
open Go.RowKit

/-- A text; nothing that was there has turned. -/
def StrPost (s : ByteArray) (w : World) (e : Ending) (w' : World) : Prop := e = .returned (.string s) ∧ Chg [] w w'
/-- The text of a number. -/
def numT (n : Int) : ByteArray := ⟨(Lib.itoa n).toArray⟩
/-- The digits of a number that is not negative. -/
def digT (n : Int) : ByteArray := ⟨(Lib.decDigits n.toNat).toArray⟩
theorem digT_small {m : Int} (h0 : 0 ≤ m) (h : m < 10) : digT m = strOfNums [48 + m % 10] := by
  unfold digT strOfNums
  have e : m % 10 = m := by omega
  rw [Lib.decDigits, dif_pos (by omega), e]
  have : (48 + m).toNat = 48 + m.toNat := by omega
  simp [this]
theorem digT_step {m : Int} (h : 10 ≤ m) : digT m = digT (m / 10) ++ strOfNums [48 + m % 10] := by
  unfold digT strOfNums
  rw [Lib.decDigits, dif_neg (by omega)]
  have h1 : (m / 10).toNat = m.toNat / 10 := by omega
  have h2 : (48 + m % 10).toNat = 48 + m.toNat % 10 := by omega
  apply ByteArray.ext
  rw [ByteArray.data_append]
  simp [h1, h2]
theorem numT_pos {n : Int} (h : 0 ≤ n) : numT n = digT n := by
  unfold numT digT Lib.itoa
  rw [if_neg (by omega)]
theorem numT_neg {n : Int} (h : n < 0) : numT n = ⟨#[45]⟩ ++ digT (-n) := by
  unfold numT digT Lib.itoa
  rw [if_pos h]
  have : n.natAbs = (-n).toNat := by omega
  apply ByteArray.ext
  rw [ByteArray.data_append]
  simp [this]
theorem digT_size : ∀ (f : Nat) (m : Int), m.toNat ≤ f → (digT m).size ≤ f + 1 := by
  intro f
  induction f with
  | zero => intro m h; unfold digT; rw [Lib.decDigits, dif_pos (by omega)]; simp [ByteArray.size]
  | succ f ih =>
    intro m h
    by_cases hm : m.toNat < 10
    · unfold digT; rw [Lib.decDigits, dif_pos hm]; simp [ByteArray.size]
    · rw [digT_step (by omega), ByteArray.size_append, strOfNums_size]
      have := ih (m / 10) (by omega)
      simp
      omega
theorem digT_size20 {m : Int} (h : m ≤ 9223372036854775808) : (digT m).size ≤ 1048576 := by
  have : ∀ (k : Nat) (m : Int), m.toNat < 10 ^ (k + 1) → (digT m).size ≤ k + 1 := by
    intro k
    induction k with
    | zero => intro m h; unfold digT; rw [Lib.decDigits, dif_pos (by omega)]; simp [ByteArray.size]
    | succ k ih =>
      intro m h
      by_cases hm : m.toNat < 10
      · unfold digT; rw [Lib.decDigits, dif_pos hm]; simp [ByteArray.size]
      · rw [digT_step (by omega), ByteArray.size_append, strOfNums_size]
        have := ih (m / 10) (by rw [Nat.pow_succ] at h; omega)
        simp
        omega
  have := this 19 m (by omega)
  omega
theorem numT_size {n : Int} (h0 : -9223372036854775808 ≤ n) (h1 : n ≤ 9223372036854775807) : (numT n).size ≤ 1048577 := by
  by_cases h : 0 ≤ n
  · rw [numT_pos h]; have := digT_size20 (m := n) (by omega); omega
  · rw [numT_neg (by omega), ByteArray.size_append]
    have := digT_size20 (m := -n) (by omega)
    have e : (⟨#[45]⟩ : ByteArray).size = 1 := rfl
    omega
theorem numT_min : numT (-9223372036854775808) = ⟨#[45, 57, 50, 50, 51, 51, 55, 50, 48, 51, 54, 56, 53, 52, 55, 55, 53, 56, 48, 56]⟩ := by
  unfold numT Lib.itoa
  simp [Lib.decDigits]
theorem str_ret {a b : ByteArray} (h : a = b) : Ending.returned (.string a) = .returned (.string b) := by rw [h]
set_option maxRecDepth 100000 in
set_option maxHeartbeats 1000000 in
theorem formatNumber_spec_small (m : Int) (w : World) (h0 : 0 ≤ m) (h1 : m ≤ 9) :
    Calls Tryz.prog 35 #[.int .i64 m] w (StrPost (digT m) w) := by
  have hce : ∀ i, i < 1 → (w.alloc (.cells #[.int .u8 (48 + m % 10)] 5)).cell? ⟨w.heap.size, 0 + i, none⟩ = some (.int .u8 ([48 + m % 10].getD i 0)) := by
    intro i hi
    obtain rfl : i = 0 := by omega
    rw [Nat.zero_add, World.cell?_alloc_mark]
    rfl
  have hcv := run_convert_bytes_arg (P := Tryz.prog) (w.alloc (.cells #[.int .u8 (48 + m % 10)] 5)) 64 5 Tryz.underlying64 Tryz.underlying5 w.heap.size 0 1 1 [48 + m % 10] rfl hce 9 Tryz.underlying9
  have HS := Lib.hid (digT_small h0 (by omega))
  clear hce
  go_enter Tryz.func35, Tryz.ntmps35
  go_wp2_with fail
  go_ret
  exact ⟨str_ret HS.out.symm, (Chg.refl _ _).alloc _⟩
set_option maxRecDepth 100000 in
set_option maxHeartbeats 1000000 in
theorem formatNumber_spec_nat : ∀ (f : Nat) (m : Int) (w : World), 0 ≤ m → m ≤ 9223372036854775807 → m.toNat ≤ f →
    Calls Tryz.prog 35 #[.int .i64 m] w (StrPost (digT m) w) := by
  intro f
  induction f with
  | zero =>
    intro m w h0 h1 hf
    exact formatNumber_spec_small m w h0 (by omega)
  | succ f ih =>
    intro m w h0 h1 hf
    by_cases hm : m ≤ 9
    · exact formatNumber_spec_small m w h0 hm
    have hce : ∀ i, i < 1 → (w.alloc (.cells #[.int .u8 (48 + m % 10)] 5)).cell? ⟨w.heap.size, 0 + i, none⟩ = some (.int .u8 ([48 + m % 10].getD i 0)) := by
      intro i hi
      obtain rfl : i = 0 := by omega
      rw [Nat.zero_add, World.cell?_alloc_mark]
      rfl
    have hcv := run_convert_bytes_arg (P := Tryz.prog) (w.alloc (.cells #[.int .u8 (48 + m % 10)] 5)) 64 5 Tryz.underlying64 Tryz.underlying5 w.heap.size 0 1 1 [48 + m % 10] rfl hce 9 Tryz.underlying9
    clear hce
    have IH := Lib.hid (fun W => ih (m / 10) W (by omega) (by omega) (by omega))
    have HS := Lib.hid (digT_step (m := m) (by omega))
    have hd1 : (digT (m / 10)).size ≤ 1048576 := digT_size20 (by omega)
    obtain ⟨d, hd⟩ : ∃ d, d = strOfNums [48 + m % 10] := ⟨_, rfl⟩
    have hsz : (strOfNums [48 + m % 10]).size = 1 := strOfNums_size _
    rw [← hd] at hcv hsz
    have HD := Lib.hid hd
    have hdl : d.size ≤ 1 := by omega
    clear hd hsz ih
    go_enter Tryz.func35, Tryz.ntmps35
    go_wp2_with fail
    refine (IH.out _).mono ?_
    rintro e w1 ⟨rfl, c1⟩
    go_wp2_with fail
    go_ret
    exact ⟨str_ret (by rw [HS.out, HD.out]), Chg.trans0 ((Chg.refl _ _).alloc _) c1⟩
set_option maxRecDepth 100000 in
set_option maxHeartbeats 1000000 in
theorem formatNumber_spec_any (n : Int) (w : World) (h0 : -9223372036854775808 ≤ n) (h1 : n ≤ 9223372036854775807) :
    Calls Tryz.prog 35 #[.int .i64 n] w (StrPost (numT n) w) := by
  by_cases hn : 0 ≤ n
  · rw [numT_pos hn]
    exact formatNumber_spec_nat n.toNat n w hn h1 (Nat.le_refl _)
  · by_cases hmin : n = -9223372036854775808
    · subst hmin
      go_enter Tryz.func35, Tryz.ntmps35
      go_wp2_with fail
      go_ret
      exact ⟨str_ret numT_min.symm, Chg.refl _ _⟩
    · have REC := Lib.hid (formatNumber_spec_nat (-n).toNat (-n) w (by omega) (by omega) (Nat.le_refl _))
      have HS := Lib.hid (numT_neg (n := n) (by omega))
      have hd1 : (digT (-n)).size ≤ 1048576 := digT_size20 (by omega)
      go_enter Tryz.func35, Tryz.ntmps35
      go_wp2_with fail
      refine REC.out.mono ?_
      rintro e w1 ⟨rfl, c1⟩
      go_wp2_with fail
      go_ret
      exact ⟨str_ret HS.out.symm, c1⟩
end Go.Proofs.YtgnggiibhkphjaaGreatDoor
