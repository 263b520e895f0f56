/- markText: a text that depends on the number alone. Conditions: the number is at most 100000000. -/
import Derived.Test.YtaegngbedeggbaaInts
import Derived.Laws.BytesArg
namespace Go.Proofs.Ytaegngbedeggbaa
open Go.RowKit

/-- The digits in front of a text. -/
def mtL : Nat → Int → ByteArray → ByteArray
  | 0, _, s => s
  | f + 1, n, s => if 0 < n then mtL f (n / 10) (strOfNums [48 + n % 10] ++ s) else s
/-- The text of a number. -/
def mt (k : Int) : ByteArray := if k ≤ 0 then ⟨#[109, 48]⟩ else ⟨#[109]⟩ ++ mtL k.toNat k ⟨#[]⟩

theorem ret_str {a b : ByteArray} (h : a = b) : Ending.returned (.string a) = .returned (.string b) := by rw [h]

set_option maxRecDepth 100000 in
set_option maxHeartbeats 400000 in
theorem markText_any (k : Int) (w : World) (h : k ≤ 100000000) :
    Calls Try.prog 44 #[.int .i64 k] w fun e w' => e = .returned (.string (mt k)) ∧ Chg [] w w' := by
  by_cases h0 : k ≤ 0
  · go_enter Try.func44, Try.ntmps44
    go_wp2_with fail
    go_ret
    exact ⟨ret_str (by rw [mt, if_pos h0]), Chg.refl _ _⟩
  · have hm0 : Hid (mt k = ⟨#[109]⟩ ++ mtL k.toNat k ⟨#[]⟩) := by show mt k = _; rw [mt, if_neg h0]
    go_enter Try.func44, Try.ntmps44
    go_wp2_with fail
    go_loopw [0, 3] (fun n s wr => ∃ (m : Int) (t : ByteArray) (f : Nat), n = .int .i64 m ∧ s = .string t ∧ 0 ≤ m ∧ m ≤ 100000000 ∧ Chg [] w wr ∧ m + t.size ≤ 100000000 ∧ m ≤ f ∧ Hid (mt k = ⟨#[109]⟩ ++ mtL f m t)) (fun n _ _ => (intOf n).toNat)
    case atStart => exact ⟨k, _, k.toNat, rfl, rfl, by omega, by omega, Chg.refl _ _, by show k + ((0 : Nat) : Int) ≤ _; omega, by omega, hm0⟩
    case round =>
      obtain ⟨m, t, f, rfl, rfl, m0, m1, hc, ht, hf, hq⟩ := hrel
      by_cases hm : 0 < m
      · have hce : ∀ i, i < 1 → (wr.alloc (.cells #[.int .u8 (48 + m % 10)] 5)).cell? ⟨wr.heap.size, 0 + i, none⟩ = some (.int .u8 ([48 + m % 10].getD i 0)) := by
          intro i hi
          obtain rfl : i = 0 := by omega
          rw [Nat.zero_add, World.cell?_alloc_mark]
          rfl
        have hcv := run_convert_bytes_arg (P := Try.prog) (wr.alloc (.cells #[.int .u8 (48 + m % 10)] 5)) 29 5 Try.underlying29 Try.underlying5 wr.heap.size 0 1 1 [48 + m % 10] rfl hce 9 Try.underlying9
        clear hce
        have hsz : (strOfNums [48 + m % 10]).size = 1 := strOfNums_size _
        obtain ⟨d, hd⟩ : ∃ d, d = strOfNums [48 + m % 10] := ⟨_, rfl⟩
        rw [← hd] at hcv hsz
        have HD := Lib.hid hd
        have hsz1 : d.size ≤ 1 := by omega
        have HS := Lib.hid hsz
        clear hd hsz
        go_wp2_with fail
        go_roundw
        case rel =>
          refine ⟨m / 10, d ++ t, f - 1, rfl, rfl, by omega, by omega, hc.alloc _, ?_, by omega, ?_⟩
          · rw [ByteArray.size_append, HS.out]; omega
          · obtain ⟨f', rfl⟩ : ∃ f', f = f' + 1 := ⟨f - 1, by omega⟩
            show mt k = _
            rw [hq.out, mtL, if_pos hm, ← HD.out]
            rfl
        case measure => simp [intOf]; omega
      · go_wp2_with fail
        go_ret
        refine ⟨ret_str ?_, hc⟩
        rw [hq.out]
        cases f with
        | zero => rfl
        | succ f => rw [mtL, if_neg (by omega)]

end Go.Proofs.Ytaegngbedeggbaa
