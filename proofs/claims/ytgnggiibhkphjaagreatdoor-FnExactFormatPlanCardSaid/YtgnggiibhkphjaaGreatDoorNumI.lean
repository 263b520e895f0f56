/- The text of a number in the program: FormatNumber by strconv.Itoa (the shelf's contract). Conditions: the table of powers of ten reads as it is laid. -/
import Derived.Test.YtgnggiibhkphjaaGreatDoorNumT
import Derived.Test.YtgnggiibhkphjaaGreatDoorShItoa
namespace Go.Proofs.YtgnggiibhkphjaaGreatDoor
open Go.RowKit

theorem Chg.grow (w : World) (k : Nat) (os : Array Obj) : Chg [] w (Go.Sort.grow (w.drewN k) os) :=
  ⟨rfl, rfl, rfl, by simp [Go.Sort.grow, World.drewN], fun i hi _ => by
    simp [Go.Sort.grow, Array.getElem?_append_left hi]⟩
/-- The table of powers of ten stands in its variable. -/
def PowAt (w : World) : Prop := 5 < w.heap.size ∧ Lib.TabIs Tryz.prog w "internal/strconv.uint64pow10" .u64 Lib.pow10Tab
theorem pow_global : Tryz.prog.globalNamed "internal/strconv.uint64pow10" = some 5 := by kernel_rfl
theorem PowAt.keep {w w' : World} (h : PowAt w) (hc : Chg [] w w') : PowAt w' := by
  refine ⟨Nat.lt_of_lt_of_le h.1 hc.size, ?_⟩
  have h2 := h.2
  unfold Lib.TabIs World.var? at h2 ⊢
  rw [pow_global] at h2 ⊢
  simp only [Option.bind_some] at h2 ⊢
  rw [hc.block _ h.1 (by simp)]
  exact h2
theorem PowAt.of {w : World} (h : Lib.TabIs Tryz.prog w "internal/strconv.uint64pow10" .u64 Lib.pow10Tab) : PowAt w := by
  refine ⟨?_, h⟩
  unfold Lib.TabIs World.var? at h
  rw [pow_global] at h
  simp only [Option.bind_some] at h
  split at h
  · rename_i hh; exact (Array.getElem?_eq_some_iff.1 hh).1
  · cases h
set_option maxRecDepth 100000 in
theorem formatNumber_impl_any (n : Int) (w : World) (h0 : -9223372036854775808 ≤ n) (h1 : n ≤ 9223372036854775807) (hp : PowAt w) :
    Calls Tryz.prog 57 #[.int .i64 n] w (StrPost (numT n) w) := by
  have IT := Lib.hid (Tryz.strconv_Itoa n h0 h1 w hp.2)
  go_enter Tryz.func57, Tryz.ntmps57
  go_wp2_with fail
  refine IT.out.mono ?_
  rintro e w1 ⟨rfl, k, os, rfl⟩
  go_wp2_with fail
  go_ret
  exact ⟨rfl, Chg.grow _ _ _⟩
end Go.Proofs.YtgnggiibhkphjaaGreatDoor
