/- big: whether a code is too long. Conditions: none. -/
import Derived.Test.YtkgffhlpcjjobaaGreatDoorPlan
namespace Go.Proofs.YtkgffhlpcjjobaaGreatDoor
open Go.RowKit

set_option maxRecDepth 100000 in
theorem big_no (A : Option Addr) (n cap : Nat) (w : World) (h : n ≤ 4096) : Calls Tryz.prog 8 #[.slice A n cap] w fun e w' => e = .returned (.bool false) ∧ w' = w := by
  have h2 : ¬ (4096 : Int) < (n : Int) := by omega
  go_enter Tryz.func8, Tryz.ntmps8
  go_wp2_with fail
  go_ret
  exact ⟨rfl, rfl⟩
set_option maxRecDepth 100000 in
theorem big_yes (A : Option Addr) (n cap : Nat) (w : World) (h : ¬ n ≤ 4096) : Calls Tryz.prog 8 #[.slice A n cap] w fun e w' => e = .returned (.bool true) ∧ w' = w := by
  have h2 : (4096 : Int) < (n : Int) := by omega
  go_enter Tryz.func8, Tryz.ntmps8
  go_wp2_with fail
  go_ret
  exact ⟨rfl, rfl⟩
end Go.Proofs.YtkgffhlpcjjobaaGreatDoor
