/- Faces: IsFace, Offers of both packages, l2Has. -/
import Derived.Test.YtgnggiibhkphjaaGreatDoorKinds
namespace Go.Proofs.YtgnggiibhkphjaaGreatDoor
open Go.RowKit

def IsF (f : Int) : Prop := 0 ≤ f ∧ f ≤ 63
/-- Is ability k in face f? -/
def has (f : Int) (k : Nat) : Bool := f / (2 ^ k : Nat) % 2 == 1
def Offer (f want : Int) : Prop := IsF f ∧ IsF want ∧ ∀ k : Fin 6, has want k = true → has f k = true
instance (f want : Int) : Decidable (Offer f want) := inferInstanceAs (Decidable ((_ ∧ _) ∧ (_ ∧ _) ∧ _))

theorem offer_bits : ∀ f g : Fin 64, (bits .andNot .i64 ((g.1 : Nat) : Int) ((f.1 : Nat) : Int) == 0) = decide (∀ k : Fin 6, has ((g.1 : Nat) : Int) k = true → has ((f.1 : Nat) : Int) k = true) := by decide +kernel

set_option maxRecDepth 100000 in
theorem isFace_spec_any (f : Int) (w : World) :
    Calls Tryz.prog 45 #[.int .i64 f] w (BoolIs (IsF f) w) := by
  go_enter Tryz.func45, Tryz.ntmps45
  go_wp2_with fail
  all_goals (go_ret; refine ⟨_, rfl, ?_, rfl⟩; unfold IsF; simp; try omega)
set_option maxRecDepth 100000 in
theorem isFace_impl_any (f : Int) (w : World) :
    Calls Tryz.prog 51 #[.int .i64 f] w (BoolIs (IsF f) w) := by
  go_enter Tryz.func51, Tryz.ntmps51
  go_wp2_with fail
  all_goals (go_ret; refine ⟨_, rfl, ?_, rfl⟩; unfold IsF; simp; try omega)
set_option maxRecDepth 100000 in
theorem l2Has_any (f : Int) (k : Nat) (w : World) (hf : IsF f) (hk : k < 6) :
    Calls Tryz.prog 54 #[.int .i64 f, .int .i64 k] w (BoolIs (has f k = true) w) := by
  obtain ⟨h0, h1⟩ := hf
  obtain rfl | rfl | rfl | rfl | rfl | rfl : k = 0 ∨ k = 1 ∨ k = 2 ∨ k = 3 ∨ k = 4 ∨ k = 5 := by omega
  all_goals
    go_enter Tryz.func54, Tryz.ntmps54
    go_wp2_with fail
    all_goals (go_ret; refine ⟨_, rfl, ?_, rfl⟩; unfold has; simp)
end Go.Proofs.YtgnggiibhkphjaaGreatDoor
