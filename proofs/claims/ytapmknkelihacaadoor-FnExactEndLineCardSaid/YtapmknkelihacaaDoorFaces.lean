/- Faces: IsFace, Offers of both packages, l2Has. -/
import Derived.Test.YtapmknkelihacaaDoorKinds
namespace Go.Proofs.YtapmknkelihacaaDoor
open Go.RowKit

def IsF (f : Int) : Prop := 0 ≤ f ∧ f ≤ 63
/-- Is ability k in face f? -/
def has (f : Int) (k : Nat) : Bool := f / (2 ^ k : Nat) % 2 == 1
def Offer (f want : Int) : Prop := IsF f ∧ IsF want ∧ ∀ k : Fin 6, has want k = true → has f k = true
instance (f want : Int) : Decidable (Offer f want) := inferInstanceAs (Decidable ((_ ∧ _) ∧ (_ ∧ _) ∧ _))

theorem offer_bits : ∀ f g : Fin 64, (bits .andNot .i64 ((g.1 : Nat) : Int) ((f.1 : Nat) : Int) == 0) = decide (∀ k : Fin 6, has ((g.1 : Nat) : Int) k = true → has ((f.1 : Nat) : Int) k = true) := by decide +kernel

set_option maxRecDepth 100000 in
theorem isFace_spec_any (f : Int) (w : World) :
    Calls Tryd.prog 35 #[.int .i64 f] w (BoolIs (IsF f) w) := by
  go_enter Tryd.func35, Tryd.ntmps35
  go_wp2_with fail
  all_goals (go_ret; refine ⟨_, rfl, ?_, rfl⟩; unfold IsF; simp; try omega)
set_option maxRecDepth 100000 in
theorem isFace_impl_any (f : Int) (w : World) :
    Calls Tryd.prog 58 #[.int .i64 f] w (BoolIs (IsF f) w) := by
  go_enter Tryd.func58, Tryd.ntmps58
  go_wp2_with fail
  all_goals (go_ret; refine ⟨_, rfl, ?_, rfl⟩; unfold IsF; simp; try omega)
set_option maxRecDepth 100000 in
theorem l2Has_any (f : Int) (k : Nat) (w : World) (hf : IsF f) (hk : k < 6) :
    Calls Tryd.prog 36 #[.int .i64 f, .int .i64 k] w (BoolIs (has f k = true) w) := by
  obtain ⟨h0, h1⟩ := hf
  obtain rfl | rfl | rfl | rfl | rfl | rfl : k = 0 ∨ k = 1 ∨ k = 2 ∨ k = 3 ∨ k = 4 ∨ k = 5 := by omega
  all_goals
    go_enter Tryd.func36, Tryd.ntmps36
    go_wp2_with fail
    all_goals (go_ret; refine ⟨_, rfl, ?_, rfl⟩; unfold has; simp)
set_option maxRecDepth 100000 in
theorem offers_impl_any (f want : Int) (w : World) :
    Calls Tryd.prog 74 #[.int .i64 f, .int .i64 want] w (BoolIs (Offer f want) w) := by
  go_enter Tryd.func74, Tryd.ntmps74
  go_wp2_with fail
  refine (isFace_impl_any f w).mono ?_
  rintro e w1 ⟨t, rfl, ht, rfl⟩
  have HT := Lib.hid ht
  clear ht
  cases t
  · go_wp2_with fail
    go_ret
    refine ⟨_, rfl, ⟨fun h => by simp at h, fun h => ?_⟩, rfl⟩
    have := HT.out.2 h.1; simp at this
  · go_wp2_with fail
    refine (isFace_impl_any want w1).mono ?_
    rintro e w2 ⟨t, rfl, ht2, rfl⟩
    have HT2 := Lib.hid ht2
    clear ht2
    cases t
    · go_wp2_with fail
      go_ret
      refine ⟨_, rfl, ⟨fun h => by simp at h, fun h => ?_⟩, rfl⟩
      have := HT2.out.2 h.2.1; simp at this
    · obtain ⟨f0, f1⟩ := HT.out.1 (by simp)
      obtain ⟨g0, g1⟩ := HT2.out.1 (by simp)
      go_wp2_with fail
      go_ret
      refine ⟨_, rfl, ?_, rfl⟩
      have := offer_bits ⟨f.toNat, by omega⟩ ⟨want.toNat, by omega⟩
      simp only [Int.toNat_of_nonneg f0, Int.toNat_of_nonneg g0] at this
      rw [this]
      unfold Offer IsF
      simp only [decide_eq_true_eq]
      exact ⟨fun h => ⟨⟨f0, f1⟩, ⟨g0, g1⟩, h⟩, fun h => h.2.2⟩
set_option maxRecDepth 100000 in
theorem offers_spec_any (f want : Int) (w : World) :
    Calls Tryd.prog 68 #[.int .i64 f, .int .i64 want] w (BoolIs (Offer f want) w) := by
  go_enter Tryd.func68, Tryd.ntmps68
  go_wp2_with fail
  refine (isFace_spec_any f w).mono ?_
  rintro e w1 ⟨t, rfl, ht, rfl⟩
  have HT := Lib.hid ht
  clear ht
  cases t
  · go_wp2_with fail
    go_ret
    refine ⟨_, rfl, ⟨fun h => by simp at h, fun h => ?_⟩, rfl⟩
    have := HT.out.2 h.1; simp at this
  · go_wp2_with fail
    refine (isFace_spec_any want w1).mono ?_
    rintro e w2 ⟨t, rfl, ht2, rfl⟩
    have HT2 := Lib.hid ht2
    clear ht2
    cases t
    · go_wp2_with fail
      go_ret
      refine ⟨_, rfl, ⟨fun h => by simp at h, fun h => ?_⟩, rfl⟩
      have := HT2.out.2 h.2.1; simp at this
    · have hf := Lib.hid (HT.out.1 (by simp))
      have hw := Lib.hid (HT2.out.1 (by simp))
      go_wp2_with fail
      go_loopw [5] (fun i wr => ∃ k : Nat, k ≤ 6 ∧ i = .int .i64 k ∧ (∀ j, j < k → has want j = true → has f j = true) ∧ Still w2 wr) (fun i _ => 6 - (intOf i).toNat)
      case atStart => exact ⟨0, by omega, rfl, fun j h => absurd h (Nat.not_lt_zero _), rfl⟩
      case round =>
        obtain ⟨k, hk, rfl, HN, rfl⟩ := hrel
        have HN := Lib.hid HN
        by_cases hlt : k < 6
        · go_wp2_with fail
          refine (l2Has_any want k _ hw.out hlt).mono ?_
          rintro e w3 ⟨t, rfl, ht3, rfl⟩
          have HT3 := Lib.hid ht3
          clear ht3
          cases t
          · go_wp2_with fail
            go_roundw
            case rel => exact ⟨k + 1, by omega, by go_num, fun j hj hj2 => (Nat.lt_succ_iff_lt_or_eq.1 hj).elim (fun h => HN.out j h hj2) (fun e => by subst e; have := HT3.out.2 hj2; simp at this), rfl⟩
            case measure => simp [intOf]; omega
          · go_wp2_with fail
            refine (l2Has_any f k _ hf.out hlt).mono ?_
            rintro e w4 ⟨t, rfl, ht4, rfl⟩
            have HT4 := Lib.hid ht4
            clear ht4
            cases t
            · go_wp2_with fail
              go_ret
              refine ⟨_, rfl, ⟨fun h => by simp at h, fun h => ?_⟩, rfl⟩
              have := HT4.out.2 (h.2.2 ⟨k, hlt⟩ (HT3.out.1 (by simp))); simp at this
            · go_wp2_with fail
              go_roundw
              case rel => exact ⟨k + 1, by omega, by go_num, fun j hj hj2 => (Nat.lt_succ_iff_lt_or_eq.1 hj).elim (fun h => HN.out j h hj2) (fun e => by subst e; exact HT4.out.1 (by simp)), rfl⟩
              case measure => simp [intOf]; omega
        · obtain rfl : k = 6 := by omega
          go_wp2_with fail
          go_ret
          exact ⟨_, rfl, ⟨fun _ => ⟨hf.out, hw.out, fun j hj => HN.out j j.2 hj⟩, fun _ => rfl⟩, rfl⟩
end Go.Proofs.YtapmknkelihacaaDoor
