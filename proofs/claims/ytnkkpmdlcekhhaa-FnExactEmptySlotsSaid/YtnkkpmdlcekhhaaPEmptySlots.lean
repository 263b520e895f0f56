/- FnExactEmptySlots: for all arguments that can be read as data, the law returns true and its arguments read as before. Conditions: none beyond the row's own. Written by a program. -/
import Derived.Test.YtnkkpmdlcekhhaaFrame
import Derived.Test.YtnkkpmdlcekhhaaOpens
import Derived.Test.YtnkkpmdlcekhhaaLawEmptySlots
namespace Go.Proofs.Ytnkkpmdlcekhhaa
open Go.ChangeShapes Go.WideShapes Go.ChangeAt Go.RowKit

set_option maxRecDepth 100000 in
theorem emptySlots_lifted (os : Os) (started : os.Started) (H : Type) (enc : TypeId × Value → H) :
    ReturnsInHanded {} Try.checked os 6 .any (Rows.fnExactEmptySlotsSpec.pre6 enc Try.prog Try.f6 Rows.fnExactEmptySlotsRow.domain false) (Rows.fnExactEmptySlotsSpec.post enc Try.prog Try.f6 false true false false) := by
  refine returnsInHanded_of_change (C := Try.checked) Try.own started (by kernel_rfl) Try.func6
    (ChangeSpec.witness6 (enc := enc) (C := Try.checked) false ⟨#[], #[], []⟩ 8 (by kernel_rfl) (by kernel_rfl) (by kernel_rfl) (by kernel_rfl)) ?_
  intro W base args ds gs before hval0 hW hcnd _
  have hval : ∀ (j : Nat) t v, Try.f6.params[j]? = some t → args[j]? = some v → Value.okWide Try.prog W .any base t v := hval0
  have hW' := hW
  obtain ⟨p, q, hA0, hV, rfl, hfz, hnd⟩ := hW
  have hA : DataW.TrodAll enc Try.prog W 0 (fun _ => true) true Try.f6.params.toList args.toList ds p := hA0
  rw [Try.params6] at hA hval
  obtain ⟨rfl, rfl, rfl⟩ := trodAll_none hA
  obtain ⟨rfl, rfl⟩ := trodVars_none hV
  refine (emptySlots_law W).mono fun e W' ⟨he, hw⟩ => ?_
  subst he
  exact ⟨_, rfl, post_true rfl rfl Try.underlying4 Try.laidOut (by rw [Try.params6]; intro t ht; simp at ht) hW' rfl hw⟩

theorem emptySlots_holds : Rows.FnExactEmptySlotsSaid :=
  OpenClaim.holds_of_wide 6 Try.f6 rfl rfl rfl rfl rfl rfl rfl ⟨rfl, rfl, rfl, rfl, rfl⟩ rfl rfl rfl rfl rfl (by kernel_rfl) Try.func6 (by kernel_rfl)
    (of_decide_eq_true (by kernel_rfl)) (by unfold Func.isWrapper; rw [if_neg (of_decide_eq_false (by kernel_rfl))]; exact ⟨rfl, rfl⟩)
    (fun os started H enc _ => emptySlots_lifted os started H enc)

end Go.Proofs.Ytnkkpmdlcekhhaa
