/- FnExactCompareInputs: for all arguments that can be read as data, the law returns true and its arguments read as before. Conditions: none beyond the row's own. -/
import Derived.Test.YtnkkpmdlcekhhaaFrame
import Derived.Test.YtnkkpmdlcekhhaaOpen
import Derived.Test.YtnkkpmdlcekhhaaCmpLaw
namespace Go.Proofs.Ytnkkpmdlcekhhaa
open Go.ChangeShapes Go.WideShapes Go.ChangeAt Go.RowKit

theorem Try.cells3 : Try.prog.cellsOf 3 = 1 := by kernel_rfl
theorem ints_opens (N : Nat) : Opens Try.prog N 22 (listF intC) :=
  Opens.mono (Opens.slice (F := intC) Try.underlying22 Try.cells3 (by omega) intC_len (Opens.int (N := N) Try.underlying3)) (by omega)

set_option maxRecDepth 100000 in
theorem compareInputs_lifted (os : Os) (started : os.Started) (H : Type) (enc : TypeId × Value → H) :
    ReturnsInHanded {} Try.checked os 3 .any (Rows.fnExactCompareInputsSpec.pre6 enc Try.prog Try.f3 Rows.fnExactCompareInputsRow.domain false) (Rows.fnExactCompareInputsSpec.post enc Try.prog Try.f3 false true false false) := by
  refine returnsInHanded_of_change (C := Try.checked) Try.own started (by kernel_rfl) Try.func3
    (ChangeSpec.witness6 (enc := enc) (C := Try.checked) false ⟨#[], #[.slice none 0 0, .slice none 0 0], []⟩ 8 (by kernel_rfl) (by kernel_rfl) (by kernel_rfl) (by kernel_rfl)) ?_
  intro W base args ds gs before hval0 hW hcnd _
  have hval : ∀ (j : Nat) t v, Try.f3.params[j]? = some t → args[j]? = some v → Value.okWide Try.prog W .any base t v := hval0
  have hW' := hW
  obtain ⟨p, q, hA0, hV, rfl, hfz, hnd⟩ := hW
  have hA : DataW.TrodAll enc Try.prog W 0 (fun _ => true) true Try.f3.params.toList args.toList ds p := hA0
  rw [Try.params3] at hA hval
  obtain ⟨v0, v1, d0, d1, p0, p1, rfl, rfl, rfl, h0, h1⟩ := trodAll_two hA
  obtain ⟨rfl, rfl⟩ := trodVars_none hV
  obtain ⟨l, _, rl⟩ := Opens.arg ints_opens Try.underlying22 (hval 0 22 v0 rfl rfl) h0
  obtain ⟨m, _, rm⟩ := Opens.arg ints_opens Try.underlying22 (hval 1 22 v1 rfl rfl) h1
  refine (compareInputs_law l m v0 v1 _ W rl rm (Nat.le_refl _)).mono fun e W' ⟨he, hw⟩ => ?_
  subst he
  exact ⟨_, rfl, post_true rfl rfl Try.underlying4 Try.laidOut (by rw [Try.params3]; intro t ht; simp at ht; subst ht; exact ⟨by kernel_rfl, of_decide_eq_true (by kernel_rfl)⟩) hW' rfl hw⟩

theorem compareInputs_holds : Rows.FnExactCompareInputsSaid :=
  OpenClaim.holds_of_wide 3 Try.f3 rfl rfl rfl rfl rfl rfl rfl ⟨rfl, rfl, rfl, rfl, rfl⟩ rfl rfl rfl rfl rfl (by kernel_rfl) Try.func3 (by kernel_rfl)
    (of_decide_eq_true (by kernel_rfl)) (by unfold Func.isWrapper; rw [if_neg (of_decide_eq_false (by kernel_rfl))]; exact ⟨rfl, rfl⟩)
    (fun os started H enc _ => compareInputs_lifted os started H enc)

end Go.Proofs.Ytnkkpmdlcekhhaa
