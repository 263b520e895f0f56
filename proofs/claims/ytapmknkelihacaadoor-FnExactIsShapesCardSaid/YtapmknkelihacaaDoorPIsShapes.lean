/- FnExactIsShapes: for all arguments that can be read as data, the law returns true and its arguments read as before. Conditions: none beyond the row's own; the card ties the two listed tables to the program's text (neither is read on the way). -/
import Derived.Test.YtapmknkelihacaaDoorFrame
import Derived.Test.YtapmknkelihacaaDoorStrs
import Derived.Test.YtapmknkelihacaaDoorHandAS
import Derived.Test.YtapmknkelihacaaDoorLawIsShapes
import Derived.Test.YtapmknkelihacaaDoorTie
import Derived.Test.YtapmknkelihacaaDoorCards
import Derived.LaidMore
import Derived.Lay
import Derived.SevenTiedAt
namespace Go.Proofs.YtapmknkelihacaaDoor
open Go.ChangeShapes Go.WideShapes Go.ChangeAt Go.RowKit

theorem isShapes_str_ocells : Tryd.prog.cellsOf 9 = 1 := by kernel_rfl
theorem isShapes_opens (N : Nat) : Opens Tryd.prog N 22 (listF strC) :=
  Opens.mono (Opens.slice (F := strC) Tryd.underlying22 isShapes_str_ocells (by omega) strC_len (Opens.string (N := N) Tryd.underlying9)) (by omega)
set_option maxRecDepth 100000 in
theorem isShapes_lifted (os : Os) (started : os.Started) (H : Type) (enc : TypeId × Value → H) :
    ReturnsInHanded {} Tryd.checked os 3 .any (fun w args => (Rows.fnExactIsShapesSpec.pre enc Tryd.prog Tryd.f3 Rows.fnExactIsShapesRow.domain false w args ∧ laidMetH Tryd.prog Rows.fnExactIsShapesRow.laid w) ∧ sizedMet enc Tryd.prog Tryd.f3 (OpenSpec.ofChange Rows.fnExactIsShapesSpec) false w args)
      (Rows.fnExactIsShapesSpec.post enc Tryd.prog Tryd.f3 false true false false) := by
  refine handed_and_shaped (C := Tryd.checked) (X := fun w _ => laidMetH Tryd.prog Rows.fnExactIsShapesRow.laid w) (fun _ _ _ hh h => h.of_heap hh) Tryd.own started (by kernel_rfl) Tryd.func3
    (ChangeSpec.witness_shaped (enc := enc) (C := Tryd.checked) (os := os) (X := fun w _ => laidMetH Tryd.prog Rows.fnExactIsShapesRow.laid w) false (World.laidAll Tryd.prog os Rows.fnExactIsShapesRow.laid) #[.slice none 0 0] 8 (World.laidAll_os _ _ _)
      (World.shaped_of_ZipB (by kernel_rfl) (by kernel_rfl)) (by kernel_rfl) (by kernel_rfl) (by kernel_rfl)
      (by rw [MakeChecks.laidMetH_plain _ _ _ (by kernel_rfl)]; exact laidMet_laidAll _ (by kernel_rfl) (by kernel_rfl))) ?_
  intro W base args ds gs before hval0 hW _ hsh
  have hval : ∀ (j : Nat) t v, Tryd.f3.params[j]? = some t → args[j]? = some v → Value.okWide Tryd.prog W .any base t v := hval0
  have hW' := hW
  obtain ⟨p, q, hA0, hV, rfl, hfz, hnd⟩ := hW
  have hA : DataW.TrodAll enc Tryd.prog W 0 (fun _ => true) true Tryd.f3.params.toList args.toList ds p := hA0
  rw [Tryd.params3] at hA hval
  obtain ⟨v0, d0, rfl, rfl, h0⟩ := trodAll_one hA
  obtain ⟨rfl, rfl⟩ := trodVars_none hV
  obtain ⟨l, hfl, rdl⟩ := Opens.arg isShapes_opens Tryd.underlying22 (hval 0 22 v0 rfl rfl) h0
  obtain ⟨m, hm⟩ := Tryd.laysM143.s1_3 W hsh
  refine (isShapes_law l _ _ W hfl rdl (Nat.le_refl _) m hm (lt_of_cell hm)).mono fun e W' ⟨he, hw⟩ => ?_
  subst he
  exact ⟨_, rfl, post_true rfl rfl Tryd.underlying4 Tryd.laidOut (by rw [Tryd.params3]; intro t ht; simp at ht; subst ht; exact ⟨by kernel_rfl, of_decide_eq_true (by kernel_rfl)⟩) hW' rfl hw⟩

theorem isShapes_row_holds : Rows.FnExactIsShapesSaid :=
  OpenClaim.holds_of_wide 3 Tryd.f3 rfl rfl rfl rfl rfl rfl rfl ⟨rfl, rfl, rfl, rfl, rfl⟩ rfl rfl rfl rfl rfl (by kernel_rfl) Tryd.func3 (by kernel_rfl)
    (of_decide_eq_true (by kernel_rfl)) (by unfold Func.isWrapper; rw [if_neg (of_decide_eq_false (by kernel_rfl))]; exact ⟨rfl, rfl⟩)
    (fun os started H enc _ => isShapes_lifted os started H enc)

theorem isShapes_holds : Rows.FnExactIsShapesCardSaid :=
  Claim7.holds_tied_plain_at .later [] [.data, .pinned] true _ false isShapes_row_holds (fun _ h => by cases h) (by kernel_rfl) (fun _ h => by cases h) fnExactIsShapes_row_tie rfl ⟨rfl, rfl⟩ (by kernel_rfl) rfl
    (fun f fn hf hfn => by
      obtain rfl : f = 3 := Option.some.inj ((show Tryd.prog.funcNamed "loop.example/g03016/laws.FnExactIsShapes" = some 3 by kernel_rfl).symm.trans hf) |>.symm
      obtain rfl : fn = Tryd.f3 := (Option.some.inj (Tryd.func3.symm.trans hfn)).symm
      exact ⟨by kernel_rfl, fun j t ht => by
        rw [Tryd.params3] at ht
        have hm : t ∈ [22] := by simpa using Array.mem_of_getElem? ht
        have hall : ([22].all fun u => !Tryd.prog.wantsStandIn u) = true := by kernel_rfl
        exact (show Tryd.prog.wantsStandIn t = false by simpa using List.all_eq_true.1 hall t hm)⟩)
    (by kernel_rfl)
end Go.Proofs.YtapmknkelihacaaDoor
