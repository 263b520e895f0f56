/- FnPlanText: for all bytes, the law returns true and the bytes, the words and the names of the abilities read as before. Conditions: none beyond the row's own; the card ties the listed tables and variables to the program's text. -/
import Derived.Test.YtkgffhlpcjjobaaGreatDoorFrames
import Derived.Test.YtkgffhlpcjjobaaGreatDoorLawPlanText
import Derived.Test.YtkgffhlpcjjobaaGreatDoorEnvOf
import Derived.Test.YtkgffhlpcjjobaaGreatDoorTie
import Derived.Test.YtkgffhlpcjjobaaGreatDoorCards
import Derived.LaidMore
import Derived.Lay
import Derived.SevenTiedAt
import Derived.OpenShut
namespace Go.Proofs.YtkgffhlpcjjobaaGreatDoor
open Go.ChangeShapes Go.WideShapes Go.ChangeAt Go.RowKit

theorem abil_global : Tryz.prog.globalNamed "loop.example/g03016/impl.abilityNames" = some 1 := by kernel_rfl
def abilBytes : List (List UInt8) := [[114, 117, 110], [107, 101, 101, 112], [116, 101, 108, 108], [104, 101, 97, 114], [115, 97, 118, 101], [104, 101, 97, 108]]
theorem abilAt_of {W : World} (h : W.var? Tryz.prog "loop.example/g03016/impl.abilityNames" = some (abilBytes.map fun z => Value.string ⟨z.toArray⟩).toArray) : AbilAt W := by
  have hc : ∀ k : Fin 6, W.cell? ⟨1, k, none⟩ = some (.string (abilAt k)) := by
    intro k
    rw [World.var?_cell abil_global h k]
    match k with
    | ⟨0, _⟩ | ⟨1, _⟩ | ⟨2, _⟩ | ⟨3, _⟩ | ⟨4, _⟩ | ⟨5, _⟩ => rfl
  exact ⟨lt_of_cell (hc 0), hc⟩
theorem words_global : Tryz.prog.globalNamed "loop.example/g03016/impl.planWords" = some 0 := by kernel_rfl
def wordBytes : List (List UInt8) := [[], [109, 97, 107, 101], [119, 114, 97, 112], [117, 110, 119, 114, 97, 112], [99, 111, 112, 121], [100, 114, 111, 112], [97, 115, 107], [99, 97, 108, 108], [105, 102], [108, 111, 111, 112], [116, 114, 121]]
theorem wordsAt_of {W : World} (h : W.var? Tryz.prog "loop.example/g03016/impl.planWords" = some (wordBytes.map fun z => Value.string ⟨z.toArray⟩).toArray) : WordsAt W := by
  have hc : ∀ k : Fin 11, W.cell? ⟨0, k, none⟩ = some (.string (planWordsL.getD k ⟨#[]⟩)) := by
    intro k
    rw [World.var?_cell words_global h k]
    match k with
    | ⟨0, _⟩ | ⟨1, _⟩ | ⟨2, _⟩ | ⟨3, _⟩ | ⟨4, _⟩ | ⟨5, _⟩ | ⟨6, _⟩ | ⟨7, _⟩ | ⟨8, _⟩ | ⟨9, _⟩ | ⟨10, _⟩ => rfl
  exact ⟨lt_of_cell (hc 0), hc⟩
set_option maxRecDepth 100000 in
theorem planText_lifted (os : Os) (started : os.Started) (H : Type) (enc : TypeId × Value → H) :
    ReturnsInHanded {} Tryz.checked os 3 .any (fun w args => (Rows.fnPlanTextSpec.pre enc Tryz.prog Tryz.f3 Rows.fnPlanTextRow.domain false w args ∧ laidMetH Tryz.prog Rows.fnPlanTextRow.laid w) ∧ sizedMet enc Tryz.prog Tryz.f3 (OpenSpec.ofChange Rows.fnPlanTextSpec) false w args)
      (Rows.fnPlanTextSpec.post enc Tryz.prog Tryz.f3 false true false false) := by
  refine handed_and_shaped (C := Tryz.checked) (X := fun w _ => laidMetH Tryz.prog Rows.fnPlanTextRow.laid w) (fun _ _ _ hh h => h.of_heap hh) Tryz.own started (by kernel_rfl) Tryz.func3
    (ChangeSpec.witness_shaped (enc := enc) (C := Tryz.checked) (os := os) (X := fun w _ => laidMetH Tryz.prog Rows.fnPlanTextRow.laid w) false (World.laidAll Tryz.prog os Rows.fnPlanTextRow.laid) #[.slice none 0 0] 8 (World.laidAll_os _ _ _)
      (World.shaped_of_ZipB (by kernel_rfl) (by kernel_rfl)) (by kernel_rfl) (by kernel_rfl) (by kernel_rfl)
      (by rw [MakeChecks.laidMetH_plain _ _ _ (by kernel_rfl)]; exact laidMet_laidAll _ (by kernel_rfl) (by kernel_rfl))) ?_
  intro W base args ds gs before hval0 hW hX hsh
  have hval : ∀ (j : Nat) t v, Tryz.f3.params[j]? = some t → args[j]? = some v → Value.okWide Tryz.prog W .any base t v := hval0
  have hW' := hW
  obtain ⟨p, q, hA0, hV, rfl, hfz, hnd⟩ := hW
  have hA : DataW.TrodAll enc Tryz.prog W 0 (fun _ => true) true Tryz.f3.params.toList args.toList ds p := hA0
  rw [Tryz.params3] at hA hval
  obtain ⟨v0, d0, rfl, rfl, h0⟩ := trodAll_one hA
  obtain ⟨_, _, _, _, dg0, _, _, _, _, _, dg1, _, rfl, _⟩ := trodVars_two hV
  obtain ⟨l, hfl, rdl⟩ := Opens.arg bytes_opens Tryz.underlying22 (hval 0 22 v0 rfl rfl) h0
  obtain ⟨A, cap, rfl, _, _, hb⟩ := bytes_row rdl
  rw [MakeChecks.laidMetH_plain _ _ _ (by kernel_rfl)] at hX
  have hE : Env W := env_of hsh hX (.tail _ (.tail _ (.head _))) (.tail _ (.tail _ (.tail _ (.tail _ (.tail _ (.head _))))))
  have hab : AbilAt W := abilAt_of (var_of_laid (zs := abilBytes) (l := Rows.fnPlanTextRow.laid) abil_global (show (Tryz.prog.globals[1]?).map (·.type) = some 160 by kernel_rfl) Tryz.underlying160 Tryz.underlying9 (by kernel_rfl) (by kernel_rfl) hX (.tail _ (.tail _ (.tail _ (.tail _ (.tail _ (.tail _ (.head _))))))))
  have hwd : WordsAt W := wordsAt_of (var_of_laid (zs := wordBytes) (l := Rows.fnPlanTextRow.laid) words_global (show (Tryz.prog.globals[0]?).map (·.type) = some 126 by kernel_rfl) Tryz.underlying126 Tryz.underlying9 (by kernel_rfl) (by kernel_rfl) hX (.tail _ (.tail _ (.tail _ (.tail _ (.tail _ (.tail _ (.tail _ (.head _)))))))))
  refine (planText_law A _ cap W ⟨hE, hab, hwd⟩ hb).mono fun e W' ⟨he, hw⟩ => ?_
  subst he
  exact ⟨_, rfl, post_true2 rfl Tryz.underlying4 Tryz.laidOut (by rw [Tryz.params3]; intro t ht; simp at ht; subst ht; exact ⟨by kernel_rfl, of_decide_eq_true (by kernel_rfl)⟩)
    (by
      intro n hn g t hg ht
      have hn2 : n = "loop.example/g03016/impl.planWords" ∨ n = "loop.example/g03016/impl.abilityNames" := by simpa [Rows.fnPlanTextSpec] using hn
      rcases hn2 with rfl | rfl
      · obtain rfl := Option.some.inj (words_global.symm.trans hg)
        obtain rfl := Option.some.inj ((show (Tryz.prog.globals[0]?).map (·.type) = some 126 by kernel_rfl).symm.trans ht)
        exact ⟨by kernel_rfl, of_decide_eq_true (by kernel_rfl)⟩
      · obtain rfl := Option.some.inj (abil_global.symm.trans hg)
        obtain rfl := Option.some.inj ((show (Tryz.prog.globals[1]?).map (·.type) = some 160 by kernel_rfl).symm.trans ht)
        exact ⟨by kernel_rfl, of_decide_eq_true (by kernel_rfl)⟩) hW' rfl hw⟩

theorem planText_row_holds : Rows.FnPlanTextSaid :=
  OpenClaim.holds_of_wide 3 Tryz.f3 rfl rfl rfl rfl rfl rfl rfl ⟨rfl, rfl, rfl, rfl, rfl⟩ rfl rfl rfl rfl rfl (by kernel_rfl) Tryz.func3 (by kernel_rfl)
    (of_decide_eq_true (by kernel_rfl)) (by unfold Func.isWrapper; rw [if_neg (of_decide_eq_false (by kernel_rfl))]; exact ⟨rfl, rfl⟩)
    (fun os started H enc _ => planText_lifted os started H enc)

theorem planText_holds : Rows.FnPlanTextCardSaid :=
  Claim7.holds_tied_plain_at .later [] [.data, .data, .data, .data, .sentinel, .sentinel, .data, .data, .pinned] true _ true planText_row_holds (fun _ h => by cases h) (by kernel_rfl) (fun _ h => by cases h) fnPlanText_row_tie rfl ⟨rfl, rfl⟩ (by kernel_rfl) rfl
    (fun f fn hf hfn => by
      obtain rfl : f = 3 := Option.some.inj ((show Tryz.prog.funcNamed "loop.example/g03016/laws.FnPlanText" = some 3 by kernel_rfl).symm.trans hf) |>.symm
      obtain rfl : fn = Tryz.f3 := (Option.some.inj (Tryz.func3.symm.trans hfn)).symm
      exact ⟨by kernel_rfl, fun j t ht => by
        rw [Tryz.params3] at ht
        have hm : t ∈ [22] := by simpa using Array.mem_of_getElem? ht
        have hall : ([22].all fun u => !Tryz.prog.wantsStandIn u) = true := by kernel_rfl
        exact (show Tryz.prog.wantsStandIn t = false by simpa using List.all_eq_true.1 hall t hm)⟩)
    (by kernel_rfl)
end Go.Proofs.YtkgffhlpcjjobaaGreatDoor
