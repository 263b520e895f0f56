/- FnExactEndLine: for all arguments that can be read as data, the law returns true and its arguments (and the names of the abilities) read as before. Conditions: none beyond the row's own; the card ties the listed tables to the program's text. -/
import Derived.Test.YtapmknkelihacaaDoorFrame2
import Derived.Test.YtapmknkelihacaaDoorOpenS
import Derived.Test.YtapmknkelihacaaDoorHandAS
import Derived.Test.YtapmknkelihacaaDoorOpens
import Derived.Test.YtapmknkelihacaaDoorLawEndLine
import Derived.Test.YtapmknkelihacaaDoorTie
import Derived.Test.YtapmknkelihacaaDoorCards
import Derived.LaidMore
import Derived.Lay
import Derived.SevenTiedAt
namespace Go.Proofs.YtapmknkelihacaaDoor
open Go.ChangeShapes Go.WideShapes Go.ChangeAt Go.RowKit

set_option maxRecDepth 100000 in
theorem end_opens (N : Nat) : Opens Tryd.prog N 28 endF :=
  Opens.mono (Opens.map (Opens.struct (N := N) Tryd.underlying28 (by kernel_rfl) (OpensFs.cons (c := 1) rfl (by kernel_rfl) (Opens.int (N := N) Tryd.underlying3) (OpensFs.cons (c := 1) rfl (by kernel_rfl) (Opens.int (N := N) Tryd.underlying3) (OpensFs.cons (c := 1) rfl (by kernel_rfl) (Opens.int (N := N) Tryd.underlying3) (OpensFs.cons (c := 1) rfl (by kernel_rfl) (Opens.int (N := N) Tryd.underlying3) OpensFs.nil))))) (fun p => (.mk p.1 p.2.1 p.2.2.1 p.2.2.2.1 : EndT)) (fun _ => rfl)) (by omega)
theorem abil_global : Tryd.prog.globalNamed "loop.example/g03016/impl.abilityNames" = some 0 := by kernel_rfl
def abilBytes : List (List UInt8) := [[114, 117, 110], [107, 101, 101, 112], [116, 101, 108, 108], [104, 101, 97, 114], [115, 97, 118, 101], [104, 101, 97, 108]]
theorem abilAt_of {W : World} (h : W.var? Tryd.prog "loop.example/g03016/impl.abilityNames" = some (abilBytes.map fun z => Value.string ⟨z.toArray⟩).toArray) : AbilAt W := by
  have hc : ∀ k : Fin 6, W.cell? ⟨0, k, none⟩ = some (.string (abilAt k)) := by
    intro k
    rw [World.var?_cell abil_global h k]
    match k with
    | ⟨0, _⟩ | ⟨1, _⟩ | ⟨2, _⟩ | ⟨3, _⟩ | ⟨4, _⟩ | ⟨5, _⟩ => rfl
  exact ⟨lt_of_cell (hc 0), hc⟩
set_option maxRecDepth 100000 in
theorem endLine_lifted (os : Os) (started : os.Started) (H : Type) (enc : TypeId × Value → H) :
    ReturnsInHanded {} Tryd.checked os 4 .any (fun w args => (Rows.fnExactEndLineSpec.pre enc Tryd.prog Tryd.f4 Rows.fnExactEndLineRow.domain false w args ∧ laidMetH Tryd.prog Rows.fnExactEndLineRow.laid w) ∧ sizedMet enc Tryd.prog Tryd.f4 (OpenSpec.ofChange Rows.fnExactEndLineSpec) false w args)
      (Rows.fnExactEndLineSpec.post enc Tryd.prog Tryd.f4 false true false false) := by
  refine handed_and_shaped (C := Tryd.checked) (X := fun w _ => laidMetH Tryd.prog Rows.fnExactEndLineRow.laid w) (fun _ _ _ hh h => h.of_heap hh) Tryd.own started (by kernel_rfl) Tryd.func4
    (ChangeSpec.witness_shaped (enc := enc) (C := Tryd.checked) (os := os) (X := fun w _ => laidMetH Tryd.prog Rows.fnExactEndLineRow.laid w) false (World.laidAll Tryd.prog os Rows.fnExactEndLineRow.laid) #[.agg #[.int .i64 0, .int .i64 0, .int .i64 0, .int .i64 0], .slice none 0 0] 8 (World.laidAll_os _ _ _)
      (World.shaped_of_ZipB (by kernel_rfl) (by kernel_rfl)) (by kernel_rfl) (by kernel_rfl) (by kernel_rfl)
      (by rw [MakeChecks.laidMetH_plain _ _ _ (by kernel_rfl)]; exact laidMet_laidAll _ (by kernel_rfl) (by kernel_rfl))) ?_
  intro W base args ds gs before hval0 hW hX hsh
  have hval : ∀ (j : Nat) t v, Tryd.f4.params[j]? = some t → args[j]? = some v → Value.okWide Tryd.prog W .any base t v := hval0
  have hW' := hW
  obtain ⟨p, q, hA0, hV, rfl, hfz, hnd⟩ := hW
  have hA : DataW.TrodAll enc Tryd.prog W 0 (fun _ => true) true Tryd.f4.params.toList args.toList ds p := hA0
  rw [Tryd.params4] at hA hval
  obtain ⟨v0, v1, d0, d1, p0, p1, rfl, rfl, rfl, h0, h1⟩ := trodAll_two hA
  obtain ⟨g1, _, _, _, dg, _, rfl, _⟩ := trodVars_one hV
  obtain ⟨a, cs, hfa, rfl, hr0⟩ := Opens.argS end_opens Tryd.underlying28 (hval 0 28 v0 rfl rfl) h0
  obtain ⟨l, hfl, rdl⟩ := Opens.arg slots_opens Tryd.underlying29 (hval 1 29 v1 rfl rfl) h1
  rw [endF_eq] at hr0 hfa
  obtain ⟨c1, e1, hra⟩ := hr0.cons_v
  obtain ⟨c2, e2, hrb⟩ := hra.cons_v
  obtain ⟨c3, e3, hrc⟩ := hrb.cons_v
  obtain ⟨c4, e4, hrd⟩ := hrc.cons_v
  have e5 := hrd.nil_inv
  rw [e2, e3, e4, e5] at e1
  clear hr0 hra hrb hrc hrd
  obtain ⟨cs⟩ := cs
  simp only at e1
  subst e1
  simp only [FitL, FitD, FitV] at hfa
  rw [MakeChecks.laidMetH_plain _ _ _ (by kernel_rfl)] at hX
  have hpow : PowAt W := PowAt.of (tab_of_laid (k := .u64) (zs := Lib.pow10Tab) (l := Rows.fnExactEndLineRow.laid) pow_global (show (Tryd.prog.globals[4]?).map (·.type) = some 157 by kernel_rfl) Tryd.underlying157 Tryd.underlying143 (by kernel_rfl) (by kernel_rfl) hX (.tail _ (.tail _ (.head _))))
  have hab : AbilAt W := abilAt_of (var_of_laid (zs := abilBytes) (l := Rows.fnExactEndLineRow.laid) abil_global (show (Tryd.prog.globals[0]?).map (·.type) = some 92 by kernel_rfl) Tryd.underlying92 Tryd.underlying9 (by kernel_rfl) (by kernel_rfl) hX (.tail _ (.tail _ (.tail _ (.head _)))))
  refine (endLine_law _ _ _ _ l _ _ W hfa.2.1.1 hfa.2.1.2 hfl rdl (Nat.le_refl _) hpow hab).mono fun e W' ⟨he, hw⟩ => ?_
  subst he
  exact ⟨_, rfl, post_true2 rfl Tryd.underlying4 Tryd.laidOut (by rw [Tryd.params4]; intro t ht; simp at ht; rcases ht with rfl | rfl <;> exact ⟨by kernel_rfl, of_decide_eq_true (by kernel_rfl)⟩)
    (by
      intro n hn g t hg ht
      obtain rfl : n = "loop.example/g03016/impl.abilityNames" := by simpa [Rows.fnExactEndLineSpec] using hn
      obtain rfl := Option.some.inj (abil_global.symm.trans hg)
      obtain rfl := Option.some.inj ((show (Tryd.prog.globals[0]?).map (·.type) = some 92 by kernel_rfl).symm.trans ht)
      exact ⟨by kernel_rfl, of_decide_eq_true (by kernel_rfl)⟩) hW' rfl hw⟩

theorem endLine_row_holds : Rows.FnExactEndLineSaid :=
  OpenClaim.holds_of_wide 4 Tryd.f4 rfl rfl rfl rfl rfl rfl rfl ⟨rfl, rfl, rfl, rfl, rfl⟩ rfl rfl rfl rfl rfl (by kernel_rfl) Tryd.func4 (by kernel_rfl)
    (of_decide_eq_true (by kernel_rfl)) (by unfold Func.isWrapper; rw [if_neg (of_decide_eq_false (by kernel_rfl))]; exact ⟨rfl, rfl⟩)
    (fun os started H enc _ => endLine_lifted os started H enc)

theorem endLine_holds : Rows.FnExactEndLineCardSaid :=
  Claim7.holds_tied_plain_at .later [] [.data, .data, .data, .data] true _ false endLine_row_holds (fun _ h => by cases h) (by kernel_rfl) (fun _ h => by cases h) fnExactEndLine_row_tie rfl ⟨rfl, rfl⟩ (by kernel_rfl) rfl
    (fun f fn hf hfn => by
      obtain rfl : f = 4 := Option.some.inj ((show Tryd.prog.funcNamed "loop.example/g03016/laws.FnExactEndLine" = some 4 by kernel_rfl).symm.trans hf) |>.symm
      obtain rfl : fn = Tryd.f4 := (Option.some.inj (Tryd.func4.symm.trans hfn)).symm
      exact ⟨by kernel_rfl, fun j t ht => by
        rw [Tryd.params4] at ht
        have hm : t ∈ [28, 29] := by simpa using Array.mem_of_getElem? ht
        have hall : ([28, 29].all fun u => !Tryd.prog.wantsStandIn u) = true := by kernel_rfl
        exact (show Tryd.prog.wantsStandIn t = false by simpa using List.all_eq_true.1 hall t hm)⟩)
    (by kernel_rfl)
end Go.Proofs.YtapmknkelihacaaDoor
