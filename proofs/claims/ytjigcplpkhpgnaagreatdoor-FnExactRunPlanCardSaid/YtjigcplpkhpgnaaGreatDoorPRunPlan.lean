/- FnExactRunPlan: for all arguments that can be read as data, the law returns true and its arguments read as before. Conditions: none beyond the row's own; the card ties the listed tables and variables to the program's text. Written by a program. -/
import Derived.Test.YtjigcplpkhpgnaaGreatDoorFrames
import Derived.Test.YtjigcplpkhpgnaaGreatDoorOpens
import Derived.Test.YtjigcplpkhpgnaaGreatDoorLawRunPlan
import Derived.Test.YtjigcplpkhpgnaaGreatDoorEnvOf
import Derived.Test.YtjigcplpkhpgnaaGreatDoorTie
import Derived.Test.YtjigcplpkhpgnaaGreatDoorCards
import Derived.LaidMore
import Derived.Lay
import Derived.SevenTiedAt
set_option maxRecDepth 100000
namespace Go.Proofs.YtjigcplpkhpgnaaGreatDoor
open Go.ChangeShapes Go.WideShapes Go.ChangeAt Go.RowKit

theorem int_ocells:Tryz.prog.cellsOf 3=1:=by kernel_rfl
theorem ints_opens (N:Nat):Opens Tryz.prog N 24 (listF intC):=
 Opens.mono (Opens.slice (F:=intC) Tryz.underlying24 int_ocells (by omega) intC_len (Opens.int (N:=N) Tryz.underlying3)) (by omega)
theorem runPlan_lifted (os:Os) (started:os.Started) (H:Type) (enc:TypeId×Value->H):
  ReturnsInHanded {} Tryz.checked os 3 .any (fun w args=>(Rows.fnExactRunPlanSpec.pre enc Tryz.prog Tryz.f3 Rows.fnExactRunPlanRow.domain false w args/\laidMetH Tryz.prog Rows.fnExactRunPlanRow.laid w)/\sizedMet enc Tryz.prog Tryz.f3 (OpenSpec.ofChange Rows.fnExactRunPlanSpec) false w args)
   (Rows.fnExactRunPlanSpec.post enc Tryz.prog Tryz.f3 false true false false):=by
 refine handed_and_shaped (C:=Tryz.checked) (X:=fun w _=>laidMetH Tryz.prog Rows.fnExactRunPlanRow.laid w) (fun _ _ _ hh h=>h.of_heap hh) Tryz.own started (by kernel_rfl) Tryz.func3
  (ChangeSpec.witness_shaped (enc:=enc) (C:=Tryz.checked) (os:=os) (X:=fun w _=>laidMetH Tryz.prog Rows.fnExactRunPlanRow.laid w) false (World.laidAll Tryz.prog os Rows.fnExactRunPlanRow.laid) #[.slice none 0 0,.slice none 0 0,.slice none 0 0] 8 (World.laidAll_os _ _ _)
   (World.shaped_of_ZipB (by kernel_rfl) (by kernel_rfl)) (by kernel_rfl) (by kernel_rfl) (by kernel_rfl)
   (by rw [MakeChecks.laidMetH_plain _ _ _ (by kernel_rfl)];exact laidMet_laidAll _ (by kernel_rfl) (by kernel_rfl))) ?_
 intro W base args ds gs before hval0 hW hX hsh
 have hval:∀(j:Nat) t v,Tryz.f3.params[j]?=some t->args[j]?=some v->Value.okWide Tryz.prog W .any base t v:=hval0
 have hW':=hW
 obtain⟨p,q,hA0,hV,rfl,hfz,hnd⟩:=hW
 have hA:DataW.TrodAll enc Tryz.prog W 0 (fun _=>true) true Tryz.f3.params.toList args.toList ds p:=hA0
 rw [Tryz.params3] at hA hval
 obtain⟨v0,v1,v2,d0,d1,d2,p0,p1,p2,rfl,rfl,rfl,h0,h1,h2⟩:=trodAll_three hA
 obtain⟨rfl,rfl⟩:=trodVars_none hV
 obtain⟨s,hfs,rds⟩:=Opens.arg slots_opens Tryz.underlying22 (hval 0 22 v0 rfl rfl) h0
 obtain⟨m,hfm,rdm⟩:=Opens.arg actions_opens Tryz.underlying23 (hval 1 23 v1 rfl rfl) h1
 obtain⟨i,hfi,rdi⟩:=Opens.arg ints_opens Tryz.underlying24 (hval 2 24 v2 rfl rfl) h2
 rw [MakeChecks.laidMetH_plain _ _ _ (by kernel_rfl)] at hX
 have hE:Env W:=env_of hsh hX (.tail _ (.tail _ (.head _))) (.tail _ (.tail _ (.tail _ (.tail _ (.tail _ (.head _))))))
 refine(runPlan_law s m i _ _ _ _ W hfs rds hfm rdm hfi rdi (Nat.le_refl _) hE).mono fun e W' ⟨he,hw⟩=>?_
 subst he
 exact⟨_,rfl,post_true rfl rfl Tryz.underlying4 Tryz.laidOut (by rw [Tryz.params3];intro t ht;simp at ht;rcases ht with rfl|rfl|rfl;all_goals exact⟨by kernel_rfl,of_decide_eq_true (by kernel_rfl)⟩) hW' rfl hw⟩

theorem runPlan_row_holds:Rows.FnExactRunPlanSaid:=
 OpenClaim.holds_of_wide 3 Tryz.f3 rfl rfl rfl rfl rfl rfl rfl ⟨rfl,rfl,rfl,rfl,rfl⟩ rfl rfl rfl rfl rfl (by kernel_rfl) Tryz.func3 (by kernel_rfl)
  (of_decide_eq_true (by kernel_rfl)) (by unfold Func.isWrapper;rw [if_neg (of_decide_eq_false (by kernel_rfl))];exact⟨rfl,rfl⟩)
  (fun os started H enc _=>runPlan_lifted os started H enc)

theorem runPlan_holds:Rows.FnExactRunPlanCardSaid:=
 Claim7.holds_tied_plain_at .later [] [.data,.data,.data,.data,.sentinel,.sentinel,.pinned] true _ true runPlan_row_holds (fun _ h=>by cases h) (by kernel_rfl) (fun _ h=>by cases h) fnExactRunPlan_row_tie rfl ⟨rfl,rfl⟩ (by kernel_rfl) rfl
  (fun f fn hf hfn=>by
   obtain rfl:f=3:=Option.some.inj ((show Tryz.prog.funcNamed "loop.example/g03016/laws.FnExactRunPlan" =some 3 by kernel_rfl).symm.trans hf) |>.symm
   obtain rfl:fn=Tryz.f3:=(Option.some.inj (Tryz.func3.symm.trans hfn)).symm
   exact⟨by kernel_rfl,fun j t ht=>by
    rw [Tryz.params3] at ht
    have hm:t∈ [22,23,24]:=by simpa using Array.mem_of_getElem? ht
    have hall:([22,23,24].all fun u=>!Tryz.prog.wantsStandIn u)=true:=by kernel_rfl
    exact(show Tryz.prog.wantsStandIn t=false by simpa using List.all_eq_true.1 hall t hm)⟩)
  (by kernel_rfl)
end Go.Proofs.YtjigcplpkhpgnaaGreatDoor
