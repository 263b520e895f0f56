/- FnRunHalves: for all bytes, the law returns true and the bytes read as before. Conditions: none beyond the row's own; the card ties the listed tables and variables to the program's text. Written by a program. -/
import Derived.Test.YtdlkbomojjmnlaaGreatDoorFrames
import Derived.Test.YtdlkbomojjmnlaaGreatDoorLawRunHalves
import Derived.Test.YtdlkbomojjmnlaaGreatDoorTie
import Derived.Test.YtdlkbomojjmnlaaGreatDoorCards
import Derived.LaidMore
import Derived.Lay
import Derived.SevenTiedAt
import Derived.OpenShut
namespace Go.Proofs.YtdlkbomojjmnlaaGreatDoor
open Go.ChangeShapes Go.WideShapes Go.ChangeAt Go.RowKit

set_option maxRecDepth 100000 in
theorem runHalves_lifted (os:Os) (started:os.Started) (H:Type) (enc:TypeId×Value->H):
    ReturnsInHanded {} Tryz.checked os 4 .any (fun w args=>(Rows.fnRunHalvesSpec.pre enc Tryz.prog Tryz.f4 Rows.fnRunHalvesRow.domain false w args/\laidMetH Tryz.prog Rows.fnRunHalvesRow.laid w)/\sizedMet enc Tryz.prog Tryz.f4 (OpenSpec.ofChange Rows.fnRunHalvesSpec) false w args)
      (Rows.fnRunHalvesSpec.post enc Tryz.prog Tryz.f4 false true false false):=by
  refine handed_and_shaped (C:=Tryz.checked) (X:=fun w _=>laidMetH Tryz.prog Rows.fnRunHalvesRow.laid w) (fun _ _ _ hh h=>h.of_heap hh) Tryz.own started (by kernel_rfl) Tryz.func4
    (ChangeSpec.witness_shaped (enc:=enc) (C:=Tryz.checked) (os:=os) (X:=fun w _=>laidMetH Tryz.prog Rows.fnRunHalvesRow.laid w) false (World.laidAll Tryz.prog os Rows.fnRunHalvesRow.laid) #[.slice none 0 0] 8 (World.laidAll_os _ _ _)
      (World.shaped_of_ZipB (by kernel_rfl) (by kernel_rfl)) (by kernel_rfl) (by kernel_rfl) (by kernel_rfl)
      (by rw [MakeChecks.laidMetH_plain _ _ _ (by kernel_rfl)];exact laidMet_laidAll _ (by kernel_rfl) (by kernel_rfl))) ?_
  intro W base args ds gs before hval0 hW hX hsh
  have hval:∀(j:Nat) t v,Tryz.f4.params[j]?=some t->args[j]?=some v->Value.okWide Tryz.prog W .any base t v:=hval0
  have hW':=hW
  obtain⟨p,q,hA0,hV,rfl,hfz,hnd⟩:=hW
  have hA:DataW.TrodAll enc Tryz.prog W 0 (fun _=>true) true Tryz.f4.params.toList args.toList ds p:=hA0
  rw [Tryz.params4] at hA hval
  obtain⟨v0,d0,rfl,rfl,h0⟩:=trodAll_one hA
  obtain⟨rfl,rfl⟩:=trodVars_none hV
  obtain⟨l,hfl,rdl⟩:=Opens.arg bytes_opens Tryz.underlying22 (hval 0 22 v0 rfl rfl) h0
  obtain⟨A,cap,rfl,_,_,hb⟩:=bytes_row rdl
  rw [MakeChecks.laidMetH_plain _ _ _ (by kernel_rfl)] at hX
  have hE:Env W:=env_of hsh hX (.tail _ (.tail _ (.head _))) (.tail _ (.tail _ (.tail _ (.tail _ (.tail _ (.head _))))))
  refine(runHalves_law A _ cap W hE hb).mono fun e W' ⟨he,hw⟩=>?_
  subst he
  exact⟨_,rfl,post_true rfl rfl Tryz.underlying4 Tryz.laidOut (by rw [Tryz.params4];intro t ht;simp at ht;subst ht;exact⟨by kernel_rfl,of_decide_eq_true (by kernel_rfl)⟩) hW' rfl hw⟩

theorem runHalves_row_holds:Rows.FnRunHalvesSaid:=
  OpenClaim.holds_of_wide 4 Tryz.f4 rfl rfl rfl rfl rfl rfl rfl ⟨rfl,rfl,rfl,rfl,rfl⟩ rfl rfl rfl rfl rfl (by kernel_rfl) Tryz.func4 (by kernel_rfl)
    (of_decide_eq_true (by kernel_rfl)) (by unfold Func.isWrapper;rw [if_neg (of_decide_eq_false (by kernel_rfl))];exact⟨rfl,rfl⟩)
    (fun os started H enc _=>runHalves_lifted os started H enc)

theorem runHalves_holds:Rows.FnRunHalvesCardSaid:=
  Claim7.holds_tied_plain_at .later [] [.data,.data,.data,.data,.sentinel,.sentinel,.pinned] true _ true runHalves_row_holds (fun _ h=>by cases h) (by kernel_rfl) (fun _ h=>by cases h) fnRunHalves_row_tie rfl ⟨rfl,rfl⟩ (by kernel_rfl) rfl
    (fun f fn hf hfn=>by
      obtain rfl:f=4:=Option.some.inj ((show Tryz.prog.funcNamed "loop.example/g03016/laws.FnRunHalves" =some 4 by kernel_rfl).symm.trans hf) |>.symm
      obtain rfl:fn=Tryz.f4:=(Option.some.inj (Tryz.func4.symm.trans hfn)).symm
      exact⟨by kernel_rfl,fun j t ht=>by
        rw [Tryz.params4] at ht
        have hm:t∈ [22]:=by simpa using Array.mem_of_getElem? ht
        have hall:([22].all fun u=>!Tryz.prog.wantsStandIn u)=true:=by kernel_rfl
        exact(show Tryz.prog.wantsStandIn t=false by simpa using List.all_eq_true.1 hall t hm)⟩)
    (by kernel_rfl)
end Go.Proofs.YtdlkbomojjmnlaaGreatDoor
