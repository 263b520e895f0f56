/- FnWitnessed: for all bytes, the law returns true and the bytes read as before. Conditions: none beyond the row's own; the card ties the listed tables and variables to the program's text. Written by a program. -/
import Derived.Test.YtlnkgcdeljhjcaaGreatDoorFrames
import Derived.Test.YtlnkgcdeljhjcaaGreatDoorLawWitnessed
import Derived.Test.YtlnkgcdeljhjcaaGreatDoorTie
import Derived.Test.YtlnkgcdeljhjcaaGreatDoorCards
import Derived.Lay
import Derived.SevenTiedAt
set_option maxRecDepth 100000
namespace Go.Proofs.YtlnkgcdeljhjcaaGreatDoor
open Go.ChangeShapes Go.WideShapes Go.ChangeAt Go.RowKit

theorem zj (os:Os) (started:os.Started) (H:Type) (enc:TypeId×Value->H):
  ReturnsInHanded {} Tryz.checked os 3 .any (fun w args=>(Rows.fnWitnessedSpec.pre enc Tryz.prog Tryz.f3 Rows.fnWitnessedRow.domain false w args/\laidMetH Tryz.prog Rows.fnWitnessedRow.laid w)/\sizedMet enc Tryz.prog Tryz.f3 (OpenSpec.ofChange Rows.fnWitnessedSpec) false w args)
   (Rows.fnWitnessedSpec.post enc Tryz.prog Tryz.f3 false true false false):=by
 refine qz (C:=Tryz.checked) (X:=fun w _=>laidMetH Tryz.prog Rows.fnWitnessedRow.laid w) (fun _ _ _ hh h=>h.of_heap hh) Tryz.own started (by kernel_rfl) Tryz.func3
  (ChangeSpec.witness_shaped (enc:=enc) (C:=Tryz.checked) (os:=os) (X:=fun w _=>laidMetH Tryz.prog Rows.fnWitnessedRow.laid w) false (World.laidAll Tryz.prog os Rows.fnWitnessedRow.laid) #[.slice none 0 0] 8 (World.laidAll_os _ _ _)
   (World.shaped_of_ZipB (by kernel_rfl) (by kernel_rfl)) (by kernel_rfl) (by kernel_rfl) (by kernel_rfl)
   (by rw [MakeChecks.laidMetH_plain _ _ _ (by kernel_rfl)];exact laidMet_laidAll _ (by kernel_rfl) (by kernel_rfl))) ?_
 intro W base args ds gs before hval0 hW hX hsh
 have hval:∀(j:Nat) t v,Tryz.f3.params[j]?=some t->args[j]?=some v->Value.okWide Tryz.prog W .any base t v:=hval0
 have hW':=hW
 obtain⟨p,q,hA0,hV,rfl,hfz,hnd⟩:=hW
 have hA:DataW.TrodAll enc Tryz.prog W 0 (fun _=>true) true Tryz.f3.params.toList args.toList ds p:=hA0
 rw [Tryz.params3] at hA hval
 obtain⟨v0,d0,rfl,rfl,h0⟩:=trodAll_one hA
 obtain⟨rfl,rfl⟩:=trodVars_none hV
 obtain⟨l,hfl,rdl⟩:=VX.arg Qaf Tryz.underlying22 (hval 0 22 v0 rfl rfl) h0
 obtain⟨A,cap,rfl,_,_,hb⟩:=QdY rdl
 rw [MakeChecks.laidMetH_plain _ _ _ (by kernel_rfl)] at hX
 have hE:Km W:=Qg6 hsh hX (.tail _ (.tail _ (.head _))) (.tail _ (.tail _ (.tail _ (.tail _ (.tail _ (.head _))))))
 refine(vA A _ cap W hE hb).mono fun e W' ⟨he,hw⟩=>?_
 subst he
 exact⟨_,rfl,QdN rfl rfl Tryz.underlying4 Tryz.laidOut (by rw [Tryz.params3];intro t ht;simp at ht;subst ht;exact⟨by kernel_rfl,of_decide_eq_true (by kernel_rfl)⟩) hW' rfl hw⟩

theorem witnessed_row_holds:Rows.FnWitnessedSaid:=
 OpenClaim.holds_of_wide 3 Tryz.f3 rfl rfl rfl rfl rfl rfl rfl ⟨rfl,rfl,rfl,rfl,rfl⟩ rfl rfl rfl rfl rfl (by kernel_rfl) Tryz.func3 (by kernel_rfl)
  (of_decide_eq_true (by kernel_rfl)) (by unfold Func.isWrapper;rw [if_neg (of_decide_eq_false (by kernel_rfl))];exact⟨rfl,rfl⟩)
  (fun os started H enc _=>zj os started H enc)

theorem witnessed_holds:Rows.FnWitnessedCardSaid:=
 Claim7.holds_tied_plain_at .later [] [.data,.data,.data,.data,.sentinel,.sentinel,.pinned] true _ true witnessed_row_holds (fun _ h=>by cases h) (by kernel_rfl) (fun _ h=>by cases h) fnWitnessed_row_tie rfl ⟨rfl,rfl⟩ (by kernel_rfl) rfl
  (fun f fn hf hfn=>by
   obtain rfl:f=3:=Option.some.inj ((show Tryz.prog.funcNamed "loop.example/g03016/laws.FnWitnessed" =some 3 by kernel_rfl).symm.trans hf) |>.symm
   obtain rfl:fn=Tryz.f3:=(Option.some.inj (Tryz.func3.symm.trans hfn)).symm
   exact⟨by kernel_rfl,fun j t ht=>by
    rw [Tryz.params3] at ht
    have hm:t∈ [22]:=by simpa using Array.mem_of_getElem? ht
    have hall:([22].all fun u=>!Tryz.prog.wantsStandIn u)=true:=by kernel_rfl
    exact(show Tryz.prog.wantsStandIn t=false by simpa using List.all_eq_true.1 hall t hm)⟩)
  (by kernel_rfl)
end Go.Proofs.YtlnkgcdeljhjcaaGreatDoor
