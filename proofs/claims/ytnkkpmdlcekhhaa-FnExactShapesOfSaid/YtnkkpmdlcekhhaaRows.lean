/-
  NARROWER THAN 'FOR EVERY INPUT', by the rows' own cells (each row's printed sentence says how): FnExactPlanSize: loops · FnExactPlanDepth: loops · FnExactActionAt: loops.
  DERIVED. THE GIVEN ROWS OF THIS SEAT. 7 by the template 'for every input the law returns true; each argument reads behind the call as it read before'; 0 by the template 'total and deterministic' (their statements: YtnkkpmdlcekhhaaTotals.lean).
  GIVEN WITH THE SEED: the statements are not yours to turn. If you find one false, say at which input.
  Laid BY PROGRAM, IN A SANDBOX (cutbox-rows.mjs): the forced cells as the released guide's own fill.sh prints them over the translation a81e5d45a1de2664… (all of the seat's roots in one cut). By AI agents, Wed Nov 11 2026. No macro, syntax, notation, axiom, sorry.
-/
import Derived.Test.YtnkkpmdlcekhhaaChecked
import GoSem.Claim
import GoSem.ClaimJoined
import GoSem.ClaimMapViews
import Derived.JoinedTies
import Derived.KernelRfl
namespace Go.Proofs.Ytnkkpmdlcekhhaa
/- THE CELL 'sum', in the pinned program and in every row, IS THE sha256 OF THE DUMP (.gsa) THAT YtnkkpmdlcekhhaaProg.lean LOADS. Nothing in Lean hashes anything: it is a label: what it is worth is what the hold of that sum in a sandbox is worth. -/
noncomputable def Try.pinned : Pinned := { name := "ytnkkpmdlcekhhaa", sum := "a81e5d45a1de2664044b7d4b93ae674306ec5300f2f1c50904c08c9b606dc0bb", checked := Try.checked }
namespace Rows
def none {H : Type} : Left H := { results := [], args := [] }

/-- 'laws.FnExactCompareInputs': WHATEVER THE INPUT: true; the input reads as it did. -/
def fnExactCompareInputsSpec : ChangeSpec := { name := "fnExactCompareInputs", fn := fun _ => fun
  | [d1, d2] => { results := [.lit (.bool true)], args := [d1, d2] }
  | _ => none }
def fnExactCompareInputsRow : OpenClaim := { program := "ytnkkpmdlcekhhaa", sum := "a81e5d45a1de2664044b7d4b93ae674306ec5300f2f1c50904c08c9b606dc0bb", func := "loop.example/g03016/laws.FnExactCompareInputs", spec := "fnExactCompareInputs", apart := false }
def FnExactCompareInputsSaid : Prop := fnExactCompareInputsRow.holds Try.pinned (OpenSpec.ofChange fnExactCompareInputsSpec)

/-- ITS FALSE NEIGHBOUR: 'it returns false'. Refute it at one input. -/
def fnExactCompareInputsWrong : ChangeSpec := { name := "fnExactCompareInputs", fn := fun _ => fun
  | [d1, d2] => { results := [.lit (.bool false)], args := [d1, d2] }
  | _ => none }
def FnExactCompareInputsWrongFalsely : Prop := fnExactCompareInputsRow.holds Try.pinned (OpenSpec.ofChange fnExactCompareInputsWrong)

/-- 'laws.FnExactPlanSize': WHATEVER THE INPUT: true; the input reads as it did. -/
def fnExactPlanSizeSpec : ChangeSpec := { name := "fnExactPlanSize", fn := fun _ => fun
  | [d] => { results := [.lit (.bool true)], args := [d] }
  | _ => none }
def fnExactPlanSizeRow : OpenClaim := { program := "ytnkkpmdlcekhhaa", sum := "a81e5d45a1de2664044b7d4b93ae674306ec5300f2f1c50904c08c9b606dc0bb", func := "loop.example/g03016/laws.FnExactPlanSize", spec := "fnExactPlanSize", recurses := true, loops := true, apart := false }
def FnExactPlanSizeSaid : Prop := fnExactPlanSizeRow.holds Try.pinned (OpenSpec.ofChange fnExactPlanSizeSpec)

/-- ITS FALSE NEIGHBOUR: 'it returns false'. Refute it at one input. -/
def fnExactPlanSizeWrong : ChangeSpec := { name := "fnExactPlanSize", fn := fun _ => fun
  | [d] => { results := [.lit (.bool false)], args := [d] }
  | _ => none }
def FnExactPlanSizeWrongFalsely : Prop := fnExactPlanSizeRow.holds Try.pinned (OpenSpec.ofChange fnExactPlanSizeWrong)

/-- 'laws.FnExactPlanDepth': WHATEVER THE INPUT: true; the input reads as it did. -/
def fnExactPlanDepthSpec : ChangeSpec := { name := "fnExactPlanDepth", fn := fun _ => fun
  | [d] => { results := [.lit (.bool true)], args := [d] }
  | _ => none }
def fnExactPlanDepthRow : OpenClaim := { program := "ytnkkpmdlcekhhaa", sum := "a81e5d45a1de2664044b7d4b93ae674306ec5300f2f1c50904c08c9b606dc0bb", func := "loop.example/g03016/laws.FnExactPlanDepth", spec := "fnExactPlanDepth", recurses := true, loops := true, apart := false }
def FnExactPlanDepthSaid : Prop := fnExactPlanDepthRow.holds Try.pinned (OpenSpec.ofChange fnExactPlanDepthSpec)

/-- ITS FALSE NEIGHBOUR: 'it returns false'. Refute it at one input. -/
def fnExactPlanDepthWrong : ChangeSpec := { name := "fnExactPlanDepth", fn := fun _ => fun
  | [d] => { results := [.lit (.bool false)], args := [d] }
  | _ => none }
def FnExactPlanDepthWrongFalsely : Prop := fnExactPlanDepthRow.holds Try.pinned (OpenSpec.ofChange fnExactPlanDepthWrong)

/-- 'laws.FnExactEmptySlots': WHATEVER THE INPUT: true; the input reads as it did. -/
def fnExactEmptySlotsSpec : ChangeSpec := { name := "fnExactEmptySlots", fn := fun _ => fun
  | [] => { results := [.lit (.bool true)], args := [] }
  | _ => none }
def fnExactEmptySlotsRow : OpenClaim := { program := "ytnkkpmdlcekhhaa", sum := "a81e5d45a1de2664044b7d4b93ae674306ec5300f2f1c50904c08c9b606dc0bb", func := "loop.example/g03016/laws.FnExactEmptySlots", spec := "fnExactEmptySlots", apart := false }
def FnExactEmptySlotsSaid : Prop := fnExactEmptySlotsRow.holds Try.pinned (OpenSpec.ofChange fnExactEmptySlotsSpec)

/-- ITS FALSE NEIGHBOUR: 'it returns false'. Refute it at one input. -/
def fnExactEmptySlotsWrong : ChangeSpec := { name := "fnExactEmptySlots", fn := fun _ => fun
  | [] => { results := [.lit (.bool false)], args := [] }
  | _ => none }
def FnExactEmptySlotsWrongFalsely : Prop := fnExactEmptySlotsRow.holds Try.pinned (OpenSpec.ofChange fnExactEmptySlotsWrong)

/-- 'laws.FnExactSameSlots': WHATEVER THE INPUT: true; the input reads as it did. -/
def fnExactSameSlotsSpec : ChangeSpec := { name := "fnExactSameSlots", fn := fun _ => fun
  | [d1, d2] => { results := [.lit (.bool true)], args := [d1, d2] }
  | _ => none }
def fnExactSameSlotsRow : OpenClaim := { program := "ytnkkpmdlcekhhaa", sum := "a81e5d45a1de2664044b7d4b93ae674306ec5300f2f1c50904c08c9b606dc0bb", func := "loop.example/g03016/laws.FnExactSameSlots", spec := "fnExactSameSlots", apart := false }
def FnExactSameSlotsSaid : Prop := fnExactSameSlotsRow.holds Try.pinned (OpenSpec.ofChange fnExactSameSlotsSpec)

/-- ITS FALSE NEIGHBOUR: 'it returns false'. Refute it at one input. -/
def fnExactSameSlotsWrong : ChangeSpec := { name := "fnExactSameSlots", fn := fun _ => fun
  | [d1, d2] => { results := [.lit (.bool false)], args := [d1, d2] }
  | _ => none }
def FnExactSameSlotsWrongFalsely : Prop := fnExactSameSlotsRow.holds Try.pinned (OpenSpec.ofChange fnExactSameSlotsWrong)

/-- 'laws.FnExactActionAt': WHATEVER THE INPUT: true; the input reads as it did. -/
def fnExactActionAtSpec : ChangeSpec := { name := "fnExactActionAt", fn := fun _ => fun
  | [d1, d2] => { results := [.lit (.bool true)], args := [d1, d2] }
  | _ => none }
def fnExactActionAtRow : OpenClaim := { program := "ytnkkpmdlcekhhaa", sum := "a81e5d45a1de2664044b7d4b93ae674306ec5300f2f1c50904c08c9b606dc0bb", func := "loop.example/g03016/laws.FnExactActionAt", spec := "fnExactActionAt", recurses := true, loops := true, apart := false }
def FnExactActionAtSaid : Prop := fnExactActionAtRow.holds Try.pinned (OpenSpec.ofChange fnExactActionAtSpec)

/-- ITS FALSE NEIGHBOUR: 'it returns false'. Refute it at one input. -/
def fnExactActionAtWrong : ChangeSpec := { name := "fnExactActionAt", fn := fun _ => fun
  | [d1, d2] => { results := [.lit (.bool false)], args := [d1, d2] }
  | _ => none }
def FnExactActionAtWrongFalsely : Prop := fnExactActionAtRow.holds Try.pinned (OpenSpec.ofChange fnExactActionAtWrong)

/-- 'laws.FnExactShapesOf': WHATEVER THE INPUT: true; the input reads as it did. -/
def fnExactShapesOfSpec : ChangeSpec := { name := "fnExactShapesOf", fn := fun _ => fun
  | [d] => { results := [.lit (.bool true)], args := [d] }
  | _ => none }
def fnExactShapesOfRow : OpenClaim := { program := "ytnkkpmdlcekhhaa", sum := "a81e5d45a1de2664044b7d4b93ae674306ec5300f2f1c50904c08c9b606dc0bb", func := "loop.example/g03016/laws.FnExactShapesOf", spec := "fnExactShapesOf", inPlace := ["internal/abi.NoEscape", "internal/bytealg.MakeNoZero"], apart := false }
def FnExactShapesOfSaid : Prop := fnExactShapesOfRow.holds Try.pinned (OpenSpec.ofChange fnExactShapesOfSpec)

/-- ITS FALSE NEIGHBOUR: 'it returns false'. Refute it at one input. -/
def fnExactShapesOfWrong : ChangeSpec := { name := "fnExactShapesOf", fn := fun _ => fun
  | [d] => { results := [.lit (.bool false)], args := [d] }
  | _ => none }
def FnExactShapesOfWrongFalsely : Prop := fnExactShapesOfRow.holds Try.pinned (OpenSpec.ofChange fnExactShapesOfWrong)

/- THE SECOND FORM. 'bulk': how many values and letters a reading holds, each counted each time it is reached (what is shared counts as often as it is met; a slice's spare places count too). A statement '..UptoSaid' is the law's where the arguments, and the package variables that the reading takes, are together of bulk at most 1048576: NARROWER than '..Said'. Prove '..Said' where nothing that the law and all that it calls make is longer than what came in: it says more and counts as full. Else prove '..UptoSaid'. A law counts once. -/
mutual
def uptoBulk {H : Type} : DataW H → Nat
  | .lit (.string bytes) => bytes.length + 1
  | .lit _ => 1
  | .nil => 1
  | .ptr d => uptoBulk d + 1
  | .slice elems spare => uptoBulkAll elems + uptoBulkAll spare + 1
  | .agg parts => uptoBulkAll parts + 1
  | .iface _ d => uptoBulk d + 1
  | .map entries => uptoBulkEntries entries + 1
  | .held _ => 1
def uptoBulkAll {H : Type} : List (DataW H) → Nat
  | [] => 0
  | d :: r => uptoBulk d + uptoBulkAll r
def uptoBulkEntries {H : Type} : List (Lit × DataW H) → Nat
  | [] => 0
  | x :: r => uptoBulkEntry x + uptoBulkEntries r
def uptoBulkEntry {H : Type} : Lit × DataW H → Nat
  | (.string bytes, d) => bytes.length + uptoBulk d + 1
  | (_, d) => uptoBulk d + 1
 end
def uptoSmall : (H : Type) → List (DataW H) → Bool := fun _ ds => decide (uptoBulkAll ds ≤ 1048576)
def OpenSpec.upto (s : _root_.Go.ChangeSpec) : _root_.Go.OpenSpec := { _root_.Go.OpenSpec.ofChange s with cond := some uptoSmall }

/-- 'laws.FnExactCompareInputs', WHERE WHAT IT READS IS OF BULK AT MOST 1048576: true; the input reads as it did. -/
def fnExactCompareInputsUptoRow : OpenClaim := { program := "ytnkkpmdlcekhhaa", sum := "a81e5d45a1de2664044b7d4b93ae674306ec5300f2f1c50904c08c9b606dc0bb", func := "loop.example/g03016/laws.FnExactCompareInputs", spec := "fnExactCompareInputs", apart := false, narrowed := true }
def FnExactCompareInputsUptoSaid : Prop := fnExactCompareInputsUptoRow.holds Try.pinned (OpenSpec.upto fnExactCompareInputsSpec)

/-- 'laws.FnExactPlanSize', WHERE WHAT IT READS IS OF BULK AT MOST 1048576: true; the input reads as it did. -/
def fnExactPlanSizeUptoRow : OpenClaim := { program := "ytnkkpmdlcekhhaa", sum := "a81e5d45a1de2664044b7d4b93ae674306ec5300f2f1c50904c08c9b606dc0bb", func := "loop.example/g03016/laws.FnExactPlanSize", spec := "fnExactPlanSize", recurses := true, loops := true, apart := false, narrowed := true }
def FnExactPlanSizeUptoSaid : Prop := fnExactPlanSizeUptoRow.holds Try.pinned (OpenSpec.upto fnExactPlanSizeSpec)

/-- 'laws.FnExactPlanDepth', WHERE WHAT IT READS IS OF BULK AT MOST 1048576: true; the input reads as it did. -/
def fnExactPlanDepthUptoRow : OpenClaim := { program := "ytnkkpmdlcekhhaa", sum := "a81e5d45a1de2664044b7d4b93ae674306ec5300f2f1c50904c08c9b606dc0bb", func := "loop.example/g03016/laws.FnExactPlanDepth", spec := "fnExactPlanDepth", recurses := true, loops := true, apart := false, narrowed := true }
def FnExactPlanDepthUptoSaid : Prop := fnExactPlanDepthUptoRow.holds Try.pinned (OpenSpec.upto fnExactPlanDepthSpec)

/-- 'laws.FnExactEmptySlots', WHERE WHAT IT READS IS OF BULK AT MOST 1048576: true; the input reads as it did. -/
def fnExactEmptySlotsUptoRow : OpenClaim := { program := "ytnkkpmdlcekhhaa", sum := "a81e5d45a1de2664044b7d4b93ae674306ec5300f2f1c50904c08c9b606dc0bb", func := "loop.example/g03016/laws.FnExactEmptySlots", spec := "fnExactEmptySlots", apart := false, narrowed := true }
def FnExactEmptySlotsUptoSaid : Prop := fnExactEmptySlotsUptoRow.holds Try.pinned (OpenSpec.upto fnExactEmptySlotsSpec)

/-- 'laws.FnExactSameSlots', WHERE WHAT IT READS IS OF BULK AT MOST 1048576: true; the input reads as it did. -/
def fnExactSameSlotsUptoRow : OpenClaim := { program := "ytnkkpmdlcekhhaa", sum := "a81e5d45a1de2664044b7d4b93ae674306ec5300f2f1c50904c08c9b606dc0bb", func := "loop.example/g03016/laws.FnExactSameSlots", spec := "fnExactSameSlots", apart := false, narrowed := true }
def FnExactSameSlotsUptoSaid : Prop := fnExactSameSlotsUptoRow.holds Try.pinned (OpenSpec.upto fnExactSameSlotsSpec)

/-- 'laws.FnExactActionAt', WHERE WHAT IT READS IS OF BULK AT MOST 1048576: true; the input reads as it did. -/
def fnExactActionAtUptoRow : OpenClaim := { program := "ytnkkpmdlcekhhaa", sum := "a81e5d45a1de2664044b7d4b93ae674306ec5300f2f1c50904c08c9b606dc0bb", func := "loop.example/g03016/laws.FnExactActionAt", spec := "fnExactActionAt", recurses := true, loops := true, apart := false, narrowed := true }
def FnExactActionAtUptoSaid : Prop := fnExactActionAtUptoRow.holds Try.pinned (OpenSpec.upto fnExactActionAtSpec)

/-- 'laws.FnExactShapesOf', WHERE WHAT IT READS IS OF BULK AT MOST 1048576: true; the input reads as it did. -/
def fnExactShapesOfUptoRow : OpenClaim := { program := "ytnkkpmdlcekhhaa", sum := "a81e5d45a1de2664044b7d4b93ae674306ec5300f2f1c50904c08c9b606dc0bb", func := "loop.example/g03016/laws.FnExactShapesOf", spec := "fnExactShapesOf", inPlace := ["internal/abi.NoEscape", "internal/bytealg.MakeNoZero"], apart := false, narrowed := true }
def FnExactShapesOfUptoSaid : Prop := fnExactShapesOfUptoRow.holds Try.pinned (OpenSpec.upto fnExactShapesOfSpec)

end Rows
end Go.Proofs.Ytnkkpmdlcekhhaa
