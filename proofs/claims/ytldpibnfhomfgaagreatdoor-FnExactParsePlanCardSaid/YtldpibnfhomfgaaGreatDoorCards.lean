/-
  DERIVED. GIVEN WITH THE SEED: THE CARDS: each row of YtldpibnfhomfgaaGreatDoorRows.lean that lists a variable, with what it lists TIED to the program's text (the seventh form; the later family's looks); each row that meets fmt, with fmt's text TOLD by the authors' own Lean function (tested against real Go, not proved from fmt's source: count such statements apart). THE CARD IS WHAT COUNTS. Prove the row's statement (the work); the ties are given (YtldpibnfhomfgaaGreatDoorTie.lean); close each card by the builder's one call (the guide's Derived/Test/ToyasCard.lean, 'card_holds'). Laid BY PROGRAM, IN A SANDBOX (cutbox-door.mjs). By AI agents, Wed Nov 11 2026. No macro, syntax, notation, axiom, sorry.
-/
import Derived.Test.YtldpibnfhomfgaaGreatDoorRows
import GoSem.ClaimSeven
namespace Go.Proofs.YtldpibnfhomfgaaGreatDoor
namespace Rows

/-- THE TIED CARD OF 'laws.FnExactParsePlan'. -/
def fnExactParsePlanCard : Claim7 := { stood := { row := fnExactParsePlanRow, standIns := [], harness := (true, "8750df6112fb37224b68e46a979609cfee56c6d0d38518d29bd94bfa10090c7e"), looks := true }, kinds := [], alts := [], laidByText := true, laidKinds := [.data, .data, .data, .data, .sentinel, .sentinel, .data, .data, .pinned], laidTests := true, laidLooks := .later }
def FnExactParsePlanCardSaid : Prop := Claim7.holds Tryz.pinned (.plain (OpenSpec.ofChange fnExactParsePlanSpec)) fnExactParsePlanCard

/-- THE SECOND FORM's CARD OF 'laws.FnExactParsePlan'. -/
def fnExactParsePlanUptoCard : Claim7 := { stood := { row := fnExactParsePlanUptoRow, standIns := [], harness := (true, "8750df6112fb37224b68e46a979609cfee56c6d0d38518d29bd94bfa10090c7e"), looks := true }, kinds := [], alts := [], laidByText := true, laidKinds := [.data, .data, .data, .data, .sentinel, .sentinel, .data, .data, .pinned], laidTests := true, laidLooks := .later }
def FnExactParsePlanUptoCardSaid : Prop := Claim7.holds Tryz.pinned (.plain (OpenSpec.upto fnExactParsePlanSpec)) fnExactParsePlanUptoCard
end Rows
end Go.Proofs.YtldpibnfhomfgaaGreatDoor
