/-
  DERIVED. GIVEN WITH THE SEED: THE CARDS: each row of YtkgffhlpcjjobaaGreatDoorRows.lean that lists a variable, with what it lists TIED to the program's text (the seventh form; the later family's looks); each row that meets fmt, with fmt's text TOLD by the authors' own Lean function (tested against real Go, not proved from fmt's source: count such statements apart). THE CARD IS WHAT COUNTS. Prove the row's statement (the work); the ties are given (YtkgffhlpcjjobaaGreatDoorTie.lean); close each card by the builder's one call (the guide's Derived/Test/ToyasCard.lean, 'card_holds'). Laid BY PROGRAM, IN A SANDBOX (cutbox-door.mjs). By AI agents, Wed Nov 11 2026. No macro, syntax, notation, axiom, sorry.
-/
import Derived.Test.YtkgffhlpcjjobaaGreatDoorRows
import GoSem.ClaimSeven
namespace Go.Proofs.YtkgffhlpcjjobaaGreatDoor
namespace Rows

/-- THE TIED CARD OF 'laws.FnPlanText'. -/
def fnPlanTextCard : Claim7 := { stood := { row := fnPlanTextRow, standIns := [], harness := (true, "58ee02d6b3687c8f3c008a0e7999abd75e9539c9f865ea809f427fce7b5d456e"), looks := true }, kinds := [], alts := [], laidByText := true, laidKinds := [.data, .data, .data, .data, .sentinel, .sentinel, .data, .data, .pinned], laidTests := true, laidLooks := .later }
def FnPlanTextCardSaid : Prop := Claim7.holds Tryz.pinned (.plain (OpenSpec.ofChange fnPlanTextSpec)) fnPlanTextCard

/-- THE TIED CARD OF 'laws.FnCaught'. -/
def fnCaughtCard : Claim7 := { stood := { row := fnCaughtRow, standIns := [], harness := (true, "58ee02d6b3687c8f3c008a0e7999abd75e9539c9f865ea809f427fce7b5d456e"), looks := true }, kinds := [], alts := [], laidByText := true, laidKinds := [.data, .data, .data, .data, .sentinel, .sentinel, .pinned], laidTests := true, laidLooks := .later }
def FnCaughtCardSaid : Prop := Claim7.holds Tryz.pinned (.plain (OpenSpec.ofChange fnCaughtSpec)) fnCaughtCard

/-- THE TIED CARD OF 'laws.FnRunHalves'. -/
def fnRunHalvesCard : Claim7 := { stood := { row := fnRunHalvesRow, standIns := [], harness := (true, "58ee02d6b3687c8f3c008a0e7999abd75e9539c9f865ea809f427fce7b5d456e"), looks := true }, kinds := [], alts := [], laidByText := true, laidKinds := [.data, .data, .data, .data, .sentinel, .sentinel, .pinned], laidTests := true, laidLooks := .later }
def FnRunHalvesCardSaid : Prop := Claim7.holds Tryz.pinned (.plain (OpenSpec.ofChange fnRunHalvesSpec)) fnRunHalvesCard

/-- THE TIED CARD OF 'laws.FnRunKeeps'. -/
def fnRunKeepsCard : Claim7 := { stood := { row := fnRunKeepsRow, standIns := [], harness := (true, "58ee02d6b3687c8f3c008a0e7999abd75e9539c9f865ea809f427fce7b5d456e"), looks := true }, kinds := [], alts := [], laidByText := true, laidKinds := [.data, .data, .data, .data, .sentinel, .sentinel, .pinned], laidTests := true, laidLooks := .later }
def FnRunKeepsCardSaid : Prop := Claim7.holds Tryz.pinned (.plain (OpenSpec.ofChange fnRunKeepsSpec)) fnRunKeepsCard

/-- THE TIED CARD OF 'laws.FnShapesDecide'. -/
def fnShapesDecideCard : Claim7 := { stood := { row := fnShapesDecideRow, standIns := [], harness := (true, "58ee02d6b3687c8f3c008a0e7999abd75e9539c9f865ea809f427fce7b5d456e"), looks := true }, kinds := [], alts := [], laidByText := true, laidKinds := [.data, .data, .data, .data, .sentinel, .sentinel, .pinned], laidTests := true, laidLooks := .later }
def FnShapesDecideCardSaid : Prop := Claim7.holds Tryz.pinned (.plain (OpenSpec.ofChange fnShapesDecideSpec)) fnShapesDecideCard

/-- THE SECOND FORM's CARD OF 'laws.FnPlanText'. -/
def fnPlanTextUptoCard : Claim7 := { stood := { row := fnPlanTextUptoRow, standIns := [], harness := (true, "58ee02d6b3687c8f3c008a0e7999abd75e9539c9f865ea809f427fce7b5d456e"), looks := true }, kinds := [], alts := [], laidByText := true, laidKinds := [.data, .data, .data, .data, .sentinel, .sentinel, .data, .data, .pinned], laidTests := true, laidLooks := .later }
def FnPlanTextUptoCardSaid : Prop := Claim7.holds Tryz.pinned (.plain (OpenSpec.upto fnPlanTextSpec)) fnPlanTextUptoCard

/-- THE SECOND FORM's CARD OF 'laws.FnCaught'. -/
def fnCaughtUptoCard : Claim7 := { stood := { row := fnCaughtUptoRow, standIns := [], harness := (true, "58ee02d6b3687c8f3c008a0e7999abd75e9539c9f865ea809f427fce7b5d456e"), looks := true }, kinds := [], alts := [], laidByText := true, laidKinds := [.data, .data, .data, .data, .sentinel, .sentinel, .pinned], laidTests := true, laidLooks := .later }
def FnCaughtUptoCardSaid : Prop := Claim7.holds Tryz.pinned (.plain (OpenSpec.upto fnCaughtSpec)) fnCaughtUptoCard

/-- THE SECOND FORM's CARD OF 'laws.FnRunHalves'. -/
def fnRunHalvesUptoCard : Claim7 := { stood := { row := fnRunHalvesUptoRow, standIns := [], harness := (true, "58ee02d6b3687c8f3c008a0e7999abd75e9539c9f865ea809f427fce7b5d456e"), looks := true }, kinds := [], alts := [], laidByText := true, laidKinds := [.data, .data, .data, .data, .sentinel, .sentinel, .pinned], laidTests := true, laidLooks := .later }
def FnRunHalvesUptoCardSaid : Prop := Claim7.holds Tryz.pinned (.plain (OpenSpec.upto fnRunHalvesSpec)) fnRunHalvesUptoCard

/-- THE SECOND FORM's CARD OF 'laws.FnRunKeeps'. -/
def fnRunKeepsUptoCard : Claim7 := { stood := { row := fnRunKeepsUptoRow, standIns := [], harness := (true, "58ee02d6b3687c8f3c008a0e7999abd75e9539c9f865ea809f427fce7b5d456e"), looks := true }, kinds := [], alts := [], laidByText := true, laidKinds := [.data, .data, .data, .data, .sentinel, .sentinel, .pinned], laidTests := true, laidLooks := .later }
def FnRunKeepsUptoCardSaid : Prop := Claim7.holds Tryz.pinned (.plain (OpenSpec.upto fnRunKeepsSpec)) fnRunKeepsUptoCard

/-- THE SECOND FORM's CARD OF 'laws.FnShapesDecide'. -/
def fnShapesDecideUptoCard : Claim7 := { stood := { row := fnShapesDecideUptoRow, standIns := [], harness := (true, "58ee02d6b3687c8f3c008a0e7999abd75e9539c9f865ea809f427fce7b5d456e"), looks := true }, kinds := [], alts := [], laidByText := true, laidKinds := [.data, .data, .data, .data, .sentinel, .sentinel, .pinned], laidTests := true, laidLooks := .later }
def FnShapesDecideUptoCardSaid : Prop := Claim7.holds Tryz.pinned (.plain (OpenSpec.upto fnShapesDecideSpec)) fnShapesDecideUptoCard
end Rows
end Go.Proofs.YtkgffhlpcjjobaaGreatDoor
