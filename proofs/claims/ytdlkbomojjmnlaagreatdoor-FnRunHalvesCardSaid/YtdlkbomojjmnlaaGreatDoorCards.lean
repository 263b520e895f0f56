/-
  DERIVED. GIVEN WITH THE SEED: THE CARDS: each row of YtdlkbomojjmnlaaGreatDoorRows.lean that lists a variable, with what it lists TIED to the program's text (the seventh form; the later family's looks); each row that meets fmt, with fmt's text TOLD by the authors' own Lean function (tested against real Go, not proved from fmt's source: count such statements apart). THE CARD IS WHAT COUNTS. Prove the row's statement (the work); the ties are given (YtdlkbomojjmnlaaGreatDoorTie.lean); close each card by the builder's one call (the guide's Derived/Test/ToyasCard.lean, 'card_holds'). Laid BY PROGRAM, IN A SANDBOX (cutbox-door.mjs). By AI agents, Wed Nov 11 2026. No macro, syntax, notation, axiom, sorry.
-/
import Derived.Test.YtdlkbomojjmnlaaGreatDoorRows
import GoSem.ClaimSeven
namespace Go.Proofs.YtdlkbomojjmnlaaGreatDoor
namespace Rows

/-- THE TIED CARD OF 'laws.FnCaught'. -/
def fnCaughtCard : Claim7 := { stood := { row := fnCaughtRow, standIns := [], harness := (true, "e07cebe24ac2e4ad25cf02315d70b555362d871dbe34ef9b11f88bda1a276f81"), looks := true }, kinds := [], alts := [], laidByText := true, laidKinds := [.data, .data, .data, .data, .sentinel, .sentinel, .pinned], laidTests := true, laidLooks := .later }
def FnCaughtCardSaid : Prop := Claim7.holds Tryz.pinned (.plain (OpenSpec.ofChange fnCaughtSpec)) fnCaughtCard

/-- THE TIED CARD OF 'laws.FnRunHalves'. -/
def fnRunHalvesCard : Claim7 := { stood := { row := fnRunHalvesRow, standIns := [], harness := (true, "e07cebe24ac2e4ad25cf02315d70b555362d871dbe34ef9b11f88bda1a276f81"), looks := true }, kinds := [], alts := [], laidByText := true, laidKinds := [.data, .data, .data, .data, .sentinel, .sentinel, .pinned], laidTests := true, laidLooks := .later }
def FnRunHalvesCardSaid : Prop := Claim7.holds Tryz.pinned (.plain (OpenSpec.ofChange fnRunHalvesSpec)) fnRunHalvesCard

/-- THE TIED CARD OF 'laws.FnRunKeeps'. -/
def fnRunKeepsCard : Claim7 := { stood := { row := fnRunKeepsRow, standIns := [], harness := (true, "e07cebe24ac2e4ad25cf02315d70b555362d871dbe34ef9b11f88bda1a276f81"), looks := true }, kinds := [], alts := [], laidByText := true, laidKinds := [.data, .data, .data, .data, .sentinel, .sentinel, .pinned], laidTests := true, laidLooks := .later }
def FnRunKeepsCardSaid : Prop := Claim7.holds Tryz.pinned (.plain (OpenSpec.ofChange fnRunKeepsSpec)) fnRunKeepsCard

/-- THE TIED CARD OF 'laws.FnShapesDecide'. -/
def fnShapesDecideCard : Claim7 := { stood := { row := fnShapesDecideRow, standIns := [], harness := (true, "e07cebe24ac2e4ad25cf02315d70b555362d871dbe34ef9b11f88bda1a276f81"), looks := true }, kinds := [], alts := [], laidByText := true, laidKinds := [.data, .data, .data, .data, .sentinel, .sentinel, .pinned], laidTests := true, laidLooks := .later }
def FnShapesDecideCardSaid : Prop := Claim7.holds Tryz.pinned (.plain (OpenSpec.ofChange fnShapesDecideSpec)) fnShapesDecideCard

/-- THE TIED CARD OF 'laws.FnExactWantsOf'. -/
def fnExactWantsOfCard : Claim7 := { stood := { row := fnExactWantsOfRow, standIns := [], harness := (true, "e07cebe24ac2e4ad25cf02315d70b555362d871dbe34ef9b11f88bda1a276f81"), looks := true }, kinds := [], alts := [], laidByText := true, laidKinds := [.data, .data, .data, .data, .sentinel, .sentinel, .pinned], laidTests := true, laidLooks := .later }
def FnExactWantsOfCardSaid : Prop := Claim7.holds Tryz.pinned (.plain (OpenSpec.ofChange fnExactWantsOfSpec)) fnExactWantsOfCard

/-- THE TIED CARD OF 'laws.FnExactIsSafe'. -/
def fnExactIsSafeCard : Claim7 := { stood := { row := fnExactIsSafeRow, standIns := [], harness := (true, "e07cebe24ac2e4ad25cf02315d70b555362d871dbe34ef9b11f88bda1a276f81"), looks := true }, kinds := [], alts := [], laidByText := true, laidKinds := [.data, .data, .data, .data, .sentinel, .sentinel, .pinned], laidTests := true, laidLooks := .later }
def FnExactIsSafeCardSaid : Prop := Claim7.holds Tryz.pinned (.plain (OpenSpec.ofChange fnExactIsSafeSpec)) fnExactIsSafeCard

/-- THE SECOND FORM's CARD OF 'laws.FnCaught'. -/
def fnCaughtUptoCard : Claim7 := { stood := { row := fnCaughtUptoRow, standIns := [], harness := (true, "e07cebe24ac2e4ad25cf02315d70b555362d871dbe34ef9b11f88bda1a276f81"), looks := true }, kinds := [], alts := [], laidByText := true, laidKinds := [.data, .data, .data, .data, .sentinel, .sentinel, .pinned], laidTests := true, laidLooks := .later }
def FnCaughtUptoCardSaid : Prop := Claim7.holds Tryz.pinned (.plain (OpenSpec.upto fnCaughtSpec)) fnCaughtUptoCard

/-- THE SECOND FORM's CARD OF 'laws.FnRunHalves'. -/
def fnRunHalvesUptoCard : Claim7 := { stood := { row := fnRunHalvesUptoRow, standIns := [], harness := (true, "e07cebe24ac2e4ad25cf02315d70b555362d871dbe34ef9b11f88bda1a276f81"), looks := true }, kinds := [], alts := [], laidByText := true, laidKinds := [.data, .data, .data, .data, .sentinel, .sentinel, .pinned], laidTests := true, laidLooks := .later }
def FnRunHalvesUptoCardSaid : Prop := Claim7.holds Tryz.pinned (.plain (OpenSpec.upto fnRunHalvesSpec)) fnRunHalvesUptoCard

/-- THE SECOND FORM's CARD OF 'laws.FnRunKeeps'. -/
def fnRunKeepsUptoCard : Claim7 := { stood := { row := fnRunKeepsUptoRow, standIns := [], harness := (true, "e07cebe24ac2e4ad25cf02315d70b555362d871dbe34ef9b11f88bda1a276f81"), looks := true }, kinds := [], alts := [], laidByText := true, laidKinds := [.data, .data, .data, .data, .sentinel, .sentinel, .pinned], laidTests := true, laidLooks := .later }
def FnRunKeepsUptoCardSaid : Prop := Claim7.holds Tryz.pinned (.plain (OpenSpec.upto fnRunKeepsSpec)) fnRunKeepsUptoCard

/-- THE SECOND FORM's CARD OF 'laws.FnShapesDecide'. -/
def fnShapesDecideUptoCard : Claim7 := { stood := { row := fnShapesDecideUptoRow, standIns := [], harness := (true, "e07cebe24ac2e4ad25cf02315d70b555362d871dbe34ef9b11f88bda1a276f81"), looks := true }, kinds := [], alts := [], laidByText := true, laidKinds := [.data, .data, .data, .data, .sentinel, .sentinel, .pinned], laidTests := true, laidLooks := .later }
def FnShapesDecideUptoCardSaid : Prop := Claim7.holds Tryz.pinned (.plain (OpenSpec.upto fnShapesDecideSpec)) fnShapesDecideUptoCard

/-- THE SECOND FORM's CARD OF 'laws.FnExactWantsOf'. -/
def fnExactWantsOfUptoCard : Claim7 := { stood := { row := fnExactWantsOfUptoRow, standIns := [], harness := (true, "e07cebe24ac2e4ad25cf02315d70b555362d871dbe34ef9b11f88bda1a276f81"), looks := true }, kinds := [], alts := [], laidByText := true, laidKinds := [.data, .data, .data, .data, .sentinel, .sentinel, .pinned], laidTests := true, laidLooks := .later }
def FnExactWantsOfUptoCardSaid : Prop := Claim7.holds Tryz.pinned (.plain (OpenSpec.upto fnExactWantsOfSpec)) fnExactWantsOfUptoCard

/-- THE SECOND FORM's CARD OF 'laws.FnExactIsSafe'. -/
def fnExactIsSafeUptoCard : Claim7 := { stood := { row := fnExactIsSafeUptoRow, standIns := [], harness := (true, "e07cebe24ac2e4ad25cf02315d70b555362d871dbe34ef9b11f88bda1a276f81"), looks := true }, kinds := [], alts := [], laidByText := true, laidKinds := [.data, .data, .data, .data, .sentinel, .sentinel, .pinned], laidTests := true, laidLooks := .later }
def FnExactIsSafeUptoCardSaid : Prop := Claim7.holds Tryz.pinned (.plain (OpenSpec.upto fnExactIsSafeSpec)) fnExactIsSafeUptoCard
end Rows
end Go.Proofs.YtdlkbomojjmnlaaGreatDoor
