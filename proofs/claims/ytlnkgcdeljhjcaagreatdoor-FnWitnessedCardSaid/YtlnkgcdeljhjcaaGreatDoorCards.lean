/-
  DERIVED. GIVEN WITH THE SEED: THE CARDS: each row of YtlnkgcdeljhjcaaGreatDoorRows.lean that lists a variable, with what it lists TIED to the program's text (the seventh form; the later family's looks); each row that meets fmt, with fmt's text TOLD by the authors' own Lean function (tested against real Go, not proved from fmt's source: count such statements apart). THE CARD IS WHAT COUNTS. Prove the row's statement (the work); the ties are given (YtlnkgcdeljhjcaaGreatDoorTie.lean); close each card by the builder's one call (the guide's Derived/Test/ToyasCard.lean, 'card_holds'). Laid BY PROGRAM, IN A SANDBOX (cutbox-door.mjs). By AI agents, Wed Nov 11 2026. No macro, syntax, notation, axiom, sorry.
-/
import Derived.Test.YtlnkgcdeljhjcaaGreatDoorRows
import GoSem.ClaimSeven
namespace Go.Proofs.YtlnkgcdeljhjcaaGreatDoor
namespace Rows

/-- THE TIED CARD OF 'laws.FnWitnessed'. -/
def fnWitnessedCard : Claim7 := { stood := { row := fnWitnessedRow, standIns := [], harness := (true, "4777a477ac9ca65780cbe2582c5916dfc4d50abad9201f325e69feb386ac7900"), looks := true }, kinds := [], alts := [], laidByText := true, laidKinds := [.data, .data, .data, .data, .sentinel, .sentinel, .pinned], laidTests := true, laidLooks := .later }
def FnWitnessedCardSaid : Prop := Claim7.holds Tryz.pinned (.plain (OpenSpec.ofChange fnWitnessedSpec)) fnWitnessedCard

/-- THE TIED CARD OF 'laws.FnCheckLine'. -/
def fnCheckLineCard : Claim7 := { stood := { row := fnCheckLineRow, standIns := [], harness := (true, "4777a477ac9ca65780cbe2582c5916dfc4d50abad9201f325e69feb386ac7900"), looks := true }, kinds := [], alts := [], laidByText := true, laidKinds := [.data, .data, .data, .data, .sentinel, .sentinel, .data, .pinned], laidTests := true, laidLooks := .later }
def FnCheckLineCardSaid : Prop := Claim7.holds Tryz.pinned (.plain (OpenSpec.ofChange fnCheckLineSpec)) fnCheckLineCard

/-- THE TIED CARD OF 'laws.FnTrimmed'. -/
def fnTrimmedCard : Claim7 := { stood := { row := fnTrimmedRow, standIns := [], harness := (true, "4777a477ac9ca65780cbe2582c5916dfc4d50abad9201f325e69feb386ac7900"), looks := true }, kinds := [], alts := [], laidByText := true, laidKinds := [.data, .data, .data, .data, .sentinel, .sentinel, .pinned], laidTests := true, laidLooks := .later }
def FnTrimmedCardSaid : Prop := Claim7.holds Tryz.pinned (.plain (OpenSpec.ofChange fnTrimmedSpec)) fnTrimmedCard

/-- THE TIED CARD OF 'laws.FnAllEnds'. -/
def fnAllEndsCard : Claim7 := { stood := { row := fnAllEndsRow, standIns := [], harness := (true, "4777a477ac9ca65780cbe2582c5916dfc4d50abad9201f325e69feb386ac7900"), looks := true }, kinds := [], alts := [], laidByText := true, laidKinds := [.data, .data, .data, .data, .sentinel, .sentinel, .pinned], laidTests := true, laidLooks := .later }
def FnAllEndsCardSaid : Prop := Claim7.holds Tryz.pinned (.plain (OpenSpec.ofChange fnAllEndsSpec)) fnAllEndsCard

/-- THE SECOND FORM's CARD OF 'laws.FnWitnessed'. -/
def fnWitnessedUptoCard : Claim7 := { stood := { row := fnWitnessedUptoRow, standIns := [], harness := (true, "4777a477ac9ca65780cbe2582c5916dfc4d50abad9201f325e69feb386ac7900"), looks := true }, kinds := [], alts := [], laidByText := true, laidKinds := [.data, .data, .data, .data, .sentinel, .sentinel, .pinned], laidTests := true, laidLooks := .later }
def FnWitnessedUptoCardSaid : Prop := Claim7.holds Tryz.pinned (.plain (OpenSpec.upto fnWitnessedSpec)) fnWitnessedUptoCard

/-- THE SECOND FORM's CARD OF 'laws.FnCheckLine'. -/
def fnCheckLineUptoCard : Claim7 := { stood := { row := fnCheckLineUptoRow, standIns := [], harness := (true, "4777a477ac9ca65780cbe2582c5916dfc4d50abad9201f325e69feb386ac7900"), looks := true }, kinds := [], alts := [], laidByText := true, laidKinds := [.data, .data, .data, .data, .sentinel, .sentinel, .data, .pinned], laidTests := true, laidLooks := .later }
def FnCheckLineUptoCardSaid : Prop := Claim7.holds Tryz.pinned (.plain (OpenSpec.upto fnCheckLineSpec)) fnCheckLineUptoCard

/-- THE SECOND FORM's CARD OF 'laws.FnTrimmed'. -/
def fnTrimmedUptoCard : Claim7 := { stood := { row := fnTrimmedUptoRow, standIns := [], harness := (true, "4777a477ac9ca65780cbe2582c5916dfc4d50abad9201f325e69feb386ac7900"), looks := true }, kinds := [], alts := [], laidByText := true, laidKinds := [.data, .data, .data, .data, .sentinel, .sentinel, .pinned], laidTests := true, laidLooks := .later }
def FnTrimmedUptoCardSaid : Prop := Claim7.holds Tryz.pinned (.plain (OpenSpec.upto fnTrimmedSpec)) fnTrimmedUptoCard

/-- THE SECOND FORM's CARD OF 'laws.FnAllEnds'. -/
def fnAllEndsUptoCard : Claim7 := { stood := { row := fnAllEndsUptoRow, standIns := [], harness := (true, "4777a477ac9ca65780cbe2582c5916dfc4d50abad9201f325e69feb386ac7900"), looks := true }, kinds := [], alts := [], laidByText := true, laidKinds := [.data, .data, .data, .data, .sentinel, .sentinel, .pinned], laidTests := true, laidLooks := .later }
def FnAllEndsUptoCardSaid : Prop := Claim7.holds Tryz.pinned (.plain (OpenSpec.upto fnAllEndsSpec)) fnAllEndsUptoCard
end Rows
end Go.Proofs.YtlnkgcdeljhjcaaGreatDoor
