/-
  DERIVED. GIVEN WITH THE SEED: THE CARDS: each row of YtfjhdnjlhjimeaaGreatDoorRows.lean that lists a variable, with what it lists TIED to the program's text (the seventh form; the later family's looks); each row that meets fmt, with fmt's text TOLD by the authors' own Lean function (tested against real Go, not proved from fmt's source: count such statements apart). THE CARD IS WHAT COUNTS. Prove the row's statement (the work); the ties are given (YtfjhdnjlhjimeaaGreatDoorTie.lean); close each card by the builder's one call (the guide's Derived/Test/ToyasCard.lean, 'card_holds'). Laid BY PROGRAM, IN A SANDBOX (cutbox-door.mjs). By AI agents, Wed Nov 11 2026. No macro, syntax, notation, axiom, sorry.
-/
import Derived.Test.YtfjhdnjlhjimeaaGreatDoorRows
import GoSem.ClaimSeven
namespace Go.Proofs.YtfjhdnjlhjimeaaGreatDoor
namespace Rows

/-- THE TIED CARD OF 'laws.FnCheckLine'. -/
def fnCheckLineCard : Claim7 := { stood := { row := fnCheckLineRow, standIns := [], harness := (true, "3e5e74e86f6ea5b7ac47989685f52df985e70391c9e3e9619e47ac32474b2061"), looks := true }, kinds := [], alts := [], laidByText := true, laidKinds := [.data, .data, .data, .data, .sentinel, .sentinel, .data, .pinned], laidTests := true, laidLooks := .later }
def FnCheckLineCardSaid : Prop := Claim7.holds Tryz.pinned (.plain (OpenSpec.ofChange fnCheckLineSpec)) fnCheckLineCard

/-- THE TIED CARD OF 'laws.FnTrimmed'. -/
def fnTrimmedCard : Claim7 := { stood := { row := fnTrimmedRow, standIns := [], harness := (true, "3e5e74e86f6ea5b7ac47989685f52df985e70391c9e3e9619e47ac32474b2061"), looks := true }, kinds := [], alts := [], laidByText := true, laidKinds := [.data, .data, .data, .data, .sentinel, .sentinel, .pinned], laidTests := true, laidLooks := .later }
def FnTrimmedCardSaid : Prop := Claim7.holds Tryz.pinned (.plain (OpenSpec.ofChange fnTrimmedSpec)) fnTrimmedCard

/-- THE TIED CARD OF 'laws.FnExactWantsOf'. -/
def fnExactWantsOfCard : Claim7 := { stood := { row := fnExactWantsOfRow, standIns := [], harness := (true, "3e5e74e86f6ea5b7ac47989685f52df985e70391c9e3e9619e47ac32474b2061"), looks := true }, kinds := [], alts := [], laidByText := true, laidKinds := [.data, .data, .data, .data, .sentinel, .sentinel, .pinned], laidTests := true, laidLooks := .later }
def FnExactWantsOfCardSaid : Prop := Claim7.holds Tryz.pinned (.plain (OpenSpec.ofChange fnExactWantsOfSpec)) fnExactWantsOfCard

/-- THE TIED CARD OF 'laws.FnWantsRun'. -/
def fnWantsRunCard : Claim7 := { stood := { row := fnWantsRunRow, standIns := [], harness := (true, "3e5e74e86f6ea5b7ac47989685f52df985e70391c9e3e9619e47ac32474b2061"), looks := true }, kinds := [], alts := [], laidByText := true, laidKinds := [.data, .data, .data, .data, .sentinel, .sentinel, .pinned], laidTests := true, laidLooks := .later }
def FnWantsRunCardSaid : Prop := Claim7.holds Tryz.pinned (.plain (OpenSpec.ofChange fnWantsRunSpec)) fnWantsRunCard

/-- THE SECOND FORM's CARD OF 'laws.FnCheckLine'. -/
def fnCheckLineUptoCard : Claim7 := { stood := { row := fnCheckLineUptoRow, standIns := [], harness := (true, "3e5e74e86f6ea5b7ac47989685f52df985e70391c9e3e9619e47ac32474b2061"), looks := true }, kinds := [], alts := [], laidByText := true, laidKinds := [.data, .data, .data, .data, .sentinel, .sentinel, .data, .pinned], laidTests := true, laidLooks := .later }
def FnCheckLineUptoCardSaid : Prop := Claim7.holds Tryz.pinned (.plain (OpenSpec.upto fnCheckLineSpec)) fnCheckLineUptoCard

/-- THE SECOND FORM's CARD OF 'laws.FnTrimmed'. -/
def fnTrimmedUptoCard : Claim7 := { stood := { row := fnTrimmedUptoRow, standIns := [], harness := (true, "3e5e74e86f6ea5b7ac47989685f52df985e70391c9e3e9619e47ac32474b2061"), looks := true }, kinds := [], alts := [], laidByText := true, laidKinds := [.data, .data, .data, .data, .sentinel, .sentinel, .pinned], laidTests := true, laidLooks := .later }
def FnTrimmedUptoCardSaid : Prop := Claim7.holds Tryz.pinned (.plain (OpenSpec.upto fnTrimmedSpec)) fnTrimmedUptoCard

/-- THE SECOND FORM's CARD OF 'laws.FnExactWantsOf'. -/
def fnExactWantsOfUptoCard : Claim7 := { stood := { row := fnExactWantsOfUptoRow, standIns := [], harness := (true, "3e5e74e86f6ea5b7ac47989685f52df985e70391c9e3e9619e47ac32474b2061"), looks := true }, kinds := [], alts := [], laidByText := true, laidKinds := [.data, .data, .data, .data, .sentinel, .sentinel, .pinned], laidTests := true, laidLooks := .later }
def FnExactWantsOfUptoCardSaid : Prop := Claim7.holds Tryz.pinned (.plain (OpenSpec.upto fnExactWantsOfSpec)) fnExactWantsOfUptoCard

/-- THE SECOND FORM's CARD OF 'laws.FnWantsRun'. -/
def fnWantsRunUptoCard : Claim7 := { stood := { row := fnWantsRunUptoRow, standIns := [], harness := (true, "3e5e74e86f6ea5b7ac47989685f52df985e70391c9e3e9619e47ac32474b2061"), looks := true }, kinds := [], alts := [], laidByText := true, laidKinds := [.data, .data, .data, .data, .sentinel, .sentinel, .pinned], laidTests := true, laidLooks := .later }
def FnWantsRunUptoCardSaid : Prop := Claim7.holds Tryz.pinned (.plain (OpenSpec.upto fnWantsRunSpec)) fnWantsRunUptoCard
end Rows
end Go.Proofs.YtfjhdnjlhjimeaaGreatDoor
