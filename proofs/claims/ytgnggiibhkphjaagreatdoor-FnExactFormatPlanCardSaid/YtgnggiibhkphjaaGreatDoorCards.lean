/-
  DERIVED. GIVEN WITH THE SEED: THE CARDS: each row of YtgnggiibhkphjaaGreatDoorRows.lean that lists a variable, with what it lists TIED to the program's text (the seventh form; the later family's looks); each row that meets fmt, with fmt's text TOLD by the authors' own Lean function (tested against real Go, not proved from fmt's source: count such statements apart). THE CARD IS WHAT COUNTS. Prove the row's statement (the work); the ties are given (YtgnggiibhkphjaaGreatDoorTie.lean); close each card by the builder's one call (the guide's Derived/Test/ToyasCard.lean, 'card_holds'). Laid BY PROGRAM, IN A SANDBOX (cutbox-door.mjs). By AI agents, Wed Nov 11 2026. No macro, syntax, notation, axiom, sorry.
-/
import Derived.Test.YtgnggiibhkphjaaGreatDoorRows
import GoSem.ClaimSeven
namespace Go.Proofs.YtgnggiibhkphjaaGreatDoor
namespace Rows

/-- THE TIED CARD OF 'laws.FnExactIsPlan'. -/
def fnExactIsPlanCard : Claim7 := { stood := { row := fnExactIsPlanRow, standIns := [], harness := (true, "2476730f314539b32a1b4e1d39dc0706893010abc381c4e099a8a61721d943fe"), looks := true }, kinds := [], alts := [], laidByText := true, laidKinds := [.data, .data, .data, .data, .sentinel, .sentinel, .pinned], laidTests := true, laidLooks := .later }
def FnExactIsPlanCardSaid : Prop := Claim7.holds Tryz.pinned (.plain (OpenSpec.ofChange fnExactIsPlanSpec)) fnExactIsPlanCard

/-- THE TIED CARD OF 'laws.FnExactIsPlainPlan'. -/
def fnExactIsPlainPlanCard : Claim7 := { stood := { row := fnExactIsPlainPlanRow, standIns := [], harness := (true, "2476730f314539b32a1b4e1d39dc0706893010abc381c4e099a8a61721d943fe"), looks := true }, kinds := [], alts := [], laidByText := true, laidKinds := [.data, .data, .data, .data, .sentinel, .sentinel, .pinned], laidTests := true, laidLooks := .later }
def FnExactIsPlainPlanCardSaid : Prop := Claim7.holds Tryz.pinned (.plain (OpenSpec.ofChange fnExactIsPlainPlanSpec)) fnExactIsPlainPlanCard

/-- THE TIED CARD OF 'laws.FnExactFormatPlan'. -/
def fnExactFormatPlanCard : Claim7 := { stood := { row := fnExactFormatPlanRow, standIns := [], harness := (true, "2476730f314539b32a1b4e1d39dc0706893010abc381c4e099a8a61721d943fe"), looks := true }, kinds := [], alts := [], laidByText := true, laidKinds := [.data, .data, .data, .data, .sentinel, .sentinel, .data, .data, .pinned], laidTests := true, laidLooks := .later }
def FnExactFormatPlanCardSaid : Prop := Claim7.holds Tryz.pinned (.plain (OpenSpec.ofChange fnExactFormatPlanSpec)) fnExactFormatPlanCard

/-- THE SECOND FORM's CARD OF 'laws.FnExactIsPlan'. -/
def fnExactIsPlanUptoCard : Claim7 := { stood := { row := fnExactIsPlanUptoRow, standIns := [], harness := (true, "2476730f314539b32a1b4e1d39dc0706893010abc381c4e099a8a61721d943fe"), looks := true }, kinds := [], alts := [], laidByText := true, laidKinds := [.data, .data, .data, .data, .sentinel, .sentinel, .pinned], laidTests := true, laidLooks := .later }
def FnExactIsPlanUptoCardSaid : Prop := Claim7.holds Tryz.pinned (.plain (OpenSpec.upto fnExactIsPlanSpec)) fnExactIsPlanUptoCard

/-- THE SECOND FORM's CARD OF 'laws.FnExactIsPlainPlan'. -/
def fnExactIsPlainPlanUptoCard : Claim7 := { stood := { row := fnExactIsPlainPlanUptoRow, standIns := [], harness := (true, "2476730f314539b32a1b4e1d39dc0706893010abc381c4e099a8a61721d943fe"), looks := true }, kinds := [], alts := [], laidByText := true, laidKinds := [.data, .data, .data, .data, .sentinel, .sentinel, .pinned], laidTests := true, laidLooks := .later }
def FnExactIsPlainPlanUptoCardSaid : Prop := Claim7.holds Tryz.pinned (.plain (OpenSpec.upto fnExactIsPlainPlanSpec)) fnExactIsPlainPlanUptoCard

/-- THE SECOND FORM's CARD OF 'laws.FnExactFormatPlan'. -/
def fnExactFormatPlanUptoCard : Claim7 := { stood := { row := fnExactFormatPlanUptoRow, standIns := [], harness := (true, "2476730f314539b32a1b4e1d39dc0706893010abc381c4e099a8a61721d943fe"), looks := true }, kinds := [], alts := [], laidByText := true, laidKinds := [.data, .data, .data, .data, .sentinel, .sentinel, .data, .data, .pinned], laidTests := true, laidLooks := .later }
def FnExactFormatPlanUptoCardSaid : Prop := Claim7.holds Tryz.pinned (.plain (OpenSpec.upto fnExactFormatPlanSpec)) fnExactFormatPlanUptoCard
end Rows
end Go.Proofs.YtgnggiibhkphjaaGreatDoor
