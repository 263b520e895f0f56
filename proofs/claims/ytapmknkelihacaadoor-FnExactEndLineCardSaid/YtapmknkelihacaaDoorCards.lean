/-
  DERIVED. GIVEN WITH THE SEED: THE CARDS: each row of YtapmknkelihacaaDoorRows.lean that lists a variable, with what it lists TIED to the program's text (the seventh form; the later family's looks); each row that meets fmt, with fmt's text TOLD by the authors' own Lean function (tested against real Go, not proved from fmt's source: count such statements apart). THE CARD IS WHAT COUNTS. Prove the row's statement (the work); the ties are given (YtapmknkelihacaaDoorTie.lean); close each card by the builder's one call (the guide's Derived/Test/ToyasCard.lean, 'card_holds'). Laid BY PROGRAM, IN A SANDBOX (cutbox-door.mjs). By AI agents, Wed Nov 11 2026. No macro, syntax, notation, axiom, sorry.
-/
import Derived.Test.YtapmknkelihacaaDoorRows
import GoSem.ClaimSeven
namespace Go.Proofs.YtapmknkelihacaaDoor
namespace Rows

/-- THE TIED CARD OF 'laws.FnExactIsShapes'. -/
def fnExactIsShapesCard : Claim7 := { stood := { row := fnExactIsShapesRow, standIns := [], harness := (true, "7a672ca82b5936afeab35c845c161a1bdec87e64de23451be969db7b71ad60d2"), looks := false }, kinds := [], alts := [], laidByText := true, laidKinds := [.data, .pinned], laidTests := true, laidLooks := .later }
def FnExactIsShapesCardSaid : Prop := Claim7.holds Tryd.pinned (.plain (OpenSpec.ofChange fnExactIsShapesSpec)) fnExactIsShapesCard

/-- THE TIED CARD OF 'laws.FnExactEndLine'. -/
def fnExactEndLineCard : Claim7 := { stood := { row := fnExactEndLineRow, standIns := [], harness := (true, "7a672ca82b5936afeab35c845c161a1bdec87e64de23451be969db7b71ad60d2"), looks := false }, kinds := [], alts := [], laidByText := true, laidKinds := [.data, .data, .data, .data], laidTests := true, laidLooks := .later }
def FnExactEndLineCardSaid : Prop := Claim7.holds Tryd.pinned (.plain (OpenSpec.ofChange fnExactEndLineSpec)) fnExactEndLineCard

/-- THE SECOND FORM's CARD OF 'laws.FnExactIsShapes'. -/
def fnExactIsShapesUptoCard : Claim7 := { stood := { row := fnExactIsShapesUptoRow, standIns := [], harness := (true, "7a672ca82b5936afeab35c845c161a1bdec87e64de23451be969db7b71ad60d2"), looks := false }, kinds := [], alts := [], laidByText := true, laidKinds := [.data, .pinned], laidTests := true, laidLooks := .later }
def FnExactIsShapesUptoCardSaid : Prop := Claim7.holds Tryd.pinned (.plain (OpenSpec.upto fnExactIsShapesSpec)) fnExactIsShapesUptoCard

/-- THE SECOND FORM's CARD OF 'laws.FnExactEndLine'. -/
def fnExactEndLineUptoCard : Claim7 := { stood := { row := fnExactEndLineUptoRow, standIns := [], harness := (true, "7a672ca82b5936afeab35c845c161a1bdec87e64de23451be969db7b71ad60d2"), looks := false }, kinds := [], alts := [], laidByText := true, laidKinds := [.data, .data, .data, .data], laidTests := true, laidLooks := .later }
def FnExactEndLineUptoCardSaid : Prop := Claim7.holds Tryd.pinned (.plain (OpenSpec.upto fnExactEndLineSpec)) fnExactEndLineUptoCard
end Rows
end Go.Proofs.YtapmknkelihacaaDoor
