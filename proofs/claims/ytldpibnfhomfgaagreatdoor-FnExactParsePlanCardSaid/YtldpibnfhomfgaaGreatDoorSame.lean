/- SameCore, SamePart, SameSlots, of the reference and of the program: they tell whether the data are the same. Written by a program. -/
import Derived.Test.YtldpibnfhomfgaaGreatDoorTypes
import Derived.Deep.RegionHeld3
namespace Go.Proofs.YtldpibnfhomfgaaGreatDoor
open Go.RowKit

def BoolPost (p : Prop) (w : World) (e : Ending) (w' : World) : Prop := ∃ t : Bool, e = .returned (.bool t) ∧ (t = true ↔ p) ∧ Chg [] w w'
end Go.Proofs.YtldpibnfhomfgaaGreatDoor
