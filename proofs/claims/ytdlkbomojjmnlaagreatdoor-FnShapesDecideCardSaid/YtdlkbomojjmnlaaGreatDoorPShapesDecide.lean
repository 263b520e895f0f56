/- FnShapesDecide: for all bytes, the law returns true and the bytes read as before. Conditions: none beyond the row's own; the card ties the listed tables and variables to the program's text. Written by a program. -/
import Derived.Test.YtdlkbomojjmnlaaGreatDoorFrames
import Derived.Test.YtdlkbomojjmnlaaGreatDoorLawShapesDecide
import Derived.Test.YtdlkbomojjmnlaaGreatDoorTie
import Derived.Test.YtdlkbomojjmnlaaGreatDoorCards
import Derived.LaidMore
import Derived.Lay
import Derived.SevenTiedAt
import Derived.OpenShut
set_option maxRecDepth 100000
namespace Go.Proofs.YtdlkbomojjmnlaaGreatDoor
open Go.ChangeShapes Go.WideShapes Go.ChangeAt Go.RowKit

end Go.Proofs.YtdlkbomojjmnlaaGreatDoor
