/- Copies of actions, of the reference. Written by a program. -/
import Derived.Test.YtdlkbomojjmnlaaGreatDoorTypesA
import Derived.Test.YtdlkbomojjmnlaaGreatDoorApps
set_option maxRecDepth 100000
set_option maxHeartbeats 2000000
namespace Go.Proofs.YtdlkbomojjmnlaaGreatDoor
open Go.RowKit
end Go.Proofs.YtdlkbomojjmnlaaGreatDoor
