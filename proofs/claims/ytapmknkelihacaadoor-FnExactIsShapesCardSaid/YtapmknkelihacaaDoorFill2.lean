/- FillSlots of the reference. Written by a program. -/
import Derived.Test.YtapmknkelihacaaDoorFill
namespace Go.Proofs.YtapmknkelihacaaDoor
open Go.RowKit

end Go.Proofs.YtapmknkelihacaaDoor
