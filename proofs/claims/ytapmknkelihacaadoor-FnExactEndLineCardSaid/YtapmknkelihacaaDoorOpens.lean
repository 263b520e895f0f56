/- The readings of arguments as typed data. Written by a program. -/
import Derived.Test.YtapmknkelihacaaDoorTCall
import Derived.Test.YtapmknkelihacaaDoorTAction
import Derived.Test.YtapmknkelihacaaDoorTCell
import Derived.Test.YtapmknkelihacaaDoorTCore
import Derived.Test.YtapmknkelihacaaDoorTLayer
import Derived.Test.YtapmknkelihacaaDoorTPart
import Derived.Test.YtapmknkelihacaaDoorTSlot
namespace Go.Proofs.YtapmknkelihacaaDoor
open Go.ChangeShapes Go.WideShapes Go.RowKit

theorem str_ocells : Tryd.prog.cellsOf 9 = 1 := by kernel_rfl
theorem strs_opens (N : Nat) : Opens Tryd.prog N 22 (listF strC) :=
  Opens.mono (Opens.slice (F := strC) Tryd.underlying22 str_ocells (by omega) strC_len (Opens.string (N := N) Tryd.underlying9)) (by omega)
set_option maxRecDepth 100000 in
theorem cell_opens (N : Nat) : Opens Tryd.prog N 131 cellF :=
  Opens.mono (Opens.map (Opens.struct (N := N) Tryd.underlying131 (by kernel_rfl) (OpensFs.cons (c := 1) rfl (by kernel_rfl) (Opens.string (N := N) Tryd.underlying9) (OpensFs.cons (c := 1) rfl (by kernel_rfl) (Opens.int (N := N) Tryd.underlying3) OpensFs.nil))) (fun p => (.mk p.1 p.2.1 : CellT)) (fun _ => rfl)) (by omega)
theorem cell_ocells : Tryd.prog.cellsOf 131 = 2 := by kernel_rfl
theorem cells_opens (N : Nat) : Opens Tryd.prog N 46 (listF cellF) :=
  Opens.mono (Opens.slice Tryd.underlying46 cell_ocells (by omega) cellF_len (cell_opens N)) (by omega)
set_option maxRecDepth 100000 in
theorem core_opens (N : Nat) : Opens Tryd.prog N 48 coreF :=
  Opens.mono (Opens.map (Opens.struct (N := N) Tryd.underlying48 (by kernel_rfl) (OpensFs.cons (c := 1) rfl (by kernel_rfl) (Opens.string (N := N) Tryd.underlying9) (OpensFs.cons (c := 1) rfl (by kernel_rfl) (Opens.bool (N := N) Tryd.underlying4) (OpensFs.cons (c := 1) rfl (by kernel_rfl) (Opens.bool (N := N) Tryd.underlying4) (OpensFs.cons (c := 1) rfl (by kernel_rfl) (cells_opens N) (OpensFs.cons (c := 1) rfl (by kernel_rfl) (Opens.int (N := N) Tryd.underlying3) OpensFs.nil)))))) (fun p => (.mk p.1 p.2.1 p.2.2.1 p.2.2.2.1 p.2.2.2.2.1 : CoreT)) (fun _ => rfl)) (by omega)
set_option maxRecDepth 100000 in
theorem layer_opens (N : Nat) : Opens Tryd.prog N 115 layerF :=
  Opens.mono (Opens.map (Opens.struct (N := N) Tryd.underlying115 (by kernel_rfl) (OpensFs.cons (c := 1) rfl (by kernel_rfl) (Opens.string (N := N) Tryd.underlying9) (OpensFs.cons (c := 1) rfl (by kernel_rfl) (Opens.int (N := N) Tryd.underlying3) OpensFs.nil))) (fun p => (.mk p.1 p.2.1 : LayerT)) (fun _ => rfl)) (by omega)
theorem layer_ocells : Tryd.prog.cellsOf 115 = 2 := by kernel_rfl
theorem layers_opens (N : Nat) : Opens Tryd.prog N 49 (listF layerF) :=
  Opens.mono (Opens.slice Tryd.underlying49 layer_ocells (by omega) layerF_len (layer_opens N)) (by omega)
set_option maxRecDepth 100000 in
theorem part_opens (N : Nat) : Opens Tryd.prog N 51 partF :=
  Opens.mono (Opens.map (Opens.struct (N := N) Tryd.underlying51 (by kernel_rfl) (OpensFs.cons (c := 5) rfl (by kernel_rfl) (core_opens N) (OpensFs.cons (c := 1) rfl (by kernel_rfl) (layers_opens N) OpensFs.nil))) (fun p => (.mk p.1 p.2.1 : PartT)) (fun _ => rfl)) (by omega)
set_option maxRecDepth 100000 in
theorem slot_opens (N : Nat) : Opens Tryd.prog N 53 slotF :=
  Opens.mono (Opens.map (Opens.struct (N := N) Tryd.underlying53 (by kernel_rfl) (OpensFs.cons (c := 1) rfl (by kernel_rfl) (Opens.bool (N := N) Tryd.underlying4) (OpensFs.cons (c := 6) rfl (by kernel_rfl) (part_opens N) OpensFs.nil))) (fun p => (.mk p.1 p.2.1 : SlotT)) (fun _ => rfl)) (by omega)
theorem slot_ocells : Tryd.prog.cellsOf 53 = 7 := by kernel_rfl
theorem slots_opens (N : Nat) : Opens Tryd.prog N 29 (listF slotF) :=
  Opens.mono (Opens.slice Tryd.underlying29 slot_ocells (by omega) slotF_len (slot_opens N)) (by omega)
end Go.Proofs.YtapmknkelihacaaDoor
