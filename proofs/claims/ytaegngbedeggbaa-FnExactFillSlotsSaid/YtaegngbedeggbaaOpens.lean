/- The readings of arguments as typed data. Written by a program. -/
import Derived.Test.YtaegngbedeggbaaTCall
import Derived.Test.YtaegngbedeggbaaTAction
import Derived.Test.YtaegngbedeggbaaTCell
import Derived.Test.YtaegngbedeggbaaTCore
import Derived.Test.YtaegngbedeggbaaTLayer
import Derived.Test.YtaegngbedeggbaaTPart
import Derived.Test.YtaegngbedeggbaaTSlot
namespace Go.Proofs.Ytaegngbedeggbaa
open Go.ChangeShapes Go.WideShapes Go.RowKit

theorem str_ocells : Try.prog.cellsOf 9 = 1 := by kernel_rfl
theorem strs_opens (N : Nat) : Opens Try.prog N 78 (listF strC) :=
  Opens.mono (Opens.slice (F := strC) Try.underlying78 str_ocells (by omega) strC_len (Opens.string (N := N) Try.underlying9)) (by omega)
set_option maxRecDepth 100000 in
theorem cell_opens (N : Nat) : Opens Try.prog N 139 cellF :=
  Opens.mono (Opens.map (Opens.struct (N := N) Try.underlying139 (by kernel_rfl) (OpensFs.cons (c := 1) rfl (by kernel_rfl) (Opens.string (N := N) Try.underlying9) (OpensFs.cons (c := 1) rfl (by kernel_rfl) (Opens.int (N := N) Try.underlying3) OpensFs.nil))) (fun p => (.mk p.1 p.2.1 : CellT)) (fun _ => rfl)) (by omega)
theorem cell_ocells : Try.prog.cellsOf 139 = 2 := by kernel_rfl
theorem cells_opens (N : Nat) : Opens Try.prog N 50 (listF cellF) :=
  Opens.mono (Opens.slice Try.underlying50 cell_ocells (by omega) cellF_len (cell_opens N)) (by omega)
set_option maxRecDepth 100000 in
theorem core_opens (N : Nat) : Opens Try.prog N 52 coreF :=
  Opens.mono (Opens.map (Opens.struct (N := N) Try.underlying52 (by kernel_rfl) (OpensFs.cons (c := 1) rfl (by kernel_rfl) (Opens.string (N := N) Try.underlying9) (OpensFs.cons (c := 1) rfl (by kernel_rfl) (Opens.bool (N := N) Try.underlying4) (OpensFs.cons (c := 1) rfl (by kernel_rfl) (Opens.bool (N := N) Try.underlying4) (OpensFs.cons (c := 1) rfl (by kernel_rfl) (cells_opens N) (OpensFs.cons (c := 1) rfl (by kernel_rfl) (Opens.int (N := N) Try.underlying3) OpensFs.nil)))))) (fun p => (.mk p.1 p.2.1 p.2.2.1 p.2.2.2.1 p.2.2.2.2.1 : CoreT)) (fun _ => rfl)) (by omega)
set_option maxRecDepth 100000 in
theorem layer_opens (N : Nat) : Opens Try.prog N 130 layerF :=
  Opens.mono (Opens.map (Opens.struct (N := N) Try.underlying130 (by kernel_rfl) (OpensFs.cons (c := 1) rfl (by kernel_rfl) (Opens.string (N := N) Try.underlying9) (OpensFs.cons (c := 1) rfl (by kernel_rfl) (Opens.int (N := N) Try.underlying3) OpensFs.nil))) (fun p => (.mk p.1 p.2.1 : LayerT)) (fun _ => rfl)) (by omega)
theorem layer_ocells : Try.prog.cellsOf 130 = 2 := by kernel_rfl
theorem layers_opens (N : Nat) : Opens Try.prog N 53 (listF layerF) :=
  Opens.mono (Opens.slice Try.underlying53 layer_ocells (by omega) layerF_len (layer_opens N)) (by omega)
set_option maxRecDepth 100000 in
theorem part_opens (N : Nat) : Opens Try.prog N 55 partF :=
  Opens.mono (Opens.map (Opens.struct (N := N) Try.underlying55 (by kernel_rfl) (OpensFs.cons (c := 5) rfl (by kernel_rfl) (core_opens N) (OpensFs.cons (c := 1) rfl (by kernel_rfl) (layers_opens N) OpensFs.nil))) (fun p => (.mk p.1 p.2.1 : PartT)) (fun _ => rfl)) (by omega)
set_option maxRecDepth 100000 in
theorem slot_opens (N : Nat) : Opens Try.prog N 57 slotF :=
  Opens.mono (Opens.map (Opens.struct (N := N) Try.underlying57 (by kernel_rfl) (OpensFs.cons (c := 1) rfl (by kernel_rfl) (Opens.bool (N := N) Try.underlying4) (OpensFs.cons (c := 6) rfl (by kernel_rfl) (part_opens N) OpensFs.nil))) (fun p => (.mk p.1 p.2.1 : SlotT)) (fun _ => rfl)) (by omega)
theorem slot_ocells : Try.prog.cellsOf 57 = 7 := by kernel_rfl
theorem slots_opens (N : Nat) : Opens Try.prog N 22 (listF slotF) :=
  Opens.mono (Opens.slice Try.underlying22 slot_ocells (by omega) slotF_len (slot_opens N)) (by omega)
end Go.Proofs.Ytaegngbedeggbaa
