/- The readings of arguments as typed data. Written by a program. -/
import Derived.Test.YtnkkpmdlcekhhaaTCall
import Derived.Test.YtnkkpmdlcekhhaaTAction
import Derived.Test.YtnkkpmdlcekhhaaTCell
import Derived.Test.YtnkkpmdlcekhhaaTCore
import Derived.Test.YtnkkpmdlcekhhaaTLayer
import Derived.Test.YtnkkpmdlcekhhaaTPart
import Derived.Test.YtnkkpmdlcekhhaaTSlot
namespace Go.Proofs.Ytnkkpmdlcekhhaa
open Go.ChangeShapes Go.WideShapes Go.RowKit

theorem str_ocells : Try.prog.cellsOf 9 = 1 := by kernel_rfl
theorem strs_opens (N : Nat) : Opens Try.prog N 52 (listF strC) :=
  Opens.mono (Opens.slice (F := strC) Try.underlying52 str_ocells (by omega) strC_len (Opens.string (N := N) Try.underlying9)) (by omega)
set_option maxRecDepth 100000 in
theorem call_opens (N : Nat) : Opens Try.prog N 58 callF :=
  Opens.mono (Opens.map (Opens.struct (N := N) Try.underlying58 (by kernel_rfl) (OpensFs.cons (c := 1) rfl (by kernel_rfl) (Opens.string (N := N) Try.underlying9) (OpensFs.cons (c := 1) rfl (by kernel_rfl) (Opens.string (N := N) Try.underlying9) (OpensFs.cons (c := 1) rfl (by kernel_rfl) (Opens.int (N := N) Try.underlying3) (OpensFs.cons (c := 1) rfl (by kernel_rfl) (Opens.string (N := N) Try.underlying9) OpensFs.nil))))) (fun p => (.mk p.1 p.2.1 p.2.2.1 p.2.2.2.1 : CallT)) (fun _ => rfl)) (by omega)
set_option maxRecDepth 100000 in
theorem action_opens_of (N : Nat) (h : Opens Try.prog N 26 (listF actionF)) : Opens Try.prog (N + 1) 60 actionF :=
  Opens.map (Opens.struct (N := N) Try.underlying60 (by kernel_rfl) (OpensFs.cons (c := 1) rfl (by kernel_rfl) (Opens.int (N := N) Try.underlying3) (OpensFs.cons (c := 1) rfl (by kernel_rfl) (Opens.int (N := N) Try.underlying3) (OpensFs.cons (c := 1) rfl (by kernel_rfl) (Opens.int (N := N) Try.underlying3) (OpensFs.cons (c := 1) rfl (by kernel_rfl) (Opens.string (N := N) Try.underlying9) (OpensFs.cons (c := 4) rfl (by kernel_rfl) (call_opens N) (OpensFs.cons (c := 1) rfl (by kernel_rfl) (Opens.int (N := N) Try.underlying3) (OpensFs.cons (c := 1) rfl (by kernel_rfl) h (OpensFs.cons (c := 1) rfl (by kernel_rfl) h OpensFs.nil))))))))) (fun p => (.mk p.1 p.2.1 p.2.2.1 p.2.2.2.1 p.2.2.2.2.1 p.2.2.2.2.2.1 p.2.2.2.2.2.2.1 p.2.2.2.2.2.2.2.1 : ActionT)) (fun p => by rw [actionF_eq]; rfl)
theorem action_cells : Try.prog.cellsOf 60 = 11 := by kernel_rfl
theorem actions_opens : ∀ N, Opens Try.prog N 26 (listF actionF)
  | 0 => fun enc w n cs x hn h => by
    obtain rfl : n = 0 := by omega
    simp [DataW.trod] at h
  | N + 1 => Opens.slice Try.underlying26 action_cells (by omega) actionF_len (Opens.mono (action_opens_of N (actions_opens N)) (by omega))
set_option maxRecDepth 100000 in
theorem cell_opens (N : Nat) : Opens Try.prog N 125 cellF :=
  Opens.mono (Opens.map (Opens.struct (N := N) Try.underlying125 (by kernel_rfl) (OpensFs.cons (c := 1) rfl (by kernel_rfl) (Opens.string (N := N) Try.underlying9) (OpensFs.cons (c := 1) rfl (by kernel_rfl) (Opens.int (N := N) Try.underlying3) OpensFs.nil))) (fun p => (.mk p.1 p.2.1 : CellT)) (fun _ => rfl)) (by omega)
theorem cell_ocells : Try.prog.cellsOf 125 = 2 := by kernel_rfl
theorem cells_opens (N : Nat) : Opens Try.prog N 76 (listF cellF) :=
  Opens.mono (Opens.slice Try.underlying76 cell_ocells (by omega) cellF_len (cell_opens N)) (by omega)
set_option maxRecDepth 100000 in
theorem core_opens (N : Nat) : Opens Try.prog N 78 coreF :=
  Opens.mono (Opens.map (Opens.struct (N := N) Try.underlying78 (by kernel_rfl) (OpensFs.cons (c := 1) rfl (by kernel_rfl) (Opens.string (N := N) Try.underlying9) (OpensFs.cons (c := 1) rfl (by kernel_rfl) (Opens.bool (N := N) Try.underlying4) (OpensFs.cons (c := 1) rfl (by kernel_rfl) (Opens.bool (N := N) Try.underlying4) (OpensFs.cons (c := 1) rfl (by kernel_rfl) (cells_opens N) (OpensFs.cons (c := 1) rfl (by kernel_rfl) (Opens.int (N := N) Try.underlying3) OpensFs.nil)))))) (fun p => (.mk p.1 p.2.1 p.2.2.1 p.2.2.2.1 p.2.2.2.2.1 : CoreT)) (fun _ => rfl)) (by omega)
set_option maxRecDepth 100000 in
theorem layer_opens (N : Nat) : Opens Try.prog N 119 layerF :=
  Opens.mono (Opens.map (Opens.struct (N := N) Try.underlying119 (by kernel_rfl) (OpensFs.cons (c := 1) rfl (by kernel_rfl) (Opens.string (N := N) Try.underlying9) (OpensFs.cons (c := 1) rfl (by kernel_rfl) (Opens.int (N := N) Try.underlying3) OpensFs.nil))) (fun p => (.mk p.1 p.2.1 : LayerT)) (fun _ => rfl)) (by omega)
theorem layer_ocells : Try.prog.cellsOf 119 = 2 := by kernel_rfl
theorem layers_opens (N : Nat) : Opens Try.prog N 79 (listF layerF) :=
  Opens.mono (Opens.slice Try.underlying79 layer_ocells (by omega) layerF_len (layer_opens N)) (by omega)
set_option maxRecDepth 100000 in
theorem part_opens (N : Nat) : Opens Try.prog N 81 partF :=
  Opens.mono (Opens.map (Opens.struct (N := N) Try.underlying81 (by kernel_rfl) (OpensFs.cons (c := 5) rfl (by kernel_rfl) (core_opens N) (OpensFs.cons (c := 1) rfl (by kernel_rfl) (layers_opens N) OpensFs.nil))) (fun p => (.mk p.1 p.2.1 : PartT)) (fun _ => rfl)) (by omega)
set_option maxRecDepth 100000 in
theorem slot_opens (N : Nat) : Opens Try.prog N 83 slotF :=
  Opens.mono (Opens.map (Opens.struct (N := N) Try.underlying83 (by kernel_rfl) (OpensFs.cons (c := 1) rfl (by kernel_rfl) (Opens.bool (N := N) Try.underlying4) (OpensFs.cons (c := 6) rfl (by kernel_rfl) (part_opens N) OpensFs.nil))) (fun p => (.mk p.1 p.2.1 : SlotT)) (fun _ => rfl)) (by omega)
theorem slot_ocells : Try.prog.cellsOf 83 = 7 := by kernel_rfl
theorem slots_opens (N : Nat) : Opens Try.prog N 38 (listF slotF) :=
  Opens.mono (Opens.slice Try.underlying38 slot_ocells (by omega) slotF_len (slot_opens N)) (by omega)
end Go.Proofs.Ytnkkpmdlcekhhaa
