/- The readings of arguments as typed data. Written by a program. -/
import Derived.Test.YtgnggiibhkphjaaGreatDoorTCall
import Derived.Test.YtgnggiibhkphjaaGreatDoorTAction
import Derived.Test.YtgnggiibhkphjaaGreatDoorTCell
import Derived.Test.YtgnggiibhkphjaaGreatDoorTCore
import Derived.Test.YtgnggiibhkphjaaGreatDoorTLayer
import Derived.Test.YtgnggiibhkphjaaGreatDoorTPart
import Derived.Test.YtgnggiibhkphjaaGreatDoorTSlot
namespace Go.Proofs.YtgnggiibhkphjaaGreatDoor
open Go.ChangeShapes Go.WideShapes Go.RowKit

theorem str_ocells : Tryz.prog.cellsOf 9 = 1 := by kernel_rfl
theorem strs_opens (N : Nat) : Opens Tryz.prog N 42 (listF strC) :=
  Opens.mono (Opens.slice (F := strC) Tryz.underlying42 str_ocells (by omega) strC_len (Opens.string (N := N) Tryz.underlying9)) (by omega)
set_option maxRecDepth 100000 in
theorem call_opens (N : Nat) : Opens Tryz.prog N 32 callF :=
  Opens.mono (Opens.map (Opens.struct (N := N) Tryz.underlying32 (by kernel_rfl) (OpensFs.cons (c := 1) rfl (by kernel_rfl) (Opens.string (N := N) Tryz.underlying9) (OpensFs.cons (c := 1) rfl (by kernel_rfl) (Opens.string (N := N) Tryz.underlying9) (OpensFs.cons (c := 1) rfl (by kernel_rfl) (Opens.int (N := N) Tryz.underlying3) (OpensFs.cons (c := 1) rfl (by kernel_rfl) (Opens.string (N := N) Tryz.underlying9) OpensFs.nil))))) (fun p => (.mk p.1 p.2.1 p.2.2.1 p.2.2.2.1 : CallT)) (fun _ => rfl)) (by omega)
set_option maxRecDepth 100000 in
theorem action_opens_of (N : Nat) (h : Opens Tryz.prog N 22 (listF actionF)) : Opens Tryz.prog (N + 1) 34 actionF :=
  Opens.map (Opens.struct (N := N) Tryz.underlying34 (by kernel_rfl) (OpensFs.cons (c := 1) rfl (by kernel_rfl) (Opens.int (N := N) Tryz.underlying3) (OpensFs.cons (c := 1) rfl (by kernel_rfl) (Opens.int (N := N) Tryz.underlying3) (OpensFs.cons (c := 1) rfl (by kernel_rfl) (Opens.int (N := N) Tryz.underlying3) (OpensFs.cons (c := 1) rfl (by kernel_rfl) (Opens.string (N := N) Tryz.underlying9) (OpensFs.cons (c := 4) rfl (by kernel_rfl) (call_opens N) (OpensFs.cons (c := 1) rfl (by kernel_rfl) (Opens.int (N := N) Tryz.underlying3) (OpensFs.cons (c := 1) rfl (by kernel_rfl) h (OpensFs.cons (c := 1) rfl (by kernel_rfl) h OpensFs.nil))))))))) (fun p => (.mk p.1 p.2.1 p.2.2.1 p.2.2.2.1 p.2.2.2.2.1 p.2.2.2.2.2.1 p.2.2.2.2.2.2.1 p.2.2.2.2.2.2.2.1 : ActionT)) (fun p => by rw [actionF_eq]; rfl)
theorem action_cells : Tryz.prog.cellsOf 34 = 11 := by kernel_rfl
theorem actions_opens : ∀ N, Opens Tryz.prog N 22 (listF actionF)
  | 0 => fun enc w n cs x hn h => by
    obtain rfl : n = 0 := by omega
    simp [DataW.trod] at h
  | N + 1 => Opens.slice Tryz.underlying22 action_cells (by omega) actionF_len (Opens.mono (action_opens_of N (actions_opens N)) (by omega))
end Go.Proofs.YtgnggiibhkphjaaGreatDoor
