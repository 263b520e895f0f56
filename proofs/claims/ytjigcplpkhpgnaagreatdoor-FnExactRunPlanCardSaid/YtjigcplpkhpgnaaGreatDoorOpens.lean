/- The readings of arguments as typed data. Written by a program. -/
import Derived.Test.YtjigcplpkhpgnaaGreatDoorTypesA
import Derived.Test.YtjigcplpkhpgnaaGreatDoorTypes
set_option maxRecDepth 100000
namespace Go.Proofs.YtjigcplpkhpgnaaGreatDoor
open Go.ChangeShapes Go.WideShapes Go.RowKit

theorem str_ocells:Tryz.prog.cellsOf 9=1:=by kernel_rfl
theorem strs_opens (N:Nat):Opens Tryz.prog N 154 (listF strC):=
 Opens.mono (Opens.slice (F:=strC) Tryz.underlying154 str_ocells (by omega) strC_len (Opens.string (N:=N) Tryz.underlying9)) (by omega)
theorem call_opens (N:Nat):Opens Tryz.prog N 55 callF:=
 Opens.mono (Opens.map (Opens.struct (N:=N) Tryz.underlying55 (by kernel_rfl) (OpensFs.cons (c:=1) rfl (by kernel_rfl) (Opens.string (N:=N) Tryz.underlying9) (OpensFs.cons (c:=1) rfl (by kernel_rfl) (Opens.string (N:=N) Tryz.underlying9) (OpensFs.cons (c:=1) rfl (by kernel_rfl) (Opens.int (N:=N) Tryz.underlying3) (OpensFs.cons (c:=1) rfl (by kernel_rfl) (Opens.string (N:=N) Tryz.underlying9) OpensFs.nil))))) (fun p=>(.mk p.1 p.2.1 p.2.2.1 p.2.2.2.1:CallT)) (fun _=>rfl)) (by omega)
theorem action_opens_of (N:Nat) (h:Opens Tryz.prog N 23 (listF actionF)):Opens Tryz.prog (N+1) 57 actionF:=
 Opens.map (Opens.struct (N:=N) Tryz.underlying57 (by kernel_rfl) (OpensFs.cons (c:=1) rfl (by kernel_rfl) (Opens.int (N:=N) Tryz.underlying3) (OpensFs.cons (c:=1) rfl (by kernel_rfl) (Opens.int (N:=N) Tryz.underlying3) (OpensFs.cons (c:=1) rfl (by kernel_rfl) (Opens.int (N:=N) Tryz.underlying3) (OpensFs.cons (c:=1) rfl (by kernel_rfl) (Opens.string (N:=N) Tryz.underlying9) (OpensFs.cons (c:=4) rfl (by kernel_rfl) (call_opens N) (OpensFs.cons (c:=1) rfl (by kernel_rfl) (Opens.int (N:=N) Tryz.underlying3) (OpensFs.cons (c:=1) rfl (by kernel_rfl) h (OpensFs.cons (c:=1) rfl (by kernel_rfl) h OpensFs.nil))))))))) (fun p=>(.mk p.1 p.2.1 p.2.2.1 p.2.2.2.1 p.2.2.2.2.1 p.2.2.2.2.2.1 p.2.2.2.2.2.2.1 p.2.2.2.2.2.2.2.1:ActionT)) (fun p=>by rw [actionF_eq];rfl)
theorem action_cells:Tryz.prog.cellsOf 57=11:=by kernel_rfl
theorem actions_opens:∀N,Opens Tryz.prog N 23 (listF actionF)
 |0=>fun enc w n cs x hn h=>by
  obtain rfl:n=0:=by omega
  simp [DataW.trod] at h
 |N+1=>Opens.slice Tryz.underlying23 action_cells (by omega) actionF_len (Opens.mono (action_opens_of N (actions_opens N)) (by omega))
theorem cell_opens (N:Nat):Opens Tryz.prog N 153 cellF:=
 Opens.mono (Opens.map (Opens.struct (N:=N) Tryz.underlying153 (by kernel_rfl) (OpensFs.cons (c:=1) rfl (by kernel_rfl) (Opens.string (N:=N) Tryz.underlying9) (OpensFs.cons (c:=1) rfl (by kernel_rfl) (Opens.int (N:=N) Tryz.underlying3) OpensFs.nil))) (fun p=>(.mk p.1 p.2.1:CellT)) (fun _=>rfl)) (by omega)
theorem cell_ocells:Tryz.prog.cellsOf 153=2:=by kernel_rfl
theorem cells_opens (N:Nat):Opens Tryz.prog N 45 (listF cellF):=
 Opens.mono (Opens.slice Tryz.underlying45 cell_ocells (by omega) cellF_len (cell_opens N)) (by omega)
theorem core_opens (N:Nat):Opens Tryz.prog N 47 coreF:=
 Opens.mono (Opens.map (Opens.struct (N:=N) Tryz.underlying47 (by kernel_rfl) (OpensFs.cons (c:=1) rfl (by kernel_rfl) (Opens.string (N:=N) Tryz.underlying9) (OpensFs.cons (c:=1) rfl (by kernel_rfl) (Opens.bool (N:=N) Tryz.underlying4) (OpensFs.cons (c:=1) rfl (by kernel_rfl) (Opens.bool (N:=N) Tryz.underlying4) (OpensFs.cons (c:=1) rfl (by kernel_rfl) (cells_opens N) (OpensFs.cons (c:=1) rfl (by kernel_rfl) (Opens.int (N:=N) Tryz.underlying3) OpensFs.nil)))))) (fun p=>(.mk p.1 p.2.1 p.2.2.1 p.2.2.2.1 p.2.2.2.2.1:CoreT)) (fun _=>rfl)) (by omega)
theorem layer_opens (N:Nat):Opens Tryz.prog N 138 layerF:=
 Opens.mono (Opens.map (Opens.struct (N:=N) Tryz.underlying138 (by kernel_rfl) (OpensFs.cons (c:=1) rfl (by kernel_rfl) (Opens.string (N:=N) Tryz.underlying9) (OpensFs.cons (c:=1) rfl (by kernel_rfl) (Opens.int (N:=N) Tryz.underlying3) OpensFs.nil))) (fun p=>(.mk p.1 p.2.1:LayerT)) (fun _=>rfl)) (by omega)
theorem layer_ocells:Tryz.prog.cellsOf 138=2:=by kernel_rfl
theorem layers_opens (N:Nat):Opens Tryz.prog N 48 (listF layerF):=
 Opens.mono (Opens.slice Tryz.underlying48 layer_ocells (by omega) layerF_len (layer_opens N)) (by omega)
theorem part_opens (N:Nat):Opens Tryz.prog N 50 partF:=
 Opens.mono (Opens.map (Opens.struct (N:=N) Tryz.underlying50 (by kernel_rfl) (OpensFs.cons (c:=5) rfl (by kernel_rfl) (core_opens N) (OpensFs.cons (c:=1) rfl (by kernel_rfl) (layers_opens N) OpensFs.nil))) (fun p=>(.mk p.1 p.2.1:PartT)) (fun _=>rfl)) (by omega)
theorem slot_opens (N:Nat):Opens Tryz.prog N 52 slotF:=
 Opens.mono (Opens.map (Opens.struct (N:=N) Tryz.underlying52 (by kernel_rfl) (OpensFs.cons (c:=1) rfl (by kernel_rfl) (Opens.bool (N:=N) Tryz.underlying4) (OpensFs.cons (c:=6) rfl (by kernel_rfl) (part_opens N) OpensFs.nil))) (fun p=>(.mk p.1 p.2.1:SlotT)) (fun _=>rfl)) (by omega)
theorem slot_ocells:Tryz.prog.cellsOf 52=7:=by kernel_rfl
theorem slots_opens (N:Nat):Opens Tryz.prog N 22 (listF slotF):=
 Opens.mono (Opens.slice Tryz.underlying22 slot_ocells (by omega) slotF_len (slot_opens N)) (by omega)
end Go.Proofs.YtjigcplpkhpgnaaGreatDoor
