/- The readings of arguments as typed data. Conditions: as stated. -/
import Derived.Test.YtfjhdnjlhjimeaaGreatDoorMoreW
set_option maxRecDepth 100000
namespace Go.Proofs.YtfjhdnjlhjimeaaGreatDoor
open Go.ChangeShapes Go.WideShapes Go.RowKit

theorem QlT (N:Nat):Vp Tryz.prog N 102 QgW:=
 Vp.mono (Vp.map (Vp.struct (N:=N) Tryz.underlying102 (by kernel_rfl) (Qk2.cons (c:=1) rfl (by kernel_rfl) (Vp.string (N:=N) Tryz.underlying9) (Qk2.cons (c:=1) rfl (by kernel_rfl) (Vp.string (N:=N) Tryz.underlying9) (Qk2.cons (c:=1) rfl (by kernel_rfl) (Vp.int (N:=N) Tryz.underlying3) (Qk2.cons (c:=1) rfl (by kernel_rfl) (Vp.string (N:=N) Tryz.underlying9) Qk2.nil))))) (fun p=>(.mk p.1 p.2.1 p.2.2.1 p.2.2.2.1:QL)) (fun _=>rfl)) (by omega)
theorem Qly (N:Nat) (h:Vp Tryz.prog N 44 (vl QO)):Vp Tryz.prog (N+1) 104 QO:=
 Vp.map (Vp.struct (N:=N) Tryz.underlying104 (by kernel_rfl) (Qk2.cons (c:=1) rfl (by kernel_rfl) (Vp.int (N:=N) Tryz.underlying3) (Qk2.cons (c:=1) rfl (by kernel_rfl) (Vp.int (N:=N) Tryz.underlying3) (Qk2.cons (c:=1) rfl (by kernel_rfl) (Vp.int (N:=N) Tryz.underlying3) (Qk2.cons (c:=1) rfl (by kernel_rfl) (Vp.string (N:=N) Tryz.underlying9) (Qk2.cons (c:=4) rfl (by kernel_rfl) (QlT N) (Qk2.cons (c:=1) rfl (by kernel_rfl) (Vp.int (N:=N) Tryz.underlying3) (Qk2.cons (c:=1) rfl (by kernel_rfl) h (Qk2.cons (c:=1) rfl (by kernel_rfl) h Qk2.nil))))))))) (fun p=>(.mk p.1 p.2.1 p.2.2.1 p.2.2.2.1 p.2.2.2.2.1 p.2.2.2.2.2.1 p.2.2.2.2.2.2.1 p.2.2.2.2.2.2.2.1:Qa)) (fun p=>by rw [Vi];rfl)
theorem QlH:Tryz.prog.cellsOf 104=11:=by kernel_rfl
theorem Qln:∀N,Vp Tryz.prog N 44 (vl QO)
 |0=>fun enc w n cs x hn h=>by
  obtain rfl:n=0:=by omega
  simp [DataW.trod] at h
 |N+1=>Vp.slice Tryz.underlying44 QlH (by omega) Yg (Vp.mono (Qly N (Qln N)) (by omega))
end Go.Proofs.YtfjhdnjlhjimeaaGreatDoor
