/- big. Conditions: as stated. -/
import Derived.Test.YtjeadhmkghnkkaaGreatDoorRunPI
import Derived.Test.YtjeadhmkghnkkaaGreatDoorCurs
import Derived.Test.YtjeadhmkghnkkaaGreatDoorRunsP
set_option maxRecDepth 100000
set_option maxHeartbeats 1000000
namespace Go.Proofs.YtjeadhmkghnkkaaGreatDoor
open Go.RowKit

theorem Qgx (A:Option Addr) (n cap:Nat) (w:World) (h:n<=4096):Calls Tryz.prog 7 #[.slice A n cap] w fun e w'=>e= .returned (.bool false)/\w'=w:=by
 have h2:¬(4096:Int)<(n:Int):=by omega
 go_enter Tryz.func7,Tryz.ntmps7
 go_wp2_with fail
 go_ret
 exact⟨rfl,rfl⟩
theorem QfO (A:Option Addr) (n cap:Nat) (w:World) (h:¬n<=4096):Calls Tryz.prog 7 #[.slice A n cap] w fun e w'=>e= .returned (.bool true)/\w'=w:=by
 have h2:(4096:Int)<(n:Int):=by omega
 go_enter Tryz.func7,Tryz.ntmps7
 go_wp2_with fail
 go_ret
 exact⟨rfl,rfl⟩
theorem Kj.keep {w w':World} {A:Option Addr} {n:Nat} (h:Kj w w.heap.size A n) (hc:Qc [] w w'):Kj w' w'.heap.size A n:=fun j hj=>by
 obtain⟨b,off,z,e,hb,hz,h1⟩:=h j hj
 exact⟨b,off,z,e,F6 hb hc.size,(hc.cell (p:=⟨b,off+j,none⟩) hb (by simp)).trans hz,h1⟩
def Qg3 (q:ZV×Xo) (W:World) (e:Ending) (w':World):Prop:=∃(A:Option Addr) (cap:Nat),e= .returned (.tuple #[.agg #[.int .i64 q.2.code,.int .i64 q.2.place,.int .i64 q.2.want,.int .i64 q.2.had],.slice A q.1.slots.length cap,.int .i64 q.1.taken])/\Rd w' w'.heap.size (slots q.1.slots) (.slice A q.1.slots.length cap)/\Qc [] W w'
theorem QfS {w:World} (hE:KP w) {s:List Ql} {p:List Qa} (input:List Int) {us um ui:Value} (hs:QH s) (hp:Xn p) (hW:Qi p<=1048576) (rs:Rd w w.heap.size (slots s) us) (rm:Rd w w.heap.size (QA p) um) (ri:Rd w w.heap.size (xE input) ui) (W:World) (hc:Qc [] w W):
  Calls Tryz.prog 15 #[us,um,ui] W (Qg3 (QM input p 0 ⟨s,0⟩) W):=by
 refine(yv s p input us um ui w.heap.size W (by have:=hs.1;omega) (fun x hx=>?_) hW (rs.cz hc (F0 _)) (rm.cz hc (F0 _)) (ri.cz hc (F0 _)) hc.size (hE.keep hc)).mono (fun e w' h=>?_)
 ·obtain⟨i,hi,rfl⟩:=M0 hx
  exact vG (hs.2 i hi)
 ·rw [QcU hs hp] at h
  obtain⟨A,cap,e,N⟩:=h
  exact⟨A,cap,e,N.rd,N.chg⟩
def Qcs:List QD:=[.v (.bool false),.v (.string ⟨#[]⟩),.v (.bool false),.v (.bool false),.s 0 [],.v (.int .i64 0),.s 0 []]
theorem Qdm (w:World):Qt w Qcs [.bool false,.string ⟨#[]⟩,.bool false,.bool false,.slice none 0 0,.int .i64 0,.slice none 0 0] []:=by
 have h:Zm w Qcs [.bool false,.string ⟨#[]⟩,.bool false,.bool false,.slice none 0 0,.int .i64 0,.slice none 0 0] []:=by
  unfold Qcs
  repeat(first|with_reducible exact T8 _|with_reducible refine I2 ?_|with_reducible refine Zm.cons_nil ?_)
 exact h.1
theorem jY (w:World):Calls Tryz.prog 16 #[] w (KW (slots YQ) w):=by
 have hmk:∀W,(Instr.makeSlice 39 (.int .i64 3) (.int .i64 3)).run Tryz.prog W= .ok (.slice (some ⟨W.heap.size,0,none⟩) 3 3) (W.alloc (.cells (madeCells (Value.agg #[.bool false,.string ⟨#[]⟩,.bool false,.bool false,.slice none 0 0,.int .i64 0,.slice none 0 0]).cells (3 * 7)) 99)):=fun W=>qh (P:=Tryz.prog) 39 99 _ 7 88 Tryz.underlying39 GP .i64 .i64 3 3 (F0 _) (by omega) (by omega) W
 have hn:qt w (w.alloc (.cells (madeCells (Value.agg #[.bool false,.string ⟨#[]⟩,.bool false,.bool false,.slice none 0 0,.int .i64 0,.slice none 0 0]).cells (3 * 7)) 99)) (slots YQ) (.slice (some ⟨w.heap.size,0,none⟩) 3 3):=qt.make w 99 _ 7 rfl (by omega) Qcs Qdm Zj YQ 3 rfl (by unfold maxLen;omega)
 go_enter Tryz.func16,Tryz.ntmps16
 go_wp2_with fail
 go_ret
 exact⟨_,rfl,hn⟩
end Go.Proofs.YtjeadhmkghnkkaaGreatDoor
