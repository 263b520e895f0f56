/- big. Conditions: as stated. -/
import Derived.Test.YtlnkgcdeljhjcaaGreatDoorRunPI
import Derived.Test.YtlnkgcdeljhjcaaGreatDoorCurs
import Derived.Test.YtlnkgcdeljhjcaaGreatDoorRunsP
set_option maxRecDepth 100000
set_option maxHeartbeats 1000000
namespace Go.Proofs.YtlnkgcdeljhjcaaGreatDoor
open Go.RowKit

theorem Qhs (A:Option Addr) (n cap:Nat) (w:World) (h:n<=4096):Calls Tryz.prog 7 #[.slice A n cap] w fun e w'=>e= .returned (.bool false)/\w'=w:=by
 have h2:¬(4096:Int)<(n:Int):=by omega
 go_enter Tryz.func7,Tryz.ntmps7
 go_wp2_with fail
 go_ret
 exact⟨rfl,rfl⟩
theorem Qgs (A:Option Addr) (n cap:Nat) (w:World) (h:¬n<=4096):Calls Tryz.prog 7 #[.slice A n cap] w fun e w'=>e= .returned (.bool true)/\w'=w:=by
 have h2:(4096:Int)<(n:Int):=by omega
 go_enter Tryz.func7,Tryz.ntmps7
 go_wp2_with fail
 go_ret
 exact⟨rfl,rfl⟩
theorem UO.keep {w w':World} {A:Option Addr} {n:Nat} (h:UO w w.heap.size A n) (hc:Qb [] w w'):UO w' w'.heap.size A n:=fun j hj=>by
 obtain⟨b,off,z,e,hb,hz,h1⟩:=h j hj
 exact⟨b,off,z,e,Nat.lt_of_lt_of_le hb hc.size,(hc.cell (p:=⟨b,off+j,none⟩) hb (by simp)).trans hz,h1⟩
def Qhy (q:ZS×XH) (W:World) (e:Ending) (w':World):Prop:=∃(A:Option Addr) (cap:Nat),e= .returned (.tuple #[.agg #[.int .i64 q.2.code,.int .i64 q.2.place,.int .i64 q.2.want,.int .i64 q.2.had],.slice A q.1.slots.length cap,.int .i64 q.1.taken])/\Rd w' w'.heap.size (slots q.1.slots) (.slice A q.1.slots.length cap)/\Qb [] W w'
theorem QgM {w:World} (hE:Km w) {s:List Qm} {p:List Qa} (input:List Int) {us um ui:Value} (hs:QN s) (hp:X0 p) (hW:Ql p<=1048576) (rs:Rd w w.heap.size (slots s) us) (rm:Rd w w.heap.size (QH p) um) (ri:Rd w w.heap.size (yw input) ui) (W:World) (hc:Qb [] w W):
  Calls Tryz.prog 11 #[us,um,ui] W (Qhy (QV input p 0 ⟨s,0⟩) W):=by
 refine(qO s p input us um ui w.heap.size W (by have:=hs.1;omega) (fun x hx=>?_) hW (rs.cz hc (Nat.le_refl _)) (rm.cz hc (Nat.le_refl _)) (ri.cz hc (Nat.le_refl _)) hc.size (hE.keep hc)).mono (fun e w' h=>?_)
 ·obtain⟨i,hi,rfl⟩:=List.getElem_of_mem hx
  exact xi (hs.2 i hi)
 ·rw [Qdn hs hp] at h
  obtain⟨A,cap,e,N⟩:=h
  exact⟨A,cap,e,N.rd,N.chg⟩
def Qdd:List QK:=[.v (.bool false),.v (.string ⟨#[]⟩),.v (.bool false),.v (.bool false),.s 0 [],.v (.int .i64 0),.s 0 []]
theorem Qeu (w:World):Qt w Qdd [.bool false,.string ⟨#[]⟩,.bool false,.bool false,.slice none 0 0,.int .i64 0,.slice none 0 0] []:=by
 have h:Qu w Qdd [.bool false,.string ⟨#[]⟩,.bool false,.bool false,.slice none 0 0,.int .i64 0,.slice none 0 0] []:=by
  unfold Qdd
  repeat(first|with_reducible exact Qu.nil _|with_reducible refine Qu.cons_v ?_|with_reducible refine Qu.cons_nil ?_)
 exact h.1
theorem j6 (w:World):Calls Tryz.prog 12 #[] w (Kl (slots Vs) w):=by
 have hmk:∀W,(Instr.makeSlice 33 (.int .i64 3) (.int .i64 3)).run Tryz.prog W= .ok (.slice (some ⟨W.heap.size,0,none⟩) 3 3) (W.alloc (.cells (madeCells (Value.agg #[.bool false,.string ⟨#[]⟩,.bool false,.bool false,.slice none 0 0,.int .i64 0,.slice none 0 0]).cells (3 * 7)) 99)):=fun W=>Gm (P:=Tryz.prog) 33 99 _ 7 88 Tryz.underlying33 J2 .i64 .i64 3 3 (Nat.le_refl _) (by omega) (by omega) W
 have hn:Gd w (w.alloc (.cells (madeCells (Value.agg #[.bool false,.string ⟨#[]⟩,.bool false,.bool false,.slice none 0 0,.int .i64 0,.slice none 0 0]).cells (3 * 7)) 99)) (slots Vs) (.slice (some ⟨w.heap.size,0,none⟩) 3 3):=Gd.make w 99 _ 7 rfl (by omega) Qdd Qeu Zo Vs 3 rfl (by unfold maxLen;omega)
 go_enter Tryz.func12,Tryz.ntmps12
 go_wp2_with fail
 go_ret
 exact⟨_,rfl,hn⟩
end Go.Proofs.YtlnkgcdeljhjcaaGreatDoor
