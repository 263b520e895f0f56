/- RunPlan of the program. Conditions: as stated. -/
import Derived.Test.YtjeadhmkghnkkaaGreatDoorListI
import Derived.Test.YtjeadhmkghnkkaaGreatDoorPlOk
set_option maxRecDepth 100000
set_option maxHeartbeats 8000000
namespace Go.Proofs.YtjeadhmkghnkkaaGreatDoor
open Go.RowKit
def QeF (r:Xo×List Ql×Int) (w:World) (e:Ending) (w':World):Prop:=∃A cap,e= .returned (.tuple #[.agg #[.int .i64 r.1.code,.int .i64 r.1.place,.int .i64 r.1.want,.int .i64 r.1.had],.slice A r.2.1.length cap,.int .i64 r.2.2])/\qt w w' (slots r.2.1) (.slice A r.2.1.length cap)
theorem QcU {l:List Ql} {p:List Qa} {input:List Int} (h1:QH l) (h2:Xn p):uj l p input=((QM input p 0 ⟨l,0⟩).2,(QM input p 0 ⟨l,0⟩).1.slots,(QM input p 0 ⟨l,0⟩).1.taken):=by unfold uj;rw [if_pos ⟨h1,h2⟩]
theorem Qcz {l:List Ql} {p:List Qa} {input:List Int} (h:¬QH l∨¬Xn p):uj l p input=(⟨3,0,0,0⟩,l,0):=by unfold uj;rw [if_neg (by intro k;rcases h with h|h;exact h k.1;exact h k.2)]
theorem QeA {l:List Ql} (h3:l.length=3) {w:World} {e:Ending} {w':World} (h:KW (slots l) w e w'):∃g cap S,e= .returned (.slice (some ⟨g,0,none⟩) 3 cap)/\Yp w' (slots l) (.slice (some ⟨g,0,none⟩) 3 cap) S/\(∀x,x∈S->w.heap.size<=x)/\Qc [] w w':=by
 obtain⟨A,cap,rfl,S,h1,h2,h4⟩:=h.sl
 obtain⟨g,rfl,_⟩:=h1.own (by omega)
 unfold slots
 rw [h3] at h1 ⊢
 exact⟨g,cap,S,rfl,h1,h2,h4⟩
theorem yv (l:List Ql) (m:List Qa) (input:List Int) (us um ui:Value) (B:Nat) (w:World) (hl:l.length<=1048576) (sm:∀s∈l,UF s) (hW:Qi m<=1048576) (rs:Rd w B (slots l) us) (rm:Rd w B (QA m) um) (ri:Rd w B (xE input) ui) (hB:B<=w.heap.size) (hE:KP w):
  Calls Tryz.prog 15 #[us,um,ui] w (QeF (uj l m input) w):=by
 obtain⟨As,cs,rfl,_,_,_⟩:=Ja rs
 obtain⟨Am,cm,rfl,_,_,_⟩:=Qr rm
 obtain⟨Ai,ci,rfl,_,_,_⟩:=zl ri
 have isl:=fun W (hW:Qc [] w W)=>yo l _ B W (rs.cz hW hB) (G5 hB hW.size) sm
 have CP:=Qb (fun W (hW:Qc [] w W)=>vX l _ B W hl sm (rs.cz hW hB) (G5 hB hW.size))
 have ipl:=fun W (hW2:Qc [] w W)=>Yv m _ B W (hE.keep hW2) hW (rm.cz hW2 hB) (G5 hB hW2.size)
 by_cases n1:QH l
 ·have IS:=Qb (fun W hW=>(isl W hW).mono (O3 n1))
  by_cases n2:Xn m
  ·have IP:=Qb (fun W hW=>(ipl W hW).mono (O3 n2))
   have h3:l.length=3:=n1.1
   have CP3:=Qb (fun W (hW:Qc [] w W)=>(CP.out W hW).mono (fun _ _ h=>QeA h3 h))
   have EB:=Qb (YO.of hE)
   have hcost:=Jc n2
   have LI:=Qb (fun r g cap S W (h1:RB W r g cap (.slice Ai input.length ci) l 0 S) (hW0:Qc [] w W) (hE0:YO w.heap.size W) (hS:∀y,y∈r::S->w.heap.size<=y)=>
    wF m (.slice Am m.length cm) 0 r g cap (.slice Ai input.length ci) input l 0 S W w.heap.size n2.2.2 hW n1 h1 ((rm.cz hW0 hB).mono hB) ⟨hE0,hW0.size,(ri.cz hW0 hB).mono hB⟩ hS (Int.le_refl _) (by have:=n2.1;omega) (Int.le_refl _) (by omega))
   rw [QcU n1 n2]
   obtain⟨q,hq⟩:∃q,q=QM input m 0 ⟨l,0⟩:=⟨_,rfl⟩
   rw [<-hq] at LI ⊢
   have HL3:=Qb h3
   clear h3 isl ipl rs rm ri hE hcost hq n1 n2 CP sm
   go_enter Tryz.func15,Tryz.ntmps15
   go_wp2_with fail
   refine(IS.out _ C6).mono ?_
   rintro e w1 ⟨rfl,c1⟩
   have s1:=c1.size
   have v1:w.heap.size+1<=w1.heap.size:=by(try simp at s1)<;>omega
   have yc1:=c1.ce w.heap.size
   have zc1:=c1.fe w.heap.size
   have xc1:w.heap.size<w1.heap.size:=by omega
   clear s1
   have D1:Hid (Qc [] w w1):=Qb (H0 C6 c1)
   clear c1
   go_wp2_with fail
   refine(IP.out _ (H9 D1.out)).mono ?_
   rintro e w2 ⟨rfl,c2⟩
   have s2:=c2.size
   have v2:w1.heap.size<=w2.heap.size:=by(try simp at s2)<;>omega
   have yc2:=c2.ce w.heap.size
   have zc2:=c2.fe w.heap.size
   have xc2:w.heap.size<w2.heap.size:=by omega
   clear s2
   have D2:Hid (Qc [] w w2):=Qb (H0 (H9 D1.out) c2)
   clear c2
   go_wp2_with fail
   refine(CP3.out _ (H9 D2.out)).mono ?_
   rintro e w3 ⟨g,cap,S,rfl,hS,lS,c3⟩
   have s3:=c3.size
   have v3:w2.heap.size<=w3.heap.size:=by(try simp at s3)<;>omega
   have yc3:=c3.ce w.heap.size
   have zc3:=c3.fe w.heap.size
   have xc3:w.heap.size<w3.heap.size:=by omega
   clear s3
   have D3:Hid (Qc [] w w3):=Qb (H0 (H9 D2.out) c3)
   have lo3:Hid (∀x,x∈S->w.heap.size+1<=x/\x<w3.heap.size):=Qb (fun x hx=>⟨by have:=lS x hx;(try simp at this)<;>omega,hS.lt x hx⟩)
   have HS:=Qb hS
   clear hS lS c3
   go_wp2_with fail
   refine(LI.out w3.heap.size g cap S _ ?_ (H9 D3.out) (EB.out.keep (S:=[]) (H9 D3.out) (by simp) (F0 _)) (fun y hy=>by
    rcases C7.1 hy with rfl|hy
    ·omega
    ·have:=lo3.out y hy;omega)).mono ?_
   ·exact⟨by go_simp,by go_simp,by go_simp,by go_simp,HS.out.kz C6,HL3.out,fun h=>by have:=lo3.out _ h;omega⟩
   rintro e w4 ⟨S4,rfl,rb4,hS4,c4⟩
   have s4:=c4.size
   have v4:w3.heap.size+1<=w4.heap.size:=by(try simp at s4)<;>omega
   have yc4:=c4.ce w.heap.size (hn:=fun hx=>by
    rcases C7.1 hx with h|h
    ·(try simp at h)<;>omega
    ·have:=lo3.out _ h;(try simp at this)<;>omega)
   have zc4:=c4.fe w.heap.size (hn:=fun hx=>by
    rcases C7.1 hx with h|h
    ·(try simp at h)<;>omega
    ·have:=lo3.out _ h;(try simp at this)<;>omega)
   have xc4:w.heap.size<w4.heap.size:=by omega
   clear s4
   have lo4:Hid (∀x,x∈S4->w.heap.size+1<=x):=Qb (fun x hx=>by rcases hS4 x hx with h|h;(have:=lo3.out x h;omega);((try simp at h)<;>omega))
   have D4:Hid (Qc [] w w4):=Qb ((K6 (S:=w3.heap.size::S) (j6 (S:=[]) (H9 D3.out) (by simp)) c4 (fun x hx=>.inl hx)).mono (fun x hx=>.inr (by
    rcases C7.1 hx with rfl|h
    ·omega
    ·have:=lo3.out x h;omega)))
   obtain⟨b0,b1,b2,bf2,bs,bl,br⟩:=rb4
   have hr4:w3.heap.size<w4.heap.size:=Qk b0
   have HS4:=Qb bs
   have ec0:w4.cell? ⟨w.heap.size,0,none⟩=some (.int .i64 0):=(yc4 0).trans (by go_simp)
   have ec1:w4.cell? ⟨w.heap.size,1,none⟩=some (.int .i64 0):=(yc4 1).trans (by go_simp)
   have ec2:w4.cell? ⟨w.heap.size,2,none⟩=some (.int .i64 0):=(yc4 2).trans (by go_simp)
   have ec3:w4.cell? ⟨w.heap.size,3,none⟩=some (.int .i64 0):=(yc4 3).trans (by go_simp)
   clear yc4 hS4 c4 bs br
   have u4:w.heap.size<w4.heap.size+1:=by omega
   have u5:w3.heap.size<w4.heap.size+1:=by omega
   go_wp2_with fail
   go_region
   all_goals
    go_wp2_with fail
    refine bodyPost_ret (v:=.tuple #[.agg #[.int .i64 q.2.code,.int .i64 q.2.place,.int .i64 q.2.want,.int .i64 q.2.had],.slice (some ⟨g,0,none⟩) 3 cap,.int .i64 q.1.taken]) (by simp only [results,Tryz.results15];go_simp) rfl ?_
    exact⟨some ⟨g,0,none⟩,cap,by dsimp only;rw [bl],S4,by dsimp only;rw [bl];exact HS4.out.keep (S0:=[w.heap.size]) C6 (fun x hx=>by have:=lo4.out x hx;simp;omega),fun x hx=>by have:=lo4.out x hx;omega,(H9 D4.out)⟩
  ·have IP:=Qb (fun W hW=>(ipl W hW).mono (R4 n2))
   clear isl ipl rs rm ri hE sm
   go_enter Tryz.func15,Tryz.ntmps15
   go_wp2_with fail
   refine(IS.out _ C6).mono ?_
   rintro e w1 ⟨rfl,c1⟩
   have s1:=c1.size
   have v1:w.heap.size+1<=w1.heap.size:=by(try simp at s1)<;>omega
   have yc1:=c1.ce w.heap.size
   have zc1:=c1.fe w.heap.size
   have xc1:w.heap.size<w1.heap.size:=by omega
   clear s1
   have D1:Hid (Qc [] w w1):=Qb (H0 C6 c1)
   clear c1
   go_wp2_with fail
   refine(IP.out _ (H9 D1.out)).mono ?_
   rintro e w2 ⟨rfl,c2⟩
   have s2:=c2.size
   have v2:w1.heap.size<=w2.heap.size:=by(try simp at s2)<;>omega
   have yc2:=c2.ce w.heap.size
   have zc2:=c2.fe w.heap.size
   have xc2:w.heap.size<w2.heap.size:=by omega
   clear s2
   have D2:Hid (Qc [] w w2):=Qb (H0 (H9 D1.out) c2)
   clear c2
   go_wp2_with fail
   refine(CP.out _ (H9 D2.out)).mono ?_
   rintro e w5 hG
   obtain⟨A5,cap5,rfl,n5⟩:=hG.sl
   have c5:=n5.chg
   have s5:=c5.size
   have v5:w2.heap.size<=w5.heap.size:=by(try simp at s5)<;>omega
   have yc5:=c5.ce w.heap.size
   have zc5:=c5.fe w.heap.size
   have xc5:w.heap.size<w5.heap.size:=by omega
   clear s5
   skip
   obtain⟨S5,h5,l5,_⟩:=n5
   have H5:=Qb h5
   have L5:=Qb l5
   have D5:Hid (Qc [] w w5):=Qb (H0 (H9 D2.out) c5)
   clear h5 l5 c5 hG
   have ec0:w5.cell? ⟨w.heap.size,0,none⟩=some (.int .i64 0):=(yc5 0).trans (by go_simp)
   have ec1:w5.cell? ⟨w.heap.size,1,none⟩=some (.int .i64 0):=(yc5 1).trans (by go_simp)
   have ec2:w5.cell? ⟨w.heap.size,2,none⟩=some (.int .i64 0):=(yc5 2).trans (by go_simp)
   have ec3:w5.cell? ⟨w.heap.size,3,none⟩=some (.int .i64 0):=(yc5 3).trans (by go_simp)
   clear yc5
   go_wp2_with fail
   refine bodyPost_ret (v:=.tuple #[.agg #[.int .i64 3,.int .i64 0,.int .i64 0,.int .i64 0],.slice A5 l.length cap5,.int .i64 0]) (by simp only [results,Tryz.results15];go_simp) rfl ?_
   rw [Qcz (.inr n2)]
   exact⟨A5,cap5,rfl,S5,H5.out.keep (S0:=[w.heap.size]) C6 (fun x hx=>by have:=L5.out x hx;(try simp at this)<;>simp<;>omega),fun x hx=>by have:=L5.out x hx;(try simp at this)<;>omega,(H9 D5.out)⟩
 ·have IS:=Qb (fun W hW=>(isl W hW).mono (R4 n1))
  clear isl ipl rs rm ri hE sm
  go_enter Tryz.func15,Tryz.ntmps15
  go_wp2_with fail
  refine(IS.out _ C6).mono ?_
  rintro e w1 ⟨rfl,c1⟩
  have s1:=c1.size
  have v1:w.heap.size+1<=w1.heap.size:=by(try simp at s1)<;>omega
  have yc1:=c1.ce w.heap.size
  have zc1:=c1.fe w.heap.size
  have xc1:w.heap.size<w1.heap.size:=by omega
  clear s1
  have D1:Hid (Qc [] w w1):=Qb (H0 C6 c1)
  clear c1
  go_wp2_with fail
  refine(CP.out _ (H9 D1.out)).mono ?_
  rintro e w5 hG
  obtain⟨A5,cap5,rfl,n5⟩:=hG.sl
  have c5:=n5.chg
  have s5:=c5.size
  have v5:w1.heap.size<=w5.heap.size:=by(try simp at s5)<;>omega
  have yc5:=c5.ce w.heap.size
  have zc5:=c5.fe w.heap.size
  have xc5:w.heap.size<w5.heap.size:=by omega
  clear s5
  skip
  obtain⟨S5,h5,l5,_⟩:=n5
  have H5:=Qb h5
  have L5:=Qb l5
  have D5:Hid (Qc [] w w5):=Qb (H0 (H9 D1.out) c5)
  clear h5 l5 c5 hG
  have ec0:w5.cell? ⟨w.heap.size,0,none⟩=some (.int .i64 0):=(yc5 0).trans (by go_simp)
  have ec1:w5.cell? ⟨w.heap.size,1,none⟩=some (.int .i64 0):=(yc5 1).trans (by go_simp)
  have ec2:w5.cell? ⟨w.heap.size,2,none⟩=some (.int .i64 0):=(yc5 2).trans (by go_simp)
  have ec3:w5.cell? ⟨w.heap.size,3,none⟩=some (.int .i64 0):=(yc5 3).trans (by go_simp)
  clear yc5
  go_wp2_with fail
  refine bodyPost_ret (v:=.tuple #[.agg #[.int .i64 3,.int .i64 0,.int .i64 0,.int .i64 0],.slice A5 l.length cap5,.int .i64 0]) (by simp only [results,Tryz.results15];go_simp) rfl ?_
  rw [Qcz (.inl n1)]
  exact⟨A5,cap5,rfl,S5,H5.out.keep (S0:=[w.heap.size]) C6 (fun x hx=>by have:=L5.out x hx;(try simp at this)<;>simp<;>omega),fun x hx=>by have:=L5.out x hx;(try simp at this)<;>omega,(H9 D5.out)⟩
end Go.Proofs.YtjeadhmkghnkkaaGreatDoor
