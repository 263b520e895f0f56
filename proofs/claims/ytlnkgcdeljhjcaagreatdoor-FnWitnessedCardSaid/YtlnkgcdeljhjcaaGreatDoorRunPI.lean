/- RunPlan of the program. Conditions: as stated. -/
import Derived.Test.YtlnkgcdeljhjcaaGreatDoorListI
import Derived.Test.YtlnkgcdeljhjcaaGreatDoorPlOk
set_option maxRecDepth 100000
set_option maxHeartbeats 8000000
namespace Go.Proofs.YtlnkgcdeljhjcaaGreatDoor
open Go.RowKit
def Qfc (r:XH×List Qm×Int) (w:World) (e:Ending) (w':World):Prop:=∃A cap,e= .returned (.tuple #[.agg #[.int .i64 r.1.code,.int .i64 r.1.place,.int .i64 r.1.want,.int .i64 r.1.had],.slice A r.2.1.length cap,.int .i64 r.2.2])/\Gd w w' (slots r.2.1) (.slice A r.2.1.length cap)
theorem Qdn {l:List Qm} {p:List Qa} {input:List Int} (h1:QN l) (h2:X0 p):vR l p input=((QV input p 0 ⟨l,0⟩).2,(QV input p 0 ⟨l,0⟩).1.slots,(QV input p 0 ⟨l,0⟩).1.taken):=by unfold vR;rw [if_pos ⟨h1,h2⟩]
theorem Qdf {l:List Qm} {p:List Qa} {input:List Int} (h:¬QN l∨¬X0 p):vR l p input=(⟨3,0,0,0⟩,l,0):=by unfold vR;rw [if_neg (by intro k;rcases h with h|h;exact h k.1;exact h k.2)]
theorem Qf6 {l:List Qm} (h3:l.length=3) {w:World} {e:Ending} {w':World} (h:Kl (slots l) w e w'):∃g cap S,e= .returned (.slice (some ⟨g,0,none⟩) 3 cap)/\Yk w' (slots l) (.slice (some ⟨g,0,none⟩) 3 cap) S/\(∀x,x∈S->w.heap.size<=x)/\Qb [] w w':=by
 obtain⟨A,cap,rfl,S,h1,h2,h4⟩:=h.sl
 obtain⟨g,rfl,_⟩:=h1.own (by omega)
 unfold slots
 rw [h3] at h1 ⊢
 exact⟨g,cap,S,rfl,h1,h2,h4⟩
theorem qO (l:List Qm) (m:List Qa) (input:List Int) (us um ui:Value) (B:Nat) (w:World) (hl:l.length<=1048576) (sm:∀s∈l,Uh s) (hW:Ql m<=1048576) (rs:Rd w B (slots l) us) (rm:Rd w B (QH m) um) (ri:Rd w B (yw input) ui) (hB:B<=w.heap.size) (hE:Km w):
  Calls Tryz.prog 11 #[us,um,ui] w (Qfc (vR l m input) w):=by
 obtain⟨As,cs,rfl,_,_,_⟩:=Ki rs
 obtain⟨Am,cm,rfl,_,_,_⟩:=Qw rm
 obtain⟨Ai,ci,rfl,_,_,_⟩:=qG ri
 have isl:=fun W (hW:Qb [] w W)=>zn l _ B W (rs.cz hW hB) (Nat.le_trans hB hW.size) sm
 have CP:=Qd (fun W (hW:Qb [] w W)=>vB l _ B W hl sm (rs.cz hW hB) (Nat.le_trans hB hW.size))
 have ipl:=fun W (hW2:Qb [] w W)=>WL m _ B W (hE.keep hW2) hW (rm.cz hW2 hB) (Nat.le_trans hB hW2.size)
 by_cases n1:QN l
 ·have IS:=Qd (fun W hW=>(isl W hW).mono (Qg.pos n1))
  by_cases n2:X0 m
  ·have IP:=Qd (fun W hW=>(ipl W hW).mono (Qg.pos n2))
   have h3:l.length=3:=n1.1
   have CP3:=Qd (fun W (hW:Qb [] w W)=>(CP.out W hW).mono (fun _ _ h=>Qf6 h3 h))
   have EB:=Qd (YE.of hE)
   have hcost:=JY n2
   have LI:=Qd (fun r g cap S W (h1:RB W r g cap (.slice Ai input.length ci) l 0 S) (hW0:Qb [] w W) (hE0:YE w.heap.size W) (hS:∀y,y∈r::S->w.heap.size<=y)=>
    wv m (.slice Am m.length cm) 0 r g cap (.slice Ai input.length ci) input l 0 S W w.heap.size n2.2.2 hW n1 h1 ((rm.cz hW0 hB).mono hB) ⟨hE0,hW0.size,(ri.cz hW0 hB).mono hB⟩ hS (Int.le_refl _) (by have:=n2.1;omega) (Int.le_refl _) (by omega))
   rw [Qdn n1 n2]
   obtain⟨q,hq⟩:∃q,q=QV input m 0 ⟨l,0⟩:=⟨_,rfl⟩
   rw [<-hq] at LI ⊢
   have HL3:=Qd h3
   clear h3 isl ipl rs rm ri hE hcost hq n1 n2 CP sm
   go_enter Tryz.func11,Tryz.ntmps11
   go_wp2_with fail
   refine(IS.out _ Qb.now).mono ?_
   rintro e w1 ⟨rfl,c1⟩
   have s1:=c1.size
   have v1:w.heap.size+1<=w1.heap.size:=by(try simp at s1)<;>omega
   have yc1:=c1.ce w.heap.size
   have zc1:=c1.fe w.heap.size
   have xc1:w.heap.size<w1.heap.size:=by omega
   clear s1
   have D1:Hid (Qb [] w w1):=Qd (Qb.tz Qb.now c1)
   clear c1
   go_wp2_with fail
   refine(IP.out _ (Qb.to D1.out)).mono ?_
   rintro e w2 ⟨rfl,c2⟩
   have s2:=c2.size
   have v2:w1.heap.size<=w2.heap.size:=by(try simp at s2)<;>omega
   have yc2:=c2.ce w.heap.size
   have zc2:=c2.fe w.heap.size
   have xc2:w.heap.size<w2.heap.size:=by omega
   clear s2
   have D2:Hid (Qb [] w w2):=Qd (Qb.tz (Qb.to D1.out) c2)
   clear c2
   go_wp2_with fail
   refine(CP3.out _ (Qb.to D2.out)).mono ?_
   rintro e w3 ⟨g,cap,S,rfl,hS,lS,c3⟩
   have s3:=c3.size
   have v3:w2.heap.size<=w3.heap.size:=by(try simp at s3)<;>omega
   have yc3:=c3.ce w.heap.size
   have zc3:=c3.fe w.heap.size
   have xc3:w.heap.size<w3.heap.size:=by omega
   clear s3
   have D3:Hid (Qb [] w w3):=Qd (Qb.tz (Qb.to D2.out) c3)
   have lo3:Hid (∀x,x∈S->w.heap.size+1<=x/\x<w3.heap.size):=Qd (fun x hx=>⟨by have:=lS x hx;(try simp at this)<;>omega,hS.lt x hx⟩)
   have HS:=Qd hS
   clear hS lS c3
   go_wp2_with fail
   refine(LI.out w3.heap.size g cap S _ ?_ (Qb.to D3.out) (EB.out.keep (S:=[]) (Qb.to D3.out) (by simp) (Nat.le_refl _)) (fun y hy=>by
    rcases List.mem_cons.1 hy with rfl|hy
    ·omega
    ·have:=lo3.out y hy;omega)).mono ?_
   ·exact⟨by go_simp,by go_simp,by go_simp,by go_simp,HS.out.kz Qb.now,HL3.out,fun h=>by have:=lo3.out _ h;omega⟩
   rintro e w4 ⟨S4,rfl,rb4,hS4,c4⟩
   have s4:=c4.size
   have v4:w3.heap.size+1<=w4.heap.size:=by(try simp at s4)<;>omega
   have yc4:=c4.ce w.heap.size (hn:=fun hx=>by
    rcases List.mem_cons.1 hx with h|h
    ·(try simp at h)<;>omega
    ·have:=lo3.out _ h;(try simp at this)<;>omega)
   have zc4:=c4.fe w.heap.size (hn:=fun hx=>by
    rcases List.mem_cons.1 hx with h|h
    ·(try simp at h)<;>omega
    ·have:=lo3.out _ h;(try simp at this)<;>omega)
   have xc4:w.heap.size<w4.heap.size:=by omega
   clear s4
   have lo4:Hid (∀x,x∈S4->w.heap.size+1<=x):=Qd (fun x hx=>by rcases hS4 x hx with h|h;(have:=lo3.out x h;omega);((try simp at h)<;>omega))
   have D4:Hid (Qb [] w w4):=Qd ((Qb.trans (S:=w3.heap.size::S) (Qb.mono (S:=[]) (Qb.to D3.out) (by simp)) c4 (fun x hx=>.inl hx)).mono (fun x hx=>.inr (by
    rcases List.mem_cons.1 hx with rfl|h
    ·omega
    ·have:=lo3.out x h;omega)))
   obtain⟨b0,b1,b2,bf2,bs,bl,br⟩:=rb4
   have hr4:w3.heap.size<w4.heap.size:=Qn b0
   have HS4:=Qd bs
   have ec0:w4.cell? ⟨w.heap.size,0,none⟩=some (.int .i64 0):=(yc4 0).trans (by go_simp)
   have ec1:w4.cell? ⟨w.heap.size,1,none⟩=some (.int .i64 0):=(yc4 1).trans (by go_simp)
   have ec2:w4.cell? ⟨w.heap.size,2,none⟩=some (.int .i64 0):=(yc4 2).trans (by go_simp)
   have ec3:w4.cell? ⟨w.heap.size,3,none⟩=some (.int .i64 0):=(yc4 3).trans (by go_simp)
   clear yc4 hS4 c4 bs br
   have u4:w.heap.size<w4.heap.size+1:=by omega
   have u5:w3.heap.size<w4.heap.size+1:=by omega
   go_wp2_with fail
   go_region
   all_goals
    go_wp2_with fail
    refine bodyPost_ret (v:=.tuple #[.agg #[.int .i64 q.2.code,.int .i64 q.2.place,.int .i64 q.2.want,.int .i64 q.2.had],.slice (some ⟨g,0,none⟩) 3 cap,.int .i64 q.1.taken]) (by simp only [results,Tryz.results11];go_simp) rfl ?_
    exact⟨some ⟨g,0,none⟩,cap,by dsimp only;rw [bl],S4,by dsimp only;rw [bl];exact HS4.out.keep (S0:=[w.heap.size]) Qb.now (fun x hx=>by have:=lo4.out x hx;simp;omega),fun x hx=>by have:=lo4.out x hx;omega,(Qb.to D4.out)⟩
  ·have IP:=Qd (fun W hW=>(ipl W hW).mono (Qg.neg n2))
   clear isl ipl rs rm ri hE sm
   go_enter Tryz.func11,Tryz.ntmps11
   go_wp2_with fail
   refine(IS.out _ Qb.now).mono ?_
   rintro e w1 ⟨rfl,c1⟩
   have s1:=c1.size
   have v1:w.heap.size+1<=w1.heap.size:=by(try simp at s1)<;>omega
   have yc1:=c1.ce w.heap.size
   have zc1:=c1.fe w.heap.size
   have xc1:w.heap.size<w1.heap.size:=by omega
   clear s1
   have D1:Hid (Qb [] w w1):=Qd (Qb.tz Qb.now c1)
   clear c1
   go_wp2_with fail
   refine(IP.out _ (Qb.to D1.out)).mono ?_
   rintro e w2 ⟨rfl,c2⟩
   have s2:=c2.size
   have v2:w1.heap.size<=w2.heap.size:=by(try simp at s2)<;>omega
   have yc2:=c2.ce w.heap.size
   have zc2:=c2.fe w.heap.size
   have xc2:w.heap.size<w2.heap.size:=by omega
   clear s2
   have D2:Hid (Qb [] w w2):=Qd (Qb.tz (Qb.to D1.out) c2)
   clear c2
   go_wp2_with fail
   refine(CP.out _ (Qb.to D2.out)).mono ?_
   rintro e w5 hG
   obtain⟨A5,cap5,rfl,n5⟩:=hG.sl
   have c5:=n5.chg
   have s5:=c5.size
   have v5:w2.heap.size<=w5.heap.size:=by(try simp at s5)<;>omega
   have yc5:=c5.ce w.heap.size
   have zc5:=c5.fe w.heap.size
   have xc5:w.heap.size<w5.heap.size:=by omega
   clear s5
   skip
   obtain⟨S5,h5,l5,_⟩:=n5
   have H5:=Qd h5
   have L5:=Qd l5
   have D5:Hid (Qb [] w w5):=Qd (Qb.tz (Qb.to D2.out) c5)
   clear h5 l5 c5 hG
   have ec0:w5.cell? ⟨w.heap.size,0,none⟩=some (.int .i64 0):=(yc5 0).trans (by go_simp)
   have ec1:w5.cell? ⟨w.heap.size,1,none⟩=some (.int .i64 0):=(yc5 1).trans (by go_simp)
   have ec2:w5.cell? ⟨w.heap.size,2,none⟩=some (.int .i64 0):=(yc5 2).trans (by go_simp)
   have ec3:w5.cell? ⟨w.heap.size,3,none⟩=some (.int .i64 0):=(yc5 3).trans (by go_simp)
   clear yc5
   go_wp2_with fail
   refine bodyPost_ret (v:=.tuple #[.agg #[.int .i64 3,.int .i64 0,.int .i64 0,.int .i64 0],.slice A5 l.length cap5,.int .i64 0]) (by simp only [results,Tryz.results11];go_simp) rfl ?_
   rw [Qdf (.inr n2)]
   exact⟨A5,cap5,rfl,S5,H5.out.keep (S0:=[w.heap.size]) Qb.now (fun x hx=>by have:=L5.out x hx;(try simp at this)<;>simp<;>omega),fun x hx=>by have:=L5.out x hx;(try simp at this)<;>omega,(Qb.to D5.out)⟩
 ·have IS:=Qd (fun W hW=>(isl W hW).mono (Qg.neg n1))
  clear isl ipl rs rm ri hE sm
  go_enter Tryz.func11,Tryz.ntmps11
  go_wp2_with fail
  refine(IS.out _ Qb.now).mono ?_
  rintro e w1 ⟨rfl,c1⟩
  have s1:=c1.size
  have v1:w.heap.size+1<=w1.heap.size:=by(try simp at s1)<;>omega
  have yc1:=c1.ce w.heap.size
  have zc1:=c1.fe w.heap.size
  have xc1:w.heap.size<w1.heap.size:=by omega
  clear s1
  have D1:Hid (Qb [] w w1):=Qd (Qb.tz Qb.now c1)
  clear c1
  go_wp2_with fail
  refine(CP.out _ (Qb.to D1.out)).mono ?_
  rintro e w5 hG
  obtain⟨A5,cap5,rfl,n5⟩:=hG.sl
  have c5:=n5.chg
  have s5:=c5.size
  have v5:w1.heap.size<=w5.heap.size:=by(try simp at s5)<;>omega
  have yc5:=c5.ce w.heap.size
  have zc5:=c5.fe w.heap.size
  have xc5:w.heap.size<w5.heap.size:=by omega
  clear s5
  skip
  obtain⟨S5,h5,l5,_⟩:=n5
  have H5:=Qd h5
  have L5:=Qd l5
  have D5:Hid (Qb [] w w5):=Qd (Qb.tz (Qb.to D1.out) c5)
  clear h5 l5 c5 hG
  have ec0:w5.cell? ⟨w.heap.size,0,none⟩=some (.int .i64 0):=(yc5 0).trans (by go_simp)
  have ec1:w5.cell? ⟨w.heap.size,1,none⟩=some (.int .i64 0):=(yc5 1).trans (by go_simp)
  have ec2:w5.cell? ⟨w.heap.size,2,none⟩=some (.int .i64 0):=(yc5 2).trans (by go_simp)
  have ec3:w5.cell? ⟨w.heap.size,3,none⟩=some (.int .i64 0):=(yc5 3).trans (by go_simp)
  clear yc5
  go_wp2_with fail
  refine bodyPost_ret (v:=.tuple #[.agg #[.int .i64 3,.int .i64 0,.int .i64 0,.int .i64 0],.slice A5 l.length cap5,.int .i64 0]) (by simp only [results,Tryz.results11];go_simp) rfl ?_
  rw [Qdf (.inl n1)]
  exact⟨A5,cap5,rfl,S5,H5.out.keep (S0:=[w.heap.size]) Qb.now (fun x hx=>by have:=L5.out x hx;(try simp at this)<;>simp<;>omega),fun x hx=>by have:=L5.out x hx;(try simp at this)<;>omega,(Qb.to D5.out)⟩
end Go.Proofs.YtlnkgcdeljhjcaaGreatDoor
