/- l8Part of the reference, by kind of action. Conditions: the call has bounds. Written by a program. -/
import Derived.Test.YtjigcplpkhpgnaaGreatDoorRunBs
import Derived.Test.YtjigcplpkhpgnaaGreatDoorCallPS
import Derived.Test.YtjigcplpkhpgnaaGreatDoorUnw
import Derived.BigRegion
import Derived.Deep.RegionLaw
set_option maxRecDepth 100000
set_option maxHeartbeats 8000000
namespace Go.Proofs.YtjigcplpkhpgnaaGreatDoor
open Go.RowKit
theorem SB.same {w:World} {gs cap:Nat} {l:List SlotT} {S:List Nat} {j:Nat} {u:Value} (h:SB w gs cap l S) (hu:w.cell? ⟨gs,j,none⟩=some u):w.setCell ⟨gs,j,none⟩ u=w:=by
 have hh:=h.hs
 unfold slots at hh
 rw [h.hl] at hh
 exact hh.setSame hu
theorem l8Part_unwrap (gs cap:Nat) (Ai:Option Addr) (ni ci:Nat) (l:List SlotT) (t:Int) (S:List Nat) (w:World) (a:ActionT) (uA uB:Value) (i:Nat) (place:Int) (h:SB w gs cap l S) (hi:i<l.length) (hs:a.slot=(i:Int)) (ho:a.op=3) (sm:SlotSmall l[i]) (hf:l[i].full=true):
  Calls Tryz.prog 49 #[.agg #[.slice (some ⟨gs,0,none⟩) 3 cap,.slice Ai ni ci,.int .i64 t,.int .i64 0,.int .i64 0,.int .i64 0,.int .i64 0],.agg #[.int .i64 a.op,.int .i64 a.slot,.int .i64 a.other,.string a.word,.string a.call.method,.string a.call.key,.int .i64 a.call.value,.string a.call.text,.int .i64 a.face,uA,uB],.int .i64 place] w (RunE gs cap (.slice Ai ni ci) (l.set i ⟨true,(unwrapT l[i].part).1⟩) t (okEnd) S w):=by
 obtain⟨A3,c3,A5,c5,q0,q1,q2,q3,q4,q5,q6,r4,r6,hfr,hgl⟩:=h.hs.slotAt h.hl (by rw [<-h.hl];exact hi) hi
 obtain⟨sm2,sm1,sm3⟩:=sm
 rw [hf] at q0
 obtain⟨p,hpp⟩:∃p,p=l[i].part:=⟨_,rfl⟩
 rw [<-hpp] at q1 q2 q3 q4 q5 q6 r4 r6 sm1 sm2 sm3
 try rw [<-hpp]
 have z0:=hfr 0 (by omega);have z1:=hfr 1 (by omega);have z2:=hfr 2 (by omega);have z3:=hfr 3 (by omega);have z4:=hfr 4 (by omega);have z5:=hfr 5 (by omega);have z6:=hfr 6 (by omega)
 rw [Nat.add_zero] at z0
 have lt0:=hid h.lt
 have hgs0:=hid h.gs.1
 have hcap1:=h.gs.2.1
 have hcap2:=h.gs.2.2
 unfold maxLen at hcap2
 have H:=hid h
 have i3:i<3:=by rw [<-h.hl];exact hi
 have j0:(0:Int)<=(i:Int):=by omega
 have j1:(i:Int)<3:=by omega
 have g0:gs<w.heap.size+1:=by omega
 have g1:gs<w.heap.size+1+1:=by omega
 have g2:gs<w.heap.size+1+1+1:=by omega
 have g3:gs<w.heap.size+1+1+1+1:=by omega
 have g4:gs<w.heap.size+1+1+1+1+1:=by omega
 have g5:gs<w.heap.size+1+1+1+1+1+1:=by omega
 have o2:(a.op==2)=false:=by rw [ho];rfl
 have o3:(a.op==3)=true:=by rw [ho];rfl
 have o6:(a.op==6)=false:=by rw [ho];rfl
 have o7:(a.op==7)=false:=by rw [ho];rfl
 have UN:=hid (fun W (hW:Chg [] w W)=>unwrap_spec_any p _ _ w.heap.size W (r4.chg0 hW (Nat.le_refl _)) (r6.chg0 hW (Nat.le_refl _)) hW.size sm1 sm2 sm3)
 obtain⟨q,hq⟩:∃q,q=unwrapT p:=⟨_,rfl⟩
 rw [<-hq] at UN
 try rw [<-hq]
 have HI:=hid hi
 have HF:=hid hf
 clear h hf hpp hfr ho hq r4 r6 sm1 sm2 sm3
 rw [hs]
 clear hs
 go_enter Tryz.func49,Tryz.ntmps49
 go_wp2_with fail
 refine(UN.out _ Chg.now).mono ?_
 rintro e w1 ⟨B3,b3,B5,b5,rfl,nl⟩
 obtain⟨S1,hl10,lo10,c1⟩:=nl
 have s1:=c1.size
 have v1:w.heap.size+6<=w1.heap.size:=by(try simp at s1)<;>omega
 have ys1:=c1.ce gs
 have zs1:=c1.fe gs
 have xs1:gs<w1.heap.size:=by omega
 obtain⟨yr1,zr1,xr1,ya1,za1,xa1,yo1,zo1,xo1,yp1,zp1,xp1,yq1,zq1,xq1,yx1,zx1,xx1, -⟩:=c1.low 6 (w.heap.size) (fun x hx=>by simp at hx)
 clear s1
 have D1:Hid (Chg [] w w1):=hid (Chg.trans0 Chg.now c1)
 obtain⟨er0_1,er1_1,er2_1,er3_1,er4_1,er5_1,er6_1⟩:Cs7 w1 (w.heap.size) (.slice (some ⟨gs,0,none⟩) 3 cap) (.slice Ai ni ci) (.int .i64 t) (.int .i64 0) (.int .i64 0) (.int .i64 0) (.int .i64 0):=.of yr1
 obtain⟨eo0_1,eo1_1,eo2_1,eo3_1,eo4_1,eo5_1,eo6_1⟩:Cs7 w1 (w.heap.size+1+1) (.slice none 0 0) (.slice none 0 0) (.int .i64 0) (.int .i64 0) (.int .i64 0) (.int .i64 0) (.int .i64 0):=.of yo1
 obtain⟨eq0_1,eq1_1,eq2_1,eq3_1,eq4_1,eq5_1⟩:Cs6 w1 (w.heap.size+1+1+1+1) (.string p.core.kind) (.bool p.core.on) (.bool p.core.broken) (.slice A3 p.core.cells.length c3) (.int .i64 p.core.count) (.slice A5 p.layers.length c5):=.of yq1
 obtain⟨ex0_1,ex1_1,ex2_1,ex3_1,ex4_1⟩:Cs5 w1 (w.heap.size+1+1+1+1+1) (.int .i64 0) (.int .i64 0) (.string ⟨#[]⟩) (.int .i64 0) (.int .i64 0):=.of yx1
 clear yr1 yo1 yq1 yx1
 have lo1:Hid (∀y,y∈S1->w.heap.size+6<=y/\y<w1.heap.size):=hid (fun y hy=>⟨by have:=lo10 y hy;(try simp at this)<;>omega,hl10.lt y hy⟩)
 have hl1:=hid hl10
 have SB1:=hid ((H.out.keep0 Chg.now).keep0 c1)
 clear hl10 lo10 c1
 go_wp2_with fail
 refine bodyPost_ret (v:=.agg #[.slice (some ⟨gs,0,none⟩) 3 cap,.slice Ai ni ci,.int .i64 t,.int .i64 0,.int .i64 0,.int .i64 0,.int .i64 0]) (by simp only [results,Tryz.results49];go_simp) rfl ?_
 have hgs:=hgs0.out
 have sbx:SB ((((((w1.setCell ⟨w.heap.size+1+1+1+1,0,none⟩ (.string q.1.core.kind)).setCell ⟨w.heap.size+1+1+1+1,1,none⟩ (.bool q.1.core.on)).setCell ⟨w.heap.size+1+1+1+1,2,none⟩ (.bool q.1.core.broken)).setCell ⟨w.heap.size+1+1+1+1,3,none⟩ (.slice B3 q.1.core.cells.length b3)).setCell ⟨w.heap.size+1+1+1+1,4,none⟩ (.int .i64 q.1.core.count)).setCell ⟨w.heap.size+1+1+1+1,5,none⟩ (.slice B5 q.1.layers.length b5)) gs cap l S:=SB1.out.keep (T:=[w.heap.size+1+1+1+1]) Chg.now (fun y hy=>by have:=lt0.out y hy;simp;omega)
 have hlx:HasL ((((((w1.setCell ⟨w.heap.size+1+1+1+1,0,none⟩ (.string q.1.core.kind)).setCell ⟨w.heap.size+1+1+1+1,1,none⟩ (.bool q.1.core.on)).setCell ⟨w.heap.size+1+1+1+1,2,none⟩ (.bool q.1.core.broken)).setCell ⟨w.heap.size+1+1+1+1,3,none⟩ (.slice B3 q.1.core.cells.length b3)).setCell ⟨w.heap.size+1+1+1+1,4,none⟩ (.int .i64 q.1.core.count)).setCell ⟨w.heap.size+1+1+1+1,5,none⟩ (.slice B5 q.1.layers.length b5)) (partF q.1) [.string q.1.core.kind,.bool q.1.core.on,.bool q.1.core.broken,.slice B3 q.1.core.cells.length b3,.int .i64 q.1.core.count,.slice B5 q.1.layers.length b5] S1:=hl1.out.keep (S0:=[w.heap.size+1+1+1+1]) Chg.now (fun y hy=>by have:=lo1.out y hy;simp;omega)
 obtain⟨S',rb',hS',_,cg⟩:=sbx.putPart HI.out hlx (fun y hy hy2=>by have:=lo1.out y hy;have:=lt0.out y hy2;omega)
 rw [HF.out] at rb'
 simp only [setCells,Nat.add_assoc,Nat.reduceAdd] at rb' cg
 exact⟨S',rfl,rb'.keep (T:=[w.heap.size+1+1]) Chg.now (fun y hy=>by rcases hS' y hy with h|h;(have:=lt0.out y h;simp;omega);(have:=lo1.out y h;simp;omega)),fun y hy=>(hS' y hy).imp id (fun h=>by have:=lo1.out y h;omega),(Chg.to (D1.out.mono (by simp):Chg S w w1))⟩
theorem l8Part_unwrapE (gs cap:Nat) (Ai:Option Addr) (ni ci:Nat) (l:List SlotT) (t:Int) (S:List Nat) (w:World) (a:ActionT) (uA uB:Value) (i:Nat) (place:Int) (h:SB w gs cap l S) (hi:i<l.length) (hs:a.slot=(i:Int)) (ho:a.op=3) (sm:SlotSmall l[i]) (hf:l[i].full=false):
  Calls Tryz.prog 49 #[.agg #[.slice (some ⟨gs,0,none⟩) 3 cap,.slice Ai ni ci,.int .i64 t,.int .i64 0,.int .i64 0,.int .i64 0,.int .i64 0],.agg #[.int .i64 a.op,.int .i64 a.slot,.int .i64 a.other,.string a.word,.string a.call.method,.string a.call.key,.int .i64 a.call.value,.string a.call.text,.int .i64 a.face,uA,uB],.int .i64 place] w (RunE gs cap (.slice Ai ni ci) (l) t (⟨2,place,0,0⟩) S w):=by
 obtain⟨A3,c3,A5,c5,q0,q1,q2,q3,q4,q5,q6,r4,r6,hfr,hgl⟩:=h.hs.slotAt h.hl (by rw [<-h.hl];exact hi) hi
 obtain⟨sm2,sm1,sm3⟩:=sm
 rw [hf] at q0
 obtain⟨p,hpp⟩:∃p,p=l[i].part:=⟨_,rfl⟩
 rw [<-hpp] at q1 q2 q3 q4 q5 q6 r4 r6 sm1 sm2 sm3
 try rw [<-hpp]
 have z0:=hfr 0 (by omega);have z1:=hfr 1 (by omega);have z2:=hfr 2 (by omega);have z3:=hfr 3 (by omega);have z4:=hfr 4 (by omega);have z5:=hfr 5 (by omega);have z6:=hfr 6 (by omega)
 rw [Nat.add_zero] at z0
 have lt0:=hid h.lt
 have hgs0:=hid h.gs.1
 have hcap1:=h.gs.2.1
 have hcap2:=h.gs.2.2
 unfold maxLen at hcap2
 have H:=hid h
 have i3:i<3:=by rw [<-h.hl];exact hi
 have j0:(0:Int)<=(i:Int):=by omega
 have j1:(i:Int)<3:=by omega
 have g0:gs<w.heap.size+1:=by omega
 have g1:gs<w.heap.size+1+1:=by omega
 have g2:gs<w.heap.size+1+1+1:=by omega
 have g3:gs<w.heap.size+1+1+1+1:=by omega
 have g4:gs<w.heap.size+1+1+1+1+1:=by omega
 have g5:gs<w.heap.size+1+1+1+1+1+1:=by omega
 have o2:(a.op==2)=false:=by rw [ho];rfl
 have o3:(a.op==3)=true:=by rw [ho];rfl
 have o6:(a.op==6)=false:=by rw [ho];rfl
 have o7:(a.op==7)=false:=by rw [ho];rfl
 have UN:=hid (fun W (hW:Chg [] w W)=>unwrap_spec_any p _ _ w.heap.size W (r4.chg0 hW (Nat.le_refl _)) (r6.chg0 hW (Nat.le_refl _)) hW.size sm1 sm2 sm3)
 obtain⟨q,hq⟩:∃q,q=unwrapT p:=⟨_,rfl⟩
 rw [<-hq] at UN
 try rw [<-hq]
 clear h hf hpp hfr ho hq r4 r6 sm1 sm2 sm3
 rw [hs]
 clear hs
 go_enter Tryz.func49,Tryz.ntmps49
 go_wp2_with fail
 refine(UN.out _ Chg.now).mono ?_
 rintro e w1 ⟨B3,b3,B5,b5,rfl,nl⟩
 obtain⟨S1,hl10,lo10,c1⟩:=nl
 have s1:=c1.size
 have v1:w.heap.size+6<=w1.heap.size:=by(try simp at s1)<;>omega
 have ys1:=c1.ce gs
 have zs1:=c1.fe gs
 have xs1:gs<w1.heap.size:=by omega
 obtain⟨yr1,zr1,xr1,ya1,za1,xa1,yo1,zo1,xo1,yp1,zp1,xp1,yq1,zq1,xq1,yx1,zx1,xx1, -⟩:=c1.low 6 (w.heap.size) (fun x hx=>by simp at hx)
 clear s1
 have D1:Hid (Chg [] w w1):=hid (Chg.trans0 Chg.now c1)
 obtain⟨er0_1,er1_1,er2_1,er3_1,er4_1,er5_1,er6_1⟩:Cs7 w1 (w.heap.size) (.slice (some ⟨gs,0,none⟩) 3 cap) (.slice Ai ni ci) (.int .i64 t) (.int .i64 0) (.int .i64 0) (.int .i64 0) (.int .i64 0):=.of yr1
 obtain⟨eo0_1,eo1_1,eo2_1,eo3_1,eo4_1,eo5_1,eo6_1⟩:Cs7 w1 (w.heap.size+1+1) (.slice none 0 0) (.slice none 0 0) (.int .i64 0) (.int .i64 0) (.int .i64 0) (.int .i64 0) (.int .i64 0):=.of yo1
 obtain⟨eq0_1,eq1_1,eq2_1,eq3_1,eq4_1,eq5_1⟩:Cs6 w1 (w.heap.size+1+1+1+1) (.string p.core.kind) (.bool p.core.on) (.bool p.core.broken) (.slice A3 p.core.cells.length c3) (.int .i64 p.core.count) (.slice A5 p.layers.length c5):=.of yq1
 obtain⟨ex0_1,ex1_1,ex2_1,ex3_1,ex4_1⟩:Cs5 w1 (w.heap.size+1+1+1+1+1) (.int .i64 0) (.int .i64 0) (.string ⟨#[]⟩) (.int .i64 0) (.int .i64 0):=.of yx1
 clear yr1 yo1 yq1 yx1
 have lo1:Hid (∀y,y∈S1->w.heap.size+6<=y/\y<w1.heap.size):=hid (fun y hy=>⟨by have:=lo10 y hy;(try simp at this)<;>omega,hl10.lt y hy⟩)
 have hl1:=hid hl10
 have SB1:=hid ((H.out.keep0 Chg.now).keep0 c1)
 clear hl10 lo10 c1
 go_wp2_with fail
 refine bodyPost_ret (v:=.agg #[.slice (some ⟨gs,0,none⟩) 3 cap,.slice Ai ni ci,.int .i64 t,.int .i64 2,.int .i64 place,.int .i64 0,.int .i64 0]) (by simp only [results,Tryz.results49];go_simp) rfl ?_
 have hgs:=hgs0.out
 exact⟨S,rfl,SB1.out.keep (T:=[w.heap.size,w.heap.size+1+1,w.heap.size+1+1+1+1,w.heap.size+1+1+1+1+1]) Chg.now (fun y hy=>by have:=lt0.out y hy;simp;omega),fun y hy=>.inl hy,(Chg.to (D1.out.mono (by simp):Chg S w w1))⟩
theorem l8Part_wrap (gs cap:Nat) (Ai:Option Addr) (ni ci:Nat) (l:List SlotT) (t:Int) (S:List Nat) (w:World) (a:ActionT) (uA uB:Value) (i:Nat) (place:Int) (h:SB w gs cap l S) (hi:i<l.length) (hs:a.slot=(i:Int)) (ho:a.op=2) (sm:SlotSmall l[i]) (hf:l[i].full=true) (hc:¬(wrapOf l[i].part a.word).2.code=1):
  Calls Tryz.prog 49 #[.agg #[.slice (some ⟨gs,0,none⟩) 3 cap,.slice Ai ni ci,.int .i64 t,.int .i64 0,.int .i64 0,.int .i64 0,.int .i64 0],.agg #[.int .i64 a.op,.int .i64 a.slot,.int .i64 a.other,.string a.word,.string a.call.method,.string a.call.key,.int .i64 a.call.value,.string a.call.text,.int .i64 a.face,uA,uB],.int .i64 place] w (RunE gs cap (.slice Ai ni ci) (l.set i ⟨true,(wrapOf l[i].part a.word).1⟩) t (okEnd) S w):=by
 obtain⟨A3,c3,A5,c5,q0,q1,q2,q3,q4,q5,q6,r4,r6,hfr,hgl⟩:=h.hs.slotAt h.hl (by rw [<-h.hl];exact hi) hi
 obtain⟨sm2,sm1,sm3⟩:=sm
 rw [hf] at q0
 obtain⟨p,hpp⟩:∃p,p=l[i].part:=⟨_,rfl⟩
 rw [<-hpp] at q1 q2 q3 q4 q5 q6 r4 r6 sm1 sm2 sm3 hc
 try rw [<-hpp]
 have z0:=hfr 0 (by omega);have z1:=hfr 1 (by omega);have z2:=hfr 2 (by omega);have z3:=hfr 3 (by omega);have z4:=hfr 4 (by omega);have z5:=hfr 5 (by omega);have z6:=hfr 6 (by omega)
 rw [Nat.add_zero] at z0
 have lt0:=hid h.lt
 have hgs0:=hid h.gs.1
 have hcap1:=h.gs.2.1
 have hcap2:=h.gs.2.2
 unfold maxLen at hcap2
 have H:=hid h
 have i3:i<3:=by rw [<-h.hl];exact hi
 have j0:(0:Int)<=(i:Int):=by omega
 have j1:(i:Int)<3:=by omega
 have g0:gs<w.heap.size+1:=by omega
 have g1:gs<w.heap.size+1+1:=by omega
 have g2:gs<w.heap.size+1+1+1:=by omega
 have g3:gs<w.heap.size+1+1+1+1:=by omega
 have g4:gs<w.heap.size+1+1+1+1+1:=by omega
 have g5:gs<w.heap.size+1+1+1+1+1+1:=by omega
 have o2:(a.op==2)=true:=by rw [ho];rfl
 have o3:(a.op==3)=false:=by rw [ho];rfl
 have o6:(a.op==6)=false:=by rw [ho];rfl
 have o7:(a.op==7)=false:=by rw [ho];rfl
 have CL:=hid (fun W (hW:Chg [] w W)=>wrap_spec_any p a.word _ _ w.heap.size W (r4.chg0 hW (Nat.le_refl _)) (r6.chg0 hW (Nat.le_refl _)) hW.size sm1 sm2 sm3)
 obtain⟨q,hq⟩:∃q,q=wrapOf p a.word:=⟨_,rfl⟩
 rw [<-hq] at CL hc
 try rw [<-hq]
 have hc1:(q.2.code==1)=false:=by simpa using hc
 have HI:=hid hi
 have HF:=hid hf
 clear h hf hpp hfr ho hq r4 r6 sm1 sm2 sm3 hc
 rw [hs]
 clear hs
 go_enter Tryz.func49,Tryz.ntmps49
 go_wp2_with fail
 refine(CL.out _ Chg.now).mono ?_
 rintro e w1 ⟨B3,b3,B5,b5,rfl,nl⟩
 obtain⟨S1,hl10,lo10,c1⟩:=nl
 have s1:=c1.size
 have v1:w.heap.size+6<=w1.heap.size:=by(try simp at s1)<;>omega
 have ys1:=c1.ce gs
 have zs1:=c1.fe gs
 have xs1:gs<w1.heap.size:=by omega
 obtain⟨yr1,zr1,xr1,ya1,za1,xa1,yo1,zo1,xo1,yp1,zp1,xp1,yq1,zq1,xq1,yx1,zx1,xx1, -⟩:=c1.low 6 (w.heap.size) (fun x hx=>by simp at hx)
 clear s1
 have D1:Hid (Chg [] w w1):=hid (Chg.trans0 Chg.now c1)
 obtain⟨er0_1,er1_1,er2_1,er3_1,er4_1,er5_1,er6_1⟩:Cs7 w1 (w.heap.size) (.slice (some ⟨gs,0,none⟩) 3 cap) (.slice Ai ni ci) (.int .i64 t) (.int .i64 0) (.int .i64 0) (.int .i64 0) (.int .i64 0):=.of yr1
 obtain⟨eo0_1,eo1_1,eo2_1,eo3_1,eo4_1,eo5_1,eo6_1⟩:Cs7 w1 (w.heap.size+1+1) (.slice none 0 0) (.slice none 0 0) (.int .i64 0) (.int .i64 0) (.int .i64 0) (.int .i64 0) (.int .i64 0):=.of yo1
 obtain⟨eq0_1,eq1_1,eq2_1,eq3_1,eq4_1,eq5_1⟩:Cs6 w1 (w.heap.size+1+1+1+1) (.string p.core.kind) (.bool p.core.on) (.bool p.core.broken) (.slice A3 p.core.cells.length c3) (.int .i64 p.core.count) (.slice A5 p.layers.length c5):=.of yq1
 obtain⟨ex0_1,ex1_1,ex2_1,ex3_1,ex4_1⟩:Cs5 w1 (w.heap.size+1+1+1+1+1) (.int .i64 0) (.int .i64 0) (.string ⟨#[]⟩) (.int .i64 0) (.int .i64 0):=.of yx1
 clear yr1 yo1 yq1 yx1
 have lo1:Hid (∀y,y∈S1->w.heap.size+6<=y/\y<w1.heap.size):=hid (fun y hy=>⟨by have:=lo10 y hy;(try simp at this)<;>omega,hl10.lt y hy⟩)
 have hl1:=hid hl10
 have SB1:=hid ((H.out.keep0 Chg.now).keep0 c1)
 clear hl10 lo10 c1
 go_wp2_with fail
 refine bodyPost_ret (v:=.agg #[.slice (some ⟨gs,0,none⟩) 3 cap,.slice Ai ni ci,.int .i64 t,.int .i64 0,.int .i64 0,.int .i64 0,.int .i64 0]) (by simp only [results,Tryz.results49];go_simp) rfl ?_
 have hgs:=hgs0.out
 have sbx:SB (((((((((((w1.setCell ⟨w.heap.size+1+1+1+1,0,none⟩ (.string q.1.core.kind)).setCell ⟨w.heap.size+1+1+1+1,1,none⟩ (.bool q.1.core.on)).setCell ⟨w.heap.size+1+1+1+1,2,none⟩ (.bool q.1.core.broken)).setCell ⟨w.heap.size+1+1+1+1,3,none⟩ (.slice B3 q.1.core.cells.length b3)).setCell ⟨w.heap.size+1+1+1+1,4,none⟩ (.int .i64 q.1.core.count)).setCell ⟨w.heap.size+1+1+1+1,5,none⟩ (.slice B5 q.1.layers.length b5)).setCell ⟨w.heap.size+1+1+1+1+1,0,none⟩ (.int .i64 q.2.code)).setCell ⟨w.heap.size+1+1+1+1+1,1,none⟩ (.int .i64 q.2.value)).setCell ⟨w.heap.size+1+1+1+1+1,2,none⟩ (.string q.2.text)).setCell ⟨w.heap.size+1+1+1+1+1,3,none⟩ (.int .i64 q.2.want)).setCell ⟨w.heap.size+1+1+1+1+1,4,none⟩ (.int .i64 q.2.had)) gs cap l S:=SB1.out.keep (T:=[w.heap.size+1+1+1+1,w.heap.size+1+1+1+1+1]) Chg.now (fun y hy=>by have:=lt0.out y hy;simp;omega)
 have hlx:HasL (((((((((((w1.setCell ⟨w.heap.size+1+1+1+1,0,none⟩ (.string q.1.core.kind)).setCell ⟨w.heap.size+1+1+1+1,1,none⟩ (.bool q.1.core.on)).setCell ⟨w.heap.size+1+1+1+1,2,none⟩ (.bool q.1.core.broken)).setCell ⟨w.heap.size+1+1+1+1,3,none⟩ (.slice B3 q.1.core.cells.length b3)).setCell ⟨w.heap.size+1+1+1+1,4,none⟩ (.int .i64 q.1.core.count)).setCell ⟨w.heap.size+1+1+1+1,5,none⟩ (.slice B5 q.1.layers.length b5)).setCell ⟨w.heap.size+1+1+1+1+1,0,none⟩ (.int .i64 q.2.code)).setCell ⟨w.heap.size+1+1+1+1+1,1,none⟩ (.int .i64 q.2.value)).setCell ⟨w.heap.size+1+1+1+1+1,2,none⟩ (.string q.2.text)).setCell ⟨w.heap.size+1+1+1+1+1,3,none⟩ (.int .i64 q.2.want)).setCell ⟨w.heap.size+1+1+1+1+1,4,none⟩ (.int .i64 q.2.had)) (partF q.1) [.string q.1.core.kind,.bool q.1.core.on,.bool q.1.core.broken,.slice B3 q.1.core.cells.length b3,.int .i64 q.1.core.count,.slice B5 q.1.layers.length b5] S1:=hl1.out.keep (S0:=[w.heap.size+1+1+1+1,w.heap.size+1+1+1+1+1]) Chg.now (fun y hy=>by have:=lo1.out y hy;simp;omega)
 obtain⟨S',rb',hS',_,cg⟩:=sbx.putPart HI.out hlx (fun y hy hy2=>by have:=lo1.out y hy;have:=lt0.out y hy2;omega)
 rw [HF.out] at rb'
 simp only [setCells,Nat.add_assoc,Nat.reduceAdd] at rb' cg
 exact⟨S',rfl,rb'.keep (T:=[w.heap.size+1+1]) Chg.now (fun y hy=>by rcases hS' y hy with h|h;(have:=lt0.out y h;simp;omega);(have:=lo1.out y h;simp;omega)),fun y hy=>(hS' y hy).imp id (fun h=>by have:=lo1.out y h;omega),(Chg.to (D1.out.mono (by simp):Chg S w w1))⟩
theorem l8Part_wrapNo (gs cap:Nat) (Ai:Option Addr) (ni ci:Nat) (l:List SlotT) (t:Int) (S:List Nat) (w:World) (a:ActionT) (uA uB:Value) (i:Nat) (place:Int) (h:SB w gs cap l S) (hi:i<l.length) (hs:a.slot=(i:Int)) (ho:a.op=2) (sm:SlotSmall l[i]) (hf:l[i].full=true) (hc:(wrapOf l[i].part a.word).2.code=1):
  Calls Tryz.prog 49 #[.agg #[.slice (some ⟨gs,0,none⟩) 3 cap,.slice Ai ni ci,.int .i64 t,.int .i64 0,.int .i64 0,.int .i64 0,.int .i64 0],.agg #[.int .i64 a.op,.int .i64 a.slot,.int .i64 a.other,.string a.word,.string a.call.method,.string a.call.key,.int .i64 a.call.value,.string a.call.text,.int .i64 a.face,uA,uB],.int .i64 place] w (RunE gs cap (.slice Ai ni ci) (l) t (⟨1,place,(wrapOf l[i].part a.word).2.want,(wrapOf l[i].part a.word).2.had⟩) S w):=by
 obtain⟨A3,c3,A5,c5,q0,q1,q2,q3,q4,q5,q6,r4,r6,hfr,hgl⟩:=h.hs.slotAt h.hl (by rw [<-h.hl];exact hi) hi
 obtain⟨sm2,sm1,sm3⟩:=sm
 rw [hf] at q0
 obtain⟨p,hpp⟩:∃p,p=l[i].part:=⟨_,rfl⟩
 rw [<-hpp] at q1 q2 q3 q4 q5 q6 r4 r6 sm1 sm2 sm3 hc
 try rw [<-hpp]
 have z0:=hfr 0 (by omega);have z1:=hfr 1 (by omega);have z2:=hfr 2 (by omega);have z3:=hfr 3 (by omega);have z4:=hfr 4 (by omega);have z5:=hfr 5 (by omega);have z6:=hfr 6 (by omega)
 rw [Nat.add_zero] at z0
 have lt0:=hid h.lt
 have hgs0:=hid h.gs.1
 have hcap1:=h.gs.2.1
 have hcap2:=h.gs.2.2
 unfold maxLen at hcap2
 have H:=hid h
 have i3:i<3:=by rw [<-h.hl];exact hi
 have j0:(0:Int)<=(i:Int):=by omega
 have j1:(i:Int)<3:=by omega
 have g0:gs<w.heap.size+1:=by omega
 have g1:gs<w.heap.size+1+1:=by omega
 have g2:gs<w.heap.size+1+1+1:=by omega
 have g3:gs<w.heap.size+1+1+1+1:=by omega
 have g4:gs<w.heap.size+1+1+1+1+1:=by omega
 have g5:gs<w.heap.size+1+1+1+1+1+1:=by omega
 have o2:(a.op==2)=true:=by rw [ho];rfl
 have o3:(a.op==3)=false:=by rw [ho];rfl
 have o6:(a.op==6)=false:=by rw [ho];rfl
 have o7:(a.op==7)=false:=by rw [ho];rfl
 have CL:=hid (fun W (hW:Chg [] w W)=>wrap_spec_any p a.word _ _ w.heap.size W (r4.chg0 hW (Nat.le_refl _)) (r6.chg0 hW (Nat.le_refl _)) hW.size sm1 sm2 sm3)
 obtain⟨q,hq⟩:∃q,q=wrapOf p a.word:=⟨_,rfl⟩
 rw [<-hq] at CL hc
 try rw [<-hq]
 have hc1:(q.2.code==1)=true:=by simpa using hc
 clear h hf hpp hfr ho hq r4 r6 sm1 sm2 sm3 hc
 rw [hs]
 clear hs
 go_enter Tryz.func49,Tryz.ntmps49
 go_wp2_with fail
 refine(CL.out _ Chg.now).mono ?_
 rintro e w1 ⟨B3,b3,B5,b5,rfl,nl⟩
 obtain⟨S1,hl10,lo10,c1⟩:=nl
 have s1:=c1.size
 have v1:w.heap.size+6<=w1.heap.size:=by(try simp at s1)<;>omega
 have ys1:=c1.ce gs
 have zs1:=c1.fe gs
 have xs1:gs<w1.heap.size:=by omega
 obtain⟨yr1,zr1,xr1,ya1,za1,xa1,yo1,zo1,xo1,yp1,zp1,xp1,yq1,zq1,xq1,yx1,zx1,xx1, -⟩:=c1.low 6 (w.heap.size) (fun x hx=>by simp at hx)
 clear s1
 have D1:Hid (Chg [] w w1):=hid (Chg.trans0 Chg.now c1)
 obtain⟨er0_1,er1_1,er2_1,er3_1,er4_1,er5_1,er6_1⟩:Cs7 w1 (w.heap.size) (.slice (some ⟨gs,0,none⟩) 3 cap) (.slice Ai ni ci) (.int .i64 t) (.int .i64 0) (.int .i64 0) (.int .i64 0) (.int .i64 0):=.of yr1
 obtain⟨eo0_1,eo1_1,eo2_1,eo3_1,eo4_1,eo5_1,eo6_1⟩:Cs7 w1 (w.heap.size+1+1) (.slice none 0 0) (.slice none 0 0) (.int .i64 0) (.int .i64 0) (.int .i64 0) (.int .i64 0) (.int .i64 0):=.of yo1
 obtain⟨eq0_1,eq1_1,eq2_1,eq3_1,eq4_1,eq5_1⟩:Cs6 w1 (w.heap.size+1+1+1+1) (.string p.core.kind) (.bool p.core.on) (.bool p.core.broken) (.slice A3 p.core.cells.length c3) (.int .i64 p.core.count) (.slice A5 p.layers.length c5):=.of yq1
 obtain⟨ex0_1,ex1_1,ex2_1,ex3_1,ex4_1⟩:Cs5 w1 (w.heap.size+1+1+1+1+1) (.int .i64 0) (.int .i64 0) (.string ⟨#[]⟩) (.int .i64 0) (.int .i64 0):=.of yx1
 clear yr1 yo1 yq1 yx1
 have lo1:Hid (∀y,y∈S1->w.heap.size+6<=y/\y<w1.heap.size):=hid (fun y hy=>⟨by have:=lo10 y hy;(try simp at this)<;>omega,hl10.lt y hy⟩)
 have hl1:=hid hl10
 have SB1:=hid ((H.out.keep0 Chg.now).keep0 c1)
 clear hl10 lo10 c1
 go_wp2_with fail
 refine bodyPost_ret (v:=.agg #[.slice (some ⟨gs,0,none⟩) 3 cap,.slice Ai ni ci,.int .i64 t,.int .i64 1,.int .i64 place,.int .i64 q.2.want,.int .i64 q.2.had]) (by simp only [results,Tryz.results49];go_simp) rfl ?_
 have hgs:=hgs0.out
 exact⟨S,rfl,SB1.out.keep (T:=[w.heap.size,w.heap.size+1+1,w.heap.size+1+1+1+1,w.heap.size+1+1+1+1+1]) Chg.now (fun y hy=>by have:=lt0.out y hy;simp;omega),fun y hy=>.inl hy,(Chg.to (D1.out.mono (by simp):Chg S w w1))⟩
theorem l8Part_wrapE (gs cap:Nat) (Ai:Option Addr) (ni ci:Nat) (l:List SlotT) (t:Int) (S:List Nat) (w:World) (a:ActionT) (uA uB:Value) (i:Nat) (place:Int) (h:SB w gs cap l S) (hi:i<l.length) (hs:a.slot=(i:Int)) (ho:a.op=2) (sm:SlotSmall l[i]) (hf:l[i].full=false):
  Calls Tryz.prog 49 #[.agg #[.slice (some ⟨gs,0,none⟩) 3 cap,.slice Ai ni ci,.int .i64 t,.int .i64 0,.int .i64 0,.int .i64 0,.int .i64 0],.agg #[.int .i64 a.op,.int .i64 a.slot,.int .i64 a.other,.string a.word,.string a.call.method,.string a.call.key,.int .i64 a.call.value,.string a.call.text,.int .i64 a.face,uA,uB],.int .i64 place] w (RunE gs cap (.slice Ai ni ci) (l) t (⟨2,place,0,0⟩) S w):=by
 obtain⟨A3,c3,A5,c5,q0,q1,q2,q3,q4,q5,q6,r4,r6,hfr,hgl⟩:=h.hs.slotAt h.hl (by rw [<-h.hl];exact hi) hi
 obtain⟨sm2,sm1,sm3⟩:=sm
 rw [hf] at q0
 obtain⟨p,hpp⟩:∃p,p=l[i].part:=⟨_,rfl⟩
 rw [<-hpp] at q1 q2 q3 q4 q5 q6 r4 r6 sm1 sm2 sm3
 try rw [<-hpp]
 have z0:=hfr 0 (by omega);have z1:=hfr 1 (by omega);have z2:=hfr 2 (by omega);have z3:=hfr 3 (by omega);have z4:=hfr 4 (by omega);have z5:=hfr 5 (by omega);have z6:=hfr 6 (by omega)
 rw [Nat.add_zero] at z0
 have lt0:=hid h.lt
 have hgs0:=hid h.gs.1
 have hcap1:=h.gs.2.1
 have hcap2:=h.gs.2.2
 unfold maxLen at hcap2
 have H:=hid h
 have i3:i<3:=by rw [<-h.hl];exact hi
 have j0:(0:Int)<=(i:Int):=by omega
 have j1:(i:Int)<3:=by omega
 have g0:gs<w.heap.size+1:=by omega
 have g1:gs<w.heap.size+1+1:=by omega
 have g2:gs<w.heap.size+1+1+1:=by omega
 have g3:gs<w.heap.size+1+1+1+1:=by omega
 have g4:gs<w.heap.size+1+1+1+1+1:=by omega
 have g5:gs<w.heap.size+1+1+1+1+1+1:=by omega
 have o2:(a.op==2)=true:=by rw [ho];rfl
 have o3:(a.op==3)=false:=by rw [ho];rfl
 have o6:(a.op==6)=false:=by rw [ho];rfl
 have o7:(a.op==7)=false:=by rw [ho];rfl
 have CL:=hid (fun W (hW:Chg [] w W)=>wrap_spec_any p a.word _ _ w.heap.size W (r4.chg0 hW (Nat.le_refl _)) (r6.chg0 hW (Nat.le_refl _)) hW.size sm1 sm2 sm3)
 obtain⟨q,hq⟩:∃q,q=wrapOf p a.word:=⟨_,rfl⟩
 rw [<-hq] at CL
 try rw [<-hq]
 clear h hf hpp hfr ho hq r4 r6 sm1 sm2 sm3
 rw [hs]
 clear hs
 go_enter Tryz.func49,Tryz.ntmps49
 go_wp2_with fail
 refine(CL.out _ Chg.now).mono ?_
 rintro e w1 ⟨B3,b3,B5,b5,rfl,nl⟩
 obtain⟨S1,hl10,lo10,c1⟩:=nl
 have s1:=c1.size
 have v1:w.heap.size+6<=w1.heap.size:=by(try simp at s1)<;>omega
 have ys1:=c1.ce gs
 have zs1:=c1.fe gs
 have xs1:gs<w1.heap.size:=by omega
 obtain⟨yr1,zr1,xr1,ya1,za1,xa1,yo1,zo1,xo1,yp1,zp1,xp1,yq1,zq1,xq1,yx1,zx1,xx1, -⟩:=c1.low 6 (w.heap.size) (fun x hx=>by simp at hx)
 clear s1
 have D1:Hid (Chg [] w w1):=hid (Chg.trans0 Chg.now c1)
 obtain⟨er0_1,er1_1,er2_1,er3_1,er4_1,er5_1,er6_1⟩:Cs7 w1 (w.heap.size) (.slice (some ⟨gs,0,none⟩) 3 cap) (.slice Ai ni ci) (.int .i64 t) (.int .i64 0) (.int .i64 0) (.int .i64 0) (.int .i64 0):=.of yr1
 obtain⟨eo0_1,eo1_1,eo2_1,eo3_1,eo4_1,eo5_1,eo6_1⟩:Cs7 w1 (w.heap.size+1+1) (.slice none 0 0) (.slice none 0 0) (.int .i64 0) (.int .i64 0) (.int .i64 0) (.int .i64 0) (.int .i64 0):=.of yo1
 obtain⟨eq0_1,eq1_1,eq2_1,eq3_1,eq4_1,eq5_1⟩:Cs6 w1 (w.heap.size+1+1+1+1) (.string p.core.kind) (.bool p.core.on) (.bool p.core.broken) (.slice A3 p.core.cells.length c3) (.int .i64 p.core.count) (.slice A5 p.layers.length c5):=.of yq1
 obtain⟨ex0_1,ex1_1,ex2_1,ex3_1,ex4_1⟩:Cs5 w1 (w.heap.size+1+1+1+1+1) (.int .i64 0) (.int .i64 0) (.string ⟨#[]⟩) (.int .i64 0) (.int .i64 0):=.of yx1
 clear yr1 yo1 yq1 yx1
 have lo1:Hid (∀y,y∈S1->w.heap.size+6<=y/\y<w1.heap.size):=hid (fun y hy=>⟨by have:=lo10 y hy;(try simp at this)<;>omega,hl10.lt y hy⟩)
 have hl1:=hid hl10
 have SB1:=hid ((H.out.keep0 Chg.now).keep0 c1)
 clear hl10 lo10 c1
 go_wp2_with fail
 refine bodyPost_ret (v:=.agg #[.slice (some ⟨gs,0,none⟩) 3 cap,.slice Ai ni ci,.int .i64 t,.int .i64 2,.int .i64 place,.int .i64 0,.int .i64 0]) (by simp only [results,Tryz.results49];go_simp) rfl ?_
 have hgs:=hgs0.out
 exact⟨S,rfl,SB1.out.keep (T:=[w.heap.size,w.heap.size+1+1,w.heap.size+1+1+1+1,w.heap.size+1+1+1+1+1]) Chg.now (fun y hy=>by have:=lt0.out y hy;simp;omega),fun y hy=>.inl hy,(Chg.to (D1.out.mono (by simp):Chg S w w1))⟩
theorem l8Part_call (gs cap:Nat) (Ai:Option Addr) (ni ci:Nat) (l:List SlotT) (t:Int) (S:List Nat) (w:World) (a:ActionT) (uA uB:Value) (i:Nat) (place:Int) (h:SB w gs cap l S) (hi:i<l.length) (hs:a.slot=(i:Int)) (ho:a.op=7) (sm:SlotSmall l[i]) (hf:l[i].full=true) (ht:a.call.text.size<=1048575) (hk:a.call.key.size<=1048576) (hc:¬(callPartT l[i].part a.call).2.code=1):
  Calls Tryz.prog 49 #[.agg #[.slice (some ⟨gs,0,none⟩) 3 cap,.slice Ai ni ci,.int .i64 t,.int .i64 0,.int .i64 0,.int .i64 0,.int .i64 0],.agg #[.int .i64 a.op,.int .i64 a.slot,.int .i64 a.other,.string a.word,.string a.call.method,.string a.call.key,.int .i64 a.call.value,.string a.call.text,.int .i64 a.face,uA,uB],.int .i64 place] w (RunE gs cap (.slice Ai ni ci) (l.set i ⟨true,(callPartT l[i].part a.call).1⟩) t (okEnd) S w):=by
 obtain⟨A3,c3,A5,c5,q0,q1,q2,q3,q4,q5,q6,r4,r6,hfr,hgl⟩:=h.hs.slotAt h.hl (by rw [<-h.hl];exact hi) hi
 obtain⟨sm2,sm1,sm3⟩:=sm
 rw [hf] at q0
 obtain⟨p,hpp⟩:∃p,p=l[i].part:=⟨_,rfl⟩
 rw [<-hpp] at q1 q2 q3 q4 q5 q6 r4 r6 sm1 sm2 sm3 hc
 try rw [<-hpp]
 have z0:=hfr 0 (by omega);have z1:=hfr 1 (by omega);have z2:=hfr 2 (by omega);have z3:=hfr 3 (by omega);have z4:=hfr 4 (by omega);have z5:=hfr 5 (by omega);have z6:=hfr 6 (by omega)
 rw [Nat.add_zero] at z0
 have lt0:=hid h.lt
 have hgs0:=hid h.gs.1
 have hcap1:=h.gs.2.1
 have hcap2:=h.gs.2.2
 unfold maxLen at hcap2
 have H:=hid h
 have i3:i<3:=by rw [<-h.hl];exact hi
 have j0:(0:Int)<=(i:Int):=by omega
 have j1:(i:Int)<3:=by omega
 have g0:gs<w.heap.size+1:=by omega
 have g1:gs<w.heap.size+1+1:=by omega
 have g2:gs<w.heap.size+1+1+1:=by omega
 have g3:gs<w.heap.size+1+1+1+1:=by omega
 have g4:gs<w.heap.size+1+1+1+1+1:=by omega
 have g5:gs<w.heap.size+1+1+1+1+1+1:=by omega
 have o2:(a.op==2)=false:=by rw [ho];rfl
 have o3:(a.op==3)=false:=by rw [ho];rfl
 have o6:(a.op==6)=false:=by rw [ho];rfl
 have o7:(a.op==7)=true:=by rw [ho];rfl
 have CL:=hid (fun W (hW:Chg [] w W)=>callPart_spec_any p a.call _ _ w.heap.size W (r4.chg0 hW (Nat.le_refl _)) (r6.chg0 hW (Nat.le_refl _)) hW.size sm1 sm2 sm3 ht hk)
 obtain⟨q,hq⟩:∃q,q=callPartT p a.call:=⟨_,rfl⟩
 rw [<-hq] at CL hc
 try rw [<-hq]
 have hc1:(q.2.code==1)=false:=by simpa using hc
 have HI:=hid hi
 have HF:=hid hf
 clear h hf hpp hfr ho hq r4 r6 sm1 sm2 sm3 hc ht hk
 rw [hs]
 clear hs
 go_enter Tryz.func49,Tryz.ntmps49
 go_wp2_with fail
 refine(CL.out _ Chg.now).mono ?_
 rintro e w1 ⟨B3,b3,B5,b5,rfl,nl⟩
 obtain⟨S1,hl10,lo10,c1⟩:=nl
 have s1:=c1.size
 have v1:w.heap.size+6<=w1.heap.size:=by(try simp at s1)<;>omega
 have ys1:=c1.ce gs
 have zs1:=c1.fe gs
 have xs1:gs<w1.heap.size:=by omega
 obtain⟨yr1,zr1,xr1,ya1,za1,xa1,yo1,zo1,xo1,yp1,zp1,xp1,yq1,zq1,xq1,yx1,zx1,xx1, -⟩:=c1.low 6 (w.heap.size) (fun x hx=>by simp at hx)
 clear s1
 have D1:Hid (Chg [] w w1):=hid (Chg.trans0 Chg.now c1)
 obtain⟨er0_1,er1_1,er2_1,er3_1,er4_1,er5_1,er6_1⟩:Cs7 w1 (w.heap.size) (.slice (some ⟨gs,0,none⟩) 3 cap) (.slice Ai ni ci) (.int .i64 t) (.int .i64 0) (.int .i64 0) (.int .i64 0) (.int .i64 0):=.of yr1
 obtain⟨eo0_1,eo1_1,eo2_1,eo3_1,eo4_1,eo5_1,eo6_1⟩:Cs7 w1 (w.heap.size+1+1) (.slice none 0 0) (.slice none 0 0) (.int .i64 0) (.int .i64 0) (.int .i64 0) (.int .i64 0) (.int .i64 0):=.of yo1
 obtain⟨eq0_1,eq1_1,eq2_1,eq3_1,eq4_1,eq5_1⟩:Cs6 w1 (w.heap.size+1+1+1+1) (.string p.core.kind) (.bool p.core.on) (.bool p.core.broken) (.slice A3 p.core.cells.length c3) (.int .i64 p.core.count) (.slice A5 p.layers.length c5):=.of yq1
 obtain⟨ex0_1,ex1_1,ex2_1,ex3_1,ex4_1⟩:Cs5 w1 (w.heap.size+1+1+1+1+1) (.int .i64 0) (.int .i64 0) (.string ⟨#[]⟩) (.int .i64 0) (.int .i64 0):=.of yx1
 clear yr1 yo1 yq1 yx1
 have lo1:Hid (∀y,y∈S1->w.heap.size+6<=y/\y<w1.heap.size):=hid (fun y hy=>⟨by have:=lo10 y hy;(try simp at this)<;>omega,hl10.lt y hy⟩)
 have hl1:=hid hl10
 have SB1:=hid ((H.out.keep0 Chg.now).keep0 c1)
 clear hl10 lo10 c1
 go_wp2_with fail
 refine bodyPost_ret (v:=.agg #[.slice (some ⟨gs,0,none⟩) 3 cap,.slice Ai ni ci,.int .i64 t,.int .i64 0,.int .i64 0,.int .i64 0,.int .i64 0]) (by simp only [results,Tryz.results49];go_simp) rfl ?_
 have hgs:=hgs0.out
 have sbx:SB (((((((((((w1.setCell ⟨w.heap.size+1+1+1+1,0,none⟩ (.string q.1.core.kind)).setCell ⟨w.heap.size+1+1+1+1,1,none⟩ (.bool q.1.core.on)).setCell ⟨w.heap.size+1+1+1+1,2,none⟩ (.bool q.1.core.broken)).setCell ⟨w.heap.size+1+1+1+1,3,none⟩ (.slice B3 q.1.core.cells.length b3)).setCell ⟨w.heap.size+1+1+1+1,4,none⟩ (.int .i64 q.1.core.count)).setCell ⟨w.heap.size+1+1+1+1,5,none⟩ (.slice B5 q.1.layers.length b5)).setCell ⟨w.heap.size+1+1+1+1+1,0,none⟩ (.int .i64 q.2.code)).setCell ⟨w.heap.size+1+1+1+1+1,1,none⟩ (.int .i64 q.2.value)).setCell ⟨w.heap.size+1+1+1+1+1,2,none⟩ (.string q.2.text)).setCell ⟨w.heap.size+1+1+1+1+1,3,none⟩ (.int .i64 q.2.want)).setCell ⟨w.heap.size+1+1+1+1+1,4,none⟩ (.int .i64 q.2.had)) gs cap l S:=SB1.out.keep (T:=[w.heap.size+1+1+1+1,w.heap.size+1+1+1+1+1]) Chg.now (fun y hy=>by have:=lt0.out y hy;simp;omega)
 have hlx:HasL (((((((((((w1.setCell ⟨w.heap.size+1+1+1+1,0,none⟩ (.string q.1.core.kind)).setCell ⟨w.heap.size+1+1+1+1,1,none⟩ (.bool q.1.core.on)).setCell ⟨w.heap.size+1+1+1+1,2,none⟩ (.bool q.1.core.broken)).setCell ⟨w.heap.size+1+1+1+1,3,none⟩ (.slice B3 q.1.core.cells.length b3)).setCell ⟨w.heap.size+1+1+1+1,4,none⟩ (.int .i64 q.1.core.count)).setCell ⟨w.heap.size+1+1+1+1,5,none⟩ (.slice B5 q.1.layers.length b5)).setCell ⟨w.heap.size+1+1+1+1+1,0,none⟩ (.int .i64 q.2.code)).setCell ⟨w.heap.size+1+1+1+1+1,1,none⟩ (.int .i64 q.2.value)).setCell ⟨w.heap.size+1+1+1+1+1,2,none⟩ (.string q.2.text)).setCell ⟨w.heap.size+1+1+1+1+1,3,none⟩ (.int .i64 q.2.want)).setCell ⟨w.heap.size+1+1+1+1+1,4,none⟩ (.int .i64 q.2.had)) (partF q.1) [.string q.1.core.kind,.bool q.1.core.on,.bool q.1.core.broken,.slice B3 q.1.core.cells.length b3,.int .i64 q.1.core.count,.slice B5 q.1.layers.length b5] S1:=hl1.out.keep (S0:=[w.heap.size+1+1+1+1,w.heap.size+1+1+1+1+1]) Chg.now (fun y hy=>by have:=lo1.out y hy;simp;omega)
 obtain⟨S',rb',hS',_,cg⟩:=sbx.putPart HI.out hlx (fun y hy hy2=>by have:=lo1.out y hy;have:=lt0.out y hy2;omega)
 rw [HF.out] at rb'
 simp only [setCells,Nat.add_assoc,Nat.reduceAdd] at rb' cg
 exact⟨S',rfl,rb'.keep (T:=[w.heap.size+1+1]) Chg.now (fun y hy=>by rcases hS' y hy with h|h;(have:=lt0.out y h;simp;omega);(have:=lo1.out y h;simp;omega)),fun y hy=>(hS' y hy).imp id (fun h=>by have:=lo1.out y h;omega),(Chg.to (D1.out.mono (by simp):Chg S w w1))⟩
theorem l8Part_callNo (gs cap:Nat) (Ai:Option Addr) (ni ci:Nat) (l:List SlotT) (t:Int) (S:List Nat) (w:World) (a:ActionT) (uA uB:Value) (i:Nat) (place:Int) (h:SB w gs cap l S) (hi:i<l.length) (hs:a.slot=(i:Int)) (ho:a.op=7) (sm:SlotSmall l[i]) (hf:l[i].full=true) (ht:a.call.text.size<=1048575) (hk:a.call.key.size<=1048576) (hc:(callPartT l[i].part a.call).2.code=1):
  Calls Tryz.prog 49 #[.agg #[.slice (some ⟨gs,0,none⟩) 3 cap,.slice Ai ni ci,.int .i64 t,.int .i64 0,.int .i64 0,.int .i64 0,.int .i64 0],.agg #[.int .i64 a.op,.int .i64 a.slot,.int .i64 a.other,.string a.word,.string a.call.method,.string a.call.key,.int .i64 a.call.value,.string a.call.text,.int .i64 a.face,uA,uB],.int .i64 place] w (RunE gs cap (.slice Ai ni ci) (l) t (⟨1,place,(callPartT l[i].part a.call).2.want,(callPartT l[i].part a.call).2.had⟩) S w):=by
 obtain⟨A3,c3,A5,c5,q0,q1,q2,q3,q4,q5,q6,r4,r6,hfr,hgl⟩:=h.hs.slotAt h.hl (by rw [<-h.hl];exact hi) hi
 obtain⟨sm2,sm1,sm3⟩:=sm
 rw [hf] at q0
 obtain⟨p,hpp⟩:∃p,p=l[i].part:=⟨_,rfl⟩
 rw [<-hpp] at q1 q2 q3 q4 q5 q6 r4 r6 sm1 sm2 sm3 hc
 try rw [<-hpp]
 have z0:=hfr 0 (by omega);have z1:=hfr 1 (by omega);have z2:=hfr 2 (by omega);have z3:=hfr 3 (by omega);have z4:=hfr 4 (by omega);have z5:=hfr 5 (by omega);have z6:=hfr 6 (by omega)
 rw [Nat.add_zero] at z0
 have lt0:=hid h.lt
 have hgs0:=hid h.gs.1
 have hcap1:=h.gs.2.1
 have hcap2:=h.gs.2.2
 unfold maxLen at hcap2
 have H:=hid h
 have i3:i<3:=by rw [<-h.hl];exact hi
 have j0:(0:Int)<=(i:Int):=by omega
 have j1:(i:Int)<3:=by omega
 have g0:gs<w.heap.size+1:=by omega
 have g1:gs<w.heap.size+1+1:=by omega
 have g2:gs<w.heap.size+1+1+1:=by omega
 have g3:gs<w.heap.size+1+1+1+1:=by omega
 have g4:gs<w.heap.size+1+1+1+1+1:=by omega
 have g5:gs<w.heap.size+1+1+1+1+1+1:=by omega
 have o2:(a.op==2)=false:=by rw [ho];rfl
 have o3:(a.op==3)=false:=by rw [ho];rfl
 have o6:(a.op==6)=false:=by rw [ho];rfl
 have o7:(a.op==7)=true:=by rw [ho];rfl
 have CL:=hid (fun W (hW:Chg [] w W)=>callPart_spec_any p a.call _ _ w.heap.size W (r4.chg0 hW (Nat.le_refl _)) (r6.chg0 hW (Nat.le_refl _)) hW.size sm1 sm2 sm3 ht hk)
 obtain⟨q,hq⟩:∃q,q=callPartT p a.call:=⟨_,rfl⟩
 rw [<-hq] at CL hc
 try rw [<-hq]
 have hc1:(q.2.code==1)=true:=by simpa using hc
 clear h hf hpp hfr ho hq r4 r6 sm1 sm2 sm3 hc ht hk
 rw [hs]
 clear hs
 go_enter Tryz.func49,Tryz.ntmps49
 go_wp2_with fail
 refine(CL.out _ Chg.now).mono ?_
 rintro e w1 ⟨B3,b3,B5,b5,rfl,nl⟩
 obtain⟨S1,hl10,lo10,c1⟩:=nl
 have s1:=c1.size
 have v1:w.heap.size+6<=w1.heap.size:=by(try simp at s1)<;>omega
 have ys1:=c1.ce gs
 have zs1:=c1.fe gs
 have xs1:gs<w1.heap.size:=by omega
 obtain⟨yr1,zr1,xr1,ya1,za1,xa1,yo1,zo1,xo1,yp1,zp1,xp1,yq1,zq1,xq1,yx1,zx1,xx1, -⟩:=c1.low 6 (w.heap.size) (fun x hx=>by simp at hx)
 clear s1
 have D1:Hid (Chg [] w w1):=hid (Chg.trans0 Chg.now c1)
 obtain⟨er0_1,er1_1,er2_1,er3_1,er4_1,er5_1,er6_1⟩:Cs7 w1 (w.heap.size) (.slice (some ⟨gs,0,none⟩) 3 cap) (.slice Ai ni ci) (.int .i64 t) (.int .i64 0) (.int .i64 0) (.int .i64 0) (.int .i64 0):=.of yr1
 obtain⟨eo0_1,eo1_1,eo2_1,eo3_1,eo4_1,eo5_1,eo6_1⟩:Cs7 w1 (w.heap.size+1+1) (.slice none 0 0) (.slice none 0 0) (.int .i64 0) (.int .i64 0) (.int .i64 0) (.int .i64 0) (.int .i64 0):=.of yo1
 obtain⟨eq0_1,eq1_1,eq2_1,eq3_1,eq4_1,eq5_1⟩:Cs6 w1 (w.heap.size+1+1+1+1) (.string p.core.kind) (.bool p.core.on) (.bool p.core.broken) (.slice A3 p.core.cells.length c3) (.int .i64 p.core.count) (.slice A5 p.layers.length c5):=.of yq1
 obtain⟨ex0_1,ex1_1,ex2_1,ex3_1,ex4_1⟩:Cs5 w1 (w.heap.size+1+1+1+1+1) (.int .i64 0) (.int .i64 0) (.string ⟨#[]⟩) (.int .i64 0) (.int .i64 0):=.of yx1
 clear yr1 yo1 yq1 yx1
 have lo1:Hid (∀y,y∈S1->w.heap.size+6<=y/\y<w1.heap.size):=hid (fun y hy=>⟨by have:=lo10 y hy;(try simp at this)<;>omega,hl10.lt y hy⟩)
 have hl1:=hid hl10
 have SB1:=hid ((H.out.keep0 Chg.now).keep0 c1)
 clear hl10 lo10 c1
 go_wp2_with fail
 refine bodyPost_ret (v:=.agg #[.slice (some ⟨gs,0,none⟩) 3 cap,.slice Ai ni ci,.int .i64 t,.int .i64 1,.int .i64 place,.int .i64 q.2.want,.int .i64 q.2.had]) (by simp only [results,Tryz.results49];go_simp) rfl ?_
 have hgs:=hgs0.out
 exact⟨S,rfl,SB1.out.keep (T:=[w.heap.size,w.heap.size+1+1,w.heap.size+1+1+1+1,w.heap.size+1+1+1+1+1]) Chg.now (fun y hy=>by have:=lt0.out y hy;simp;omega),fun y hy=>.inl hy,(Chg.to (D1.out.mono (by simp):Chg S w w1))⟩
theorem l8Part_callE (gs cap:Nat) (Ai:Option Addr) (ni ci:Nat) (l:List SlotT) (t:Int) (S:List Nat) (w:World) (a:ActionT) (uA uB:Value) (i:Nat) (place:Int) (h:SB w gs cap l S) (hi:i<l.length) (hs:a.slot=(i:Int)) (ho:a.op=7) (sm:SlotSmall l[i]) (hf:l[i].full=false) (ht:a.call.text.size<=1048575) (hk:a.call.key.size<=1048576):
  Calls Tryz.prog 49 #[.agg #[.slice (some ⟨gs,0,none⟩) 3 cap,.slice Ai ni ci,.int .i64 t,.int .i64 0,.int .i64 0,.int .i64 0,.int .i64 0],.agg #[.int .i64 a.op,.int .i64 a.slot,.int .i64 a.other,.string a.word,.string a.call.method,.string a.call.key,.int .i64 a.call.value,.string a.call.text,.int .i64 a.face,uA,uB],.int .i64 place] w (RunE gs cap (.slice Ai ni ci) (l) t (⟨2,place,0,0⟩) S w):=by
 obtain⟨A3,c3,A5,c5,q0,q1,q2,q3,q4,q5,q6,r4,r6,hfr,hgl⟩:=h.hs.slotAt h.hl (by rw [<-h.hl];exact hi) hi
 obtain⟨sm2,sm1,sm3⟩:=sm
 rw [hf] at q0
 obtain⟨p,hpp⟩:∃p,p=l[i].part:=⟨_,rfl⟩
 rw [<-hpp] at q1 q2 q3 q4 q5 q6 r4 r6 sm1 sm2 sm3
 try rw [<-hpp]
 have z0:=hfr 0 (by omega);have z1:=hfr 1 (by omega);have z2:=hfr 2 (by omega);have z3:=hfr 3 (by omega);have z4:=hfr 4 (by omega);have z5:=hfr 5 (by omega);have z6:=hfr 6 (by omega)
 rw [Nat.add_zero] at z0
 have lt0:=hid h.lt
 have hgs0:=hid h.gs.1
 have hcap1:=h.gs.2.1
 have hcap2:=h.gs.2.2
 unfold maxLen at hcap2
 have H:=hid h
 have i3:i<3:=by rw [<-h.hl];exact hi
 have j0:(0:Int)<=(i:Int):=by omega
 have j1:(i:Int)<3:=by omega
 have g0:gs<w.heap.size+1:=by omega
 have g1:gs<w.heap.size+1+1:=by omega
 have g2:gs<w.heap.size+1+1+1:=by omega
 have g3:gs<w.heap.size+1+1+1+1:=by omega
 have g4:gs<w.heap.size+1+1+1+1+1:=by omega
 have g5:gs<w.heap.size+1+1+1+1+1+1:=by omega
 have o2:(a.op==2)=false:=by rw [ho];rfl
 have o3:(a.op==3)=false:=by rw [ho];rfl
 have o6:(a.op==6)=false:=by rw [ho];rfl
 have o7:(a.op==7)=true:=by rw [ho];rfl
 have CL:=hid (fun W (hW:Chg [] w W)=>callPart_spec_any p a.call _ _ w.heap.size W (r4.chg0 hW (Nat.le_refl _)) (r6.chg0 hW (Nat.le_refl _)) hW.size sm1 sm2 sm3 ht hk)
 obtain⟨q,hq⟩:∃q,q=callPartT p a.call:=⟨_,rfl⟩
 rw [<-hq] at CL
 try rw [<-hq]
 clear h hf hpp hfr ho hq r4 r6 sm1 sm2 sm3 ht hk
 rw [hs]
 clear hs
 go_enter Tryz.func49,Tryz.ntmps49
 go_wp2_with fail
 refine(CL.out _ Chg.now).mono ?_
 rintro e w1 ⟨B3,b3,B5,b5,rfl,nl⟩
 obtain⟨S1,hl10,lo10,c1⟩:=nl
 have s1:=c1.size
 have v1:w.heap.size+6<=w1.heap.size:=by(try simp at s1)<;>omega
 have ys1:=c1.ce gs
 have zs1:=c1.fe gs
 have xs1:gs<w1.heap.size:=by omega
 obtain⟨yr1,zr1,xr1,ya1,za1,xa1,yo1,zo1,xo1,yp1,zp1,xp1,yq1,zq1,xq1,yx1,zx1,xx1, -⟩:=c1.low 6 (w.heap.size) (fun x hx=>by simp at hx)
 clear s1
 have D1:Hid (Chg [] w w1):=hid (Chg.trans0 Chg.now c1)
 obtain⟨er0_1,er1_1,er2_1,er3_1,er4_1,er5_1,er6_1⟩:Cs7 w1 (w.heap.size) (.slice (some ⟨gs,0,none⟩) 3 cap) (.slice Ai ni ci) (.int .i64 t) (.int .i64 0) (.int .i64 0) (.int .i64 0) (.int .i64 0):=.of yr1
 obtain⟨eo0_1,eo1_1,eo2_1,eo3_1,eo4_1,eo5_1,eo6_1⟩:Cs7 w1 (w.heap.size+1+1) (.slice none 0 0) (.slice none 0 0) (.int .i64 0) (.int .i64 0) (.int .i64 0) (.int .i64 0) (.int .i64 0):=.of yo1
 obtain⟨eq0_1,eq1_1,eq2_1,eq3_1,eq4_1,eq5_1⟩:Cs6 w1 (w.heap.size+1+1+1+1) (.string p.core.kind) (.bool p.core.on) (.bool p.core.broken) (.slice A3 p.core.cells.length c3) (.int .i64 p.core.count) (.slice A5 p.layers.length c5):=.of yq1
 obtain⟨ex0_1,ex1_1,ex2_1,ex3_1,ex4_1⟩:Cs5 w1 (w.heap.size+1+1+1+1+1) (.int .i64 0) (.int .i64 0) (.string ⟨#[]⟩) (.int .i64 0) (.int .i64 0):=.of yx1
 clear yr1 yo1 yq1 yx1
 have lo1:Hid (∀y,y∈S1->w.heap.size+6<=y/\y<w1.heap.size):=hid (fun y hy=>⟨by have:=lo10 y hy;(try simp at this)<;>omega,hl10.lt y hy⟩)
 have hl1:=hid hl10
 have SB1:=hid ((H.out.keep0 Chg.now).keep0 c1)
 clear hl10 lo10 c1
 go_wp2_with fail
 refine bodyPost_ret (v:=.agg #[.slice (some ⟨gs,0,none⟩) 3 cap,.slice Ai ni ci,.int .i64 t,.int .i64 2,.int .i64 place,.int .i64 0,.int .i64 0]) (by simp only [results,Tryz.results49];go_simp) rfl ?_
 have hgs:=hgs0.out
 exact⟨S,rfl,SB1.out.keep (T:=[w.heap.size,w.heap.size+1+1,w.heap.size+1+1+1+1,w.heap.size+1+1+1+1+1]) Chg.now (fun y hy=>by have:=lt0.out y hy;simp;omega),fun y hy=>.inl hy,(Chg.to (D1.out.mono (by simp):Chg S w w1))⟩
theorem l8Part_ask (gs cap:Nat) (Ai:Option Addr) (ni ci:Nat) (l:List SlotT) (t:Int) (S:List Nat) (w:World) (a:ActionT) (uA uB:Value) (i:Nat) (place:Int) (h:SB w gs cap l S) (hi:i<l.length) (hs:a.slot=(i:Int)) (ho:a.op=6) (sm:SlotSmall l[i]) (hf:l[i].full=true) (hof:Offer (faceAt l[i].part l[i].part.layers.length) a.face):
  Calls Tryz.prog 49 #[.agg #[.slice (some ⟨gs,0,none⟩) 3 cap,.slice Ai ni ci,.int .i64 t,.int .i64 0,.int .i64 0,.int .i64 0,.int .i64 0],.agg #[.int .i64 a.op,.int .i64 a.slot,.int .i64 a.other,.string a.word,.string a.call.method,.string a.call.key,.int .i64 a.call.value,.string a.call.text,.int .i64 a.face,uA,uB],.int .i64 place] w (RunE gs cap (.slice Ai ni ci) (l) t (okEnd) S w):=by
 obtain⟨A3,c3,A5,c5,q0,q1,q2,q3,q4,q5,q6,r4,r6,hfr,hgl⟩:=h.hs.slotAt h.hl (by rw [<-h.hl];exact hi) hi
 obtain⟨sm2,sm1,sm3⟩:=sm
 rw [hf] at q0
 obtain⟨p,hpp⟩:∃p,p=l[i].part:=⟨_,rfl⟩
 rw [<-hpp] at q1 q2 q3 q4 q5 q6 r4 r6 sm1 sm2 sm3 hof
 try rw [<-hpp]
 have z0:=hfr 0 (by omega);have z1:=hfr 1 (by omega);have z2:=hfr 2 (by omega);have z3:=hfr 3 (by omega);have z4:=hfr 4 (by omega);have z5:=hfr 5 (by omega);have z6:=hfr 6 (by omega)
 rw [Nat.add_zero] at z0
 have lt0:=hid h.lt
 have hgs0:=hid h.gs.1
 have hcap1:=h.gs.2.1
 have hcap2:=h.gs.2.2
 unfold maxLen at hcap2
 have H:=hid h
 have i3:i<3:=by rw [<-h.hl];exact hi
 have j0:(0:Int)<=(i:Int):=by omega
 have j1:(i:Int)<3:=by omega
 have g0:gs<w.heap.size+1:=by omega
 have g1:gs<w.heap.size+1+1:=by omega
 have g2:gs<w.heap.size+1+1+1:=by omega
 have g3:gs<w.heap.size+1+1+1+1:=by omega
 have g4:gs<w.heap.size+1+1+1+1+1:=by omega
 have g5:gs<w.heap.size+1+1+1+1+1+1:=by omega
 have o2:(a.op==2)=false:=by rw [ho];rfl
 have o3:(a.op==3)=false:=by rw [ho];rfl
 have o6:(a.op==6)=true:=by rw [ho];rfl
 have o7:(a.op==7)=false:=by rw [ho];rfl
 have FC:=hid (fun W (hW:Chg [] w W)=>faceOf_spec_any p (.slice A3 p.core.cells.length c3) _ w.heap.size W (r6.chg0 hW (Nat.le_refl _)) hW.size)
 have OF:=hid (fun W=>(offers_spec_any (faceAt p p.layers.length) a.face W).mono (BoolIs.pos hof))
 clear h hi hf hpp hfr ho r4 r6 sm1 sm2 sm3 hof
 rw [hs]
 clear hs
 go_enter Tryz.func49,Tryz.ntmps49
 go_wp2_with fail
 go_region_law (first|(go_simp;go_at_call 76;(with_reducible refine(FC.out _ Chg.now).mono ?_);rintro e w1 ⟨rfl,c1⟩;(have s1:=c1.size);(have v1:w.heap.size+6<=w1.heap.size:=by(try simp at s1)<;>omega);(have ys1:=c1.ce gs);(have zs1:=c1.fe gs);(have xs1:gs<w1.heap.size:=by omega);(obtain⟨yr1,zr1,xr1,ya1,za1,xa1,yo1,zo1,xo1,yp1,zp1,xp1,yq1,zq1,xq1,yx1,zx1,xx1, -⟩:=c1.low 6 (w.heap.size) (fun x hx=>by simp at hx));(have D1:Hid (Chg [] w w1):=hid (Chg.trans0 Chg.now c1));(have SB1:=hid ((H.out.keep0 Chg.now).keep0 c1));(obtain⟨er0_1,er1_1,er2_1,er3_1,er4_1,er5_1,er6_1⟩:Cs7 w1 (w.heap.size) (.slice (some ⟨gs,0,none⟩) 3 cap) (.slice Ai ni ci) (.int .i64 t) (.int .i64 0) (.int .i64 0) (.int .i64 0) (.int .i64 0):=.of yr1);(obtain⟨eo0_1,eo1_1,eo2_1,eo3_1,eo4_1,eo5_1,eo6_1⟩:Cs7 w1 (w.heap.size+1+1) (.slice none 0 0) (.slice none 0 0) (.int .i64 0) (.int .i64 0) (.int .i64 0) (.int .i64 0) (.int .i64 0):=.of yo1);(obtain⟨eq0_1,eq1_1,eq2_1,eq3_1,eq4_1,eq5_1⟩:Cs6 w1 (w.heap.size+1+1+1+1) (.string p.core.kind) (.bool p.core.on) (.bool p.core.broken) (.slice A3 p.core.cells.length c3) (.int .i64 p.core.count) (.slice A5 p.layers.length c5):=.of yq1);(obtain⟨ex0_1,ex1_1,ex2_1,ex3_1,ex4_1⟩:Cs5 w1 (w.heap.size+1+1+1+1+1) (.int .i64 0) (.int .i64 0) (.string ⟨#[]⟩) (.int .i64 0) (.int .i64 0):=.of yx1);(clear yr1 yo1 yq1 yx1);clear c1 s1;simp only [])|(go_simp;go_at_call 65;(with_reducible refine(OF.out _).mono ?_);rintro e wo ⟨rfl,hwo⟩;obtain rfl:=hwo.symm;simp only [])|fail)
 all_goals
  go_wp2_with fail
  refine bodyPost_ret (v:=.agg #[.slice (some ⟨gs,0,none⟩) 3 cap,.slice Ai ni ci,.int .i64 t,.int .i64 0,.int .i64 0,.int .i64 0,.int .i64 0]) (by simp only [results,Tryz.results49];go_simp) rfl ?_
  have hgs:=hgs0.out
  have e0:(w1.setCell ⟨gs,i * 7+1,none⟩ (.string p.core.kind))=w1:=SB1.out.same ((ys1 _).trans (by go_simp))
  have e1:(w1.setCell ⟨gs,i * 7+2,none⟩ (.bool p.core.on))=w1:=SB1.out.same ((ys1 _).trans (by go_simp))
  have e2:(w1.setCell ⟨gs,i * 7+3,none⟩ (.bool p.core.broken))=w1:=SB1.out.same ((ys1 _).trans (by go_simp))
  have e3:(w1.setCell ⟨gs,i * 7+4,none⟩ (.slice A3 p.core.cells.length c3))=w1:=SB1.out.same ((ys1 _).trans (by go_simp))
  have e4:(w1.setCell ⟨gs,i * 7+5,none⟩ (.int .i64 p.core.count))=w1:=SB1.out.same ((ys1 _).trans (by go_simp))
  have e5:(w1.setCell ⟨gs,i * 7+6,none⟩ (.slice A5 p.layers.length c5))=w1:=SB1.out.same ((ys1 _).trans (by go_simp))
  skip
  have rb':SB (setCells w1 gs (i * 7+1) [.string p.core.kind,.bool p.core.on,.bool p.core.broken,.slice A3 p.core.cells.length c3,.int .i64 p.core.count,.slice A5 p.layers.length c5]) gs cap l S:=by
   simp only [setCells,Nat.add_assoc,Nat.reduceAdd,e0,e1,e2,e3,e4,e5]
   exact SB1.out
  simp only [setCells,Nat.add_assoc,Nat.reduceAdd] at rb'
  exact⟨S,rfl,rb'.keep (T:=[w.heap.size+1+1]) Chg.now (fun y hy=>by have:=lt0.out y hy;simp;omega),fun y hy=>.inl hy,(Chg.to (D1.out.mono (by simp):Chg S w w1))⟩
theorem l8Part_askNo (gs cap:Nat) (Ai:Option Addr) (ni ci:Nat) (l:List SlotT) (t:Int) (S:List Nat) (w:World) (a:ActionT) (uA uB:Value) (i:Nat) (place:Int) (h:SB w gs cap l S) (hi:i<l.length) (hs:a.slot=(i:Int)) (ho:a.op=6) (sm:SlotSmall l[i]) (hf:l[i].full=true) (hof:¬Offer (faceAt l[i].part l[i].part.layers.length) a.face):
  Calls Tryz.prog 49 #[.agg #[.slice (some ⟨gs,0,none⟩) 3 cap,.slice Ai ni ci,.int .i64 t,.int .i64 0,.int .i64 0,.int .i64 0,.int .i64 0],.agg #[.int .i64 a.op,.int .i64 a.slot,.int .i64 a.other,.string a.word,.string a.call.method,.string a.call.key,.int .i64 a.call.value,.string a.call.text,.int .i64 a.face,uA,uB],.int .i64 place] w (RunE gs cap (.slice Ai ni ci) (l) t (⟨1,place,a.face,faceAt l[i].part l[i].part.layers.length⟩) S w):=by
 obtain⟨A3,c3,A5,c5,q0,q1,q2,q3,q4,q5,q6,r4,r6,hfr,hgl⟩:=h.hs.slotAt h.hl (by rw [<-h.hl];exact hi) hi
 obtain⟨sm2,sm1,sm3⟩:=sm
 rw [hf] at q0
 obtain⟨p,hpp⟩:∃p,p=l[i].part:=⟨_,rfl⟩
 rw [<-hpp] at q1 q2 q3 q4 q5 q6 r4 r6 sm1 sm2 sm3 hof
 try rw [<-hpp]
 have z0:=hfr 0 (by omega);have z1:=hfr 1 (by omega);have z2:=hfr 2 (by omega);have z3:=hfr 3 (by omega);have z4:=hfr 4 (by omega);have z5:=hfr 5 (by omega);have z6:=hfr 6 (by omega)
 rw [Nat.add_zero] at z0
 have lt0:=hid h.lt
 have hgs0:=hid h.gs.1
 have hcap1:=h.gs.2.1
 have hcap2:=h.gs.2.2
 unfold maxLen at hcap2
 have H:=hid h
 have i3:i<3:=by rw [<-h.hl];exact hi
 have j0:(0:Int)<=(i:Int):=by omega
 have j1:(i:Int)<3:=by omega
 have g0:gs<w.heap.size+1:=by omega
 have g1:gs<w.heap.size+1+1:=by omega
 have g2:gs<w.heap.size+1+1+1:=by omega
 have g3:gs<w.heap.size+1+1+1+1:=by omega
 have g4:gs<w.heap.size+1+1+1+1+1:=by omega
 have g5:gs<w.heap.size+1+1+1+1+1+1:=by omega
 have o2:(a.op==2)=false:=by rw [ho];rfl
 have o3:(a.op==3)=false:=by rw [ho];rfl
 have o6:(a.op==6)=true:=by rw [ho];rfl
 have o7:(a.op==7)=false:=by rw [ho];rfl
 have FC:=hid (fun W (hW:Chg [] w W)=>faceOf_spec_any p (.slice A3 p.core.cells.length c3) _ w.heap.size W (r6.chg0 hW (Nat.le_refl _)) hW.size)
 have OF:=hid (fun W=>(offers_spec_any (faceAt p p.layers.length) a.face W).mono (BoolIs.neg hof))
 clear h hi hf hpp hfr ho r4 r6 sm1 sm2 sm3 hof
 rw [hs]
 clear hs
 go_enter Tryz.func49,Tryz.ntmps49
 go_wp2_with fail
 go_region_law (first|(go_simp;go_at_call 76;(with_reducible refine(FC.out _ Chg.now).mono ?_);rintro e w1 ⟨rfl,c1⟩;(have s1:=c1.size);(have v1:w.heap.size+6<=w1.heap.size:=by(try simp at s1)<;>omega);(have ys1:=c1.ce gs);(have zs1:=c1.fe gs);(have xs1:gs<w1.heap.size:=by omega);(obtain⟨yr1,zr1,xr1,ya1,za1,xa1,yo1,zo1,xo1,yp1,zp1,xp1,yq1,zq1,xq1,yx1,zx1,xx1, -⟩:=c1.low 6 (w.heap.size) (fun x hx=>by simp at hx));(have D1:Hid (Chg [] w w1):=hid (Chg.trans0 Chg.now c1));(have SB1:=hid ((H.out.keep0 Chg.now).keep0 c1));(obtain⟨er0_1,er1_1,er2_1,er3_1,er4_1,er5_1,er6_1⟩:Cs7 w1 (w.heap.size) (.slice (some ⟨gs,0,none⟩) 3 cap) (.slice Ai ni ci) (.int .i64 t) (.int .i64 0) (.int .i64 0) (.int .i64 0) (.int .i64 0):=.of yr1);(obtain⟨eo0_1,eo1_1,eo2_1,eo3_1,eo4_1,eo5_1,eo6_1⟩:Cs7 w1 (w.heap.size+1+1) (.slice none 0 0) (.slice none 0 0) (.int .i64 0) (.int .i64 0) (.int .i64 0) (.int .i64 0) (.int .i64 0):=.of yo1);(obtain⟨eq0_1,eq1_1,eq2_1,eq3_1,eq4_1,eq5_1⟩:Cs6 w1 (w.heap.size+1+1+1+1) (.string p.core.kind) (.bool p.core.on) (.bool p.core.broken) (.slice A3 p.core.cells.length c3) (.int .i64 p.core.count) (.slice A5 p.layers.length c5):=.of yq1);(obtain⟨ex0_1,ex1_1,ex2_1,ex3_1,ex4_1⟩:Cs5 w1 (w.heap.size+1+1+1+1+1) (.int .i64 0) (.int .i64 0) (.string ⟨#[]⟩) (.int .i64 0) (.int .i64 0):=.of yx1);(clear yr1 yo1 yq1 yx1);clear c1 s1;simp only [])|(go_simp;go_at_call 65;(with_reducible refine(OF.out _).mono ?_);rintro e wo ⟨rfl,hwo⟩;obtain rfl:=hwo.symm;simp only [])|fail)
 all_goals
  go_wp2_with fail
  go_region_law (first|(go_simp;go_at_call 76;(with_reducible refine(FC.out _ (Chg.to D1.out)).mono ?_);rintro e w2 ⟨rfl,c2⟩;(have s2:=c2.size);(have v2:w1.heap.size<=w2.heap.size:=by(try simp at s2)<;>omega);(have ys2:=c2.ce gs);(have zs2:=c2.fe gs);(have xs2:gs<w2.heap.size:=by omega);(obtain⟨yr2,zr2,xr2,ya2,za2,xa2,yo2,zo2,xo2,yp2,zp2,xp2,yq2,zq2,xq2,yx2,zx2,xx2, -⟩:=c2.low 6 (w.heap.size) (fun x hx=>by simp at hx));(have D2:Hid (Chg [] w w2):=hid (Chg.trans0 (Chg.to D1.out) c2));(have SB2:=hid ((SB1.out.keep0 Chg.now).keep0 c2));(obtain⟨er0_2,er1_2,er2_2,er3_2,er4_2,er5_2,er6_2⟩:Cs7 w2 (w.heap.size) (.slice (some ⟨gs,0,none⟩) 3 cap) (.slice Ai ni ci) (.int .i64 t) (.int .i64 0) (.int .i64 0) (.int .i64 0) (.int .i64 0):=.of yr2);(obtain⟨eo0_2,eo1_2,eo2_2,eo3_2,eo4_2,eo5_2,eo6_2⟩:Cs7 w2 (w.heap.size+1+1) (.slice none 0 0) (.slice none 0 0) (.int .i64 0) (.int .i64 0) (.int .i64 0) (.int .i64 0) (.int .i64 0):=.of yo2);(obtain⟨eq0_2,eq1_2,eq2_2,eq3_2,eq4_2,eq5_2⟩:Cs6 w2 (w.heap.size+1+1+1+1) (.string p.core.kind) (.bool p.core.on) (.bool p.core.broken) (.slice A3 p.core.cells.length c3) (.int .i64 p.core.count) (.slice A5 p.layers.length c5):=.of yq2);(obtain⟨ex0_2,ex1_2,ex2_2,ex3_2,ex4_2⟩:Cs5 w2 (w.heap.size+1+1+1+1+1) (.int .i64 0) (.int .i64 0) (.string ⟨#[]⟩) (.int .i64 0) (.int .i64 0):=.of yx2);(clear yr2 yo2 yq2 yx2);clear c2 s2;simp only [])|fail)
  all_goals
   go_wp2_with fail
   refine bodyPost_ret (v:=.agg #[.slice (some ⟨gs,0,none⟩) 3 cap,.slice Ai ni ci,.int .i64 t,.int .i64 1,.int .i64 place,.int .i64 a.face,.int .i64 (faceAt p p.layers.length)]) (by simp only [results,Tryz.results49];go_simp) rfl ?_
   have hgs:=hgs0.out
   exact⟨S,rfl,SB2.out.keep (T:=[w.heap.size,w.heap.size+1+1,w.heap.size+1+1+1+1,w.heap.size+1+1+1+1+1]) Chg.now (fun y hy=>by have:=lt0.out y hy;simp;omega),fun y hy=>.inl hy,(Chg.to (D2.out.mono (by simp):Chg S w w2))⟩
theorem l8Part_askE (gs cap:Nat) (Ai:Option Addr) (ni ci:Nat) (l:List SlotT) (t:Int) (S:List Nat) (w:World) (a:ActionT) (uA uB:Value) (i:Nat) (place:Int) (h:SB w gs cap l S) (hi:i<l.length) (hs:a.slot=(i:Int)) (ho:a.op=6) (sm:SlotSmall l[i]) (hf:l[i].full=false) (hof:Offer (faceAt l[i].part l[i].part.layers.length) a.face):
  Calls Tryz.prog 49 #[.agg #[.slice (some ⟨gs,0,none⟩) 3 cap,.slice Ai ni ci,.int .i64 t,.int .i64 0,.int .i64 0,.int .i64 0,.int .i64 0],.agg #[.int .i64 a.op,.int .i64 a.slot,.int .i64 a.other,.string a.word,.string a.call.method,.string a.call.key,.int .i64 a.call.value,.string a.call.text,.int .i64 a.face,uA,uB],.int .i64 place] w (RunE gs cap (.slice Ai ni ci) (l) t (⟨2,place,0,0⟩) S w):=by
 obtain⟨A3,c3,A5,c5,q0,q1,q2,q3,q4,q5,q6,r4,r6,hfr,hgl⟩:=h.hs.slotAt h.hl (by rw [<-h.hl];exact hi) hi
 obtain⟨sm2,sm1,sm3⟩:=sm
 rw [hf] at q0
 obtain⟨p,hpp⟩:∃p,p=l[i].part:=⟨_,rfl⟩
 rw [<-hpp] at q1 q2 q3 q4 q5 q6 r4 r6 sm1 sm2 sm3 hof
 try rw [<-hpp]
 have z0:=hfr 0 (by omega);have z1:=hfr 1 (by omega);have z2:=hfr 2 (by omega);have z3:=hfr 3 (by omega);have z4:=hfr 4 (by omega);have z5:=hfr 5 (by omega);have z6:=hfr 6 (by omega)
 rw [Nat.add_zero] at z0
 have lt0:=hid h.lt
 have hgs0:=hid h.gs.1
 have hcap1:=h.gs.2.1
 have hcap2:=h.gs.2.2
 unfold maxLen at hcap2
 have H:=hid h
 have i3:i<3:=by rw [<-h.hl];exact hi
 have j0:(0:Int)<=(i:Int):=by omega
 have j1:(i:Int)<3:=by omega
 have g0:gs<w.heap.size+1:=by omega
 have g1:gs<w.heap.size+1+1:=by omega
 have g2:gs<w.heap.size+1+1+1:=by omega
 have g3:gs<w.heap.size+1+1+1+1:=by omega
 have g4:gs<w.heap.size+1+1+1+1+1:=by omega
 have g5:gs<w.heap.size+1+1+1+1+1+1:=by omega
 have o2:(a.op==2)=false:=by rw [ho];rfl
 have o3:(a.op==3)=false:=by rw [ho];rfl
 have o6:(a.op==6)=true:=by rw [ho];rfl
 have o7:(a.op==7)=false:=by rw [ho];rfl
 have FC:=hid (fun W (hW:Chg [] w W)=>faceOf_spec_any p (.slice A3 p.core.cells.length c3) _ w.heap.size W (r6.chg0 hW (Nat.le_refl _)) hW.size)
 have OF:=hid (fun W=>(offers_spec_any (faceAt p p.layers.length) a.face W).mono (BoolIs.pos hof))
 clear h hi hf hpp hfr ho r4 r6 sm1 sm2 sm3 hof
 rw [hs]
 clear hs
 go_enter Tryz.func49,Tryz.ntmps49
 go_wp2_with fail
 go_region_law (first|(go_simp;go_at_call 76;(with_reducible refine(FC.out _ Chg.now).mono ?_);rintro e w1 ⟨rfl,c1⟩;(have s1:=c1.size);(have v1:w.heap.size+6<=w1.heap.size:=by(try simp at s1)<;>omega);(have ys1:=c1.ce gs);(have zs1:=c1.fe gs);(have xs1:gs<w1.heap.size:=by omega);(obtain⟨yr1,zr1,xr1,ya1,za1,xa1,yo1,zo1,xo1,yp1,zp1,xp1,yq1,zq1,xq1,yx1,zx1,xx1, -⟩:=c1.low 6 (w.heap.size) (fun x hx=>by simp at hx));(have D1:Hid (Chg [] w w1):=hid (Chg.trans0 Chg.now c1));(have SB1:=hid ((H.out.keep0 Chg.now).keep0 c1));(obtain⟨er0_1,er1_1,er2_1,er3_1,er4_1,er5_1,er6_1⟩:Cs7 w1 (w.heap.size) (.slice (some ⟨gs,0,none⟩) 3 cap) (.slice Ai ni ci) (.int .i64 t) (.int .i64 0) (.int .i64 0) (.int .i64 0) (.int .i64 0):=.of yr1);(obtain⟨eo0_1,eo1_1,eo2_1,eo3_1,eo4_1,eo5_1,eo6_1⟩:Cs7 w1 (w.heap.size+1+1) (.slice none 0 0) (.slice none 0 0) (.int .i64 0) (.int .i64 0) (.int .i64 0) (.int .i64 0) (.int .i64 0):=.of yo1);(obtain⟨eq0_1,eq1_1,eq2_1,eq3_1,eq4_1,eq5_1⟩:Cs6 w1 (w.heap.size+1+1+1+1) (.string p.core.kind) (.bool p.core.on) (.bool p.core.broken) (.slice A3 p.core.cells.length c3) (.int .i64 p.core.count) (.slice A5 p.layers.length c5):=.of yq1);(obtain⟨ex0_1,ex1_1,ex2_1,ex3_1,ex4_1⟩:Cs5 w1 (w.heap.size+1+1+1+1+1) (.int .i64 0) (.int .i64 0) (.string ⟨#[]⟩) (.int .i64 0) (.int .i64 0):=.of yx1);(clear yr1 yo1 yq1 yx1);clear c1 s1;simp only [])|(go_simp;go_at_call 65;(with_reducible refine(OF.out _).mono ?_);rintro e wo ⟨rfl,hwo⟩;obtain rfl:=hwo.symm;simp only [])|fail)
 all_goals
  go_wp2_with fail
  refine bodyPost_ret (v:=.agg #[.slice (some ⟨gs,0,none⟩) 3 cap,.slice Ai ni ci,.int .i64 t,.int .i64 2,.int .i64 place,.int .i64 0,.int .i64 0]) (by simp only [results,Tryz.results49];go_simp) rfl ?_
  have hgs:=hgs0.out
  exact⟨S,rfl,SB1.out.keep (T:=[w.heap.size,w.heap.size+1+1,w.heap.size+1+1+1+1,w.heap.size+1+1+1+1+1]) Chg.now (fun y hy=>by have:=lt0.out y hy;simp;omega),fun y hy=>.inl hy,(Chg.to (D1.out.mono (by simp):Chg S w w1))⟩
theorem l8Part_askNoE (gs cap:Nat) (Ai:Option Addr) (ni ci:Nat) (l:List SlotT) (t:Int) (S:List Nat) (w:World) (a:ActionT) (uA uB:Value) (i:Nat) (place:Int) (h:SB w gs cap l S) (hi:i<l.length) (hs:a.slot=(i:Int)) (ho:a.op=6) (sm:SlotSmall l[i]) (hf:l[i].full=false) (hof:¬Offer (faceAt l[i].part l[i].part.layers.length) a.face):
  Calls Tryz.prog 49 #[.agg #[.slice (some ⟨gs,0,none⟩) 3 cap,.slice Ai ni ci,.int .i64 t,.int .i64 0,.int .i64 0,.int .i64 0,.int .i64 0],.agg #[.int .i64 a.op,.int .i64 a.slot,.int .i64 a.other,.string a.word,.string a.call.method,.string a.call.key,.int .i64 a.call.value,.string a.call.text,.int .i64 a.face,uA,uB],.int .i64 place] w (RunE gs cap (.slice Ai ni ci) (l) t (⟨2,place,0,0⟩) S w):=by
 obtain⟨A3,c3,A5,c5,q0,q1,q2,q3,q4,q5,q6,r4,r6,hfr,hgl⟩:=h.hs.slotAt h.hl (by rw [<-h.hl];exact hi) hi
 obtain⟨sm2,sm1,sm3⟩:=sm
 rw [hf] at q0
 obtain⟨p,hpp⟩:∃p,p=l[i].part:=⟨_,rfl⟩
 rw [<-hpp] at q1 q2 q3 q4 q5 q6 r4 r6 sm1 sm2 sm3 hof
 try rw [<-hpp]
 have z0:=hfr 0 (by omega);have z1:=hfr 1 (by omega);have z2:=hfr 2 (by omega);have z3:=hfr 3 (by omega);have z4:=hfr 4 (by omega);have z5:=hfr 5 (by omega);have z6:=hfr 6 (by omega)
 rw [Nat.add_zero] at z0
 have lt0:=hid h.lt
 have hgs0:=hid h.gs.1
 have hcap1:=h.gs.2.1
 have hcap2:=h.gs.2.2
 unfold maxLen at hcap2
 have H:=hid h
 have i3:i<3:=by rw [<-h.hl];exact hi
 have j0:(0:Int)<=(i:Int):=by omega
 have j1:(i:Int)<3:=by omega
 have g0:gs<w.heap.size+1:=by omega
 have g1:gs<w.heap.size+1+1:=by omega
 have g2:gs<w.heap.size+1+1+1:=by omega
 have g3:gs<w.heap.size+1+1+1+1:=by omega
 have g4:gs<w.heap.size+1+1+1+1+1:=by omega
 have g5:gs<w.heap.size+1+1+1+1+1+1:=by omega
 have o2:(a.op==2)=false:=by rw [ho];rfl
 have o3:(a.op==3)=false:=by rw [ho];rfl
 have o6:(a.op==6)=true:=by rw [ho];rfl
 have o7:(a.op==7)=false:=by rw [ho];rfl
 have FC:=hid (fun W (hW:Chg [] w W)=>faceOf_spec_any p (.slice A3 p.core.cells.length c3) _ w.heap.size W (r6.chg0 hW (Nat.le_refl _)) hW.size)
 have OF:=hid (fun W=>(offers_spec_any (faceAt p p.layers.length) a.face W).mono (BoolIs.neg hof))
 clear h hi hf hpp hfr ho r4 r6 sm1 sm2 sm3 hof
 rw [hs]
 clear hs
 go_enter Tryz.func49,Tryz.ntmps49
 go_wp2_with fail
 go_region_law (first|(go_simp;go_at_call 76;(with_reducible refine(FC.out _ Chg.now).mono ?_);rintro e w1 ⟨rfl,c1⟩;(have s1:=c1.size);(have v1:w.heap.size+6<=w1.heap.size:=by(try simp at s1)<;>omega);(have ys1:=c1.ce gs);(have zs1:=c1.fe gs);(have xs1:gs<w1.heap.size:=by omega);(obtain⟨yr1,zr1,xr1,ya1,za1,xa1,yo1,zo1,xo1,yp1,zp1,xp1,yq1,zq1,xq1,yx1,zx1,xx1, -⟩:=c1.low 6 (w.heap.size) (fun x hx=>by simp at hx));(have D1:Hid (Chg [] w w1):=hid (Chg.trans0 Chg.now c1));(have SB1:=hid ((H.out.keep0 Chg.now).keep0 c1));(obtain⟨er0_1,er1_1,er2_1,er3_1,er4_1,er5_1,er6_1⟩:Cs7 w1 (w.heap.size) (.slice (some ⟨gs,0,none⟩) 3 cap) (.slice Ai ni ci) (.int .i64 t) (.int .i64 0) (.int .i64 0) (.int .i64 0) (.int .i64 0):=.of yr1);(obtain⟨eo0_1,eo1_1,eo2_1,eo3_1,eo4_1,eo5_1,eo6_1⟩:Cs7 w1 (w.heap.size+1+1) (.slice none 0 0) (.slice none 0 0) (.int .i64 0) (.int .i64 0) (.int .i64 0) (.int .i64 0) (.int .i64 0):=.of yo1);(obtain⟨eq0_1,eq1_1,eq2_1,eq3_1,eq4_1,eq5_1⟩:Cs6 w1 (w.heap.size+1+1+1+1) (.string p.core.kind) (.bool p.core.on) (.bool p.core.broken) (.slice A3 p.core.cells.length c3) (.int .i64 p.core.count) (.slice A5 p.layers.length c5):=.of yq1);(obtain⟨ex0_1,ex1_1,ex2_1,ex3_1,ex4_1⟩:Cs5 w1 (w.heap.size+1+1+1+1+1) (.int .i64 0) (.int .i64 0) (.string ⟨#[]⟩) (.int .i64 0) (.int .i64 0):=.of yx1);(clear yr1 yo1 yq1 yx1);clear c1 s1;simp only [])|(go_simp;go_at_call 65;(with_reducible refine(OF.out _).mono ?_);rintro e wo ⟨rfl,hwo⟩;obtain rfl:=hwo.symm;simp only [])|fail)
 all_goals
  go_wp2_with fail
  go_region_law (first|(go_simp;go_at_call 76;(with_reducible refine(FC.out _ (Chg.to D1.out)).mono ?_);rintro e w2 ⟨rfl,c2⟩;(have s2:=c2.size);(have v2:w1.heap.size<=w2.heap.size:=by(try simp at s2)<;>omega);(have ys2:=c2.ce gs);(have zs2:=c2.fe gs);(have xs2:gs<w2.heap.size:=by omega);(obtain⟨yr2,zr2,xr2,ya2,za2,xa2,yo2,zo2,xo2,yp2,zp2,xp2,yq2,zq2,xq2,yx2,zx2,xx2, -⟩:=c2.low 6 (w.heap.size) (fun x hx=>by simp at hx));(have D2:Hid (Chg [] w w2):=hid (Chg.trans0 (Chg.to D1.out) c2));(have SB2:=hid ((SB1.out.keep0 Chg.now).keep0 c2));(obtain⟨er0_2,er1_2,er2_2,er3_2,er4_2,er5_2,er6_2⟩:Cs7 w2 (w.heap.size) (.slice (some ⟨gs,0,none⟩) 3 cap) (.slice Ai ni ci) (.int .i64 t) (.int .i64 0) (.int .i64 0) (.int .i64 0) (.int .i64 0):=.of yr2);(obtain⟨eo0_2,eo1_2,eo2_2,eo3_2,eo4_2,eo5_2,eo6_2⟩:Cs7 w2 (w.heap.size+1+1) (.slice none 0 0) (.slice none 0 0) (.int .i64 0) (.int .i64 0) (.int .i64 0) (.int .i64 0) (.int .i64 0):=.of yo2);(obtain⟨eq0_2,eq1_2,eq2_2,eq3_2,eq4_2,eq5_2⟩:Cs6 w2 (w.heap.size+1+1+1+1) (.string p.core.kind) (.bool p.core.on) (.bool p.core.broken) (.slice A3 p.core.cells.length c3) (.int .i64 p.core.count) (.slice A5 p.layers.length c5):=.of yq2);(obtain⟨ex0_2,ex1_2,ex2_2,ex3_2,ex4_2⟩:Cs5 w2 (w.heap.size+1+1+1+1+1) (.int .i64 0) (.int .i64 0) (.string ⟨#[]⟩) (.int .i64 0) (.int .i64 0):=.of yx2);(clear yr2 yo2 yq2 yx2);clear c2 s2;simp only [])|fail)
  all_goals
   go_wp2_with fail
   refine bodyPost_ret (v:=.agg #[.slice (some ⟨gs,0,none⟩) 3 cap,.slice Ai ni ci,.int .i64 t,.int .i64 2,.int .i64 place,.int .i64 0,.int .i64 0]) (by simp only [results,Tryz.results49];go_simp) rfl ?_
   have hgs:=hgs0.out
   exact⟨S,rfl,SB2.out.keep (T:=[w.heap.size,w.heap.size+1+1,w.heap.size+1+1+1+1,w.heap.size+1+1+1+1+1]) Chg.now (fun y hy=>by have:=lt0.out y hy;simp;omega),fun y hy=>.inl hy,(Chg.to (D2.out.mono (by simp):Chg S w w2))⟩
end Go.Proofs.YtjigcplpkhpgnaaGreatDoor
