/- one of the program. Conditions: as stated. -/
import Derived.Test.YtjeadhmkghnkkaaGreatDoorRunW
set_option maxRecDepth 100000
set_option maxHeartbeats 8000000
namespace Go.Proofs.YtjeadhmkghnkkaaGreatDoor
open Go.RowKit
theorem Qe9 (r gs cap:Nat) (vi:Value) (l:List Ql) (t:Int) (S:List Nat) (w:World) (a:Qa) (uA uB:Value) (i:Nat) (place:Int) (h:RB w r gs cap vi l t S) (hi:i<l.length) (hs:a.slot=(i:Int)) (ho:a.op=1) (hk:Qo a.word≠none):
  Calls Tryz.prog 73 #[.pointer (some ⟨r,0,none⟩),.agg #[.int .i64 a.op,.int .i64 a.slot,.int .i64 a.other,.string a.word,.string a.call.method,.string a.call.key,.int .i64 a.call.value,.string a.call.text,.int .i64 a.face,uA,uB],.int .i64 place] w (Vy r gs cap vi (l.set i ⟨true,Xu a.word⟩) (t) (QJ) (true) S w):=by
 obtain⟨A3,c3,A5,c5,q0,q1,q2,q3,q4,q5,q6,r4,r6,hfr,hgl⟩:=h.hs.slotAt h.hl (by rw [<-h.hl];exact hi) hi
 have z0:=hfr 0 (by omega);have z1:=hfr 1 (by omega);have z2:=hfr 2 (by omega);have z3:=hfr 3 (by omega);have z4:=hfr 4 (by omega);have z5:=hfr 5 (by omega);have z6:=hfr 6 (by omega)
 rw [L3] at z0
 have hrl:r<w.heap.size:=Qk h.c0
 have c0:=h.c0
 have lt0:=Qb h.lt
 have hgs0:=Qb h.gs.1
 have hcap1:=h.gs.2.1
 have hcap2:=h.gs.2.2
 unfold maxLen at hcap2
 have H:=Qb h
 have i3:i<3:=by rw [<-h.hl];exact hi
 have j0:(0:Int)<=(i:Int):=by omega
 have j1:(i:Int)<3:=by omega
 have g0:gs<w.heap.size+1:=by omega
 have g1:gs<w.heap.size+1+1:=by omega
 have g2:gs<w.heap.size+1+1+1:=by omega
 have r0:r<w.heap.size+1:=by omega
 have r1:r<w.heap.size+1+1:=by omega
 have r2:r<w.heap.size+1+1+1:=by omega
 have o1:(a.op==1)=true:=by rw [ho];rfl
 have o4:(a.op==4)=false:=by rw [ho];rfl
 have o5:(a.op==5)=false:=by rw [ho];rfl
 have o8:(a.op==8)=false:=by rw [ho];rfl
 have o9:(a.op==9)=false:=by rw [ho];rfl
 have o10:(a.op==10)=false:=by rw [ho];rfl
 obtain⟨f,hf⟩:=O6.1 hk
 have NP:=Qb (fun W=>VW a.word hf W)
 clear h ho hk hf hfr r4 r6
 rw [hs]
 clear hs
 go_enter Tryz.func73,Tryz.ntmps73
 go_wp2_with fail
 go_quiet (fail)
 go_wp2_with fail
 refine(NP.out _).mono ?_
 rintro e w1 ⟨rfl,c1⟩
 have s1:=c1.size
 have v1:w.heap.size+2<=w1.heap.size:=by(try simp at s1)<;>omega
 have ys1:=c1.ce gs
 have zs1:=c1.fe gs
 have xs1:gs<w1.heap.size:=by omega
 have xr1:r<w1.heap.size:=by omega
 obtain⟨ya1,za1,xa1,yc1,zc1,xc1, -⟩:=c1.low 2 (w.heap.size) (fun x hx=>by simp at hx)
 clear s1
 have D1:Hid (Qc [] w w1):=Qb (H0 C6 c1)
 have RB1:=Qb ((H.out.kz C6).kz c1)
 clear c1
 go_wp2_with fail
 refine bodyPost_ret (v:=.tuple #[.agg #[.int .i64 0,.int .i64 0,.int .i64 0,.int .i64 0],.bool true]) (by simp only [results,Tryz.results73];go_simp) rfl ?_
 have hgs:=hgs0.out
 have hx:Zm w1 (Zj ⟨true,Xu a.word⟩) [.bool true,.string a.word,.bool false,.bool false,.slice none 0 0,.int .i64 0,.slice none 0 0] []:=I2 (I2 (I2 (I2 (Zm.cons_nil (I2 (Zm.cons_nil (T8 w1)))))))
 obtain⟨S',rb',hS',_,cg⟩:=RB1.out.put i3 hx (by simp)
 simp only [Xc,O4,Nat.reduceAdd] at rb' cg
 have lo1:Hid (∀y,y∈([]:List Nat)->w.heap.size+2<=y/\y<w1.heap.size):=Qb (by simp)
 exact⟨S',rfl,rb'.keep (T:=[w.heap.size+1]) C6 (by have:=lt0.out r (by simp);simp;omega) (fun y hy=>by rcases hS' y hy with h|h;(have:=lt0.out y (by simp [h]);simp;omega);(have:=lo1.out y h;simp;omega)),fun y hy=>(hS' y hy).imp id (fun h=>by have:=lo1.out y h;omega),(H9 (D1.out.mono (by simp):Qc (r::S) w w1))⟩
theorem Qfb (r gs cap:Nat) (vi:Value) (l:List Ql) (t:Int) (S:List Nat) (w:World) (a:Qa) (uA uB:Value) (i:Nat) (place:Int) (h:RB w r gs cap vi l t S) (hi:i<l.length) (hs:a.slot=(i:Int)) (ho:a.op=5):
  Calls Tryz.prog 73 #[.pointer (some ⟨r,0,none⟩),.agg #[.int .i64 a.op,.int .i64 a.slot,.int .i64 a.other,.string a.word,.string a.call.method,.string a.call.key,.int .i64 a.call.value,.string a.call.text,.int .i64 a.face,uA,uB],.int .i64 place] w (Vy r gs cap vi (l.set i WM) (t) (QJ) (true) S w):=by
 obtain⟨A3,c3,A5,c5,q0,q1,q2,q3,q4,q5,q6,r4,r6,hfr,hgl⟩:=h.hs.slotAt h.hl (by rw [<-h.hl];exact hi) hi
 have z0:=hfr 0 (by omega);have z1:=hfr 1 (by omega);have z2:=hfr 2 (by omega);have z3:=hfr 3 (by omega);have z4:=hfr 4 (by omega);have z5:=hfr 5 (by omega);have z6:=hfr 6 (by omega)
 rw [L3] at z0
 have hrl:r<w.heap.size:=Qk h.c0
 have c0:=h.c0
 have lt0:=Qb h.lt
 have hgs0:=Qb h.gs.1
 have hcap1:=h.gs.2.1
 have hcap2:=h.gs.2.2
 unfold maxLen at hcap2
 have H:=Qb h
 have i3:i<3:=by rw [<-h.hl];exact hi
 have j0:(0:Int)<=(i:Int):=by omega
 have j1:(i:Int)<3:=by omega
 have g0:gs<w.heap.size+1:=by omega
 have g1:gs<w.heap.size+1+1:=by omega
 have g2:gs<w.heap.size+1+1+1:=by omega
 have r0:r<w.heap.size+1:=by omega
 have r1:r<w.heap.size+1+1:=by omega
 have r2:r<w.heap.size+1+1+1:=by omega
 have o1:(a.op==1)=false:=by rw [ho];rfl
 have o4:(a.op==4)=false:=by rw [ho];rfl
 have o5:(a.op==5)=true:=by rw [ho];rfl
 have o8:(a.op==8)=false:=by rw [ho];rfl
 have o9:(a.op==9)=false:=by rw [ho];rfl
 have o10:(a.op==10)=false:=by rw [ho];rfl
 clear h ho hfr r4 r6
 rw [hs]
 clear hs
 go_enter Tryz.func73,Tryz.ntmps73
 go_wp2_with fail
 go_quiet (fail)
 skip
 go_wp2_with fail
 refine bodyPost_ret (v:=.tuple #[.agg #[.int .i64 0,.int .i64 0,.int .i64 0,.int .i64 0],.bool true]) (by simp only [results,Tryz.results73];go_simp) rfl ?_
 have hgs:=hgs0.out
 have UP:∀W,Qc [] w W->∃S',RB (Xc W gs (i * 7) [.bool false,.string ⟨#[]⟩,.bool false,.bool false,.slice none 0 0,.int .i64 0,.slice none 0 0]) r gs cap vi (l.set i WM) t S'/\(∀y,y∈S'->y∈S):=fun W hW=>by
  have hx:Zm W (Zj WM) [.bool false,.string ⟨#[]⟩,.bool false,.bool false,.slice none 0 0,.int .i64 0,.slice none 0 0] []:=I2 (I2 (I2 (I2 (Zm.cons_nil (I2 (Zm.cons_nil (T8 W)))))))
  obtain⟨S',rb',hS',_,_⟩:=(H.out.kz hW).put i3 hx (by simp)
  exact⟨S',rb',fun y hy=>(hS' y hy).elim id (by simp)⟩
 simp only [Xc,O4,Nat.reduceAdd] at UP
 obtain⟨S',rb',hS'⟩:=UP (((w.alloc (.cells #[.int .i64 a.op,.int .i64 (i:Int),.int .i64 a.other,.string a.word,.string a.call.method,.string a.call.key,.int .i64 a.call.value,.string a.call.text,.int .i64 a.face,uA,uB] 33)).alloc (.cells #[.int .i64 0,.int .i64 0,.int .i64 0,.int .i64 0] 38)).drewN nq) C6
 exact⟨S',rfl,rb'.keep (T:=[w.heap.size+1]) C6 (by have:=lt0.out r (by simp);simp;omega) (fun y hy=>by have:=lt0.out y (by simp [hS' y hy]);simp;omega),fun y hy=>.inl (hS' y hy),C6⟩
theorem QdU (r gs cap:Nat) (vi:Value) (l:List Ql) (t:Int) (S:List Nat) (w:World) (a:Qa) (uA uB:Value) (i:Nat) (place:Int) (h:RB w r gs cap vi l t S) (hi:i<l.length) (hs:a.slot=(i:Int)) (ho:a.op=3∨a.op=2∨a.op=6∨a.op=7) (hf:l[i].full=false):
  Calls Tryz.prog 73 #[.pointer (some ⟨r,0,none⟩),.agg #[.int .i64 a.op,.int .i64 a.slot,.int .i64 a.other,.string a.word,.string a.call.method,.string a.call.key,.int .i64 a.call.value,.string a.call.text,.int .i64 a.face,uA,uB],.int .i64 place] w (Vy r gs cap vi (l) (t) (⟨2,place,0,0⟩) (false) S w):=by
 obtain⟨A3,c3,A5,c5,q0,q1,q2,q3,q4,q5,q6,r4,r6,hfr,hgl⟩:=h.hs.slotAt h.hl (by rw [<-h.hl];exact hi) hi
 have z0:=hfr 0 (by omega);have z1:=hfr 1 (by omega);have z2:=hfr 2 (by omega);have z3:=hfr 3 (by omega);have z4:=hfr 4 (by omega);have z5:=hfr 5 (by omega);have z6:=hfr 6 (by omega)
 rw [L3] at z0
 have hrl:r<w.heap.size:=Qk h.c0
 have c0:=h.c0
 have lt0:=Qb h.lt
 have hgs0:=Qb h.gs.1
 have hcap1:=h.gs.2.1
 have hcap2:=h.gs.2.2
 unfold maxLen at hcap2
 have H:=Qb h
 have i3:i<3:=by rw [<-h.hl];exact hi
 have j0:(0:Int)<=(i:Int):=by omega
 have j1:(i:Int)<3:=by omega
 have g0:gs<w.heap.size+1:=by omega
 have g1:gs<w.heap.size+1+1:=by omega
 have g2:gs<w.heap.size+1+1+1:=by omega
 have r0:r<w.heap.size+1:=by omega
 have r1:r<w.heap.size+1+1:=by omega
 have r2:r<w.heap.size+1+1+1:=by omega
 have o1:(a.op==1)=false:=by rw [beq_eq_false_iff_ne];omega
 have o4:(a.op==4)=false:=by rw [beq_eq_false_iff_ne];omega
 have o5:(a.op==5)=false:=by rw [beq_eq_false_iff_ne];omega
 have o8:(a.op==8)=false:=by rw [beq_eq_false_iff_ne];omega
 have o9:(a.op==9)=false:=by rw [beq_eq_false_iff_ne];omega
 have o10:(a.op==10)=false:=by rw [beq_eq_false_iff_ne];omega
 rw [hf] at q0
 clear h ho hf hfr r4 r6
 rw [hs]
 clear hs
 go_enter Tryz.func73,Tryz.ntmps73
 go_wp2_with fail
 go_quiet (fail)
 go_wp2_with fail
 refine bodyPost_ret (v:=.tuple #[.agg #[.int .i64 2,.int .i64 place,.int .i64 0,.int .i64 0],.bool false]) (by simp only [results,Tryz.results73];go_simp) rfl ?_
 have hgs:=hgs0.out
 exact⟨S,rfl,H.out.keep (T:=[w.heap.size+1]) C6 (by have:=lt0.out r (by simp);simp;omega) (fun y hy=>by have:=lt0.out y (by simp [hy]);simp;omega),fun y hy=>.inl hy,C6⟩
theorem Qfq (r gs cap:Nat) (vi:Value) (l:List Ql) (t:Int) (S:List Nat) (w:World) (a:Qa) (uA uB:Value) (i:Nat) (place:Int) (h:RB w r gs cap vi l t S) (hi:i<l.length) (hs:a.slot=(i:Int)) (ho:a.op=3∨a.op=2∨a.op=6∨a.op=7) (l':List Ql) (en:Xo) (b:Bool) (hf:l[i].full=true) (WP:∀W,Qc [] w W->Calls Tryz.prog 112 #[.pointer (some ⟨r,0,none⟩),.pointer (some ⟨gs,i * 7,none⟩),.agg #[.int .i64 a.op,.int .i64 a.slot,.int .i64 a.other,.string a.word,.string a.call.method,.string a.call.key,.int .i64 a.call.value,.string a.call.text,.int .i64 a.face,uA,uB],.int .i64 place] W (Vy r gs cap vi l' t en b S W)):
  Calls Tryz.prog 73 #[.pointer (some ⟨r,0,none⟩),.agg #[.int .i64 a.op,.int .i64 a.slot,.int .i64 a.other,.string a.word,.string a.call.method,.string a.call.key,.int .i64 a.call.value,.string a.call.text,.int .i64 a.face,uA,uB],.int .i64 place] w (Vy r gs cap vi (l') (t) (en) (b) S w):=by
 obtain⟨A3,c3,A5,c5,q0,q1,q2,q3,q4,q5,q6,r4,r6,hfr,hgl⟩:=h.hs.slotAt h.hl (by rw [<-h.hl];exact hi) hi
 have z0:=hfr 0 (by omega);have z1:=hfr 1 (by omega);have z2:=hfr 2 (by omega);have z3:=hfr 3 (by omega);have z4:=hfr 4 (by omega);have z5:=hfr 5 (by omega);have z6:=hfr 6 (by omega)
 rw [L3] at z0
 have hrl:r<w.heap.size:=Qk h.c0
 have c0:=h.c0
 have lt0:=Qb h.lt
 have hgs0:=Qb h.gs.1
 have hcap1:=h.gs.2.1
 have hcap2:=h.gs.2.2
 unfold maxLen at hcap2
 have H:=Qb h
 have i3:i<3:=by rw [<-h.hl];exact hi
 have j0:(0:Int)<=(i:Int):=by omega
 have j1:(i:Int)<3:=by omega
 have g0:gs<w.heap.size+1:=by omega
 have g1:gs<w.heap.size+1+1:=by omega
 have g2:gs<w.heap.size+1+1+1:=by omega
 have r0:r<w.heap.size+1:=by omega
 have r1:r<w.heap.size+1+1:=by omega
 have r2:r<w.heap.size+1+1+1:=by omega
 have o1:(a.op==1)=false:=by rw [beq_eq_false_iff_ne];omega
 have o4:(a.op==4)=false:=by rw [beq_eq_false_iff_ne];omega
 have o5:(a.op==5)=false:=by rw [beq_eq_false_iff_ne];omega
 have o8:(a.op==8)=false:=by rw [beq_eq_false_iff_ne];omega
 have o9:(a.op==9)=false:=by rw [beq_eq_false_iff_ne];omega
 have o10:(a.op==10)=false:=by rw [beq_eq_false_iff_ne];omega
 rw [hf] at q0
 rw [hs] at WP
 have WP1:=Qb WP
 clear h ho hf hfr r4 r6 WP
 rw [hs]
 clear hs
 go_enter Tryz.func73,Tryz.ntmps73
 go_wp2_with fail
 go_quiet (fail)
 go_wp2_with fail
 refine(WP1.out _ C6).mono ?_
 rintro e w1 ⟨S2,rfl,rb1,hS1,c1⟩
 have s1:=c1.size
 have v1:w.heap.size+2<=w1.heap.size:=by(try simp at s1)<;>omega
 have xs1:gs<w1.heap.size:=by omega
 have xr1:r<w1.heap.size:=by omega
 obtain⟨-, -,xa1,yc1,zc1,xc1, -⟩:=c1.low 2 (w.heap.size) (fun x hx=>by have:=lt0.out _ hx;(try simp at this)<;>omega)
 clear s1
 have lo1:Hid (∀y,y∈S2->y∈S∨w.heap.size+2<=y):=Qb (fun y hy=>(hS1 y hy).imp id (fun h=>by(try simp at h)<;>omega))
 have D1:Hid (Qc (r::S) w w1):=Qb (K6 (S:=r::S) (j6 (S:=[]) C6 (by simp)) c1 (fun x hx=>.inl hx))
 have RB1:=Qb rb1
 clear rb1 hS1 c1
 go_wp2_with fail
 refine bodyPost_ret (v:=.tuple #[.agg #[.int .i64 en.code,.int .i64 en.place,.int .i64 en.want,.int .i64 en.had],.bool b]) (by simp only [results,Tryz.results73];go_simp) rfl ?_
 have hgs:=hgs0.out
 exact⟨S2,rfl,RB1.out.keep (T:=[w.heap.size+1]) C6 (by have:=lt0.out r (by simp);simp;omega) (fun y hy=>by rcases lo1.out y hy with h|h;(have:=lt0.out y (by simp [h]);simp;omega);(simp;omega)),fun y hy=>(lo1.out y hy).imp id (fun h=>by omega),(H9 D1.out)⟩
theorem QfV (r gs cap:Nat) (vi:Value) (l:List Ql) (t:Int) (S:List Nat) (w:World) (a:Qa) (uA uB:Value) (i:Nat) (place:Int) (h:RB w r gs cap vi l t S) (hi:i<l.length) (hs:a.slot=(i:Int)) (ho:a.op=8) (n:Int) (hn0:0<=n) (hn3:n<=3) (hodd:n % 2=1) (l2:List Ql) (t2:Int) (en:Xo) (b:Bool) (hp0:0<=place) (hp1:place<=1000) (NU:∀W,Qc [] w W->Calls Tryz.prog 111 #[.pointer (some ⟨r,0,none⟩)] W (fun e w'=>e= .returned (.int .i64 n)/\RB w' r gs cap vi l (t+1) S/\Qc [r] W w')) (LA:∀W,RB W r gs cap vi l (t+1) S->Qc (r::S) w W->Calls Tryz.prog 46 #[.pointer (some ⟨r,0,none⟩),uA,.int .i64 (place+1)] W (Vy r gs cap vi l2 t2 en b S W)):
  Calls Tryz.prog 73 #[.pointer (some ⟨r,0,none⟩),.agg #[.int .i64 a.op,.int .i64 a.slot,.int .i64 a.other,.string a.word,.string a.call.method,.string a.call.key,.int .i64 a.call.value,.string a.call.text,.int .i64 a.face,uA,uB],.int .i64 place] w (Vy r gs cap vi (l2) (t2) (en) (b) S w):=by
 obtain⟨A3,c3,A5,c5,q0,q1,q2,q3,q4,q5,q6,r4,r6,hfr,hgl⟩:=h.hs.slotAt h.hl (by rw [<-h.hl];exact hi) hi
 have z0:=hfr 0 (by omega);have z1:=hfr 1 (by omega);have z2:=hfr 2 (by omega);have z3:=hfr 3 (by omega);have z4:=hfr 4 (by omega);have z5:=hfr 5 (by omega);have z6:=hfr 6 (by omega)
 rw [L3] at z0
 have hrl:r<w.heap.size:=Qk h.c0
 have c0:=h.c0
 have lt0:=Qb h.lt
 have hgs0:=Qb h.gs.1
 have hcap1:=h.gs.2.1
 have hcap2:=h.gs.2.2
 unfold maxLen at hcap2
 have H:=Qb h
 have i3:i<3:=by rw [<-h.hl];exact hi
 have j0:(0:Int)<=(i:Int):=by omega
 have j1:(i:Int)<3:=by omega
 have g0:gs<w.heap.size+1:=by omega
 have g1:gs<w.heap.size+1+1:=by omega
 have g2:gs<w.heap.size+1+1+1:=by omega
 have r0:r<w.heap.size+1:=by omega
 have r1:r<w.heap.size+1+1:=by omega
 have r2:r<w.heap.size+1+1+1:=by omega
 have o1:(a.op==1)=false:=by rw [ho];rfl
 have o4:(a.op==4)=false:=by rw [ho];rfl
 have o5:(a.op==5)=false:=by rw [ho];rfl
 have o8:(a.op==8)=true:=by rw [ho];rfl
 have o9:(a.op==9)=false:=by rw [ho];rfl
 have o10:(a.op==10)=false:=by rw [ho];rfl
 have d2:(n % 2==1)=true:=by rw [beq_iff_eq];exact hodd
 have NU1:=Qb NU
 have LA1:=Qb LA
 clear h ho hfr r4 r6 NU LA hodd
 rw [hs]
 clear hs
 go_enter Tryz.func73,Tryz.ntmps73
 go_wp2_with fail
 go_quiet (fail)
 go_wp2_with fail
 refine(NU1.out _ C6).mono ?_
 rintro e w1 ⟨rfl,rb1,c1⟩
 have s1:=c1.size
 have v1:w.heap.size+2<=w1.heap.size:=by(try simp at s1)<;>omega
 have xs1:gs<w1.heap.size:=by omega
 have xr1:r<w1.heap.size:=by omega
 have ya1:=c1.ce w.heap.size (hn:=by simp;omega)
 have za1:=c1.fe w.heap.size (hn:=by simp;omega)
 have xa1:w.heap.size<w1.heap.size:=by omega
 have yc1:=c1.ce (w.heap.size+1) (hn:=by simp;omega)
 have zc1:=c1.fe (w.heap.size+1) (hn:=by simp;omega)
 have xc1:w.heap.size+1<w1.heap.size:=by omega
 clear s1
 have D1:Hid (Qc (r::S) w w1):=Qb (K6 (S:=r::S) (j6 (S:=[]) C6 (by simp)) c1 (fun x hx=>.inl (by simp at hx ⊢;exact .inl hx)))
 have RB1:=Qb rb1
 clear rb1 c1
 go_wp2_with fail
 refine(LA1.out _ (RB1.out.kz C6) (H9 D1.out)).mono ?_
 rintro e w2 ⟨S2,rfl,rb2,hS2,c2⟩
 have s2:=c2.size
 have v2:w1.heap.size<=w2.heap.size:=by(try simp at s2)<;>omega
 have xs2:gs<w2.heap.size:=by omega
 have xr2:r<w2.heap.size:=by omega
 obtain⟨-, -,xa2,yc2,zc2,xc2, -⟩:=c2.low 2 (w.heap.size) (fun x hx=>by have:=lt0.out _ hx;(try simp at this)<;>omega)
 clear s2
 have lo2:Hid (∀y,y∈S2->y∈S∨w.heap.size+2<=y):=Qb (fun y hy=>(hS2 y hy).imp id (fun h=>by(try simp at h)<;>omega))
 have D2:Hid (Qc (r::S) w w2):=Qb (K6 (S:=r::S) (H9 D1.out) c2 (fun x hx=>.inl hx))
 have RB2:=Qb rb2
 clear rb2 hS2 c2
 go_wp2_with fail
 refine bodyPost_ret (v:=.tuple #[.agg #[.int .i64 en.code,.int .i64 en.place,.int .i64 en.want,.int .i64 en.had],.bool b]) (by simp only [results,Tryz.results73];go_simp) rfl ?_
 have hgs:=hgs0.out
 exact⟨S2,rfl,RB2.out.keep (T:=[w.heap.size+1]) C6 (by have:=lt0.out r (by simp);simp;omega) (fun y hy=>by rcases lo2.out y hy with h|h;(have:=lt0.out y (by simp [h]);simp;omega);(simp;omega)),fun y hy=>(lo2.out y hy).imp id (fun h=>by omega),(H9 D2.out)⟩
theorem Qfy (r gs cap:Nat) (vi:Value) (l:List Ql) (t:Int) (S:List Nat) (w:World) (a:Qa) (uA uB:Value) (i:Nat) (place:Int) (h:RB w r gs cap vi l t S) (hi:i<l.length) (hs:a.slot=(i:Int)) (ho:a.op=8) (n:Int) (hn0:0<=n) (hn3:n<=3) (hodd:¬n % 2=1) (l2:List Ql) (t2:Int) (en:Xo) (b:Bool) (hp0:0<=place) (hp1:place<=1000) (NU:∀W,Qc [] w W->Calls Tryz.prog 111 #[.pointer (some ⟨r,0,none⟩)] W (fun e w'=>e= .returned (.int .i64 n)/\RB w' r gs cap vi l (t+1) S/\Qc [r] W w')) (m:Int) (hm0:0<=m) (hm1:m<=1000) (PS:∀W,Qc (r::S) w W->Calls Tryz.prog 13 #[uA] W (fun e w'=>e= .returned (.int .i64 m)/\Qc [] W w')) (LA:∀W,RB W r gs cap vi l (t+1) S->Qc (r::S) w W->Calls Tryz.prog 46 #[.pointer (some ⟨r,0,none⟩),uB,.int .i64 (place+1+m)] W (Vy r gs cap vi l2 t2 en b S W)):
  Calls Tryz.prog 73 #[.pointer (some ⟨r,0,none⟩),.agg #[.int .i64 a.op,.int .i64 a.slot,.int .i64 a.other,.string a.word,.string a.call.method,.string a.call.key,.int .i64 a.call.value,.string a.call.text,.int .i64 a.face,uA,uB],.int .i64 place] w (Vy r gs cap vi (l2) (t2) (en) (b) S w):=by
 obtain⟨A3,c3,A5,c5,q0,q1,q2,q3,q4,q5,q6,r4,r6,hfr,hgl⟩:=h.hs.slotAt h.hl (by rw [<-h.hl];exact hi) hi
 have z0:=hfr 0 (by omega);have z1:=hfr 1 (by omega);have z2:=hfr 2 (by omega);have z3:=hfr 3 (by omega);have z4:=hfr 4 (by omega);have z5:=hfr 5 (by omega);have z6:=hfr 6 (by omega)
 rw [L3] at z0
 have hrl:r<w.heap.size:=Qk h.c0
 have c0:=h.c0
 have lt0:=Qb h.lt
 have hgs0:=Qb h.gs.1
 have hcap1:=h.gs.2.1
 have hcap2:=h.gs.2.2
 unfold maxLen at hcap2
 have H:=Qb h
 have i3:i<3:=by rw [<-h.hl];exact hi
 have j0:(0:Int)<=(i:Int):=by omega
 have j1:(i:Int)<3:=by omega
 have g0:gs<w.heap.size+1:=by omega
 have g1:gs<w.heap.size+1+1:=by omega
 have g2:gs<w.heap.size+1+1+1:=by omega
 have r0:r<w.heap.size+1:=by omega
 have r1:r<w.heap.size+1+1:=by omega
 have r2:r<w.heap.size+1+1+1:=by omega
 have o1:(a.op==1)=false:=by rw [ho];rfl
 have o4:(a.op==4)=false:=by rw [ho];rfl
 have o5:(a.op==5)=false:=by rw [ho];rfl
 have o8:(a.op==8)=true:=by rw [ho];rfl
 have o9:(a.op==9)=false:=by rw [ho];rfl
 have o10:(a.op==10)=false:=by rw [ho];rfl
 have d2:(n % 2==1)=false:=by rw [beq_eq_false_iff_ne];exact hodd
 have NU1:=Qb NU
 have LA1:=Qb LA
 have PS1:=Qb PS
 have wp1:IntKind.i64.wrap (place+1)=place+1:=Zd (by omega) (by omega)
 have wp2:IntKind.i64.wrap (place+1+m)=place+1+m:=Zd (by omega) (by omega)
 clear h ho hfr r4 r6 NU LA hodd PS
 rw [hs]
 clear hs
 go_enter Tryz.func73,Tryz.ntmps73
 go_wp2_with fail
 go_quiet (fail)
 go_wp2_with fail
 refine(NU1.out _ C6).mono ?_
 rintro e w1 ⟨rfl,rb1,c1⟩
 have s1:=c1.size
 have v1:w.heap.size+2<=w1.heap.size:=by(try simp at s1)<;>omega
 have xs1:gs<w1.heap.size:=by omega
 have xr1:r<w1.heap.size:=by omega
 have ya1:=c1.ce w.heap.size (hn:=by simp;omega)
 have za1:=c1.fe w.heap.size (hn:=by simp;omega)
 have xa1:w.heap.size<w1.heap.size:=by omega
 have yc1:=c1.ce (w.heap.size+1) (hn:=by simp;omega)
 have zc1:=c1.fe (w.heap.size+1) (hn:=by simp;omega)
 have xc1:w.heap.size+1<w1.heap.size:=by omega
 clear s1
 have D1:Hid (Qc (r::S) w w1):=Qb (K6 (S:=r::S) (j6 (S:=[]) C6 (by simp)) c1 (fun x hx=>.inl (by simp at hx ⊢;exact .inl hx)))
 have RB1:=Qb rb1
 clear rb1 c1
 go_wp2_with fail
 go_region_law (first|(go_simp;go_at_call 13;(with_reducible refine(PS1.out _ (H9 D1.out)).mono ?_);rintro e w3 ⟨rfl,c3⟩;(have s3:=c3.size);(have v3:w1.heap.size<=w3.heap.size:=by(try simp at s3)<;>omega);(have xs3:gs<w3.heap.size:=by omega);(have xr3:r<w3.heap.size:=by omega);(obtain⟨ya3,za3,xa3,yc3,zc3,xc3, -⟩:=c3.low 2 (w.heap.size) (fun x hx=>by simp at hx));(have D3:Hid (Qc (r::S) w w3):=Qb (H0 (H9 D1.out) c3));(have RB3:=Qb ((RB1.out.kz C6).kz c3));clear c3 s3;simp only [])|(go_simp;go_at_call 46;(with_reducible refine(LA1.out _ (RB3.out.kz C6) (H9 D3.out)).mono ?_);rintro e w2 ⟨S2,rfl,rb2,hS2,c2⟩;(have s2:=c2.size);(have v2:w3.heap.size<=w2.heap.size:=by(try simp at s2)<;>omega);(have xs2:gs<w2.heap.size:=by omega);(have xr2:r<w2.heap.size:=by omega);(obtain⟨-, -,xa2,yc2,zc2,xc2, -⟩:=c2.low 2 (w.heap.size) (fun x hx=>by have:=lt0.out _ hx;(try simp at this)<;>omega));(have lo2:Hid (∀y,y∈S2->y∈S∨w.heap.size+2<=y):=Qb (fun y hy=>(hS2 y hy).imp id (fun h=>by(try simp at h)<;>omega)));(have D2:Hid (Qc (r::S) w w2):=Qb (K6 (S:=r::S) (H9 D3.out) c2 (fun x hx=>.inl hx)));(have RB2:=Qb rb2);clear rb2 hS2 c2 s2;simp only [])|fail)
 all_goals
  go_wp2_with fail
  refine bodyPost_ret (v:=.tuple #[.agg #[.int .i64 en.code,.int .i64 en.place,.int .i64 en.want,.int .i64 en.had],.bool b]) (by simp only [results,Tryz.results73];go_simp) rfl ?_
  have hgs:=hgs0.out
  exact⟨S2,rfl,RB2.out.keep (T:=[w.heap.size+1]) C6 (by have:=lt0.out r (by simp);simp;omega) (fun y hy=>by rcases lo2.out y hy with h|h;(have:=lt0.out y (by simp [h]);simp;omega);(simp;omega)),fun y hy=>(lo2.out y hy).imp id (fun h=>by omega),(H9 D2.out)⟩
theorem QeL (r gs cap:Nat) (vi:Value) (l:List Ql) (t:Int) (S:List Nat) (w:World) (a:Qa) (uA uB:Value) (i:Nat) (place:Int) (h:RB w r gs cap vi l t S) (hi:i<l.length) (hs:a.slot=(i:Int)) (ho:a.op=10) (l1:List Ql) (t1:Int) (e1:Xo) (b1:Bool) (hp0:0<=place) (hp1:place<=1000) (LA:∀W,RB W r gs cap vi l t S->Qc (r::S) w W->Calls Tryz.prog 46 #[.pointer (some ⟨r,0,none⟩),uA,.int .i64 (place+1)] W (Vy r gs cap vi l1 t1 e1 b1 S W)) (hc:e1.code≠1):
  Calls Tryz.prog 73 #[.pointer (some ⟨r,0,none⟩),.agg #[.int .i64 a.op,.int .i64 a.slot,.int .i64 a.other,.string a.word,.string a.call.method,.string a.call.key,.int .i64 a.call.value,.string a.call.text,.int .i64 a.face,uA,uB],.int .i64 place] w (Vy r gs cap vi (l1) (t1) (e1) (b1) S w):=by
 obtain⟨A3,c3,A5,c5,q0,q1,q2,q3,q4,q5,q6,r4,r6,hfr,hgl⟩:=h.hs.slotAt h.hl (by rw [<-h.hl];exact hi) hi
 have z0:=hfr 0 (by omega);have z1:=hfr 1 (by omega);have z2:=hfr 2 (by omega);have z3:=hfr 3 (by omega);have z4:=hfr 4 (by omega);have z5:=hfr 5 (by omega);have z6:=hfr 6 (by omega)
 rw [L3] at z0
 have hrl:r<w.heap.size:=Qk h.c0
 have c0:=h.c0
 have lt0:=Qb h.lt
 have hgs0:=Qb h.gs.1
 have hcap1:=h.gs.2.1
 have hcap2:=h.gs.2.2
 unfold maxLen at hcap2
 have H:=Qb h
 have i3:i<3:=by rw [<-h.hl];exact hi
 have j0:(0:Int)<=(i:Int):=by omega
 have j1:(i:Int)<3:=by omega
 have g0:gs<w.heap.size+1:=by omega
 have g1:gs<w.heap.size+1+1:=by omega
 have g2:gs<w.heap.size+1+1+1:=by omega
 have r0:r<w.heap.size+1:=by omega
 have r1:r<w.heap.size+1+1:=by omega
 have r2:r<w.heap.size+1+1+1:=by omega
 have o1:(a.op==1)=false:=by rw [ho];rfl
 have o4:(a.op==4)=false:=by rw [ho];rfl
 have o5:(a.op==5)=false:=by rw [ho];rfl
 have o8:(a.op==8)=false:=by rw [ho];rfl
 have o9:(a.op==9)=false:=by rw [ho];rfl
 have o10:(a.op==10)=true:=by rw [ho];rfl
 have LA1:=Qb LA
 have e2:(e1.code !=1)=true:=by simp [hc]
 clear h ho hfr r4 r6 LA hc
 cases b1
 ·rw [hs]
  clear hs
  go_enter Tryz.func73,Tryz.ntmps73
  go_wp2_with fail
  go_quiet (fail)
  go_wp2_with fail
  refine(LA1.out _ (H.out.kz C6) (j6 (S:=[]) C6 (by simp))).mono ?_
  rintro e w1 ⟨S1,rfl,rb1,hS1,c1⟩
  have s1:=c1.size
  have v1:w.heap.size+2<=w1.heap.size:=by(try simp at s1)<;>omega
  have xs1:gs<w1.heap.size:=by omega
  have xr1:r<w1.heap.size:=by omega
  obtain⟨-, -,xa1,yc1,zc1,xc1, -⟩:=c1.low 2 (w.heap.size) (fun x hx=>by have:=lt0.out _ hx;(try simp at this)<;>omega)
  clear s1
  have lo1:Hid (∀y,y∈S1->y∈S∨w.heap.size+2<=y):=Qb (fun y hy=>(hS1 y hy).imp id (fun h=>by(try simp at h)<;>omega))
  have D1:Hid (Qc (r::S) w w1):=Qb (K6 (S:=r::S) C6 c1 (fun x hx=>.inl hx))
  have RB1:=Qb rb1
  clear rb1 hS1 c1
  go_wp2_with fail
  refine bodyPost_ret (v:=.tuple #[.agg #[.int .i64 e1.code,.int .i64 e1.place,.int .i64 e1.want,.int .i64 e1.had],.bool false]) (by simp only [results,Tryz.results73];go_simp) rfl ?_
  have hgs:=hgs0.out
  exact⟨S1,rfl,RB1.out.keep (T:=[w.heap.size+1]) C6 (by have:=lt0.out r (by simp);simp;omega) (fun y hy=>by rcases lo1.out y hy with h|h;(have:=lt0.out y (by simp [h]);simp;omega);(simp;omega)),fun y hy=>(lo1.out y hy).imp id (fun h=>by omega),(H9 D1.out)⟩
 ·rw [hs]
  clear hs
  go_enter Tryz.func73,Tryz.ntmps73
  go_wp2_with fail
  go_quiet (fail)
  go_wp2_with fail
  refine(LA1.out _ (H.out.kz C6) (j6 (S:=[]) C6 (by simp))).mono ?_
  rintro e w1 ⟨S1,rfl,rb1,hS1,c1⟩
  have s1:=c1.size
  have v1:w.heap.size+2<=w1.heap.size:=by(try simp at s1)<;>omega
  have xs1:gs<w1.heap.size:=by omega
  have xr1:r<w1.heap.size:=by omega
  obtain⟨-, -,xa1,yc1,zc1,xc1, -⟩:=c1.low 2 (w.heap.size) (fun x hx=>by have:=lt0.out _ hx;(try simp at this)<;>omega)
  clear s1
  have lo1:Hid (∀y,y∈S1->y∈S∨w.heap.size+2<=y):=Qb (fun y hy=>(hS1 y hy).imp id (fun h=>by(try simp at h)<;>omega))
  have D1:Hid (Qc (r::S) w w1):=Qb (K6 (S:=r::S) C6 c1 (fun x hx=>.inl hx))
  have RB1:=Qb rb1
  clear rb1 hS1 c1
  go_wp2_with fail
  refine bodyPost_ret (v:=.tuple #[.agg #[.int .i64 e1.code,.int .i64 e1.place,.int .i64 e1.want,.int .i64 e1.had],.bool true]) (by simp only [results,Tryz.results73];go_simp) rfl ?_
  have hgs:=hgs0.out
  exact⟨S1,rfl,RB1.out.keep (T:=[w.heap.size+1]) C6 (by have:=lt0.out r (by simp);simp;omega) (fun y hy=>by rcases lo1.out y hy with h|h;(have:=lt0.out y (by simp [h]);simp;omega);(simp;omega)),fun y hy=>(lo1.out y hy).imp id (fun h=>by omega),(H9 D1.out)⟩
theorem Qea (r gs cap:Nat) (vi:Value) (l:List Ql) (t:Int) (S:List Nat) (w:World) (a:Qa) (uA uB:Value) (i:Nat) (place:Int) (h:RB w r gs cap vi l t S) (hi:i<l.length) (hs:a.slot=(i:Int)) (ho:a.op=10) (l1:List Ql) (t1:Int) (e1:Xo) (b1:Bool) (hp0:0<=place) (hp1:place<=1000) (LA:∀W,RB W r gs cap vi l t S->Qc (r::S) w W->Calls Tryz.prog 46 #[.pointer (some ⟨r,0,none⟩),uA,.int .i64 (place+1)] W (Vy r gs cap vi l1 t1 e1 b1 S W)) (hb:b1=decide (e1.code=0)) (hc:e1.code=1) (l2:List Ql) (t2:Int) (en:Xo) (b:Bool) (m:Int) (hm0:0<=m) (hm1:m<=1000) (PS:∀W,Qc (r::S) w W->Calls Tryz.prog 13 #[uA] W (fun e w'=>e= .returned (.int .i64 m)/\Qc [] W w')) (LB:∀W S1,RB W r gs cap vi l1 t1 S1->(∀y,y∈S1->y∈S∨w.heap.size<=y)->Qc (r::S) w W->Calls Tryz.prog 46 #[.pointer (some ⟨r,0,none⟩),uB,.int .i64 (place+1+m)] W (Vy r gs cap vi l2 t2 en b S1 W)):
  Calls Tryz.prog 73 #[.pointer (some ⟨r,0,none⟩),.agg #[.int .i64 a.op,.int .i64 a.slot,.int .i64 a.other,.string a.word,.string a.call.method,.string a.call.key,.int .i64 a.call.value,.string a.call.text,.int .i64 a.face,uA,uB],.int .i64 place] w (Vy r gs cap vi (l2) (t2) (en) (b) S w):=by
 obtain⟨A3,c3,A5,c5,q0,q1,q2,q3,q4,q5,q6,r4,r6,hfr,hgl⟩:=h.hs.slotAt h.hl (by rw [<-h.hl];exact hi) hi
 have z0:=hfr 0 (by omega);have z1:=hfr 1 (by omega);have z2:=hfr 2 (by omega);have z3:=hfr 3 (by omega);have z4:=hfr 4 (by omega);have z5:=hfr 5 (by omega);have z6:=hfr 6 (by omega)
 rw [L3] at z0
 have hrl:r<w.heap.size:=Qk h.c0
 have c0:=h.c0
 have lt0:=Qb h.lt
 have hgs0:=Qb h.gs.1
 have hcap1:=h.gs.2.1
 have hcap2:=h.gs.2.2
 unfold maxLen at hcap2
 have H:=Qb h
 have i3:i<3:=by rw [<-h.hl];exact hi
 have j0:(0:Int)<=(i:Int):=by omega
 have j1:(i:Int)<3:=by omega
 have g0:gs<w.heap.size+1:=by omega
 have g1:gs<w.heap.size+1+1:=by omega
 have g2:gs<w.heap.size+1+1+1:=by omega
 have r0:r<w.heap.size+1:=by omega
 have r1:r<w.heap.size+1+1:=by omega
 have r2:r<w.heap.size+1+1+1:=by omega
 have o1:(a.op==1)=false:=by rw [ho];rfl
 have o4:(a.op==4)=false:=by rw [ho];rfl
 have o5:(a.op==5)=false:=by rw [ho];rfl
 have o8:(a.op==8)=false:=by rw [ho];rfl
 have o9:(a.op==9)=false:=by rw [ho];rfl
 have o10:(a.op==10)=true:=by rw [ho];rfl
 have LA1:=Qb LA
 have wp1:IntKind.i64.wrap (place+1)=place+1:=Zd (by omega) (by omega)
 have wp2:IntKind.i64.wrap (place+1+m)=place+1+m:=Zd (by omega) (by omega)
 have PS1:=Qb PS
 have LB1:=Qb LB
 have hb1:b1=false:=by rw [hb];simp [hc]
 have e2:(e1.code !=1)=false:=by simp [hc]
 subst hb1
 clear h ho hfr r4 r6 LA hc hb PS LB
 rw [hs]
 clear hs
 go_enter Tryz.func73,Tryz.ntmps73
 go_wp2_with fail
 go_quiet (fail)
 go_wp2_with fail
 refine(LA1.out _ (H.out.kz C6) (j6 (S:=[]) C6 (by simp))).mono ?_
 rintro e w1 ⟨S1,rfl,rb1,hS1,c1⟩
 have s1:=c1.size
 have v1:w.heap.size+2<=w1.heap.size:=by(try simp at s1)<;>omega
 have xs1:gs<w1.heap.size:=by omega
 have xr1:r<w1.heap.size:=by omega
 obtain⟨ya1,za1,xa1,yc1,zc1,xc1, -⟩:=c1.low 2 (w.heap.size) (fun x hx=>by have:=lt0.out _ hx;(try simp at this)<;>omega)
 clear s1
 have lt1:Hid (∀y,y∈r::S1->y<w1.heap.size/\(y<w.heap.size∨w.heap.size+2<=y)):=Qb (fun y hy=>⟨rb1.lt y hy,by
  rcases C7.1 hy with rfl|h
  ·omega
  ·rcases hS1 y h with h|h
   ·have:=lt0.out y (by simp [h]);omega
   ·(try simp at h)<;>omega⟩)
 have lo1:Hid (∀y,y∈S1->y∈S∨w.heap.size+2<=y):=Qb (fun y hy=>(hS1 y hy).imp id (fun h=>by(try simp at h)<;>omega))
 have D1:Hid (Qc (r::S) w w1):=Qb (K6 (S:=r::S) C6 c1 (fun x hx=>.inl hx))
 have RB1:=Qb rb1
 clear rb1 hS1 c1
 go_wp2_with fail
 go_region_law (first|(go_simp;go_at_call 13;(with_reducible refine(PS1.out _ (H9 D1.out)).mono ?_);rintro e w3 ⟨rfl,c3⟩;(have s3:=c3.size);(have v3:w1.heap.size+1<=w3.heap.size:=by(try simp at s3)<;>omega);(have xs3:gs<w3.heap.size:=by omega);(have xr3:r<w3.heap.size:=by omega);(obtain⟨ya3,za3,xa3,yc3,zc3,xc3, -⟩:=c3.low 2 (w.heap.size) (fun x hx=>by simp at hx));(have xq3:w1.heap.size<w3.heap.size:=by omega);(have D3:Hid (Qc (r::S) w w3):=Qb (H0 (H9 D1.out) c3));(have RB3:=Qb ((RB1.out.kz C6).kz c3));clear c3 s3;simp only [])|(go_simp;go_at_call 46;(with_reducible refine(LB1.out _ S1 (RB3.out.kz C6) (fun y hy=>(lo1.out y hy).imp id (fun h=>by omega)) (H9 D3.out)).mono ?_);rintro e w2 ⟨S2,rfl,rb2,hS2,c2⟩;(have s2:=c2.size);(have v2:w3.heap.size<=w2.heap.size:=by(try simp at s2)<;>omega);(have xs2:gs<w2.heap.size:=by omega);(have xr2:r<w2.heap.size:=by omega);(obtain⟨-, -,xa2,yc2,zc2,xc2, -⟩:=c2.low 2 (w.heap.size) (fun x hx=>by have:=lt1.out _ hx;(try simp at this)<;>omega));(have xq2:w1.heap.size<w2.heap.size:=by omega);(have lo2:Hid (∀y,y∈S2->y∈S∨w.heap.size+2<=y):=Qb (fun y hy=>by rcases hS2 y hy with h|h;(exact lo1.out y h);(exact .inr (by(try simp at h)<;>omega))));(have D2:Hid (Qc (r::S) w w2):=Qb (K6 (S:=r::S) (H9 D3.out) c2 (fun x hx=>by rcases C7.1 hx with rfl|h;(exact .inl (by simp));(exact(lo1.out x h).imp (fun h=>by simp [h]) (fun h=>by omega)))));(have RB2:=Qb rb2);clear rb2 hS2 c2 s2;simp only [])|fail)
 all_goals
  go_wp2_with fail
  refine bodyPost_ret (v:=.tuple #[.agg #[.int .i64 en.code,.int .i64 en.place,.int .i64 en.want,.int .i64 en.had],.bool b]) (by simp only [results,Tryz.results73];go_simp) rfl ?_
  have hgs:=hgs0.out
  exact⟨S2,rfl,RB2.out.keep (T:=[w.heap.size+1]) C6 (by have:=lt0.out r (by simp);simp;omega) (fun y hy=>by rcases lo2.out y hy with h|h;(have:=lt0.out y (by simp [h]);simp;omega);(simp;omega)),fun y hy=>(lo2.out y hy).imp id (fun h=>by omega),(H9 D2.out)⟩
theorem Qfl (r gs cap:Nat) (vi:Value) (l:List Ql) (t:Int) (S:List Nat) (w:World) (a:Qa) (uA uB:Value) (i:Nat) (place:Int) (h:RB w r gs cap vi l t S) (hi:i<l.length) (hs:a.slot=(i:Int)) (ho:a.op=9) (n c:Nat) (hn3:n<=3) (F:ZV->ZV×Xo) (hF:∀s,(F s).2.code=0->(F s).2=QJ) (hFt:∀s,s.taken<=(F s).1.taken/\(F s).1.taken<=s.taken+c) (P:List Ql->Prop) (hP0:P l) (hP:∀s,P s.slots->P (F s).1.slots) (hp0:0<=place) (hp1:place<=1000) (NU:∀W,Qc [] w W->Calls Tryz.prog 111 #[.pointer (some ⟨r,0,none⟩)] W (fun e w'=>e= .returned (.int .i64 (n:Int))/\RB w' r gs cap vi l (t+1) S/\Qc [r] W w')) (LA:∀W l' t' S',RB W r gs cap vi l' t' S'->P l'->t+1<=t'->t'<=t+1+2 * c->(∀y,y∈S'->y∈S∨w.heap.size<=y)->Qc (r::S) w W->Calls Tryz.prog 46 #[.pointer (some ⟨r,0,none⟩),uA,.int .i64 (place+1)] W (Vy r gs cap vi (F ⟨l',t'⟩).1.slots (F ⟨l',t'⟩).1.taken (F ⟨l',t'⟩).2 (decide ((F ⟨l',t'⟩).2.code=0)) S' W)):
  Calls Tryz.prog 73 #[.pointer (some ⟨r,0,none⟩),.agg #[.int .i64 a.op,.int .i64 a.slot,.int .i64 a.other,.string a.word,.string a.call.method,.string a.call.key,.int .i64 a.call.value,.string a.call.text,.int .i64 a.face,uA,uB],.int .i64 place] w (Vy r gs cap vi ((Zo n F ⟨l,t+1⟩).1.slots) ((Zo n F ⟨l,t+1⟩).1.taken) ((Zo n F ⟨l,t+1⟩).2) (decide ((Zo n F ⟨l,t+1⟩).2.code=0)) S w):=by
 obtain⟨A3,c3,A5,c5,q0,q1,q2,q3,q4,q5,q6,r4,r6,hfr,hgl⟩:=h.hs.slotAt h.hl (by rw [<-h.hl];exact hi) hi
 have z0:=hfr 0 (by omega);have z1:=hfr 1 (by omega);have z2:=hfr 2 (by omega);have z3:=hfr 3 (by omega);have z4:=hfr 4 (by omega);have z5:=hfr 5 (by omega);have z6:=hfr 6 (by omega)
 rw [L3] at z0
 have hrl:r<w.heap.size:=Qk h.c0
 have c0:=h.c0
 have lt0:=Qb h.lt
 have hgs0:=Qb h.gs.1
 have hcap1:=h.gs.2.1
 have hcap2:=h.gs.2.2
 unfold maxLen at hcap2
 have H:=Qb h
 have i3:i<3:=by rw [<-h.hl];exact hi
 have j0:(0:Int)<=(i:Int):=by omega
 have j1:(i:Int)<3:=by omega
 have g0:gs<w.heap.size+1:=by omega
 have g1:gs<w.heap.size+1+1:=by omega
 have g2:gs<w.heap.size+1+1+1:=by omega
 have r0:r<w.heap.size+1:=by omega
 have r1:r<w.heap.size+1+1:=by omega
 have r2:r<w.heap.size+1+1+1:=by omega
 have o1:(a.op==1)=false:=by rw [ho];rfl
 have o4:(a.op==4)=false:=by rw [ho];rfl
 have o5:(a.op==5)=false:=by rw [ho];rfl
 have o8:(a.op==8)=false:=by rw [ho];rfl
 have o9:(a.op==9)=true:=by rw [ho];rfl
 have o10:(a.op==10)=false:=by rw [ho];rfl
 have NU1:=Qb NU
 have LA1:=Qb LA
 have HP:=Qb hP
 have HFT:=Qb hFt
 have HF:=Qb hF
 have P0:=Qb hP0
 obtain⟨R,hR⟩:∃R,R=Zo n F ⟨l,t+1⟩:=⟨_,rfl⟩
 rw [<-hR]
 have HR:=Qb hR
 clear h ho hfr r4 r6 NU LA hP hFt hF hP0 hR
 rw [hs]
 clear hs
 go_enter Tryz.func73,Tryz.ntmps73
 go_wp2_with fail
 go_quiet (fail)
 go_wp2_with fail
 refine(NU1.out _ C6).mono ?_
 rintro e w1 ⟨rfl,rb1,c1⟩
 have s1:=c1.size
 have v1:w.heap.size+2<=w1.heap.size:=by(try simp at s1)<;>omega
 have xs1:gs<w1.heap.size:=by omega
 have xr1:r<w1.heap.size:=by omega
 have ya1:=c1.ce w.heap.size (hn:=by simp;omega)
 have za1:=c1.fe w.heap.size (hn:=by simp;omega)
 have xa1:w.heap.size<w1.heap.size:=by omega
 have yc1:=c1.ce (w.heap.size+1) (hn:=by simp;omega)
 have zc1:=c1.fe (w.heap.size+1) (hn:=by simp;omega)
 have xc1:w.heap.size+1<w1.heap.size:=by omega
 clear s1
 have D1:Hid (Qc (r::S) w w1):=Qb (K6 (S:=r::S) (j6 (S:=[]) C6 (by simp)) c1 (fun x hx=>.inl (by simp at hx ⊢;exact .inl hx)))
 have RB1:=Qb rb1
 clear rb1 c1
 go_wp2_with fail
 go_loopw [54] (fun i wr=>∃(k:Nat) (l':List Ql) (t':Int) (S':List Nat),k<=n/\i= .int .i64 k/\Hid (R=Zo (n-k) F ⟨l',t'⟩)/\Hid (RB wr r gs cap vi l' t' S')/\Hid (P l')/\Hid (t+1<=t'/\t'<=t+1+k * c)/\Hid (∀y,y∈S'->y∈S∨w.heap.size+2<=y)/\Hid (Qc (r::S) w wr)/\w1.heap.size<=wr.heap.size/\Hid (∀o,wr.cell? ⟨w.heap.size,o,none⟩=w1.cell? ⟨w.heap.size,o,none⟩)/\Hid (∀o,wr.cell? ⟨w.heap.size+1,o,none⟩=w1.cell? ⟨w.heap.size+1,o,none⟩)/\Hid (∀o,wr.frozen? ⟨w.heap.size+1,o,none⟩=w1.frozen? ⟨w.heap.size+1,o,none⟩)) (fun i _=>n-(intOf i).toNat)
 case atStart=>exact⟨0,l,t+1,S,I3 _,rfl,Qb HR.out,Qb (RB1.out.kz C6),P0,Qb ⟨by omega,by simp⟩,Qb (fun y hy=>.inl hy),Qb (H9 D1.out),by(first|exact F0 _|simp),Qb (fun o=>rfl),Qb (fun o=>rfl),Qb (fun o=>rfl)⟩
 case round=>
  obtain⟨k,l',t',S',hk,rfl,HE,HB,HPl,HT,HS,HD,hsz,ya,yc,zc⟩:=hrel
  have ya2:=ya.out;have yc2:=yc.out;have zc2:=zc.out
  clear ya yc zc
  have u0:w.heap.size<wr.heap.size:=by omega
  have u1:w.heap.size+1<wr.heap.size:=by omega
  by_cases hlt:k<n
  ·have hlt2:(k:Int)<(n:Int):=by omega
   have hk2:Hid (t'<=t+1+2 * c):=Qb (by
    have:=HT.out
    have h3:(k:Int) * (c:Int)<=2 * (c:Int):=Int.mul_le_mul_of_nonneg_right (by omega) (by omega)
    omega)
   have LA2:=Qb (fun W (h1:RB W r gs cap vi l' t' S') (h2:Qc (r::S) w W)=>LA1.out W l' t' S' h1 HPl.out HT.out.1 hk2.out (fun y hy=>(HS.out y hy).imp id (fun h=>by omega)) h2)
   obtain⟨q,hq⟩:∃q,q=F ⟨l',t'⟩:=⟨_,rfl⟩
   rw [<-hq] at LA2
   have HQ:=Qb hq
   clear hq
   have lt1:Hid (∀y,y∈r::S'->y<wr.heap.size/\(y<w.heap.size∨w.heap.size+2<=y)):=Qb (fun y hy=>⟨HB.out.lt y hy,by
    rcases C7.1 hy with rfl|h
    ·omega
    ·rcases HS.out y h with h|h
     ·have:=lt0.out y (by simp [h]);omega
     ·omega⟩)
   have hstep:Hid (Zo (n-k) F ⟨l',t'⟩=if q.2.code=0 then Zo (n-(k+1)) F q.1 else q):=Qb (by rw [show n-k=(n-(k+1))+1 by omega,Zo, <-HQ.out])
   by_cases hc:q.2.code=0
   ·have hd:decide (q.2.code=0)=true:=by simp [hc]
    rw [hd] at LA2
    have HC:=Qb hc
    clear hc hd
    go_wp2_with fail
    refine(LA2.out _ (HB.out.kz C6) (H9 HD.out)).mono ?_
    rintro e w2 ⟨S2,rfl,rb2,hS2,c2⟩
    have s2:=c2.size
    have v2:wr.heap.size<=w2.heap.size:=by(try simp at s2)<;>omega
    have xs2:gs<w2.heap.size:=by omega
    have xr2:r<w2.heap.size:=by omega
    obtain⟨ya2,za2,xa2,yc2,zc2,xc2, -⟩:=c2.low 2 (w.heap.size) (fun x hx=>by have:=lt1.out _ hx;(try simp at this)<;>omega)
    clear s2
    have lo2:Hid (∀y,y∈S2->y∈S∨w.heap.size+2<=y):=Qb (fun y hy=>by rcases hS2 y hy with h|h;(exact HS.out y h);(exact .inr (by(try simp at h)<;>omega)))
    have D2:Hid (Qc (r::S) w w2):=Qb (K6 (S:=r::S) (H9 HD.out) c2 (fun x hx=>by rcases C7.1 hx with rfl|h;(exact .inl (by simp));(exact(HS.out x h).imp (fun h=>by simp [h]) (fun h=>by omega))))
    have RB2:=Qb rb2
    clear rb2 hS2 c2
    go_wp2_with fail
    go_roundw
    case rel=>exact⟨k+1,q.1.slots,q.1.taken,S2,by omega,by go_num,Qb (by rw [HE.out,hstep.out,if_pos HC.out]),Qb (RB2.out.kz C6),Qb (by rw [HQ.out];exact HP.out _ HPl.out),Qb (by have h1:=HFT.out ⟨l',t'⟩;have h2:=HT.out;rw [<-HQ.out] at h1;rw [Int.natCast_add,Int.add_mul];simp only at h1;omega),lo2,Qb (H9 D2.out),by(try simp)<;>omega,Qb (fun o=>by go_simp),Qb (fun o=>by go_simp),Qb (fun o=>by go_simp)⟩
    case measure=>simp [intOf];omega
   ·have hd:decide (q.2.code=0)=false:=by simp [hc]
    rw [hd] at LA2
    have HC:=Qb hc
    clear hc hd
    go_wp2_with fail
    refine(LA2.out _ (HB.out.kz C6) (H9 HD.out)).mono ?_
    rintro e w2 ⟨S2,rfl,rb2,hS2,c2⟩
    have s2:=c2.size
    have v2:wr.heap.size<=w2.heap.size:=by(try simp at s2)<;>omega
    have xs2:gs<w2.heap.size:=by omega
    have xr2:r<w2.heap.size:=by omega
    obtain⟨ya2,za2,xa2,yc2,zc2,xc2, -⟩:=c2.low 2 (w.heap.size) (fun x hx=>by have:=lt1.out _ hx;(try simp at this)<;>omega)
    clear s2
    have lo2:Hid (∀y,y∈S2->y∈S∨w.heap.size+2<=y):=Qb (fun y hy=>by rcases hS2 y hy with h|h;(exact HS.out y h);(exact .inr (by(try simp at h)<;>omega)))
    have D2:Hid (Qc (r::S) w w2):=Qb (K6 (S:=r::S) (H9 HD.out) c2 (fun x hx=>by rcases C7.1 hx with rfl|h;(exact .inl (by simp));(exact(HS.out x h).imp (fun h=>by simp [h]) (fun h=>by omega))))
    have RB2:=Qb rb2
    clear rb2 hS2 c2
    go_wp2_with fail
    have hRq:R=q:=by rw [HE.out,hstep.out,if_neg HC.out]
    rw [hRq]
    have hd2:decide (q.2.code=0)=false:=decide_eq_false HC.out
    rw [hd2]
    refine bodyPost_ret (v:=.tuple #[.agg #[.int .i64 q.2.code,.int .i64 q.2.place,.int .i64 q.2.want,.int .i64 q.2.had],.bool false]) (by simp only [results,Tryz.results73];go_simp) rfl ?_
    have hgs:=hgs0.out
    exact⟨S2,rfl,RB2.out.keep (T:=[w.heap.size+1]) C6 (by have:=lt0.out r (by simp);simp;omega) (fun y hy=>by rcases lo2.out y hy with h|h;(have:=lt0.out y (by simp [h]);simp;omega);(simp;omega)),fun y hy=>(lo2.out y hy).imp id (fun h=>by omega),(H9 D2.out)⟩
  ·obtain rfl:k=n:=by omega
   have hRq:R=(⟨l',t'⟩,QJ):=by rw [HE.out,Nat.sub_self,Zo]
   go_wp2_with fail
   refine bodyPost_ret (v:=.tuple #[.agg #[.int .i64 0,.int .i64 0,.int .i64 0,.int .i64 0],.bool true]) (by simp only [results,Tryz.results73];go_simp) rfl ?_
   rw [hRq]
   have hgs:=hgs0.out
   exact⟨S',rfl,HB.out.keep (T:=[w.heap.size+1]) C6 (by have:=lt0.out r (by simp);simp;omega) (fun y hy=>by rcases HS.out y hy with h|h;(have:=lt0.out y (by simp [h]);simp;omega);(simp;omega)),fun y hy=>(HS.out y hy).imp id (fun h=>by omega),(H9 HD.out)⟩
theorem Qfi (r gs cap:Nat) (vi:Value) (l:List Ql) (t:Int) (S:List Nat) (w:World) (a:Qa) (uA uB:Value) (i:Nat) (place:Int) (h:RB w r gs cap vi l t S) (hi:i<l.length) (hs:a.slot=(i:Int)) (ho:a.op=4) (j:Nat) (hj:j<l.length) (hot:a.other=(j:Int)) (hsm:UF l[j]):
  Calls Tryz.prog 73 #[.pointer (some ⟨r,0,none⟩),.agg #[.int .i64 a.op,.int .i64 a.slot,.int .i64 a.other,.string a.word,.string a.call.method,.string a.call.key,.int .i64 a.call.value,.string a.call.text,.int .i64 a.face,uA,uB],.int .i64 place] w (Vy r gs cap vi (l.set i l[j]) (t) (QJ) (true) S w):=by
 obtain⟨A3,c3,A5,c5,q0,q1,q2,q3,q4,q5,q6,r4,r6,hfr,hgl⟩:=h.hs.slotAt h.hl (by rw [<-h.hl];exact hi) hi
 have z0:=hfr 0 (by omega);have z1:=hfr 1 (by omega);have z2:=hfr 2 (by omega);have z3:=hfr 3 (by omega);have z4:=hfr 4 (by omega);have z5:=hfr 5 (by omega);have z6:=hfr 6 (by omega)
 rw [L3] at z0
 have hrl:r<w.heap.size:=Qk h.c0
 have c0:=h.c0
 have lt0:=Qb h.lt
 have hgs0:=Qb h.gs.1
 have hcap1:=h.gs.2.1
 have hcap2:=h.gs.2.2
 unfold maxLen at hcap2
 have H:=Qb h
 have i3:i<3:=by rw [<-h.hl];exact hi
 have j0:(0:Int)<=(i:Int):=by omega
 have j1:(i:Int)<3:=by omega
 have g0:gs<w.heap.size+1:=by omega
 have g1:gs<w.heap.size+1+1:=by omega
 have g2:gs<w.heap.size+1+1+1:=by omega
 have r0:r<w.heap.size+1:=by omega
 have r1:r<w.heap.size+1+1:=by omega
 have r2:r<w.heap.size+1+1+1:=by omega
 have o1:(a.op==1)=false:=by rw [ho];rfl
 have o4:(a.op==4)=true:=by rw [ho];rfl
 have o5:(a.op==5)=false:=by rw [ho];rfl
 have o8:(a.op==8)=false:=by rw [ho];rfl
 have o9:(a.op==9)=false:=by rw [ho];rfl
 have o10:(a.op==10)=false:=by rw [ho];rfl
 obtain⟨sm1,sm2,sm3⟩:=hsm
 obtain⟨B3,b3,B5,b5,p0,p1,p2,p3,p4,p5,p6,s4,s6,_,_⟩:=h.hs.slotAt h.hl (by rw [<-h.hl];exact hj) hj
 have j3:j<3:=by rw [<-h.hl];exact hj
 have k0:(0:Int)<=(j:Int):=by omega
 have k1:(j:Int)<3:=by omega
 obtain⟨sl,hsl⟩:∃sl,sl=l[j]:=⟨_,rfl⟩
 rw [<-hsl] at p0 p1 p2 p3 p4 p5 p6 s4 s6 sm1 sm2 sm3 ⊢
 have CP:=Qb (fun W (hW:Qc [] w W)=>VP sl.part _ _ w.heap.size W sm2 sm1 (s4.cz hW (F0 _)) (s6.cz hW (F0 _)) hW.size)
 rw [hot]
 clear h ho hfr r4 r6 s4 s6 sm1 sm2 sm3 hot hsl
 rw [hs]
 clear hs
 go_enter Tryz.func73,Tryz.ntmps73
 go_wp2_with fail
 go_quiet (fail)
 go_wp2_with fail
 refine WL (S:=(fun W=>W.cell? ⟨r,0,none⟩=some (.slice (some ⟨gs,0,none⟩) 3 cap)/\W.cell? ⟨w.heap.size,2,none⟩=some (.int .i64 (j:Int))/\W.cell? ⟨gs,j * 7,none⟩=some (.bool sl.full)/\W.cell? ⟨gs,j * 7+1,none⟩=some (.string sl.part.core.kind)/\W.cell? ⟨gs,j * 7+2,none⟩=some (.bool sl.part.core.on)/\W.cell? ⟨gs,j * 7+3,none⟩=some (.bool sl.part.core.broken)/\W.cell? ⟨gs,j * 7+4,none⟩=some (.slice B3 sl.part.core.cells.length b3)/\W.cell? ⟨gs,j * 7+5,none⟩=some (.int .i64 sl.part.core.count)/\W.cell? ⟨gs,j * 7+6,none⟩=some (.slice B5 sl.part.layers.length b5))) (by kernel_rfl) ?_
 refine QI.with_ ?_ (fun hS0=>?_)
 ·(refine⟨?_,?_,?_,?_,?_,?_,?_,?_,?_⟩)<;>go_simp
 refine G0 0 21 hS0 (h:=?_)
 refine G0 1 2 hS0 (h:=?_)
 refine G0 2 3 hS0 (h:=?_)
 refine G0 3 4 hS0 (h:=?_)
 refine G0 4 7 hS0 (h:=?_)
 refine G0 5 6 hS0 (h:=?_)
 refine G0 6 7 hS0 (h:=?_)
 refine G0 7 8 hS0 (h:=?_)
 refine G0 8 9 hS0 (h:=?_)
 refine G0 9 20 hS0 (h:=?_)
 refine G0 10 11 hS0 (h:=?_)
 refine G0 11 12 hS0 (h:=?_)
 refine G0 12 13 hS0 (h:=?_)
 refine G0 13 16 hS0 (h:=?_)
 refine G0 14 15 hS0 (h:=?_)
 refine G0 15 16 hS0 (h:=?_)
 refine G0 16 17 hS0 (h:=?_)
 refine G0 17 18 hS0 (h:=?_)
 refine G0 18 19 hS0 (h:=?_)
 refine Q5 19 (h:=fun K hK=>?_)
 go_simp
 go_at_call 72
 refine(CP.out _ C6).mono ?_
 rintro e w1 ⟨E3,f3,E5,f5,rfl,n1⟩
 obtain⟨T3,T5,own1,lo30,lo50,c1⟩:=n1.own
 have s1:=c1.size
 have v1:w.heap.size+2<=w1.heap.size:=by(try simp at s1)<;>omega
 have ys1:=c1.ce gs
 have zs1:=c1.fe gs
 have xs1:gs<w1.heap.size:=by omega
 have xr1:r<w1.heap.size:=by omega
 obtain⟨ya1,za1,xa1,yc1,zc1,xc1, -⟩:=c1.low 2 (w.heap.size) (fun x hx=>by simp at hx)
 have m0:=(c1.cell (p:=⟨r,0,none⟩) (by first|omega|(simp;done)|(simp;omega)) (by simp)).trans hS0.1
 have m1:=(c1.cell (p:=⟨w.heap.size,2,none⟩) (by first|omega|(simp;done)|(simp;omega)) (by simp)).trans hS0.2.1
 have m2:=(c1.cell (p:=⟨gs,j * 7,none⟩) (by first|omega|(simp;done)|(simp;omega)) (by simp)).trans hS0.2.2.1
 have m3:=(c1.cell (p:=⟨gs,j * 7+1,none⟩) (by first|omega|(simp;done)|(simp;omega)) (by simp)).trans hS0.2.2.2.1
 have m4:=(c1.cell (p:=⟨gs,j * 7+2,none⟩) (by first|omega|(simp;done)|(simp;omega)) (by simp)).trans hS0.2.2.2.2.1
 have m5:=(c1.cell (p:=⟨gs,j * 7+3,none⟩) (by first|omega|(simp;done)|(simp;omega)) (by simp)).trans hS0.2.2.2.2.2.1
 have m6:=(c1.cell (p:=⟨gs,j * 7+4,none⟩) (by first|omega|(simp;done)|(simp;omega)) (by simp)).trans hS0.2.2.2.2.2.2.1
 have m7:=(c1.cell (p:=⟨gs,j * 7+5,none⟩) (by first|omega|(simp;done)|(simp;omega)) (by simp)).trans hS0.2.2.2.2.2.2.2.1
 have m8:=(c1.cell (p:=⟨gs,j * 7+6,none⟩) (by first|omega|(simp;done)|(simp;omega)) (by simp)).trans hS0.2.2.2.2.2.2.2.2
 have lo1:Hid (∀y,y∈T3++T5->w.heap.size+2<=y/\y<w1.heap.size):=Qb (fun y hy=>by rcases F4.1 hy with h|h;(exact⟨by have:=lo30 y h;(try simp at this)<;>omega,own1.h3.lt y h⟩);(exact⟨by have:=lo50 y h;(try simp at this)<;>omega,own1.h5.lt y h⟩))
 have D1:Hid (Qc [] w w1):=Qb (H0 C6 c1)
 have RB1:=Qb ((H.out.kz C6).kz c1)
 have OW1:=Qb own1
 clear own1 lo30 lo50 n1 c1 s1
 simp only []
 refine Wk hK (⟨m0,m1,m2,m3,m4,m5,m6,m7,m8⟩) (fun hS1=>?_)
 clear hK K
 refine G0 20 21 hS1 (h:=?_)
 refine G0 21 22 hS1 (h:=?_)
 refine Q5 22 (h:=fun K hK=>?_)
 go_simp
 refine jK hK ?_
 clear hK K
 refine QI.done (by kernel_rfl) ?_ _
 go_wp2_with fail
 refine bodyPost_ret (v:=.tuple #[.agg #[.int .i64 0,.int .i64 0,.int .i64 0,.int .i64 0],.bool true]) (by simp only [results,Tryz.results73];go_simp) rfl ?_
 have hgs:=hgs0.out
 have hx:Zm w1 (Zj sl) [.bool sl.full,.string sl.part.core.kind,.bool sl.part.core.on,.bool sl.part.core.broken,.slice E3 sl.part.core.cells.length f3,.int .i64 sl.part.core.count,.slice E5 sl.part.layers.length f5] (T3++T5):=by
  unfold Zj;rw [Gu]
  exact I2 (I2 (I2 (I2 (Zm.append (Zm.one OW1.out.h3) (I2 (x:=.int .i64 sl.part.core.count) (Zm.one OW1.out.h5)) OW1.out.ds))))
 obtain⟨S',rb',hS',_,cg⟩:=RB1.out.put i3 hx (fun y hy hy2=>by have:=lo1.out y hy;have:=lt0.out y hy2;omega)
 simp only [Xc,O4,Nat.reduceAdd] at rb' cg
 exact⟨S',rfl,rb'.keep (T:=[w.heap.size+1]) C6 (by have:=lt0.out r (by simp);simp;omega) (fun y hy=>by rcases hS' y hy with h|h;(have:=lt0.out y (by simp [h]);simp;omega);(have:=lo1.out y h;simp;omega)),fun y hy=>(hS' y hy).imp id (fun h=>by have:=lo1.out y h;omega),(H9 (D1.out.mono (by simp):Qc (r::S) w w1))⟩
end Go.Proofs.YtjeadhmkghnkkaaGreatDoor
