/- The program's run in memory. Conditions: as stated. -/
import Derived.Test.YtjeadhmkghnkkaaGreatDoorCallU
set_option maxRecDepth 100000
set_option maxHeartbeats 8000000
namespace Go.Proofs.YtjeadhmkghnkkaaGreatDoor
open Go.RowKit

structure RB (w:World) (r gs cap:Nat) (vi:Value) (l:List Ql) (t:Int) (S:List Nat):Prop where
 c0:w.cell? ⟨r,0,none⟩=some (.slice (some ⟨gs,0,none⟩) 3 cap)
 c1:w.cell? ⟨r,1,none⟩=some vi
 c2:w.cell? ⟨r,2,none⟩=some (.int .i64 t)
 f2:w.frozen? ⟨r,2,none⟩=false
 hs:Yp w (slots l) (.slice (some ⟨gs,0,none⟩) 3 cap) S
 hl:l.length=3
 hr:r∉S
theorem RB.lt {w:World} {r gs cap:Nat} {vi:Value} {l:List Ql} {t:Int} {S:List Nat} (h:RB w r gs cap vi l t S):∀y,y∈r::S->y<w.heap.size:=fun y hy=>by
 rcases C7.1 hy with rfl|hy
 ·exact Qk h.c0
 ·exact h.hs.lt y hy
theorem RB.keep {w w':World} {r gs cap:Nat} {vi:Value} {l:List Ql} {t:Int} {S T:List Nat} (h:RB w r gs cap vi l t S) (hc:Qc T w w') (hr:r∉T) (hS:∀y,y∈S->y∉T):RB w' r gs cap vi l t S:=by
 have hl:=Qk h.c0
 have e:=fun o=>hc.cell (p:=⟨r,o,none⟩) hl hr
 exact⟨(e 0).trans h.c0,(e 1).trans h.c1,(e 2).trans h.c2,(hc.frozen (p:=⟨r,2,none⟩) hl hr).trans h.f2,h.hs.keep hc hS,h.hl,h.hr⟩
theorem RB.kz {w w':World} {r gs cap:Nat} {vi:Value} {l:List Ql} {t:Int} {S:List Nat} (h:RB w r gs cap vi l t S) (hc:Qc [] w w'):RB w' r gs cap vi l t S:=h.keep hc (by simp) (by simp)
theorem RB.gs {w:World} {r gs cap:Nat} {vi:Value} {l:List Ql} {t:Int} {S:List Nat} (h:RB w r gs cap vi l t S):gs∈S/\3<=cap/\cap<=maxLen:=by
 have hh:=h.hs
 unfold slots at hh
 rcases hh.cases_ with ⟨e,_⟩|⟨g,c,S',e,h1,h2,h3,_⟩
 ·simp at e
 ·simp only [Value.slice.injEq,O7,Addr.mk.injEq,and_true] at e
  obtain⟨e1,_,e2⟩:=e
  subst e1 e2
  rw [h.hl] at h1
  exact⟨by rw [h3];simp,h1,h2⟩
theorem RB.put {w:World} {r gs cap:Nat} {vi:Value} {l:List Ql} {t:Int} {S S1:List Nat} (h:RB w r gs cap vi l t S) {i:Nat} (hi:i<3) {x:Ql} {us:List Value} (hx:Zm w (Zj x) us S1) (hd:∀y,y∈S1->y∉r::S):
  ∃S',RB (Xc w gs (i * 7) us) r gs cap vi (l.set i x) t S'/\(∀y,y∈S'->y∈S∨y∈S1)/\gs∈S/\Qc [gs] w (Xc w gs (i * 7) us):=by
 obtain⟨S',h1,h2,h3,h4⟩:=h.hs.slotSet h.hl hi hx (fun y hy hS=>hd y hy (by simp [hS]))
 have hl:=Qk h.c0
 have hne:r∉ [gs]:=by simp;rintro rfl;exact h.hr h3
 have e:=fun o=>h4.cell (p:=⟨r,o,none⟩) hl hne
 exact⟨S',⟨(e 0).trans h.c0,(e 1).trans h.c1,(e 2).trans h.c2,(h4.frozen (p:=⟨r,2,none⟩) hl hne).trans h.f2,h1,by rw [Q1];exact h.hl,fun hr=>(h2 r hr).elim h.hr (fun h=>hd r h (by simp))⟩,h2,h3,h4⟩
theorem RB.putPart {w:World} {r gs cap:Nat} {vi:Value} {l:List Ql} {t:Int} {S S1:List Nat} (h:RB w r gs cap vi l t S) {i:Nat} (hi:i<l.length) {q:Qe} {us:List Value} (hx:Zm w (WH q) us S1) (hd:∀y,y∈S1->y∉r::S):
  ∃S',RB (Xc w gs (i * 7+1) us) r gs cap vi (l.set i ⟨l[i].full,q⟩) t S'/\(∀y,y∈S'->y∈S∨y∈S1)/\gs∈S/\Qc [gs] w (Xc w gs (i * 7+1) us):=by
 obtain⟨S',h1,h2,h3,h4⟩:=h.hs.slotPart h.hl (by rw [<-h.hl];exact hi) hx (fun y hy hS=>hd y hy (by simp [hS])) hi
 have hl:=Qk h.c0
 have hne:r∉ [gs]:=by simp;rintro rfl;exact h.hr h3
 have e:=fun o=>h4.cell (p:=⟨r,o,none⟩) hl hne
 exact⟨S',⟨(e 0).trans h.c0,(e 1).trans h.c1,(e 2).trans h.c2,(h4.frozen (p:=⟨r,2,none⟩) hl hne).trans h.f2,h1,by rw [Q1];exact h.hl,fun hr=>(h2 r hr).elim h.hr (fun h=>hd r h (by simp))⟩,h2,h3,h4⟩
theorem RB.took {w:World} {r gs cap:Nat} {vi:Value} {l:List Ql} {t:Int} {S:List Nat} (h:RB w r gs cap vi l t S) (u:Int):RB (w.setCell ⟨r,2,none⟩ (.int .i64 u)) r gs cap vi l u S:=by
 have hc:Qc [r] w (w.setCell ⟨r,2,none⟩ (.int .i64 u)):=(B0 [r] w).setCell (.inl (by simp)) _
 obtain⟨c0,c1,c2,f2,hs,hl,hr⟩:=h
 exact⟨by go_simp,by go_simp,by go_simp,by rw [World.frozen?_setCell];exact f2,hs.keep hc (fun x hx hx2=>by simp at hx2;subst hx2;exact hr hx),hl,hr⟩
theorem Qgh (n:Int):n.tmod 4=n % 4∨(n.tmod 4=n % 4-4/\n % 4≠0):=by
 rcases Int.le_total 0 n with h|h
 ·exact .inl (Int.tmod_eq_emod_of_nonneg h)
 ·obtain⟨m,rfl⟩:∃m:Int,n= -m:=⟨-n,by omega⟩
  rw [Int.neg_tmod,Int.tmod_eq_emod_of_nonneg (by omega)]
  omega
theorem QgT (n:Int):(n.tmod 4+4).tmod 4=n % 4:=by
 have h:=Qgh n
 rw [Int.tmod_eq_emod_of_nonneg (by omega)]
 omega
theorem Qcl (n:Int):IntKind.i64.wrap (n.tmod 4+4)=n.tmod 4+4:=by
 have h:=Qgh n
 exact Zd (by omega) (by omega)
theorem Qcw {a b:Int} (h:a=b):Ending.returned (.int .i64 a)= .returned (.int .i64 b):=by rw [h]
theorem QeG {input:List Int} {t:Nat} (h:t<input.length):Wn input t=input[t] % 4:=by
 unfold Wn
 rw [Int.toNat_natCast,F8 h]
theorem Qdk {input:List Int} {t:Nat} (h:input.length<=t):Wn input t=0:=by
 unfold Wn
 rw [Int.toNat_natCast,L2 h]
theorem QbY (r gs cap:Nat) (vi:Value) (input:List Int) (l:List Ql) (t:Int) (S:List Nat) (w:World) (B:Nat) (h:RB w r gs cap vi l t S) (hi:Rd w B (xE input) vi) (ht0:0<=t) (ht1:t<=1000000):
  Calls Tryz.prog 111 #[.pointer (some ⟨r,0,none⟩)] w (fun e w'=>e= .returned (.int .i64 (Wn input t))/\RB w' r gs cap vi l (t+1) S/\Qc [r] w w'):=by
 have hlt:=Qk h.c0
 obtain⟨A,cv,rfl,h0,h1,hrow⟩:=zl hi
 unfold maxLen at h1
 obtain⟨c0,c1,c2,f2,_,_,_⟩:=id h
 obtain⟨n,rfl⟩:∃n:Nat,t=n:=⟨t.toNat,by omega⟩
 have H:=Qb h
 clear h hi
 go_enter Tryz.func111,Tryz.ntmps111
 go_wp2_with fail
 go_quiet (fail)
 by_cases hlt2:n<input.length
 ·have hi1:(n:Int)<(input.length:Int):=by omega
  have hi0:(0:Int)<=(n:Int):=by omega
  obtain⟨b,off,rfl,hb,q⟩:=yi hrow n hlt2
  have W4:=Qcl input[n]
  have HT:=Qb (QeG hlt2)
  go_wp2_with fail
  go_quiet (fail)
  go_wp2_with fail
  go_ret
  exact⟨Qcw ((QgT _).trans HT.out.symm),(H.out.kz ((B0 [] w).drewN _)).took _,((B0 [r] w).drewN _).setCell (.inl (by simp)) _⟩
 ·have hi1:decide (n<input.length)=false:=decide_eq_false hlt2
  have HT:=Qb (Qdk (input:=input) (t:=n) (by omega))
  go_wp2_with fail
  go_ret
  exact⟨Qcw HT.out.symm,(H.out.kz ((B0 [] w).drewN _)).took _,((B0 [r] w).drewN _).setCell (.inl (by simp)) _⟩
def Vy (r gs cap:Nat) (vi:Value) (l:List Ql) (t:Int) (en:Xo) (b:Bool) (S:List Nat) (w:World) (e:Ending) (w':World):Prop:=
 ∃S',e= .returned (.tuple #[.agg #[.int .i64 en.code,.int .i64 en.place,.int .i64 en.want,.int .i64 en.had],.bool b])/\RB w' r gs cap vi l t S'/\(∀y,y∈S'->y∈S∨w.heap.size<=y)/\Qc (r::S) w w'
theorem Yd {p:Qe} (h:Qn p):p.layers.length<=1048576/\p.core.cells.length<=1048576/\∀c∈p.core.cells,c.key.size<=1048576:=by
 obtain⟨⟨_,_,hcc,_⟩,h2,_⟩:=h
 refine⟨by omega,by have:=hcc.1;omega,fun c hc=>?_⟩
 have:=((Kf _).1 hcc).2.1 c hc
 have:=this.1.2.1
 omega
theorem vH {l:List Ql} {i:Nat} (hi:i<l.length) (hf:l[i].full=true):l.set i ⟨true,l[i].part⟩=l:=by
 have:(⟨true,l[i].part⟩:Ql)=l[i]:=by rw [<-hf]
 rw [this,List.set_getElem_self]
theorem xr (r gs cap:Nat) (vi:Value) (l:List Ql) (t:Int) (S:List Nat) (w:World) (a:Qa) (uA uB:Value) (i:Nat) (place:Int) (h:RB w r gs cap vi l t S) (hi:i<l.length) (hf:l[i].full=true) (hp:Qn l[i].part) (ho:a.op=3):
  Calls Tryz.prog 112 #[.pointer (some ⟨r,0,none⟩),.pointer (some ⟨gs,i * 7,none⟩),.agg #[.int .i64 a.op,.int .i64 a.slot,.int .i64 a.other,.string a.word,.string a.call.method,.string a.call.key,.int .i64 a.call.value,.string a.call.text,.int .i64 a.face,uA,uB],.int .i64 place] w (Vy r gs cap vi (l.set i ⟨true,(Yn l[i].part).1⟩) t QJ true S w):=by
 obtain⟨A3,c3,A5,c5,q0,q1,q2,q3,q4,q5,q6,r4,r6,hfr,hgl⟩:=h.hs.slotAt h.hl (by rw [<-h.hl];exact hi) hi
 obtain⟨sm1,sm2,sm3⟩:=Yd hp
 have hsf:∀q:Qe,(⟨l[i].full,q⟩:Ql)=⟨true,q⟩:=fun q=>by rw [hf]
 rw [hf] at q0
 obtain⟨p,hpp⟩:∃p,p=l[i].part:=⟨_,rfl⟩
 rw [<-hpp] at q1 q2 q3 q4 q5 q6 r4 r6 sm1 sm2 sm3 hp
 try rw [<-hpp]
 have z0:=hfr 0 (by omega);have z1:=hfr 1 (by omega);have z2:=hfr 2 (by omega);have z3:=hfr 3 (by omega);have z4:=hfr 4 (by omega);have z5:=hfr 5 (by omega);have z6:=hfr 6 (by omega)
 rw [L3] at z0
 have hrl:=Qk h.c0
 have lt0:=Qb h.lt
 have hgs0:=Qb h.gs.1
 have H:=Qb h
 have g0:gs<w.heap.size+1:=by omega
 have g1:gs<w.heap.size+1+1:=by omega
 have g2:gs<w.heap.size+1+1+1:=by omega
 have o2:(a.op==2)=false:=by rw [ho];rfl
 have o3:(a.op==3)=true:=by rw [ho];rfl
 have o6:(a.op==6)=false:=by rw [ho];rfl
 have o7:(a.op==7)=false:=by rw [ho];rfl
 have UN:=Qb (fun W (hW:Qc [] w W)=>xD p _ _ w.heap.size W (r4.cz hW (F0 _)) (r6.cz hW (F0 _)) hW.size sm1 sm2 sm3)
 obtain⟨q,hq⟩:∃q,q=Yn p:=⟨_,rfl⟩
 rw [<-hq] at UN ⊢
 have HI:=Qb hi
 have HSF:=Qb hsf
 clear h hf hpp hfr ho hq hp r4 r6 sm1 sm2 sm3 hsf
 go_enter Tryz.func112,Tryz.ntmps112
 go_wp2_with fail
 refine(UN.out _ C6).mono ?_
 rintro e w1 ⟨B3,b3,B5,b5,rfl,nl⟩
 obtain⟨S1,hl10,lo10,c1⟩:=nl
 have s1:=c1.size
 have v1:w.heap.size+3<=w1.heap.size:=by(try simp at s1)<;>omega
 have ys1:=c1.ce gs
 have zs1:=c1.fe gs
 have xs1:gs<w1.heap.size:=by omega
 obtain⟨ya1,za1,xa1,yc1,zc1,xc1,yd1,zd1,xd1, -⟩:=c1.low 3 (w.heap.size) (fun x hx=>by simp at hx)
 clear s1
 have D1:Hid (Qc [] w w1):=Qb (H0 C6 c1)
 have lo1:Hid (∀y,y∈S1->w.heap.size+3<=y/\y<w1.heap.size):=Qb (fun y hy=>⟨by have:=lo10 y hy;(try simp at this)<;>omega,hl10.lt y hy⟩)
 have hl1:=Qb hl10
 have RB1:=Qb ((H.out.kz C6).kz c1)
 clear hl10 lo10 c1
 go_wp2_with fail
 refine bodyPost_ret (v:=.tuple #[.agg #[.int .i64 0,.int .i64 0,.int .i64 0,.int .i64 0],.bool true]) (by simp only [results,Tryz.results112];go_simp) rfl ?_
 have hgs:=hgs0.out
 obtain⟨S',rb',hS',_,cg⟩:=RB1.out.putPart HI.out hl1.out (fun y hy hy2=>by have:=lo1.out y hy;have:=lt0.out y hy2;omega)
 rw [HSF.out] at rb'
 simp only [Xc,O4,Nat.reduceAdd] at rb' cg
 exact⟨S',rfl,rb'.keep (T:=[w.heap.size+1]) C6 (by have:=lt0.out r (by simp);simp;omega) (fun y hy=>by rcases hS' y hy with h|h;(have:=lt0.out y (by simp [h]);simp;omega);(have:=lo1.out y h;simp;omega)),fun y hy=>(hS' y hy).imp id (fun h=>by have:=lo1.out y h;omega),(H9 (D1.out.mono (by simp):Qc (r::S) w w1))⟩
theorem k8 (r gs cap:Nat) (vi:Value) (l:List Ql) (t:Int) (S:List Nat) (w:World) (a:Qa) (uA uB:Value) (i:Nat) (place:Int) (h:RB w r gs cap vi l t S) (hi:i<l.length) (hf:l[i].full=true) (hp:Qn l[i].part) (ho:a.op=6) (hof:ZL (Qq l[i].part l[i].part.layers.length) a.face):
  Calls Tryz.prog 112 #[.pointer (some ⟨r,0,none⟩),.pointer (some ⟨gs,i * 7,none⟩),.agg #[.int .i64 a.op,.int .i64 a.slot,.int .i64 a.other,.string a.word,.string a.call.method,.string a.call.key,.int .i64 a.call.value,.string a.call.text,.int .i64 a.face,uA,uB],.int .i64 place] w (Vy r gs cap vi (l) t QJ true S w):=by
 obtain⟨A3,c3,A5,c5,q0,q1,q2,q3,q4,q5,q6,r4,r6,hfr,hgl⟩:=h.hs.slotAt h.hl (by rw [<-h.hl];exact hi) hi
 obtain⟨sm1,sm2,sm3⟩:=Yd hp
 have hsf:∀q:Qe,(⟨l[i].full,q⟩:Ql)=⟨true,q⟩:=fun q=>by rw [hf]
 rw [hf] at q0
 obtain⟨p,hpp⟩:∃p,p=l[i].part:=⟨_,rfl⟩
 rw [<-hpp] at q1 q2 q3 q4 q5 q6 r4 r6 sm1 sm2 sm3 hp hof
 try rw [<-hpp]
 have z0:=hfr 0 (by omega);have z1:=hfr 1 (by omega);have z2:=hfr 2 (by omega);have z3:=hfr 3 (by omega);have z4:=hfr 4 (by omega);have z5:=hfr 5 (by omega);have z6:=hfr 6 (by omega)
 rw [L3] at z0
 have hrl:=Qk h.c0
 have lt0:=Qb h.lt
 have hgs0:=Qb h.gs.1
 have H:=Qb h
 have g0:gs<w.heap.size+1:=by omega
 have g1:gs<w.heap.size+1+1:=by omega
 have g2:gs<w.heap.size+1+1+1:=by omega
 have o2:(a.op==2)=false:=by rw [ho];rfl
 have o3:(a.op==3)=false:=by rw [ho];rfl
 have o6:(a.op==6)=true:=by rw [ho];rfl
 have o7:(a.op==7)=false:=by rw [ho];rfl
 have FC:=Qb (fun W (hW:Qc [] w W)=>Wl p (.slice A3 p.core.cells.length c3) _ w.heap.size W (r6.cz hW (F0 _)) hW.size)
 have OF:=Qb (fun W=>(Xp (Qq p p.layers.length) a.face W).mono (QZ.pos hof))
 clear h hi hf hpp hfr ho hp r4 r6 sm1 sm2 sm3 hsf hof
 go_enter Tryz.func112,Tryz.ntmps112
 go_wp2_with fail
 refine(FC.out _ C6).mono ?_
 rintro e w1 ⟨rfl,c1⟩
 have s1:=c1.size
 have v1:w.heap.size+3<=w1.heap.size:=by(try simp at s1)<;>omega
 have ys1:=c1.ce gs
 have zs1:=c1.fe gs
 have xs1:gs<w1.heap.size:=by omega
 obtain⟨ya1,za1,xa1,yc1,zc1,xc1,yd1,zd1,xd1, -⟩:=c1.low 3 (w.heap.size) (fun x hx=>by simp at hx)
 clear s1
 have D1:Hid (Qc [] w w1):=Qb (H0 C6 c1)
 have RB1:=Qb ((H.out.kz C6).kz c1)
 clear c1
 go_wp2_with fail
 refine(OF.out _).mono ?_
 rintro e w1b ⟨rfl,hw1b⟩
 obtain rfl:=hw1b.symm
 go_wp2_with fail
 refine bodyPost_ret (v:=.tuple #[.agg #[.int .i64 0,.int .i64 0,.int .i64 0,.int .i64 0],.bool true]) (by simp only [results,Tryz.results112];go_simp) rfl ?_
 have hgs:=hgs0.out
 exact⟨S,rfl,RB1.out.keep (T:=[w.heap.size+1]) C6 (by have:=lt0.out r (by simp);simp;omega) (fun y hy=>by have:=lt0.out y (by simp [hy]);simp;omega),fun y hy=>.inl hy,(H9 (D1.out.mono (by simp):Qc (r::S) w w1))⟩
theorem vx (r gs cap:Nat) (vi:Value) (l:List Ql) (t:Int) (S:List Nat) (w:World) (a:Qa) (uA uB:Value) (i:Nat) (place:Int) (h:RB w r gs cap vi l t S) (hi:i<l.length) (hf:l[i].full=true) (hp:Qn l[i].part) (ho:a.op=6) (hof:¬ZL (Qq l[i].part l[i].part.layers.length) a.face):
  Calls Tryz.prog 112 #[.pointer (some ⟨r,0,none⟩),.pointer (some ⟨gs,i * 7,none⟩),.agg #[.int .i64 a.op,.int .i64 a.slot,.int .i64 a.other,.string a.word,.string a.call.method,.string a.call.key,.int .i64 a.call.value,.string a.call.text,.int .i64 a.face,uA,uB],.int .i64 place] w (Vy r gs cap vi (l) t ⟨1,place,a.face,Qq l[i].part l[i].part.layers.length⟩ false S w):=by
 obtain⟨A3,c3,A5,c5,q0,q1,q2,q3,q4,q5,q6,r4,r6,hfr,hgl⟩:=h.hs.slotAt h.hl (by rw [<-h.hl];exact hi) hi
 obtain⟨sm1,sm2,sm3⟩:=Yd hp
 have hsf:∀q:Qe,(⟨l[i].full,q⟩:Ql)=⟨true,q⟩:=fun q=>by rw [hf]
 rw [hf] at q0
 obtain⟨p,hpp⟩:∃p,p=l[i].part:=⟨_,rfl⟩
 rw [<-hpp] at q1 q2 q3 q4 q5 q6 r4 r6 sm1 sm2 sm3 hp hof
 try rw [<-hpp]
 have z0:=hfr 0 (by omega);have z1:=hfr 1 (by omega);have z2:=hfr 2 (by omega);have z3:=hfr 3 (by omega);have z4:=hfr 4 (by omega);have z5:=hfr 5 (by omega);have z6:=hfr 6 (by omega)
 rw [L3] at z0
 have hrl:=Qk h.c0
 have lt0:=Qb h.lt
 have hgs0:=Qb h.gs.1
 have H:=Qb h
 have g0:gs<w.heap.size+1:=by omega
 have g1:gs<w.heap.size+1+1:=by omega
 have g2:gs<w.heap.size+1+1+1:=by omega
 have o2:(a.op==2)=false:=by rw [ho];rfl
 have o3:(a.op==3)=false:=by rw [ho];rfl
 have o6:(a.op==6)=true:=by rw [ho];rfl
 have o7:(a.op==7)=false:=by rw [ho];rfl
 have FC:=Qb (fun W (hW:Qc [] w W)=>Wl p (.slice A3 p.core.cells.length c3) _ w.heap.size W (r6.cz hW (F0 _)) hW.size)
 have OF:=Qb (fun W=>(Xp (Qq p p.layers.length) a.face W).mono (QZ.neg hof))
 clear h hi hf hpp hfr ho hp r4 r6 sm1 sm2 sm3 hsf hof
 go_enter Tryz.func112,Tryz.ntmps112
 go_wp2_with fail
 refine(FC.out _ C6).mono ?_
 rintro e w1 ⟨rfl,c1⟩
 have s1:=c1.size
 have v1:w.heap.size+3<=w1.heap.size:=by(try simp at s1)<;>omega
 have ys1:=c1.ce gs
 have zs1:=c1.fe gs
 have xs1:gs<w1.heap.size:=by omega
 obtain⟨ya1,za1,xa1,yc1,zc1,xc1,yd1,zd1,xd1, -⟩:=c1.low 3 (w.heap.size) (fun x hx=>by simp at hx)
 clear s1
 have D1:Hid (Qc [] w w1):=Qb (H0 C6 c1)
 have RB1:=Qb ((H.out.kz C6).kz c1)
 clear c1
 go_wp2_with fail
 refine(OF.out _).mono ?_
 rintro e w1b ⟨rfl,hw1b⟩
 obtain rfl:=hw1b.symm
 go_wp2_with fail
 refine bodyPost_ret (v:=.tuple #[.agg #[.int .i64 1,.int .i64 place,.int .i64 a.face,.int .i64 (Qq p p.layers.length)],.bool false]) (by simp only [results,Tryz.results112];go_simp) rfl ?_
 have hgs:=hgs0.out
 exact⟨S,rfl,RB1.out.keep (T:=[w.heap.size+1,w.heap.size+1+1]) C6 (by have:=lt0.out r (by simp);simp;omega) (fun y hy=>by have:=lt0.out y (by simp [hy]);simp;omega),fun y hy=>.inl hy,(H9 (D1.out.mono (by simp):Qc (r::S) w w1))⟩
theorem zq (r gs cap:Nat) (vi:Value) (l:List Ql) (t:Int) (S:List Nat) (w:World) (a:Qa) (uA uB:Value) (i:Nat) (place:Int) (h:RB w r gs cap vi l t S) (hi:i<l.length) (hf:l[i].full=true) (hp:Qn l[i].part) (ho:a.op=2) (hn:3<=l[i].part.layers.length):
  Calls Tryz.prog 112 #[.pointer (some ⟨r,0,none⟩),.pointer (some ⟨gs,i * 7,none⟩),.agg #[.int .i64 a.op,.int .i64 a.slot,.int .i64 a.other,.string a.word,.string a.call.method,.string a.call.key,.int .i64 a.call.value,.string a.call.text,.int .i64 a.face,uA,uB],.int .i64 place] w (Vy r gs cap vi (l) t QJ true S w):=by
 obtain⟨A3,c3,A5,c5,q0,q1,q2,q3,q4,q5,q6,r4,r6,hfr,hgl⟩:=h.hs.slotAt h.hl (by rw [<-h.hl];exact hi) hi
 obtain⟨sm1,sm2,sm3⟩:=Yd hp
 have hsf:∀q:Qe,(⟨l[i].full,q⟩:Ql)=⟨true,q⟩:=fun q=>by rw [hf]
 rw [hf] at q0
 obtain⟨p,hpp⟩:∃p,p=l[i].part:=⟨_,rfl⟩
 rw [<-hpp] at q1 q2 q3 q4 q5 q6 r4 r6 sm1 sm2 sm3 hp hn
 try rw [<-hpp]
 have z0:=hfr 0 (by omega);have z1:=hfr 1 (by omega);have z2:=hfr 2 (by omega);have z3:=hfr 3 (by omega);have z4:=hfr 4 (by omega);have z5:=hfr 5 (by omega);have z6:=hfr 6 (by omega)
 rw [L3] at z0
 have hrl:=Qk h.c0
 have lt0:=Qb h.lt
 have hgs0:=Qb h.gs.1
 have H:=Qb h
 have g0:gs<w.heap.size+1:=by omega
 have g1:gs<w.heap.size+1+1:=by omega
 have g2:gs<w.heap.size+1+1+1:=by omega
 have o2:(a.op==2)=true:=by rw [ho];rfl
 have o3:(a.op==3)=false:=by rw [ho];rfl
 have o6:(a.op==6)=false:=by rw [ho];rfl
 have o7:(a.op==7)=false:=by rw [ho];rfl
 have hn1:¬((p.layers.length:Int)<3):=by omega
 have hn2:decide ((p.layers.length:Int)<3)=false:=decide_eq_false hn1
 clear h hi hf hpp hfr ho hp r4 r6 sm1 sm2 sm3 hsf hn
 go_enter Tryz.func112,Tryz.ntmps112
 go_wp2_with fail
 refine bodyPost_ret (v:=.tuple #[.agg #[.int .i64 0,.int .i64 0,.int .i64 0,.int .i64 0],.bool true]) (by simp only [results,Tryz.results112];go_simp) rfl ?_
 have hgs:=hgs0.out
 exact⟨S,rfl,(H.out.kz C6),fun y hy=>.inl hy,C6⟩
theorem ua (r gs cap:Nat) (vi:Value) (l:List Ql) (t:Int) (S:List Nat) (w:World) (a:Qa) (uA uB:Value) (i:Nat) (place:Int) (h:RB w r gs cap vi l t S) (hi:i<l.length) (hf:l[i].full=true) (hp:Qn l[i].part) (ho:a.op=2) (hn:¬3<=l[i].part.layers.length) (hc:¬(QY l[i].part a.word).2.code=1):
  Calls Tryz.prog 112 #[.pointer (some ⟨r,0,none⟩),.pointer (some ⟨gs,i * 7,none⟩),.agg #[.int .i64 a.op,.int .i64 a.slot,.int .i64 a.other,.string a.word,.string a.call.method,.string a.call.key,.int .i64 a.call.value,.string a.call.text,.int .i64 a.face,uA,uB],.int .i64 place] w (Vy r gs cap vi (l.set i ⟨true,(QY l[i].part a.word).1⟩) t QJ true S w):=by
 obtain⟨A3,c3,A5,c5,q0,q1,q2,q3,q4,q5,q6,r4,r6,hfr,hgl⟩:=h.hs.slotAt h.hl (by rw [<-h.hl];exact hi) hi
 obtain⟨sm1,sm2,sm3⟩:=Yd hp
 have hsf:∀q:Qe,(⟨l[i].full,q⟩:Ql)=⟨true,q⟩:=fun q=>by rw [hf]
 rw [hf] at q0
 obtain⟨p,hpp⟩:∃p,p=l[i].part:=⟨_,rfl⟩
 rw [<-hpp] at q1 q2 q3 q4 q5 q6 r4 r6 sm1 sm2 sm3 hp hc hn
 try rw [<-hpp]
 have z0:=hfr 0 (by omega);have z1:=hfr 1 (by omega);have z2:=hfr 2 (by omega);have z3:=hfr 3 (by omega);have z4:=hfr 4 (by omega);have z5:=hfr 5 (by omega);have z6:=hfr 6 (by omega)
 rw [L3] at z0
 have hrl:=Qk h.c0
 have lt0:=Qb h.lt
 have hgs0:=Qb h.gs.1
 have H:=Qb h
 have g0:gs<w.heap.size+1:=by omega
 have g1:gs<w.heap.size+1+1:=by omega
 have g2:gs<w.heap.size+1+1+1:=by omega
 have o2:(a.op==2)=true:=by rw [ho];rfl
 have o3:(a.op==3)=false:=by rw [ho];rfl
 have o6:(a.op==6)=false:=by rw [ho];rfl
 have o7:(a.op==7)=false:=by rw [ho];rfl
 have CL:=Qb (fun W (hW:Qc [] w W)=>KD p a.word _ _ w.heap.size W (r4.cz hW (F0 _)) (r6.cz hW (F0 _)) hW.size sm1 sm2 sm3)
 obtain⟨q,hq⟩:∃q,q=QY p a.word:=⟨_,rfl⟩
 rw [<-hq] at CL hc ⊢
 have hc1:(q.2.code==1)=false:=by simpa using hc
 have hn1:(p.layers.length:Int)<3:=by omega
 have HI:=Qb hi
 have HSF:=Qb hsf
 clear h hf hpp hfr ho hq hp r4 r6 sm1 sm2 sm3 hsf hc hn
 go_enter Tryz.func112,Tryz.ntmps112
 go_wp2_with fail
 go_region_law (first|(go_simp;go_at_call 85;(with_reducible refine(CL.out _ C6).mono ?_);rintro e w1 ⟨B3,b3,B5,b5,rfl,nl⟩;obtain⟨S1,hl10,lo10,c1⟩:=nl;(have s1:=c1.size);(have v1:w.heap.size+3<=w1.heap.size:=by(try simp at s1)<;>omega);(have ys1:=c1.ce gs);(have zs1:=c1.fe gs);(have xs1:gs<w1.heap.size:=by omega);(obtain⟨ya1,za1,xa1,yc1,zc1,xc1,yd1,zd1,xd1, -⟩:=c1.low 3 (w.heap.size) (fun x hx=>by simp at hx));(have D1:Hid (Qc [] w w1):=Qb (H0 C6 c1));(have lo1:Hid (∀y,y∈S1->w.heap.size+3<=y/\y<w1.heap.size):=Qb (fun y hy=>⟨by have:=lo10 y hy;(try simp at this)<;>omega,hl10.lt y hy⟩));(have hl1:=Qb hl10);(have RB1:=Qb ((H.out.kz C6).kz c1));clear hl10 lo10 c1 s1;simp only [])|fail)
 all_goals
  go_wp2_with fail
  refine bodyPost_ret (v:=.tuple #[.agg #[.int .i64 0,.int .i64 0,.int .i64 0,.int .i64 0],.bool true]) (by simp only [results,Tryz.results112];go_simp) rfl ?_
  have hgs:=hgs0.out
  obtain⟨S',rb',hS',_,cg⟩:=RB1.out.putPart HI.out hl1.out (fun y hy hy2=>by have:=lo1.out y hy;have:=lt0.out y hy2;omega)
  rw [HSF.out] at rb'
  simp only [Xc,O4,Nat.reduceAdd] at rb' cg
  exact⟨S',rfl,rb'.keep (T:=[w.heap.size+1,w.heap.size+1+1]) C6 (by have:=lt0.out r (by simp);simp;omega) (fun y hy=>by rcases hS' y hy with h|h;(have:=lt0.out y (by simp [h]);simp;omega);(have:=lo1.out y h;simp;omega)),fun y hy=>(hS' y hy).imp id (fun h=>by have:=lo1.out y h;omega),(H9 (D1.out.mono (by simp):Qc (r::S) w w1))⟩
theorem xo (r gs cap:Nat) (vi:Value) (l:List Ql) (t:Int) (S:List Nat) (w:World) (a:Qa) (uA uB:Value) (i:Nat) (place:Int) (h:RB w r gs cap vi l t S) (hi:i<l.length) (hf:l[i].full=true) (hp:Qn l[i].part) (ho:a.op=2) (hn:¬3<=l[i].part.layers.length) (hc:(QY l[i].part a.word).2.code=1):
  Calls Tryz.prog 112 #[.pointer (some ⟨r,0,none⟩),.pointer (some ⟨gs,i * 7,none⟩),.agg #[.int .i64 a.op,.int .i64 a.slot,.int .i64 a.other,.string a.word,.string a.call.method,.string a.call.key,.int .i64 a.call.value,.string a.call.text,.int .i64 a.face,uA,uB],.int .i64 place] w (Vy r gs cap vi (l.set i ⟨true,(QY l[i].part a.word).1⟩) t ⟨1,place,(QY l[i].part a.word).2.want,(QY l[i].part a.word).2.had⟩ false S w):=by
 obtain⟨A3,c3,A5,c5,q0,q1,q2,q3,q4,q5,q6,r4,r6,hfr,hgl⟩:=h.hs.slotAt h.hl (by rw [<-h.hl];exact hi) hi
 obtain⟨sm1,sm2,sm3⟩:=Yd hp
 have hsf:∀q:Qe,(⟨l[i].full,q⟩:Ql)=⟨true,q⟩:=fun q=>by rw [hf]
 rw [hf] at q0
 obtain⟨p,hpp⟩:∃p,p=l[i].part:=⟨_,rfl⟩
 rw [<-hpp] at q1 q2 q3 q4 q5 q6 r4 r6 sm1 sm2 sm3 hp hc hn
 try rw [<-hpp]
 have z0:=hfr 0 (by omega);have z1:=hfr 1 (by omega);have z2:=hfr 2 (by omega);have z3:=hfr 3 (by omega);have z4:=hfr 4 (by omega);have z5:=hfr 5 (by omega);have z6:=hfr 6 (by omega)
 rw [L3] at z0
 have hrl:=Qk h.c0
 have lt0:=Qb h.lt
 have hgs0:=Qb h.gs.1
 have H:=Qb h
 have g0:gs<w.heap.size+1:=by omega
 have g1:gs<w.heap.size+1+1:=by omega
 have g2:gs<w.heap.size+1+1+1:=by omega
 have o2:(a.op==2)=true:=by rw [ho];rfl
 have o3:(a.op==3)=false:=by rw [ho];rfl
 have o6:(a.op==6)=false:=by rw [ho];rfl
 have o7:(a.op==7)=false:=by rw [ho];rfl
 have CL:=Qb (fun W (hW:Qc [] w W)=>KD p a.word _ _ w.heap.size W (r4.cz hW (F0 _)) (r6.cz hW (F0 _)) hW.size sm1 sm2 sm3)
 obtain⟨q,hq⟩:∃q,q=QY p a.word:=⟨_,rfl⟩
 rw [<-hq] at CL hc ⊢
 have hc1:(q.2.code==1)=true:=by simpa using hc
 have hn1:(p.layers.length:Int)<3:=by omega
 have HI:=Qb hi
 have HSF:=Qb hsf
 clear h hf hpp hfr ho hq hp r4 r6 sm1 sm2 sm3 hsf hc hn
 go_enter Tryz.func112,Tryz.ntmps112
 go_wp2_with fail
 go_region_law (first|(go_simp;go_at_call 85;(with_reducible refine(CL.out _ C6).mono ?_);rintro e w1 ⟨B3,b3,B5,b5,rfl,nl⟩;obtain⟨S1,hl10,lo10,c1⟩:=nl;(have s1:=c1.size);(have v1:w.heap.size+3<=w1.heap.size:=by(try simp at s1)<;>omega);(have ys1:=c1.ce gs);(have zs1:=c1.fe gs);(have xs1:gs<w1.heap.size:=by omega);(obtain⟨ya1,za1,xa1,yc1,zc1,xc1,yd1,zd1,xd1, -⟩:=c1.low 3 (w.heap.size) (fun x hx=>by simp at hx));(have D1:Hid (Qc [] w w1):=Qb (H0 C6 c1));(have lo1:Hid (∀y,y∈S1->w.heap.size+3<=y/\y<w1.heap.size):=Qb (fun y hy=>⟨by have:=lo10 y hy;(try simp at this)<;>omega,hl10.lt y hy⟩));(have hl1:=Qb hl10);(have RB1:=Qb ((H.out.kz C6).kz c1));clear hl10 lo10 c1 s1;simp only [])|fail)
 all_goals
  go_wp2_with fail
  refine bodyPost_ret (v:=.tuple #[.agg #[.int .i64 1,.int .i64 place,.int .i64 q.2.want,.int .i64 q.2.had],.bool false]) (by simp only [results,Tryz.results112];go_simp) rfl ?_
  have hgs:=hgs0.out
  obtain⟨S',rb',hS',_,cg⟩:=RB1.out.putPart HI.out hl1.out (fun y hy hy2=>by have:=lo1.out y hy;have:=lt0.out y hy2;omega)
  rw [HSF.out] at rb'
  simp only [Xc,O4,Nat.reduceAdd] at rb' cg
  exact⟨S',rfl,rb'.keep (T:=[w.heap.size+1,w.heap.size+1+1]) C6 (by have:=lt0.out r (by simp);simp;omega) (fun y hy=>by rcases hS' y hy with h|h;(have:=lt0.out y (by simp [h]);simp;omega);(have:=lo1.out y h;simp;omega)),fun y hy=>(hS' y hy).imp id (fun h=>by have:=lo1.out y h;omega),(H9 (D1.out.mono (by simp):Qc (r::S) w w1))⟩
theorem vQ (r gs cap:Nat) (vi:Value) (l:List Ql) (t:Int) (S:List Nat) (w:World) (a:Qa) (uA uB:Value) (i:Nat) (place:Int) (h:RB w r gs cap vi l t S) (hi:i<l.length) (hf:l[i].full=true) (hp:Qn l[i].part) (ho:a.op=7) (ht:a.call.text.size<=1048575) (hk:a.call.key.size<=1048576) (hE:KP w) (hc:¬(QB l[i].part a.call).2.code=1):
  Calls Tryz.prog 112 #[.pointer (some ⟨r,0,none⟩),.pointer (some ⟨gs,i * 7,none⟩),.agg #[.int .i64 a.op,.int .i64 a.slot,.int .i64 a.other,.string a.word,.string a.call.method,.string a.call.key,.int .i64 a.call.value,.string a.call.text,.int .i64 a.face,uA,uB],.int .i64 place] w (Vy r gs cap vi (l.set i ⟨true,(QB l[i].part a.call).1⟩) t QJ true S w):=by
 obtain⟨A3,c3,A5,c5,q0,q1,q2,q3,q4,q5,q6,r4,r6,hfr,hgl⟩:=h.hs.slotAt h.hl (by rw [<-h.hl];exact hi) hi
 obtain⟨sm1,sm2,sm3⟩:=Yd hp
 have hsf:∀q:Qe,(⟨l[i].full,q⟩:Ql)=⟨true,q⟩:=fun q=>by rw [hf]
 rw [hf] at q0
 obtain⟨p,hpp⟩:∃p,p=l[i].part:=⟨_,rfl⟩
 rw [<-hpp] at q1 q2 q3 q4 q5 q6 r4 r6 sm1 sm2 sm3 hp hc
 try rw [<-hpp]
 have z0:=hfr 0 (by omega);have z1:=hfr 1 (by omega);have z2:=hfr 2 (by omega);have z3:=hfr 3 (by omega);have z4:=hfr 4 (by omega);have z5:=hfr 5 (by omega);have z6:=hfr 6 (by omega)
 rw [L3] at z0
 have hrl:=Qk h.c0
 have lt0:=Qb h.lt
 have hgs0:=Qb h.gs.1
 have H:=Qb h
 have g0:gs<w.heap.size+1:=by omega
 have g1:gs<w.heap.size+1+1:=by omega
 have g2:gs<w.heap.size+1+1+1:=by omega
 have o2:(a.op==2)=false:=by rw [ho];rfl
 have o3:(a.op==3)=false:=by rw [ho];rfl
 have o6:(a.op==6)=false:=by rw [ho];rfl
 have o7:(a.op==7)=true:=by rw [ho];rfl
 have CL:=Qb (fun W (hW:Qc [] w W)=>Ki p a.call _ _ w.heap.size W (r4.cz hW (F0 _)) (r6.cz hW (F0 _)) hW.size sm1 sm2 sm3 ht hk (hE.keep hW))
 obtain⟨q,hq⟩:∃q,q=QB p a.call:=⟨_,rfl⟩
 rw [<-hq] at CL hc ⊢
 have hc1:(q.2.code==1)=false:=by simpa using hc
 have HI:=Qb hi
 have HSF:=Qb hsf
 clear h hf hpp hfr ho hq hp r4 r6 sm1 sm2 sm3 hsf hc ht hk hE
 go_enter Tryz.func112,Tryz.ntmps112
 go_wp2_with fail
 go_region_law (first|(go_simp;go_at_call 147;(with_reducible refine(CL.out _ C6).mono ?_);rintro e w1 ⟨B3,b3,B5,b5,rfl,nl⟩;obtain⟨S1,hl10,lo10,c1⟩:=nl;(have s1:=c1.size);(have v1:w.heap.size+3<=w1.heap.size:=by(try simp at s1)<;>omega);(have ys1:=c1.ce gs);(have zs1:=c1.fe gs);(have xs1:gs<w1.heap.size:=by omega);(obtain⟨ya1,za1,xa1,yc1,zc1,xc1,yd1,zd1,xd1, -⟩:=c1.low 3 (w.heap.size) (fun x hx=>by simp at hx));(have D1:Hid (Qc [] w w1):=Qb (H0 C6 c1));(have lo1:Hid (∀y,y∈S1->w.heap.size+3<=y/\y<w1.heap.size):=Qb (fun y hy=>⟨by have:=lo10 y hy;(try simp at this)<;>omega,hl10.lt y hy⟩));(have hl1:=Qb hl10);(have RB1:=Qb ((H.out.kz C6).kz c1));clear hl10 lo10 c1 s1;simp only [])|fail)
 all_goals
  go_wp2_with fail
  refine bodyPost_ret (v:=.tuple #[.agg #[.int .i64 0,.int .i64 0,.int .i64 0,.int .i64 0],.bool true]) (by simp only [results,Tryz.results112];go_simp) rfl ?_
  have hgs:=hgs0.out
  obtain⟨S',rb',hS',_,cg⟩:=RB1.out.putPart HI.out hl1.out (fun y hy hy2=>by have:=lo1.out y hy;have:=lt0.out y hy2;omega)
  rw [HSF.out] at rb'
  simp only [Xc,O4,Nat.reduceAdd] at rb' cg
  exact⟨S',rfl,rb'.keep (T:=[w.heap.size+1,w.heap.size+1+1]) C6 (by have:=lt0.out r (by simp);simp;omega) (fun y hy=>by rcases hS' y hy with h|h;(have:=lt0.out y (by simp [h]);simp;omega);(have:=lo1.out y h;simp;omega)),fun y hy=>(hS' y hy).imp id (fun h=>by have:=lo1.out y h;omega),(H9 (D1.out.mono (by simp):Qc (r::S) w w1))⟩
theorem xz (r gs cap:Nat) (vi:Value) (l:List Ql) (t:Int) (S:List Nat) (w:World) (a:Qa) (uA uB:Value) (i:Nat) (place:Int) (h:RB w r gs cap vi l t S) (hi:i<l.length) (hf:l[i].full=true) (hp:Qn l[i].part) (ho:a.op=7) (ht:a.call.text.size<=1048575) (hk:a.call.key.size<=1048576) (hE:KP w) (hc:(QB l[i].part a.call).2.code=1):
  Calls Tryz.prog 112 #[.pointer (some ⟨r,0,none⟩),.pointer (some ⟨gs,i * 7,none⟩),.agg #[.int .i64 a.op,.int .i64 a.slot,.int .i64 a.other,.string a.word,.string a.call.method,.string a.call.key,.int .i64 a.call.value,.string a.call.text,.int .i64 a.face,uA,uB],.int .i64 place] w (Vy r gs cap vi (l.set i ⟨true,(QB l[i].part a.call).1⟩) t ⟨1,place,(QB l[i].part a.call).2.want,(QB l[i].part a.call).2.had⟩ false S w):=by
 obtain⟨A3,c3,A5,c5,q0,q1,q2,q3,q4,q5,q6,r4,r6,hfr,hgl⟩:=h.hs.slotAt h.hl (by rw [<-h.hl];exact hi) hi
 obtain⟨sm1,sm2,sm3⟩:=Yd hp
 have hsf:∀q:Qe,(⟨l[i].full,q⟩:Ql)=⟨true,q⟩:=fun q=>by rw [hf]
 rw [hf] at q0
 obtain⟨p,hpp⟩:∃p,p=l[i].part:=⟨_,rfl⟩
 rw [<-hpp] at q1 q2 q3 q4 q5 q6 r4 r6 sm1 sm2 sm3 hp hc
 try rw [<-hpp]
 have z0:=hfr 0 (by omega);have z1:=hfr 1 (by omega);have z2:=hfr 2 (by omega);have z3:=hfr 3 (by omega);have z4:=hfr 4 (by omega);have z5:=hfr 5 (by omega);have z6:=hfr 6 (by omega)
 rw [L3] at z0
 have hrl:=Qk h.c0
 have lt0:=Qb h.lt
 have hgs0:=Qb h.gs.1
 have H:=Qb h
 have g0:gs<w.heap.size+1:=by omega
 have g1:gs<w.heap.size+1+1:=by omega
 have g2:gs<w.heap.size+1+1+1:=by omega
 have o2:(a.op==2)=false:=by rw [ho];rfl
 have o3:(a.op==3)=false:=by rw [ho];rfl
 have o6:(a.op==6)=false:=by rw [ho];rfl
 have o7:(a.op==7)=true:=by rw [ho];rfl
 have CL:=Qb (fun W (hW:Qc [] w W)=>Ki p a.call _ _ w.heap.size W (r4.cz hW (F0 _)) (r6.cz hW (F0 _)) hW.size sm1 sm2 sm3 ht hk (hE.keep hW))
 obtain⟨q,hq⟩:∃q,q=QB p a.call:=⟨_,rfl⟩
 rw [<-hq] at CL hc ⊢
 have hc1:(q.2.code==1)=true:=by simpa using hc
 have HI:=Qb hi
 have HSF:=Qb hsf
 clear h hf hpp hfr ho hq hp r4 r6 sm1 sm2 sm3 hsf hc ht hk hE
 go_enter Tryz.func112,Tryz.ntmps112
 go_wp2_with fail
 go_region_law (first|(go_simp;go_at_call 147;(with_reducible refine(CL.out _ C6).mono ?_);rintro e w1 ⟨B3,b3,B5,b5,rfl,nl⟩;obtain⟨S1,hl10,lo10,c1⟩:=nl;(have s1:=c1.size);(have v1:w.heap.size+3<=w1.heap.size:=by(try simp at s1)<;>omega);(have ys1:=c1.ce gs);(have zs1:=c1.fe gs);(have xs1:gs<w1.heap.size:=by omega);(obtain⟨ya1,za1,xa1,yc1,zc1,xc1,yd1,zd1,xd1, -⟩:=c1.low 3 (w.heap.size) (fun x hx=>by simp at hx));(have D1:Hid (Qc [] w w1):=Qb (H0 C6 c1));(have lo1:Hid (∀y,y∈S1->w.heap.size+3<=y/\y<w1.heap.size):=Qb (fun y hy=>⟨by have:=lo10 y hy;(try simp at this)<;>omega,hl10.lt y hy⟩));(have hl1:=Qb hl10);(have RB1:=Qb ((H.out.kz C6).kz c1));clear hl10 lo10 c1 s1;simp only [])|fail)
 all_goals
  go_wp2_with fail
  refine bodyPost_ret (v:=.tuple #[.agg #[.int .i64 1,.int .i64 place,.int .i64 q.2.want,.int .i64 q.2.had],.bool false]) (by simp only [results,Tryz.results112];go_simp) rfl ?_
  have hgs:=hgs0.out
  obtain⟨S',rb',hS',_,cg⟩:=RB1.out.putPart HI.out hl1.out (fun y hy hy2=>by have:=lo1.out y hy;have:=lt0.out y hy2;omega)
  rw [HSF.out] at rb'
  simp only [Xc,O4,Nat.reduceAdd] at rb' cg
  exact⟨S',rfl,rb'.keep (T:=[w.heap.size+1,w.heap.size+1+1]) C6 (by have:=lt0.out r (by simp);simp;omega) (fun y hy=>by rcases hS' y hy with h|h;(have:=lt0.out y (by simp [h]);simp;omega);(have:=lo1.out y h;simp;omega)),fun y hy=>(hS' y hy).imp id (fun h=>by have:=lo1.out y h;omega),(H9 (D1.out.mono (by simp):Qc (r::S) w w1))⟩
end Go.Proofs.YtjeadhmkghnkkaaGreatDoor
