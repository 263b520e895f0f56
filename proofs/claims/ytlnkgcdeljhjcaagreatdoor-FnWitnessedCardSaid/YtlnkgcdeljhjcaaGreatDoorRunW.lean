/- The program's run in memory. Conditions: as stated. -/
import Derived.Test.YtlnkgcdeljhjcaaGreatDoorCallU
set_option maxRecDepth 100000
set_option maxHeartbeats 8000000
namespace Go.Proofs.YtlnkgcdeljhjcaaGreatDoor
open Go.RowKit

structure RB (w:World) (r gs cap:Nat) (vi:Value) (l:List Qm) (t:Int) (S:List Nat):Prop where
 c0:w.cell? ⟨r,0,none⟩=some (.slice (some ⟨gs,0,none⟩) 3 cap)
 c1:w.cell? ⟨r,1,none⟩=some vi
 c2:w.cell? ⟨r,2,none⟩=some (.int .i64 t)
 f2:w.frozen? ⟨r,2,none⟩=false
 hs:Yk w (slots l) (.slice (some ⟨gs,0,none⟩) 3 cap) S
 hl:l.length=3
 hr:r∉S
theorem RB.lt {w:World} {r gs cap:Nat} {vi:Value} {l:List Qm} {t:Int} {S:List Nat} (h:RB w r gs cap vi l t S):∀y,y∈r::S->y<w.heap.size:=fun y hy=>by
 rcases List.mem_cons.1 hy with rfl|hy
 ·exact Qn h.c0
 ·exact h.hs.lt y hy
theorem RB.keep {w w':World} {r gs cap:Nat} {vi:Value} {l:List Qm} {t:Int} {S T:List Nat} (h:RB w r gs cap vi l t S) (hc:Qb T w w') (hr:r∉T) (hS:∀y,y∈S->y∉T):RB w' r gs cap vi l t S:=by
 have hl:=Qn h.c0
 have e:=fun o=>hc.cell (p:=⟨r,o,none⟩) hl hr
 exact⟨(e 0).trans h.c0,(e 1).trans h.c1,(e 2).trans h.c2,(hc.frozen (p:=⟨r,2,none⟩) hl hr).trans h.f2,h.hs.keep hc hS,h.hl,h.hr⟩
theorem RB.kz {w w':World} {r gs cap:Nat} {vi:Value} {l:List Qm} {t:Int} {S:List Nat} (h:RB w r gs cap vi l t S) (hc:Qb [] w w'):RB w' r gs cap vi l t S:=h.keep hc (by simp) (by simp)
theorem RB.gs {w:World} {r gs cap:Nat} {vi:Value} {l:List Qm} {t:Int} {S:List Nat} (h:RB w r gs cap vi l t S):gs∈S/\3<=cap/\cap<=maxLen:=by
 have hh:=h.hs
 unfold slots at hh
 rcases hh.cases_ with ⟨e,_⟩|⟨g,c,S',e,h1,h2,h3,_⟩
 ·simp at e
 ·simp only [Value.slice.injEq,Option.some.injEq,Addr.mk.injEq,and_true] at e
  obtain⟨e1,_,e2⟩:=e
  subst e1 e2
  rw [h.hl] at h1
  exact⟨by rw [h3];simp,h1,h2⟩
theorem RB.put {w:World} {r gs cap:Nat} {vi:Value} {l:List Qm} {t:Int} {S S1:List Nat} (h:RB w r gs cap vi l t S) {i:Nat} (hi:i<3) {x:Qm} {us:List Value} (hx:Qu w (Zo x) us S1) (hd:∀y,y∈S1->y∉r::S):
  ∃S',RB (Xd w gs (i * 7) us) r gs cap vi (l.set i x) t S'/\(∀y,y∈S'->y∈S∨y∈S1)/\gs∈S/\Qb [gs] w (Xd w gs (i * 7) us):=by
 obtain⟨S',h1,h2,h3,h4⟩:=h.hs.slotSet h.hl hi hx (fun y hy hS=>hd y hy (by simp [hS]))
 have hl:=Qn h.c0
 have hne:r∉ [gs]:=by simp;rintro rfl;exact h.hr h3
 have e:=fun o=>h4.cell (p:=⟨r,o,none⟩) hl hne
 exact⟨S',⟨(e 0).trans h.c0,(e 1).trans h.c1,(e 2).trans h.c2,(h4.frozen (p:=⟨r,2,none⟩) hl hne).trans h.f2,h1,by rw [List.length_set];exact h.hl,fun hr=>(h2 r hr).elim h.hr (fun h=>hd r h (by simp))⟩,h2,h3,h4⟩
theorem RB.putPart {w:World} {r gs cap:Nat} {vi:Value} {l:List Qm} {t:Int} {S S1:List Nat} (h:RB w r gs cap vi l t S) {i:Nat} (hi:i<l.length) {q:Qh} {us:List Value} (hx:Qu w (Wm q) us S1) (hd:∀y,y∈S1->y∉r::S):
  ∃S',RB (Xd w gs (i * 7+1) us) r gs cap vi (l.set i ⟨l[i].full,q⟩) t S'/\(∀y,y∈S'->y∈S∨y∈S1)/\gs∈S/\Qb [gs] w (Xd w gs (i * 7+1) us):=by
 obtain⟨S',h1,h2,h3,h4⟩:=h.hs.slotPart h.hl (by rw [<-h.hl];exact hi) hx (fun y hy hS=>hd y hy (by simp [hS])) hi
 have hl:=Qn h.c0
 have hne:r∉ [gs]:=by simp;rintro rfl;exact h.hr h3
 have e:=fun o=>h4.cell (p:=⟨r,o,none⟩) hl hne
 exact⟨S',⟨(e 0).trans h.c0,(e 1).trans h.c1,(e 2).trans h.c2,(h4.frozen (p:=⟨r,2,none⟩) hl hne).trans h.f2,h1,by rw [List.length_set];exact h.hl,fun hr=>(h2 r hr).elim h.hr (fun h=>hd r h (by simp))⟩,h2,h3,h4⟩
theorem RB.took {w:World} {r gs cap:Nat} {vi:Value} {l:List Qm} {t:Int} {S:List Nat} (h:RB w r gs cap vi l t S) (u:Int):RB (w.setCell ⟨r,2,none⟩ (.int .i64 u)) r gs cap vi l u S:=by
 have hc:Qb [r] w (w.setCell ⟨r,2,none⟩ (.int .i64 u)):=(Qb.refl [r] w).setCell (.inl (by simp)) _
 obtain⟨c0,c1,c2,f2,hs,hl,hr⟩:=h
 exact⟨by go_simp,by go_simp,by go_simp,by rw [World.frozen?_setCell];exact f2,hs.keep hc (fun x hx hx2=>by simp at hx2;subst hx2;exact hr hx),hl,hr⟩
theorem QgZ (n:Int):n.tmod 4=n % 4∨(n.tmod 4=n % 4-4/\n % 4≠0):=by
 rcases Int.le_total 0 n with h|h
 ·exact .inl (Int.tmod_eq_emod_of_nonneg h)
 ·obtain⟨m,rfl⟩:∃m:Int,n= -m:=⟨-n,by omega⟩
  rw [Int.neg_tmod,Int.tmod_eq_emod_of_nonneg (by omega)]
  omega
theorem QhK (n:Int):(n.tmod 4+4).tmod 4=n % 4:=by
 have h:=QgZ n
 rw [Int.tmod_eq_emod_of_nonneg (by omega)]
 omega
theorem QcM (n:Int):IntKind.i64.wrap (n.tmod 4+4)=n.tmod 4+4:=by
 have h:=QgZ n
 exact Zc (by omega) (by omega)
theorem Qdw {a b:Int} (h:a=b):Ending.returned (.int .i64 a)= .returned (.int .i64 b):=by rw [h]
theorem Qf5 {input:List Int} {t:Nat} (h:t<input.length):YX input t=input[t] % 4:=by
 unfold YX
 rw [Int.toNat_natCast,List.getElem?_eq_getElem h]
theorem Qer {input:List Int} {t:Nat} (h:input.length<=t):YX input t=0:=by
 unfold YX
 rw [Int.toNat_natCast,List.getElem?_eq_none h]
theorem QbX (r gs cap:Nat) (vi:Value) (input:List Int) (l:List Qm) (t:Int) (S:List Nat) (w:World) (B:Nat) (h:RB w r gs cap vi l t S) (hi:Rd w B (yw input) vi) (ht0:0<=t) (ht1:t<=1000000):
  Calls Tryz.prog 105 #[.pointer (some ⟨r,0,none⟩)] w (fun e w'=>e= .returned (.int .i64 (YX input t))/\RB w' r gs cap vi l (t+1) S/\Qb [r] w w'):=by
 have hlt:=Qn h.c0
 obtain⟨A,cv,rfl,h0,h1,hrow⟩:=qG hi
 unfold maxLen at h1
 obtain⟨c0,c1,c2,f2,_,_,_⟩:=id h
 obtain⟨n,rfl⟩:∃n:Nat,t=n:=⟨t.toNat,by omega⟩
 have H:=Qd h
 clear h hi
 go_enter Tryz.func105,Tryz.ntmps105
 go_wp2_with fail
 go_quiet (fail)
 by_cases hlt2:n<input.length
 ·have hi1:(n:Int)<(input.length:Int):=by omega
  have hi0:(0:Int)<=(n:Int):=by omega
  obtain⟨b,off,rfl,hb,q⟩:=zi hrow n hlt2
  have W4:=QcM input[n]
  have HT:=Qd (Qf5 hlt2)
  go_wp2_with fail
  go_quiet (fail)
  go_wp2_with fail
  go_ret
  exact⟨Qdw ((QhK _).trans HT.out.symm),(H.out.kz ((Qb.refl [] w).drewN _)).took _,((Qb.refl [r] w).drewN _).setCell (.inl (by simp)) _⟩
 ·have hi1:decide (n<input.length)=false:=decide_eq_false hlt2
  have HT:=Qd (Qer (input:=input) (t:=n) (by omega))
  go_wp2_with fail
  go_ret
  exact⟨Qdw HT.out.symm,(H.out.kz ((Qb.refl [] w).drewN _)).took _,((Qb.refl [r] w).drewN _).setCell (.inl (by simp)) _⟩
def W8 (r gs cap:Nat) (vi:Value) (l:List Qm) (t:Int) (en:XH) (b:Bool) (S:List Nat) (w:World) (e:Ending) (w':World):Prop:=
 ∃S',e= .returned (.tuple #[.agg #[.int .i64 en.code,.int .i64 en.place,.int .i64 en.want,.int .i64 en.had],.bool b])/\RB w' r gs cap vi l t S'/\(∀y,y∈S'->y∈S∨w.heap.size<=y)/\Qb (r::S) w w'
theorem Ya {p:Qh} (h:Qp p):p.layers.length<=1048576/\p.core.cells.length<=1048576/\∀c∈p.core.cells,c.key.size<=1048576:=by
 obtain⟨⟨_,_,hcc,_⟩,h2,_⟩:=h
 refine⟨by omega,by have:=hcc.1;omega,fun c hc=>?_⟩
 have:=((UJ _).1 hcc).2.1 c hc
 have:=this.1.2.1
 omega
theorem xJ {l:List Qm} {i:Nat} (hi:i<l.length) (hf:l[i].full=true):l.set i ⟨true,l[i].part⟩=l:=by
 have:(⟨true,l[i].part⟩:Qm)=l[i]:=by rw [<-hf]
 rw [this,List.set_getElem_self]
theorem yC (r gs cap:Nat) (vi:Value) (l:List Qm) (t:Int) (S:List Nat) (w:World) (a:Qa) (uA uB:Value) (i:Nat) (place:Int) (h:RB w r gs cap vi l t S) (hi:i<l.length) (hf:l[i].full=true) (hp:Qp l[i].part) (ho:a.op=3):
  Calls Tryz.prog 107 #[.pointer (some ⟨r,0,none⟩),.pointer (some ⟨gs,i * 7,none⟩),.agg #[.int .i64 a.op,.int .i64 a.slot,.int .i64 a.other,.string a.word,.string a.call.method,.string a.call.key,.int .i64 a.call.value,.string a.call.text,.int .i64 a.face,uA,uB],.int .i64 place] w (W8 r gs cap vi (l.set i ⟨true,(Yi l[i].part).1⟩) t QO true S w):=by
 obtain⟨A3,c3,A5,c5,q0,q1,q2,q3,q4,q5,q6,r4,r6,hfr,hgl⟩:=h.hs.slotAt h.hl (by rw [<-h.hl];exact hi) hi
 obtain⟨sm1,sm2,sm3⟩:=Ya hp
 have hsf:∀q:Qh,(⟨l[i].full,q⟩:Qm)=⟨true,q⟩:=fun q=>by rw [hf]
 rw [hf] at q0
 obtain⟨p,hpp⟩:∃p,p=l[i].part:=⟨_,rfl⟩
 rw [<-hpp] at q1 q2 q3 q4 q5 q6 r4 r6 sm1 sm2 sm3 hp
 try rw [<-hpp]
 have z0:=hfr 0 (by omega);have z1:=hfr 1 (by omega);have z2:=hfr 2 (by omega);have z3:=hfr 3 (by omega);have z4:=hfr 4 (by omega);have z5:=hfr 5 (by omega);have z6:=hfr 6 (by omega)
 rw [Nat.add_zero] at z0
 have hrl:=Qn h.c0
 have lt0:=Qd h.lt
 have hgs0:=Qd h.gs.1
 have H:=Qd h
 have g0:gs<w.heap.size+1:=by omega
 have g1:gs<w.heap.size+1+1:=by omega
 have g2:gs<w.heap.size+1+1+1:=by omega
 have o2:(a.op==2)=false:=by rw [ho];rfl
 have o3:(a.op==3)=true:=by rw [ho];rfl
 have o6:(a.op==6)=false:=by rw [ho];rfl
 have o7:(a.op==7)=false:=by rw [ho];rfl
 have UN:=Qd (fun W (hW:Qb [] w W)=>yr p _ _ w.heap.size W (r4.cz hW (Nat.le_refl _)) (r6.cz hW (Nat.le_refl _)) hW.size sm1 sm2 sm3)
 obtain⟨q,hq⟩:∃q,q=Yi p:=⟨_,rfl⟩
 rw [<-hq] at UN ⊢
 have HI:=Qd hi
 have HSF:=Qd hsf
 clear h hf hpp hfr ho hq hp r4 r6 sm1 sm2 sm3 hsf
 go_enter Tryz.func107,Tryz.ntmps107
 go_wp2_with fail
 refine(UN.out _ Qb.now).mono ?_
 rintro e w1 ⟨B3,b3,B5,b5,rfl,nl⟩
 obtain⟨S1,hl10,lo10,c1⟩:=nl
 have s1:=c1.size
 have v1:w.heap.size+3<=w1.heap.size:=by(try simp at s1)<;>omega
 have ys1:=c1.ce gs
 have zs1:=c1.fe gs
 have xs1:gs<w1.heap.size:=by omega
 obtain⟨ya1,za1,xa1,yc1,zc1,xc1,yd1,zd1,xd1, -⟩:=c1.low 3 (w.heap.size) (fun x hx=>by simp at hx)
 clear s1
 have D1:Hid (Qb [] w w1):=Qd (Qb.tz Qb.now c1)
 have lo1:Hid (∀y,y∈S1->w.heap.size+3<=y/\y<w1.heap.size):=Qd (fun y hy=>⟨by have:=lo10 y hy;(try simp at this)<;>omega,hl10.lt y hy⟩)
 have hl1:=Qd hl10
 have RB1:=Qd ((H.out.kz Qb.now).kz c1)
 clear hl10 lo10 c1
 go_wp2_with fail
 refine bodyPost_ret (v:=.tuple #[.agg #[.int .i64 0,.int .i64 0,.int .i64 0,.int .i64 0],.bool true]) (by simp only [results,Tryz.results107];go_simp) rfl ?_
 have hgs:=hgs0.out
 obtain⟨S',rb',hS',_,cg⟩:=RB1.out.putPart HI.out hl1.out (fun y hy hy2=>by have:=lo1.out y hy;have:=lt0.out y hy2;omega)
 rw [HSF.out] at rb'
 simp only [Xd,Nat.add_assoc,Nat.reduceAdd] at rb' cg
 exact⟨S',rfl,rb'.keep (T:=[w.heap.size+1]) Qb.now (by have:=lt0.out r (by simp);simp;omega) (fun y hy=>by rcases hS' y hy with h|h;(have:=lt0.out y (by simp [h]);simp;omega);(have:=lo1.out y h;simp;omega)),fun y hy=>(hS' y hy).imp id (fun h=>by have:=lo1.out y h;omega),(Qb.to (D1.out.mono (by simp):Qb (r::S) w w1))⟩
theorem jN (r gs cap:Nat) (vi:Value) (l:List Qm) (t:Int) (S:List Nat) (w:World) (a:Qa) (uA uB:Value) (i:Nat) (place:Int) (h:RB w r gs cap vi l t S) (hi:i<l.length) (hf:l[i].full=true) (hp:Qp l[i].part) (ho:a.op=6) (hof:ZN (Qs l[i].part l[i].part.layers.length) a.face):
  Calls Tryz.prog 107 #[.pointer (some ⟨r,0,none⟩),.pointer (some ⟨gs,i * 7,none⟩),.agg #[.int .i64 a.op,.int .i64 a.slot,.int .i64 a.other,.string a.word,.string a.call.method,.string a.call.key,.int .i64 a.call.value,.string a.call.text,.int .i64 a.face,uA,uB],.int .i64 place] w (W8 r gs cap vi (l) t QO true S w):=by
 obtain⟨A3,c3,A5,c5,q0,q1,q2,q3,q4,q5,q6,r4,r6,hfr,hgl⟩:=h.hs.slotAt h.hl (by rw [<-h.hl];exact hi) hi
 obtain⟨sm1,sm2,sm3⟩:=Ya hp
 have hsf:∀q:Qh,(⟨l[i].full,q⟩:Qm)=⟨true,q⟩:=fun q=>by rw [hf]
 rw [hf] at q0
 obtain⟨p,hpp⟩:∃p,p=l[i].part:=⟨_,rfl⟩
 rw [<-hpp] at q1 q2 q3 q4 q5 q6 r4 r6 sm1 sm2 sm3 hp hof
 try rw [<-hpp]
 have z0:=hfr 0 (by omega);have z1:=hfr 1 (by omega);have z2:=hfr 2 (by omega);have z3:=hfr 3 (by omega);have z4:=hfr 4 (by omega);have z5:=hfr 5 (by omega);have z6:=hfr 6 (by omega)
 rw [Nat.add_zero] at z0
 have hrl:=Qn h.c0
 have lt0:=Qd h.lt
 have hgs0:=Qd h.gs.1
 have H:=Qd h
 have g0:gs<w.heap.size+1:=by omega
 have g1:gs<w.heap.size+1+1:=by omega
 have g2:gs<w.heap.size+1+1+1:=by omega
 have o2:(a.op==2)=false:=by rw [ho];rfl
 have o3:(a.op==3)=false:=by rw [ho];rfl
 have o6:(a.op==6)=true:=by rw [ho];rfl
 have o7:(a.op==7)=false:=by rw [ho];rfl
 have FC:=Qd (fun W (hW:Qb [] w W)=>Y5 p (.slice A3 p.core.cells.length c3) _ w.heap.size W (r6.cz hW (Nat.le_refl _)) hW.size)
 have OF:=Qd (fun W=>(Xq (Qs p p.layers.length) a.face W).mono (Zm.pos hof))
 clear h hi hf hpp hfr ho hp r4 r6 sm1 sm2 sm3 hsf hof
 go_enter Tryz.func107,Tryz.ntmps107
 go_wp2_with fail
 refine(FC.out _ Qb.now).mono ?_
 rintro e w1 ⟨rfl,c1⟩
 have s1:=c1.size
 have v1:w.heap.size+3<=w1.heap.size:=by(try simp at s1)<;>omega
 have ys1:=c1.ce gs
 have zs1:=c1.fe gs
 have xs1:gs<w1.heap.size:=by omega
 obtain⟨ya1,za1,xa1,yc1,zc1,xc1,yd1,zd1,xd1, -⟩:=c1.low 3 (w.heap.size) (fun x hx=>by simp at hx)
 clear s1
 have D1:Hid (Qb [] w w1):=Qd (Qb.tz Qb.now c1)
 have RB1:=Qd ((H.out.kz Qb.now).kz c1)
 clear c1
 go_wp2_with fail
 refine(OF.out _).mono ?_
 rintro e w1b ⟨rfl,hw1b⟩
 obtain rfl:=hw1b.symm
 go_wp2_with fail
 refine bodyPost_ret (v:=.tuple #[.agg #[.int .i64 0,.int .i64 0,.int .i64 0,.int .i64 0],.bool true]) (by simp only [results,Tryz.results107];go_simp) rfl ?_
 have hgs:=hgs0.out
 exact⟨S,rfl,RB1.out.keep (T:=[w.heap.size+1]) Qb.now (by have:=lt0.out r (by simp);simp;omega) (fun y hy=>by have:=lt0.out y (by simp [hy]);simp;omega),fun y hy=>.inl hy,(Qb.to (D1.out.mono (by simp):Qb (r::S) w w1))⟩
theorem wP (r gs cap:Nat) (vi:Value) (l:List Qm) (t:Int) (S:List Nat) (w:World) (a:Qa) (uA uB:Value) (i:Nat) (place:Int) (h:RB w r gs cap vi l t S) (hi:i<l.length) (hf:l[i].full=true) (hp:Qp l[i].part) (ho:a.op=6) (hof:¬ZN (Qs l[i].part l[i].part.layers.length) a.face):
  Calls Tryz.prog 107 #[.pointer (some ⟨r,0,none⟩),.pointer (some ⟨gs,i * 7,none⟩),.agg #[.int .i64 a.op,.int .i64 a.slot,.int .i64 a.other,.string a.word,.string a.call.method,.string a.call.key,.int .i64 a.call.value,.string a.call.text,.int .i64 a.face,uA,uB],.int .i64 place] w (W8 r gs cap vi (l) t ⟨1,place,a.face,Qs l[i].part l[i].part.layers.length⟩ false S w):=by
 obtain⟨A3,c3,A5,c5,q0,q1,q2,q3,q4,q5,q6,r4,r6,hfr,hgl⟩:=h.hs.slotAt h.hl (by rw [<-h.hl];exact hi) hi
 obtain⟨sm1,sm2,sm3⟩:=Ya hp
 have hsf:∀q:Qh,(⟨l[i].full,q⟩:Qm)=⟨true,q⟩:=fun q=>by rw [hf]
 rw [hf] at q0
 obtain⟨p,hpp⟩:∃p,p=l[i].part:=⟨_,rfl⟩
 rw [<-hpp] at q1 q2 q3 q4 q5 q6 r4 r6 sm1 sm2 sm3 hp hof
 try rw [<-hpp]
 have z0:=hfr 0 (by omega);have z1:=hfr 1 (by omega);have z2:=hfr 2 (by omega);have z3:=hfr 3 (by omega);have z4:=hfr 4 (by omega);have z5:=hfr 5 (by omega);have z6:=hfr 6 (by omega)
 rw [Nat.add_zero] at z0
 have hrl:=Qn h.c0
 have lt0:=Qd h.lt
 have hgs0:=Qd h.gs.1
 have H:=Qd h
 have g0:gs<w.heap.size+1:=by omega
 have g1:gs<w.heap.size+1+1:=by omega
 have g2:gs<w.heap.size+1+1+1:=by omega
 have o2:(a.op==2)=false:=by rw [ho];rfl
 have o3:(a.op==3)=false:=by rw [ho];rfl
 have o6:(a.op==6)=true:=by rw [ho];rfl
 have o7:(a.op==7)=false:=by rw [ho];rfl
 have FC:=Qd (fun W (hW:Qb [] w W)=>Y5 p (.slice A3 p.core.cells.length c3) _ w.heap.size W (r6.cz hW (Nat.le_refl _)) hW.size)
 have OF:=Qd (fun W=>(Xq (Qs p p.layers.length) a.face W).mono (Zm.neg hof))
 clear h hi hf hpp hfr ho hp r4 r6 sm1 sm2 sm3 hsf hof
 go_enter Tryz.func107,Tryz.ntmps107
 go_wp2_with fail
 refine(FC.out _ Qb.now).mono ?_
 rintro e w1 ⟨rfl,c1⟩
 have s1:=c1.size
 have v1:w.heap.size+3<=w1.heap.size:=by(try simp at s1)<;>omega
 have ys1:=c1.ce gs
 have zs1:=c1.fe gs
 have xs1:gs<w1.heap.size:=by omega
 obtain⟨ya1,za1,xa1,yc1,zc1,xc1,yd1,zd1,xd1, -⟩:=c1.low 3 (w.heap.size) (fun x hx=>by simp at hx)
 clear s1
 have D1:Hid (Qb [] w w1):=Qd (Qb.tz Qb.now c1)
 have RB1:=Qd ((H.out.kz Qb.now).kz c1)
 clear c1
 go_wp2_with fail
 refine(OF.out _).mono ?_
 rintro e w1b ⟨rfl,hw1b⟩
 obtain rfl:=hw1b.symm
 go_wp2_with fail
 refine bodyPost_ret (v:=.tuple #[.agg #[.int .i64 1,.int .i64 place,.int .i64 a.face,.int .i64 (Qs p p.layers.length)],.bool false]) (by simp only [results,Tryz.results107];go_simp) rfl ?_
 have hgs:=hgs0.out
 exact⟨S,rfl,RB1.out.keep (T:=[w.heap.size+1,w.heap.size+1+1]) Qb.now (by have:=lt0.out r (by simp);simp;omega) (fun y hy=>by have:=lt0.out y (by simp [hy]);simp;omega),fun y hy=>.inl hy,(Qb.to (D1.out.mono (by simp):Qb (r::S) w w1))⟩
theorem GZ (r gs cap:Nat) (vi:Value) (l:List Qm) (t:Int) (S:List Nat) (w:World) (a:Qa) (uA uB:Value) (i:Nat) (place:Int) (h:RB w r gs cap vi l t S) (hi:i<l.length) (hf:l[i].full=true) (hp:Qp l[i].part) (ho:a.op=2) (hn:3<=l[i].part.layers.length):
  Calls Tryz.prog 107 #[.pointer (some ⟨r,0,none⟩),.pointer (some ⟨gs,i * 7,none⟩),.agg #[.int .i64 a.op,.int .i64 a.slot,.int .i64 a.other,.string a.word,.string a.call.method,.string a.call.key,.int .i64 a.call.value,.string a.call.text,.int .i64 a.face,uA,uB],.int .i64 place] w (W8 r gs cap vi (l) t QO true S w):=by
 obtain⟨A3,c3,A5,c5,q0,q1,q2,q3,q4,q5,q6,r4,r6,hfr,hgl⟩:=h.hs.slotAt h.hl (by rw [<-h.hl];exact hi) hi
 obtain⟨sm1,sm2,sm3⟩:=Ya hp
 have hsf:∀q:Qh,(⟨l[i].full,q⟩:Qm)=⟨true,q⟩:=fun q=>by rw [hf]
 rw [hf] at q0
 obtain⟨p,hpp⟩:∃p,p=l[i].part:=⟨_,rfl⟩
 rw [<-hpp] at q1 q2 q3 q4 q5 q6 r4 r6 sm1 sm2 sm3 hp hn
 try rw [<-hpp]
 have z0:=hfr 0 (by omega);have z1:=hfr 1 (by omega);have z2:=hfr 2 (by omega);have z3:=hfr 3 (by omega);have z4:=hfr 4 (by omega);have z5:=hfr 5 (by omega);have z6:=hfr 6 (by omega)
 rw [Nat.add_zero] at z0
 have hrl:=Qn h.c0
 have lt0:=Qd h.lt
 have hgs0:=Qd h.gs.1
 have H:=Qd h
 have g0:gs<w.heap.size+1:=by omega
 have g1:gs<w.heap.size+1+1:=by omega
 have g2:gs<w.heap.size+1+1+1:=by omega
 have o2:(a.op==2)=true:=by rw [ho];rfl
 have o3:(a.op==3)=false:=by rw [ho];rfl
 have o6:(a.op==6)=false:=by rw [ho];rfl
 have o7:(a.op==7)=false:=by rw [ho];rfl
 have hn1:¬((p.layers.length:Int)<3):=by omega
 have hn2:decide ((p.layers.length:Int)<3)=false:=decide_eq_false hn1
 clear h hi hf hpp hfr ho hp r4 r6 sm1 sm2 sm3 hsf hn
 go_enter Tryz.func107,Tryz.ntmps107
 go_wp2_with fail
 refine bodyPost_ret (v:=.tuple #[.agg #[.int .i64 0,.int .i64 0,.int .i64 0,.int .i64 0],.bool true]) (by simp only [results,Tryz.results107];go_simp) rfl ?_
 have hgs:=hgs0.out
 exact⟨S,rfl,(H.out.kz Qb.now),fun y hy=>.inl hy,Qb.now⟩
theorem vO (r gs cap:Nat) (vi:Value) (l:List Qm) (t:Int) (S:List Nat) (w:World) (a:Qa) (uA uB:Value) (i:Nat) (place:Int) (h:RB w r gs cap vi l t S) (hi:i<l.length) (hf:l[i].full=true) (hp:Qp l[i].part) (ho:a.op=2) (hn:¬3<=l[i].part.layers.length) (hc:¬(Zg l[i].part a.word).2.code=1):
  Calls Tryz.prog 107 #[.pointer (some ⟨r,0,none⟩),.pointer (some ⟨gs,i * 7,none⟩),.agg #[.int .i64 a.op,.int .i64 a.slot,.int .i64 a.other,.string a.word,.string a.call.method,.string a.call.key,.int .i64 a.call.value,.string a.call.text,.int .i64 a.face,uA,uB],.int .i64 place] w (W8 r gs cap vi (l.set i ⟨true,(Zg l[i].part a.word).1⟩) t QO true S w):=by
 obtain⟨A3,c3,A5,c5,q0,q1,q2,q3,q4,q5,q6,r4,r6,hfr,hgl⟩:=h.hs.slotAt h.hl (by rw [<-h.hl];exact hi) hi
 obtain⟨sm1,sm2,sm3⟩:=Ya hp
 have hsf:∀q:Qh,(⟨l[i].full,q⟩:Qm)=⟨true,q⟩:=fun q=>by rw [hf]
 rw [hf] at q0
 obtain⟨p,hpp⟩:∃p,p=l[i].part:=⟨_,rfl⟩
 rw [<-hpp] at q1 q2 q3 q4 q5 q6 r4 r6 sm1 sm2 sm3 hp hc hn
 try rw [<-hpp]
 have z0:=hfr 0 (by omega);have z1:=hfr 1 (by omega);have z2:=hfr 2 (by omega);have z3:=hfr 3 (by omega);have z4:=hfr 4 (by omega);have z5:=hfr 5 (by omega);have z6:=hfr 6 (by omega)
 rw [Nat.add_zero] at z0
 have hrl:=Qn h.c0
 have lt0:=Qd h.lt
 have hgs0:=Qd h.gs.1
 have H:=Qd h
 have g0:gs<w.heap.size+1:=by omega
 have g1:gs<w.heap.size+1+1:=by omega
 have g2:gs<w.heap.size+1+1+1:=by omega
 have o2:(a.op==2)=true:=by rw [ho];rfl
 have o3:(a.op==3)=false:=by rw [ho];rfl
 have o6:(a.op==6)=false:=by rw [ho];rfl
 have o7:(a.op==7)=false:=by rw [ho];rfl
 have CL:=Qd (fun W (hW:Qb [] w W)=>U4 p a.word _ _ w.heap.size W (r4.cz hW (Nat.le_refl _)) (r6.cz hW (Nat.le_refl _)) hW.size sm1 sm2 sm3)
 obtain⟨q,hq⟩:∃q,q=Zg p a.word:=⟨_,rfl⟩
 rw [<-hq] at CL hc ⊢
 have hc1:(q.2.code==1)=false:=by simpa using hc
 have hn1:(p.layers.length:Int)<3:=by omega
 have HI:=Qd hi
 have HSF:=Qd hsf
 clear h hf hpp hfr ho hq hp r4 r6 sm1 sm2 sm3 hsf hc hn
 go_enter Tryz.func107,Tryz.ntmps107
 go_wp2_with fail
 go_region_law (first|(go_simp;go_at_call 133;(with_reducible refine(CL.out _ Qb.now).mono ?_);rintro e w1 ⟨B3,b3,B5,b5,rfl,nl⟩;obtain⟨S1,hl10,lo10,c1⟩:=nl;(have s1:=c1.size);(have v1:w.heap.size+3<=w1.heap.size:=by(try simp at s1)<;>omega);(have ys1:=c1.ce gs);(have zs1:=c1.fe gs);(have xs1:gs<w1.heap.size:=by omega);(obtain⟨ya1,za1,xa1,yc1,zc1,xc1,yd1,zd1,xd1, -⟩:=c1.low 3 (w.heap.size) (fun x hx=>by simp at hx));(have D1:Hid (Qb [] w w1):=Qd (Qb.tz Qb.now c1));(have lo1:Hid (∀y,y∈S1->w.heap.size+3<=y/\y<w1.heap.size):=Qd (fun y hy=>⟨by have:=lo10 y hy;(try simp at this)<;>omega,hl10.lt y hy⟩));(have hl1:=Qd hl10);(have RB1:=Qd ((H.out.kz Qb.now).kz c1));clear hl10 lo10 c1 s1;simp only [])|fail)
 all_goals
  go_wp2_with fail
  refine bodyPost_ret (v:=.tuple #[.agg #[.int .i64 0,.int .i64 0,.int .i64 0,.int .i64 0],.bool true]) (by simp only [results,Tryz.results107];go_simp) rfl ?_
  have hgs:=hgs0.out
  obtain⟨S',rb',hS',_,cg⟩:=RB1.out.putPart HI.out hl1.out (fun y hy hy2=>by have:=lo1.out y hy;have:=lt0.out y hy2;omega)
  rw [HSF.out] at rb'
  simp only [Xd,Nat.add_assoc,Nat.reduceAdd] at rb' cg
  exact⟨S',rfl,rb'.keep (T:=[w.heap.size+1,w.heap.size+1+1]) Qb.now (by have:=lt0.out r (by simp);simp;omega) (fun y hy=>by rcases hS' y hy with h|h;(have:=lt0.out y (by simp [h]);simp;omega);(have:=lo1.out y h;simp;omega)),fun y hy=>(hS' y hy).imp id (fun h=>by have:=lo1.out y h;omega),(Qb.to (D1.out.mono (by simp):Qb (r::S) w w1))⟩
theorem yB (r gs cap:Nat) (vi:Value) (l:List Qm) (t:Int) (S:List Nat) (w:World) (a:Qa) (uA uB:Value) (i:Nat) (place:Int) (h:RB w r gs cap vi l t S) (hi:i<l.length) (hf:l[i].full=true) (hp:Qp l[i].part) (ho:a.op=2) (hn:¬3<=l[i].part.layers.length) (hc:(Zg l[i].part a.word).2.code=1):
  Calls Tryz.prog 107 #[.pointer (some ⟨r,0,none⟩),.pointer (some ⟨gs,i * 7,none⟩),.agg #[.int .i64 a.op,.int .i64 a.slot,.int .i64 a.other,.string a.word,.string a.call.method,.string a.call.key,.int .i64 a.call.value,.string a.call.text,.int .i64 a.face,uA,uB],.int .i64 place] w (W8 r gs cap vi (l.set i ⟨true,(Zg l[i].part a.word).1⟩) t ⟨1,place,(Zg l[i].part a.word).2.want,(Zg l[i].part a.word).2.had⟩ false S w):=by
 obtain⟨A3,c3,A5,c5,q0,q1,q2,q3,q4,q5,q6,r4,r6,hfr,hgl⟩:=h.hs.slotAt h.hl (by rw [<-h.hl];exact hi) hi
 obtain⟨sm1,sm2,sm3⟩:=Ya hp
 have hsf:∀q:Qh,(⟨l[i].full,q⟩:Qm)=⟨true,q⟩:=fun q=>by rw [hf]
 rw [hf] at q0
 obtain⟨p,hpp⟩:∃p,p=l[i].part:=⟨_,rfl⟩
 rw [<-hpp] at q1 q2 q3 q4 q5 q6 r4 r6 sm1 sm2 sm3 hp hc hn
 try rw [<-hpp]
 have z0:=hfr 0 (by omega);have z1:=hfr 1 (by omega);have z2:=hfr 2 (by omega);have z3:=hfr 3 (by omega);have z4:=hfr 4 (by omega);have z5:=hfr 5 (by omega);have z6:=hfr 6 (by omega)
 rw [Nat.add_zero] at z0
 have hrl:=Qn h.c0
 have lt0:=Qd h.lt
 have hgs0:=Qd h.gs.1
 have H:=Qd h
 have g0:gs<w.heap.size+1:=by omega
 have g1:gs<w.heap.size+1+1:=by omega
 have g2:gs<w.heap.size+1+1+1:=by omega
 have o2:(a.op==2)=true:=by rw [ho];rfl
 have o3:(a.op==3)=false:=by rw [ho];rfl
 have o6:(a.op==6)=false:=by rw [ho];rfl
 have o7:(a.op==7)=false:=by rw [ho];rfl
 have CL:=Qd (fun W (hW:Qb [] w W)=>U4 p a.word _ _ w.heap.size W (r4.cz hW (Nat.le_refl _)) (r6.cz hW (Nat.le_refl _)) hW.size sm1 sm2 sm3)
 obtain⟨q,hq⟩:∃q,q=Zg p a.word:=⟨_,rfl⟩
 rw [<-hq] at CL hc ⊢
 have hc1:(q.2.code==1)=true:=by simpa using hc
 have hn1:(p.layers.length:Int)<3:=by omega
 have HI:=Qd hi
 have HSF:=Qd hsf
 clear h hf hpp hfr ho hq hp r4 r6 sm1 sm2 sm3 hsf hc hn
 go_enter Tryz.func107,Tryz.ntmps107
 go_wp2_with fail
 go_region_law (first|(go_simp;go_at_call 133;(with_reducible refine(CL.out _ Qb.now).mono ?_);rintro e w1 ⟨B3,b3,B5,b5,rfl,nl⟩;obtain⟨S1,hl10,lo10,c1⟩:=nl;(have s1:=c1.size);(have v1:w.heap.size+3<=w1.heap.size:=by(try simp at s1)<;>omega);(have ys1:=c1.ce gs);(have zs1:=c1.fe gs);(have xs1:gs<w1.heap.size:=by omega);(obtain⟨ya1,za1,xa1,yc1,zc1,xc1,yd1,zd1,xd1, -⟩:=c1.low 3 (w.heap.size) (fun x hx=>by simp at hx));(have D1:Hid (Qb [] w w1):=Qd (Qb.tz Qb.now c1));(have lo1:Hid (∀y,y∈S1->w.heap.size+3<=y/\y<w1.heap.size):=Qd (fun y hy=>⟨by have:=lo10 y hy;(try simp at this)<;>omega,hl10.lt y hy⟩));(have hl1:=Qd hl10);(have RB1:=Qd ((H.out.kz Qb.now).kz c1));clear hl10 lo10 c1 s1;simp only [])|fail)
 all_goals
  go_wp2_with fail
  refine bodyPost_ret (v:=.tuple #[.agg #[.int .i64 1,.int .i64 place,.int .i64 q.2.want,.int .i64 q.2.had],.bool false]) (by simp only [results,Tryz.results107];go_simp) rfl ?_
  have hgs:=hgs0.out
  obtain⟨S',rb',hS',_,cg⟩:=RB1.out.putPart HI.out hl1.out (fun y hy hy2=>by have:=lo1.out y hy;have:=lt0.out y hy2;omega)
  rw [HSF.out] at rb'
  simp only [Xd,Nat.add_assoc,Nat.reduceAdd] at rb' cg
  exact⟨S',rfl,rb'.keep (T:=[w.heap.size+1,w.heap.size+1+1]) Qb.now (by have:=lt0.out r (by simp);simp;omega) (fun y hy=>by rcases hS' y hy with h|h;(have:=lt0.out y (by simp [h]);simp;omega);(have:=lo1.out y h;simp;omega)),fun y hy=>(hS' y hy).imp id (fun h=>by have:=lo1.out y h;omega),(Qb.to (D1.out.mono (by simp):Qb (r::S) w w1))⟩
theorem vK (r gs cap:Nat) (vi:Value) (l:List Qm) (t:Int) (S:List Nat) (w:World) (a:Qa) (uA uB:Value) (i:Nat) (place:Int) (h:RB w r gs cap vi l t S) (hi:i<l.length) (hf:l[i].full=true) (hp:Qp l[i].part) (ho:a.op=7) (ht:a.call.text.size<=1048575) (hk:a.call.key.size<=1048576) (hE:Km w) (hc:¬(QC l[i].part a.call).2.code=1):
  Calls Tryz.prog 107 #[.pointer (some ⟨r,0,none⟩),.pointer (some ⟨gs,i * 7,none⟩),.agg #[.int .i64 a.op,.int .i64 a.slot,.int .i64 a.other,.string a.word,.string a.call.method,.string a.call.key,.int .i64 a.call.value,.string a.call.text,.int .i64 a.face,uA,uB],.int .i64 place] w (W8 r gs cap vi (l.set i ⟨true,(QC l[i].part a.call).1⟩) t QO true S w):=by
 obtain⟨A3,c3,A5,c5,q0,q1,q2,q3,q4,q5,q6,r4,r6,hfr,hgl⟩:=h.hs.slotAt h.hl (by rw [<-h.hl];exact hi) hi
 obtain⟨sm1,sm2,sm3⟩:=Ya hp
 have hsf:∀q:Qh,(⟨l[i].full,q⟩:Qm)=⟨true,q⟩:=fun q=>by rw [hf]
 rw [hf] at q0
 obtain⟨p,hpp⟩:∃p,p=l[i].part:=⟨_,rfl⟩
 rw [<-hpp] at q1 q2 q3 q4 q5 q6 r4 r6 sm1 sm2 sm3 hp hc
 try rw [<-hpp]
 have z0:=hfr 0 (by omega);have z1:=hfr 1 (by omega);have z2:=hfr 2 (by omega);have z3:=hfr 3 (by omega);have z4:=hfr 4 (by omega);have z5:=hfr 5 (by omega);have z6:=hfr 6 (by omega)
 rw [Nat.add_zero] at z0
 have hrl:=Qn h.c0
 have lt0:=Qd h.lt
 have hgs0:=Qd h.gs.1
 have H:=Qd h
 have g0:gs<w.heap.size+1:=by omega
 have g1:gs<w.heap.size+1+1:=by omega
 have g2:gs<w.heap.size+1+1+1:=by omega
 have o2:(a.op==2)=false:=by rw [ho];rfl
 have o3:(a.op==3)=false:=by rw [ho];rfl
 have o6:(a.op==6)=false:=by rw [ho];rfl
 have o7:(a.op==7)=true:=by rw [ho];rfl
 have CL:=Qd (fun W (hW:Qb [] w W)=>UX p a.call _ _ w.heap.size W (r4.cz hW (Nat.le_refl _)) (r6.cz hW (Nat.le_refl _)) hW.size sm1 sm2 sm3 ht hk (hE.keep hW))
 obtain⟨q,hq⟩:∃q,q=QC p a.call:=⟨_,rfl⟩
 rw [<-hq] at CL hc ⊢
 have hc1:(q.2.code==1)=false:=by simpa using hc
 have HI:=Qd hi
 have HSF:=Qd hsf
 clear h hf hpp hfr ho hq hp r4 r6 sm1 sm2 sm3 hsf hc ht hk hE
 go_enter Tryz.func107,Tryz.ntmps107
 go_wp2_with fail
 go_region_law (first|(go_simp;go_at_call 166;(with_reducible refine(CL.out _ Qb.now).mono ?_);rintro e w1 ⟨B3,b3,B5,b5,rfl,nl⟩;obtain⟨S1,hl10,lo10,c1⟩:=nl;(have s1:=c1.size);(have v1:w.heap.size+3<=w1.heap.size:=by(try simp at s1)<;>omega);(have ys1:=c1.ce gs);(have zs1:=c1.fe gs);(have xs1:gs<w1.heap.size:=by omega);(obtain⟨ya1,za1,xa1,yc1,zc1,xc1,yd1,zd1,xd1, -⟩:=c1.low 3 (w.heap.size) (fun x hx=>by simp at hx));(have D1:Hid (Qb [] w w1):=Qd (Qb.tz Qb.now c1));(have lo1:Hid (∀y,y∈S1->w.heap.size+3<=y/\y<w1.heap.size):=Qd (fun y hy=>⟨by have:=lo10 y hy;(try simp at this)<;>omega,hl10.lt y hy⟩));(have hl1:=Qd hl10);(have RB1:=Qd ((H.out.kz Qb.now).kz c1));clear hl10 lo10 c1 s1;simp only [])|fail)
 all_goals
  go_wp2_with fail
  refine bodyPost_ret (v:=.tuple #[.agg #[.int .i64 0,.int .i64 0,.int .i64 0,.int .i64 0],.bool true]) (by simp only [results,Tryz.results107];go_simp) rfl ?_
  have hgs:=hgs0.out
  obtain⟨S',rb',hS',_,cg⟩:=RB1.out.putPart HI.out hl1.out (fun y hy hy2=>by have:=lo1.out y hy;have:=lt0.out y hy2;omega)
  rw [HSF.out] at rb'
  simp only [Xd,Nat.add_assoc,Nat.reduceAdd] at rb' cg
  exact⟨S',rfl,rb'.keep (T:=[w.heap.size+1,w.heap.size+1+1]) Qb.now (by have:=lt0.out r (by simp);simp;omega) (fun y hy=>by rcases hS' y hy with h|h;(have:=lt0.out y (by simp [h]);simp;omega);(have:=lo1.out y h;simp;omega)),fun y hy=>(hS' y hy).imp id (fun h=>by have:=lo1.out y h;omega),(Qb.to (D1.out.mono (by simp):Qb (r::S) w w1))⟩
theorem yF (r gs cap:Nat) (vi:Value) (l:List Qm) (t:Int) (S:List Nat) (w:World) (a:Qa) (uA uB:Value) (i:Nat) (place:Int) (h:RB w r gs cap vi l t S) (hi:i<l.length) (hf:l[i].full=true) (hp:Qp l[i].part) (ho:a.op=7) (ht:a.call.text.size<=1048575) (hk:a.call.key.size<=1048576) (hE:Km w) (hc:(QC l[i].part a.call).2.code=1):
  Calls Tryz.prog 107 #[.pointer (some ⟨r,0,none⟩),.pointer (some ⟨gs,i * 7,none⟩),.agg #[.int .i64 a.op,.int .i64 a.slot,.int .i64 a.other,.string a.word,.string a.call.method,.string a.call.key,.int .i64 a.call.value,.string a.call.text,.int .i64 a.face,uA,uB],.int .i64 place] w (W8 r gs cap vi (l.set i ⟨true,(QC l[i].part a.call).1⟩) t ⟨1,place,(QC l[i].part a.call).2.want,(QC l[i].part a.call).2.had⟩ false S w):=by
 obtain⟨A3,c3,A5,c5,q0,q1,q2,q3,q4,q5,q6,r4,r6,hfr,hgl⟩:=h.hs.slotAt h.hl (by rw [<-h.hl];exact hi) hi
 obtain⟨sm1,sm2,sm3⟩:=Ya hp
 have hsf:∀q:Qh,(⟨l[i].full,q⟩:Qm)=⟨true,q⟩:=fun q=>by rw [hf]
 rw [hf] at q0
 obtain⟨p,hpp⟩:∃p,p=l[i].part:=⟨_,rfl⟩
 rw [<-hpp] at q1 q2 q3 q4 q5 q6 r4 r6 sm1 sm2 sm3 hp hc
 try rw [<-hpp]
 have z0:=hfr 0 (by omega);have z1:=hfr 1 (by omega);have z2:=hfr 2 (by omega);have z3:=hfr 3 (by omega);have z4:=hfr 4 (by omega);have z5:=hfr 5 (by omega);have z6:=hfr 6 (by omega)
 rw [Nat.add_zero] at z0
 have hrl:=Qn h.c0
 have lt0:=Qd h.lt
 have hgs0:=Qd h.gs.1
 have H:=Qd h
 have g0:gs<w.heap.size+1:=by omega
 have g1:gs<w.heap.size+1+1:=by omega
 have g2:gs<w.heap.size+1+1+1:=by omega
 have o2:(a.op==2)=false:=by rw [ho];rfl
 have o3:(a.op==3)=false:=by rw [ho];rfl
 have o6:(a.op==6)=false:=by rw [ho];rfl
 have o7:(a.op==7)=true:=by rw [ho];rfl
 have CL:=Qd (fun W (hW:Qb [] w W)=>UX p a.call _ _ w.heap.size W (r4.cz hW (Nat.le_refl _)) (r6.cz hW (Nat.le_refl _)) hW.size sm1 sm2 sm3 ht hk (hE.keep hW))
 obtain⟨q,hq⟩:∃q,q=QC p a.call:=⟨_,rfl⟩
 rw [<-hq] at CL hc ⊢
 have hc1:(q.2.code==1)=true:=by simpa using hc
 have HI:=Qd hi
 have HSF:=Qd hsf
 clear h hf hpp hfr ho hq hp r4 r6 sm1 sm2 sm3 hsf hc ht hk hE
 go_enter Tryz.func107,Tryz.ntmps107
 go_wp2_with fail
 go_region_law (first|(go_simp;go_at_call 166;(with_reducible refine(CL.out _ Qb.now).mono ?_);rintro e w1 ⟨B3,b3,B5,b5,rfl,nl⟩;obtain⟨S1,hl10,lo10,c1⟩:=nl;(have s1:=c1.size);(have v1:w.heap.size+3<=w1.heap.size:=by(try simp at s1)<;>omega);(have ys1:=c1.ce gs);(have zs1:=c1.fe gs);(have xs1:gs<w1.heap.size:=by omega);(obtain⟨ya1,za1,xa1,yc1,zc1,xc1,yd1,zd1,xd1, -⟩:=c1.low 3 (w.heap.size) (fun x hx=>by simp at hx));(have D1:Hid (Qb [] w w1):=Qd (Qb.tz Qb.now c1));(have lo1:Hid (∀y,y∈S1->w.heap.size+3<=y/\y<w1.heap.size):=Qd (fun y hy=>⟨by have:=lo10 y hy;(try simp at this)<;>omega,hl10.lt y hy⟩));(have hl1:=Qd hl10);(have RB1:=Qd ((H.out.kz Qb.now).kz c1));clear hl10 lo10 c1 s1;simp only [])|fail)
 all_goals
  go_wp2_with fail
  refine bodyPost_ret (v:=.tuple #[.agg #[.int .i64 1,.int .i64 place,.int .i64 q.2.want,.int .i64 q.2.had],.bool false]) (by simp only [results,Tryz.results107];go_simp) rfl ?_
  have hgs:=hgs0.out
  obtain⟨S',rb',hS',_,cg⟩:=RB1.out.putPart HI.out hl1.out (fun y hy hy2=>by have:=lo1.out y hy;have:=lt0.out y hy2;omega)
  rw [HSF.out] at rb'
  simp only [Xd,Nat.add_assoc,Nat.reduceAdd] at rb' cg
  exact⟨S',rfl,rb'.keep (T:=[w.heap.size+1,w.heap.size+1+1]) Qb.now (by have:=lt0.out r (by simp);simp;omega) (fun y hy=>by rcases hS' y hy with h|h;(have:=lt0.out y (by simp [h]);simp;omega);(have:=lo1.out y h;simp;omega)),fun y hy=>(hS' y hy).imp id (fun h=>by have:=lo1.out y h;omega),(Qb.to (D1.out.mono (by simp):Qb (r::S) w w1))⟩
end Go.Proofs.YtlnkgcdeljhjcaaGreatDoor
