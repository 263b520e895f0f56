/- l8Block of the reference, by kind of action. Conditions: none. Written by a program. -/
import Derived.Test.YtjigcplpkhpgnaaGreatDoorRunBs
import Derived.BigRegion
import Derived.Deep.RegionLaw
import Derived.Deep.Cut
set_option maxRecDepth 100000
set_option maxHeartbeats 8000000
namespace Go.Proofs.YtjigcplpkhpgnaaGreatDoor
open Go.RowKit
theorem l8Block_ifA (gs cap:Nat) (Ai:Option Addr) (ni ci:Nat) (l:List SlotT) (t:Int) (S:List Nat) (w:World) (a:ActionT) (uA uB:Value) (place:Int) (h:SB w gs cap l S) (ho:a.op=8) (n:Int) (hn0:0<=n) (hn3:n<=3) (hodd:n % 2=1) (l2:List SlotT) (t2:Int) (en:EndT) (hp0:0<=place) (hp1:place<=1000) (TK:∀W,Chg [] w W->Calls Tryz.prog 72 #[.agg #[.slice (some ⟨gs,0,none⟩) 3 cap,.slice Ai ni ci,.int .i64 t,.int .i64 0,.int .i64 0,.int .i64 0,.int .i64 0]] W (fun e w'=>e= .returned (.tuple #[.agg #[.slice (some ⟨gs,0,none⟩) 3 cap,.slice Ai ni ci,.int .i64 (t+1),.int .i64 0,.int .i64 0,.int .i64 0,.int .i64 0],.int .i64 n])/\Chg [] W w')) (LA:∀W,SB W gs cap l S->Chg S w W->Calls Tryz.prog 24 #[.agg #[.slice (some ⟨gs,0,none⟩) 3 cap,.slice Ai ni ci,.int .i64 (t+1),.int .i64 0,.int .i64 0,.int .i64 0,.int .i64 0],uA,.int .i64 (place+1)] W (RunE gs cap (.slice Ai ni ci) l2 t2 en S W)):
  Calls Tryz.prog 48 #[.agg #[.slice (some ⟨gs,0,none⟩) 3 cap,.slice Ai ni ci,.int .i64 t,.int .i64 0,.int .i64 0,.int .i64 0,.int .i64 0],.agg #[.int .i64 a.op,.int .i64 a.slot,.int .i64 a.other,.string a.word,.string a.call.method,.string a.call.key,.int .i64 a.call.value,.string a.call.text,.int .i64 a.face,uA,uB],.int .i64 place] w (RunE gs cap (.slice Ai ni ci) (l2) (t2) (en) S w):=by
 have lt0:=hid h.lt
 have hgs0:=hid h.gs.1
 have H:=hid h
 have o8:(a.op==8)=true:=by rw [ho];rfl
 have o9:(a.op==9)=false:=by rw [ho];rfl
 have d2:(n % 2==1)=true:=by rw [beq_iff_eq];exact hodd
 have TK1:=hid TK
 have LA1:=hid LA
 have wp1:IntKind.i64.wrap (place+1)=place+1:=wr_id (by omega) (by omega)
 clear h ho TK LA hodd
 go_enter Tryz.func48,Tryz.ntmps48
 go_wp2_with fail
 refine(TK1.out _ Chg.now).mono ?_
 rintro e w1 ⟨rfl,c1⟩
 have s1:=c1.size
 have v1:w.heap.size+3<=w1.heap.size:=by(try simp at s1)<;>omega
 obtain⟨yr1,zr1,xr1,ya1,za1,xa1,yo1,zo1,xo1, -⟩:=c1.low 3 (w.heap.size) (fun x hx=>by simp at hx)
 clear s1
 have D1:Hid (Chg [] w w1):=hid (Chg.trans0 Chg.now c1)
 obtain⟨er0_1,er1_1,er2_1,er3_1,er4_1,er5_1,er6_1⟩:Cs7 w1 (w.heap.size) (.slice (some ⟨gs,0,none⟩) 3 cap) (.slice Ai ni ci) (.int .i64 t) (.int .i64 0) (.int .i64 0) (.int .i64 0) (.int .i64 0):=.of yr1
 obtain⟨eo0_1,eo1_1,eo2_1,eo3_1,eo4_1,eo5_1,eo6_1⟩:Cs7 w1 (w.heap.size+1+1) (.slice none 0 0) (.slice none 0 0) (.int .i64 0) (.int .i64 0) (.int .i64 0) (.int .i64 0) (.int .i64 0):=.of yo1
 clear yr1 yo1
 have SB1:=hid ((H.out.keep0 Chg.now).keep0 c1)
 clear c1
 go_wp2_with fail
 refine(LA1.out _ (SB1.out.keep (T:=[w.heap.size]) Chg.now (fun y hy=>by have:=lt0.out y hy;simp;omega)) (Chg.to (D1.out.mono (by simp):Chg S w w1))).mono ?_
 rintro e w2 ⟨S2,rfl,sb2,hS2,c2⟩
 have s2:=c2.size
 have v2:w1.heap.size<=w2.heap.size:=by(try simp at s2)<;>omega
 obtain⟨yr2,zr2,xr2, -, -,xa2,yo2,zo2,xo2, -⟩:=c2.low 3 (w.heap.size) (fun x hx=>by have:=lt0.out _ hx;(try simp at this)<;>omega)
 clear s2
 obtain⟨eo0_2,eo1_2,eo2_2,eo3_2,eo4_2,eo5_2,eo6_2⟩:Cs7 w2 (w.heap.size+1+1) (.slice none 0 0) (.slice none 0 0) (.int .i64 0) (.int .i64 0) (.int .i64 0) (.int .i64 0) (.int .i64 0):=.of yo2
 clear yo2
 have lo2:Hid (∀y,y∈S2->y∈S∨w.heap.size+3<=y):=hid (fun y hy=>(hS2 y hy).imp id (fun h=>by(try simp at h)<;>omega))
 have D2:Hid (Chg S w w2):=hid (Chg.trans (S:=S) (Chg.to (D1.out.mono (by simp):Chg S w w1)) c2 (fun x hx=>.inl hx))
 have SB2:=hid sb2
 clear sb2 hS2 c2
 go_wp2_with fail
 refine bodyPost_ret (v:=.agg #[.slice (some ⟨gs,0,none⟩) 3 cap,.slice Ai ni ci,.int .i64 t2,.int .i64 en.code,.int .i64 en.place,.int .i64 en.want,.int .i64 en.had]) (by simp only [results,Tryz.results48];go_simp) rfl ?_
 exact⟨S2,rfl,SB2.out.keep (T:=[w.heap.size+1+1]) Chg.now (fun y hy=>by rcases lo2.out y hy with h|h;(have:=lt0.out y h;simp;omega);(simp;omega)),fun y hy=>(lo2.out y hy).imp id (fun h=>by omega),(Chg.to D2.out)⟩
theorem l8Block_ifB (gs cap:Nat) (Ai:Option Addr) (ni ci:Nat) (l:List SlotT) (t:Int) (S:List Nat) (w:World) (a:ActionT) (uA uB:Value) (place:Int) (h:SB w gs cap l S) (ho:a.op=8) (n:Int) (hn0:0<=n) (hn3:n<=3) (hodd:¬n % 2=1) (l2:List SlotT) (t2:Int) (en:EndT) (hp0:0<=place) (hp1:place<=1000) (TK:∀W,Chg [] w W->Calls Tryz.prog 72 #[.agg #[.slice (some ⟨gs,0,none⟩) 3 cap,.slice Ai ni ci,.int .i64 t,.int .i64 0,.int .i64 0,.int .i64 0,.int .i64 0]] W (fun e w'=>e= .returned (.tuple #[.agg #[.slice (some ⟨gs,0,none⟩) 3 cap,.slice Ai ni ci,.int .i64 (t+1),.int .i64 0,.int .i64 0,.int .i64 0,.int .i64 0],.int .i64 n])/\Chg [] W w')) (m:Int) (hm0:0<=m) (hm1:m<=1000) (PS:∀W,Chg S w W->Calls Tryz.prog 43 #[uA] W (fun e w'=>e= .returned (.int .i64 m)/\Chg [] W w')) (LA:∀W,SB W gs cap l S->Chg S w W->Calls Tryz.prog 24 #[.agg #[.slice (some ⟨gs,0,none⟩) 3 cap,.slice Ai ni ci,.int .i64 (t+1),.int .i64 0,.int .i64 0,.int .i64 0,.int .i64 0],uB,.int .i64 (place+1+m)] W (RunE gs cap (.slice Ai ni ci) l2 t2 en S W)):
  Calls Tryz.prog 48 #[.agg #[.slice (some ⟨gs,0,none⟩) 3 cap,.slice Ai ni ci,.int .i64 t,.int .i64 0,.int .i64 0,.int .i64 0,.int .i64 0],.agg #[.int .i64 a.op,.int .i64 a.slot,.int .i64 a.other,.string a.word,.string a.call.method,.string a.call.key,.int .i64 a.call.value,.string a.call.text,.int .i64 a.face,uA,uB],.int .i64 place] w (RunE gs cap (.slice Ai ni ci) (l2) (t2) (en) S w):=by
 have lt0:=hid h.lt
 have hgs0:=hid h.gs.1
 have H:=hid h
 have o8:(a.op==8)=true:=by rw [ho];rfl
 have o9:(a.op==9)=false:=by rw [ho];rfl
 have d2:(n % 2==1)=false:=by rw [beq_eq_false_iff_ne];exact hodd
 have TK1:=hid TK
 have LA1:=hid LA
 have wp1:IntKind.i64.wrap (place+1)=place+1:=wr_id (by omega) (by omega)
 have PS1:=hid PS
 have wp2:IntKind.i64.wrap (place+1+m)=place+1+m:=wr_id (by omega) (by omega)
 clear h ho TK LA hodd PS
 go_enter Tryz.func48,Tryz.ntmps48
 go_wp2_with fail
 refine(TK1.out _ Chg.now).mono ?_
 rintro e w1 ⟨rfl,c1⟩
 have s1:=c1.size
 have v1:w.heap.size+3<=w1.heap.size:=by(try simp at s1)<;>omega
 obtain⟨yr1,zr1,xr1,ya1,za1,xa1,yo1,zo1,xo1, -⟩:=c1.low 3 (w.heap.size) (fun x hx=>by simp at hx)
 clear s1
 have D1:Hid (Chg [] w w1):=hid (Chg.trans0 Chg.now c1)
 obtain⟨er0_1,er1_1,er2_1,er3_1,er4_1,er5_1,er6_1⟩:Cs7 w1 (w.heap.size) (.slice (some ⟨gs,0,none⟩) 3 cap) (.slice Ai ni ci) (.int .i64 t) (.int .i64 0) (.int .i64 0) (.int .i64 0) (.int .i64 0):=.of yr1
 obtain⟨eo0_1,eo1_1,eo2_1,eo3_1,eo4_1,eo5_1,eo6_1⟩:Cs7 w1 (w.heap.size+1+1) (.slice none 0 0) (.slice none 0 0) (.int .i64 0) (.int .i64 0) (.int .i64 0) (.int .i64 0) (.int .i64 0):=.of yo1
 clear yr1 yo1
 have SB1:=hid ((H.out.keep0 Chg.now).keep0 c1)
 clear c1
 go_wp2_with fail
 go_region_law (first|(go_simp;go_at_call 43;(with_reducible refine(PS1.out _ (Chg.to (D1.out.mono (by simp):Chg S w w1))).mono ?_);rintro e w3 ⟨rfl,c3⟩;(have s3:=c3.size);(have v3:w1.heap.size<=w3.heap.size:=by(try simp at s3)<;>omega);(obtain⟨yr3,zr3,xr3,ya3,za3,xa3,yo3,zo3,xo3, -⟩:=c3.low 3 (w.heap.size) (fun x hx=>by simp at hx));(have D3:Hid (Chg S w w3):=hid (Chg.trans0 (Chg.to (D1.out.mono (by simp):Chg S w w1)) c3));(have SB3:=hid ((SB1.out.keep (T:=[w.heap.size]) Chg.now (fun y hy=>by have:=lt0.out y hy;simp;omega)).keep0 c3));(obtain⟨er0_3,er1_3,er2_3,er3_3,er4_3,er5_3,er6_3⟩:Cs7 w3 (w.heap.size) (.slice (some ⟨gs,0,none⟩) 3 cap) (.slice Ai ni ci) (.int .i64 (t+1)) (.int .i64 0) (.int .i64 0) (.int .i64 0) (.int .i64 0):=.of yr3);(obtain⟨eo0_3,eo1_3,eo2_3,eo3_3,eo4_3,eo5_3,eo6_3⟩:Cs7 w3 (w.heap.size+1+1) (.slice none 0 0) (.slice none 0 0) (.int .i64 0) (.int .i64 0) (.int .i64 0) (.int .i64 0) (.int .i64 0):=.of yo3);(clear yr3 yo3);clear c3 s3;simp only [])|(go_simp;go_at_call 24;(with_reducible refine(LA1.out _ (SB3.out.keep0 Chg.now) (Chg.to D3.out)).mono ?_);rintro e w2 ⟨S2,rfl,sb2,hS2,c2⟩;(have s2:=c2.size);(have v2:w3.heap.size<=w2.heap.size:=by(try simp at s2)<;>omega);(obtain⟨-, -,xr2, -, -,xa2,yo2,zo2,xo2, -⟩:=c2.low 3 (w.heap.size) (fun x hx=>by have:=lt0.out _ hx;(try simp at this)<;>omega));(have lo2:Hid (∀y,y∈S2->y∈S∨w.heap.size+3<=y):=hid (fun y hy=>(hS2 y hy).imp id (fun h=>by(try simp at h)<;>omega)));(have D2:Hid (Chg S w w2):=hid (Chg.trans (S:=S) (Chg.to D3.out) c2 (fun x hx=>.inl hx)));(have SB2:=hid sb2);(obtain⟨eo0_2,eo1_2,eo2_2,eo3_2,eo4_2,eo5_2,eo6_2⟩:Cs7 w2 (w.heap.size+1+1) (.slice none 0 0) (.slice none 0 0) (.int .i64 0) (.int .i64 0) (.int .i64 0) (.int .i64 0) (.int .i64 0):=.of yo2);(clear yo2);clear sb2 hS2 c2 s2;simp only [])|fail)
 all_goals
  go_wp2_with fail
  refine bodyPost_ret (v:=.agg #[.slice (some ⟨gs,0,none⟩) 3 cap,.slice Ai ni ci,.int .i64 t2,.int .i64 en.code,.int .i64 en.place,.int .i64 en.want,.int .i64 en.had]) (by simp only [results,Tryz.results48];go_simp) rfl ?_
  exact⟨S2,rfl,SB2.out.keep (T:=[w.heap.size+1+1]) Chg.now (fun y hy=>by rcases lo2.out y hy with h|h;(have:=lt0.out y h;simp;omega);(simp;omega)),fun y hy=>(lo2.out y hy).imp id (fun h=>by omega),(Chg.to D2.out)⟩
theorem l8Block_try0 (gs cap:Nat) (Ai:Option Addr) (ni ci:Nat) (l:List SlotT) (t:Int) (S:List Nat) (w:World) (a:ActionT) (uA uB:Value) (place:Int) (h:SB w gs cap l S) (ho:a.op=10) (l1:List SlotT) (t1:Int) (e1:EndT) (hp0:0<=place) (hp1:place<=1000) (LA:∀W,SB W gs cap l S->Chg S w W->Calls Tryz.prog 24 #[.agg #[.slice (some ⟨gs,0,none⟩) 3 cap,.slice Ai ni ci,.int .i64 t,.int .i64 0,.int .i64 0,.int .i64 0,.int .i64 0],uA,.int .i64 (place+1)] W (RunE gs cap (.slice Ai ni ci) l1 t1 e1 S W)) (hc:e1.code≠1):
  Calls Tryz.prog 48 #[.agg #[.slice (some ⟨gs,0,none⟩) 3 cap,.slice Ai ni ci,.int .i64 t,.int .i64 0,.int .i64 0,.int .i64 0,.int .i64 0],.agg #[.int .i64 a.op,.int .i64 a.slot,.int .i64 a.other,.string a.word,.string a.call.method,.string a.call.key,.int .i64 a.call.value,.string a.call.text,.int .i64 a.face,uA,uB],.int .i64 place] w (RunE gs cap (.slice Ai ni ci) (l1) (t1) (e1) S w):=by
 have lt0:=hid h.lt
 have hgs0:=hid h.gs.1
 have H:=hid h
 have o8:(a.op==8)=false:=by rw [ho];rfl
 have o9:(a.op==9)=false:=by rw [ho];rfl
 have LA1:=hid LA
 have wp1:IntKind.i64.wrap (place+1)=place+1:=wr_id (by omega) (by omega)
 have e2:(e1.code==1)=false:=by simp [hc]
 clear h ho LA hc
 go_enter Tryz.func48,Tryz.ntmps48
 go_wp2_with fail
 refine(LA1.out _ (H.out.keep0 Chg.now) Chg.now).mono ?_
 rintro e w1 ⟨S1,rfl,sb1,hS1,c1⟩
 have s1:=c1.size
 have v1:w.heap.size+3<=w1.heap.size:=by(try simp at s1)<;>omega
 obtain⟨yr1,zr1,xr1,ya1,za1,xa1,yo1,zo1,xo1, -⟩:=c1.low 3 (w.heap.size) (fun x hx=>by have:=lt0.out _ hx;(try simp at this)<;>omega)
 clear s1
 obtain⟨er0_1,er1_1,er2_1,er3_1,er4_1,er5_1,er6_1⟩:Cs7 w1 (w.heap.size) (.slice (some ⟨gs,0,none⟩) 3 cap) (.slice Ai ni ci) (.int .i64 t) (.int .i64 0) (.int .i64 0) (.int .i64 0) (.int .i64 0):=.of yr1
 obtain⟨eo0_1,eo1_1,eo2_1,eo3_1,eo4_1,eo5_1,eo6_1⟩:Cs7 w1 (w.heap.size+1+1) (.slice none 0 0) (.slice none 0 0) (.int .i64 0) (.int .i64 0) (.int .i64 0) (.int .i64 0) (.int .i64 0):=.of yo1
 clear yr1 yo1
 have lo1:Hid (∀y,y∈S1->y∈S∨w.heap.size+3<=y):=hid (fun y hy=>(hS1 y hy).imp id (fun h=>by(try simp at h)<;>omega))
 have D1:Hid (Chg S w w1):=hid (Chg.trans (S:=S) Chg.now c1 (fun x hx=>.inl hx))
 have SB1:=hid sb1
 clear sb1 hS1 c1
 go_wp2_with fail
 refine bodyPost_ret (v:=.agg #[.slice (some ⟨gs,0,none⟩) 3 cap,.slice Ai ni ci,.int .i64 t1,.int .i64 e1.code,.int .i64 e1.place,.int .i64 e1.want,.int .i64 e1.had]) (by simp only [results,Tryz.results48];go_simp) rfl ?_
 exact⟨S1,rfl,SB1.out.keep (T:=[w.heap.size,w.heap.size+1+1]) Chg.now (fun y hy=>by rcases lo1.out y hy with h|h;(have:=lt0.out y h;simp;omega);(simp;omega)),fun y hy=>(lo1.out y hy).imp id (fun h=>by omega),(Chg.to D1.out)⟩
theorem l8Block_try1 (gs cap:Nat) (Ai:Option Addr) (ni ci:Nat) (l:List SlotT) (t:Int) (S:List Nat) (w:World) (a:ActionT) (uA uB:Value) (place:Int) (h:SB w gs cap l S) (ho:a.op=10) (l1:List SlotT) (t1:Int) (e1:EndT) (hp0:0<=place) (hp1:place<=1000) (LA:∀W,SB W gs cap l S->Chg S w W->Calls Tryz.prog 24 #[.agg #[.slice (some ⟨gs,0,none⟩) 3 cap,.slice Ai ni ci,.int .i64 t,.int .i64 0,.int .i64 0,.int .i64 0,.int .i64 0],uA,.int .i64 (place+1)] W (RunE gs cap (.slice Ai ni ci) l1 t1 e1 S W)) (hc:e1.code=1) (l2:List SlotT) (t2:Int) (en:EndT) (m:Int) (hm0:0<=m) (hm1:m<=1000) (PS:∀W,Chg S w W->Calls Tryz.prog 43 #[uA] W (fun e w'=>e= .returned (.int .i64 m)/\Chg [] W w')) (LB:∀W S1,SB W gs cap l1 S1->(∀y,y∈S1->y∈S∨w.heap.size<=y)->Chg S w W->Calls Tryz.prog 24 #[.agg #[.slice (some ⟨gs,0,none⟩) 3 cap,.slice Ai ni ci,.int .i64 t1,.int .i64 0,.int .i64 0,.int .i64 0,.int .i64 0],uB,.int .i64 (place+1+m)] W (RunE gs cap (.slice Ai ni ci) l2 t2 en S1 W)):
  Calls Tryz.prog 48 #[.agg #[.slice (some ⟨gs,0,none⟩) 3 cap,.slice Ai ni ci,.int .i64 t,.int .i64 0,.int .i64 0,.int .i64 0,.int .i64 0],.agg #[.int .i64 a.op,.int .i64 a.slot,.int .i64 a.other,.string a.word,.string a.call.method,.string a.call.key,.int .i64 a.call.value,.string a.call.text,.int .i64 a.face,uA,uB],.int .i64 place] w (RunE gs cap (.slice Ai ni ci) (l2) (t2) (en) S w):=by
 have lt0:=hid h.lt
 have hgs0:=hid h.gs.1
 have H:=hid h
 have o8:(a.op==8)=false:=by rw [ho];rfl
 have o9:(a.op==9)=false:=by rw [ho];rfl
 have LA1:=hid LA
 have wp1:IntKind.i64.wrap (place+1)=place+1:=wr_id (by omega) (by omega)
 have e2:(e1.code==1)=true:=by simp [hc]
 have wp2:IntKind.i64.wrap (place+1+m)=place+1+m:=wr_id (by omega) (by omega)
 have PS1:=hid PS
 have LB1:=hid LB
 clear h ho LA hc PS LB
 go_enter Tryz.func48,Tryz.ntmps48
 go_wp2_with fail
 refine(LA1.out _ (H.out.keep0 Chg.now) Chg.now).mono ?_
 rintro e w1 ⟨S1,rfl,sb1,hS1,c1⟩
 have s1:=c1.size
 have v1:w.heap.size+3<=w1.heap.size:=by(try simp at s1)<;>omega
 obtain⟨yr1,zr1,xr1,ya1,za1,xa1,yo1,zo1,xo1, -⟩:=c1.low 3 (w.heap.size) (fun x hx=>by have:=lt0.out _ hx;(try simp at this)<;>omega)
 clear s1
 obtain⟨er0_1,er1_1,er2_1,er3_1,er4_1,er5_1,er6_1⟩:Cs7 w1 (w.heap.size) (.slice (some ⟨gs,0,none⟩) 3 cap) (.slice Ai ni ci) (.int .i64 t) (.int .i64 0) (.int .i64 0) (.int .i64 0) (.int .i64 0):=.of yr1
 obtain⟨eo0_1,eo1_1,eo2_1,eo3_1,eo4_1,eo5_1,eo6_1⟩:Cs7 w1 (w.heap.size+1+1) (.slice none 0 0) (.slice none 0 0) (.int .i64 0) (.int .i64 0) (.int .i64 0) (.int .i64 0) (.int .i64 0):=.of yo1
 clear yr1 yo1
 have lo1:Hid (∀y,y∈S1->y∈S∨w.heap.size+3<=y):=hid (fun y hy=>(hS1 y hy).imp id (fun h=>by(try simp at h)<;>omega))
 have D1:Hid (Chg S w w1):=hid (Chg.trans (S:=S) Chg.now c1 (fun x hx=>.inl hx))
 have SB1:=hid sb1
 have lt1:Hid (∀y,y∈S1->y<w1.heap.size/\(y<w.heap.size∨w.heap.size+3<=y)):=hid (fun y hy=>⟨sb1.lt y hy,by rcases lo1.out y hy with h|h;(have:=lt0.out y h;omega);exact .inr h⟩)
 clear sb1 hS1 c1
 go_upto_region 18 with fail
 refine wp_name ?_
 intro w5 hw5
 have er0_5:w5.cell? ⟨w.heap.size,0,none⟩=some (.slice (some ⟨gs,0,none⟩) 3 cap):=by rw [hw5];go_cell
 have er1_5:w5.cell? ⟨w.heap.size,1,none⟩=some (.slice Ai ni ci):=by rw [hw5];go_cell
 have er2_5:w5.cell? ⟨w.heap.size,2,none⟩=some (.int .i64 t1):=by rw [hw5];go_cell
 have er3_5:w5.cell? ⟨w.heap.size,3,none⟩=some (.int .i64 0):=by rw [hw5];go_cell
 have er4_5:w5.cell? ⟨w.heap.size,4,none⟩=some (.int .i64 0):=by rw [hw5];go_cell
 have er5_5:w5.cell? ⟨w.heap.size,5,none⟩=some (.int .i64 0):=by rw [hw5];go_cell
 have er6_5:w5.cell? ⟨w.heap.size,6,none⟩=some (.int .i64 0):=by rw [hw5];go_cell
 have eo0_5:w5.cell? ⟨w.heap.size+1+1,0,none⟩=some (.slice none 0 0):=by rw [hw5];go_cell
 have eo1_5:w5.cell? ⟨w.heap.size+1+1,1,none⟩=some (.slice none 0 0):=by rw [hw5];go_cell
 have eo2_5:w5.cell? ⟨w.heap.size+1+1,2,none⟩=some (.int .i64 0):=by rw [hw5];go_cell
 have eo3_5:w5.cell? ⟨w.heap.size+1+1,3,none⟩=some (.int .i64 0):=by rw [hw5];go_cell
 have eo4_5:w5.cell? ⟨w.heap.size+1+1,4,none⟩=some (.int .i64 0):=by rw [hw5];go_cell
 have eo5_5:w5.cell? ⟨w.heap.size+1+1,5,none⟩=some (.int .i64 0):=by rw [hw5];go_cell
 have eo6_5:w5.cell? ⟨w.heap.size+1+1,6,none⟩=some (.int .i64 0):=by rw [hw5];go_cell
 have ya5:∀o,w5.cell? ⟨w.heap.size+1,o,none⟩=w1.cell? ⟨w.heap.size+1,o,none⟩:=fun o=>by rw [hw5];go_simp
 have zr5:∀o,w5.frozen? ⟨w.heap.size,o,none⟩=w1.frozen? ⟨w.heap.size,o,none⟩:=fun o=>by rw [hw5];simp only [World.frozen?_setCell]
 have zo5:∀o,w5.frozen? ⟨w.heap.size+1+1,o,none⟩=w1.frozen? ⟨w.heap.size+1+1,o,none⟩:=fun o=>by rw [hw5];simp only [World.frozen?_setCell]
 have SB5:Hid (SB w5 gs cap l1 S1):=hid (by rw [hw5];exact SB1.out.keep (T:=[w.heap.size]) Chg.now (fun y hy=>by have:=lt1.out y hy;simp;omega))
 have D5:Hid (Chg S w w5):=hid (by rw [hw5];exact(Chg.to D1.out))
 have v5:w1.heap.size<=w5.heap.size:=by rw [hw5];simp
 clear hw5
 have x5r:w.heap.size<w5.heap.size:=by omega
 have x5a:w.heap.size+1<w5.heap.size:=by omega
 have x5o:w.heap.size+1+1<w5.heap.size:=by omega
 go_region_law (first|(go_simp;go_at_call 43;(with_reducible refine(PS1.out _ (Chg.to D5.out)).mono ?_);rintro e w3 ⟨rfl,c3⟩;(have s3:=c3.size);(have v3:w5.heap.size<=w3.heap.size:=by(try simp at s3)<;>omega);(obtain⟨yr3,zr3,xr3,ya3,za3,xa3,yo3,zo3,xo3, -⟩:=c3.low 3 (w.heap.size) (fun x hx=>by simp at hx));(have D3:Hid (Chg S w w3):=hid (Chg.trans0 (Chg.to D5.out) c3));(have SB3:=hid ((SB5.out.keep0 Chg.now).keep0 c3));(obtain⟨er0_3,er1_3,er2_3,er3_3,er4_3,er5_3,er6_3⟩:Cs7 w3 (w.heap.size) (.slice (some ⟨gs,0,none⟩) 3 cap) (.slice Ai ni ci) (.int .i64 t1) (.int .i64 0) (.int .i64 0) (.int .i64 0) (.int .i64 0):=.of yr3);(obtain⟨eo0_3,eo1_3,eo2_3,eo3_3,eo4_3,eo5_3,eo6_3⟩:Cs7 w3 (w.heap.size+1+1) (.slice none 0 0) (.slice none 0 0) (.int .i64 0) (.int .i64 0) (.int .i64 0) (.int .i64 0) (.int .i64 0):=.of yo3);(clear yr3 yo3);clear c3 s3;simp only [])|(go_simp;go_at_call 24;(with_reducible refine(LB1.out _ S1 (SB3.out.keep0 Chg.now) (fun y hy=>(lo1.out y hy).imp id (fun h=>by omega)) (Chg.to D3.out)).mono ?_);rintro e w2 ⟨S2,rfl,sb2,hS2,c2⟩;(have s2:=c2.size);(have v2:w3.heap.size<=w2.heap.size:=by(try simp at s2)<;>omega);(obtain⟨yr2,zr2,xr2, -, -,xa2,yo2,zo2,xo2, -⟩:=c2.low 3 (w.heap.size) (fun x hx=>by have:=lt1.out _ hx;(try simp at this)<;>omega));(have lo2:Hid (∀y,y∈S2->y∈S∨w.heap.size+3<=y):=hid (fun y hy=>by rcases hS2 y hy with h|h;(exact lo1.out y h);(exact .inr (by(try simp at h)<;>omega))));(have D2:Hid (Chg S w w2):=hid (Chg.trans (S:=S) (Chg.to D3.out) c2 (fun x hx=>(lo1.out x hx).imp id (fun h=>by omega))));(have SB2:=hid sb2);(obtain⟨er0_2,er1_2,er2_2,er3_2,er4_2,er5_2,er6_2⟩:Cs7 w2 (w.heap.size) (.slice (some ⟨gs,0,none⟩) 3 cap) (.slice Ai ni ci) (.int .i64 t1) (.int .i64 0) (.int .i64 0) (.int .i64 0) (.int .i64 0):=.of yr2);(obtain⟨eo0_2,eo1_2,eo2_2,eo3_2,eo4_2,eo5_2,eo6_2⟩:Cs7 w2 (w.heap.size+1+1) (.slice none 0 0) (.slice none 0 0) (.int .i64 0) (.int .i64 0) (.int .i64 0) (.int .i64 0) (.int .i64 0):=.of yo2);(clear yr2 yo2);clear sb2 hS2 c2 s2;simp only [])|fail)
 all_goals
  go_wp2_with fail
  refine bodyPost_ret (v:=.agg #[.slice (some ⟨gs,0,none⟩) 3 cap,.slice Ai ni ci,.int .i64 t2,.int .i64 en.code,.int .i64 en.place,.int .i64 en.want,.int .i64 en.had]) (by simp only [results,Tryz.results48];go_simp) rfl ?_
  exact⟨S2,rfl,SB2.out.keep (T:=[w.heap.size,w.heap.size+1+1]) Chg.now (fun y hy=>by rcases lo2.out y hy with h|h;(have:=lt0.out y h;simp;omega);(simp;omega)),fun y hy=>(lo2.out y hy).imp id (fun h=>by omega),(Chg.to D2.out)⟩
theorem l8Block_loop (gs cap:Nat) (Ai:Option Addr) (ni ci:Nat) (l:List SlotT) (t:Int) (S:List Nat) (w:World) (a:ActionT) (uA uB:Value) (place:Int) (h:SB w gs cap l S) (ho:a.op=9) (n c:Nat) (hn3:n<=3) (F:RunT->RunT×EndT) (hF:∀s,(F s).2.code=0->(F s).2=okEnd) (hFt:∀s,s.taken<=(F s).1.taken/\(F s).1.taken<=s.taken+c) (P:List SlotT->Prop) (hP0:P l) (hP:∀s,P s.slots->P (F s).1.slots) (hp0:0<=place) (hp1:place<=1000) (TK:∀W,Chg [] w W->Calls Tryz.prog 72 #[.agg #[.slice (some ⟨gs,0,none⟩) 3 cap,.slice Ai ni ci,.int .i64 t,.int .i64 0,.int .i64 0,.int .i64 0,.int .i64 0]] W (fun e w'=>e= .returned (.tuple #[.agg #[.slice (some ⟨gs,0,none⟩) 3 cap,.slice Ai ni ci,.int .i64 (t+1),.int .i64 0,.int .i64 0,.int .i64 0,.int .i64 0],.int .i64 (n:Int)])/\Chg [] W w')) (LA:∀W l' t' S',SB W gs cap l' S'->P l'->t+1<=t'->t'<=t+1+2 * c->(∀y,y∈S'->y∈S∨w.heap.size<=y)->Chg S w W->Calls Tryz.prog 24 #[.agg #[.slice (some ⟨gs,0,none⟩) 3 cap,.slice Ai ni ci,.int .i64 t',.int .i64 0,.int .i64 0,.int .i64 0,.int .i64 0],uA,.int .i64 (place+1)] W (RunE gs cap (.slice Ai ni ci) (F ⟨l',t'⟩).1.slots (F ⟨l',t'⟩).1.taken (F ⟨l',t'⟩).2 S' W)):
  Calls Tryz.prog 48 #[.agg #[.slice (some ⟨gs,0,none⟩) 3 cap,.slice Ai ni ci,.int .i64 t,.int .i64 0,.int .i64 0,.int .i64 0,.int .i64 0],.agg #[.int .i64 a.op,.int .i64 a.slot,.int .i64 a.other,.string a.word,.string a.call.method,.string a.call.key,.int .i64 a.call.value,.string a.call.text,.int .i64 a.face,uA,uB],.int .i64 place] w (RunE gs cap (.slice Ai ni ci) ((loopN n F ⟨l,t+1⟩).1.slots) ((loopN n F ⟨l,t+1⟩).1.taken) ((loopN n F ⟨l,t+1⟩).2) S w):=by
 have lt0:=hid h.lt
 have hgs0:=hid h.gs.1
 have H:=hid h
 have o8:(a.op==8)=false:=by rw [ho];rfl
 have o9:(a.op==9)=true:=by rw [ho];rfl
 have TK1:=hid TK
 have LA1:=hid LA
 have HP:=hid hP
 have HFT:=hid hFt
 have HF:=hid hF
 have P0:=hid hP0
 have wp1:IntKind.i64.wrap (place+1)=place+1:=wr_id (by omega) (by omega)
 obtain⟨R,hR⟩:∃R,R=loopN n F ⟨l,t+1⟩:=⟨_,rfl⟩
 rw [<-hR]
 have HR:=hid hR
 clear h ho TK LA hP hFt hF hP0 hR
 go_enter Tryz.func48,Tryz.ntmps48
 go_wp2_with fail
 refine(TK1.out _ Chg.now).mono ?_
 rintro e w1 ⟨rfl,c1⟩
 have s1:=c1.size
 have v1:w.heap.size+3<=w1.heap.size:=by(try simp at s1)<;>omega
 obtain⟨yr1,zr1,xr1,ya1,za1,xa1,yo1,zo1,xo1, -⟩:=c1.low 3 (w.heap.size) (fun x hx=>by simp at hx)
 clear s1
 have D1:Hid (Chg [] w w1):=hid (Chg.trans0 Chg.now c1)
 obtain⟨er0_1,er1_1,er2_1,er3_1,er4_1,er5_1,er6_1⟩:Cs7 w1 (w.heap.size) (.slice (some ⟨gs,0,none⟩) 3 cap) (.slice Ai ni ci) (.int .i64 t) (.int .i64 0) (.int .i64 0) (.int .i64 0) (.int .i64 0):=.of yr1
 obtain⟨eo0_1,eo1_1,eo2_1,eo3_1,eo4_1,eo5_1,eo6_1⟩:Cs7 w1 (w.heap.size+1+1) (.slice none 0 0) (.slice none 0 0) (.int .i64 0) (.int .i64 0) (.int .i64 0) (.int .i64 0) (.int .i64 0):=.of yo1
 clear yr1 yo1
 have SB1:=hid ((H.out.keep0 Chg.now).keep0 c1)
 clear c1
 go_wp2_with fail
 go_loopw [8] (fun i wr=>∃(k:Nat) (l':List SlotT) (t':Int) (en':EndT) (S':List Nat),k<=n/\i= .int .i64 k/\Hid ((en'=okEnd/\R=loopN (n-k) F ⟨l',t'⟩/\P l')∨(¬en'.code=0/\R=(⟨l',t'⟩,en')))/\Hid (SB wr gs cap l' S')/\Hid (t+1<=t'/\t'<=t+1+k * c)/\Hid (∀y,y∈S'->y∈S∨w.heap.size+3<=y)/\Hid (Chg S w wr)/\w1.heap.size<=wr.heap.size/\Hid (Box7 wr (w.heap.size) (.slice (some ⟨gs,0,none⟩) 3 cap) (.slice Ai ni ci) (.int .i64 t') (.int .i64 en'.code) (.int .i64 en'.place) (.int .i64 en'.want) (.int .i64 en'.had))/\Hid (∀o,wr.cell? ⟨w.heap.size+1,o,none⟩=w1.cell? ⟨w.heap.size+1,o,none⟩)/\Hid (∀o,wr.cell? ⟨w.heap.size+1+1,o,none⟩=w1.cell? ⟨w.heap.size+1+1,o,none⟩)/\Hid (∀o,wr.frozen? ⟨w.heap.size+1+1,o,none⟩=w1.frozen? ⟨w.heap.size+1+1,o,none⟩)) (fun i _=>n-(intOf i).toNat)
 case atStart=>exact⟨0,l,t+1,okEnd,S,Nat.zero_le _,rfl,hid (.inl ⟨rfl,HR.out,P0.out⟩),hid (SB1.out.keep (T:=[w.heap.size]) Chg.now (fun y hy=>by have:=lt0.out y hy;simp;omega)),hid ⟨by omega,by simp⟩,hid (fun y hy=>.inl hy),hid (Chg.to (D1.out.mono (by simp):Chg S w w1)),by(first|(simp;done)|exact Nat.le_refl _),hid ⟨by go_cell,by go_cell,by go_cell,by go_cell,by go_cell,by go_cell,by go_cell,fun o ho=>by first|(go_simp;done)|(simp only [World.frozen?_setCell,World.frozen?_alloc_old];exact zr1 o)⟩,hid (fun o=>by go_simp),hid (fun o=>by go_simp),hid (fun o=>by go_simp)⟩
 case round=>
  obtain⟨k,l',t',en',S',hk,rfl,HE,HB,HT,HS,HD,hsz,HX,ya,yo,zo⟩:=hrel
  obtain⟨b0,b1,b2,b3,b4,b5,b6,bf⟩:=HX.out
  have bf0:=bf 0 (by omega);have bf1:=bf 1 (by omega);have bf2:=bf 2 (by omega);have bf3:=bf 3 (by omega);have bf4:=bf 4 (by omega);have bf5:=bf 5 (by omega);have bf6:=bf 6 (by omega)
  have yaL:=ya.out;have yoL:=yo.out;have zoL:=zo.out
  have eo0_r:wr.cell? ⟨w.heap.size+1+1,0,none⟩=some (.slice none 0 0):=(yoL 0).trans eo0_1
  have eo1_r:wr.cell? ⟨w.heap.size+1+1,1,none⟩=some (.slice none 0 0):=(yoL 1).trans eo1_1
  have eo2_r:wr.cell? ⟨w.heap.size+1+1,2,none⟩=some (.int .i64 0):=(yoL 2).trans eo2_1
  have eo3_r:wr.cell? ⟨w.heap.size+1+1,3,none⟩=some (.int .i64 0):=(yoL 3).trans eo3_1
  have eo4_r:wr.cell? ⟨w.heap.size+1+1,4,none⟩=some (.int .i64 0):=(yoL 4).trans eo4_1
  have eo5_r:wr.cell? ⟨w.heap.size+1+1,5,none⟩=some (.int .i64 0):=(yoL 5).trans eo5_1
  have eo6_r:wr.cell? ⟨w.heap.size+1+1,6,none⟩=some (.int .i64 0):=(yoL 6).trans eo6_1
  skip
  clear HX ya yo zo
  have u0:w.heap.size<wr.heap.size:=by omega
  have u1:w.heap.size+1<wr.heap.size:=by omega
  have u2:w.heap.size+1+1<wr.heap.size:=by omega
  rcases HE.out with ⟨he,hR1,hP1⟩|⟨he,hR1⟩
  ·subst he
   by_cases hlt:k<n
   ·have hlt2:(k:Int)<(n:Int):=by omega
    have hk2:Hid (t'<=t+1+2 * c):=hid (by
     have:=HT.out
     have h3:(k:Int) * (c:Int)<=2 * (c:Int):=Int.mul_le_mul_of_nonneg_right (by omega) (by omega)
     omega)
    have LA2:=hid (fun W (h1:SB W gs cap l' S') (h2:Chg S w W)=>LA1.out W l' t' S' h1 hP1 HT.out.1 hk2.out (fun y hy=>(HS.out y hy).imp id (fun h=>by omega)) h2)
    obtain⟨q,hq⟩:∃q,q=F ⟨l',t'⟩:=⟨_,rfl⟩
    rw [<-hq] at LA2
    have HQ:=hid hq
    have HR1:=hid hR1
    have HP1:=hid hP1
    clear hq hR1 hP1 HE
    have lt1:Hid (∀y,y∈S'->y<wr.heap.size/\(y<w.heap.size∨w.heap.size+3<=y)):=hid (fun y hy=>⟨HB.out.lt y hy,by
     rcases HS.out y hy with h|h
     ·have:=lt0.out y h;omega
     ·omega⟩)
    have hstep:Hid (loopN (n-k) F ⟨l',t'⟩=if q.2.code=0 then loopN (n-(k+1)) F q.1 else q):=hid (by rw [show n-k=(n-(k+1))+1 by omega,loopN, <-HQ.out])
    simp only [okEnd] at b3 b4 b5 b6
    go_wp2_with fail
    refine(LA2.out _ (HB.out.keep0 Chg.now) (Chg.to HD.out)).mono ?_
    rintro e w2 ⟨S2,rfl,sb2,hS2,c2⟩
    have s2:=c2.size
    have v2:wr.heap.size<=w2.heap.size:=by(try simp at s2)<;>omega
    obtain⟨yr2,zr2,xr2,ya2,za2,xa2,yo2,zo2,xo2, -⟩:=c2.low 3 (w.heap.size) (fun x hx=>by have:=lt1.out _ hx;(try simp at this)<;>omega)
    clear s2
    obtain⟨er0_2,er1_2,er2_2,er3_2,er4_2,er5_2,er6_2⟩:Cs7 w2 (w.heap.size) (.slice (some ⟨gs,0,none⟩) 3 cap) (.slice Ai ni ci) (.int .i64 t') (.int .i64 0) (.int .i64 0) (.int .i64 0) (.int .i64 0):=.of yr2
    obtain⟨eo0_2,eo1_2,eo2_2,eo3_2,eo4_2,eo5_2,eo6_2⟩:Cs7 w2 (w.heap.size+1+1) (.slice none 0 0) (.slice none 0 0) (.int .i64 0) (.int .i64 0) (.int .i64 0) (.int .i64 0) (.int .i64 0):=.of yo2
    clear yr2
    have lo2:Hid (∀y,y∈S2->y∈S∨w.heap.size+3<=y):=hid (fun y hy=>by rcases hS2 y hy with h|h;(exact HS.out y h);(exact .inr (by(try simp at h)<;>omega)))
    have D2:Hid (Chg S w w2):=hid (Chg.trans (S:=S) (Chg.to HD.out) c2 (fun x hx=>(HS.out x hx).imp id (fun h=>by omega)))
    have lt2:Hid (∀y,y∈S2->y<w2.heap.size/\(y<w.heap.size∨w.heap.size+3<=y)):=hid (fun y hy=>⟨sb2.lt y hy,by rcases lo2.out y hy with h|h;(have:=lt0.out y h;omega);exact .inr h⟩)
    have SB2:=hid sb2
    clear sb2 hS2 c2
    go_wp2_with fail
    go_roundw
    case rel=>exact⟨k+1,q.1.slots,q.1.taken,q.2,S2,by omega,by go_num,hid (by
     by_cases hc:q.2.code=0
     ·exact .inl ⟨by rw [HQ.out] at hc ⊢;exact HF.out _ hc,by rw [HR1.out,hstep.out,if_pos hc],by rw [HQ.out];exact HP.out _ HP1.out⟩
     ·exact .inr ⟨hc,by rw [HR1.out,hstep.out,if_neg hc]⟩),hid (SB2.out.keep (T:=[w.heap.size]) Chg.now (fun y hy=>by have:=lt2.out y hy;simp;omega)),hid (by have h1:=HFT.out ⟨l',t'⟩;have h2:=HT.out;rw [<-HQ.out] at h1;rw [Int.natCast_add,Int.add_mul];simp only at h1;omega),lo2,hid (Chg.to D2.out),by(try simp)<;>omega,hid ⟨by go_cell,by go_cell,by go_cell,by go_cell,by go_cell,by go_cell,by go_cell,fun o ho=>by first|(go_simp;done)|(simp only [World.frozen?_setCell,World.frozen?_alloc_old];exact(zr2 o).trans (bf o ho))⟩,hid (fun o=>by go_simp),hid (fun o=>by go_simp),hid (fun o=>by go_simp)⟩
    case measure=>simp [intOf];omega
   ·obtain rfl:k=n:=by omega
    simp only [okEnd] at b3 b4 b5 b6
    have HRQ:Hid (R=(⟨l',t'⟩,okEnd)):=hid (by rw [hR1,Nat.sub_self,loopN])
    try clear hP1
    clear hR1
    go_wp2_with fail
    refine bodyPost_ret (v:=.agg #[.slice (some ⟨gs,0,none⟩) 3 cap,.slice Ai ni ci,.int .i64 t',.int .i64 0,.int .i64 0,.int .i64 0,.int .i64 0]) (by simp only [results,Tryz.results48];go_simp) rfl ?_
    rw [HRQ.out]
    exact⟨S',rfl,HB.out.keep (T:=[w.heap.size+1+1]) Chg.now (fun y hy=>by rcases HS.out y hy with h|h;(have:=lt0.out y h;simp;omega);(simp;omega)),fun y hy=>(HS.out y hy).imp id (fun h=>by omega),(Chg.to HD.out)⟩
  ·have hc0:(en'.code==0)=false:=by simp [he]
   by_cases hlt:k<n
   ·have hlt2:(k:Int)<(n:Int):=by omega
    have HRQ:Hid (R=(⟨l',t'⟩,en')):=hid (hR1)
    try clear hP1
    clear hR1
    go_wp2_with fail
    refine bodyPost_ret (v:=.agg #[.slice (some ⟨gs,0,none⟩) 3 cap,.slice Ai ni ci,.int .i64 t',.int .i64 en'.code,.int .i64 en'.place,.int .i64 en'.want,.int .i64 en'.had]) (by simp only [results,Tryz.results48];go_simp) rfl ?_
    rw [HRQ.out]
    exact⟨S',rfl,HB.out.keep (T:=[w.heap.size+1+1]) Chg.now (fun y hy=>by rcases HS.out y hy with h|h;(have:=lt0.out y h;simp;omega);(simp;omega)),fun y hy=>(HS.out y hy).imp id (fun h=>by omega),(Chg.to HD.out)⟩
   ·obtain rfl:k=n:=by omega
    have HRQ:Hid (R=(⟨l',t'⟩,en')):=hid (hR1)
    try clear hP1
    clear hR1
    go_wp2_with fail
    refine bodyPost_ret (v:=.agg #[.slice (some ⟨gs,0,none⟩) 3 cap,.slice Ai ni ci,.int .i64 t',.int .i64 en'.code,.int .i64 en'.place,.int .i64 en'.want,.int .i64 en'.had]) (by simp only [results,Tryz.results48];go_simp) rfl ?_
    rw [HRQ.out]
    exact⟨S',rfl,HB.out.keep (T:=[w.heap.size+1+1]) Chg.now (fun y hy=>by rcases HS.out y hy with h|h;(have:=lt0.out y h;simp;omega);(simp;omega)),fun y hy=>(HS.out y hy).imp id (fun h=>by omega),(Chg.to HD.out)⟩
end Go.Proofs.YtjigcplpkhpgnaaGreatDoor
