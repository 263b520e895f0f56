/- The program's run in memory: its block, its slots, its numbers. Conditions: none. / The reference's slots in memory, and the number that it takes. Conditions: none. -/
import Derived.Test.YtjigcplpkhpgnaaGreatDoorPlains
import Derived.Test.YtjigcplpkhpgnaaGreatDoorThru
import Derived.Deep.QuietTactic
import Derived.BigQuiet
set_option maxRecDepth 100000
set_option maxHeartbeats 4000000
namespace Go.Proofs.YtjigcplpkhpgnaaGreatDoor
open Go.RowKit

/-- Block r is a run: its slots lie in block gs and in blocks of their own (S), its input is vi, t numbers have been taken. -/
structure RB (w:World) (r gs cap:Nat) (vi:Value) (l:List SlotT) (t:Int) (S:List Nat):Prop where
 c0:w.cell? ⟨r,0,none⟩=some (.slice (some ⟨gs,0,none⟩) 3 cap)
 c1:w.cell? ⟨r,1,none⟩=some vi
 c2:w.cell? ⟨r,2,none⟩=some (.int .i64 t)
 f2:w.frozen? ⟨r,2,none⟩=false
 hs:Has w (slots l) (.slice (some ⟨gs,0,none⟩) 3 cap) S
 hl:l.length=3
 hr:r∉S
theorem RB.lt {w:World} {r gs cap:Nat} {vi:Value} {l:List SlotT} {t:Int} {S:List Nat} (h:RB w r gs cap vi l t S):∀y,y∈r::S->y<w.heap.size:=fun y hy=>by
 rcases List.mem_cons.1 hy with rfl|hy
 ·exact lt_of_cell h.c0
 ·exact h.hs.lt y hy
theorem RB.keep {w w':World} {r gs cap:Nat} {vi:Value} {l:List SlotT} {t:Int} {S T:List Nat} (h:RB w r gs cap vi l t S) (hc:Chg T w w') (hr:r∉T) (hS:∀y,y∈S->y∉T):RB w' r gs cap vi l t S:=by
 have hl:=lt_of_cell h.c0
 have e:=fun o=>hc.cell (p:=⟨r,o,none⟩) hl hr
 exact⟨(e 0).trans h.c0,(e 1).trans h.c1,(e 2).trans h.c2,(hc.frozen (p:=⟨r,2,none⟩) hl hr).trans h.f2,h.hs.keep hc hS,h.hl,h.hr⟩
theorem RB.keep0 {w w':World} {r gs cap:Nat} {vi:Value} {l:List SlotT} {t:Int} {S:List Nat} (h:RB w r gs cap vi l t S) (hc:Chg [] w w'):RB w' r gs cap vi l t S:=h.keep hc (by simp) (by simp)
theorem RB.gs {w:World} {r gs cap:Nat} {vi:Value} {l:List SlotT} {t:Int} {S:List Nat} (h:RB w r gs cap vi l t S):gs∈S/\3<=cap/\cap<=maxLen:=by
 have hh:=h.hs
 unfold slots at hh
 rcases hh.cases_ with ⟨e,_⟩|⟨g,c,S',e,h1,h2,h3,_⟩
 ·simp at e
 ·simp only [Value.slice.injEq,Option.some.injEq,Addr.mk.injEq,and_true] at e
  obtain⟨e1,_,e2⟩:=e
  subst e1 e2
  rw [h.hl] at h1
  exact⟨by rw [h3];simp,h1,h2⟩
/-- A slot is written. -/
theorem RB.put {w:World} {r gs cap:Nat} {vi:Value} {l:List SlotT} {t:Int} {S S1:List Nat} (h:RB w r gs cap vi l t S) {i:Nat} (hi:i<3) {x:SlotT} {us:List Value} (hx:HasL w (slotF x) us S1) (hd:∀y,y∈S1->y∉r::S):
  ∃S',RB (setCells w gs (i * 7) us) r gs cap vi (l.set i x) t S'/\(∀y,y∈S'->y∈S∨y∈S1)/\gs∈S/\Chg [gs] w (setCells w gs (i * 7) us):=by
 obtain⟨S',h1,h2,h3,h4⟩:=h.hs.slotSet h.hl hi hx (fun y hy hS=>hd y hy (by simp [hS]))
 have hl:=lt_of_cell h.c0
 have hne:r∉ [gs]:=by simp;rintro rfl;exact h.hr h3
 have e:=fun o=>h4.cell (p:=⟨r,o,none⟩) hl hne
 exact⟨S',⟨(e 0).trans h.c0,(e 1).trans h.c1,(e 2).trans h.c2,(h4.frozen (p:=⟨r,2,none⟩) hl hne).trans h.f2,h1,by rw [List.length_set];exact h.hl,fun hr=>(h2 r hr).elim h.hr (fun h=>hd r h (by simp))⟩,h2,h3,h4⟩
/-- The part in a slot is written. -/
theorem RB.putPart {w:World} {r gs cap:Nat} {vi:Value} {l:List SlotT} {t:Int} {S S1:List Nat} (h:RB w r gs cap vi l t S) {i:Nat} (hi:i<l.length) {q:PartT} {us:List Value} (hx:HasL w (partF q) us S1) (hd:∀y,y∈S1->y∉r::S):
  ∃S',RB (setCells w gs (i * 7+1) us) r gs cap vi (l.set i ⟨l[i].full,q⟩) t S'/\(∀y,y∈S'->y∈S∨y∈S1)/\gs∈S/\Chg [gs] w (setCells w gs (i * 7+1) us):=by
 obtain⟨S',h1,h2,h3,h4⟩:=h.hs.slotPart h.hl (by rw [<-h.hl];exact hi) hx (fun y hy hS=>hd y hy (by simp [hS])) hi
 have hl:=lt_of_cell h.c0
 have hne:r∉ [gs]:=by simp;rintro rfl;exact h.hr h3
 have e:=fun o=>h4.cell (p:=⟨r,o,none⟩) hl hne
 exact⟨S',⟨(e 0).trans h.c0,(e 1).trans h.c1,(e 2).trans h.c2,(h4.frozen (p:=⟨r,2,none⟩) hl hne).trans h.f2,h1,by rw [List.length_set];exact h.hl,fun hr=>(h2 r hr).elim h.hr (fun h=>hd r h (by simp))⟩,h2,h3,h4⟩
/-- Numbers of another run's count. -/
theorem RB.took {w:World} {r gs cap:Nat} {vi:Value} {l:List SlotT} {t:Int} {S:List Nat} (h:RB w r gs cap vi l t S) (u:Int):RB (w.setCell ⟨r,2,none⟩ (.int .i64 u)) r gs cap vi l u S:=by
 have hc:Chg [r] w (w.setCell ⟨r,2,none⟩ (.int .i64 u)):=(Chg.refl [r] w).setCell (.inl (by simp)) _
 obtain⟨c0,c1,c2,f2,hs,hl,hr⟩:=h
 exact⟨by go_simp,by go_simp,by go_simp,by rw [World.frozen?_setCell];exact f2,hs.keep hc (fun x hx hx2=>by simp at hx2;subst hx2;exact hr hx),hl,hr⟩
theorem tmod4 (n:Int):n.tmod 4=n % 4∨(n.tmod 4=n % 4-4/\n % 4≠0):=by
 rcases Int.le_total 0 n with h|h
 ·exact .inl (Int.tmod_eq_emod_of_nonneg h)
 ·obtain⟨m,rfl⟩:∃m:Int,n= -m:=⟨-n,by omega⟩
  rw [Int.neg_tmod,Int.tmod_eq_emod_of_nonneg (by omega)]
  omega
theorem take4 (n:Int):(n.tmod 4+4).tmod 4=n % 4:=by
 have h:=tmod4 n
 rw [Int.tmod_eq_emod_of_nonneg (by omega)]
 omega
theorem take4_wrap (n:Int):IntKind.i64.wrap (n.tmod 4+4)=n.tmod 4+4:=by
 have h:=tmod4 n
 exact wr_id (by omega) (by omega)
theorem ret_num {a b:Int} (h:a=b):Ending.returned (.int .i64 a)= .returned (.int .i64 b):=by rw [h]
theorem takeN_at {input:List Int} {t:Nat} (h:t<input.length):takeN input t=input[t] % 4:=by
 unfold takeN
 rw [Int.toNat_natCast,List.getElem?_eq_getElem h]
theorem takeN_end {input:List Int} {t:Nat} (h:input.length<=t):takeN input t=0:=by
 unfold takeN
 rw [Int.toNat_natCast,List.getElem?_eq_none h]
/-- A number is taken. -/
theorem number_any (r gs cap:Nat) (vi:Value) (input:List Int) (l:List SlotT) (t:Int) (S:List Nat) (w:World) (B:Nat) (h:RB w r gs cap vi l t S) (hi:Rd w B (ints input) vi) (ht0:0<=t) (ht1:t<=1000000):
  Calls Tryz.prog 87 #[.pointer (some ⟨r,0,none⟩)] w (fun e w'=>e= .returned (.int .i64 (takeN input t))/\RB w' r gs cap vi l (t+1) S/\Chg [r] w w'):=by
 have hlt:=lt_of_cell h.c0
 obtain⟨A,cv,rfl,h0,h1,hrow⟩:=ints_row hi
 unfold maxLen at h1
 obtain⟨c0,c1,c2,f2,_,_,_⟩:=id h
 obtain⟨n,rfl⟩:∃n:Nat,t=n:=⟨t.toNat,by omega⟩
 have H:=hid h
 clear h hi
 go_enter Tryz.func87,Tryz.ntmps87
 go_wp2_with fail
 go_quiet (fail)
 by_cases hlt2:n<input.length
 ·have hi1:(n:Int)<(input.length:Int):=by omega
  have hi0:(0:Int)<=(n:Int):=by omega
  obtain⟨b,off,rfl,hb,q⟩:=ints_cell hrow n hlt2
  have W4:=take4_wrap input[n]
  have HT:=hid (takeN_at hlt2)
  go_wp2_with fail
  go_quiet (fail)
  go_wp2_with fail
  go_ret
  exact⟨ret_num ((take4 _).trans HT.out.symm),(H.out.keep0 ((Chg.refl [] w).drewN _)).took _,((Chg.refl [r] w).drewN _).setCell (.inl (by simp)) _⟩
 ·have hi1:decide (n<input.length)=false:=decide_eq_false hlt2
  have HT:=hid (takeN_end (input:=input) (t:=n) (by omega))
  go_wp2_with fail
  go_ret
  exact⟨ret_num HT.out.symm,(H.out.keep0 ((Chg.refl [] w).drewN _)).took _,((Chg.refl [r] w).drewN _).setCell (.inl (by simp)) _⟩
/-- The reference's slots: in block gs, and in blocks of their own. -/
structure SB (w:World) (gs cap:Nat) (l:List SlotT) (S:List Nat):Prop where
 hs:Has w (slots l) (.slice (some ⟨gs,0,none⟩) 3 cap) S
 hl:l.length=3
theorem SB.lt {w:World} {gs cap:Nat} {l:List SlotT} {S:List Nat} (h:SB w gs cap l S):∀y,y∈S->y<w.heap.size:=h.hs.lt
theorem SB.keep {w w':World} {gs cap:Nat} {l:List SlotT} {S T:List Nat} (h:SB w gs cap l S) (hc:Chg T w w') (hS:∀y,y∈S->y∉T):SB w' gs cap l S:=⟨h.hs.keep hc hS,h.hl⟩
theorem SB.keep0 {w w':World} {gs cap:Nat} {l:List SlotT} {S:List Nat} (h:SB w gs cap l S) (hc:Chg [] w w'):SB w' gs cap l S:=h.keep hc (by simp)
theorem SB.gs {w:World} {gs cap:Nat} {l:List SlotT} {S:List Nat} (h:SB w gs cap l S):gs∈S/\3<=cap/\cap<=maxLen:=by
 have hh:=h.hs
 unfold slots at hh
 rcases hh.cases_ with ⟨e,_⟩|⟨g,c,S',e,h1,h2,h3,_⟩
 ·simp at e
 ·simp only [Value.slice.injEq,Option.some.injEq,Addr.mk.injEq,and_true] at e
  obtain⟨e1,_,e2⟩:=e
  subst e1 e2
  rw [h.hl] at h1
  exact⟨by rw [h3];simp,h1,h2⟩
/-- A slot is written. -/
theorem SB.put {w:World} {gs cap:Nat} {l:List SlotT} {S S1:List Nat} (h:SB w gs cap l S) {i:Nat} (hi:i<3) {x:SlotT} {us:List Value} (hx:HasL w (slotF x) us S1) (hd:∀y,y∈S1->y∉S):
  ∃S',SB (setCells w gs (i * 7) us) gs cap (l.set i x) S'/\(∀y,y∈S'->y∈S∨y∈S1)/\gs∈S/\Chg [gs] w (setCells w gs (i * 7) us):=by
 obtain⟨S',h1,h2,h3,h4⟩:=h.hs.slotSet h.hl hi hx hd
 exact⟨S',⟨h1,by rw [List.length_set];exact h.hl⟩,h2,h3,h4⟩
/-- The part in a slot is written. -/
theorem SB.putPart {w:World} {gs cap:Nat} {l:List SlotT} {S S1:List Nat} (h:SB w gs cap l S) {i:Nat} (hi:i<l.length) {q:PartT} {us:List Value} (hx:HasL w (partF q) us S1) (hd:∀y,y∈S1->y∉S):
  ∃S',SB (setCells w gs (i * 7+1) us) gs cap (l.set i ⟨l[i].full,q⟩) S'/\(∀y,y∈S'->y∈S∨y∈S1)/\gs∈S/\Chg [gs] w (setCells w gs (i * 7+1) us):=by
 obtain⟨S',h1,h2,h3,h4⟩:=h.hs.slotPart h.hl (by rw [<-h.hl];exact hi) hx hd hi
 exact⟨S',⟨h1,by rw [List.length_set];exact h.hl⟩,h2,h3,h4⟩
/-- The world at hand gets a name. -/
theorem wp_name {P:Program} {c:Code} {Q:Exit->Act->World->Prop} {a:Act} {w:World} (h:∀w5,w5=w->c.wp P Q a w5):c.wp P Q a w:=h w rfl
/-- A slot is written: seven cells, one behind the other. -/
theorem SB.putG {w W:World} {gs cap i:Nat} {l:List SlotT} {S S1 T:List Nat} {x:SlotT} {u0 u1 u2 u3 u4 u5 u6:Value} (h:SB w gs cap l S) (hi:i<3) (hc:Chg T w W) (hT:∀y,y∈S->y∉T) (hx:HasL W (slotF x) [u0,u1,u2,u3,u4,u5,u6] S1) (hd:∀y,y∈S1->y∉S):
  ∃S',SB (((((((W.setCell ⟨gs,i * 7,none⟩ u0).setCell ⟨gs,i * 7+1,none⟩ u1).setCell ⟨gs,i * 7+2,none⟩ u2).setCell ⟨gs,i * 7+3,none⟩ u3).setCell ⟨gs,i * 7+4,none⟩ u4).setCell ⟨gs,i * 7+5,none⟩ u5).setCell ⟨gs,i * 7+6,none⟩ u6) gs cap (l.set i x) S'/\(∀y,y∈S'->y∈S∨y∈S1):=by
 obtain⟨S',h1,h2,_,_⟩:=(h.keep hc hT).put hi hx hd
 exact⟨S',h1,h2⟩
theorem setCell_same {w:World} {g j:Nat} {cur:Array Value} {e:TypeId} {z:Nat×Nat} {u:Value} (hg:w.heap[g]?=some (.cells cur e z)) (hu:cur[j]?=some u):w.setCell ⟨g,j,none⟩ u=w:=by
 have hc:cur.setIfInBounds j u=cur:=by
  apply Array.ext_getElem?
  intro k
  rw [Array.getElem?_setIfInBounds]
  split
  ·rename_i hk
   subst hk
   split
   ·exact hu.symm
   ·rename_i hk
    rw [Array.getElem?_eq_none (by omega)]
  ·rfl
 cases w
 simp only [World.setCell] at hg ⊢
 congr 1
 apply Array.ext_getElem?
 intro i
 rw [Array.getElem?_modify]
 split
 ·rename_i hi
  subst hi
  rw [hg]
  simp [hc]
 ·rfl
/-- A cell takes the value that it has. -/
theorem Has.setSame {w:World} {n g cap j:Nat} {cs:List Dat} {S:List Nat} {u:Value} (h:Has w (.s n cs) (.slice (some ⟨g,0,none⟩) n cap) S) (hu:w.cell? ⟨g,j,none⟩=some u):w.setCell ⟨g,j,none⟩ u=w:=by
 obtain⟨h,hn⟩:=h
 rw [Own] at h
 rcases h with ⟨h0,_⟩|⟨g',cap',cur,e,us,S',h1,h2,h3,hg,h4,h5,hl,rfl⟩
 ·simp at h0
 ·simp only [Value.slice.injEq,Option.some.injEq,Addr.mk.injEq] at h1
  obtain⟨⟨rfl,_⟩,_,rfl⟩:=h1
  rw [cell_of_row w g j cur e (0,0) hg] at hu
  exact setCell_same hg hu
/-- A box of seven cells. -/
structure Box7 (w:World) (b:Nat) (v0 v1 v2 v3 v4 v5 v6:Value):Prop where
 c0:w.cell? ⟨b,0,none⟩=some v0
 c1:w.cell? ⟨b,1,none⟩=some v1
 c2:w.cell? ⟨b,2,none⟩=some v2
 c3:w.cell? ⟨b,3,none⟩=some v3
 c4:w.cell? ⟨b,4,none⟩=some v4
 c5:w.cell? ⟨b,5,none⟩=some v5
 c6:w.cell? ⟨b,6,none⟩=some v6
 f:∀o:Nat,o<7->w.frozen? ⟨b,o,none⟩=false
/-- What a piece of the reference's run leaves: slots, the count of numbers, an end. -/
def RunE (gs cap:Nat) (vi:Value) (l:List SlotT) (t:Int) (en:EndT) (S:List Nat) (w:World) (e:Ending) (w':World):Prop:=
 ∃S',e= .returned (.agg #[.slice (some ⟨gs,0,none⟩) 3 cap,vi,.int .i64 t,.int .i64 en.code,.int .i64 en.place,.int .i64 en.want,.int .i64 en.had])/\SB w' gs cap l S'/\(∀y,y∈S'->y∈S∨w.heap.size<=y)/\Chg S w w'
/-- A number is taken. -/
theorem l8Take_any (gs cap:Nat) (vi:Value) (input:List Int) (t:Int) (en:EndT) (w:World) (B:Nat) (hB:B<=w.heap.size) (hi:Rd w B (ints input) vi) (ht0:0<=t) (ht1:t<=1000000):
  Calls Tryz.prog 72 #[.agg #[.slice (some ⟨gs,0,none⟩) 3 cap,vi,.int .i64 t,.int .i64 en.code,.int .i64 en.place,.int .i64 en.want,.int .i64 en.had]] w (fun e w'=>e= .returned (.tuple #[.agg #[.slice (some ⟨gs,0,none⟩) 3 cap,vi,.int .i64 (t+1),.int .i64 en.code,.int .i64 en.place,.int .i64 en.want,.int .i64 en.had],.int .i64 (takeN input t)])/\Chg [] w w'):=by
 obtain⟨A,cv,rfl,h0,h1,hrow⟩:=ints_row hi
 unfold maxLen at h1
 obtain⟨n,rfl⟩:∃n:Nat,t=n:=⟨t.toNat,by omega⟩
 clear hi
 have u1:w.heap.size<w.heap.size+1:=by omega
 by_cases hlt2:n<input.length
 ·have hi1:(n:Int)<(input.length:Int):=by omega
  have hi0:(0:Int)<=(n:Int):=by omega
  obtain⟨b,off,rfl,hb,q⟩:=ints_cell hrow n hlt2
  have hb1:b<w.heap.size:=by omega
  have hb2:b<w.heap.size+1:=by omega
  have hb3:b<w.heap.size+1+1:=by omega
  have HT:=hid (takeN_at hlt2)
  have tm:=tmod4 input[n]
  by_cases hneg:input[n].tmod 4<0
  ·have W4:IntKind.i64.wrap (input[n].tmod 4+4)=input[n].tmod 4+4:=take4_wrap input[n]
   have TE:=hid (show input[n].tmod 4+4=input[n] % 4 by omega)
   clear tm
   go_enter Tryz.func72,Tryz.ntmps72
   go_wp2_with fail
   refine bodyPost_ret (v:=.tuple #[.agg #[.slice (some ⟨gs,0,none⟩) 3 cap,.slice (some ⟨b,off,none⟩) input.length cv,.int .i64 ((n:Int)+1),.int .i64 en.code,.int .i64 en.place,.int .i64 en.want,.int .i64 en.had],.int .i64 (input[n].tmod 4+4)]) (by simp only [results,Tryz.results72];go_simp) rfl ?_
   rw [HT.out,TE.out]
   exact⟨rfl,Chg.now⟩
  ·have TE:=hid (show input[n].tmod 4=input[n] % 4 by omega)
   clear tm
   go_enter Tryz.func72,Tryz.ntmps72
   go_wp2_with fail
   refine bodyPost_ret (v:=.tuple #[.agg #[.slice (some ⟨gs,0,none⟩) 3 cap,.slice (some ⟨b,off,none⟩) input.length cv,.int .i64 ((n:Int)+1),.int .i64 en.code,.int .i64 en.place,.int .i64 en.want,.int .i64 en.had],.int .i64 (input[n].tmod 4)]) (by simp only [results,Tryz.results72];go_simp) rfl ?_
   rw [HT.out,TE.out]
   exact⟨rfl,Chg.now⟩
 ·have hi1:decide ((n:Int)<(input.length:Int))=false:=decide_eq_false (by omega)
  have hi2:¬((n:Int)<(input.length:Int)):=by omega
  have hi3:¬n<input.length:=hlt2
  have HT:=hid (takeN_end (input:=input) (t:=n) (by omega))
  go_enter Tryz.func72,Tryz.ntmps72
  go_wp2_with fail
  refine bodyPost_ret (v:=.tuple #[.agg #[.slice (some ⟨gs,0,none⟩) 3 cap,.slice A input.length cv,.int .i64 ((n:Int)+1),.int .i64 en.code,.int .i64 en.place,.int .i64 en.want,.int .i64 en.had],.int .i64 0]) (by simp only [results,Tryz.results72];go_simp) rfl ?_
  rw [HT.out]
  exact⟨rfl,Chg.now⟩
end Go.Proofs.YtjigcplpkhpgnaaGreatDoor
