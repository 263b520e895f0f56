/- through of the program, through any number of layers. Conditions: the call has bounds; the library's variables stand. Written by a program. -/
import Derived.Test.YtjigcplpkhpgnaaGreatDoorThru
import Derived.Test.YtjigcplpkhpgnaaGreatDoorL4Dos
set_option maxRecDepth 100000
set_option maxHeartbeats 8000000
namespace Go.Proofs.YtjigcplpkhpgnaaGreatDoor
open Go.RowKit

theorem through_zero:ThrC 0:=by
 intro p x g B S3 S5 w h hok ht hk hE hB hS
 have hg:=h.lt
 have DC:=hid (fun W (hW:Chg [] w W)=>does_any g p x S3 S5 W (h.keep0 hW) hok.part.1 hok.call ht (hE.keep hW (by simp) hB).env)
 have lt0:Hid (∀y,y∈g::(S3++S5)->y<w.heap.size):=hid (fun y hy=>by
  rcases List.mem_cons.1 hy with rfl|hy
  ·exact h.lt
  ·rcases List.mem_append.1 hy with hy|hy
   ·exact h.lt3 y hy
   ·exact h.lt5 y hy)
 have lt1:Hid (∀y,y∈g::S3->y<w.heap.size):=hid (fun y hy=>lt0.out y (by rcases List.mem_cons.1 hy with rfl|h;(simp);(simp [h])))
 rw [thr]
 obtain⟨r,hr⟩:∃r,r=doesT p.core x:=⟨_,rfl⟩
 rw [<-hr] at DC ⊢
 clear h hok ht hk hE hB hS hr
 go_enter Tryz.func135,Tryz.ntmps135
 go_wp2_with fail
 go_region_law (first|(go_simp;go_at_call 151;(with_reducible refine(DC.out _ Chg.now).mono ?_);rintro e w1 ⟨T1,he,pb1,c1,hD1⟩;unfold repV at he;subst he;(have y1:=c1.ce (w.heap.size+1+1+1) (hn:=fun hx=>by have:=lt1.out _ hx;(try simp at this)<;>omega));(have z1:=c1.fe (w.heap.size+1+1+1) (hn:=fun hx=>by have:=lt1.out _ hx;(try simp at this)<;>omega));(have x1:w.heap.size+1+1+1<w1.heap.size:=by have:=c1.size;simp at this;omega);(have HH:=hid (And.intro pb1 (And.intro c1 hD1)));clear pb1 c1 hD1;simp only [])|fail)
 all_goals
  go_wp2_with fail
  obtain⟨pb1,c1,hD1⟩:=HH.out
  have hT:Hid (∀x,x∈T1->x∈S3∨w.heap.size+4<=x):=hid (fun x hx=>(hD1 x hx).imp id (fun h=>by(try simp at h)<;>omega))
  have D1:Hid (Chg (g::(S3++S5)) w w1):=hid (Chg.trans (S:=g::(S3++S5)) Chg.now c1 (fun x hx=>.inl (by simp at hx ⊢;rcases hx with h|h<;>simp [h])))
  refine bodyPost_ret (v:=.agg #[.int .i64 r.2.code,.int .i64 r.2.value,.string r.2.text,.int .i64 r.2.want,.int .i64 r.2.had]) (by simp only [results,Tryz.results135];go_simp) rfl ?_
  exact⟨T1,rfl,pb1.keep (T:=[w.heap.size+1+1+1]) Chg.now (by have:=lt0.out g (by simp);simp;omega) (fun x hx=>by
   rcases hT.out x hx with h|h
   ·have:=lt0.out x (by simp [h]);simp;omega
   ·simp;omega) (fun x hx=>by have:=lt0.out x (by simp [hx]);simp;omega),fun x hx=>(hT.out x hx).imp id (fun h=>by omega),(Chg.to D1.out)⟩
theorem through_succ (n:Nat) (IH:ThrC n):ThrC (n+1):=by
 intro p x g B S3 S5 w h hok ht hk hE hB hS
 have hn:n<p.layers.length:=hok.le
 have hl:=layN_eq hn
 obtain⟨m,key,value,text⟩:=x
 cases thru_of hok hn with
 |countTell e m=>
  rw [<-hl] at e;simp only at m;subst m
  rw [thr_countTell e rfl]
  exact through_countTell n IH p key value text g B S3 S5 w h hok ht hk hE hB hS e
 |countKeep e m h1=>
  rw [<-hl] at e
  rcases m with m|m<;>(simp only at m;subst m)
  ·rw [thr_countKeep e (.inl rfl)];exact through_countKeep n IH p mGet keepC_Get key value text g B S3 S5 w h hok ht hk hE hB hS e h1
  ·rw [thr_countKeep e (.inr rfl)];exact through_countKeep n IH p mPut keepC_Put key value text g B S3 S5 w h hok ht hk hE hB hS e h1
 | lazyKeep e m h1 h2=>
  rw [<-hl] at e
  rcases m with m|m<;>(simp only at m;subst m)
  ·rw [thr_lazyKeep e (.inl rfl)]
   by_cases hc:(thr n p ⟨mGet,key,value,text⟩).2.code=2
   ·rw [if_pos hc];exact through_lazyKeepA n IH p mGet keepC_Get key value text g B S3 S5 w h hok ht hk hE hB hS e h1 h2 hc
   ·rw [if_neg hc];exact through_lazyKeep n IH p mGet keepC_Get key value text g B S3 S5 w h hok ht hk hE hB hS e h1 h2 hc
  ·rw [thr_lazyKeep e (.inr rfl)]
   by_cases hc:(thr n p ⟨mPut,key,value,text⟩).2.code=2
   ·rw [if_pos hc];exact through_lazyKeepA n IH p mPut keepC_Put key value text g B S3 S5 w h hok ht hk hE hB hS e h1 h2 hc
   ·rw [if_neg hc];exact through_lazyKeep n IH p mPut keepC_Put key value text g B S3 S5 w h hok ht hk hE hB hS e h1 h2 hc
 |readsPut e m=>
  rw [<-hl] at e;simp only at m;subst m
  rw [thr_readsPut e rfl]
  exact through_readsPut n IH p key value text g B S3 S5 w h hok ht hk hE hB hS e
 | hearsHear e m h1 h2=>
  rw [<-hl] at e;simp only at m;subst m
  have hv:0<=value:=by
   rcases hok.call.2.2 with h|h|h|h
   ·exact absurd h.1 (by simp only [mne,not_false_eq_true])
   ·exact absurd h.1 (by simp only [mne,not_false_eq_true])
   ·exact h.2.2.1
   ·exact absurd rfl h.2.2.1
  rw [thr_hearsHear e rfl]
  by_cases h0:value=0
  ·rw [if_pos h0];exact through_hearsHear0 n IH p key value text g B S3 S5 w h hok ht hk hE hB hS e h0 h1
  by_cases h3:value=1
  ·rw [if_neg h0,if_pos h3];exact through_hearsHear1 n IH p key value text g B S3 S5 w h hok ht hk hE hB hS e h3 h2
  ·rw [if_neg h0,if_neg h3];exact through_hearsHear2 n IH p key value text g B S3 S5 w h hok ht hk hE hB hS e (by omega)
 |healsHeal e m h1 h2=>
  rw [<-hl] at e;simp only at m;subst m
  rw [thr_healsHeal e rfl]
  exact through_healsHeal n IH p key value text g B S3 S5 w h hok ht hk hE hB hS e h1 h2
 |twiceTell e m h1=>
  rw [<-hl] at e;simp only at m;subst m
  rw [thr_twiceTell e]
  by_cases hc:(thr n p ⟨mTell,key,value,text⟩).2.code=0
  ·rw [if_pos hc];exact through_twiceTell0 n IH p key value text g B S3 S5 w h hok ht hk hE hB hS e h1 hc (thr_tell n p _ h1 rfl)
  ·rw [if_neg hc];exact through_twiceTell n IH p key value text g B S3 S5 w h hok ht hk hE hB hS e h1 hc
 | start e m h1=>
  rw [<-hl] at e
  rw [thr_start e m]
  rcases e with e|e|e|e
  ·rcases m with m|m<;>(simp only at m;subst m)
   ·exact through_none n IH p mStart nRuns (.inl ⟨ln_Runs,mt_Start⟩) key value text g B S3 S5 w h hok ht hk hE hB hS e h1
   ·exact through_none n IH p mStop nRuns (.inl ⟨ln_Runs,mt_Stop⟩) key value text g B S3 S5 w h hok ht hk hE hB hS e h1
  ·rcases m with m|m<;>(simp only at m;subst m)
   ·exact through_none n IH p mStart nLazy (.inr (.inr (.inr (.inl ⟨ln_Lazy,mt_Start⟩)))) key value text g B S3 S5 w h hok ht hk hE hB hS e h1
   ·exact through_none n IH p mStop nLazy (.inr (.inr (.inr (.inl ⟨ln_Lazy,mt_Stop⟩)))) key value text g B S3 S5 w h hok ht hk hE hB hS e h1
  ·rcases m with m|m<;>(simp only at m;subst m)
   ·exact through_none n IH p mStart nHears (.inr (.inr (.inr (.inr (.inl ⟨ln_Hears,mt_Start⟩))))) key value text g B S3 S5 w h hok ht hk hE hB hS e h1
   ·exact through_none n IH p mStop nHears (.inr (.inr (.inr (.inr (.inl ⟨ln_Hears,mt_Stop⟩))))) key value text g B S3 S5 w h hok ht hk hE hB hS e h1
  ·rcases m with m|m<;>(simp only at m;subst m)
   ·exact through_none n IH p mStart nHeals (.inr (.inr (.inr (.inr (.inr (.inl ⟨ln_Heals,mt_Start⟩)))))) key value text g B S3 S5 w h hok ht hk hE hB hS e h1
   ·exact through_none n IH p mStop nHeals (.inr (.inr (.inr (.inr (.inr (.inl ⟨ln_Heals,mt_Stop⟩)))))) key value text g B S3 S5 w h hok ht hk hE hB hS e h1
 |keep e m h1=>
  rw [<-hl] at e
  rw [thr_keep e]
  rcases m with m|m<;>(simp only at m;subst m)
  ·exact through_none n IH p mGet nKeeps (.inr (.inl ⟨ln_Keeps,mt_Get⟩)) key value text g B S3 S5 w h hok ht hk hE hB hS e h1
  ·exact through_none n IH p mPut nKeeps (.inr (.inr (.inl ⟨ln_Keeps,mt_Put⟩))) key value text g B S3 S5 w h hok ht hk hE hB hS e h1
 |readsGet e m h1=>
  rw [<-hl] at e;simp only at m;subst m
  rw [thr_readsGet e rfl]
  exact through_none n IH p mGet nReads (.inr (.inr (.inr (.inr (.inr (.inr ⟨ln_Reads,mt_Get⟩)))))) key value text g B S3 S5 w h hok ht hk hE hB hS e h1
theorem through_any:∀n:Nat,ThrC n
 |0=>through_zero
 |n+1=>through_succ n (through_any n)
end Go.Proofs.YtjigcplpkhpgnaaGreatDoor
