/- ActionAt, of the program and of the reference. Written by a program. -/
import Derived.Test.YtdlkbomojjmnlaaGreatDoorPlan
import Derived.Test.YtdlkbomojjmnlaaGreatDoorCopyA
import Derived.Test.YtdlkbomojjmnlaaGreatDoorCopyB
set_option maxRecDepth 100000
set_option maxHeartbeats 2000000
namespace Go.Proofs.YtdlkbomojjmnlaaGreatDoor
open Go.RowKit

mutual
/-- The action in a place, of an action. -/
def ActionT.at:ActionT->Nat->Option ActionT
 | .mk o s t w c f A B,n=>if n=0 then some (.mk o s t w c f A B) else if n-1<sizeL A then atL A (n-1) else atL B (n-1-sizeL A)
def atL:List ActionT->Nat->Option ActionT
 | [],_=>none
 |a::l,n=>if n<a.size then a.at n else atL l (n-a.size)
end
theorem ActionT.at_eq (a:ActionT) (n:Nat):a.at n=if n=0 then some a else if n-1<sizeL a.A then atL a.A (n-1) else atL a.B (n-1-sizeL a.A):=by
 cases a;rw [ActionT.at];rfl
theorem atL_append:∀(l m:List ActionT) (n:Nat),atL (l++m) n=if n<sizeL l then atL l n else atL m (n-sizeL l)
 | [],m,n=>by simp [sizeL]
 | a::l,m,n=>by
  rw [List.cons_append,atL,atL,sizeL,atL_append l m]
  by_cases h:n<a.size
  ·rw [if_pos h,if_pos h,if_pos (by omega)]
  ·rw [if_neg h,if_neg h]
   by_cases h':n-a.size<sizeL l
   ·rw [if_pos h',if_pos (by omega)]
   ·rw [if_neg h',if_neg (by omega)];congr 1;omega
theorem atL_none:∀(l:List ActionT) (n:Nat),sizeL l<=n->atL l n=none
 | [],n,_=>by rw [atL]
 |a::l,n,h=>by
  rw [sizeL] at h
  rw [atL,if_neg (by omega),atL_none l _ (by omega)]
theorem atL_at (l:List ActionT) (k n:Nat) (h:k<l.length) (h0:sizeL (l.take k)<=n) (h1:n<sizeL (l.take k)+l[k].size):atL l n=l[k].at (n-sizeL (l.take k)):=by
 have e:l=l.take k++l[k] ::l.drop (k+1):=by rw [<-List.drop_eq_getElem_cons h,List.take_append_drop]
 have e2:atL l n=atL (l.take k++l[k] ::l.drop (k+1)) n:=congrArg (fun x=>atL x n) e
 rw [e2,atL_append,if_neg (by omega),atL,if_pos (by omega)]
/-- The action in a place, which may lie outside. -/
def atI (l:List ActionT) (p:Int):Option ActionT:=if p<0 then none else atL l p.toNat
theorem atI_none (l:List ActionT) (p:Int) (h:p<0∨(sizeL l:Int)<=p):atI l p=none:=by
 unfold atI
 by_cases h':p<0
 ·rw [if_pos h']
 ·rw [if_neg h',atL_none];omega
theorem atI_self (l:List ActionT) (k:Nat) (h:k<l.length) (p:Int) (e:p=sizeL (l.take k)):atI l p=some l[k]:=by
 unfold atI
 have:=l[k].size_eq
 rw [if_neg (by omega),atL_at l k _ h (by omega) (by omega),ActionT.at_eq,if_pos (by omega)]
theorem atI_A (l:List ActionT) (k:Nat) (h:k<l.length) (p q:Int) (h0:0<=q) (h1:q<sizeL l[k].A) (e:p=sizeL (l.take k)+1+q):atI l p=atI l[k].A q:=by
 unfold atI
 have:=l[k].size_eq
 rw [if_neg (by omega),if_neg (by omega),atL_at l k _ h (by omega) (by omega),ActionT.at_eq,if_neg (by omega),if_pos (by omega)]
 congr 1;omega
theorem atI_B (l:List ActionT) (k:Nat) (h:k<l.length) (p q:Int) (h0:0<=q) (h1:q<sizeL l[k].B) (e:p=sizeL (l.take k)+1+sizeL l[k].A+q):atI l p=atI l[k].B q:=by
 unfold atI
 have:=l[k].size_eq
 rw [if_neg (by omega),if_neg (by omega),atL_at l k _ h (by omega) (by omega),ActionT.at_eq,if_neg (by omega),if_neg (by omega)]
 congr 1;omega
def zeroA:ActionT:=.mk 0 0 0 ⟨#[]⟩ ⟨⟨#[]⟩,⟨#[]⟩,0,⟨#[]⟩⟩ 0 [] []
abbrev AtIs (o:Option ActionT) (a:ActionT) (b:Bool):Prop:=match o with|none=>a=zeroA/\b=false|some x=>a=x/\b=true
def AtPost (l:List ActionT) (p:Int) (w:World) (e:Ending) (w':World):Prop:=
 ∃(a:ActionT) (b:Bool) (A9:Option Addr) (cap9:Nat) (A10:Option Addr) (cap10:Nat),AtIs (atI l p) a b/\e= .returned (.tuple #[.agg #[.int .i64 a.op,.int .i64 a.slot,.int .i64 a.other,.string a.word,.string a.call.method,.string a.call.key,.int .i64 a.call.value,.string a.call.text,.int .i64 a.face,.slice A9 a.A.length cap9,.slice A10 a.B.length cap10],.bool b])/\NewL w w' (actionF a) [.int .i64 a.op,.int .i64 a.slot,.int .i64 a.other,.string a.word,.string a.call.method,.string a.call.key,.int .i64 a.call.value,.string a.call.text,.int .i64 a.face,.slice A9 a.A.length cap9,.slice A10 a.B.length cap10]
theorem none_new {w w':World} (h:Chg [] w w'):New w w' (.s 0 []) (.slice none 0 0):=(App.nil w 0 0 h).new
theorem zeroA_new {w w':World} (h:Chg [] w w'):NewL w w' (actionF zeroA) [.int .i64 0,.int .i64 0,.int .i64 0,.string ⟨#[]⟩,.string ⟨#[]⟩,.string ⟨#[]⟩,.int .i64 0,.string ⟨#[]⟩,.int .i64 0,.slice none 0 0,.slice none 0 0]:=by
 rw [actionF_parts]
 refine NewT.start (T:=[]) ?_ (by intro x hx;simp at hx)
 refine NewT.cons_v ?_
 refine NewT.cons_v ?_
 refine NewT.cons_v ?_
 refine NewT.cons_v ?_
 refine NewT.cons_v ?_
 refine NewT.cons_v ?_
 refine NewT.cons_v ?_
 refine NewT.cons_v ?_
 refine NewT.cons_v ?_
 refine NewT.cons_new (d:=actions zeroA.A) (none_new h) (by intro x hx;simp at hx) (Chg.refl _ _) (Chg.refl _ _) ?_
 refine NewT.cons_new (d:=actions zeroA.B) (none_new (Chg.refl _ _)) (by intro x hx;simp at hx) (Chg.refl _ _) (Chg.refl _ _) ?_
 exact NewT.nil (Chg.refl _ _)

def ActAtP_impl (l:List ActionT):Prop:=∀(u:Value) (p:Int) (B:Nat) (w:World),actionsW l<=1048576-> -9223372036854775808<=p->p<=9223372036854775807->Rd w B (actions l) u->B<=w.heap.size->Calls Tryz.prog 18 #[u,.int .i64 p] w (AtPost l p w)
theorem actionAt_impl_any:∀l,ActAtP_impl l:=by
 refine ActionT.ind fun l ih=>?_
 intro u p B w hl hp0 hp1 hr hB
 have hll:l.length<=1048576:=by unfold actionsW at hl;omega
 have hsl:sizeL l<=1048576:=by have:=sizeL_W l;omega
 obtain⟨A,cap,rfl,h0,h1,hrow⟩:=actions_row hr
 unfold maxLen at h1
 have IH:=hid ih
 clear ih hr
 go_enter Tryz.func18,Tryz.ntmps18
 go_wp2_with fail
 ·have tt:w.heap.size<w.heap.size+1:=by omega
  refine bodyPost_ret (v:=.tuple #[.agg #[.int .i64 0,.int .i64 0,.int .i64 0,.string ⟨#[]⟩,.string ⟨#[]⟩,.string ⟨#[]⟩,.int .i64 0,.string ⟨#[]⟩,.int .i64 0,.slice none 0 0,.slice none 0 0],.bool false]) (by simp only [results,Tryz.results18];go_simp) rfl ?_
  exact⟨zeroA,false,none,0,none,0,by rw [atI_none l p (.inl (by assumption))];exact⟨rfl,rfl⟩,rfl,zeroA_new Chg.now⟩
 go_loopw [1,14] (fun v i wr=>∃(k:Nat) (q:Int),k<=l.length/\i= .int .i64 k/\v= .int .i64 q/\0<=q/\q<=p/\Hid (p=sizeL (l.take k)+q)/\Hid (Chg [] (w.alloc (.cells #[.int .i64 0,.int .i64 0,.int .i64 0,.string ⟨#[]⟩,.string ⟨#[]⟩,.string ⟨#[]⟩,.int .i64 0,.string ⟨#[]⟩,.int .i64 0,.slice none 0 0,.slice none 0 0] 32)) wr)) (fun _ i _=>l.length-(intOf i).toNat)
 case atStart=>exact⟨0,p,Nat.zero_le _,rfl,rfl,by assumption,Int.le_refl _,by simp [sizeL,Hid],hid (Chg.refl _ _)⟩
 case round=>
  obtain⟨k,q,hk,rfl,rfl,hq0,hq1,HP,HC⟩:=hrel
  have hc:Chg [] w wr:=Chg.trans0 ((Chg.refl _ _).alloc _) HC.out
  obtain⟨y0,z0,s0⟩:=HC.out.cells
  have t0:w.heap.size<wr.heap.size:=by simp at s0;omega
  have tt:w.heap.size<w.heap.size+1:=by omega
  have hwB:B<=wr.heap.size:=by omega
  have hcT:Chg [w.heap.size] w wr:=hc.mono (by intro x hx;cases hx)
  by_cases hlt:k<l.length
  ·obtain⟨b,off,u9,u10,rfl,hb,q0,q1,q2,q3,q4,q5,q6,q7,q8,q9,q10,r9,r10⟩:=actions_cells (hrow.chg0 hc hB) k hlt
   have hmem:=List.getElem_mem hlt
   have hwt:=actionsW_mem hmem
   rw [actionW_eq] at hwt
   obtain⟨X9,xap9,rfl,_,_,_⟩:=actions_row r9
   obtain⟨X10,xap10,rfl,_,_,_⟩:=actions_row r10
   go_wp2_with fail
   ·-- the action itself
    have hq:q=0:=by simpa using ‹(q==0)=true›
    refine(copyAction_el l[k] (copyActions_any _) (copyActions_any _) _ _ B _ (by rw [actionW_eq];unfold actionsW at hl;omega) (r9.chg0 ((Chg.refl _ _).alloc _) hwB) (r10.chg0 ((Chg.refl _ _).alloc _) hwB) (by simp;omega)).mono ?_
    rintro e w1 ⟨A9,cap9,A10,cap10,rfl,n1⟩
    obtain⟨y1,z1,s1⟩:=n1.chg.cells
    have t1:w.heap.size<w1.heap.size:=by simp at s1;omega
    have t2:w.heap.size<wr.heap.size+1:=by omega
    go_wp2_with fail
    refine bodyPost_ret (v:=.tuple #[.agg #[.int .i64 (l[k].op),.int .i64 (l[k].slot),.int .i64 (l[k].other),.string (l[k].word),.string (l[k].call.method),.string (l[k].call.key),.int .i64 (l[k].call.value),.string (l[k].call.text),.int .i64 (l[k].face),.slice A9 l[k].A.length cap9,.slice A10 l[k].B.length cap10],.bool true]) (by simp only [results,Tryz.results18];go_simp) rfl ?_
    exact⟨l[k],true,A9,cap9,A10,cap10,by rw [atI_self l k hlt p (by have:=HP.out;omega)];exact⟨rfl,rfl⟩,rfl,NewT.start (T:=[w.heap.size]) (NewT.last_new n1 (by intro x hx;simp at hx ⊢;omega) (Chg.to hcT) Chg.now) (by intro x hx;simp at hx;omega)⟩
   ·-- further
    have hq:q≠0:=by simpa using ‹(q==0)=false›
    refine(planSize_impl_any l[k].A _ B _ (by have:=sizeL_take l k hlt;have:=sizeL_le l (k+1);have:=l[k].size_eq;omega) (r9.chg0 ((Chg.refl _ _).alloc _) hwB) (by simp;omega)).mono ?_
    rintro e w1 ⟨rfl,e1⟩
    obtain⟨y1,z1,s1⟩:=e1.cells
    have t1:w.heap.size<w1.heap.size:=by simp at s1;omega
    have t1':wr.heap.size<w1.heap.size:=by simp at s1;omega
    have t2:w.heap.size<wr.heap.size+1:=by omega
    have t3:wr.heap.size<wr.heap.size+1:=by omega
    have hw1:Chg [] wr w1:=Chg.trans0 ((Chg.refl _ _).alloc _) e1
    go_wp2_with fail
    ·refine((IH.out _ hmem).1 _ (q-1) B _ (by unfold actionsW at hl;omega) (by omega) (by omega) (r9.chg0 hw1 hwB) (by omega)).mono ?_
     rintro e w2 ⟨a,bb,A9,cap9,A10,cap10,hab,rfl,n2⟩
     obtain⟨y2,z2,s2⟩:=n2.chg.cells
     have t4:w.heap.size<w2.heap.size:=by omega
     go_wp2_with fail
     refine bodyPost_ret (v:=.tuple #[.agg #[.int .i64 a.op,.int .i64 a.slot,.int .i64 a.other,.string a.word,.string a.call.method,.string a.call.key,.int .i64 a.call.value,.string a.call.text,.int .i64 a.face,.slice A9 a.A.length cap9,.slice A10 a.B.length cap10],.bool bb]) (by simp only [results,Tryz.results18];go_simp) rfl ?_
     exact⟨a,bb,A9,cap9,A10,cap10,by rw [atI_A l k hlt p (q-1) (by omega) (by assumption) (by have:=HP.out;omega)];exact hab,rfl,NewT.start (T:=[w.heap.size]) (NewT.last_new n2 (by intro x hx;simp at hx ⊢;omega) ((Chg.trans0 hc hw1).mono (by intro x hx;cases hx)) Chg.now) (by intro x hx;simp at hx;omega)⟩
    ·refine(planSize_impl_any l[k].B _ B _ (by have:=sizeL_take l k hlt;have:=sizeL_le l (k+1);have:=l[k].size_eq;omega) (r10.chg0 hw1 hwB) (by omega)).mono ?_
     rintro e w3 ⟨rfl,e3⟩
     obtain⟨y3,z3,s3⟩:=e3.cells
     have t5:w.heap.size<w3.heap.size:=by omega
     have hw3:Chg [] wr w3:=Chg.trans0 hw1 e3
     have t6:wr.heap.size<=w3.heap.size:=by omega
     go_wp2_with fail
     ·refine((IH.out _ hmem).2 _ (q-1-sizeL l[k].A) B _ (by unfold actionsW at hl;omega) (by omega) (by omega) (r10.chg0 hw3 hwB) (by omega)).mono ?_
      rintro e w2 ⟨a,bb,A9,cap9,A10,cap10,hab,rfl,n2⟩
      obtain⟨y2,z2,s2⟩:=n2.chg.cells
      have t4:w.heap.size<w2.heap.size:=by omega
      go_wp2_with fail
      refine bodyPost_ret (v:=.tuple #[.agg #[.int .i64 a.op,.int .i64 a.slot,.int .i64 a.other,.string a.word,.string a.call.method,.string a.call.key,.int .i64 a.call.value,.string a.call.text,.int .i64 a.face,.slice A9 a.A.length cap9,.slice A10 a.B.length cap10],.bool bb]) (by simp only [results,Tryz.results18];go_simp) rfl ?_
      exact⟨a,bb,A9,cap9,A10,cap10,by rw [atI_B l k hlt p (q-1-sizeL l[k].A) (by omega) (by assumption) (by have:=HP.out;omega)];exact hab,rfl,NewT.start (T:=[w.heap.size]) (NewT.last_new n2 (by intro x hx;simp at hx ⊢;omega) ((Chg.trans0 hc hw3).mono (by intro x hx;cases hx)) Chg.now) (by intro x hx;simp at hx;omega)⟩
     ·go_roundw
      case rel=>exact⟨k+1,q-1-sizeL l[k].A-sizeL l[k].B,by omega,by go_num,by go_num,by omega,by omega,hid (by have:=HP.out;have:=sizeL_take l k hlt;have:=l[k].size_eq;omega),hid (Chg.trans0 HC.out hw3)⟩
      case measure=>simp [intOf];omega
  ·obtain rfl:k=l.length:=by omega
   rw [List.take_length] at HP
   go_wp2_with fail
   refine bodyPost_ret (v:=.tuple #[.agg #[.int .i64 0,.int .i64 0,.int .i64 0,.string ⟨#[]⟩,.string ⟨#[]⟩,.string ⟨#[]⟩,.int .i64 0,.string ⟨#[]⟩,.int .i64 0,.slice none 0 0,.slice none 0 0],.bool false]) (by simp only [results,Tryz.results18];go_simp) rfl ?_
   exact⟨zeroA,false,none,0,none,0,by rw [atI_none l p (.inr (by have:=HP.out;omega))];exact⟨rfl,rfl⟩,rfl,NewT.start (T:=[w.heap.size]) (NewT.last_new (zeroA_new (Chg.refl [] wr)) (by intro x hx;simp at hx ⊢;omega) hcT Chg.now) (by intro x hx;simp at hx;omega)⟩
end Go.Proofs.YtdlkbomojjmnlaaGreatDoor
