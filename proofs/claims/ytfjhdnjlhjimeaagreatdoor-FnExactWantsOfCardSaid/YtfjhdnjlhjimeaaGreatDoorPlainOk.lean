/- Plans without some kinds of actions. Conditions: as stated. -/
import Derived.Test.YtfjhdnjlhjimeaaGreatDoorMoreW
import Derived.Test.YtfjhdnjlhjimeaaGreatDoorPlOk
import Derived.Test.YtfjhdnjlhjimeaaGreatDoorActsG
set_option maxRecDepth 100000
set_option maxHeartbeats 4000000
namespace Go.Proofs.YtfjhdnjlhjimeaaGreatDoor
open Go.RowKit

def QiK (l:List Qa):Prop:=Xn l/\zR 10 3 l
def Qmd (p q:Int) (l:List Qa):Prop:=∀(u:Value) (B:Nat) (w:World),Rd w B (QA l) u->B<=w.heap.size->
 Calls Tryz.prog 76 #[u,.int .i64 p,.int .i64 q] w (Qg (zR p q l) w)
theorem Qmc (p q:Int):∀l,Qmd p q l:=by
 refine j4 fun l ih=>?_
 intro u B w hr hB
 obtain⟨A,cap,rfl,h0,h1,hrow⟩:=Qr hr
 unfold maxLen at h1
 have IH:=Qb ih
 have HO:=Qb (kF p q l)
 clear ih hr
 go_enter Tryz.func76,Tryz.ntmps76
 go_wp2_with fail
 go_loopw [11] (fun i wr=>∃k:Nat,k<=l.length/\i= .int .i64 k/\Hid (∀(j:Nat) (h:j<l.length),j<k->l[j].no p q)/\Qc [] w wr) (fun i _=>l.length-(intOf i).toNat)
 case atStart=>exact⟨0,I3 _,rfl,fun j h h0=>absurd h0 (M4 _),B0 _ _⟩
 case round=>
  obtain⟨k,hk,rfl,HN,hc⟩:=hrel
  by_cases hlt:k<l.length
  ·obtain⟨b,off,uA,uB,rfl,hb,q0,q1,q2,q3,q4,q5,q6,q7,q8,q9,q10,rA,rB⟩:=Yh (hrow.cz hc hB) k hlt
   obtain⟨A1,cap1,rfl,_,_,_⟩:=Qr rA
   obtain⟨A2,cap2,rfl,_,_,_⟩:=Qr rB
   have hmem:=I4 hlt
   have hcs:=hc.size
   have HOK:=Qb (l[k].no_iff p q)
   have IA:=Qb (fun W (hW:Qc [] wr W)=>(IH.out _ hmem).1 _ B W (rA.cz hW (by omega)) (by have:=hW.size;omega))
   have IB:=Qb (fun W (hW:Qc [] wr W)=>(IH.out _ hmem).2 _ B W (rB.cz hW (by omega)) (by have:=hW.size;omega))
   cases e1:(l[k].op==p)
   ·cases e2:(l[k].op==q)
    ·have E1:=Qb (beq_eq_false_iff_ne.1 e1)
     have E2:=Qb (beq_eq_false_iff_ne.1 e2)
     go_wp2_with fail
     refine(IA.out _ ((B0 _ _).alloc _)).mono ?_
     rintro e w2 ⟨t,rfl,ht,c2⟩
     have f10:w2.cell? ⟨wr.heap.size,10,none⟩=some (.slice A2 l[k].B.length cap2):=(c2.cell (p:=⟨wr.heap.size,10,none⟩) (by simp) (by simp)).trans (by go_simp)
     have HT2:=Qb ht
     have d2:Qc [] wr w2:=((B0 _ _).alloc _).tz c2
     clear ht c2
     cases t
     ·go_wp2_with fail
      go_ret
      exact Qg.of ⟨fun h=>by simp at h,fun h=>by have:=HT2.out.2 (HOK.out.1 (HO.out.1 h _ hmem)).2.1;simp at this⟩ (hc.tz d2)
     ·go_wp2_with fail
      refine(IB.out _ d2).mono ?_
      rintro e w3 ⟨t,rfl,ht,c3⟩
      have HT3:=Qb ht
      have d3:Qc [] wr w3:=d2.tz c3
      clear ht c3
      cases t
      ·go_wp2_with fail
       go_ret
       exact Qg.of ⟨fun h=>by simp at h,fun h=>by have:=HT3.out.2 (HOK.out.1 (HO.out.1 h _ hmem)).2.2;simp at this⟩ (hc.tz d3)
      ·go_wp2_with fail
       go_roundw
       case rel=>exact⟨k+1,by omega,by go_num,Qb (fun j h hj=>(I7.1 hj).elim (HN.out j h) (fun e=>by subst e;exact HOK.out.2 ⟨⟨E1.out,E2.out⟩,HT2.out.1 (by simp),HT3.out.1 (by simp)⟩)),hc.tz d3⟩
       case measure=>simp [intOf];omega
    ·have E2:=Qb (beq_iff_eq.1 e2)
     go_wp2_with fail
     go_ret
     exact Qg.of ⟨fun h=>by simp at h,fun h=>absurd E2.out (HOK.out.1 (HO.out.1 h _ hmem)).1.2⟩ (hc.tz ((B0 _ _).alloc _))
   ·have E1:=Qb (beq_iff_eq.1 e1)
    go_wp2_with fail
    go_ret
    exact Qg.of ⟨fun h=>by simp at h,fun h=>absurd E1.out (HOK.out.1 (HO.out.1 h _ hmem)).1.1⟩ (hc.tz ((B0 _ _).alloc _))
  ·obtain rfl:k=l.length:=by omega
   go_wp2_with fail
   go_ret
   refine Qg.of ⟨fun _=>HO.out.2 fun a ha=>?_,fun _=>rfl⟩ hc
   obtain⟨j,hj,rfl⟩:=M0 ha
   exact HN.out j hj hj
def QiL (p q:Int) (l:List Qa):Prop:=∀(u:Value) (B:Nat) (w:World),Rd w B (QA l) u->B<=w.heap.size->
 Calls Tryz.prog 81 #[u,.int .i64 p,.int .i64 q] w (Qg (zR p q l) w)
theorem QiI (p q:Int):∀l,QiL p q l:=by
 refine j4 fun l ih=>?_
 intro u B w hr hB
 obtain⟨A,cap,rfl,h0,h1,hrow⟩:=Qr hr
 unfold maxLen at h1
 have IH:=Qb ih
 have HO:=Qb (kF p q l)
 clear ih hr
 go_enter Tryz.func81,Tryz.ntmps81
 go_wp2_with fail
 go_loopw [11] (fun i wr=>∃k:Nat,k<=l.length/\i= .int .i64 k/\Hid (∀(j:Nat) (h:j<l.length),j<k->l[j].no p q)/\Qc [] w wr) (fun i _=>l.length-(intOf i).toNat)
 case atStart=>exact⟨0,I3 _,rfl,fun j h h0=>absurd h0 (M4 _),B0 _ _⟩
 case round=>
  obtain⟨k,hk,rfl,HN,hc⟩:=hrel
  by_cases hlt:k<l.length
  ·obtain⟨b,off,uA,uB,rfl,hb,q0,q1,q2,q3,q4,q5,q6,q7,q8,q9,q10,rA,rB⟩:=Yh (hrow.cz hc hB) k hlt
   obtain⟨A1,cap1,rfl,_,_,_⟩:=Qr rA
   obtain⟨A2,cap2,rfl,_,_,_⟩:=Qr rB
   have hmem:=I4 hlt
   have hcs:=hc.size
   have HOK:=Qb (l[k].no_iff p q)
   have IA:=Qb (fun W (hW:Qc [] wr W)=>(IH.out _ hmem).1 _ B W (rA.cz hW (by omega)) (by have:=hW.size;omega))
   have IB:=Qb (fun W (hW:Qc [] wr W)=>(IH.out _ hmem).2 _ B W (rB.cz hW (by omega)) (by have:=hW.size;omega))
   cases e1:(l[k].op==p)
   ·cases e2:(l[k].op==q)
    ·have E1:=Qb (beq_eq_false_iff_ne.1 e1)
     have E2:=Qb (beq_eq_false_iff_ne.1 e2)
     go_wp2_with fail
     refine(IA.out _ ((B0 _ _).alloc _)).mono ?_
     rintro e w2 ⟨t,rfl,ht,c2⟩
     have f10:w2.cell? ⟨wr.heap.size,10,none⟩=some (.slice A2 l[k].B.length cap2):=(c2.cell (p:=⟨wr.heap.size,10,none⟩) (by simp) (by simp)).trans (by go_simp)
     have HT2:=Qb ht
     have d2:Qc [] wr w2:=((B0 _ _).alloc _).tz c2
     clear ht c2
     cases t
     ·go_wp2_with fail
      go_ret
      exact Qg.of ⟨fun h=>by simp at h,fun h=>by have:=HT2.out.2 (HOK.out.1 (HO.out.1 h _ hmem)).2.1;simp at this⟩ (hc.tz d2)
     ·go_wp2_with fail
      refine(IB.out _ d2).mono ?_
      rintro e w3 ⟨t,rfl,ht,c3⟩
      have HT3:=Qb ht
      have d3:Qc [] wr w3:=d2.tz c3
      clear ht c3
      cases t
      ·go_wp2_with fail
       go_ret
       exact Qg.of ⟨fun h=>by simp at h,fun h=>by have:=HT3.out.2 (HOK.out.1 (HO.out.1 h _ hmem)).2.2;simp at this⟩ (hc.tz d3)
      ·go_wp2_with fail
       go_roundw
       case rel=>exact⟨k+1,by omega,by go_num,Qb (fun j h hj=>(I7.1 hj).elim (HN.out j h) (fun e=>by subst e;exact HOK.out.2 ⟨⟨E1.out,E2.out⟩,HT2.out.1 (by simp),HT3.out.1 (by simp)⟩)),hc.tz d3⟩
       case measure=>simp [intOf];omega
    ·have E2:=Qb (beq_iff_eq.1 e2)
     go_wp2_with fail
     go_ret
     exact Qg.of ⟨fun h=>by simp at h,fun h=>absurd E2.out (HOK.out.1 (HO.out.1 h _ hmem)).1.2⟩ (hc.tz ((B0 _ _).alloc _))
   ·have E1:=Qb (beq_iff_eq.1 e1)
    go_wp2_with fail
    go_ret
    exact Qg.of ⟨fun h=>by simp at h,fun h=>absurd E1.out (HOK.out.1 (HO.out.1 h _ hmem)).1.1⟩ (hc.tz ((B0 _ _).alloc _))
  ·obtain rfl:k=l.length:=by omega
   go_wp2_with fail
   go_ret
   refine Qg.of ⟨fun _=>HO.out.2 fun a ha=>?_,fun _=>rfl⟩ hc
   obtain⟨j,hj,rfl⟩:=M0 ha
   exact HN.out j hj hj
theorem Qma (l:List Qa) (u:Value) (B:Nat) (w:World) (hW:Qi l<=1048576) (hr:Rd w B (QA l) u) (hB:B<=w.heap.size):
  Calls Tryz.prog 49 #[u] w (Qg (QiK l) w):=by
 have PP:=Qb (JK l u B w hW hr hB)
 have WO:=Qb (fun W (hc:Qc [] w W)=>Qmc 10 3 l u B W (hr.cz hc hB) (G5 hB hc.size))
 obtain⟨A,cap,rfl,_,_,_⟩:=Qr hr
 clear hr
 go_enter Tryz.func49,Tryz.ntmps49
 go_wp2_with fail
 refine PP.out.mono ?_
 rintro e w1 ⟨t,rfl,ht,c1⟩
 have HT:=Qb ht
 clear ht
 cases t
 ·go_wp2_with fail
  go_ret
  exact Qg.of ⟨fun h=>by simp at h,fun h=>by have:=HT.out.2 h.1;simp at this⟩ c1
 ·go_wp2_with fail
  refine(WO.out _ c1).mono ?_
  rintro e w2 ⟨t,rfl,ht,c2⟩
  have HT2:=Qb ht
  clear ht
  go_wp2_with fail
  go_ret
  exact Qg.of ⟨fun h=>⟨HT.out.1 (by simp),HT2.out.1 h⟩,fun h=>HT2.out.2 h.2⟩ (c1.tz c2)
theorem QiF (l:List Qa) (u:Value) (B:Nat) (w:World) (hE:KP w) (hW:Qi l<=1048576) (hr:Rd w B (QA l) u) (hB:B<=w.heap.size):
  Calls Tryz.prog 52 #[u] w (Qg (QiK l) w):=by
 have PP:=Qb (Yv l u B w hE hW hr hB)
 have WO:=Qb (fun W (hc:Qc [] w W)=>QiI 10 3 l u B W (hr.cz hc hB) (G5 hB hc.size))
 obtain⟨A,cap,rfl,_,_,_⟩:=Qr hr
 clear hr
 go_enter Tryz.func52,Tryz.ntmps52
 go_wp2_with fail
 refine PP.out.mono ?_
 rintro e w1 ⟨t,rfl,ht,c1⟩
 have HT:=Qb ht
 clear ht
 cases t
 ·go_wp2_with fail
  go_ret
  exact Qg.of ⟨fun h=>by simp at h,fun h=>by have:=HT.out.2 h.1;simp at this⟩ c1
 ·go_wp2_with fail
  refine(WO.out _ c1).mono ?_
  rintro e w2 ⟨t,rfl,ht,c2⟩
  have HT2:=Qb ht
  clear ht
  go_wp2_with fail
  go_ret
  exact Qg.of ⟨fun h=>⟨HT.out.1 (by simp),HT2.out.1 h⟩,fun h=>HT2.out.2 h.2⟩ (c1.tz c2)
end Go.Proofs.YtfjhdnjlhjimeaaGreatDoor
