/- CallCore of the reference, where the core offers the call. Conditions: the call's text has a bound. / l4Own whatever the layer and the call, and l4Do of the reference, by induction on the number of layers. Conditions: the call has bounds. Written by a program. -/
import Derived.Test.YtjigcplpkhpgnaaGreatDoorL3s
import Derived.Test.YtjigcplpkhpgnaaGreatDoorCallR
import Derived.Test.YtjigcplpkhpgnaaGreatDoorWraps
import Derived.Deep.RegionLaw
import Derived.Test.YtjigcplpkhpgnaaGreatDoorL4OwnH
import Derived.BigRegion
set_option maxRecDepth 100000
set_option maxHeartbeats 8000000
namespace Go.Proofs.YtjigcplpkhpgnaaGreatDoor
open Go.RowKit

/-- A core in new memory, and a reply. -/
def CoreNew (r:CoreT×RepT) (w:World) (e:Ending) (w':World):Prop:=
 ∃A c S',e= .returned (.tuple #[.agg #[.string r.1.kind,.bool r.1.on,.bool r.1.broken,.slice A r.1.cells.length c,.int .i64 r.1.count],repV r.2])/\Has w' (cells r.1.cells) (.slice A r.1.cells.length c) S'/\(∀x,x∈S'->w.heap.size<=x)/\Chg [] w w'
theorem callCore_any (p:CoreT) (x:CallT) (A3:Option Addr) (c3 B:Nat) (w:World) (r3:Rd w B (cells p.cells) (.slice A3 p.cells.length c3)) (hB:B<=w.heap.size) (hp:CoreOk p) (hx:CallOk x) (ht:x.text.size<=1048575) (hk:x.key.size<=1048576) (hof:Offer ((kindOf p.kind).getD 0) (wantT x.method)):
  Calls Tryz.prog 125 #[.agg #[.string p.kind,.bool p.on,.bool p.broken,.slice A3 p.cells.length c3,.int .i64 p.count],.agg #[.string x.method,.string x.key,.int .i64 x.value,.string x.text]] w (CoreNew (doesT p x) w):=by
 obtain⟨f,hkf,hcc,_⟩:=id hp
 have hff:=kindOf_face hkf
 rw [hkf] at hof
 simp only [Option.getD_some] at hof
 have hrk:runsK p.kind=has f 0:=by unfold runsK;rw [hkf];rfl
 have hcl:p.cells.length<=1048576:=by have:=hcc.1;omega
 have hck:∀c∈p.cells,c.key.size<=1048576:=fun c hc=>by
  have:=((cellsOk_iff _).1 hcc).2.1 c hc
  have:=this.1.2.1
  omega
 have CP:=hid (fun W (hW:Chg [] w W)=>l3Copy_any p _ B W hcl (r3.chg0 hW hB) (by have:=hW.size;omega))
 have IC:=hid (fun W (hW:Chg [] w W)=>(isCore_spec_any p _ B W (r3.chg0 hW hB) (by have:=hW.size;omega) hcl hck).mono (BoolPost.pos hp))
 have IX:=hid (fun W=>(isCall_spec_any x W hk).mono (BoolPost.pos hx))
 have KF:=hid (fun W=>(kindFace_spec_any p.kind W).mono (OptPost.some_ hkf))
 have WT:=hid (fun W=>wantOf_spec_is x.method W)
 have OF:=hid (fun W=>(offers_spec_any f (wantT x.method) W).mono (BoolIs.pos hof))
 have L2:=hid (show ∀W,Calls Tryz.prog 95 #[.int .i64 f,.int .i64 0] W (fun e w'=>e= .returned (.bool (has f 0))/\w'=W) from fun W=>(l2Has_any f 0 W hff (by omega)).mono (BoolIs.eq_ (has f 0) rfl))
 have DO:=hid (fun A c S W (h:Has W (cells p.cells) (.slice A p.cells.length c) S)=>l3Do_any p x A c S W h hp hx ht)
 rw [hrk] at DO
 clear hkf hcc hff hof hrk hcl hck hp hx ht hk
 go_enter Tryz.func125,Tryz.ntmps125
 go_wp2_with fail
 refine(CP.out _ Chg.now).mono ?_
 rintro e w1 ⟨A,c,rfl,hN⟩
 obtain⟨S1,hS1,lo1,c1⟩:=hN
 have d1:Chg [] w w1:=Chg.trans0 Chg.now c1
 obtain⟨y1,z1,s1⟩:=c1.cells
 have x3:w.heap.size+3<w1.heap.size:=by simp at s1;omega
 have x0:w.heap.size<w1.heap.size:=by omega
 have x1:w.heap.size+1<w1.heap.size:=by omega
 have x2:w.heap.size+2<w1.heap.size:=by omega
 have lo2:∀x,x∈S1->w.heap.size+3<x/\x<w1.heap.size:=fun x hx=>⟨by have:=lo1 x hx;simp at this;omega,hS1.lt x hx⟩
 have b0:=fun o=>y1 w.heap.size o (by first|(simp;done)|(simp;omega))
 have b1:=fun o=>y1 (w.heap.size+1) o (by first|(simp;done)|(simp;omega))
 have b2:=fun o=>y1 (w.heap.size+1+1) o (by first|(simp;done)|(simp;omega))
 have b3:=fun o=>y1 (w.heap.size+1+1+1) o (by simp)
 have fb2:=fun o=>z1 (w.heap.size+1+1) o (by first|(simp;done)|(simp;omega))
 have fb3:=fun o=>z1 (w.heap.size+1+1+1) o (by simp)
 have HS:=hid hS1
 clear y1 z1 s1 lo1 hS1 c1
 go_wp2_with fail
 refine(IC.out _ (Chg.to d1)).mono ?_
 rintro e w2 ⟨rfl,c2⟩
 have d2:Chg [] w w2:=Chg.trans0 (Chg.to d1) c2
 obtain⟨y2,z2,s2⟩:=c2.cells
 have l2:w1.heap.size<w2.heap.size:=by first|omega|(simp at s2;omega)
 have pa2:=fun o=>y2 w.heap.size o (by first|omega|(simp;done)|(simp;omega))
 have pb2:=fun o=>y2 (w.heap.size+1) o (by first|omega|(simp;done)|(simp;omega))
 have pc2:=fun o=>y2 (w.heap.size+1+1) o (by first|omega|(simp;done)|(simp;omega))
 have fc2:=fun o=>z2 (w.heap.size+1+1) o (by first|omega|(simp;done)|(simp;omega))
 have pd2:=fun o=>y2 (w.heap.size+1+1+1) o (by first|omega|(simp;done)|(simp;omega))
 have fd2:=fun o=>z2 (w.heap.size+1+1+1) o (by first|omega|(simp;done)|(simp;omega))
 have pq2:=fun o=>y2 w1.heap.size o (by first|omega|(simp;done)|(simp;omega))
 have k20:w.heap.size<w2.heap.size:=by omega
 have k21:w.heap.size+1<w2.heap.size:=by omega
 have k22:w.heap.size+2<w2.heap.size:=by omega
 have k23:w.heap.size+3<w2.heap.size:=by omega
 clear y2 z2 s2
 go_wp2_with fail
 refine(IX.out _).mono ?_
 rintro e w3 ⟨rfl,c3'⟩
 have d3:Chg [] w w3:=d2.trans0 c3'
 obtain⟨y3,z3,s3⟩:=c3'.cells
 have l3:w1.heap.size<w3.heap.size:=by first|omega|(simp at s3;omega)
 have pa3:=fun o=>y3 w.heap.size o (by first|omega|(simp;done)|(simp;omega))
 have pb3:=fun o=>y3 (w.heap.size+1) o (by first|omega|(simp;done)|(simp;omega))
 have pc3:=fun o=>y3 (w.heap.size+1+1) o (by first|omega|(simp;done)|(simp;omega))
 have fc3:=fun o=>z3 (w.heap.size+1+1) o (by first|omega|(simp;done)|(simp;omega))
 have pd3:=fun o=>y3 (w.heap.size+1+1+1) o (by first|omega|(simp;done)|(simp;omega))
 have fd3:=fun o=>z3 (w.heap.size+1+1+1) o (by first|omega|(simp;done)|(simp;omega))
 have pq3:=fun o=>y3 w1.heap.size o (by first|omega|(simp;done)|(simp;omega))
 have k30:w.heap.size<w3.heap.size:=by omega
 have k31:w.heap.size+1<w3.heap.size:=by omega
 have k32:w.heap.size+2<w3.heap.size:=by omega
 have k33:w.heap.size+3<w3.heap.size:=by omega
 clear y3 z3 s3
 go_wp2_with fail
 refine(KF.out _).mono ?_
 rintro e w4 ⟨rfl,c4⟩
 have d4:Chg [] w w4:=d3.trans0 c4
 obtain⟨y4,z4,s4⟩:=c4.cells
 have l4:w1.heap.size<w4.heap.size:=by first|omega|(simp at s4;omega)
 have pa4:=fun o=>y4 w.heap.size o (by first|omega|(simp;done)|(simp;omega))
 have pb4:=fun o=>y4 (w.heap.size+1) o (by first|omega|(simp;done)|(simp;omega))
 have pc4:=fun o=>y4 (w.heap.size+1+1) o (by first|omega|(simp;done)|(simp;omega))
 have fc4:=fun o=>z4 (w.heap.size+1+1) o (by first|omega|(simp;done)|(simp;omega))
 have pd4:=fun o=>y4 (w.heap.size+1+1+1) o (by first|omega|(simp;done)|(simp;omega))
 have fd4:=fun o=>z4 (w.heap.size+1+1+1) o (by first|omega|(simp;done)|(simp;omega))
 have pq4:=fun o=>y4 w1.heap.size o (by first|omega|(simp;done)|(simp;omega))
 have k40:w.heap.size<w4.heap.size:=by omega
 have k41:w.heap.size+1<w4.heap.size:=by omega
 have k42:w.heap.size+2<w4.heap.size:=by omega
 have k43:w.heap.size+3<w4.heap.size:=by omega
 clear y4 z4 s4
 go_wp2_with fail
 refine(WT.out _).mono ?_
 rintro e w5 ⟨rfl,c5⟩
 have d5:Chg [] w w5:=d4.trans0 c5
 obtain⟨y5,z5,s5⟩:=c5.cells
 have l5:w1.heap.size<w5.heap.size:=by first|omega|(simp at s5;omega)
 have pa5:=fun o=>y5 w.heap.size o (by first|omega|(simp;done)|(simp;omega))
 have pb5:=fun o=>y5 (w.heap.size+1) o (by first|omega|(simp;done)|(simp;omega))
 have pc5:=fun o=>y5 (w.heap.size+1+1) o (by first|omega|(simp;done)|(simp;omega))
 have fc5:=fun o=>z5 (w.heap.size+1+1) o (by first|omega|(simp;done)|(simp;omega))
 have pd5:=fun o=>y5 (w.heap.size+1+1+1) o (by first|omega|(simp;done)|(simp;omega))
 have fd5:=fun o=>z5 (w.heap.size+1+1+1) o (by first|omega|(simp;done)|(simp;omega))
 have pq5:=fun o=>y5 w1.heap.size o (by first|omega|(simp;done)|(simp;omega))
 have k50:w.heap.size<w5.heap.size:=by omega
 have k51:w.heap.size+1<w5.heap.size:=by omega
 have k52:w.heap.size+2<w5.heap.size:=by omega
 have k53:w.heap.size+3<w5.heap.size:=by omega
 clear y5 z5 s5
 go_wp2_with fail
 refine(OF.out _).mono ?_
 rintro e w6 ⟨rfl,hw6⟩
 subst hw6
 go_wp2_with fail
 have HS5:=hid (fun W (hW:Chg [] w6 W)=>(HS.out.keep0 (((((Chg.refl [] w1).alloc _).trans0 c2).trans0 c3').trans0 (c4.trans0 (c5.trans0 hW)))))
 go_region_law (first|(go_simp;go_at_call 95;(with_reducible refine(L2.out _).mono ?_);rintro e w7 ⟨rfl,hw7⟩;subst hw7;simp only [])|(go_simp;go_at_call 142;(refine(DO.out A c S1 _ (HS5.out _ Chg.now)).mono ?_);rintro e w8 ⟨A8,c8',S8,rfl,hH8,hS8,c8⟩;(have pc8:=fun o=>c8.cell (p:=⟨w.heap.size+1+1,o,none⟩) (by first|(simp;done)|(simp;omega)) (by simp));(have pd8:=fun o=>c8.cell (p:=⟨w.heap.size+1+1+1,o,none⟩) (by first|(simp;done)|(simp;omega)) (by simp));(have gc8:=fun o=>c8.frozen (p:=⟨w.heap.size+1+1,o,none⟩) (by first|(simp;done)|(simp;omega)) (by simp));(have gd8:=fun o=>c8.frozen (p:=⟨w.heap.size+1+1+1,o,none⟩) (by first|(simp;done)|(simp;omega)) (by simp));(have k82:w.heap.size+2<w8.heap.size:=by have:=c8.size;simp at this;omega);(have k83:w.heap.size+3<w8.heap.size:=by have:=c8.size;simp at this;omega);unfold repV;simp only [])|fail)
 all_goals
  go_wp2_with fail
  refine bodyPost_ret (v:=.tuple #[.agg #[.string (doesT p x).1.kind,.bool (doesT p x).1.on,.bool (doesT p x).1.broken,.slice A8 (doesT p x).1.cells.length c8',.int .i64 (doesT p x).1.count],repV (doesT p x).2]) (by simp only [repV,results,Tryz.results125];go_simp) rfl ?_
  refine⟨A8,c8',S8,rfl,hH8.keep (S0:=[w.heap.size+1+1,w.heap.size+1+1+1]) Chg.now (fun x hx=>?_),fun x hx=>?_,?_⟩
  ·rcases hS8 x hx with h|h
   ·have:=lo2 x h;simp;omega
   ·simp at h;simp;omega
  ·rcases hS8 x hx with h|h
   ·have:=lo2 x h;omega
   ·simp at h;omega
  ·have d8:Chg [] w w8:=Chg.trans0 (by first|exact Chg.to d5|exact Chg.to (d5.trans0 (Chg.refl _ _))) c8
   repeat(first|with_reducible exact d8|with_reducible refine Chg.drew ?_|with_reducible refine Chg.drewN ?_ _|with_reducible refine Chg.setCell ?_ (by refine .inr ?_;simp<;>omega) _)
/-- What Tell answers through layers is a number of the program. -/
theorem thr_tell:∀(n:Nat) (p:PartT) (x:CallT),ThrOk n p x->x.method=mTell->0<=(thr n p x).2.value/\(thr n p x).2.value<=999
 |0,p,x,h,hm=>by
  rw [thr,doesT_Tell hm]
  obtain⟨_,_,_,_,hn,_⟩:=h.part.1
  exact hn
 | n+1,p,x,h,hm=>by
  have hn:n<p.layers.length:=h.le
  have hl:=layN_eq hn
  cases thru_of h hn with
  |countTell e m=>
   rw [thr_countTell (by rw [hl];exact e) m]
   obtain⟨_,_,_,hx,_⟩:=h.part.2.2 n hn
   rw [hl]
   exact hx
  |twiceTell e m h1=>
   rw [thr_twiceTell (by rw [hl];exact e)]
   have:=thr_tell n p x h1 hm
   split
   ·simp only [];omega
   ·exact this
  |countKeep e m h1=>rw [keep_Tell hm] at m;exact m.elim
  |lazyKeep e m h1 h'=>rw [keep_Tell hm] at m;exact m.elim
  |readsPut e m=>rw [hm] at m;simp only [mne] at m
  |hearsHear e m h1 h'=>rw [hm] at m;simp only [mne] at m
  |healsHeal e m h1 h'=>rw [hm] at m;simp only [mne] at m
  |start e m h1=>rw [hm] at m;simp only [mne,or_self] at m
  |keep e m h1=>rw [keep_Tell hm] at m;exact m.elim
  |readsGet e m h1=>rw [hm] at m;simp only [mne] at m
/-- What a layer does with a call, or that it hands it on. -/
theorem l4Own_any (n:Nat) (IH:L4Do n) (p:PartT) (x:CallT) (hok:ThrOk (n+1) p x) (ht:x.text.size<=1048575) (hk:x.key.size<=1048576):
  ∃(r:PartT×RepT) (b:Bool),(b=true->r=thr (n+1) p x)/\(b=false->r=(p,repOf 0 0 0 0)/\thr (n+1) p x=thr n p x/\ThrOk n p x)/\
   ∀(L:Nat) (A3:Option Addr) (c3:Nat) (A5:Option Addr) (c5:Nat) (S3 S5:List Nat) (W:World),POwn W p L A3 c3 A5 c5 S3 S5->
    Calls Tryz.prog 126 #[.agg #[.string p.core.kind,.bool p.core.on,.bool p.core.broken,.slice A3 p.core.cells.length c3,.int .i64 p.core.count,.slice A5 L c5],.int .i64 ((n+1:Nat):Int),.agg #[.string x.method,.string x.key,.int .i64 x.value,.string x.text]] W (PartOwn r b L A5 c5 S3 S5 W):=by
 have hn:n<p.layers.length:=hok.le
 have hl:=layN_eq hn
 obtain⟨m,key,value,text⟩:=x
 cases thru_of hok hn with
 |countTell e m=>
  rw [<-hl] at e;simp only at m;subst m
  exact⟨_,true,fun _=>(thr_countTell e rfl).symm,by simp,fun L A3 c3 A5 c5 S3 S5 W hW=>l4Own_countTell n IH p key value text L A3 c3 A5 c5 S3 S5 W hW hok ht hk e⟩
 |countKeep e m h1=>
  rw [<-hl] at e
  rcases m with m|m<;>(simp only at m;subst m)
  ·exact⟨_,true,fun _=>(thr_countKeep e (.inl rfl)).symm,by simp,fun L A3 c3 A5 c5 S3 S5 W hW=>l4Own_countKeep n IH p mGet keepC_Get key value text L A3 c3 A5 c5 S3 S5 W hW hok ht hk e h1⟩
  ·exact⟨_,true,fun _=>(thr_countKeep e (.inr rfl)).symm,by simp,fun L A3 c3 A5 c5 S3 S5 W hW=>l4Own_countKeep n IH p mPut keepC_Put key value text L A3 c3 A5 c5 S3 S5 W hW hok ht hk e h1⟩
 | lazyKeep e m h1 h2=>
  rw [<-hl] at e
  rcases m with m|m<;>(simp only at m;subst m)
  ·by_cases hc:(thr n p ⟨mGet,key,value,text⟩).2.code=2
   ·exact⟨_,true,fun _=>((thr_lazyKeep e (.inl rfl)).trans (if_pos hc)).symm,by simp,fun L A3 c3 A5 c5 S3 S5 W hW=>l4Own_lazyKeepA n IH p mGet keepC_Get key value text L A3 c3 A5 c5 S3 S5 W hW hok ht hk e h1 h2 hc⟩
   ·exact⟨_,true,fun _=>((thr_lazyKeep e (.inl rfl)).trans (if_neg hc)).symm,by simp,fun L A3 c3 A5 c5 S3 S5 W hW=>l4Own_lazyKeep n IH p mGet keepC_Get key value text L A3 c3 A5 c5 S3 S5 W hW hok ht hk e h1 h2 hc⟩
  ·by_cases hc:(thr n p ⟨mPut,key,value,text⟩).2.code=2
   ·exact⟨_,true,fun _=>((thr_lazyKeep e (.inr rfl)).trans (if_pos hc)).symm,by simp,fun L A3 c3 A5 c5 S3 S5 W hW=>l4Own_lazyKeepA n IH p mPut keepC_Put key value text L A3 c3 A5 c5 S3 S5 W hW hok ht hk e h1 h2 hc⟩
   ·exact⟨_,true,fun _=>((thr_lazyKeep e (.inr rfl)).trans (if_neg hc)).symm,by simp,fun L A3 c3 A5 c5 S3 S5 W hW=>l4Own_lazyKeep n IH p mPut keepC_Put key value text L A3 c3 A5 c5 S3 S5 W hW hok ht hk e h1 h2 hc⟩
 |readsPut e m=>
  rw [<-hl] at e;simp only at m;subst m
  exact⟨_,true,fun _=>(thr_readsPut e rfl).symm,by simp,fun L A3 c3 A5 c5 S3 S5 W hW=>l4Own_readsPut n IH p key value text L A3 c3 A5 c5 S3 S5 W hW hok ht hk e⟩
 | hearsHear e m h1 h2=>
  rw [<-hl] at e;simp only at m;subst m
  have hv:0<=value:=by
   rcases hok.call.2.2 with h|h|h|h
   ·exact absurd h.1 (by simp only [mne,not_false_eq_true])
   ·exact absurd h.1 (by simp only [mne,not_false_eq_true])
   ·exact h.2.2.1
   ·exact absurd rfl h.2.2.1
  by_cases h0:value=0
  ·exact⟨_,true,fun _=>((thr_hearsHear e rfl).trans (if_pos h0)).symm,by simp,fun L A3 c3 A5 c5 S3 S5 W hW=>l4Own_hearsHear n IH p key value text L A3 c3 A5 c5 S3 S5 W hW hok ht hk e 0 mStop (by omega) rfl (by omega) h1⟩
  by_cases h3:value=1
  ·exact⟨_,true,fun _=>((thr_hearsHear e rfl).trans ((if_neg h0).trans (if_pos h3))).symm,by simp,fun L A3 c3 A5 c5 S3 S5 W hW=>l4Own_hearsHear n IH p key value text L A3 c3 A5 c5 S3 S5 W hW hok ht hk e 1 mStart (by omega) rfl (by omega) h2⟩
  ·exact⟨_,true,fun _=>((thr_hearsHear e rfl).trans ((if_neg h0).trans (if_neg h3))).symm,by simp,fun L A3 c3 A5 c5 S3 S5 W hW=>l4Own_hearsHear2 n IH p key value text L A3 c3 A5 c5 S3 S5 W hW hok ht hk e (by omega)⟩
 |healsHeal e m h1 h2=>
  rw [<-hl] at e;simp only at m;subst m
  exact⟨_,true,fun _=>(thr_healsHeal e rfl).symm,by simp,fun L A3 c3 A5 c5 S3 S5 W hW=>l4Own_healsHeal n IH p key value text L A3 c3 A5 c5 S3 S5 W hW hok ht hk e h1 h2⟩
 |twiceTell e m h1=>
  rw [<-hl] at e;simp only at m;subst m
  by_cases hc:(thr n p ⟨mTell,key,value,text⟩).2.code=0
  ·exact⟨_,true,fun _=>((thr_twiceTell e).trans (if_pos hc)).symm,by simp,fun L A3 c3 A5 c5 S3 S5 W hW=>l4Own_twiceTell0 n IH p key value text L A3 c3 A5 c5 S3 S5 W hW hok ht hk e h1 hc (thr_tell n p _ h1 rfl)⟩
  ·exact⟨_,true,fun _=>((thr_twiceTell e).trans (if_neg hc)).symm,by simp,fun L A3 c3 A5 c5 S3 S5 W hW=>l4Own_twiceTell n IH p key value text L A3 c3 A5 c5 S3 S5 W hW hok ht hk e h1 hc⟩
 | start e m h1=>
  rw [<-hl] at e
  have hth:=thr_start e m
  rcases e with e|e|e|e
  ·rcases m with m|m<;>(simp only at m;subst m)
   ·exact⟨_,false,by simp,fun _=>⟨rfl,hth,h1⟩,fun L A3 c3 A5 c5 S3 S5 W hW=>l4Own_none n IH p mStart nRuns (.inl ⟨ln_Runs,mt_Start⟩) key value text L A3 c3 A5 c5 S3 S5 W hW hok ht hk e⟩
   ·exact⟨_,false,by simp,fun _=>⟨rfl,hth,h1⟩,fun L A3 c3 A5 c5 S3 S5 W hW=>l4Own_none n IH p mStop nRuns (.inl ⟨ln_Runs,mt_Stop⟩) key value text L A3 c3 A5 c5 S3 S5 W hW hok ht hk e⟩
  ·rcases m with m|m<;>(simp only at m;subst m)
   ·exact⟨_,false,by simp,fun _=>⟨rfl,hth,h1⟩,fun L A3 c3 A5 c5 S3 S5 W hW=>l4Own_none n IH p mStart nLazy (.inr (.inr (.inr (.inl ⟨ln_Lazy,mt_Start⟩)))) key value text L A3 c3 A5 c5 S3 S5 W hW hok ht hk e⟩
   ·exact⟨_,false,by simp,fun _=>⟨rfl,hth,h1⟩,fun L A3 c3 A5 c5 S3 S5 W hW=>l4Own_none n IH p mStop nLazy (.inr (.inr (.inr (.inl ⟨ln_Lazy,mt_Stop⟩)))) key value text L A3 c3 A5 c5 S3 S5 W hW hok ht hk e⟩
  ·rcases m with m|m<;>(simp only at m;subst m)
   ·exact⟨_,false,by simp,fun _=>⟨rfl,hth,h1⟩,fun L A3 c3 A5 c5 S3 S5 W hW=>l4Own_none n IH p mStart nHears (.inr (.inr (.inr (.inr (.inl ⟨ln_Hears,mt_Start⟩))))) key value text L A3 c3 A5 c5 S3 S5 W hW hok ht hk e⟩
   ·exact⟨_,false,by simp,fun _=>⟨rfl,hth,h1⟩,fun L A3 c3 A5 c5 S3 S5 W hW=>l4Own_none n IH p mStop nHears (.inr (.inr (.inr (.inr (.inl ⟨ln_Hears,mt_Stop⟩))))) key value text L A3 c3 A5 c5 S3 S5 W hW hok ht hk e⟩
  ·rcases m with m|m<;>(simp only at m;subst m)
   ·exact⟨_,false,by simp,fun _=>⟨rfl,hth,h1⟩,fun L A3 c3 A5 c5 S3 S5 W hW=>l4Own_none n IH p mStart nHeals (.inr (.inr (.inr (.inr (.inr (.inl ⟨ln_Heals,mt_Start⟩)))))) key value text L A3 c3 A5 c5 S3 S5 W hW hok ht hk e⟩
   ·exact⟨_,false,by simp,fun _=>⟨rfl,hth,h1⟩,fun L A3 c3 A5 c5 S3 S5 W hW=>l4Own_none n IH p mStop nHeals (.inr (.inr (.inr (.inr (.inr (.inl ⟨ln_Heals,mt_Stop⟩)))))) key value text L A3 c3 A5 c5 S3 S5 W hW hok ht hk e⟩
 |keep e m h1=>
  rw [<-hl] at e
  rcases m with m|m<;>(simp only at m;subst m)
  ·exact⟨_,false,by simp,fun _=>⟨rfl,thr_keep e,h1⟩,fun L A3 c3 A5 c5 S3 S5 W hW=>l4Own_none n IH p mGet nKeeps (.inr (.inl ⟨ln_Keeps,mt_Get⟩)) key value text L A3 c3 A5 c5 S3 S5 W hW hok ht hk e⟩
  ·exact⟨_,false,by simp,fun _=>⟨rfl,thr_keep e,h1⟩,fun L A3 c3 A5 c5 S3 S5 W hW=>l4Own_none n IH p mPut nKeeps (.inr (.inr (.inl ⟨ln_Keeps,mt_Put⟩))) key value text L A3 c3 A5 c5 S3 S5 W hW hok ht hk e⟩
 |readsGet e m h1=>
  rw [<-hl] at e;simp only at m;subst m
  exact⟨_,false,by simp,fun _=>⟨rfl,thr_readsGet e rfl,h1⟩,fun L A3 c3 A5 c5 S3 S5 W hW=>l4Own_none n IH p mGet nReads (.inr (.inr (.inr (.inr (.inr (.inr ⟨ln_Reads,mt_Get⟩)))))) key value text L A3 c3 A5 c5 S3 S5 W hW hok ht hk e⟩
theorem l4Do_zero:L4Do 0:=by
 intro p x L A3 c3 A5 c5 S3 S5 w h hok ht hk
 have hof:Offer ((kindOf p.core.kind).getD 0) (wantT x.method):=by have:=hok.offer;rwa [faceAt_zero] at this
 have CC:=hid (fun W (hW:Chg [] w W)=>callCore_any p.core x A3 c3 w.heap.size W (h.h3.rd.chg0 hW (Nat.le_refl _)) hW.size hok.part.1 hok.call ht hk hof)
 have l3:=hid h.h3.lt
 have l5:=hid h.h5.lt
 rw [thr]
 obtain⟨r,hr⟩:∃r,r=doesT p.core x:=⟨_,rfl⟩
 rw [<-hr] at CC ⊢
 have H:=hid h
 clear h hok ht hk hof hr
 go_enter Tryz.func104,Tryz.ntmps104
 go_wp2_with fail
 refine(CC.out _ Chg.now).mono ?_
 rintro e w1 ⟨A,c,T1,he,hH,lo,c1⟩
 unfold repV at he
 subst he
 have c10:=c1
 have c1:Chg S5 _ w1:=c1.mono (by simp)
 have s1:=c1.size
 have v1:w.heap.size+4<=w1.heap.size:=by simp at s1;omega
 have ya1:=c1.ce w.heap.size (hn:=fun hx=>by have:=l5.out _ hx;(try simp at this)<;>omega)
 have za1:=c1.fe w.heap.size (hn:=fun hx=>by have:=l5.out _ hx;(try simp at this)<;>omega)
 have xa1:w.heap.size<w1.heap.size:=by omega
 have xb1:w.heap.size+1<w1.heap.size:=by omega
 have yc1:=c1.ce (w.heap.size+1+1) (hn:=fun hx=>by have:=l5.out _ hx;(try simp at this)<;>omega)
 have zc1:=c1.fe (w.heap.size+1+1) (hn:=fun hx=>by have:=l5.out _ hx;(try simp at this)<;>omega)
 have xc1:w.heap.size+1+1<w1.heap.size:=by omega
 have yd1:=c1.ce (w.heap.size+1+1+1) (hn:=fun hx=>by have:=l5.out _ hx;(try simp at this)<;>omega)
 have zd1:=c1.fe (w.heap.size+1+1+1) (hn:=fun hx=>by have:=l5.out _ hx;(try simp at this)<;>omega)
 have xd1:w.heap.size+1+1+1<w1.heap.size:=by omega
 have hlo:Hid (∀x,x∈T1->w.heap.size+4<=x/\x<w1.heap.size):=hid (fun x hx=>by have:=lo x hx;have:=hH.lt x hx;simp at *;omega)
 have D1:Hid (Chg S5 w w1):=hid (Chg.trans (S:=S5) Chg.now c1 (fun x hx=>.inl hx))
 have K5:=hid ((H.out.h5.keep0 Chg.now).keep0 c10)
 have HH:=hid hH
 clear hH lo s1 c1 c10
 have ea0:w1.cell? ⟨w.heap.size,0,none⟩=some (.string p.core.kind):=(ya1 0).trans (by go_simp)
 have ea1:w1.cell? ⟨w.heap.size,1,none⟩=some (.bool p.core.on):=(ya1 1).trans (by go_simp)
 have ea2:w1.cell? ⟨w.heap.size,2,none⟩=some (.bool p.core.broken):=(ya1 2).trans (by go_simp)
 have ea3:w1.cell? ⟨w.heap.size,3,none⟩=some (.slice A3 p.core.cells.length c3):=(ya1 3).trans (by go_simp)
 have ea4:w1.cell? ⟨w.heap.size,4,none⟩=some (.int .i64 p.core.count):=(ya1 4).trans (by go_simp)
 have ea5:w1.cell? ⟨w.heap.size,5,none⟩=some (.slice A5 L c5):=(ya1 5).trans (by go_simp)
 clear ya1
 go_wp2_with fail
 go_region
 all_goals
  go_wp2_with fail
  refine bodyPost_ret (v:=.tuple #[.agg #[.string r.1.kind,.bool r.1.on,.bool r.1.broken,.slice A r.1.cells.length c,.int .i64 r.1.count,.slice A5 L c5],.agg #[.int .i64 r.2.code,.int .i64 r.2.value,.string r.2.text,.int .i64 r.2.want,.int .i64 r.2.had]]) (by simp only [results,Tryz.results104];go_simp) rfl ?_
  exact⟨A,c,T1,rfl,⟨H.out.len,HH.out.keep (S0:=[w.heap.size,w.heap.size+1+1,w.heap.size+1+1+1]) Chg.now (fun x hx=>by have:=hlo.out x hx;simp;omega),K5.out.keep (S0:=[w.heap.size,w.heap.size+1+1,w.heap.size+1+1+1]) Chg.now (fun x hx=>by have:=l5.out x hx;simp;omega),fun x hx h5=>by have:=hlo.out x hx;have:=l5.out x h5;omega⟩,fun x hx=>.inr (by have:=hlo.out x hx;omega),(Chg.to D1.out)⟩
theorem l4Do_succ (n:Nat) (IH:L4Do n):L4Do (n+1):=by
 intro p x L A3 c3 A5 c5 S3 S5 w h hok ht hk
 obtain⟨r,b,hb1,hb2,OW0⟩:=l4Own_any n IH p x hok ht hk
 have OW:=hid (fun W A3 c3 S3 (hW:POwn W p L A3 c3 A5 c5 S3 S5)=>OW0 L A3 c3 A5 c5 S3 S5 W hW)
 have l3:=hid h.h3.lt
 have l5:=hid h.h5.lt
 have n0:((n:Int)+1==0)=false:=by simp;omega
 have n1:¬((n:Int)+1=0):=by omega
 clear OW0
 cases b
 ·obtain⟨hr,hth,ok1⟩:=hb2 rfl
  have DO1:=hid (fun W A3 c3 S3 (hW:POwn W p L A3 c3 A5 c5 S3 S5)=>IH p x L A3 c3 A5 c5 S3 S5 W hW ok1 ht hk)
  rw [hth]
  obtain⟨r1,hr1⟩:∃r,r=thr n p x:=⟨_,rfl⟩
  rw [<-hr1] at DO1 ⊢
  subst hr
  have H:=hid h
  have i3:IntKind.i64.wrap (n:Int)=(n:Int):=wr_id (by have:=hok.le;have:=hok.part.2.1;omega) (by have:=hok.le;have:=hok.part.2.1;omega)
  have i4:(n:Int)<=1000:=by have:=hok.le;have:=hok.part.2.1;omega
  clear h hok ht hk hr1 hth ok1 hb1 hb2 IH
  go_enter Tryz.func104,Tryz.ntmps104
  go_wp2_with fail
  refine(OW.out _ _ _ _ (H.out.keep0 Chg.now)).mono ?_
  rintro e w1 ⟨A,c,T1,rfl,own1,hD1,c1⟩
  have OWN0:Hid (POwn w1 p L A3 c3 A5 c5 S3 S5):=hid ⟨H.out.len,(H.out.h3.keep0 Chg.now).keep c1 H.out.ds,own1.h5,H.out.ds⟩
  have s1:=c1.size
  have v1:w.heap.size+4<=w1.heap.size:=by simp at s1;omega
  have ya1:=c1.ce w.heap.size (hn:=fun hx=>by have:=l5.out _ hx;(try simp at this)<;>omega)
  have za1:=c1.fe w.heap.size (hn:=fun hx=>by have:=l5.out _ hx;(try simp at this)<;>omega)
  have xa1:w.heap.size<w1.heap.size:=by omega
  have yb1:=c1.ce (w.heap.size+1) (hn:=fun hx=>by have:=l5.out _ hx;(try simp at this)<;>omega)
  have zb1:=c1.fe (w.heap.size+1) (hn:=fun hx=>by have:=l5.out _ hx;(try simp at this)<;>omega)
  have xb1:w.heap.size+1<w1.heap.size:=by omega
  have yc1:=c1.ce (w.heap.size+1+1) (hn:=fun hx=>by have:=l5.out _ hx;(try simp at this)<;>omega)
  have zc1:=c1.fe (w.heap.size+1+1) (hn:=fun hx=>by have:=l5.out _ hx;(try simp at this)<;>omega)
  have xc1:w.heap.size+1+1<w1.heap.size:=by omega
  have yd1:=c1.ce (w.heap.size+1+1+1) (hn:=fun hx=>by have:=l5.out _ hx;(try simp at this)<;>omega)
  have zd1:=c1.fe (w.heap.size+1+1+1) (hn:=fun hx=>by have:=l5.out _ hx;(try simp at this)<;>omega)
  have xd1:w.heap.size+1+1+1<w1.heap.size:=by omega
  have D1:Hid (Chg S5 w w1):=hid (Chg.trans (S:=S5) Chg.now c1 (fun x hx=>.inl hx))
  clear own1 hD1 c1 s1
  unfold repOf
  go_wp2_with fail
  refine(DO1.out _ _ _ _ (OWN0.out.keep0 Chg.now)).mono ?_
  rintro e w2 ⟨A2,c2',T2,rfl,own2,hD2,c2⟩
  have s2:=c2.size
  have v2:w1.heap.size+2<=w2.heap.size:=by simp at s2;omega
  have xa2:w.heap.size<w2.heap.size:=by omega
  have xb2:w.heap.size+1<w2.heap.size:=by omega
  have yc2:=c2.ce (w.heap.size+1+1) (hn:=fun hx=>by have:=l5.out _ hx;(try simp at this)<;>omega)
  have zc2:=c2.fe (w.heap.size+1+1) (hn:=fun hx=>by have:=l5.out _ hx;(try simp at this)<;>omega)
  have xc2:w.heap.size+1+1<w2.heap.size:=by omega
  have yd2:=c2.ce (w.heap.size+1+1+1) (hn:=fun hx=>by have:=l5.out _ hx;(try simp at this)<;>omega)
  have zd2:=c2.fe (w.heap.size+1+1+1) (hn:=fun hx=>by have:=l5.out _ hx;(try simp at this)<;>omega)
  have xd2:w.heap.size+1+1+1<w2.heap.size:=by omega
  have D2:Hid (Chg S5 w w2):=hid (Chg.trans (S:=S5) (Chg.to D1.out) c2 (fun x hx=>.inl hx))
  have hlo:Hid (∀x,x∈T2->x<w.heap.size∨w1.heap.size+2<=x):=hid (fun x hx=>by rcases hD2 x hx with h|h;(have:=l3.out x h;omega);(simp at h;omega))
  have hT:Hid (∀x,x∈T2->x∈S3∨w.heap.size<=x):=hid (fun x hx=>(hD2 x hx).imp id (fun h=>by simp at h;omega))
  have OWN2:=hid own2
  clear own2 hD2 c2 s2
  go_wp2_with fail
  refine bodyPost_ret (v:=.tuple #[.agg #[.string r1.1.core.kind,.bool r1.1.core.on,.bool r1.1.core.broken,.slice A2 r1.1.core.cells.length c2',.int .i64 r1.1.core.count,.slice A5 L c5],.agg #[.int .i64 r1.2.code,.int .i64 r1.2.value,.string r1.2.text,.int .i64 r1.2.want,.int .i64 r1.2.had]]) (by simp only [results,Tryz.results104];go_simp) rfl ?_
  exact⟨A2,c2',T2,rfl,OWN2.out.keep (T:=[w.heap.size+1+1,w.heap.size+1+1+1]) Chg.now (fun x hx=>by have:=hlo.out x hx;simp;omega) (fun x hx=>by have:=l5.out x hx;simp;omega),hT.out,(Chg.to D2.out)⟩
 ·rw [<-hb1 rfl]
  have H:=hid h
  clear h hok ht hk hb1 hb2 IH
  go_enter Tryz.func104,Tryz.ntmps104
  go_wp2_with fail
  refine(OW.out _ _ _ _ (H.out.keep0 Chg.now)).mono ?_
  rintro e w1 ⟨A,c,T1,rfl,own1,hD1,c1⟩
  have s1:=c1.size
  have v1:w.heap.size+4<=w1.heap.size:=by simp at s1;omega
  have xa1:w.heap.size<w1.heap.size:=by omega
  have xb1:w.heap.size+1<w1.heap.size:=by omega
  have yc1:=c1.ce (w.heap.size+1+1) (hn:=fun hx=>by have:=l5.out _ hx;(try simp at this)<;>omega)
  have zc1:=c1.fe (w.heap.size+1+1) (hn:=fun hx=>by have:=l5.out _ hx;(try simp at this)<;>omega)
  have xc1:w.heap.size+1+1<w1.heap.size:=by omega
  have yd1:=c1.ce (w.heap.size+1+1+1) (hn:=fun hx=>by have:=l5.out _ hx;(try simp at this)<;>omega)
  have zd1:=c1.fe (w.heap.size+1+1+1) (hn:=fun hx=>by have:=l5.out _ hx;(try simp at this)<;>omega)
  have xd1:w.heap.size+1+1+1<w1.heap.size:=by omega
  have D1:Hid (Chg S5 w w1):=hid (Chg.trans (S:=S5) Chg.now c1 (fun x hx=>.inl hx))
  have hlo:Hid (∀x,x∈T1->x<w.heap.size∨w.heap.size+4<=x):=hid (fun x hx=>by rcases hD1 x hx with h|h;(have:=l3.out x h;omega);(simp at h;omega))
  have hT:Hid (∀x,x∈T1->x∈S3∨w.heap.size<=x):=hid (fun x hx=>(hD1 x hx).imp id (fun h=>by simp at h;omega))
  have OWN1:=hid own1
  clear own1 hD1 c1 s1
  go_wp2_with fail
  go_region
  all_goals
   go_wp2_with fail
   refine bodyPost_ret (v:=.tuple #[.agg #[.string r.1.core.kind,.bool r.1.core.on,.bool r.1.core.broken,.slice A r.1.core.cells.length c,.int .i64 r.1.core.count,.slice A5 L c5],.agg #[.int .i64 r.2.code,.int .i64 r.2.value,.string r.2.text,.int .i64 r.2.want,.int .i64 r.2.had]]) (by simp only [results,Tryz.results104];go_simp) rfl ?_
   exact⟨A,c,T1,rfl,OWN1.out.keep (T:=[w.heap.size+1+1,w.heap.size+1+1+1]) Chg.now (fun x hx=>by have:=hlo.out x hx;simp;omega) (fun x hx=>by have:=l5.out x hx;simp;omega),hT.out,(Chg.to D1.out)⟩
/-- l4Do, through any number of layers. -/
theorem l4Do_any:∀n:Nat,L4Do n
 |0=>l4Do_zero
 |n+1=>l4Do_succ n (l4Do_any n)
end Go.Proofs.YtjigcplpkhpgnaaGreatDoor
