/- l4Own of the reference: what a layer does with a call, given what the layers below it do. Conditions: the call has bounds. Written by a program. -/
import Derived.Test.YtjigcplpkhpgnaaGreatDoorBoxes
import Derived.Test.YtjigcplpkhpgnaaGreatDoorDoesAll
import Derived.StillTailTactics
import Derived.Deep.RegionHeld3
import Derived.Test.YtjigcplpkhpgnaaGreatDoorRegL
import Derived.Test.YtjigcplpkhpgnaaGreatDoorL4Own
set_option maxRecDepth 100000
set_option maxHeartbeats 8000000
namespace Go.Proofs.YtjigcplpkhpgnaaGreatDoor
open Go.RowKit
theorem l4Own_hearsHear (n:Nat) (IH:L4Do n) (p:PartT) (key:ByteArray) (value:Int) (text:ByteArray) (L:Nat) (A3:Option Addr) (c3:Nat) (A5:Option Addr) (c5:Nat) (S3 S5:List Nat) (w:World) (h:POwn w p L A3 c3 A5 c5 S3 S5) (hok:ThrOk (n+1) p ⟨mHear,key,value,text⟩) (ht:text.size<=1048575) (hk:key.size<=1048576) (e:(layN p n).name=nHears) (cv:Nat) (mm:ByteArray) (hcv:cv<2) (hmm:(#[Value.string ⟨#[83,116,111,112]⟩,Value.string ⟨#[83,116,97,114,116]⟩]:Array Value)[cv]?=some (.string mm)) (hc:value=(cv:Int)) (ok2:ThrOk n p (only mm)):
  Calls Tryz.prog 126 #[.agg #[.string p.core.kind,.bool p.core.on,.bool p.core.broken,.slice A3 p.core.cells.length c3,.int .i64 p.core.count,.slice A5 L c5],.int .i64 ((n+1:Nat):Int),.agg #[.string mHear,.string key,.int .i64 value,.string text]] w (PartOwn (thr n (bump p n) (only mm)) true L A5 c5 S3 S5 w):=by
 have hb:=And.intro ht (And.intro hk IH)
 have hnL:n<L:=by have:=hok.le;have:=h.len;omega
 obtain⟨g,rfl,hgS,hg,hLc,hcm⟩:=h.block (by omega)
 unfold maxLen at hcm
 obtain⟨q0,q1,_⟩:=h.lay hnL
 rw [e] at q0
 have l3:=hid h.h3.lt
 have l5:=hid h.h5.lt
 obtain⟨u0,u1,u2,u3,u4,u5⟩:=ln_Hears
 obtain⟨t0,t1,t2,t3,t4,t5,t6,t7,t8⟩:=tl_Hear
 have i0:(0:Int)<=(n:Int):=by omega
 have i1:(n:Int)<(L:Int):=by omega
 have i2:(L:Int)<=9223372036854775807:=by omega
 have i3:IntKind.i64.wrap (n:Int)=(n:Int):=wr_id (by omega) (by omega)
 have g0:g<w.heap.size+1:=by omega
 have g1:g<w.heap.size+1+1:=by omega
 have g2:g<w.heap.size+1+1+1:=by omega
 have g3:g<w.heap.size+1+1+1+1:=by omega
 have hnum:IsNum (layN p n).count:=by
  have hlen:=h.len
  obtain⟨_,_,_,hx,_⟩:=hok.part.2.2 n (by omega)
  rw [layN_eq (by omega)]
  exact hx
 have UP:=hid (fun W=>l3Up_any (layN p n).count W hnum)
 have hbp:(bump p n).layers.length=L:=by rw [(bump_same (by have:=h.len;omega)).len];exact h.len
 have hbl:(layN (bump p n) n).count=upN (layN p n).count:=by
  have hlen:=h.len
  rw [layN_eq (by omega),layN_eq (by omega)]
  simp only [bump_eq (show n<p.layers.length by omega),List.getElem_set,if_true]
 have g4:g<w.heap.size+1+1+1+1+1:=by omega
 subst hc
 have cv0:(0:Int)<=(cv:Int):=by omega
 have cv2:(cv:Int)<2:=by omega
 have cv1:decide ((cv:Int)>1)=false:=by simp;omega
 have HM:=hid hmm
 clear hmm hcv
 have okb:ThrOk n (bump p n) (only mm):=by
  have hlen:=h.len
  have hb2:=bump_thr (Same.refl n p) hok.part (by omega) (.inr (by rw [layN_eq (by omega)] at e;exact e))
  exact ok2.to hb2.2 hb2.1
 obtain⟨r1,hr1⟩:∃r,r=thr n (bump p n) (only mm):=⟨_,rfl⟩
 have DO1:=hid (fun W A3 c3 S3 (hW:POwn W (bump p n) L A3 c3 (some ⟨g,0,none⟩) c5 S3 S5)=>IH (bump p n) (only mm) L A3 c3 _ c5 S3 S5 W hW okb (by first|exact ht|decide|(show(0:Nat)<=1048575;decide)) (by first|exact hk|decide|(show(0:Nat)<=1048576;decide)))
 rw [<-hr1] at DO1
 have OK1:=(show PartOk r1.1/\Same n (bump p n) r1.1 from by rw [hr1];exact thr_ok n _ _ okb)
 rw [<-hr1]
 clear hbp hbl OK1 okb ok2
 have H:=hid h
 have HN:=hid hnum
 have E:=hid e
 clear hr1 h hok hnum e hb ht hk IH
 go_enter Tryz.func126,Tryz.ntmps126
 go_wp2_with fail
 go_wp2_with fail
 refine region_tail 14 (by kernel_rfl) (by kernel_rfl) ?_
 simp only [List.take_succ_cons,List.take_zero,List.drop_succ_cons,List.drop_zero]
 repeat still_step
 still_call (UP.out _)
 repeat still_step
 try refine wpStill_nil ?_
 go_wp2_with fail
 refine wp_region_till (S:=(fun W=>W.cell? ⟨w.heap.size+1+1+1+1,0,none⟩=some (.string p.core.kind)/\W.cell? ⟨w.heap.size+1+1+1+1,1,none⟩=some (.bool p.core.on)/\W.cell? ⟨w.heap.size+1+1+1+1,2,none⟩=some (.bool p.core.broken)/\W.cell? ⟨w.heap.size+1+1+1+1,3,none⟩=some (.slice A3 p.core.cells.length c3)/\W.cell? ⟨w.heap.size+1+1+1+1,4,none⟩=some (.int .i64 p.core.count)/\W.cell? ⟨w.heap.size+1+1+1+1,5,none⟩=some (.slice (some ⟨g,0,none⟩) L c5)/\W.cell? ⟨w.heap.size+1,2,none⟩=some (.int .i64 (cv:Int)))) (by kernel_rfl) ?_
 refine wpTill.with_ ?_ (fun hS0=>?_)
 ·(refine⟨?_,?_,?_,?_,?_,?_,?_⟩)<;>go_simp
 refine wpTill.tk 0 9 hS0 (h:=?_)
 refine wpTill.tk 1 2 hS0 (h:=?_)
 refine wpTill.tk 2 9 hS0 (h:=?_)
 refine wpTill.tk 4 5 hS0 (h:=?_)
 refine wpTill.tk 5 6 hS0 (h:=?_)
 refine wpTill.all (rs:=[3,13,14]) (by kernel_rfl) (by simp) ?_
 refine .cn (h:=fun K hK=>?_) (hs:=?_)
 ·go_simp
  refine tillK hK ((alc (alc (alc (alc (alc (alc alc0)))))) hS0) (fun hS1=>?_)
  clear hK K
  refine wpTill.mono (S:=(fun W=>W.cell? ⟨w.heap.size+1+1+1+1,0,none⟩=some (.string p.core.kind)/\W.cell? ⟨w.heap.size+1+1+1+1,1,none⟩=some (.bool p.core.on)/\W.cell? ⟨w.heap.size+1+1+1+1,2,none⟩=some (.bool p.core.broken)/\W.cell? ⟨w.heap.size+1+1+1+1,3,none⟩=some (.slice A3 p.core.cells.length c3)/\W.cell? ⟨w.heap.size+1+1+1+1,4,none⟩=some (.int .i64 p.core.count)/\W.cell? ⟨w.heap.size+1+1+1+1,5,none⟩=some (.slice (some ⟨g,0,none⟩) L c5)/\W.cell? ⟨w.heap.size+1,2,none⟩=some (.int .i64 (cv:Int))/\W.cell? ⟨w.heap.size+1+1+1+1+1,cv,none⟩=some (.string mm))) (fun W h=>⟨h.1,h.2.1,h.2.2.1,h.2.2.2.1,h.2.2.2.2.1,h.2.2.2.2.2.1,h.2.2.2.2.2.2.1⟩) _ _ _ _ (wpTill.with_ ?_ (fun hS2=>?_))
  ·exact⟨hS1.1,hS1.2.1,hS1.2.2.1,hS1.2.2.2.1,hS1.2.2.2.2.1,hS1.2.2.2.2.2.1,hS1.2.2.2.2.2.2,by simp only [cell_of_drew];exact cell_at_lit (by simp) HM.out⟩
  refine wpTill.tk 6 7 hS2 (h:=?_)
  refine wpTill.tk 7 8 hS2 (h:=?_)
  refine wpTill.tk 8 9 hS2 (h:=?_)
  refine wpTill.all (rs:=[9,13,14]) (by kernel_rfl) (by simp) ?_
  refine .cn (h:=fun K hK=>?_) (hs:=?_)
  ·go_simp
   go_at_call 104
   refine(DO1.out _ _ _ _ ((POwn.bump (w:=w) H.out hnL).keep0 Chg.now)).mono ?_
   rintro e w1 ⟨A11,c11,T1,rfl,own1,hD1,c1⟩
   have s1:=c1.size
   have v1:w.heap.size+6<=w1.heap.size:=by simp at s1;omega
   obtain⟨-, -,xa1,yb1,zb1,xb1,yc1,zc1,xc1,yd1,zd1,xd1,ye1,ze1,xe1,yn1,zn1,xn1, -⟩:=c1.low 6 (w.heap.size) (fun x hx=>by have:=l5.out _ hx;(try simp at this)<;>omega)
   have lo1:Hid (∀x,x∈T1->x<w.heap.size∨(w.heap.size+6<=x/\x<w1.heap.size)):=hid (fun x hx=>by rcases hD1 x hx with h|h;(have:=l3.out x h;omega);(have:=own1.h3.lt x hx;simp at h;omega))
   have hT1:Hid (∀x,x∈T1->x∈S3∨w.heap.size<=x):=hid (fun x hx=>by rcases hD1 x hx with h|h;(exact .inl h);(exact .inr (by simp at h;omega)))
   have D1:Hid (Chg S5 w w1):=hid (Chg.trans (S:=S5) Chg.now c1 (fun x hx=>.inl hx))
   obtain⟨n10,n11,nf1⟩:=own1.lay hnL
   have OWN1:=hid own1
   obtain⟨hg1,hg1a,hg1b,hne1,hne1a⟩:=near (show g<w1.heap.size by omega)
   have m0:=(ye1 0).trans hS2.1
   have m1:=(ye1 1).trans hS2.2.1
   have m2:=(ye1 2).trans hS2.2.2.1
   have m3:=(ye1 3).trans hS2.2.2.2.1
   have m4:=(ye1 4).trans hS2.2.2.2.2.1
   have m5:=(ye1 5).trans hS2.2.2.2.2.2.1
   have m6:=(yb1 2).trans hS2.2.2.2.2.2.2.1
   have m7:=(yn1 cv).trans hS2.2.2.2.2.2.2.2
   clear own1 hD1 c1 s1
   simp only []
   refine tillK hK (⟨m0,m1,m2,m3,m4,m5,m6,m7⟩) (fun hS3=>?_)
   clear hK K
   refine wpTill.tk 10 11 hS3 (h:=?_)
   refine wpTill.tk 11 15 hS3 (h:=?_)
   refine wpTill.tk 12 16 hS3 (h:=?_)
   refine wpTill.all (rs:=[13,14]) (by kernel_rfl) (by simp) ?_
   refine .cn (h:=fun K hK=>?_) (hs:=?_)
   ·go_simp
    refine tillK hK ((alc (alc (alc (alc (alc (alc (alc alc0))))))) hS3) (fun hS4=>?_)
    clear hK K
    refine wpTill.on 14 (h:=fun K hK=>?_)
    go_simp
    refine tillK hK ((alc (alc (alc (alc (alc (alc (alc alc0))))))) hS4) (fun hS5=>?_)
    clear hK K
    refine wpTill.on 15 (h:=fun K hK=>?_)
    go_simp
    refine tillK hK (⟨by have:=hS5.1;go_simp,by have:=hS5.2.1;go_simp,by have:=hS5.2.2.1;go_simp,by have:=hS5.2.2.2.1;go_simp,by have:=hS5.2.2.2.2.1;go_simp,by have:=hS5.2.2.2.2.2.1;go_simp,by have:=hS5.2.2.2.2.2.2.1;go_simp,by have:=hS5.2.2.2.2.2.2.2;go_simp⟩) (fun hS101=>?_)
    clear hK K
    refine wpTill.on 16 (h:=fun K hK=>?_)
    go_simp
    refine tillE hK ?_
    clear hK K
    refine wpTill.done (by kernel_rfl) ?_ _
    go_wp2_with fail
    go_region
    all_goals
     go_wp2_with fail
     refine bodyPost_ret (v:=.tuple #[.agg #[.string r1.1.core.kind,.bool r1.1.core.on,.bool r1.1.core.broken,.slice A11 r1.1.core.cells.length c11,.int .i64 r1.1.core.count,.slice (some ⟨g,0,none⟩) L c5],.agg #[.int .i64 r1.2.code,.int .i64 r1.2.value,.string r1.2.text,.int .i64 r1.2.want,.int .i64 r1.2.had],.bool true]) (by simp only [results,Tryz.results126];go_simp) rfl ?_
     exact⟨A11,c11,T1,rfl,(OWN1.out).keep (T:=[w.heap.size+1+1,w.heap.size+1+1+1]) Chg.now (fun x hx=>by have:=lo1.out x hx;simp;omega) (fun x hx=>by have:=l5.out x hx;simp;omega),hT1.out,(Chg.to D1.out)⟩
   refine .cn (h:=fun K hK=>?_) (hs:=?_)
   ·go_simp
    refine tillK hK ((alc (alc (alc (alc (alc (alc (alc alc0))))))) hS3) (fun hS6=>?_)
    clear hK K
    refine wpTill.on 13 (h:=fun K hK=>?_)
    go_simp
    refine tillK hK ((alc (alc (alc (alc (alc (alc (alc alc0))))))) hS6) (fun hS7=>?_)
    clear hK K
    refine wpTill.on 15 (h:=fun K hK=>?_)
    go_simp
    refine tillK hK (⟨by have:=hS7.1;go_simp,by have:=hS7.2.1;go_simp,by have:=hS7.2.2.1;go_simp,by have:=hS7.2.2.2.1;go_simp,by have:=hS7.2.2.2.2.1;go_simp,by have:=hS7.2.2.2.2.2.1;go_simp,by have:=hS7.2.2.2.2.2.2.1;go_simp,by have:=hS7.2.2.2.2.2.2.2;go_simp⟩) (fun hS102=>?_)
    clear hK K
    refine wpTill.on 16 (h:=fun K hK=>?_)
    go_simp
    refine tillE hK ?_
    clear hK K
    refine wpTill.done (by kernel_rfl) ?_ _
    go_wp2_with fail
    go_region
    all_goals
     go_wp2_with fail
     refine bodyPost_ret (v:=.tuple #[.agg #[.string r1.1.core.kind,.bool r1.1.core.on,.bool r1.1.core.broken,.slice A11 r1.1.core.cells.length c11,.int .i64 r1.1.core.count,.slice (some ⟨g,0,none⟩) L c5],.agg #[.int .i64 r1.2.code,.int .i64 r1.2.value,.string r1.2.text,.int .i64 r1.2.want,.int .i64 r1.2.had],.bool true]) (by simp only [results,Tryz.results126];go_simp) rfl ?_
     exact⟨A11,c11,T1,rfl,(OWN1.out).keep (T:=[w.heap.size+1+1,w.heap.size+1+1+1]) Chg.now (fun x hx=>by have:=lo1.out x hx;simp;omega) (fun x hx=>by have:=l5.out x hx;simp;omega),hT1.out,(Chg.to D1.out)⟩
   exact .nil
  refine .cn (h:=fun K hK=>?_) (hs:=?_)
  ·go_simp
   refine tillK hK ((alc (alc (alc (alc (alc (alc (alc alc0))))))) hS2) (fun hS8=>?_)
   clear hK K
   refine wpTill.all (rs:=[9,14]) (by kernel_rfl) (by simp) ?_
   refine .cn (h:=fun K hK=>?_) (hs:=?_)
   ·go_simp
    go_at_call 104
    refine(DO1.out _ _ _ _ ((POwn.bump (w:=w) H.out hnL).keep0 Chg.now)).mono ?_
    rintro e w1 ⟨A11,c11,T1,rfl,own1,hD1,c1⟩
    have s1:=c1.size
    have v1:w.heap.size+7<=w1.heap.size:=by simp at s1;omega
    obtain⟨-, -,xa1,yb1,zb1,xb1,yc1,zc1,xc1,yd1,zd1,xd1,ye1,ze1,xe1,yn1,zn1,xn1,yq1,zq1,xq1, -⟩:=c1.low 7 (w.heap.size) (fun x hx=>by have:=l5.out _ hx;(try simp at this)<;>omega)
    have lo1:Hid (∀x,x∈T1->x<w.heap.size∨(w.heap.size+7<=x/\x<w1.heap.size)):=hid (fun x hx=>by rcases hD1 x hx with h|h;(have:=l3.out x h;omega);(have:=own1.h3.lt x hx;simp at h;omega))
    have hT1:Hid (∀x,x∈T1->x∈S3∨w.heap.size<=x):=hid (fun x hx=>by rcases hD1 x hx with h|h;(exact .inl h);(exact .inr (by simp at h;omega)))
    have D1:Hid (Chg S5 w w1):=hid (Chg.trans (S:=S5) Chg.now c1 (fun x hx=>.inl hx))
    obtain⟨n10,n11,nf1⟩:=own1.lay hnL
    have OWN1:=hid own1
    obtain⟨hg1,hg1a,hg1b,hne1,hne1a⟩:=near (show g<w1.heap.size by omega)
    have m0:=(ye1 0).trans hS8.1
    have m1:=(ye1 1).trans hS8.2.1
    have m2:=(ye1 2).trans hS8.2.2.1
    have m3:=(ye1 3).trans hS8.2.2.2.1
    have m4:=(ye1 4).trans hS8.2.2.2.2.1
    have m5:=(ye1 5).trans hS8.2.2.2.2.2.1
    have m6:=(yb1 2).trans hS8.2.2.2.2.2.2.1
    have m7:=(yn1 cv).trans hS8.2.2.2.2.2.2.2
    clear own1 hD1 c1 s1
    simp only []
    refine tillK hK (⟨m0,m1,m2,m3,m4,m5,m6,m7⟩) (fun hS9=>?_)
    clear hK K
    refine wpTill.tk 10 11 hS9 (h:=?_)
    refine wpTill.tk 11 15 hS9 (h:=?_)
    refine wpTill.tk 12 16 hS9 (h:=?_)
    refine wpTill.on 14 (h:=fun K hK=>?_)
    go_simp
    refine tillK hK ((alc (alc (alc (alc (alc (alc (alc alc0))))))) hS9) (fun hS10=>?_)
    clear hK K
    refine wpTill.on 15 (h:=fun K hK=>?_)
    go_simp
    refine tillK hK (⟨by have:=hS10.1;go_simp,by have:=hS10.2.1;go_simp,by have:=hS10.2.2.1;go_simp,by have:=hS10.2.2.2.1;go_simp,by have:=hS10.2.2.2.2.1;go_simp,by have:=hS10.2.2.2.2.2.1;go_simp,by have:=hS10.2.2.2.2.2.2.1;go_simp,by have:=hS10.2.2.2.2.2.2.2;go_simp⟩) (fun hS103=>?_)
    clear hK K
    refine wpTill.on 16 (h:=fun K hK=>?_)
    go_simp
    refine tillE hK ?_
    clear hK K
    refine wpTill.done (by kernel_rfl) ?_ _
    go_wp2_with fail
    go_region
    all_goals
     go_wp2_with fail
     refine bodyPost_ret (v:=.tuple #[.agg #[.string r1.1.core.kind,.bool r1.1.core.on,.bool r1.1.core.broken,.slice A11 r1.1.core.cells.length c11,.int .i64 r1.1.core.count,.slice (some ⟨g,0,none⟩) L c5],.agg #[.int .i64 r1.2.code,.int .i64 r1.2.value,.string r1.2.text,.int .i64 r1.2.want,.int .i64 r1.2.had],.bool true]) (by simp only [results,Tryz.results126];go_simp) rfl ?_
     exact⟨A11,c11,T1,rfl,(OWN1.out).keep (T:=[w.heap.size+1+1,w.heap.size+1+1+1,w.heap.size+1+1+1+1+1+1]) Chg.now (fun x hx=>by have:=lo1.out x hx;simp;omega) (fun x hx=>by have:=l5.out x hx;simp;omega),hT1.out,(Chg.to D1.out)⟩
   refine .cn (h:=fun K hK=>?_) (hs:=?_)
   ·go_simp
    refine tillK hK ((alc (alc (alc (alc (alc (alc (alc alc0))))))) hS8) (fun hS11=>?_)
    clear hK K
    refine wpTill.on 9 (h:=fun K hK=>?_)
    go_simp
    go_at_call 104
    refine(DO1.out _ _ _ _ ((POwn.bump (w:=w) H.out hnL).keep0 Chg.now)).mono ?_
    rintro e w1 ⟨A11,c11,T1,rfl,own1,hD1,c1⟩
    have s1:=c1.size
    have v1:w.heap.size+8<=w1.heap.size:=by simp at s1;omega
    obtain⟨-, -,xa1,yb1,zb1,xb1,yc1,zc1,xc1,yd1,zd1,xd1,ye1,ze1,xe1,yn1,zn1,xn1,yq1,zq1,xq1,yr1,zr1,xr1, -⟩:=c1.low 8 (w.heap.size) (fun x hx=>by have:=l5.out _ hx;(try simp at this)<;>omega)
    have lo1:Hid (∀x,x∈T1->x<w.heap.size∨(w.heap.size+8<=x/\x<w1.heap.size)):=hid (fun x hx=>by rcases hD1 x hx with h|h;(have:=l3.out x h;omega);(have:=own1.h3.lt x hx;simp at h;omega))
    have hT1:Hid (∀x,x∈T1->x∈S3∨w.heap.size<=x):=hid (fun x hx=>by rcases hD1 x hx with h|h;(exact .inl h);(exact .inr (by simp at h;omega)))
    have D1:Hid (Chg S5 w w1):=hid (Chg.trans (S:=S5) Chg.now c1 (fun x hx=>.inl hx))
    obtain⟨n10,n11,nf1⟩:=own1.lay hnL
    have OWN1:=hid own1
    obtain⟨hg1,hg1a,hg1b,hne1,hne1a⟩:=near (show g<w1.heap.size by omega)
    have m0:=(ye1 0).trans hS11.1
    have m1:=(ye1 1).trans hS11.2.1
    have m2:=(ye1 2).trans hS11.2.2.1
    have m3:=(ye1 3).trans hS11.2.2.2.1
    have m4:=(ye1 4).trans hS11.2.2.2.2.1
    have m5:=(ye1 5).trans hS11.2.2.2.2.2.1
    have m6:=(yb1 2).trans hS11.2.2.2.2.2.2.1
    have m7:=(yn1 cv).trans hS11.2.2.2.2.2.2.2
    clear own1 hD1 c1 s1
    simp only []
    refine tillK hK (⟨m0,m1,m2,m3,m4,m5,m6,m7⟩) (fun hS12=>?_)
    clear hK K
    refine wpTill.tk 10 11 hS12 (h:=?_)
    refine wpTill.tk 11 15 hS12 (h:=?_)
    refine wpTill.tk 12 16 hS12 (h:=?_)
    refine wpTill.on 15 (h:=fun K hK=>?_)
    go_simp
    refine tillK hK (⟨by have:=hS12.1;go_simp,by have:=hS12.2.1;go_simp,by have:=hS12.2.2.1;go_simp,by have:=hS12.2.2.2.1;go_simp,by have:=hS12.2.2.2.2.1;go_simp,by have:=hS12.2.2.2.2.2.1;go_simp,by have:=hS12.2.2.2.2.2.2.1;go_simp,by have:=hS12.2.2.2.2.2.2.2;go_simp⟩) (fun hS104=>?_)
    clear hK K
    refine wpTill.on 16 (h:=fun K hK=>?_)
    go_simp
    refine tillE hK ?_
    clear hK K
    refine wpTill.done (by kernel_rfl) ?_ _
    go_wp2_with fail
    go_region
    all_goals
     go_wp2_with fail
     refine bodyPost_ret (v:=.tuple #[.agg #[.string r1.1.core.kind,.bool r1.1.core.on,.bool r1.1.core.broken,.slice A11 r1.1.core.cells.length c11,.int .i64 r1.1.core.count,.slice (some ⟨g,0,none⟩) L c5],.agg #[.int .i64 r1.2.code,.int .i64 r1.2.value,.string r1.2.text,.int .i64 r1.2.want,.int .i64 r1.2.had],.bool true]) (by simp only [results,Tryz.results126];go_simp) rfl ?_
     exact⟨A11,c11,T1,rfl,(OWN1.out).keep (T:=[w.heap.size+1+1,w.heap.size+1+1+1,w.heap.size+1+1+1+1+1+1,w.heap.size+1+1+1+1+1+1+1]) Chg.now (fun x hx=>by have:=lo1.out x hx;simp;omega) (fun x hx=>by have:=l5.out x hx;simp;omega),hT1.out,(Chg.to D1.out)⟩
   exact .nil
  refine .cn (h:=fun K hK=>?_) (hs:=?_)
  ·go_simp
   refine tillK hK ((alc (alc (alc (alc (alc (alc (alc alc0))))))) hS2) (fun hS13=>?_)
   clear hK K
   refine wpTill.all (rs:=[9,13]) (by kernel_rfl) (by simp) ?_
   refine .cn (h:=fun K hK=>?_) (hs:=?_)
   ·go_simp
    go_at_call 104
    refine(DO1.out _ _ _ _ ((POwn.bump (w:=w) H.out hnL).keep0 Chg.now)).mono ?_
    rintro e w1 ⟨A11,c11,T1,rfl,own1,hD1,c1⟩
    have s1:=c1.size
    have v1:w.heap.size+7<=w1.heap.size:=by simp at s1;omega
    obtain⟨-, -,xa1,yb1,zb1,xb1,yc1,zc1,xc1,yd1,zd1,xd1,ye1,ze1,xe1,yn1,zn1,xn1,yr1,zr1,xr1, -⟩:=c1.low 7 (w.heap.size) (fun x hx=>by have:=l5.out _ hx;(try simp at this)<;>omega)
    have lo1:Hid (∀x,x∈T1->x<w.heap.size∨(w.heap.size+7<=x/\x<w1.heap.size)):=hid (fun x hx=>by rcases hD1 x hx with h|h;(have:=l3.out x h;omega);(have:=own1.h3.lt x hx;simp at h;omega))
    have hT1:Hid (∀x,x∈T1->x∈S3∨w.heap.size<=x):=hid (fun x hx=>by rcases hD1 x hx with h|h;(exact .inl h);(exact .inr (by simp at h;omega)))
    have D1:Hid (Chg S5 w w1):=hid (Chg.trans (S:=S5) Chg.now c1 (fun x hx=>.inl hx))
    obtain⟨n10,n11,nf1⟩:=own1.lay hnL
    have OWN1:=hid own1
    obtain⟨hg1,hg1a,hg1b,hne1,hne1a⟩:=near (show g<w1.heap.size by omega)
    have m0:=(ye1 0).trans hS13.1
    have m1:=(ye1 1).trans hS13.2.1
    have m2:=(ye1 2).trans hS13.2.2.1
    have m3:=(ye1 3).trans hS13.2.2.2.1
    have m4:=(ye1 4).trans hS13.2.2.2.2.1
    have m5:=(ye1 5).trans hS13.2.2.2.2.2.1
    have m6:=(yb1 2).trans hS13.2.2.2.2.2.2.1
    have m7:=(yn1 cv).trans hS13.2.2.2.2.2.2.2
    clear own1 hD1 c1 s1
    simp only []
    refine tillK hK (⟨m0,m1,m2,m3,m4,m5,m6,m7⟩) (fun hS14=>?_)
    clear hK K
    refine wpTill.tk 10 11 hS14 (h:=?_)
    refine wpTill.tk 11 15 hS14 (h:=?_)
    refine wpTill.tk 12 16 hS14 (h:=?_)
    refine wpTill.on 13 (h:=fun K hK=>?_)
    go_simp
    refine tillK hK ((alc (alc (alc (alc (alc (alc (alc alc0))))))) hS14) (fun hS15=>?_)
    clear hK K
    refine wpTill.on 15 (h:=fun K hK=>?_)
    go_simp
    refine tillK hK (⟨by have:=hS15.1;go_simp,by have:=hS15.2.1;go_simp,by have:=hS15.2.2.1;go_simp,by have:=hS15.2.2.2.1;go_simp,by have:=hS15.2.2.2.2.1;go_simp,by have:=hS15.2.2.2.2.2.1;go_simp,by have:=hS15.2.2.2.2.2.2.1;go_simp,by have:=hS15.2.2.2.2.2.2.2;go_simp⟩) (fun hS105=>?_)
    clear hK K
    refine wpTill.on 16 (h:=fun K hK=>?_)
    go_simp
    refine tillE hK ?_
    clear hK K
    refine wpTill.done (by kernel_rfl) ?_ _
    go_wp2_with fail
    go_region
    all_goals
     go_wp2_with fail
     refine bodyPost_ret (v:=.tuple #[.agg #[.string r1.1.core.kind,.bool r1.1.core.on,.bool r1.1.core.broken,.slice A11 r1.1.core.cells.length c11,.int .i64 r1.1.core.count,.slice (some ⟨g,0,none⟩) L c5],.agg #[.int .i64 r1.2.code,.int .i64 r1.2.value,.string r1.2.text,.int .i64 r1.2.want,.int .i64 r1.2.had],.bool true]) (by simp only [results,Tryz.results126];go_simp) rfl ?_
     exact⟨A11,c11,T1,rfl,(OWN1.out).keep (T:=[w.heap.size+1+1,w.heap.size+1+1+1,w.heap.size+1+1+1+1+1+1]) Chg.now (fun x hx=>by have:=lo1.out x hx;simp;omega) (fun x hx=>by have:=l5.out x hx;simp;omega),hT1.out,(Chg.to D1.out)⟩
   refine .cn (h:=fun K hK=>?_) (hs:=?_)
   ·go_simp
    refine tillK hK ((alc (alc (alc (alc (alc (alc (alc alc0))))))) hS13) (fun hS16=>?_)
    clear hK K
    refine wpTill.on 9 (h:=fun K hK=>?_)
    go_simp
    go_at_call 104
    refine(DO1.out _ _ _ _ ((POwn.bump (w:=w) H.out hnL).keep0 Chg.now)).mono ?_
    rintro e w1 ⟨A11,c11,T1,rfl,own1,hD1,c1⟩
    have s1:=c1.size
    have v1:w.heap.size+8<=w1.heap.size:=by simp at s1;omega
    obtain⟨-, -,xa1,yb1,zb1,xb1,yc1,zc1,xc1,yd1,zd1,xd1,ye1,ze1,xe1,yn1,zn1,xn1,yr1,zr1,xr1,yq1,zq1,xq1, -⟩:=c1.low 8 (w.heap.size) (fun x hx=>by have:=l5.out _ hx;(try simp at this)<;>omega)
    have lo1:Hid (∀x,x∈T1->x<w.heap.size∨(w.heap.size+8<=x/\x<w1.heap.size)):=hid (fun x hx=>by rcases hD1 x hx with h|h;(have:=l3.out x h;omega);(have:=own1.h3.lt x hx;simp at h;omega))
    have hT1:Hid (∀x,x∈T1->x∈S3∨w.heap.size<=x):=hid (fun x hx=>by rcases hD1 x hx with h|h;(exact .inl h);(exact .inr (by simp at h;omega)))
    have D1:Hid (Chg S5 w w1):=hid (Chg.trans (S:=S5) Chg.now c1 (fun x hx=>.inl hx))
    obtain⟨n10,n11,nf1⟩:=own1.lay hnL
    have OWN1:=hid own1
    obtain⟨hg1,hg1a,hg1b,hne1,hne1a⟩:=near (show g<w1.heap.size by omega)
    have m0:=(ye1 0).trans hS16.1
    have m1:=(ye1 1).trans hS16.2.1
    have m2:=(ye1 2).trans hS16.2.2.1
    have m3:=(ye1 3).trans hS16.2.2.2.1
    have m4:=(ye1 4).trans hS16.2.2.2.2.1
    have m5:=(ye1 5).trans hS16.2.2.2.2.2.1
    have m6:=(yb1 2).trans hS16.2.2.2.2.2.2.1
    have m7:=(yn1 cv).trans hS16.2.2.2.2.2.2.2
    clear own1 hD1 c1 s1
    simp only []
    refine tillK hK (⟨m0,m1,m2,m3,m4,m5,m6,m7⟩) (fun hS17=>?_)
    clear hK K
    refine wpTill.tk 10 11 hS17 (h:=?_)
    refine wpTill.tk 11 15 hS17 (h:=?_)
    refine wpTill.tk 12 16 hS17 (h:=?_)
    refine wpTill.on 15 (h:=fun K hK=>?_)
    go_simp
    refine tillK hK (⟨by have:=hS17.1;go_simp,by have:=hS17.2.1;go_simp,by have:=hS17.2.2.1;go_simp,by have:=hS17.2.2.2.1;go_simp,by have:=hS17.2.2.2.2.1;go_simp,by have:=hS17.2.2.2.2.2.1;go_simp,by have:=hS17.2.2.2.2.2.2.1;go_simp,by have:=hS17.2.2.2.2.2.2.2;go_simp⟩) (fun hS106=>?_)
    clear hK K
    refine wpTill.on 16 (h:=fun K hK=>?_)
    go_simp
    refine tillE hK ?_
    clear hK K
    refine wpTill.done (by kernel_rfl) ?_ _
    go_wp2_with fail
    go_region
    all_goals
     go_wp2_with fail
     refine bodyPost_ret (v:=.tuple #[.agg #[.string r1.1.core.kind,.bool r1.1.core.on,.bool r1.1.core.broken,.slice A11 r1.1.core.cells.length c11,.int .i64 r1.1.core.count,.slice (some ⟨g,0,none⟩) L c5],.agg #[.int .i64 r1.2.code,.int .i64 r1.2.value,.string r1.2.text,.int .i64 r1.2.want,.int .i64 r1.2.had],.bool true]) (by simp only [results,Tryz.results126];go_simp) rfl ?_
     exact⟨A11,c11,T1,rfl,(OWN1.out).keep (T:=[w.heap.size+1+1,w.heap.size+1+1+1,w.heap.size+1+1+1+1+1+1+1,w.heap.size+1+1+1+1+1+1]) Chg.now (fun x hx=>by have:=lo1.out x hx;simp;omega) (fun x hx=>by have:=l5.out x hx;simp;omega),hT1.out,(Chg.to D1.out)⟩
   exact .nil
  exact .nil
 refine .cn (h:=fun K hK=>?_) (hs:=?_)
 ·go_simp
  refine tillK hK ((alc (alc (alc (alc (alc (alc alc0)))))) hS0) (fun hS18=>?_)
  clear hK K
  refine wpTill.all (rs:=[3,14]) (by kernel_rfl) (by simp) ?_
  refine .cn (h:=fun K hK=>?_) (hs:=?_)
  ·go_simp
   refine tillK hK ((alc (alc (alc (alc (alc (alc alc0)))))) hS18) (fun hS19=>?_)
   clear hK K
   refine wpTill.mono (S:=(fun W=>W.cell? ⟨w.heap.size+1+1+1+1,0,none⟩=some (.string p.core.kind)/\W.cell? ⟨w.heap.size+1+1+1+1,1,none⟩=some (.bool p.core.on)/\W.cell? ⟨w.heap.size+1+1+1+1,2,none⟩=some (.bool p.core.broken)/\W.cell? ⟨w.heap.size+1+1+1+1,3,none⟩=some (.slice A3 p.core.cells.length c3)/\W.cell? ⟨w.heap.size+1+1+1+1,4,none⟩=some (.int .i64 p.core.count)/\W.cell? ⟨w.heap.size+1+1+1+1,5,none⟩=some (.slice (some ⟨g,0,none⟩) L c5)/\W.cell? ⟨w.heap.size+1,2,none⟩=some (.int .i64 (cv:Int))/\W.cell? ⟨w.heap.size+1+1+1+1+1+1,cv,none⟩=some (.string mm))) (fun W h=>⟨h.1,h.2.1,h.2.2.1,h.2.2.2.1,h.2.2.2.2.1,h.2.2.2.2.2.1,h.2.2.2.2.2.2.1⟩) _ _ _ _ (wpTill.with_ ?_ (fun hS20=>?_))
   ·exact⟨hS19.1,hS19.2.1,hS19.2.2.1,hS19.2.2.2.1,hS19.2.2.2.2.1,hS19.2.2.2.2.2.1,hS19.2.2.2.2.2.2,by simp only [cell_of_drew];exact cell_at_lit (by simp) HM.out⟩
   refine wpTill.tk 6 7 hS20 (h:=?_)
   refine wpTill.tk 7 8 hS20 (h:=?_)
   refine wpTill.tk 8 9 hS20 (h:=?_)
   refine wpTill.all (rs:=[9,14]) (by kernel_rfl) (by simp) ?_
   refine .cn (h:=fun K hK=>?_) (hs:=?_)
   ·go_simp
    go_at_call 104
    refine(DO1.out _ _ _ _ ((POwn.bump (w:=w) H.out hnL).keep0 Chg.now)).mono ?_
    rintro e w1 ⟨A11,c11,T1,rfl,own1,hD1,c1⟩
    have s1:=c1.size
    have v1:w.heap.size+7<=w1.heap.size:=by simp at s1;omega
    obtain⟨-, -,xa1,yb1,zb1,xb1,yc1,zc1,xc1,yd1,zd1,xd1,ye1,ze1,xe1,yq1,zq1,xq1,yn1,zn1,xn1, -⟩:=c1.low 7 (w.heap.size) (fun x hx=>by have:=l5.out _ hx;(try simp at this)<;>omega)
    have lo1:Hid (∀x,x∈T1->x<w.heap.size∨(w.heap.size+7<=x/\x<w1.heap.size)):=hid (fun x hx=>by rcases hD1 x hx with h|h;(have:=l3.out x h;omega);(have:=own1.h3.lt x hx;simp at h;omega))
    have hT1:Hid (∀x,x∈T1->x∈S3∨w.heap.size<=x):=hid (fun x hx=>by rcases hD1 x hx with h|h;(exact .inl h);(exact .inr (by simp at h;omega)))
    have D1:Hid (Chg S5 w w1):=hid (Chg.trans (S:=S5) Chg.now c1 (fun x hx=>.inl hx))
    obtain⟨n10,n11,nf1⟩:=own1.lay hnL
    have OWN1:=hid own1
    obtain⟨hg1,hg1a,hg1b,hne1,hne1a⟩:=near (show g<w1.heap.size by omega)
    have m0:=(ye1 0).trans hS20.1
    have m1:=(ye1 1).trans hS20.2.1
    have m2:=(ye1 2).trans hS20.2.2.1
    have m3:=(ye1 3).trans hS20.2.2.2.1
    have m4:=(ye1 4).trans hS20.2.2.2.2.1
    have m5:=(ye1 5).trans hS20.2.2.2.2.2.1
    have m6:=(yb1 2).trans hS20.2.2.2.2.2.2.1
    have m7:=(yn1 cv).trans hS20.2.2.2.2.2.2.2
    clear own1 hD1 c1 s1
    simp only []
    refine tillK hK (⟨m0,m1,m2,m3,m4,m5,m6,m7⟩) (fun hS21=>?_)
    clear hK K
    refine wpTill.tk 10 11 hS21 (h:=?_)
    refine wpTill.tk 11 15 hS21 (h:=?_)
    refine wpTill.tk 12 16 hS21 (h:=?_)
    refine wpTill.on 14 (h:=fun K hK=>?_)
    go_simp
    refine tillK hK ((alc (alc (alc (alc (alc (alc (alc alc0))))))) hS21) (fun hS22=>?_)
    clear hK K
    refine wpTill.on 15 (h:=fun K hK=>?_)
    go_simp
    refine tillK hK (⟨by have:=hS22.1;go_simp,by have:=hS22.2.1;go_simp,by have:=hS22.2.2.1;go_simp,by have:=hS22.2.2.2.1;go_simp,by have:=hS22.2.2.2.2.1;go_simp,by have:=hS22.2.2.2.2.2.1;go_simp,by have:=hS22.2.2.2.2.2.2.1;go_simp,by have:=hS22.2.2.2.2.2.2.2;go_simp⟩) (fun hS107=>?_)
    clear hK K
    refine wpTill.on 16 (h:=fun K hK=>?_)
    go_simp
    refine tillE hK ?_
    clear hK K
    refine wpTill.done (by kernel_rfl) ?_ _
    go_wp2_with fail
    go_region
    all_goals
     go_wp2_with fail
     refine bodyPost_ret (v:=.tuple #[.agg #[.string r1.1.core.kind,.bool r1.1.core.on,.bool r1.1.core.broken,.slice A11 r1.1.core.cells.length c11,.int .i64 r1.1.core.count,.slice (some ⟨g,0,none⟩) L c5],.agg #[.int .i64 r1.2.code,.int .i64 r1.2.value,.string r1.2.text,.int .i64 r1.2.want,.int .i64 r1.2.had],.bool true]) (by simp only [results,Tryz.results126];go_simp) rfl ?_
     exact⟨A11,c11,T1,rfl,(OWN1.out).keep (T:=[w.heap.size+1+1,w.heap.size+1+1+1,w.heap.size+1+1+1+1+1]) Chg.now (fun x hx=>by have:=lo1.out x hx;simp;omega) (fun x hx=>by have:=l5.out x hx;simp;omega),hT1.out,(Chg.to D1.out)⟩
   refine .cn (h:=fun K hK=>?_) (hs:=?_)
   ·go_simp
    refine tillK hK ((alc (alc (alc (alc (alc (alc (alc alc0))))))) hS20) (fun hS23=>?_)
    clear hK K
    refine wpTill.on 9 (h:=fun K hK=>?_)
    go_simp
    go_at_call 104
    refine(DO1.out _ _ _ _ ((POwn.bump (w:=w) H.out hnL).keep0 Chg.now)).mono ?_
    rintro e w1 ⟨A11,c11,T1,rfl,own1,hD1,c1⟩
    have s1:=c1.size
    have v1:w.heap.size+8<=w1.heap.size:=by simp at s1;omega
    obtain⟨-, -,xa1,yb1,zb1,xb1,yc1,zc1,xc1,yd1,zd1,xd1,ye1,ze1,xe1,yq1,zq1,xq1,yn1,zn1,xn1,yr1,zr1,xr1, -⟩:=c1.low 8 (w.heap.size) (fun x hx=>by have:=l5.out _ hx;(try simp at this)<;>omega)
    have lo1:Hid (∀x,x∈T1->x<w.heap.size∨(w.heap.size+8<=x/\x<w1.heap.size)):=hid (fun x hx=>by rcases hD1 x hx with h|h;(have:=l3.out x h;omega);(have:=own1.h3.lt x hx;simp at h;omega))
    have hT1:Hid (∀x,x∈T1->x∈S3∨w.heap.size<=x):=hid (fun x hx=>by rcases hD1 x hx with h|h;(exact .inl h);(exact .inr (by simp at h;omega)))
    have D1:Hid (Chg S5 w w1):=hid (Chg.trans (S:=S5) Chg.now c1 (fun x hx=>.inl hx))
    obtain⟨n10,n11,nf1⟩:=own1.lay hnL
    have OWN1:=hid own1
    obtain⟨hg1,hg1a,hg1b,hne1,hne1a⟩:=near (show g<w1.heap.size by omega)
    have m0:=(ye1 0).trans hS23.1
    have m1:=(ye1 1).trans hS23.2.1
    have m2:=(ye1 2).trans hS23.2.2.1
    have m3:=(ye1 3).trans hS23.2.2.2.1
    have m4:=(ye1 4).trans hS23.2.2.2.2.1
    have m5:=(ye1 5).trans hS23.2.2.2.2.2.1
    have m6:=(yb1 2).trans hS23.2.2.2.2.2.2.1
    have m7:=(yn1 cv).trans hS23.2.2.2.2.2.2.2
    clear own1 hD1 c1 s1
    simp only []
    refine tillK hK (⟨m0,m1,m2,m3,m4,m5,m6,m7⟩) (fun hS24=>?_)
    clear hK K
    refine wpTill.tk 10 11 hS24 (h:=?_)
    refine wpTill.tk 11 15 hS24 (h:=?_)
    refine wpTill.tk 12 16 hS24 (h:=?_)
    refine wpTill.on 15 (h:=fun K hK=>?_)
    go_simp
    refine tillK hK (⟨by have:=hS24.1;go_simp,by have:=hS24.2.1;go_simp,by have:=hS24.2.2.1;go_simp,by have:=hS24.2.2.2.1;go_simp,by have:=hS24.2.2.2.2.1;go_simp,by have:=hS24.2.2.2.2.2.1;go_simp,by have:=hS24.2.2.2.2.2.2.1;go_simp,by have:=hS24.2.2.2.2.2.2.2;go_simp⟩) (fun hS108=>?_)
    clear hK K
    refine wpTill.on 16 (h:=fun K hK=>?_)
    go_simp
    refine tillE hK ?_
    clear hK K
    refine wpTill.done (by kernel_rfl) ?_ _
    go_wp2_with fail
    go_region
    all_goals
     go_wp2_with fail
     refine bodyPost_ret (v:=.tuple #[.agg #[.string r1.1.core.kind,.bool r1.1.core.on,.bool r1.1.core.broken,.slice A11 r1.1.core.cells.length c11,.int .i64 r1.1.core.count,.slice (some ⟨g,0,none⟩) L c5],.agg #[.int .i64 r1.2.code,.int .i64 r1.2.value,.string r1.2.text,.int .i64 r1.2.want,.int .i64 r1.2.had],.bool true]) (by simp only [results,Tryz.results126];go_simp) rfl ?_
     exact⟨A11,c11,T1,rfl,(OWN1.out).keep (T:=[w.heap.size+1+1,w.heap.size+1+1+1,w.heap.size+1+1+1+1+1,w.heap.size+1+1+1+1+1+1+1]) Chg.now (fun x hx=>by have:=lo1.out x hx;simp;omega) (fun x hx=>by have:=l5.out x hx;simp;omega),hT1.out,(Chg.to D1.out)⟩
   exact .nil
  refine .cn (h:=fun K hK=>?_) (hs:=?_)
  ·go_simp
   refine tillK hK ((alc (alc (alc (alc (alc (alc alc0)))))) hS18) (fun hS25=>?_)
   clear hK K
   refine wpTill.on 3 (h:=fun K hK=>?_)
   go_simp
   refine tillK hK ((alc (alc (alc (alc (alc (alc alc0)))))) hS25) (fun hS26=>?_)
   clear hK K
   refine wpTill.mono (S:=(fun W=>W.cell? ⟨w.heap.size+1+1+1+1,0,none⟩=some (.string p.core.kind)/\W.cell? ⟨w.heap.size+1+1+1+1,1,none⟩=some (.bool p.core.on)/\W.cell? ⟨w.heap.size+1+1+1+1,2,none⟩=some (.bool p.core.broken)/\W.cell? ⟨w.heap.size+1+1+1+1,3,none⟩=some (.slice A3 p.core.cells.length c3)/\W.cell? ⟨w.heap.size+1+1+1+1,4,none⟩=some (.int .i64 p.core.count)/\W.cell? ⟨w.heap.size+1+1+1+1,5,none⟩=some (.slice (some ⟨g,0,none⟩) L c5)/\W.cell? ⟨w.heap.size+1,2,none⟩=some (.int .i64 (cv:Int))/\W.cell? ⟨w.heap.size+1+1+1+1+1+1+1,cv,none⟩=some (.string mm))) (fun W h=>⟨h.1,h.2.1,h.2.2.1,h.2.2.2.1,h.2.2.2.2.1,h.2.2.2.2.2.1,h.2.2.2.2.2.2.1⟩) _ _ _ _ (wpTill.with_ ?_ (fun hS27=>?_))
   ·exact⟨hS26.1,hS26.2.1,hS26.2.2.1,hS26.2.2.2.1,hS26.2.2.2.2.1,hS26.2.2.2.2.2.1,hS26.2.2.2.2.2.2,by simp only [cell_of_drew];exact cell_at_lit (by simp) HM.out⟩
   refine wpTill.tk 6 7 hS27 (h:=?_)
   refine wpTill.tk 7 8 hS27 (h:=?_)
   refine wpTill.tk 8 9 hS27 (h:=?_)
   refine wpTill.on 9 (h:=fun K hK=>?_)
   go_simp
   go_at_call 104
   refine(DO1.out _ _ _ _ ((POwn.bump (w:=w) H.out hnL).keep0 Chg.now)).mono ?_
   rintro e w1 ⟨A11,c11,T1,rfl,own1,hD1,c1⟩
   have s1:=c1.size
   have v1:w.heap.size+8<=w1.heap.size:=by simp at s1;omega
   obtain⟨-, -,xa1,yb1,zb1,xb1,yc1,zc1,xc1,yd1,zd1,xd1,ye1,ze1,xe1,yq1,zq1,xq1,yr1,zr1,xr1,yn1,zn1,xn1, -⟩:=c1.low 8 (w.heap.size) (fun x hx=>by have:=l5.out _ hx;(try simp at this)<;>omega)
   have lo1:Hid (∀x,x∈T1->x<w.heap.size∨(w.heap.size+8<=x/\x<w1.heap.size)):=hid (fun x hx=>by rcases hD1 x hx with h|h;(have:=l3.out x h;omega);(have:=own1.h3.lt x hx;simp at h;omega))
   have hT1:Hid (∀x,x∈T1->x∈S3∨w.heap.size<=x):=hid (fun x hx=>by rcases hD1 x hx with h|h;(exact .inl h);(exact .inr (by simp at h;omega)))
   have D1:Hid (Chg S5 w w1):=hid (Chg.trans (S:=S5) Chg.now c1 (fun x hx=>.inl hx))
   obtain⟨n10,n11,nf1⟩:=own1.lay hnL
   have OWN1:=hid own1
   obtain⟨hg1,hg1a,hg1b,hne1,hne1a⟩:=near (show g<w1.heap.size by omega)
   have m0:=(ye1 0).trans hS27.1
   have m1:=(ye1 1).trans hS27.2.1
   have m2:=(ye1 2).trans hS27.2.2.1
   have m3:=(ye1 3).trans hS27.2.2.2.1
   have m4:=(ye1 4).trans hS27.2.2.2.2.1
   have m5:=(ye1 5).trans hS27.2.2.2.2.2.1
   have m6:=(yb1 2).trans hS27.2.2.2.2.2.2.1
   have m7:=(yn1 cv).trans hS27.2.2.2.2.2.2.2
   clear own1 hD1 c1 s1
   simp only []
   refine tillK hK (⟨m0,m1,m2,m3,m4,m5,m6,m7⟩) (fun hS28=>?_)
   clear hK K
   refine wpTill.tk 10 11 hS28 (h:=?_)
   refine wpTill.tk 11 15 hS28 (h:=?_)
   refine wpTill.tk 12 16 hS28 (h:=?_)
   refine wpTill.on 15 (h:=fun K hK=>?_)
   go_simp
   refine tillK hK (⟨by have:=hS28.1;go_simp,by have:=hS28.2.1;go_simp,by have:=hS28.2.2.1;go_simp,by have:=hS28.2.2.2.1;go_simp,by have:=hS28.2.2.2.2.1;go_simp,by have:=hS28.2.2.2.2.2.1;go_simp,by have:=hS28.2.2.2.2.2.2.1;go_simp,by have:=hS28.2.2.2.2.2.2.2;go_simp⟩) (fun hS109=>?_)
   clear hK K
   refine wpTill.on 16 (h:=fun K hK=>?_)
   go_simp
   refine tillE hK ?_
   clear hK K
   refine wpTill.done (by kernel_rfl) ?_ _
   go_wp2_with fail
   go_region
   all_goals
    go_wp2_with fail
    refine bodyPost_ret (v:=.tuple #[.agg #[.string r1.1.core.kind,.bool r1.1.core.on,.bool r1.1.core.broken,.slice A11 r1.1.core.cells.length c11,.int .i64 r1.1.core.count,.slice (some ⟨g,0,none⟩) L c5],.agg #[.int .i64 r1.2.code,.int .i64 r1.2.value,.string r1.2.text,.int .i64 r1.2.want,.int .i64 r1.2.had],.bool true]) (by simp only [results,Tryz.results126];go_simp) rfl ?_
    exact⟨A11,c11,T1,rfl,(OWN1.out).keep (T:=[w.heap.size+1+1,w.heap.size+1+1+1,w.heap.size+1+1+1+1+1,w.heap.size+1+1+1+1+1+1]) Chg.now (fun x hx=>by have:=lo1.out x hx;simp;omega) (fun x hx=>by have:=l5.out x hx;simp;omega),hT1.out,(Chg.to D1.out)⟩
  exact .nil
 refine .cn (h:=fun K hK=>?_) (hs:=?_)
 ·go_simp
  refine tillK hK ((alc (alc (alc (alc (alc (alc alc0)))))) hS0) (fun hS29=>?_)
  clear hK K
  refine wpTill.all (rs:=[3,13]) (by kernel_rfl) (by simp) ?_
  refine .cn (h:=fun K hK=>?_) (hs:=?_)
  ·go_simp
   refine tillK hK ((alc (alc (alc (alc (alc (alc alc0)))))) hS29) (fun hS30=>?_)
   clear hK K
   refine wpTill.mono (S:=(fun W=>W.cell? ⟨w.heap.size+1+1+1+1,0,none⟩=some (.string p.core.kind)/\W.cell? ⟨w.heap.size+1+1+1+1,1,none⟩=some (.bool p.core.on)/\W.cell? ⟨w.heap.size+1+1+1+1,2,none⟩=some (.bool p.core.broken)/\W.cell? ⟨w.heap.size+1+1+1+1,3,none⟩=some (.slice A3 p.core.cells.length c3)/\W.cell? ⟨w.heap.size+1+1+1+1,4,none⟩=some (.int .i64 p.core.count)/\W.cell? ⟨w.heap.size+1+1+1+1,5,none⟩=some (.slice (some ⟨g,0,none⟩) L c5)/\W.cell? ⟨w.heap.size+1,2,none⟩=some (.int .i64 (cv:Int))/\W.cell? ⟨w.heap.size+1+1+1+1+1+1,cv,none⟩=some (.string mm))) (fun W h=>⟨h.1,h.2.1,h.2.2.1,h.2.2.2.1,h.2.2.2.2.1,h.2.2.2.2.2.1,h.2.2.2.2.2.2.1⟩) _ _ _ _ (wpTill.with_ ?_ (fun hS31=>?_))
   ·exact⟨hS30.1,hS30.2.1,hS30.2.2.1,hS30.2.2.2.1,hS30.2.2.2.2.1,hS30.2.2.2.2.2.1,hS30.2.2.2.2.2.2,by simp only [cell_of_drew];exact cell_at_lit (by simp) HM.out⟩
   refine wpTill.tk 6 7 hS31 (h:=?_)
   refine wpTill.tk 7 8 hS31 (h:=?_)
   refine wpTill.tk 8 9 hS31 (h:=?_)
   refine wpTill.all (rs:=[9,13]) (by kernel_rfl) (by simp) ?_
   refine .cn (h:=fun K hK=>?_) (hs:=?_)
   ·go_simp
    go_at_call 104
    refine(DO1.out _ _ _ _ ((POwn.bump (w:=w) H.out hnL).keep0 Chg.now)).mono ?_
    rintro e w1 ⟨A11,c11,T1,rfl,own1,hD1,c1⟩
    have s1:=c1.size
    have v1:w.heap.size+7<=w1.heap.size:=by simp at s1;omega
    obtain⟨-, -,xa1,yb1,zb1,xb1,yc1,zc1,xc1,yd1,zd1,xd1,ye1,ze1,xe1,yr1,zr1,xr1,yn1,zn1,xn1, -⟩:=c1.low 7 (w.heap.size) (fun x hx=>by have:=l5.out _ hx;(try simp at this)<;>omega)
    have lo1:Hid (∀x,x∈T1->x<w.heap.size∨(w.heap.size+7<=x/\x<w1.heap.size)):=hid (fun x hx=>by rcases hD1 x hx with h|h;(have:=l3.out x h;omega);(have:=own1.h3.lt x hx;simp at h;omega))
    have hT1:Hid (∀x,x∈T1->x∈S3∨w.heap.size<=x):=hid (fun x hx=>by rcases hD1 x hx with h|h;(exact .inl h);(exact .inr (by simp at h;omega)))
    have D1:Hid (Chg S5 w w1):=hid (Chg.trans (S:=S5) Chg.now c1 (fun x hx=>.inl hx))
    obtain⟨n10,n11,nf1⟩:=own1.lay hnL
    have OWN1:=hid own1
    obtain⟨hg1,hg1a,hg1b,hne1,hne1a⟩:=near (show g<w1.heap.size by omega)
    have m0:=(ye1 0).trans hS31.1
    have m1:=(ye1 1).trans hS31.2.1
    have m2:=(ye1 2).trans hS31.2.2.1
    have m3:=(ye1 3).trans hS31.2.2.2.1
    have m4:=(ye1 4).trans hS31.2.2.2.2.1
    have m5:=(ye1 5).trans hS31.2.2.2.2.2.1
    have m6:=(yb1 2).trans hS31.2.2.2.2.2.2.1
    have m7:=(yn1 cv).trans hS31.2.2.2.2.2.2.2
    clear own1 hD1 c1 s1
    simp only []
    refine tillK hK (⟨m0,m1,m2,m3,m4,m5,m6,m7⟩) (fun hS32=>?_)
    clear hK K
    refine wpTill.tk 10 11 hS32 (h:=?_)
    refine wpTill.tk 11 15 hS32 (h:=?_)
    refine wpTill.tk 12 16 hS32 (h:=?_)
    refine wpTill.on 13 (h:=fun K hK=>?_)
    go_simp
    refine tillK hK ((alc (alc (alc (alc (alc (alc (alc alc0))))))) hS32) (fun hS33=>?_)
    clear hK K
    refine wpTill.on 15 (h:=fun K hK=>?_)
    go_simp
    refine tillK hK (⟨by have:=hS33.1;go_simp,by have:=hS33.2.1;go_simp,by have:=hS33.2.2.1;go_simp,by have:=hS33.2.2.2.1;go_simp,by have:=hS33.2.2.2.2.1;go_simp,by have:=hS33.2.2.2.2.2.1;go_simp,by have:=hS33.2.2.2.2.2.2.1;go_simp,by have:=hS33.2.2.2.2.2.2.2;go_simp⟩) (fun hS110=>?_)
    clear hK K
    refine wpTill.on 16 (h:=fun K hK=>?_)
    go_simp
    refine tillE hK ?_
    clear hK K
    refine wpTill.done (by kernel_rfl) ?_ _
    go_wp2_with fail
    go_region
    all_goals
     go_wp2_with fail
     refine bodyPost_ret (v:=.tuple #[.agg #[.string r1.1.core.kind,.bool r1.1.core.on,.bool r1.1.core.broken,.slice A11 r1.1.core.cells.length c11,.int .i64 r1.1.core.count,.slice (some ⟨g,0,none⟩) L c5],.agg #[.int .i64 r1.2.code,.int .i64 r1.2.value,.string r1.2.text,.int .i64 r1.2.want,.int .i64 r1.2.had],.bool true]) (by simp only [results,Tryz.results126];go_simp) rfl ?_
     exact⟨A11,c11,T1,rfl,(OWN1.out).keep (T:=[w.heap.size+1+1,w.heap.size+1+1+1,w.heap.size+1+1+1+1+1]) Chg.now (fun x hx=>by have:=lo1.out x hx;simp;omega) (fun x hx=>by have:=l5.out x hx;simp;omega),hT1.out,(Chg.to D1.out)⟩
   refine .cn (h:=fun K hK=>?_) (hs:=?_)
   ·go_simp
    refine tillK hK ((alc (alc (alc (alc (alc (alc (alc alc0))))))) hS31) (fun hS34=>?_)
    clear hK K
    refine wpTill.on 9 (h:=fun K hK=>?_)
    go_simp
    go_at_call 104
    refine(DO1.out _ _ _ _ ((POwn.bump (w:=w) H.out hnL).keep0 Chg.now)).mono ?_
    rintro e w1 ⟨A11,c11,T1,rfl,own1,hD1,c1⟩
    have s1:=c1.size
    have v1:w.heap.size+8<=w1.heap.size:=by simp at s1;omega
    obtain⟨-, -,xa1,yb1,zb1,xb1,yc1,zc1,xc1,yd1,zd1,xd1,ye1,ze1,xe1,yr1,zr1,xr1,yn1,zn1,xn1,yq1,zq1,xq1, -⟩:=c1.low 8 (w.heap.size) (fun x hx=>by have:=l5.out _ hx;(try simp at this)<;>omega)
    have lo1:Hid (∀x,x∈T1->x<w.heap.size∨(w.heap.size+8<=x/\x<w1.heap.size)):=hid (fun x hx=>by rcases hD1 x hx with h|h;(have:=l3.out x h;omega);(have:=own1.h3.lt x hx;simp at h;omega))
    have hT1:Hid (∀x,x∈T1->x∈S3∨w.heap.size<=x):=hid (fun x hx=>by rcases hD1 x hx with h|h;(exact .inl h);(exact .inr (by simp at h;omega)))
    have D1:Hid (Chg S5 w w1):=hid (Chg.trans (S:=S5) Chg.now c1 (fun x hx=>.inl hx))
    obtain⟨n10,n11,nf1⟩:=own1.lay hnL
    have OWN1:=hid own1
    obtain⟨hg1,hg1a,hg1b,hne1,hne1a⟩:=near (show g<w1.heap.size by omega)
    have m0:=(ye1 0).trans hS34.1
    have m1:=(ye1 1).trans hS34.2.1
    have m2:=(ye1 2).trans hS34.2.2.1
    have m3:=(ye1 3).trans hS34.2.2.2.1
    have m4:=(ye1 4).trans hS34.2.2.2.2.1
    have m5:=(ye1 5).trans hS34.2.2.2.2.2.1
    have m6:=(yb1 2).trans hS34.2.2.2.2.2.2.1
    have m7:=(yn1 cv).trans hS34.2.2.2.2.2.2.2
    clear own1 hD1 c1 s1
    simp only []
    refine tillK hK (⟨m0,m1,m2,m3,m4,m5,m6,m7⟩) (fun hS35=>?_)
    clear hK K
    refine wpTill.tk 10 11 hS35 (h:=?_)
    refine wpTill.tk 11 15 hS35 (h:=?_)
    refine wpTill.tk 12 16 hS35 (h:=?_)
    refine wpTill.on 15 (h:=fun K hK=>?_)
    go_simp
    refine tillK hK (⟨by have:=hS35.1;go_simp,by have:=hS35.2.1;go_simp,by have:=hS35.2.2.1;go_simp,by have:=hS35.2.2.2.1;go_simp,by have:=hS35.2.2.2.2.1;go_simp,by have:=hS35.2.2.2.2.2.1;go_simp,by have:=hS35.2.2.2.2.2.2.1;go_simp,by have:=hS35.2.2.2.2.2.2.2;go_simp⟩) (fun hS111=>?_)
    clear hK K
    refine wpTill.on 16 (h:=fun K hK=>?_)
    go_simp
    refine tillE hK ?_
    clear hK K
    refine wpTill.done (by kernel_rfl) ?_ _
    go_wp2_with fail
    go_region
    all_goals
     go_wp2_with fail
     refine bodyPost_ret (v:=.tuple #[.agg #[.string r1.1.core.kind,.bool r1.1.core.on,.bool r1.1.core.broken,.slice A11 r1.1.core.cells.length c11,.int .i64 r1.1.core.count,.slice (some ⟨g,0,none⟩) L c5],.agg #[.int .i64 r1.2.code,.int .i64 r1.2.value,.string r1.2.text,.int .i64 r1.2.want,.int .i64 r1.2.had],.bool true]) (by simp only [results,Tryz.results126];go_simp) rfl ?_
     exact⟨A11,c11,T1,rfl,(OWN1.out).keep (T:=[w.heap.size+1+1,w.heap.size+1+1+1,w.heap.size+1+1+1+1+1+1+1,w.heap.size+1+1+1+1+1]) Chg.now (fun x hx=>by have:=lo1.out x hx;simp;omega) (fun x hx=>by have:=l5.out x hx;simp;omega),hT1.out,(Chg.to D1.out)⟩
   exact .nil
  refine .cn (h:=fun K hK=>?_) (hs:=?_)
  ·go_simp
   refine tillK hK ((alc (alc (alc (alc (alc (alc alc0)))))) hS29) (fun hS36=>?_)
   clear hK K
   refine wpTill.on 3 (h:=fun K hK=>?_)
   go_simp
   refine tillK hK ((alc (alc (alc (alc (alc (alc alc0)))))) hS36) (fun hS37=>?_)
   clear hK K
   refine wpTill.mono (S:=(fun W=>W.cell? ⟨w.heap.size+1+1+1+1,0,none⟩=some (.string p.core.kind)/\W.cell? ⟨w.heap.size+1+1+1+1,1,none⟩=some (.bool p.core.on)/\W.cell? ⟨w.heap.size+1+1+1+1,2,none⟩=some (.bool p.core.broken)/\W.cell? ⟨w.heap.size+1+1+1+1,3,none⟩=some (.slice A3 p.core.cells.length c3)/\W.cell? ⟨w.heap.size+1+1+1+1,4,none⟩=some (.int .i64 p.core.count)/\W.cell? ⟨w.heap.size+1+1+1+1,5,none⟩=some (.slice (some ⟨g,0,none⟩) L c5)/\W.cell? ⟨w.heap.size+1,2,none⟩=some (.int .i64 (cv:Int))/\W.cell? ⟨w.heap.size+1+1+1+1+1+1+1,cv,none⟩=some (.string mm))) (fun W h=>⟨h.1,h.2.1,h.2.2.1,h.2.2.2.1,h.2.2.2.2.1,h.2.2.2.2.2.1,h.2.2.2.2.2.2.1⟩) _ _ _ _ (wpTill.with_ ?_ (fun hS38=>?_))
   ·exact⟨hS37.1,hS37.2.1,hS37.2.2.1,hS37.2.2.2.1,hS37.2.2.2.2.1,hS37.2.2.2.2.2.1,hS37.2.2.2.2.2.2,by simp only [cell_of_drew];exact cell_at_lit (by simp) HM.out⟩
   refine wpTill.tk 6 7 hS38 (h:=?_)
   refine wpTill.tk 7 8 hS38 (h:=?_)
   refine wpTill.tk 8 9 hS38 (h:=?_)
   refine wpTill.on 9 (h:=fun K hK=>?_)
   go_simp
   go_at_call 104
   refine(DO1.out _ _ _ _ ((POwn.bump (w:=w) H.out hnL).keep0 Chg.now)).mono ?_
   rintro e w1 ⟨A11,c11,T1,rfl,own1,hD1,c1⟩
   have s1:=c1.size
   have v1:w.heap.size+8<=w1.heap.size:=by simp at s1;omega
   obtain⟨-, -,xa1,yb1,zb1,xb1,yc1,zc1,xc1,yd1,zd1,xd1,ye1,ze1,xe1,yr1,zr1,xr1,yq1,zq1,xq1,yn1,zn1,xn1, -⟩:=c1.low 8 (w.heap.size) (fun x hx=>by have:=l5.out _ hx;(try simp at this)<;>omega)
   have lo1:Hid (∀x,x∈T1->x<w.heap.size∨(w.heap.size+8<=x/\x<w1.heap.size)):=hid (fun x hx=>by rcases hD1 x hx with h|h;(have:=l3.out x h;omega);(have:=own1.h3.lt x hx;simp at h;omega))
   have hT1:Hid (∀x,x∈T1->x∈S3∨w.heap.size<=x):=hid (fun x hx=>by rcases hD1 x hx with h|h;(exact .inl h);(exact .inr (by simp at h;omega)))
   have D1:Hid (Chg S5 w w1):=hid (Chg.trans (S:=S5) Chg.now c1 (fun x hx=>.inl hx))
   obtain⟨n10,n11,nf1⟩:=own1.lay hnL
   have OWN1:=hid own1
   obtain⟨hg1,hg1a,hg1b,hne1,hne1a⟩:=near (show g<w1.heap.size by omega)
   have m0:=(ye1 0).trans hS38.1
   have m1:=(ye1 1).trans hS38.2.1
   have m2:=(ye1 2).trans hS38.2.2.1
   have m3:=(ye1 3).trans hS38.2.2.2.1
   have m4:=(ye1 4).trans hS38.2.2.2.2.1
   have m5:=(ye1 5).trans hS38.2.2.2.2.2.1
   have m6:=(yb1 2).trans hS38.2.2.2.2.2.2.1
   have m7:=(yn1 cv).trans hS38.2.2.2.2.2.2.2
   clear own1 hD1 c1 s1
   simp only []
   refine tillK hK (⟨m0,m1,m2,m3,m4,m5,m6,m7⟩) (fun hS39=>?_)
   clear hK K
   refine wpTill.tk 10 11 hS39 (h:=?_)
   refine wpTill.tk 11 15 hS39 (h:=?_)
   refine wpTill.tk 12 16 hS39 (h:=?_)
   refine wpTill.on 15 (h:=fun K hK=>?_)
   go_simp
   refine tillK hK (⟨by have:=hS39.1;go_simp,by have:=hS39.2.1;go_simp,by have:=hS39.2.2.1;go_simp,by have:=hS39.2.2.2.1;go_simp,by have:=hS39.2.2.2.2.1;go_simp,by have:=hS39.2.2.2.2.2.1;go_simp,by have:=hS39.2.2.2.2.2.2.1;go_simp,by have:=hS39.2.2.2.2.2.2.2;go_simp⟩) (fun hS112=>?_)
   clear hK K
   refine wpTill.on 16 (h:=fun K hK=>?_)
   go_simp
   refine tillE hK ?_
   clear hK K
   refine wpTill.done (by kernel_rfl) ?_ _
   go_wp2_with fail
   go_region
   all_goals
    go_wp2_with fail
    refine bodyPost_ret (v:=.tuple #[.agg #[.string r1.1.core.kind,.bool r1.1.core.on,.bool r1.1.core.broken,.slice A11 r1.1.core.cells.length c11,.int .i64 r1.1.core.count,.slice (some ⟨g,0,none⟩) L c5],.agg #[.int .i64 r1.2.code,.int .i64 r1.2.value,.string r1.2.text,.int .i64 r1.2.want,.int .i64 r1.2.had],.bool true]) (by simp only [results,Tryz.results126];go_simp) rfl ?_
    exact⟨A11,c11,T1,rfl,(OWN1.out).keep (T:=[w.heap.size+1+1,w.heap.size+1+1+1,w.heap.size+1+1+1+1+1+1,w.heap.size+1+1+1+1+1]) Chg.now (fun x hx=>by have:=lo1.out x hx;simp;omega) (fun x hx=>by have:=l5.out x hx;simp;omega),hT1.out,(Chg.to D1.out)⟩
  exact .nil
 exact .nil
end Go.Proofs.YtjigcplpkhpgnaaGreatDoor
