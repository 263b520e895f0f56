/- find of the explorer. Conditions: as stated. -/
import Derived.Test.YtlnkgcdeljhjcaaGreatDoorListX
set_option maxRecDepth 100000
set_option maxHeartbeats 8000000
namespace Go.Proofs.YtlnkgcdeljhjcaaGreatDoor
open Go.RowKit

theorem Qe7 (AT:Int->Option Qa) (SB:Nat->Prop) (B xp bs:Nat) (a:Qa) (h8:a.op=8) (hA:vU AT SB B xp bs a.A) (hB:vU AT SB B xp bs a.B):Qex AT SB B xp bs a:=by
 rintro place b off ⟨s1,s2,s4⟩ T w hX hAct hfit hok hp0 hp1 hcost hW hs
 unfold QX
 have e8:(a.op==8)=true:=by simpa using h8
 obtain⟨uA,uB,hSB,lb,cs,lA,lB⟩:=id hAct
 have op0:=cs.1
 have cs:=Qd cs
 go_enter Tryz.func160,Tryz.ntmps160
 have hm:=Um Tryz.prog
 have hu:Tryz.prog.underlying 69=some (.map 88 25):=by kernel_rfl
 have hu2:Tryz.prog.underlying 70=some (.map 90 25):=by kernel_rfl
 have hu3:Tryz.prog.underlying 71=some (.map 3 25):=by kernel_rfl
 obtain⟨x7,hx7⟩:∃x7,w.heap.size=x7:=⟨_,rfl⟩
 have NO:=Qd (fun W=>Y0 W)
 go_upto_region 2 with (first|(go_at_call 94;refine(NO.out _).mono ?_;rintro e w1 ⟨b1,b2,b3,rfl,⟨m1,m2,m3,m4⟩,c1,k1,k2,k3⟩)|fail)
 refine Qo fun w2 hw2=>?_
 have cA:Qb [] w w1:=(show Qb [] w _ from Qb.now).tz c1
 have c2:Qb [] w w2:=by rw [hw2];exact cA.alloc _
 obtain⟨x9,hx9⟩:∃x9,w1.heap.size=x9:=⟨_,rfl⟩
 have e12:Qb [] w1 w2:=by rw [hw2];exact Qb.now
 have s12:w2.heap.size=x9+1:=by rw [hw2, <-hx9];simp
 have b9:b1<x9/\b2<x9/\b3<x9:=by omega
 have hpl:place<=999:=by have:=a.size_eq;omega
 have m0:x7+2<=b1:=by have:=m1;first|omega|(simp [hx7] at this;omega)
 have E7:QY w2 x7 [.string s1,.string s2,.string s4]:=by rw [hw2, <-hx7];exact(((QY.new w _ _).alloc _).keep c1).alloc _
 have E8:QY w2 (x7+1) [.map none,.map none,.map none]:=by rw [hw2, <-hx7];exact((QY.newAt (w.alloc _) _ _).keep c1).alloc _
 have K8:Kd w2 (x7+1) 73:=by rw [hw2, <-hx7];exact((Kd.newAt (w.alloc _) _ _).keep c1).alloc _
 have E9:QY w2 x9 [.map (some b1),.map (some b2),.map (some b3)]:=by rw [hw2, <-hx9];exact QY.new w1 _ _
 have K9:Kd w2 x9 73:=by rw [hw2, <-hx9];exact Kd.newAt w1 _ _
 have k1:=fun X hX=>(k1 X hX).keep e12 Qc.nil (by simp)
 have k2:=fun X hX=>(k2 X hX).keep e12 Qc.nil (by simp)
 have k3:=fun X hX=>(k3 X hX).keep e12 Qc.nil (by simp)
 clear hw2 NO
 rw [hx9]
 have l7:=E7.lt
 have l8:=E8.lt
 have l9:=E9.lt
 obtain⟨T1,hT1⟩:∃T1,Hid (T1=[x7+1,x9,b1,b2,b3] ++T):=⟨_,Qd rfl⟩
 have wl:=hX.memo.lt
 have X2:YZ AT SB B w2 xp bs T1:=hX.more c2 (fun y hy=>by
  rw [hT1.out] at hy
  simp only [List.mem_cons,List.mem_append,List.not_mem_nil,or_false] at hy
  rcases hy with (rfl|rfl|rfl|rfl|rfl)|hy
  all_goals first|exact .inl hy|exact .inr (by omega))
 have act2:=hAct.keep c2 hX.sb (by simp)
 have lA2:=lA.keep c2 hX.sb (by simp)
 have lB2:=lB.keep c2 hX.sb (by simp)
 have cs2:=Qd (fun(o:Nat) (u:Value) (h:w.cell? ⟨b,o,none⟩=some u)=>(c2.cell (p:=⟨b,o,none⟩) lb (by simp)).trans h)
 have op2:=cs2.out _ _ op0
 have lb2:=Nat.lt_of_lt_of_le lb c2.size
 have hTl:=fun y hy=>(hX.low.2.2 y hy).2
 have sbl:=hX.sb
 have hsh:=Qd hs
 clear hs cA e12 c1 m1 m4 op0 hAct lA lB hX
 obtain⟨hact,okA,okB⟩:=a.ok_iff.1 hok
 have hsz:=a.size_eq
 have hct:=a.cost_eq
 have hWe:=YT a
 obtain⟨_,fA,fB⟩:=(Qa.fit_eq _ _ _).1 hfit
 have hwA:Ql a.A<=1048576:=by omega
 have hwB:Ql a.B<=1048576:=by omega
 obtain⟨XA,hXA⟩:∃XA,Hid (XA=Vu Qy a.A (place+1)):=⟨_,Qd rfl⟩
 obtain⟨XB,hXB⟩:∃XB,Hid (XB=Vu Qy a.B (place+1+Qe a.A)):=⟨_,Qd rfl⟩
 have gA:Hid (Yo XA (Q1 a.A) (Vd (Yw a.A) (place+1) (place+1+Qe a.A))):=Qd (by rw [hXA.out];exact YW _ okA _)
 have gB:Hid (Yo XB (Q1 a.B) (Vd (Yw a.B) (place+1+Qe a.A) (place+1+Qe a.A+Qe a.B))):=Qd (by rw [hXB.out];exact YW _ okB _)
 have dA:XM XA:=by rw [hXA.out];exact Wt _ _
 have dB:XM XB:=by rw [hXB.out];exact Wt _ _
 have LA:=Qd (fun(W:World) (T':List Nat) (s:B3) (X:YZ AT SB B W xp bs T') (l:Ww SB W a.A uA) (hs:(Vr s).All WF)=>hA (place+1) uA s T' W X l fA okA (by omega) (by omega) (by omega) hwA hs)
 have LB:=Qd (fun(W:World) (T':List Nat) (s:B3) (X:YZ AT SB B W xp bs T') (l:Ww SB W a.B uB) (hs:(Vr s).All WF)=>hB (place+1+Qe a.A) uB s T' W X l fB okB (by omega) (by omega) (by omega) hwB hs)
 rw [<-hXA.out] at LA
 rw [<-hXB.out] at LB
 unfold QX at LA LB
 have cA2:=cs2.out _ _ cs.out.2.2.2.2.2.2.2.2.2.1
 have cB2:=cs2.out _ _ cs.out.2.2.2.2.2.2.2.2.2.2
 have nbB:=sbl b hSB
 have hbB:=X2.low.1
 have nbb:b≠bs:=by omega
 have hT1B:∀y∈ [bs,b1,b2,b3],B<=y:=fun y hy=>by
  have h1:=X2.low.2.2
  simp only [List.mem_cons,List.not_mem_nil,or_false] at hy
  rcases hy with rfl|rfl|rfl|rfl
  ·exact hbB
  ·exact(h1 _ (by rw [hT1.out];simp)).1
  ·exact(h1 _ (by rw [hT1.out];simp)).1
  ·exact(h1 _ (by rw [hT1.out];simp)).1
 have hct4:3 * Q1 a.A+Q1 a.B<=400000:=by omega
 have hsz1:place+1+Qe a.A+Qe a.B<=1000:=by omega
 have sAn:Qe a.A<=1000/\Qe a.B<=1000:=by omega
 clear cs cs2 hfit hcost hW hact okA okB fA fB hwA hwB hWe hct hsz hp1 act2
 go_wp2_with fail
 go_loopw [47] (fun i wr=>∃n:Int,0<=n/\n<=2/\i= .int .i64 n/\Qz wr VU QX b1 (fun k l=>(0<n/\Yj (XB.took 0) (s1,s2,s4) k l)∨(1<n/\Yj (XA.took 1) (s1,s2,s4) k l))/\Qz wr ql YD b2 (fun k l=>(0<n/\Wz (XB.took 0) (s1,s2,s4) k l)∨(1<n/\Wz (XA.took 1) (s1,s2,s4) k l))/\Qz wr qK YQ b3 (fun k l=>(0<n/\Vf (XB.took 0) (s1,s2,s4) k l)∨(1<n/\Vf (XA.took 1) (s1,s2,s4) k l))/\YZ AT SB B wr xp bs T1/\Qb [bs,b1,b2,b3] w2 wr) (fun i _=>2-(intOf i).toNat)
 case atStart=>exact⟨0,by omega,by omega,rfl,k1 _ (fun k i h=>by simp at h),k2 _ (fun k i h=>by simp at h),k3 _ (fun k i h=>by simp at h),X2,Qb.refl _ _⟩
 case round=>
  obtain⟨n,hn0,hn2,rfl,hN,hG,hE,hXr,hc⟩:=hrel
  obtain⟨wo,hwo⟩:∃wo:World,wo=wr:=⟨_,rfl⟩
  rw [<-hwo] at hN hG hE hXr hc ⊢
  clear hwo
  rcases(show n=0∨n=1∨n=2 by omega) with rfl|rfl|rfl
  ·have hS5:=hT1B
   have lb5:=Nat.lt_of_lt_of_le lb2 hc.size
   have nb5:∀S':List Nat,(∀y∈S',B<=y)->b∉S':=fun S' h hb=>by have:=h b hb;omega
   have cO5:=(hc.cell (p:=⟨b,off,none⟩) lb2 (nb5 _ hS5)).trans op2
   have cA5:=(hc.cell (p:=⟨b,off+9,none⟩) lb2 (nb5 _ hS5)).trans cA2
   have cB5:=(hc.cell (p:=⟨b,off+10,none⟩) lb2 (nb5 _ hS5)).trans cB2
   have lA5:=lA2.keep hc sbl hS5
   have lB5:=lB2.keep hc sbl hS5
   have E75:=E7.keep hc (by first|omega|(simp;done)|(simp;omega))
   have E95:=E9.keep hc (by first|omega|(simp;done)|(simp;omega))
   have X5:=hXr
   have zz5:=hc.size
   go_upto_region 7 with fail
   refine Qo fun w5 hw5=>?_
   rw [<-hw5] at hN hG hE hc X5 cO5 cA5 cB5 lA5 lB5 E75 E95 zz5 lb5
   clear hw5 hXr
   refine Q5 (b:=⟨#[],[]⟩) 16 [50,51,52,53,54,55,56,57,58,59,60,61,62,63,64,11] (JR [(0,50),(1,51),(2,52),(3,53),(4,54),(5,55),(6,56),(7,57),(8,58),(9,59),(10,60),(11,61),(12,62),(13,63)] [.pointer (some ⟨xp,0,none⟩),.pointer (some ⟨b,off,none⟩),.pointer (some ⟨b,off,none⟩),.pointer (some ⟨b,off+10,none⟩),uB,.int .i64 place,.int .i64 (place+1),.pointer (some ⟨b,off,none⟩),.pointer (some ⟨b,off,none⟩),.pointer (some ⟨b,off+9,none⟩),uA,.int .i64 (Qe a.A:Int),.int .i64 (place+1+(Qe a.A:Int)),.agg #[.string s1,.string s2,.string s4]] [(14,64),(15,11)] [fun W u=>∃c1 c2 c3,u= .agg #[.map (some c1),.map (some c2),.map (some c3)] /\Xx W c1 c2 c3 XB (s1,s2,s4)/\(∀y∈ [c1,c2,c3],y∉T1/\y≠bs)/\YZ AT SB B W xp bs (T1),fun W u=>∃x u0 u1 u2,u= .pointer (some ⟨x,0,none⟩)/\w5.heap.size<=x/\QY W x [u0,u1,u2] /\Kd W x 73] (some 14) [bs] w5) (by kernel_rfl) (Xn _ _) (by kernel_rfl) (by kernel_rfl) (by kernel_rfl) (JR.zero (by decide) (by decide)) ?_ ?_
   ·refine⟨.inr ?_,.inr ?_,.inr ?_,.inr ?_,.inr ?_,.inr ?_,.inr ?_,.inr ?_,.inr ?_,.inr ?_,.inr ?_,.inr ?_,.inr ?_,.inr ?_,.inr ?_,.inr ?_,.inl rfl,trivial⟩
    ·rintro d v W- -p H K hK
     simp only [z1,z2,z4,z5,z6] at hK ⊢
     go_simp
     exact hK.out _ _ (H.put 0 rfl rfl)
    ·rintro d v W- -p H K hK
     simp only [z1,z2,z4,z5,z6] at hK ⊢
     go_simp
     exact hK.out _ _ (H.put 1 rfl rfl)
    ·rintro d v W- -p H K hK
     have e1:=H.val 1 _ _ _ rfl rfl (Qi p 1)
     have l0:=Nat.lt_of_lt_of_le lb5 H.chg.size
     have q:=(H.chg.cell (p:=⟨b,off,none⟩) lb5 (by simpa using nbb)).trans cO5
     simp only [z1,z2,z4,z5,z6,e1] at hK ⊢
     go_simp
     exact hK.out _ _ (H.put 2 rfl rfl)
    ·rintro d v W- -p H K hK
     have e2:=H.val 2 _ _ _ rfl rfl (Qi p 2)
     simp only [z1,z2,z4,z5,z6,e2] at hK ⊢
     go_simp
     exact hK.out _ _ (H.put 3 rfl rfl)
    ·rintro d v W- -p H K hK
     have e3:=H.val 3 _ _ _ rfl rfl (Qi p 3)
     have l0:=Nat.lt_of_lt_of_le lb5 H.chg.size
     have q:=(H.chg.cell (p:=⟨b,off+10,none⟩) lb5 (by simpa using nbb)).trans cB5
     simp only [z1,z2,z4,z5,z6,e3] at hK ⊢
     go_simp
     exact hK.out _ _ (H.put 4 rfl rfl)
    ·rintro d v W- -p H K hK
     simp only [z1,z2,z4,z5,z6] at hK ⊢
     go_simp
     exact hK.out _ _ (H.put 5 rfl rfl)
    ·rintro d v W- -p H K hK
     have e5:=H.val 5 _ _ _ rfl rfl (Qi p 5)
     have hw:=Zc (z:=place+1) (by omega) (by omega)
     simp only [z1,z2,z4,z5,z6,e5] at hK ⊢
     go_simp
     exact hK.out _ _ (H.put 6 rfl rfl)
    ·rintro d v W- -p H K hK
     simp only [z1,z2,z4,z5,z6] at hK ⊢
     go_simp
     exact hK.out _ _ (H.put 7 rfl rfl)
    ·rintro d v W- -p H K hK
     have e7:=H.val 7 _ _ _ rfl rfl (Qi p 7)
     have l0:=Nat.lt_of_lt_of_le lb5 H.chg.size
     have q:=(H.chg.cell (p:=⟨b,off,none⟩) lb5 (by simpa using nbb)).trans cO5
     simp only [z1,z2,z4,z5,z6,e7] at hK ⊢
     go_simp
     exact hK.out _ _ (H.put 8 rfl rfl)
    ·rintro d v W- -p H K hK
     have e8:=H.val 8 _ _ _ rfl rfl (Qi p 8)
     simp only [z1,z2,z4,z5,z6,e8] at hK ⊢
     go_simp
     exact hK.out _ _ (H.put 9 rfl rfl)
    ·rintro d v W- -p H K hK
     have e9:=H.val 9 _ _ _ rfl rfl (Qi p 9)
     have l0:=Nat.lt_of_lt_of_le lb5 H.chg.size
     have q:=(H.chg.cell (p:=⟨b,off+9,none⟩) lb5 (by simpa using nbb)).trans cA5
     simp only [z1,z2,z4,z5,z6,e9] at hK ⊢
     go_simp
     exact hK.out _ _ (H.put 10 rfl rfl)
    ·intro d v W hC hd p H K hK
     have e10:=H.val 10 _ _ _ rfl rfl (Qi p 10)
     have g:=H.chg
     simp only [z1,z2,z4,z5,z6,e10] at hK ⊢
     go_simp
     go_at_call 13
     refine(QT a.A uA W.heap.size W (by omega) (lA5.keep g sbl (fun y hy=>by rw [List.mem_singleton.1 hy];exact hbB)).rd (Nat.le_refl _)).mono ?_
     rintro e W2 ⟨rfl,c2⟩
     dsimp only
     exact hK.out _ _ (H.t2 11 rfl rfl c2 (fun h _=>absurd (Qi (hC 14 _ rfl h) 11) (by simp [hd])) (fun _ HK=>(by obtain⟨x,u0,u1,u2,e,hx,hb,hkd⟩:=HK;exact⟨x,u0,u1,u2,e,hx,hb.keep c2,hkd.keep c2⟩)))
    ·rintro d v W- -p H K hK
     have e6:=H.val 6 _ _ _ rfl rfl (Qi p 6)
     have e11:=H.val 11 _ _ _ rfl rfl (Qi p 11)
     have hw:=Zc (z:=place+1+(Qe a.A:Int)) (by omega) (by omega)
     simp only [z1,z2,z4,z5,z6,e6,e11] at hK ⊢
     go_simp
     exact hK.out _ _ (H.put 12 rfl rfl)
    ·rintro d v W- -p H K hK
     have q7:=(E75.keep H.chg (by first|omega|(simp;done)|(simp;omega))).o3
     have f7:=(E75.keep H.chg (by first|omega|(simp;done)|(simp;omega))).f
     simp only [z1,z2,z4,z5,z6] at hK ⊢
     go_simp
     exact hK.out _ _ (H.put 13 rfl rfl)
    ·intro d v W hC hd p H K hK
     have e0:=H.val 0 _ _ _ rfl rfl (Qi p 0)
     have e4:=H.val 4 _ _ _ rfl rfl (Qi p 4)
     have e12:=H.val 12 _ _ _ rfl rfl (Qi p 12)
     have e13:=H.val 13 _ _ _ rfl rfl (Qi p 13)
     have g0:=H.quiet _ rfl hd
     simp only [z1,z2,z4,z5,z6,e0,e4,e12,e13] at hK ⊢
     go_simp
     go_at_call 65
     refine(LB.out W _ (s1,s2,s4) (X5.kz g0) (lB5.keep g0 sbl (by simp)) hsh.out).mono ?_
     rintro e W2 ⟨c1,c2,c3,rfl,ho,hT,hXX,cc⟩
     dsimp only
     have hP:∃c1 c2 c3,_=Value.agg #[.map (some c1),.map (some c2),.map (some c3)] /\Xx W2 c1 c2 c3 XB (s1,s2,s4)/\(∀y∈ [c1,c2,c3],y∉T1/\y≠bs)/\YZ AT SB B W2 xp bs (T1):=⟨c1,c2,c3,rfl,ho,hT,hXX⟩
     exact hK.out _ _ (H.n2 _ hP (fun _ HK=>(by obtain⟨x,u0,u1,u2,e,hx,hb,hkd⟩:=HK;exact⟨x,u0,u1,u2,e,hx,hb.keep cc (by first|omega|(simp;done)|(simp;omega)),hkd.keep cc (by first|omega|(simp;done)|(simp;omega))⟩)) (.inl rfl) (g0.ty cc))
    ·intro d v W hC hd p H K hK
     have g:=H.chg
     simp only [z1,z2,z4,z5,z6] at hK ⊢
     go_simp
     have hP:∃x u0 u1 u2,(Value.pointer (some ⟨W.heap.size,0,none⟩))= .pointer (some ⟨x,0,none⟩)/\w5.heap.size<=x/\QY (W.alloc (.cells #[.map none,.map none,.map none] 73)) x [u0,u1,u2] /\Kd (W.alloc (.cells #[.map none,.map none,.map none] 73)) x 73:=⟨_,_,_,_,rfl,g.size,QY.new W _ _,Kd.newAt W _ _ rfl⟩
     exact hK.out _ _ ((H.swap.n2 _ hP (fun _ HK=>(by obtain⟨c1,c2,c3,e,ho,hT,hXX⟩:=HK;have cn:=(Qb.refl [] W).alloc (.cells #[.map none,.map none,.map none] 73);exact⟨c1,c2,c3,e,ho.keep cn Qc.nil (by simp) (by simp) (by simp),hT,hXX.kz cn⟩)) (.inr ((Qb.refl _ _).alloc _)) (H.chg.alloc _)).swap)
   ·refine⟨_,rfl,fun v W H K hK=>?_⟩
    have e0:=H.val 0 _ _ _ rfl rfl (by decide)
    have e1:=H.val 1 _ _ _ rfl rfl (by decide)
    have e2:=H.val 2 _ _ _ rfl rfl (by decide)
    have e3:=H.val 3 _ _ _ rfl rfl (by decide)
    have e4:=H.val 4 _ _ _ rfl rfl (by decide)
    have e5:=H.val 5 _ _ _ rfl rfl (by decide)
    have e6:=H.val 6 _ _ _ rfl rfl (by decide)
    have e7:=H.val 7 _ _ _ rfl rfl (by decide)
    have e8:=H.val 8 _ _ _ rfl rfl (by decide)
    have e9:=H.val 9 _ _ _ rfl rfl (by decide)
    have e10:=H.val 10 _ _ _ rfl rfl (by decide)
    have e11:=H.val 11 _ _ _ rfl rfl (by decide)
    have e12:=H.val 12 _ _ _ rfl rfl (by decide)
    have e13:=H.val 13 _ _ _ rfl rfl (by decide)
    have P14:=H.prop 0 _ _ _ rfl rfl (by decide)
    have P15:=H.prop 1 _ _ _ rfl rfl (by decide)
    have CHW:=H.chg
    clear H
    simp only [z1,z2,z4,z5,e0,e1,e2,e3,e4,e5,e6,e7,e8,e9,e10,e11,e12,e13]
    obtain⟨c1,c2,c3,ec,ho,hT,hXX⟩:=P14
    obtain⟨x15,u0,u1,u2,ex,hx,hb15,hkd⟩:=P15
    rw [ec,ex]
    have hx15:B<=x15:=Nat.le_trans X5.le hx
    have fq:=hb15.f
    have oq:=hb15.o3
    go_simp
    refine hK.out _ _ ?_
    have cp:=Xo W x15 (.map (some c1)) (.map (some c2)) (.map (some c3))
    have l15:=hb15.lt
    have B15:=hb15.put3 rfl (.map (some c1)) (.map (some c2)) (.map (some c3))
    have x15p:x15≠xp:=by have h1:=Qn X5.ptr;simp only at h1;omega
    have ho7:=ho.keepB cp hkd
    have X7:=hXX.keepB cp hkd ⟨hx15,x15p⟩
    have K15:=hkd.keepW cp
    obtain⟨wz,hw7⟩:∃w7,(((W.setCell ⟨x15,0,none⟩ (.map (some c1))).setCell ⟨x15,1,none⟩ (.map (some c2))).setCell ⟨x15,2,none⟩ (.map (some c3)))=w7:=⟨_,rfl⟩
    rw [hw7] at cp B15 ho7 X7 K15 ⊢
    have c67:Qb [bs] w5 wz:=CHW.trans cp (fun y hy=>.inr (by rw [List.mem_singleton.1 hy];exact hx))
    have z67:=c67.size
    clear hw7 cp fq oq hb15 ho hXX CHW hkd ec
    have cZ:Qb [bs,x15] w5 wz:=c67.mono (by simp)
    obtain⟨r3,hr3⟩:∃r3,wz.heap.size=r3:=⟨_,rfl⟩
    have o15:=B15.o3
    have f15:=B15.f
    have kc1:=ho7.ok
    have nS:∀ {y:Nat},y∈ [b1,b2,b3,x9] ->y∉ [bs,x15]:=fun {y} hy h=>by
     simp only [List.mem_cons,List.not_mem_nil,or_false] at hy h
     have h1:=X5.low.2.1
     rw [hT1.out] at h1
     simp only [List.mem_cons,List.mem_append,List.not_mem_nil,or_false,not_or] at h1
     omega
    have nI:Qc w5 [bs,x15]:=Qc.cons X5.memo.nz (Qc.cons (fun cs fr h=>by have:=(Array.getElem?_eq_some_iff.1 h).1;omega) Qc.nil)
    have hN7:=hN.keep cZ nI (nS (by simp))
    have hG7:=hG.keep cZ nI (nS (by simp))
    have hE7:=hE.keep cZ nI (nS (by simp))
    have E97:=E95.keep cZ (nS (by simp))
    have zZ:=cZ.size
    have hTn:∀y∈ [c1,c2,c3],y≠b1/\y≠b2/\y≠b3:=fun y hy=>by
     have h:=(hT y hy).1
     rw [hT1.out] at h
     simp only [List.mem_cons,List.mem_append,List.not_mem_nil,or_false,not_or] at h
     exact⟨h.1.2.2.1,h.1.2.2.2.1,h.1.2.2.2.2⟩
    have nc1:=hTn c1 (by simp)
    have nc2:=hTn c2 (by simp)
    have nc3:=hTn c3 (by simp)
    have nn3:∀t j,Yj XB (s1,s2,s4) t j-> [(0:Int)].length+j.length<=1000000:=fun t j h=>by have h2:=(gB.out.ok hsh.out h).2;simp only [List.length_cons,List.length_nil];omega
    clear hN hG hE E75 cO5 cA5 cB5 lA5 lB5 lb5
    go_wp2_with (first|(at_range;refine ZA rfl (.tmp 77) _ rfl hu (fun _ _ h=>Xe h) rfl kc1 ?_;intro w8 hR8 hc8 hs8)|fail)
    rw [hr3] at hR8 hs8 ⊢
    simp only [Act.put,List.setIfInBounds_toArray,List.set_cons_zero,List.set_cons_succ]
    have N8:=hN7.keep hc8 Qc.nil (by simp)
    have E98:=E97.keep hc8
    have ne3:b1≠r3/\c1≠r3/\b2≠r3/\b3≠r3/\c2≠r3/\c3≠r3/\x15≠r3/\x9≠r3/\x15≠b1/\x9≠b1:=by have h1:=hN7.lt;have h2:=ho7.lt;have h3:=hG7.lt;have h4:=hE7.lt;have h5:=B15.lt;have h6:=E97.lt;omega
    go_loopw [] (fun wr=>∃D3,Gf wr VU QX c1 r3 (Yj XB (s1,s2,s4)) D3/\Qz wr VU QX b1 (fun k l=>(fun k l=>((0:Int)<0/\Yj (XB.took 0) (s1,s2,s4) k l)∨((1:Int)<0/\Yj (XA.took 1) (s1,s2,s4) k l)) k l∨∃j,D3 k j/\l=[(0:Int)] ++j)/\Qb [b1,r3] w8 wr) (fun wr=>leftN wr c1 r3)
    case atStart=>exact⟨_,hR8,N8.congr (by simp),Qb.refl _ _⟩
    case round=>
     obtain⟨D3,hR,hK,hc⟩:=hrel
     obtain⟨wq,hwq⟩:∃wq:World,wq=wr:=⟨_,rfl⟩
     rw [<-hwq] at hR hK hc ⊢
     clear hwq
     have niq:Qc w8 [b1,r3]:=Qc.cons N8.nz (Qc.cons hR8.nz Qc.nil)
     have BX:=E98.keep hc (by first|omega|(simp;done)|(simp;omega))
     have c8q:Qb [b1,r3] wz wq:=hc8.ty hc
     have ni7:Qc wz [b1,r3]:=fun y hy=>by
      rcases List.mem_cons.1 hy with rfl|hy
      ·exact hN7.nz
      ·rw [List.mem_singleton.1 hy, <-hr3];exact fun cs fr h=>absurd (Array.getElem?_eq_some_iff.1 h).1 (Nat.lt_irrefl _)
     have G9q:=E97.keep c8q (by first|omega|(simp;done)|(simp;omega))
     have q9:=G9q.o3
     have p9:=G9q.f
     have q15:=(B15.keep c8q (by first|omega|(simp;done)|(simp;omega))).o3
     have p15:=(B15.keep c8q (by first|omega|(simp;done)|(simp;omega))).f
     have AE:=Qd (fun(W:World) (cW:Qb [] wq W) (v:Value) (hv:Zj W [(0:Int)] v)=>VY (fun k l=>((0:Int)<0/\Wz (XB.took 0) (s1,s2,s4) k l)∨((1:Int)<0/\Wz (XA.took 1) (s1,s2,s4) k l)) (Wz XB (s1,s2,s4)) (fun k l=>((0:Int)<0/\Vf (XB.took 0) (s1,s2,s4) k l)∨((1:Int)<0/\Vf (XA.took 1) (s1,s2,s4) k l)) (Vf XB (s1,s2,s4)) b2 b3 c2 c3 (some b1) (some c1) v [(0:Int)] W ((hG7.keep c8q ni7 (by first|omega|(simp;done)|(simp;omega))).keep cW Qc.nil (by simp)) ((hE7.keep c8q ni7 (by first|omega|(simp;done)|(simp;omega))).keep cW Qc.nil (by simp)) ((ho7.fl.keep c8q ni7 (by first|omega|(simp;done)|(simp;omega))).keep cW Qc.nil (by simp)) ((ho7.em.keep c8q ni7 (by first|omega|(simp;done)|(simp;omega))).keep cW Qc.nil (by simp)) ⟨nc2.2.1.symm,nc3.2.1.symm,nc2.2.2.symm,nc3.2.2.symm,by omega⟩ hv (fun k j h=>by have h2:=(gB.out.bad hsh.out h).2.1;simp only [List.length_cons,List.length_nil];omega) (fun k j h=>by obtain⟨_,_,h,_⟩:=h;have h2:=(gB.out.bad hsh.out h).2.1;simp only [List.length_cons,List.length_nil];omega) (fun k=>VS dB _ k) (fun k=>JS dB _ k))
     go_upto_region 13 with (first|(at_next;refine Zz rfl (.tmp 78) rfl rfl hR ?_ ?_;rotate_left;rintro⟨g4,g5,g6⟩ j v1 wA hk4 hj hl4 hRA hcA hsA hltA hent;unfold QX at hent ⊢;rotate_right;intro hD)|(go_at_call 98;refine(AE.out _ Qb.now _ (Kg wq 0)).mono ?_;rintro e wB ⟨rfl,kA,kG,cB⟩)|fail)
     ·have cwB:Qb [b2,b3] wq wB:=Qb.ty (Qb.now) cB
      have niB:Qc wq [b2,b3]:=Qc.cons (hG7.keep c8q ni7 (by first|omega|(simp;done)|(simp;omega))).nz (Qc.cons (hE7.keep c8q ni7 (by first|omega|(simp;done)|(simp;omega))).nz Qc.nil)
      have KF:Qz wq VU QX b1 (fun k l=>(fun k l=>((0:Int)<0/\Yj (XB.took 0) (s1,s2,s4) k l)∨((1:Int)<0/\Yj (XA.took 1) (s1,s2,s4) k l)) k l∨∃j,Yj XB (s1,s2,s4) k j/\l=[(0:Int)] ++j):=(hK.congr (fun k l=>by simp only [hD])).front (fun k=>WJ dB _ k)
      have KN:=(KF.congr (fun k l=>QeV (Qao 0 k l))).keep cwB niB (by first|omega|(simp;done)|(simp;omega))
      have KA:=kA.congr (fun k l=>QeV (Qak 0 k l))
      have KE:=kG.congr (fun k l=>QeV (Qbk 0 k l))
      have X8:YZ AT SB B w8 xp bs (r3::T1):=X7.more hc8 (fun y hy=>by
       rcases List.mem_cons.1 hy with rfl|hy
       ·exact .inr ⟨by omega,by omega⟩
       ·exact .inl hy)
      have XB':=((X8.keep hc niq (fun y hy=>.inl (by rw [hT1.out];simp only [List.mem_cons,List.not_mem_nil,or_false] at hy;rcases hy with rfl|rfl<;>simp))).keep cwB niB (fun y hy=>.inl (by rw [hT1.out];simp only [List.mem_cons,List.not_mem_nil,or_false] at hy;rcases hy with rfl|rfl<;>simp))).less (T':=T1) (fun y hy=>List.mem_cons_of_mem _ hy)
      have CN:=(((‹Qb [bs,b1,b2,b3] w2 w5›.trans cZ (fun y hy=>by simp only [List.mem_cons,List.not_mem_nil,or_false] at hy;rcases hy with rfl|rfl;exact .inl (by simp);exact .inr (by omega))).trans c8q (fun y hy=>by simp only [List.mem_cons,List.not_mem_nil,or_false] at hy;rcases hy with rfl|rfl;exact .inl (by simp);exact .inr (by omega))).trans cwB (fun y hy=>.inl (by simp at hy ⊢;omega)))
      go_roundw
      case rel=>exact⟨1,by omega,by omega,by go_num,KN,KA,KE,XB',CN⟩
      case measure=>simp [intOf]
     ·refine Qo fun w9 hw9=>?_
      obtain⟨xk,hxk⟩:∃xk,wA.heap.size=xk:=⟨_,rfl⟩
      have c9:Qb [] wA w9:=by rw [hw9];exact Qb.now
      have E6:QY w9 xk [.string g4,.string g5,.string g6]:=by rw [hw9, <-hxk];exact QY.new wA _ _
      try rw [<-hsA]
      try rw [hxk]
      clear hw9
      have cr9:Qb [r3] wq w9:=hcA.tz c9
      have nq:Qc wq [r3]:=Qc.cons hR.nz Qc.nil
      have K5:=hK.keep cr9 nq (by first|omega|(simp;done)|(simp;omega))
      have sk:g4.size<=maxLen/\g5.size<=maxLen/\g6.size<=maxLen:=by
       obtain⟨z,e,hz⟩:=hk4
       obtain rfl:=Xe (show QX (g4,g5,g6)=QX z from e)
       exact hz
      have hj5:=hj.keep c9 Qc.nil
      have R5:=Qd (hRA.keep c9 Qc.nil (by simp) (by simp))
      have CC:=Qd (hc.trans cr9 (fun x hx=>.inl (by simp at hx ⊢;exact .inr hx)))
      have HL:=Qd (show leftN w9 c1 r3<leftN wq c1 r3 by rw [hRA.left c9 (by simp) (by simp)];exact hltA)
      have lt5:=c9.size
      have ltx:=E6.lt
      have E3:=BX.keep cr9 (by first|omega|(simp;done)|(simp;omega))
      have n5:=nn3 _ _ hl4.1
      clear hcA hRA hltA hent hsA hl4 hR hK hc
      refine Q5 (b:=⟨#[],[]⟩) 7 [84,85,86,87,88,89,90] (JR [(0,84),(1,85),(2,86),(3,87),(5,89)] [.pointer (some ⟨x9,0,none⟩),.map (some b1),.agg #[.string g4,.string g5,.string g6],.int .i64 0,v1] [(4,88),(6,90)] [fun W u=>Zj W [0] u,fun W u=>Zj W ([0] ++j) u] none [] w9) (by kernel_rfl) (Xn _ _) (by kernel_rfl) (by kernel_rfl) (by kernel_rfl) (JR.zero (by decide) (by decide)) ?_ ?_
      ·refine⟨.inr ?_,.inr ?_,.inr ?_,.inr ?_,.inr ?_,.inr ?_,.inr ?_,.inl rfl,trivial⟩
       ·rintro d v W- -p H K hK
        simp only [z1,z2,z4,z5,z6] at hK ⊢
        go_simp
        exact hK.out _ _ (H.put 0 rfl rfl)
       ·rintro d v W- -p H K hK
        have e0:=H.val 0 _ _ _ rfl rfl (Qi p 0)
        have q3:=(E3.keep H.chg).o3
        have fq:=(E3.keep H.chg).f
        simp only [z1,z2,z4,z5,z6,e0] at hK ⊢
        go_simp
        exact hK.out _ _ (H.put 1 rfl rfl)
       ·rintro d v W- -p H K hK
        have q6:=(E6.keep H.chg).o3
        have fq:=(E6.keep H.chg).f
        simp only [z1,z2,z4,z5,z6] at hK ⊢
        go_simp
        exact hK.out _ _ (H.put 2 rfl rfl)
       ·rintro d v W- -p H K hK
        simp only [z1,z2,z4,z5,z6] at hK ⊢
        go_simp
        exact hK.out _ _ (H.put 3 rfl rfl)
       ·intro d v W hC hd p H K hK
        have e3:=H.val 3 _ _ _ rfl rfl (Qi p 3)
        have g:=H.chg
        simp only [z1,z2,z4,z5,z6,e3] at hK ⊢
        go_simp
        have hP:=Kg W 0
        exact hK.out _ _ (H.n2 _ hP (fun _ HK=>HK.keep ((Qb.refl [] W).alloc _) Qc.nil) (.inr ((Qb.refl _ _).alloc _)) (H.chg.alloc _))
       ·rintro d v W- -p H K hK
        simp only [z1,z2,z4,z5,z6] at hK ⊢
        go_simp
        exact hK.out _ _ (H.put 4 rfl rfl)
       ·intro d v W hC hd p H K hK
        have P4:=H.prop 0 _ _ _ rfl rfl (Qi p 4)
        have e5:=H.val 4 _ _ _ rfl rfl (Qi p 5)
        have g:=H.chg
        simp only [z1,z2,z4,z5,z6,e5] at hK ⊢
        go_simp
        go_at_call 97
        refine(WN [0] j _ v1 W P4 (hj5.keep g Qc.nil) n5).mono ?_
        rintro e W2 ⟨u,rfl,hP,c2⟩
        dsimp only
        exact hK.out _ _ ((H.swap.n2 _ hP (fun _ HK=>HK.keep c2 Qc.nil) (.inr c2) (H.chg.tz c2)).swap)
      ·refine⟨_,rfl,fun v W H K hK=>?_⟩
       have e0:=H.val 0 _ _ _ rfl rfl (by decide)
       have e1:=H.val 1 _ _ _ rfl rfl (by decide)
       have e2:=H.val 2 _ _ _ rfl rfl (by decide)
       have e3:=H.val 3 _ _ _ rfl rfl (by decide)
       have e5:=H.val 4 _ _ _ rfl rfl (by decide)
       have P4:=H.prop 0 _ _ _ rfl rfl (by decide)
       have P6:=H.prop 1 _ _ _ rfl rfl (by decide)
       have CHW:=H.chg
       clear H
       simp only [z1,z2,z4,z5,e0,e1,e2,e3,e5]
       go_simp
       go_at_call 96
       refine(Wj _ b1 (g4,g5,g6) _ _ W sk.1 sk.2.1 sk.2.2 (K5.keep CHW Qc.nil (by first|omega|(simp;done)|(simp;omega))) (P6)).mono ?_
       rintro e W2 ⟨rfl,k2,d2⟩
       refine hK.out _ _ ?_
       have nb9:Qc W [b1]:=Qc.cons (K5.keep CHW Qc.nil (by first|omega|(simp;done)|(simp;omega))).nz Qc.nil
       have R6:=(R5.out.keep CHW Qc.nil (by first|omega|(simp;done)|(simp;omega)) (by first|omega|(simp;done)|(simp;omega))).keep d2 nb9 (by first|omega|(simp;done)|(simp;omega)) (by first|omega|(simp;done)|(simp;omega))
       have l6:=((R5.out.keep CHW Qc.nil (by first|omega|(simp;done)|(simp;omega)) (by first|omega|(simp;done)|(simp;omega))).left d2 (by first|omega|(simp;done)|(simp;omega)) (by first|omega|(simp;done)|(simp;omega))).trans (R5.out.left CHW (by first|omega|(simp;done)|(simp;omega)) (by first|omega|(simp;done)|(simp;omega)))
       go_roundw
       case rel=>(repeat apply Exists.intro);exact⟨⟨_,R6,k2.congr Yz,(CC.out.tz CHW).trans d2 (fun x hx=>.inl (by simp at hx ⊢;exact .inl hx))⟩,rfl⟩
       case measure=>have:=HL.out;omega
  ·have hS5:=hT1B
   have lb5:=Nat.lt_of_lt_of_le lb2 hc.size
   have nb5:∀S':List Nat,(∀y∈S',B<=y)->b∉S':=fun S' h hb=>by have:=h b hb;omega
   have cO5:=(hc.cell (p:=⟨b,off,none⟩) lb2 (nb5 _ hS5)).trans op2
   have cA5:=(hc.cell (p:=⟨b,off+9,none⟩) lb2 (nb5 _ hS5)).trans cA2
   have cB5:=(hc.cell (p:=⟨b,off+10,none⟩) lb2 (nb5 _ hS5)).trans cB2
   have lA5:=lA2.keep hc sbl hS5
   have lB5:=lB2.keep hc sbl hS5
   have E75:=E7.keep hc (by first|omega|(simp;done)|(simp;omega))
   have E95:=E9.keep hc (by first|omega|(simp;done)|(simp;omega))
   have X5:=hXr
   have zz5:=hc.size
   go_upto_region 7 with fail
   refine Qo fun w5 hw5=>?_
   rw [<-hw5] at hN hG hE hc X5 cO5 cA5 cB5 lA5 lB5 E75 E95 zz5 lb5
   clear hw5 hXr
   refine Q5 (b:=⟨#[],[]⟩) 16 [50,51,52,53,54,55,56,57,58,59,60,61,62,63,64,11] (JR [(0,50),(1,51),(2,52),(3,53),(4,54),(5,55),(6,56),(7,57),(8,58),(9,59),(10,60),(11,61),(12,62),(13,63)] [.pointer (some ⟨xp,0,none⟩),.pointer (some ⟨b,off,none⟩),.pointer (some ⟨b,off,none⟩),.pointer (some ⟨b,off+10,none⟩),uB,.int .i64 place,.int .i64 (place+1),.pointer (some ⟨b,off,none⟩),.pointer (some ⟨b,off,none⟩),.pointer (some ⟨b,off+9,none⟩),uA,.int .i64 (Qe a.A:Int),.int .i64 (place+1+(Qe a.A:Int)),.agg #[.string s1,.string s2,.string s4]] [(14,64),(15,11)] [fun W u=>∃c1 c2 c3,u= .agg #[.map (some c1),.map (some c2),.map (some c3)] /\Xx W c1 c2 c3 XB (s1,s2,s4)/\(∀y∈ [c1,c2,c3],y∉T1/\y≠bs)/\YZ AT SB B W xp bs (T1),fun W u=>∃x u0 u1 u2,u= .pointer (some ⟨x,0,none⟩)/\w5.heap.size<=x/\QY W x [u0,u1,u2] /\Kd W x 73] (some 14) [bs] w5) (by kernel_rfl) (Xn _ _) (by kernel_rfl) (by kernel_rfl) (by kernel_rfl) (JR.zero (by decide) (by decide)) ?_ ?_
   ·refine⟨.inr ?_,.inr ?_,.inr ?_,.inr ?_,.inr ?_,.inr ?_,.inr ?_,.inr ?_,.inr ?_,.inr ?_,.inr ?_,.inr ?_,.inr ?_,.inr ?_,.inr ?_,.inr ?_,.inl rfl,trivial⟩
    ·rintro d v W- -p H K hK
     simp only [z1,z2,z4,z5,z6] at hK ⊢
     go_simp
     exact hK.out _ _ (H.put 0 rfl rfl)
    ·rintro d v W- -p H K hK
     simp only [z1,z2,z4,z5,z6] at hK ⊢
     go_simp
     exact hK.out _ _ (H.put 1 rfl rfl)
    ·rintro d v W- -p H K hK
     have e1:=H.val 1 _ _ _ rfl rfl (Qi p 1)
     have l0:=Nat.lt_of_lt_of_le lb5 H.chg.size
     have q:=(H.chg.cell (p:=⟨b,off,none⟩) lb5 (by simpa using nbb)).trans cO5
     simp only [z1,z2,z4,z5,z6,e1] at hK ⊢
     go_simp
     exact hK.out _ _ (H.put 2 rfl rfl)
    ·rintro d v W- -p H K hK
     have e2:=H.val 2 _ _ _ rfl rfl (Qi p 2)
     simp only [z1,z2,z4,z5,z6,e2] at hK ⊢
     go_simp
     exact hK.out _ _ (H.put 3 rfl rfl)
    ·rintro d v W- -p H K hK
     have e3:=H.val 3 _ _ _ rfl rfl (Qi p 3)
     have l0:=Nat.lt_of_lt_of_le lb5 H.chg.size
     have q:=(H.chg.cell (p:=⟨b,off+10,none⟩) lb5 (by simpa using nbb)).trans cB5
     simp only [z1,z2,z4,z5,z6,e3] at hK ⊢
     go_simp
     exact hK.out _ _ (H.put 4 rfl rfl)
    ·rintro d v W- -p H K hK
     simp only [z1,z2,z4,z5,z6] at hK ⊢
     go_simp
     exact hK.out _ _ (H.put 5 rfl rfl)
    ·rintro d v W- -p H K hK
     have e5:=H.val 5 _ _ _ rfl rfl (Qi p 5)
     have hw:=Zc (z:=place+1) (by omega) (by omega)
     simp only [z1,z2,z4,z5,z6,e5] at hK ⊢
     go_simp
     exact hK.out _ _ (H.put 6 rfl rfl)
    ·rintro d v W- -p H K hK
     simp only [z1,z2,z4,z5,z6] at hK ⊢
     go_simp
     exact hK.out _ _ (H.put 7 rfl rfl)
    ·rintro d v W- -p H K hK
     have e7:=H.val 7 _ _ _ rfl rfl (Qi p 7)
     have l0:=Nat.lt_of_lt_of_le lb5 H.chg.size
     have q:=(H.chg.cell (p:=⟨b,off,none⟩) lb5 (by simpa using nbb)).trans cO5
     simp only [z1,z2,z4,z5,z6,e7] at hK ⊢
     go_simp
     exact hK.out _ _ (H.put 8 rfl rfl)
    ·rintro d v W- -p H K hK
     have e8:=H.val 8 _ _ _ rfl rfl (Qi p 8)
     simp only [z1,z2,z4,z5,z6,e8] at hK ⊢
     go_simp
     exact hK.out _ _ (H.put 9 rfl rfl)
    ·rintro d v W- -p H K hK
     have e9:=H.val 9 _ _ _ rfl rfl (Qi p 9)
     have l0:=Nat.lt_of_lt_of_le lb5 H.chg.size
     have q:=(H.chg.cell (p:=⟨b,off+9,none⟩) lb5 (by simpa using nbb)).trans cA5
     simp only [z1,z2,z4,z5,z6,e9] at hK ⊢
     go_simp
     exact hK.out _ _ (H.put 10 rfl rfl)
    ·intro d v W hC hd p H K hK
     have e10:=H.val 10 _ _ _ rfl rfl (Qi p 10)
     have g:=H.chg
     simp only [z1,z2,z4,z5,z6,e10] at hK ⊢
     go_simp
     go_at_call 13
     refine(QT a.A uA W.heap.size W (by omega) (lA5.keep g sbl (fun y hy=>by rw [List.mem_singleton.1 hy];exact hbB)).rd (Nat.le_refl _)).mono ?_
     rintro e W2 ⟨rfl,c2⟩
     dsimp only
     exact hK.out _ _ (H.t2 11 rfl rfl c2 (fun h _=>absurd (Qi (hC 14 _ rfl h) 11) (by simp [hd])) (fun _ HK=>(by obtain⟨x,u0,u1,u2,e,hx,hb,hkd⟩:=HK;exact⟨x,u0,u1,u2,e,hx,hb.keep c2,hkd.keep c2⟩)))
    ·rintro d v W- -p H K hK
     have e6:=H.val 6 _ _ _ rfl rfl (Qi p 6)
     have e11:=H.val 11 _ _ _ rfl rfl (Qi p 11)
     have hw:=Zc (z:=place+1+(Qe a.A:Int)) (by omega) (by omega)
     simp only [z1,z2,z4,z5,z6,e6,e11] at hK ⊢
     go_simp
     exact hK.out _ _ (H.put 12 rfl rfl)
    ·rintro d v W- -p H K hK
     have q7:=(E75.keep H.chg (by first|omega|(simp;done)|(simp;omega))).o3
     have f7:=(E75.keep H.chg (by first|omega|(simp;done)|(simp;omega))).f
     simp only [z1,z2,z4,z5,z6] at hK ⊢
     go_simp
     exact hK.out _ _ (H.put 13 rfl rfl)
    ·intro d v W hC hd p H K hK
     have e0:=H.val 0 _ _ _ rfl rfl (Qi p 0)
     have e4:=H.val 4 _ _ _ rfl rfl (Qi p 4)
     have e12:=H.val 12 _ _ _ rfl rfl (Qi p 12)
     have e13:=H.val 13 _ _ _ rfl rfl (Qi p 13)
     have g0:=H.quiet _ rfl hd
     simp only [z1,z2,z4,z5,z6,e0,e4,e12,e13] at hK ⊢
     go_simp
     go_at_call 65
     refine(LB.out W _ (s1,s2,s4) (X5.kz g0) (lB5.keep g0 sbl (by simp)) hsh.out).mono ?_
     rintro e W2 ⟨c1,c2,c3,rfl,ho,hT,hXX,cc⟩
     dsimp only
     have hP:∃c1 c2 c3,_=Value.agg #[.map (some c1),.map (some c2),.map (some c3)] /\Xx W2 c1 c2 c3 XB (s1,s2,s4)/\(∀y∈ [c1,c2,c3],y∉T1/\y≠bs)/\YZ AT SB B W2 xp bs (T1):=⟨c1,c2,c3,rfl,ho,hT,hXX⟩
     exact hK.out _ _ (H.n2 _ hP (fun _ HK=>(by obtain⟨x,u0,u1,u2,e,hx,hb,hkd⟩:=HK;exact⟨x,u0,u1,u2,e,hx,hb.keep cc (by first|omega|(simp;done)|(simp;omega)),hkd.keep cc (by first|omega|(simp;done)|(simp;omega))⟩)) (.inl rfl) (g0.ty cc))
    ·intro d v W hC hd p H K hK
     have g:=H.chg
     simp only [z1,z2,z4,z5,z6] at hK ⊢
     go_simp
     have hP:∃x u0 u1 u2,(Value.pointer (some ⟨W.heap.size,0,none⟩))= .pointer (some ⟨x,0,none⟩)/\w5.heap.size<=x/\QY (W.alloc (.cells #[.map none,.map none,.map none] 73)) x [u0,u1,u2] /\Kd (W.alloc (.cells #[.map none,.map none,.map none] 73)) x 73:=⟨_,_,_,_,rfl,g.size,QY.new W _ _,Kd.newAt W _ _ rfl⟩
     exact hK.out _ _ ((H.swap.n2 _ hP (fun _ HK=>(by obtain⟨c1,c2,c3,e,ho,hT,hXX⟩:=HK;have cn:=(Qb.refl [] W).alloc (.cells #[.map none,.map none,.map none] 73);exact⟨c1,c2,c3,e,ho.keep cn Qc.nil (by simp) (by simp) (by simp),hT,hXX.kz cn⟩)) (.inr ((Qb.refl _ _).alloc _)) (H.chg.alloc _)).swap)
   ·refine⟨_,rfl,fun v W H K hK=>?_⟩
    have e0:=H.val 0 _ _ _ rfl rfl (by decide)
    have e1:=H.val 1 _ _ _ rfl rfl (by decide)
    have e2:=H.val 2 _ _ _ rfl rfl (by decide)
    have e3:=H.val 3 _ _ _ rfl rfl (by decide)
    have e4:=H.val 4 _ _ _ rfl rfl (by decide)
    have e5:=H.val 5 _ _ _ rfl rfl (by decide)
    have e6:=H.val 6 _ _ _ rfl rfl (by decide)
    have e7:=H.val 7 _ _ _ rfl rfl (by decide)
    have e8:=H.val 8 _ _ _ rfl rfl (by decide)
    have e9:=H.val 9 _ _ _ rfl rfl (by decide)
    have e10:=H.val 10 _ _ _ rfl rfl (by decide)
    have e11:=H.val 11 _ _ _ rfl rfl (by decide)
    have e12:=H.val 12 _ _ _ rfl rfl (by decide)
    have e13:=H.val 13 _ _ _ rfl rfl (by decide)
    have P14:=H.prop 0 _ _ _ rfl rfl (by decide)
    have P15:=H.prop 1 _ _ _ rfl rfl (by decide)
    have CHW:=H.chg
    clear H
    simp only [z1,z2,z4,z5,e0,e1,e2,e3,e4,e5,e6,e7,e8,e9,e10,e11,e12,e13]
    obtain⟨c1,c2,c3,ec,ho,hT,hXX⟩:=P14
    obtain⟨x15,u0,u1,u2,ex,hx,hb15,hkd⟩:=P15
    rw [ec,ex]
    have hx15:B<=x15:=Nat.le_trans X5.le hx
    have fq:=hb15.f
    have oq:=hb15.o3
    go_simp
    refine hK.out _ _ ?_
    have cp:=Xo W x15 (.map (some c1)) (.map (some c2)) (.map (some c3))
    have l15:=hb15.lt
    have B15:=hb15.put3 rfl (.map (some c1)) (.map (some c2)) (.map (some c3))
    have x15p:x15≠xp:=by have h1:=Qn X5.ptr;simp only at h1;omega
    have ho7:=ho.keepB cp hkd
    have X7:=hXX.keepB cp hkd ⟨hx15,x15p⟩
    have K15:=hkd.keepW cp
    obtain⟨wy,hw7⟩:∃w7,(((W.setCell ⟨x15,0,none⟩ (.map (some c1))).setCell ⟨x15,1,none⟩ (.map (some c2))).setCell ⟨x15,2,none⟩ (.map (some c3)))=w7:=⟨_,rfl⟩
    rw [hw7] at cp B15 ho7 X7 K15 ⊢
    have c67:Qb [bs] w5 wy:=CHW.trans cp (fun y hy=>.inr (by rw [List.mem_singleton.1 hy];exact hx))
    have z67:=c67.size
    clear hw7 cp fq oq hb15 ho hXX CHW hkd ec
    have c57:=c67
    have n5b:∀y∈ [bs],B<=y:=fun y hy=>by rw [List.mem_singleton.1 hy];exact hbB
    have E7y:=E75.keep c57 (by first|omega|(simp;done)|(simp;omega))
    have lby:=Nat.lt_of_lt_of_le lb5 c57.size
    have cOy:=(c57.cell (p:=⟨b,off,none⟩) lb5 (by simpa using nbb)).trans cO5
    have cAy:=(c57.cell (p:=⟨b,off+9,none⟩) lb5 (by simpa using nbb)).trans cA5
    have lAy:=lA5.keep c57 sbl n5b
    have B15y:=B15
    have K15y:=K15
    clear c67 B15 K15 hT
    have Xy:=X7
    have l15y:=l15
    clear lb5 cO5 cA5 cB5
    have lb5:=lby
    have cO5:=cOy
    have cA5:=cAy
    have cB5:=cAy
    go_upto_region 9 with fail
    refine Q5 (b:=⟨#[],[]⟩) 9 [67,68,69,70,71,72,73,74,75] (JR [(0,67),(1,68),(2,69),(3,70),(4,71),(5,72),(6,73),(7,74)] [.pointer (some ⟨xp,0,none⟩),.pointer (some ⟨b,off,none⟩),.pointer (some ⟨b,off,none⟩),.pointer (some ⟨b,off+9,none⟩),uA,.int .i64 place,.int .i64 (place+1),.agg #[.string s1,.string s2,.string s4]] [(8,75)] [fun W u=>∃c1 c2 c3,u= .agg #[.map (some c1),.map (some c2),.map (some c3)] /\Xx W c1 c2 c3 XA (s1,s2,s4)/\(∀y∈ [c1,c2,c3],y∉T1/\y≠bs)/\YZ AT SB B W xp bs (T1)] (some 8) [bs] wy) (by kernel_rfl) (Xn _ _) (by kernel_rfl) (by kernel_rfl) (by kernel_rfl) (JR.zero (by decide) (by decide)) ?_ ?_
    ·refine⟨.inr ?_,.inr ?_,.inr ?_,.inr ?_,.inr ?_,.inr ?_,.inr ?_,.inr ?_,.inr ?_,.inl rfl,trivial⟩
     ·rintro d v W- -p H K hK
      simp only [z1,z2,z4,z5,z6] at hK ⊢
      go_simp
      exact hK.out _ _ (H.put 0 rfl rfl)
     ·rintro d v W- -p H K hK
      simp only [z1,z2,z4,z5,z6] at hK ⊢
      go_simp
      exact hK.out _ _ (H.put 1 rfl rfl)
     ·rintro d v W- -p H K hK
      have e1:=H.val 1 _ _ _ rfl rfl (Qi p 1)
      have l0:=Nat.lt_of_lt_of_le lb5 H.chg.size
      have q:=(H.chg.cell (p:=⟨b,off,none⟩) lb5 (by simpa using nbb)).trans cO5
      simp only [z1,z2,z4,z5,z6,e1] at hK ⊢
      go_simp
      exact hK.out _ _ (H.put 2 rfl rfl)
     ·rintro d v W- -p H K hK
      have e2:=H.val 2 _ _ _ rfl rfl (Qi p 2)
      simp only [z1,z2,z4,z5,z6,e2] at hK ⊢
      go_simp
      exact hK.out _ _ (H.put 3 rfl rfl)
     ·rintro d v W- -p H K hK
      have e3:=H.val 3 _ _ _ rfl rfl (Qi p 3)
      have l0:=Nat.lt_of_lt_of_le lb5 H.chg.size
      have q:=(H.chg.cell (p:=⟨b,off+9,none⟩) lb5 (by simpa using nbb)).trans cA5
      simp only [z1,z2,z4,z5,z6,e3] at hK ⊢
      go_simp
      exact hK.out _ _ (H.put 4 rfl rfl)
     ·rintro d v W- -p H K hK
      simp only [z1,z2,z4,z5,z6] at hK ⊢
      go_simp
      exact hK.out _ _ (H.put 5 rfl rfl)
     ·rintro d v W- -p H K hK
      have e5:=H.val 5 _ _ _ rfl rfl (Qi p 5)
      have hw:=Zc (z:=place+1) (by omega) (by omega)
      simp only [z1,z2,z4,z5,z6,e5] at hK ⊢
      go_simp
      exact hK.out _ _ (H.put 6 rfl rfl)
     ·rintro d v W- -p H K hK
      have q7:=(E7y.keep H.chg (by first|omega|(simp;done)|(simp;omega))).o3
      have f7:=(E7y.keep H.chg (by first|omega|(simp;done)|(simp;omega))).f
      simp only [z1,z2,z4,z5,z6] at hK ⊢
      go_simp
      exact hK.out _ _ (H.put 7 rfl rfl)
     ·intro d v W hC hd p H K hK
      have e0:=H.val 0 _ _ _ rfl rfl (Qi p 0)
      have e4:=H.val 4 _ _ _ rfl rfl (Qi p 4)
      have e6:=H.val 6 _ _ _ rfl rfl (Qi p 6)
      have e7:=H.val 7 _ _ _ rfl rfl (Qi p 7)
      have g0:=H.quiet _ rfl hd
      simp only [z1,z2,z4,z5,z6,e0,e4,e6,e7] at hK ⊢
      go_simp
      go_at_call 65
      refine(LA.out W _ (s1,s2,s4) (Xy.kz g0) (lAy.keep g0 sbl (by simp)) hsh.out).mono ?_
      rintro e W2 ⟨c1,c2,c3,rfl,ho,hT,hXX,cc⟩
      dsimp only
      have hP:∃c1 c2 c3,_=Value.agg #[.map (some c1),.map (some c2),.map (some c3)] /\Xx W2 c1 c2 c3 XA (s1,s2,s4)/\(∀y∈ [c1,c2,c3],y∉T1/\y≠bs)/\YZ AT SB B W2 xp bs (T1):=⟨c1,c2,c3,rfl,ho,hT,hXX⟩
      exact hK.out _ _ (H.n1 _ hP (.inl rfl) (g0.ty cc))
    ·refine⟨_,rfl,fun v W H K hK=>?_⟩
     have e0:=H.val 0 _ _ _ rfl rfl (by decide)
     have e1:=H.val 1 _ _ _ rfl rfl (by decide)
     have e2:=H.val 2 _ _ _ rfl rfl (by decide)
     have e3:=H.val 3 _ _ _ rfl rfl (by decide)
     have e4:=H.val 4 _ _ _ rfl rfl (by decide)
     have e5:=H.val 5 _ _ _ rfl rfl (by decide)
     have e6:=H.val 6 _ _ _ rfl rfl (by decide)
     have e7:=H.val 7 _ _ _ rfl rfl (by decide)
     have P8:=H.prop 0 _ _ _ rfl rfl (by decide)
     have CHW:=H.chg
     clear H
     simp only [z1,z2,z4,z5,e0,e1,e2,e3,e4,e5,e6,e7]
     obtain⟨c1,c2,c3,ec,ho,hT,hXX⟩:=P8
     rw [ec]
     have hb15:=B15y.keep CHW (by first|omega|(simp;done)|(simp;omega))
     have hkd:=K15y.keep CHW (by first|omega|(simp;done)|(simp;omega))
     have fq:=hb15.f
     have oq:=hb15.o3
     go_simp
     refine hK.out _ _ ?_
     have cp:=Xo W x15 (.map (some c1)) (.map (some c2)) (.map (some c3))
     have l15:=hb15.lt
     have B15:=hb15.put3 rfl (.map (some c1)) (.map (some c2)) (.map (some c3))
     have ho7:=ho.keepB cp hkd
     have X7:=hXX.keepB cp hkd ⟨hx15,x15p⟩
     have K15:=hkd.keepW cp
     obtain⟨wz,hw7⟩:∃w7,(((W.setCell ⟨x15,0,none⟩ (.map (some c1))).setCell ⟨x15,1,none⟩ (.map (some c2))).setCell ⟨x15,2,none⟩ (.map (some c3)))=w7:=⟨_,rfl⟩
     rw [hw7] at cp B15 ho7 X7 K15 ⊢
     have c67:Qb [bs,x15] wy wz:=(CHW.mono (by simp)).trans cp (fun y hy=>.inl (by rw [List.mem_singleton.1 hy];simp))
     have z67:=c67.size
     clear hw7 cp fq oq hb15 ho hXX CHW hkd ec
     have cZ:Qb [bs,x15] w5 wz:=(c57.trans (c67.mono (T:=[bs,x15]) (by simp)) (fun y hy=>by simp only [List.mem_cons,List.not_mem_nil,or_false] at hy;rcases hy with rfl|rfl;exact .inl (by simp);exact .inr (by omega))).mono (by simp)
     obtain⟨r3,hr3⟩:∃r3,wz.heap.size=r3:=⟨_,rfl⟩
     have o15:=B15.o3
     have f15:=B15.f
     have kc1:=ho7.ok
     have nS:∀ {y:Nat},y∈ [b1,b2,b3,x9] ->y∉ [bs,x15]:=fun {y} hy h=>by
      simp only [List.mem_cons,List.not_mem_nil,or_false] at hy h
      have h1:=X5.low.2.1
      rw [hT1.out] at h1
      simp only [List.mem_cons,List.mem_append,List.not_mem_nil,or_false,not_or] at h1
      omega
     have nI:Qc w5 [bs,x15]:=Qc.cons X5.memo.nz (Qc.cons (fun cs fr h=>by have:=(Array.getElem?_eq_some_iff.1 h).1;omega) Qc.nil)
     have hN7:=hN.keep cZ nI (nS (by simp))
     have hG7:=hG.keep cZ nI (nS (by simp))
     have hE7:=hE.keep cZ nI (nS (by simp))
     have E97:=E95.keep cZ (nS (by simp))
     have zZ:=cZ.size
     have hTn:∀y∈ [c1,c2,c3],y≠b1/\y≠b2/\y≠b3:=fun y hy=>by
      have h:=(hT y hy).1
      rw [hT1.out] at h
      simp only [List.mem_cons,List.mem_append,List.not_mem_nil,or_false,not_or] at h
      exact⟨h.1.2.2.1,h.1.2.2.2.1,h.1.2.2.2.2⟩
     have nc1:=hTn c1 (by simp)
     have nc2:=hTn c2 (by simp)
     have nc3:=hTn c3 (by simp)
     have nn3:∀t j,Yj XA (s1,s2,s4) t j-> [(1:Int)].length+j.length<=1000000:=fun t j h=>by have h2:=(gA.out.ok hsh.out h).2;simp only [List.length_cons,List.length_nil];omega
     clear hN hG hE E75 cO5 cA5 cB5 lA5 lB5 lb5
     go_wp2_with (first|(at_range;refine ZA rfl (.tmp 77) _ rfl hu (fun _ _ h=>Xe h) rfl kc1 ?_;intro w8 hR8 hc8 hs8)|fail)
     rw [hr3] at hR8 hs8 ⊢
     simp only [Act.put,List.setIfInBounds_toArray,List.set_cons_zero,List.set_cons_succ]
     have N8:=hN7.keep hc8 Qc.nil (by simp)
     have E98:=E97.keep hc8
     have ne3:b1≠r3/\c1≠r3/\b2≠r3/\b3≠r3/\c2≠r3/\c3≠r3/\x15≠r3/\x9≠r3/\x15≠b1/\x9≠b1:=by have h1:=hN7.lt;have h2:=ho7.lt;have h3:=hG7.lt;have h4:=hE7.lt;have h5:=B15.lt;have h6:=E97.lt;omega
     go_loopw [] (fun wr=>∃D3,Gf wr VU QX c1 r3 (Yj XA (s1,s2,s4)) D3/\Qz wr VU QX b1 (fun k l=>(fun k l=>((0:Int)<1/\Yj (XB.took 0) (s1,s2,s4) k l)∨((1:Int)<1/\Yj (XA.took 1) (s1,s2,s4) k l)) k l∨∃j,D3 k j/\l=[(1:Int)] ++j)/\Qb [b1,r3] w8 wr) (fun wr=>leftN wr c1 r3)
     case atStart=>exact⟨_,hR8,N8.congr (by simp),Qb.refl _ _⟩
     case round=>
      obtain⟨D3,hR,hK,hc⟩:=hrel
      obtain⟨wq,hwq⟩:∃wq:World,wq=wr:=⟨_,rfl⟩
      rw [<-hwq] at hR hK hc ⊢
      clear hwq
      have niq:Qc w8 [b1,r3]:=Qc.cons N8.nz (Qc.cons hR8.nz Qc.nil)
      have BX:=E98.keep hc (by first|omega|(simp;done)|(simp;omega))
      have c8q:Qb [b1,r3] wz wq:=hc8.ty hc
      have ni7:Qc wz [b1,r3]:=fun y hy=>by
       rcases List.mem_cons.1 hy with rfl|hy
       ·exact hN7.nz
       ·rw [List.mem_singleton.1 hy, <-hr3];exact fun cs fr h=>absurd (Array.getElem?_eq_some_iff.1 h).1 (Nat.lt_irrefl _)
      have G9q:=E97.keep c8q (by first|omega|(simp;done)|(simp;omega))
      have q9:=G9q.o3
      have p9:=G9q.f
      have q15:=(B15.keep c8q (by first|omega|(simp;done)|(simp;omega))).o3
      have p15:=(B15.keep c8q (by first|omega|(simp;done)|(simp;omega))).f
      have AE:=Qd (fun(W:World) (cW:Qb [] wq W) (v:Value) (hv:Zj W [(1:Int)] v)=>VY (fun k l=>((0:Int)<1/\Wz (XB.took 0) (s1,s2,s4) k l)∨((1:Int)<1/\Wz (XA.took 1) (s1,s2,s4) k l)) (Wz XA (s1,s2,s4)) (fun k l=>((0:Int)<1/\Vf (XB.took 0) (s1,s2,s4) k l)∨((1:Int)<1/\Vf (XA.took 1) (s1,s2,s4) k l)) (Vf XA (s1,s2,s4)) b2 b3 c2 c3 (some b1) (some c1) v [(1:Int)] W ((hG7.keep c8q ni7 (by first|omega|(simp;done)|(simp;omega))).keep cW Qc.nil (by simp)) ((hE7.keep c8q ni7 (by first|omega|(simp;done)|(simp;omega))).keep cW Qc.nil (by simp)) ((ho7.fl.keep c8q ni7 (by first|omega|(simp;done)|(simp;omega))).keep cW Qc.nil (by simp)) ((ho7.em.keep c8q ni7 (by first|omega|(simp;done)|(simp;omega))).keep cW Qc.nil (by simp)) ⟨nc2.2.1.symm,nc3.2.1.symm,nc2.2.2.symm,nc3.2.2.symm,by omega⟩ hv (fun k j h=>by have h2:=(gA.out.bad hsh.out h).2.1;simp only [List.length_cons,List.length_nil];omega) (fun k j h=>by obtain⟨_,_,h,_⟩:=h;have h2:=(gA.out.bad hsh.out h).2.1;simp only [List.length_cons,List.length_nil];omega) (fun k=>VS dA _ k) (fun k=>JS dA _ k))
      go_upto_region 13 with (first|(at_next;refine Zz rfl (.tmp 78) rfl rfl hR ?_ ?_;rotate_left;rintro⟨g4,g5,g6⟩ j v1 wA hk4 hj hl4 hRA hcA hsA hltA hent;unfold QX at hent ⊢;rotate_right;intro hD)|(go_at_call 98;refine(AE.out _ Qb.now _ (Kg wq 1)).mono ?_;rintro e wB ⟨rfl,kA,kG,cB⟩)|fail)
      ·have cwB:Qb [b2,b3] wq wB:=Qb.ty (Qb.now) cB
       have niB:Qc wq [b2,b3]:=Qc.cons (hG7.keep c8q ni7 (by first|omega|(simp;done)|(simp;omega))).nz (Qc.cons (hE7.keep c8q ni7 (by first|omega|(simp;done)|(simp;omega))).nz Qc.nil)
       have KF:Qz wq VU QX b1 (fun k l=>(fun k l=>((0:Int)<1/\Yj (XB.took 0) (s1,s2,s4) k l)∨((1:Int)<1/\Yj (XA.took 1) (s1,s2,s4) k l)) k l∨∃j,Yj XA (s1,s2,s4) k j/\l=[(1:Int)] ++j):=(hK.congr (fun k l=>by simp only [hD])).front (fun k=>WJ dA _ k)
       have KN:=(KF.congr (fun k l=>Qgc (Qao 1 k l))).keep cwB niB (by first|omega|(simp;done)|(simp;omega))
       have KA:=kA.congr (fun k l=>Qgc (Qak 1 k l))
       have KE:=kG.congr (fun k l=>Qgc (Qbk 1 k l))
       have X8:YZ AT SB B w8 xp bs (r3::T1):=X7.more hc8 (fun y hy=>by
        rcases List.mem_cons.1 hy with rfl|hy
        ·exact .inr ⟨by omega,by omega⟩
        ·exact .inl hy)
       have XB':=((X8.keep hc niq (fun y hy=>.inl (by rw [hT1.out];simp only [List.mem_cons,List.not_mem_nil,or_false] at hy;rcases hy with rfl|rfl<;>simp))).keep cwB niB (fun y hy=>.inl (by rw [hT1.out];simp only [List.mem_cons,List.not_mem_nil,or_false] at hy;rcases hy with rfl|rfl<;>simp))).less (T':=T1) (fun y hy=>List.mem_cons_of_mem _ hy)
       have CN:=(((‹Qb [bs,b1,b2,b3] w2 w5›.trans cZ (fun y hy=>by simp only [List.mem_cons,List.not_mem_nil,or_false] at hy;rcases hy with rfl|rfl;exact .inl (by simp);exact .inr (by omega))).trans c8q (fun y hy=>by simp only [List.mem_cons,List.not_mem_nil,or_false] at hy;rcases hy with rfl|rfl;exact .inl (by simp);exact .inr (by omega))).trans cwB (fun y hy=>.inl (by simp at hy ⊢;omega)))
       go_roundw
       case rel=>exact⟨2,by omega,by omega,by go_num,KN,KA,KE,XB',CN⟩
       case measure=>simp [intOf]
      ·refine Qo fun w9 hw9=>?_
       obtain⟨xk,hxk⟩:∃xk,wA.heap.size=xk:=⟨_,rfl⟩
       have c9:Qb [] wA w9:=by rw [hw9];exact Qb.now
       have E6:QY w9 xk [.string g4,.string g5,.string g6]:=by rw [hw9, <-hxk];exact QY.new wA _ _
       try rw [<-hsA]
       try rw [hxk]
       clear hw9
       have cr9:Qb [r3] wq w9:=hcA.tz c9
       have nq:Qc wq [r3]:=Qc.cons hR.nz Qc.nil
       have K5:=hK.keep cr9 nq (by first|omega|(simp;done)|(simp;omega))
       have sk:g4.size<=maxLen/\g5.size<=maxLen/\g6.size<=maxLen:=by
        obtain⟨z,e,hz⟩:=hk4
        obtain rfl:=Xe (show QX (g4,g5,g6)=QX z from e)
        exact hz
       have hj5:=hj.keep c9 Qc.nil
       have R5:=Qd (hRA.keep c9 Qc.nil (by simp) (by simp))
       have CC:=Qd (hc.trans cr9 (fun x hx=>.inl (by simp at hx ⊢;exact .inr hx)))
       have HL:=Qd (show leftN w9 c1 r3<leftN wq c1 r3 by rw [hRA.left c9 (by simp) (by simp)];exact hltA)
       have lt5:=c9.size
       have ltx:=E6.lt
       have E3:=BX.keep cr9 (by first|omega|(simp;done)|(simp;omega))
       have n5:=nn3 _ _ hl4.1
       clear hcA hRA hltA hent hsA hl4 hR hK hc
       refine Q5 (b:=⟨#[],[]⟩) 7 [84,85,86,87,88,89,90] (JR [(0,84),(1,85),(2,86),(3,87),(5,89)] [.pointer (some ⟨x9,0,none⟩),.map (some b1),.agg #[.string g4,.string g5,.string g6],.int .i64 1,v1] [(4,88),(6,90)] [fun W u=>Zj W [1] u,fun W u=>Zj W ([1] ++j) u] none [] w9) (by kernel_rfl) (Xn _ _) (by kernel_rfl) (by kernel_rfl) (by kernel_rfl) (JR.zero (by decide) (by decide)) ?_ ?_
       ·refine⟨.inr ?_,.inr ?_,.inr ?_,.inr ?_,.inr ?_,.inr ?_,.inr ?_,.inl rfl,trivial⟩
        ·rintro d v W- -p H K hK
         simp only [z1,z2,z4,z5,z6] at hK ⊢
         go_simp
         exact hK.out _ _ (H.put 0 rfl rfl)
        ·rintro d v W- -p H K hK
         have e0:=H.val 0 _ _ _ rfl rfl (Qi p 0)
         have q3:=(E3.keep H.chg).o3
         have fq:=(E3.keep H.chg).f
         simp only [z1,z2,z4,z5,z6,e0] at hK ⊢
         go_simp
         exact hK.out _ _ (H.put 1 rfl rfl)
        ·rintro d v W- -p H K hK
         have q6:=(E6.keep H.chg).o3
         have fq:=(E6.keep H.chg).f
         simp only [z1,z2,z4,z5,z6] at hK ⊢
         go_simp
         exact hK.out _ _ (H.put 2 rfl rfl)
        ·rintro d v W- -p H K hK
         simp only [z1,z2,z4,z5,z6] at hK ⊢
         go_simp
         exact hK.out _ _ (H.put 3 rfl rfl)
        ·intro d v W hC hd p H K hK
         have e3:=H.val 3 _ _ _ rfl rfl (Qi p 3)
         have g:=H.chg
         simp only [z1,z2,z4,z5,z6,e3] at hK ⊢
         go_simp
         have hP:=Kg W 1
         exact hK.out _ _ (H.n2 _ hP (fun _ HK=>HK.keep ((Qb.refl [] W).alloc _) Qc.nil) (.inr ((Qb.refl _ _).alloc _)) (H.chg.alloc _))
        ·rintro d v W- -p H K hK
         simp only [z1,z2,z4,z5,z6] at hK ⊢
         go_simp
         exact hK.out _ _ (H.put 4 rfl rfl)
        ·intro d v W hC hd p H K hK
         have P4:=H.prop 0 _ _ _ rfl rfl (Qi p 4)
         have e5:=H.val 4 _ _ _ rfl rfl (Qi p 5)
         have g:=H.chg
         simp only [z1,z2,z4,z5,z6,e5] at hK ⊢
         go_simp
         go_at_call 97
         refine(WN [1] j _ v1 W P4 (hj5.keep g Qc.nil) n5).mono ?_
         rintro e W2 ⟨u,rfl,hP,c2⟩
         dsimp only
         exact hK.out _ _ ((H.swap.n2 _ hP (fun _ HK=>HK.keep c2 Qc.nil) (.inr c2) (H.chg.tz c2)).swap)
       ·refine⟨_,rfl,fun v W H K hK=>?_⟩
        have e0:=H.val 0 _ _ _ rfl rfl (by decide)
        have e1:=H.val 1 _ _ _ rfl rfl (by decide)
        have e2:=H.val 2 _ _ _ rfl rfl (by decide)
        have e3:=H.val 3 _ _ _ rfl rfl (by decide)
        have e5:=H.val 4 _ _ _ rfl rfl (by decide)
        have P4:=H.prop 0 _ _ _ rfl rfl (by decide)
        have P6:=H.prop 1 _ _ _ rfl rfl (by decide)
        have CHW:=H.chg
        clear H
        simp only [z1,z2,z4,z5,e0,e1,e2,e3,e5]
        go_simp
        go_at_call 96
        refine(Wj _ b1 (g4,g5,g6) _ _ W sk.1 sk.2.1 sk.2.2 (K5.keep CHW Qc.nil (by first|omega|(simp;done)|(simp;omega))) (P6)).mono ?_
        rintro e W2 ⟨rfl,k2,d2⟩
        refine hK.out _ _ ?_
        have nb9:Qc W [b1]:=Qc.cons (K5.keep CHW Qc.nil (by first|omega|(simp;done)|(simp;omega))).nz Qc.nil
        have R6:=(R5.out.keep CHW Qc.nil (by first|omega|(simp;done)|(simp;omega)) (by first|omega|(simp;done)|(simp;omega))).keep d2 nb9 (by first|omega|(simp;done)|(simp;omega)) (by first|omega|(simp;done)|(simp;omega))
        have l6:=((R5.out.keep CHW Qc.nil (by first|omega|(simp;done)|(simp;omega)) (by first|omega|(simp;done)|(simp;omega))).left d2 (by first|omega|(simp;done)|(simp;omega)) (by first|omega|(simp;done)|(simp;omega))).trans (R5.out.left CHW (by first|omega|(simp;done)|(simp;omega)) (by first|omega|(simp;done)|(simp;omega)))
        go_roundw
        case rel=>(repeat apply Exists.intro);exact⟨⟨_,R6,k2.congr Yz,(CC.out.tz CHW).trans d2 (fun x hx=>.inl (by simp at hx ⊢;exact .inl hx))⟩,rfl⟩
        case measure=>have:=HL.out;omega
  ·have hN:=hN.congr (fun k l=>QfN)
   have hG:=hG.congr (fun k l=>QfN)
   have hE:=hE.congr (fun k l=>QfN)
   have D9:=E9.keep hc (by first|omega|(simp;done)|(simp;omega))
   have D8:=E8.keep hc (by first|omega|(simp;done)|(simp;omega))
   have M8:=K8.keep hc (by first|omega|(simp;done)|(simp;omega))
   have XW:=hXr
   have ex:a.ex Qy place=Rn.alt (XA.took 1) (XB.took 0):=by rw [Qa.ex_eq,if_pos h8,hXA.out,hXB.out]
   have hoW:Xx wo b1 b2 b3 (a.ex Qy place) (s1,s2,s4):=by
    rw [ex]
    exact⟨hN,hG,hE.congr (fun k l=>⟨fun h=>h.elim (fun⟨t,e,h1,h2⟩=>⟨t,e,.inl h1,h2⟩) (fun⟨t,e,h1,h2⟩=>⟨t,e,.inr h1,h2⟩),fun⟨t,e,h1,h2⟩=>h1.elim (fun h=>.inl ⟨t,e,h,h2⟩) (fun h=>.inr ⟨t,e,h,h2⟩)⟩)⟩
   have czW:Qb [bs] w wo:=(c2.ty hc).mono (fun y hy=>by
    simp only [List.mem_cons,List.not_mem_nil,or_false] at hy
    rcases hy with rfl|rfl|rfl|rfl
    ·exact .inl (by simp)
    ·exact .inr (by omega)
    ·exact .inr (by omega)
    ·exact .inr (by omega))
   have o9:=D9.o3
   have p9:=D9.f
   have q8:=D8.o3
   have r8:=D8.f
   have cp2:=Xo wo (x7+1) (.map (some b1)) (.map (some b2)) (.map (some b3))
   have n2x:Qc wo [x7+1]:=Qc.cons M8.nz Qc.nil
   have B8:=D8.put3 rfl (.map (some b1)) (.map (some b2)) (.map (some b3))
   have X9:=XW.keep cp2 n2x (fun y hy=>.inl (by rw [List.mem_singleton.1 hy,hT1.out];simp))
   have ho9:=hoW.keep cp2 n2x (by first|omega|(simp;done)|(simp;omega)) (by first|omega|(simp;done)|(simp;omega)) (by first|omega|(simp;done)|(simp;omega))
   have cz:=(czW.trans cp2 (fun y hy=>.inr (by rw [List.mem_singleton.1 hy];omega)))
   go_wp2_with fail
   have z8:=B8.o3
   have y8:=B8.f
   refine bodyPost_ret (v:=.agg #[.map (some b1),.map (some b2),.map (some b3)]) (by simp only [results,Tryz.results160];go_simp) rfl ?_
   refine⟨b1,b2,b3,rfl,ho9,fun y hy=>?_,X9.less (fun y hy=>by rw [hT1.out];simp [hy]),cz⟩
   simp only [List.mem_cons,List.not_mem_nil,or_false] at hy
   rcases hy with rfl|rfl|rfl<;>exact⟨fun h=>by have:=hTl _ h;omega,by omega⟩
end Go.Proofs.YtlnkgcdeljhjcaaGreatDoor
