/- find of the explorer. Conditions: as stated. -/
import Derived.Test.YtjeadhmkghnkkaaGreatDoorListX
import Derived.Deep.CutRange
set_option maxRecDepth 100000
set_option maxHeartbeats 8000000
namespace Go.Proofs.YtjeadhmkghnkkaaGreatDoor
open Go.RowKit

theorem Qfh {P0 P1 R:Prop} {n:Int} (hn:n=0∨n=1) (h:R↔if n=0 then P0 else P1):(((0<n/\P0)∨(1<n/\P1))∨R)↔((0<n+1/\P0)∨(1<n+1/\P1)):=by
 rw [h]
 rcases hn with rfl|rfl<;>simp
theorem QeZ (AT:Int->Option Qa) (SB:Nat->Prop) (B xp bs:Nat) (a:Qa) (h8:a.op=8) (hA:ut AT SB B xp bs a.A) (hB:ut AT SB B xp bs a.B):QcV AT SB B xp bs a:=by
 rintro place b off ⟨s1,s2,s4⟩ T w hX hAct hfit hok hp0 hp1 hcost hW hs
 unfold QW
 have e8:(a.op==8)=true:=by simpa using h8
 obtain⟨uA,uB,hSB,lb,cs,lA,lB⟩:=id hAct
 have op0:=cs.1
 have cs:=Qb cs
 go_enter Tryz.func136,Tryz.ntmps136
 have hm:=UU Tryz.prog
 have hu:Tryz.prog.underlying 70=some (.map 82 25):=by kernel_rfl
 have hu2:Tryz.prog.underlying 71=some (.map 84 25):=by kernel_rfl
 have hu3:Tryz.prog.underlying 72=some (.map 3 25):=by kernel_rfl
 obtain⟨x7,hx7⟩:∃x7,w.heap.size=x7:=⟨_,rfl⟩
 have NO:=Qb (fun W=>Wq W)
 go_upto_region 2 with (first|(go_at_call 97;refine(NO.out _).mono ?_;rintro e w1 ⟨b1,b2,b3,rfl,⟨m1,m2,m3,m4⟩,c1,k1,k2,k3⟩)|fail)
 refine Qp fun w2 hw2=>?_
 have cA:Qc [] w w1:=(show Qc [] w _ from C6).tz c1
 have c2:Qc [] w w2:=by rw [hw2];exact cA.alloc _
 obtain⟨x9,hx9⟩:∃x9,w1.heap.size=x9:=⟨_,rfl⟩
 have e12:Qc [] w1 w2:=by rw [hw2];exact C6
 have s12:w2.heap.size=x9+1:=by rw [hw2, <-hx9];simp
 have b9:b1<x9/\b2<x9/\b3<x9:=by omega
 have hpl:place<=999:=by have:=a.size_eq;omega
 have m0:x7+2<=b1:=by have:=m1;first|omega|(simp [hx7] at this;omega)
 have E7:ZU w2 x7 [.string s1,.string s2,.string s4]:=by rw [hw2, <-hx7];exact(((L9 w _ _).alloc _).keep c1).alloc _
 have E8:ZU w2 (x7+1) [.map none,.map none,.map none]:=by rw [hw2, <-hx7];exact((ZU.newAt (w.alloc _) _ _).keep c1).alloc _
 have K8:Kd w2 (x7+1) 74:=by rw [hw2, <-hx7];exact((Y3 (w.alloc _) _ _).keep c1).alloc _
 have E9:ZU w2 x9 [.map (some b1),.map (some b2),.map (some b3)]:=by rw [hw2, <-hx9];exact L9 w1 _ _
 have K9:Kd w2 x9 74:=by rw [hw2, <-hx9];exact Y3 w1 _ _
 have k1:=fun X hX=>(k1 X hX).keep e12 C0 (by simp)
 have k2:=fun X hX=>(k2 X hX).keep e12 C0 (by simp)
 have k3:=fun X hX=>(k3 X hX).keep e12 C0 (by simp)
 clear hw2 NO
 rw [hx9]
 have l7:=E7.lt
 have l8:=E8.lt
 have l9:=E9.lt
 obtain⟨T1,hT1⟩:∃T1,Hid (T1=[x7+1,x9,b1,b2,b3] ++T):=⟨_,Qb rfl⟩
 have wl:=hX.memo.lt
 have X2:Wz AT SB B w2 xp bs T1:=hX.more c2 (fun y hy=>by
  rw [hT1.out] at hy
  simp only [C7,F4,F1,or_false] at hy
  rcases hy with (rfl|rfl|rfl|rfl|rfl)|hy
  all_goals first|exact .inl hy|exact .inr (by omega))
 have act2:=hAct.keep c2 hX.sb (by simp)
 have lA2:=lA.keep c2 hX.sb (by simp)
 have lB2:=lB.keep c2 hX.sb (by simp)
 have cs2:=Qb (fun(o:Nat) (u:Value) (h:w.cell? ⟨b,o,none⟩=some u)=>(c2.cell (p:=⟨b,o,none⟩) lb (by simp)).trans h)
 have op2:=cs2.out _ _ op0
 have lb2:=F6 lb c2.size
 have hTl:=fun y hy=>(hX.low.2.2 y hy).2
 have sbl:=hX.sb
 have hsh:=Qb hs
 clear hs cA e12 c1 m1 m4 op0 hAct lA lB hX
 obtain⟨hact,okA,okB⟩:=a.ok_iff.1 hok
 have hsz:=a.size_eq
 have hct:=a.cost_eq
 have hWe:=Wf a
 obtain⟨_,fA,fB⟩:=(Qa.fit_eq _ _ _).1 hfit
 have hwA:Qi a.A<=1048576:=by omega
 have hwB:Qi a.B<=1048576:=by omega
 obtain⟨XA,hXA⟩:∃XA,Hid (XA=Vn Qs a.A (place+1)):=⟨_,Qb rfl⟩
 obtain⟨XB,hXB⟩:∃XB,Hid (XB=Vn Qs a.B (place+1+Qd a.A)):=⟨_,Qb rfl⟩
 have gA:Hid (Yu XA (QT a.A) (VS (YH a.A) (place+1) (place+1+Qd a.A))):=Qb (by rw [hXA.out];exact Yy _ okA _)
 have gB:Hid (Yu XB (QT a.B) (VS (YH a.B) (place+1+Qd a.A) (place+1+Qd a.A+Qd a.B))):=Qb (by rw [hXB.out];exact Yy _ okB _)
 have dA:XM XA:=by rw [hXA.out];exact WF _ _
 have dB:XM XB:=by rw [hXB.out];exact WF _ _
 have LA:=Qb (fun(W:World) (T':List Nat) (s:B3) (X:Wz AT SB B W xp bs T') (l:WY SB W a.A uA) (hs:(Vz s).All W8)=>hA (place+1) uA s T' W X l fA okA (by omega) (by omega) (by omega) hwA hs)
 have LB:=Qb (fun(W:World) (T':List Nat) (s:B3) (X:Wz AT SB B W xp bs T') (l:WY SB W a.B uB) (hs:(Vz s).All W8)=>hB (place+1+Qd a.A) uB s T' W X l fB okB (by omega) (by omega) (by omega) hwB hs)
 rw [<-hXA.out] at LA
 rw [<-hXB.out] at LB
 unfold QW at LA LB
 have cA2:=cs2.out _ _ cs.out.2.2.2.2.2.2.2.2.2.1
 have cB2:=cs2.out _ _ cs.out.2.2.2.2.2.2.2.2.2.2
 have nbB:=sbl b hSB
 have hbB:=X2.low.1
 have nbb:b≠bs:=by omega
 have hT1B:∀y∈ [bs,b1,b2,b3],B<=y:=fun y hy=>by
  have h1:=X2.low.2.2
  simp only [C7,F1,or_false] at hy
  rcases hy with rfl|rfl|rfl|rfl
  ·exact hbB
  ·exact(h1 _ (by rw [hT1.out];simp)).1
  ·exact(h1 _ (by rw [hT1.out];simp)).1
  ·exact(h1 _ (by rw [hT1.out];simp)).1
 have hct4:3 * QT a.A+QT a.B<=400000:=by omega
 have hsz1:place+1+Qd a.A+Qd a.B<=1000:=by omega
 have sAn:Qd a.A<=1000/\Qd a.B<=1000:=by omega
 clear cs cs2 hfit hcost hW hact okA okB fA fB hwA hwB hWe hct hsz hp1 act2
 go_wp2_with fail
 go_loopw [47] (fun i wr=>∃n:Int,0<=n/\n<=2/\i= .int .i64 n/\Qx wr Uu QW b1 (fun k l=>(0<n/\Yr (XB.took 0) (s1,s2,s4) k l)∨(1<n/\Yr (XA.took 1) (s1,s2,s4) k l))/\Qx wr zS YN b2 (fun k l=>(0<n/\W6 (XB.took 0) (s1,s2,s4) k l)∨(1<n/\W6 (XA.took 1) (s1,s2,s4) k l))/\Qx wr zX Wi b3 (fun k l=>(0<n/\VB (XB.took 0) (s1,s2,s4) k l)∨(1<n/\VB (XA.took 1) (s1,s2,s4) k l))/\Wz AT SB B wr xp bs T1/\Qc [bs,b1,b2,b3] w2 wr) (fun i _=>2-(intOf i).toNat)
 case atStart=>exact⟨0,by omega,by omega,rfl,k1 _ (fun k i h=>by simp at h),k2 _ (fun k i h=>by simp at h),k3 _ (fun k i h=>by simp at h),X2,B0 _ _⟩
 case round=>
  obtain⟨n,hn0,hn2,rfl,hN,hG,hE,hXr,hc⟩:=hrel
  obtain⟨wo,hwo⟩:∃wo:World,wo=wr:=⟨_,rfl⟩
  rw [<-hwo] at hN hG hE hXr hc ⊢
  clear hwo
  by_cases hlt:n<2
  ·have hn1:n=0∨n=1:=by omega
   have hS5:=hT1B
   have lb5:=F6 lb2 hc.size
   have nb5:∀S':List Nat,(∀y∈S',B<=y)->b∉S':=fun S' h hb=>by have:=h b hb;omega
   have cO5:=(hc.cell (p:=⟨b,off,none⟩) lb2 (nb5 _ hS5)).trans op2
   have cA5:=(hc.cell (p:=⟨b,off+9,none⟩) lb2 (nb5 _ hS5)).trans cA2
   have cB5:=(hc.cell (p:=⟨b,off+10,none⟩) lb2 (nb5 _ hS5)).trans cB2
   have lA5:=lA2.keep hc sbl hS5
   have lB5:=lB2.keep hc sbl hS5
   have E75:=E7.kp hc
   have E95:=E9.kp hc
   have X5:=hXr
   have zz5:=hc.size
   go_upto_region 7 with fail
   refine Qp fun w5 hw5=>?_
   rw [<-hw5] at hN hG hE hc X5 cO5 cA5 cB5 lA5 lB5 E75 E95 zz5 lb5
   clear hw5 hXr
   refine Ze (b:=⟨#[],[]⟩) 16 [50,51,52,53,54,55,56,57,58,59,60,61,62,63,64,11] (JR [(0,50),(1,51),(2,52),(3,53),(4,54),(5,55),(6,56),(7,57),(8,58),(9,59),(10,60),(11,61),(12,62),(13,63)] [.pointer (some ⟨xp,0,none⟩),.pointer (some ⟨b,off,none⟩),.pointer (some ⟨b,off,none⟩),.pointer (some ⟨b,off+10,none⟩),uB,.int .i64 place,.int .i64 (place+1),.pointer (some ⟨b,off,none⟩),.pointer (some ⟨b,off,none⟩),.pointer (some ⟨b,off+9,none⟩),uA,.int .i64 (Qd a.A:Int),.int .i64 (place+1+(Qd a.A:Int)),.agg #[.string s1,.string s2,.string s4]] [(14,64),(15,11)] [fun W u=>∃c1 c2 c3,u= .agg #[.map (some c1),.map (some c2),.map (some c3)] /\XH W c1 c2 c3 XB (s1,s2,s4)/\(∀y∈ [c1,c2,c3],y∉T1/\y≠bs)/\Wz AT SB B W xp bs (T1),fun W u=>∃x u0 u1 u2,u= .pointer (some ⟨x,0,none⟩)/\w5.heap.size<=x/\ZU W x [u0,u1,u2] /\Kd W x 74] (some 14) [bs] w5) (by kernel_rfl) (XN _ _) (by kernel_rfl) (by kernel_rfl) (by kernel_rfl) (JR.zero (by decide) (by decide)) ?_ ?_
   ·refine⟨.inr ?_,.inr ?_,.inr ?_,.inr ?_,.inr ?_,.inr ?_,.inr ?_,.inr ?_,.inr ?_,.inr ?_,.inr ?_,.inr ?_,.inr ?_,.inr ?_,.inr ?_,.inr ?_,.inl rfl,trivial⟩
    ·rintro d v W- -p H K hK
     simp only [z1,z2,z4,z5,z6] at hK ⊢
     go_simp
     exact hK.out _ _ (H.put 0 rfl rfl)
    ·rintro d v W- -p H K hK
     simp only [z1,z2,z4,z5,z6] at hK ⊢
     go_simp
     exact hK.out _ _ (H.put 1 rfl rfl)
    ·rintro d v W- -p H K hK
     have e1:=H.val 1 _ _ _ rfl rfl (Qh p 1)
     have l0:=F6 lb5 H.chg.size
     have q:=(H.chg.cell (p:=⟨b,off,none⟩) lb5 (by simpa using nbb)).trans cO5
     simp only [z1,z2,z4,z5,z6,e1] at hK ⊢
     go_simp
     exact hK.out _ _ (H.put 2 rfl rfl)
    ·rintro d v W- -p H K hK
     have e2:=H.val 2 _ _ _ rfl rfl (Qh p 2)
     simp only [z1,z2,z4,z5,z6,e2] at hK ⊢
     go_simp
     exact hK.out _ _ (H.put 3 rfl rfl)
    ·rintro d v W- -p H K hK
     have e3:=H.val 3 _ _ _ rfl rfl (Qh p 3)
     have l0:=F6 lb5 H.chg.size
     have q:=(H.chg.cell (p:=⟨b,off+10,none⟩) lb5 (by simpa using nbb)).trans cB5
     simp only [z1,z2,z4,z5,z6,e3] at hK ⊢
     go_simp
     exact hK.out _ _ (H.put 4 rfl rfl)
    ·rintro d v W- -p H K hK
     simp only [z1,z2,z4,z5,z6] at hK ⊢
     go_simp
     exact hK.out _ _ (H.put 5 rfl rfl)
    ·rintro d v W- -p H K hK
     have e5:=H.val 5 _ _ _ rfl rfl (Qh p 5)
     have hw:=Zd (z:=place+1) (by omega) (by omega)
     simp only [z1,z2,z4,z5,z6,e5] at hK ⊢
     go_simp
     exact hK.out _ _ (H.put 6 rfl rfl)
    ·rintro d v W- -p H K hK
     simp only [z1,z2,z4,z5,z6] at hK ⊢
     go_simp
     exact hK.out _ _ (H.put 7 rfl rfl)
    ·rintro d v W- -p H K hK
     have e7:=H.val 7 _ _ _ rfl rfl (Qh p 7)
     have l0:=F6 lb5 H.chg.size
     have q:=(H.chg.cell (p:=⟨b,off,none⟩) lb5 (by simpa using nbb)).trans cO5
     simp only [z1,z2,z4,z5,z6,e7] at hK ⊢
     go_simp
     exact hK.out _ _ (H.put 8 rfl rfl)
    ·rintro d v W- -p H K hK
     have e8:=H.val 8 _ _ _ rfl rfl (Qh p 8)
     simp only [z1,z2,z4,z5,z6,e8] at hK ⊢
     go_simp
     exact hK.out _ _ (H.put 9 rfl rfl)
    ·rintro d v W- -p H K hK
     have e9:=H.val 9 _ _ _ rfl rfl (Qh p 9)
     have l0:=F6 lb5 H.chg.size
     have q:=(H.chg.cell (p:=⟨b,off+9,none⟩) lb5 (by simpa using nbb)).trans cA5
     simp only [z1,z2,z4,z5,z6,e9] at hK ⊢
     go_simp
     exact hK.out _ _ (H.put 10 rfl rfl)
    ·intro d v W hC hd p H K hK
     have e10:=H.val 10 _ _ _ rfl rfl (Qh p 10)
     have g:=H.chg
     simp only [z1,z2,z4,z5,z6,e10] at hK ⊢
     go_simp
     go_at_call 13
     refine(Zc a.A uA W.heap.size W (by omega) (lA5.keep g sbl (fun y hy=>by rw [E0.1 hy];exact hbB)).rd (F0 _)).mono ?_
     rintro e W2 ⟨rfl,c2⟩
     dsimp only
     exact hK.out _ _ (H.t2 11 rfl rfl c2 (fun h _=>absurd (Qh (hC 14 _ rfl h) 11) (by simp [hd])) (fun _ HK=>(by obtain⟨x,u0,u1,u2,e,hx,hb,hkd⟩:=HK;exact⟨x,u0,u1,u2,e,hx,hb.keep c2,hkd.keep c2⟩)))
    ·rintro d v W- -p H K hK
     have e6:=H.val 6 _ _ _ rfl rfl (Qh p 6)
     have e11:=H.val 11 _ _ _ rfl rfl (Qh p 11)
     have hw:=Zd (z:=place+1+(Qd a.A:Int)) (by omega) (by omega)
     simp only [z1,z2,z4,z5,z6,e6,e11] at hK ⊢
     go_simp
     exact hK.out _ _ (H.put 12 rfl rfl)
    ·rintro d v W- -p H K hK
     have q7:=(E75.kp H.chg).o3
     have f7:=(E75.kp H.chg).f
     simp only [z1,z2,z4,z5,z6] at hK ⊢
     go_simp
     exact hK.out _ _ (H.put 13 rfl rfl)
    ·intro d v W hC hd p H K hK
     have e0:=H.val 0 _ _ _ rfl rfl (Qh p 0)
     have e4:=H.val 4 _ _ _ rfl rfl (Qh p 4)
     have e12:=H.val 12 _ _ _ rfl rfl (Qh p 12)
     have e13:=H.val 13 _ _ _ rfl rfl (Qh p 13)
     have g0:=H.quiet _ rfl hd
     simp only [z1,z2,z4,z5,z6,e0,e4,e12,e13] at hK ⊢
     go_simp
     go_at_call 69
     refine(LB.out W _ (s1,s2,s4) (X5.kz g0) (lB5.keep g0 sbl (by simp)) hsh.out).mono ?_
     rintro e W2 ⟨c1,c2,c3,rfl,ho,hT,hXX,cc⟩
     dsimp only
     have hP:∃c1 c2 c3,_=Value.agg #[.map (some c1),.map (some c2),.map (some c3)] /\XH W2 c1 c2 c3 XB (s1,s2,s4)/\(∀y∈ [c1,c2,c3],y∉T1/\y≠bs)/\Wz AT SB B W2 xp bs (T1):=⟨c1,c2,c3,rfl,ho,hT,hXX⟩
     exact hK.out _ _ (H.n2 _ hP (fun _ HK=>(by obtain⟨x,u0,u1,u2,e,hx,hb,hkd⟩:=HK;exact⟨x,u0,u1,u2,e,hx,hb.kp cc,hkd.kp cc⟩)) (.inl rfl) (g0.ty cc))
    ·intro d v W hC hd p H K hK
     have g:=H.chg
     simp only [z1,z2,z4,z5,z6] at hK ⊢
     go_simp
     have hP:∃x u0 u1 u2,(Value.pointer (some ⟨W.heap.size,0,none⟩))= .pointer (some ⟨x,0,none⟩)/\w5.heap.size<=x/\ZU (W.alloc (.cells #[.map none,.map none,.map none] 74)) x [u0,u1,u2] /\Kd (W.alloc (.cells #[.map none,.map none,.map none] 74)) x 74:=⟨_,_,_,_,rfl,g.size,L9 W _ _,Y3 W _ _ rfl⟩
     exact hK.out _ _ ((H.swap.n2 _ hP (fun _ HK=>(by obtain⟨c1,c2,c3,e,ho,hT,hXX⟩:=HK;have cn:=(B0 [] W).alloc (.cells #[.map none,.map none,.map none] 74);exact⟨c1,c2,c3,e,ho.keep cn C0 (by simp) (by simp) (by simp),hT,hXX.kz cn⟩)) (.inr ((B0 _ _).alloc _)) (H.chg.alloc _)).swap)
   ·refine⟨_,rfl,fun v W H K hK=>?_⟩
    have e0:=H.val 0 _ _ _ rfl rfl (by decide)
    have e1:=H.val 1 _ _ _ rfl rfl (by decide)
    have e2:=H.val 2 _ _ _ rfl rfl (by decide)
    have e3:=H.val 3 _ _ _ rfl rfl (by decide)
    have e4:=H.val 4 _ _ _ rfl rfl (by decide)
    have e5:=H.val 5 _ _ _ rfl rfl (by decide)
    have e6:=H.val 6 _ _ _ rfl rfl (by decide)
    have e7:=H.val 7 _ _ _ rfl rfl (by decide)
    have e8:=H.val 8 _ _ _ rfl rfl (by decide)
    have e9:=H.val 9 _ _ _ rfl rfl (by decide)
    have e10:=H.val 10 _ _ _ rfl rfl (by decide)
    have e11:=H.val 11 _ _ _ rfl rfl (by decide)
    have e12:=H.val 12 _ _ _ rfl rfl (by decide)
    have e13:=H.val 13 _ _ _ rfl rfl (by decide)
    have P14:=H.prop 0 _ _ _ rfl rfl (by decide)
    have P15:=H.prop 1 _ _ _ rfl rfl (by decide)
    have CHW:=H.chg
    clear H
    simp only [z1,z2,z4,z5,e0,e1,e2,e3,e4,e5,e6,e7,e8,e9,e10,e11,e12,e13]
    obtain⟨c1,c2,c3,ec,ho,hT,hXX⟩:=P14
    obtain⟨x15,u0,u1,u2,ex,hx,hb15,hkd⟩:=P15
    rw [ec,ex]
    have hx15:B<=x15:=G5 X5.le hx
    have fq:=hb15.f
    have oq:=hb15.o3
    go_simp
    refine hK.out _ _ ?_
    have cp:=Xz W x15 (.map (some c1)) (.map (some c2)) (.map (some c3))
    have l15:=hb15.lt
    have B15:=hb15.put3 rfl (.map (some c1)) (.map (some c2)) (.map (some c3))
    have x15p:x15≠xp:=by have h1:=Qk X5.ptr;simp only at h1;omega
    have ho7:=ho.keepB cp hkd
    have X7:=hXX.keepB cp hkd ⟨hx15,x15p⟩
    have K15:=hkd.keepW cp
    obtain⟨wy,hw7⟩:∃w7,(((W.setCell ⟨x15,0,none⟩ (.map (some c1))).setCell ⟨x15,1,none⟩ (.map (some c2))).setCell ⟨x15,2,none⟩ (.map (some c3)))=w7:=⟨_,rfl⟩
    rw [hw7] at cp B15 ho7 X7 K15 ⊢
    have c67:Qc [bs] w5 wy:=CHW.trans cp (fun y hy=>.inr (by rw [E0.1 hy];exact hx))
    have z67:=c67.size
    clear hw7 cp fq oq hb15 ho hXX CHW hkd ec
    have c57:=c67
    clear c67
    obtain⟨XNn,hXNn⟩:∃XNn:yW,XNn=if n=0 then XB else XA:=⟨_,rfl⟩
    have dN:XM XNn:=by rw [hXNn];split;exact dB;exact dA
    have gN:Hid (∀t j,Yr XNn (s1,s2,s4) t j->j.length<=400000):=Qb (fun t j h=>by rw [hXNn] at h;split at h;exact G5 (gB.out.ok hsh.out h).2 (by omega);exact G5 (gA.out.ok hsh.out h).2 (by omega))
    have gN2:Hid (∀i t e,XNn.bad (Vz (s1,s2,s4)) i t e->i.length<=400000):=Qb (fun i t e h=>by rw [hXNn] at h;split at h;exact G5 (gB.out.bad hsh.out h).2.1 (by omega);exact G5 (gA.out.bad hsh.out h).2.1 (by omega))
    have tkO:∀k l,Yr (XNn.took n) (s1,s2,s4) k l↔if n=0 then Yr (XB.took 0) (s1,s2,s4) k l else Yr (XA.took 1) (s1,s2,s4) k l:=fun k l=>by rw [hXNn];rcases hn1 with rfl|rfl<;>simp
    have tkA:∀k l,W6 (XNn.took n) (s1,s2,s4) k l↔if n=0 then W6 (XB.took 0) (s1,s2,s4) k l else W6 (XA.took 1) (s1,s2,s4) k l:=fun k l=>by rw [hXNn];rcases hn1 with rfl|rfl<;>simp
    have tkE:∀k l,VB (XNn.took n) (s1,s2,s4) k l↔if n=0 then VB (XB.took 0) (s1,s2,s4) k l else VB (XA.took 1) (s1,s2,s4) k l:=fun k l=>by rw [hXNn];rcases hn1 with rfl|rfl<;>simp
    have tkO:=Qb tkO
    have tkA:=Qb tkA
    have tkE:=Qb tkE
    have HXNn:=Qb hXNn
    clear hXNn
    go_upto_if 66 with fail
    go_cut [47] from 47 to 97 (fun v47 wxx=>v47= .int .i64 n/\Hid (∃c1 c2 c3,ZU wxx x15 [.map (some c1),.map (some c2),.map (some c3)] /\Kd wxx x15 74/\XH wxx c1 c2 c3 XNn (s1,s2,s4)/\(∀y∈ [c1,c2,c3],y∉T1/\y≠bs)/\Wz AT SB B wxx xp bs T1/\Qc [bs,x15] w5 wxx))
    case first=>
     rcases hn1 with rfl|rfl
     ·go_wp2_with fail
      have eXB:XNn=XB:=HXNn.out
      go_meet
      case rel=>exact⟨rfl,Qb ⟨c1,c2,c3,B15,K15,by rw [eXB];exact ho7,hT,X7,c57.mono (by simp)⟩⟩
     ·have eXA:XNn=XA:=HXNn.out
      have n5b:∀y∈ [bs],B<=y:=fun y hy=>by rw [E0.1 hy];exact hbB
      have E7y:=E75.kp c57
      have lby:=F6 lb5 c57.size
      have cOy:=(c57.cell (p:=⟨b,off,none⟩) lb5 (by simpa using nbb)).trans cO5
      have cAy:=(c57.cell (p:=⟨b,off+9,none⟩) lb5 (by simpa using nbb)).trans cA5
      have lAy:=lA5.keep c57 sbl n5b
      have B15y:=B15
      have K15y:=K15
      clear B15 K15 hT
      have Xy:=X7
      have l15y:=l15
      clear lb5 cO5 cA5 cB5
      have lb5:=lby
      have cO5:=cOy
      have cA5:=cAy
      have cB5:=cAy
      go_upto_region 9 with fail
      refine Ze (b:=⟨#[],[]⟩) 9 [67,68,69,70,71,72,73,74,75] (JR [(0,67),(1,68),(2,69),(3,70),(4,71),(5,72),(6,73),(7,74)] [.pointer (some ⟨xp,0,none⟩),.pointer (some ⟨b,off,none⟩),.pointer (some ⟨b,off,none⟩),.pointer (some ⟨b,off+9,none⟩),uA,.int .i64 place,.int .i64 (place+1),.agg #[.string s1,.string s2,.string s4]] [(8,75)] [fun W u=>∃c1 c2 c3,u= .agg #[.map (some c1),.map (some c2),.map (some c3)] /\XH W c1 c2 c3 XA (s1,s2,s4)/\(∀y∈ [c1,c2,c3],y∉T1/\y≠bs)/\Wz AT SB B W xp bs (T1)] (some 8) [bs] wy) (by kernel_rfl) (XN _ _) (by kernel_rfl) (by kernel_rfl) (by kernel_rfl) (JR.zero (by decide) (by decide)) ?_ ?_
      ·refine⟨.inr ?_,.inr ?_,.inr ?_,.inr ?_,.inr ?_,.inr ?_,.inr ?_,.inr ?_,.inr ?_,.inl rfl,trivial⟩
       ·rintro d v W- -p H K hK
        simp only [z1,z2,z4,z5,z6] at hK ⊢
        go_simp
        exact hK.out _ _ (H.put 0 rfl rfl)
       ·rintro d v W- -p H K hK
        simp only [z1,z2,z4,z5,z6] at hK ⊢
        go_simp
        exact hK.out _ _ (H.put 1 rfl rfl)
       ·rintro d v W- -p H K hK
        have e1:=H.val 1 _ _ _ rfl rfl (Qh p 1)
        have l0:=F6 lb5 H.chg.size
        have q:=(H.chg.cell (p:=⟨b,off,none⟩) lb5 (by simpa using nbb)).trans cO5
        simp only [z1,z2,z4,z5,z6,e1] at hK ⊢
        go_simp
        exact hK.out _ _ (H.put 2 rfl rfl)
       ·rintro d v W- -p H K hK
        have e2:=H.val 2 _ _ _ rfl rfl (Qh p 2)
        simp only [z1,z2,z4,z5,z6,e2] at hK ⊢
        go_simp
        exact hK.out _ _ (H.put 3 rfl rfl)
       ·rintro d v W- -p H K hK
        have e3:=H.val 3 _ _ _ rfl rfl (Qh p 3)
        have l0:=F6 lb5 H.chg.size
        have q:=(H.chg.cell (p:=⟨b,off+9,none⟩) lb5 (by simpa using nbb)).trans cA5
        simp only [z1,z2,z4,z5,z6,e3] at hK ⊢
        go_simp
        exact hK.out _ _ (H.put 4 rfl rfl)
       ·rintro d v W- -p H K hK
        simp only [z1,z2,z4,z5,z6] at hK ⊢
        go_simp
        exact hK.out _ _ (H.put 5 rfl rfl)
       ·rintro d v W- -p H K hK
        have e5:=H.val 5 _ _ _ rfl rfl (Qh p 5)
        have hw:=Zd (z:=place+1) (by omega) (by omega)
        simp only [z1,z2,z4,z5,z6,e5] at hK ⊢
        go_simp
        exact hK.out _ _ (H.put 6 rfl rfl)
       ·rintro d v W- -p H K hK
        have q7:=(E7y.kp H.chg).o3
        have f7:=(E7y.kp H.chg).f
        simp only [z1,z2,z4,z5,z6] at hK ⊢
        go_simp
        exact hK.out _ _ (H.put 7 rfl rfl)
       ·intro d v W hC hd p H K hK
        have e0:=H.val 0 _ _ _ rfl rfl (Qh p 0)
        have e4:=H.val 4 _ _ _ rfl rfl (Qh p 4)
        have e6:=H.val 6 _ _ _ rfl rfl (Qh p 6)
        have e7:=H.val 7 _ _ _ rfl rfl (Qh p 7)
        have g0:=H.quiet _ rfl hd
        simp only [z1,z2,z4,z5,z6,e0,e4,e6,e7] at hK ⊢
        go_simp
        go_at_call 69
        refine(LA.out W _ (s1,s2,s4) (Xy.kz g0) (lAy.keep g0 sbl (by simp)) hsh.out).mono ?_
        rintro e W2 ⟨c1,c2,c3,rfl,ho,hT,hXX,cc⟩
        dsimp only
        have hP:∃c1 c2 c3,_=Value.agg #[.map (some c1),.map (some c2),.map (some c3)] /\XH W2 c1 c2 c3 XA (s1,s2,s4)/\(∀y∈ [c1,c2,c3],y∉T1/\y≠bs)/\Wz AT SB B W2 xp bs (T1):=⟨c1,c2,c3,rfl,ho,hT,hXX⟩
        exact hK.out _ _ (H.n1 _ hP (.inl rfl) (g0.ty cc))
      ·refine⟨_,rfl,fun v W H K hK=>?_⟩
       have e0:=H.val 0 _ _ _ rfl rfl (by decide)
       have e1:=H.val 1 _ _ _ rfl rfl (by decide)
       have e2:=H.val 2 _ _ _ rfl rfl (by decide)
       have e3:=H.val 3 _ _ _ rfl rfl (by decide)
       have e4:=H.val 4 _ _ _ rfl rfl (by decide)
       have e5:=H.val 5 _ _ _ rfl rfl (by decide)
       have e6:=H.val 6 _ _ _ rfl rfl (by decide)
       have e7:=H.val 7 _ _ _ rfl rfl (by decide)
       have P8:=H.prop 0 _ _ _ rfl rfl (by decide)
       have CHW:=H.chg
       clear H
       simp only [z1,z2,z4,z5,e0,e1,e2,e3,e4,e5,e6,e7]
       obtain⟨c1,c2,c3,ec,ho,hT,hXX⟩:=P8
       rw [ec]
       have hb15:=B15y.kp CHW
       have hkd:=K15y.kp CHW
       have fq:=hb15.f
       have oq:=hb15.o3
       go_simp
       refine hK.out _ _ ?_
       have cp:=Xz W x15 (.map (some c1)) (.map (some c2)) (.map (some c3))
       have l15:=hb15.lt
       have B15:=hb15.put3 rfl (.map (some c1)) (.map (some c2)) (.map (some c3))
       have ho7:=ho.keepB cp hkd
       have X7:=hXX.keepB cp hkd ⟨hx15,x15p⟩
       have K15:=hkd.keepW cp
       obtain⟨wz,hw7⟩:∃w7,(((W.setCell ⟨x15,0,none⟩ (.map (some c1))).setCell ⟨x15,1,none⟩ (.map (some c2))).setCell ⟨x15,2,none⟩ (.map (some c3)))=w7:=⟨_,rfl⟩
       rw [hw7] at cp B15 ho7 X7 K15 ⊢
       have c67:Qc [bs,x15] wy wz:=(CHW.mono (by simp)).trans cp (fun y hy=>.inl (by rw [E0.1 hy];simp))
       have z67:=c67.size
       clear hw7 cp fq oq hb15 ho hXX CHW hkd ec
       have cZ:Qc [bs,x15] w5 wz:=(c57.trans (c67.mono (T:=[bs,x15]) (by simp)) (fun y hy=>by simp only [C7,F1,or_false] at hy;rcases hy with rfl|rfl;exact .inl (by simp);exact .inr (by omega))).mono (by simp)
       go_wp2_with fail
       go_meet
       case rel=>exact⟨rfl,Qb ⟨c1,c2,c3,B15,K15,by rw [eXA];exact ho7,hT,X7,cZ⟩⟩
    case rest=>
     obtain⟨rfl,hcut⟩:=hcut
     clear B15 K15 ho7 hT X7 c57
     obtain⟨c1,c2,c3,B15,K15,ho7,hT,X7,cZ⟩:=hcut.out
     clear hcut
     obtain⟨wz,hwz⟩:∃wz:World,wz=wc:=⟨_,rfl⟩
     rw [<-hwz] at B15 K15 ho7 X7 cZ ⊢
     clear hwz
     obtain⟨r3,hr3⟩:∃r3,wz.heap.size=r3:=⟨_,rfl⟩
     have o15:=B15.o3
     have f15:=B15.f
     have kc1:=ho7.ok
     have nS:∀ {y:Nat},y∈ [b1,b2,b3,x9] ->y∉ [bs,x15]:=fun {y} hy h=>by
      simp only [C7,F1,or_false] at hy h
      have h1:=X5.low.2.1
      rw [hT1.out] at h1
      simp only [C7,F4,F1,or_false,not_or] at h1
      omega
     have nI:Qm w5 [bs,x15]:=F7 X5.memo.nz (F7 (fun cs fr h=>by have:=(F5.1 h).1;omega) C0)
     have hN7:=hN.keep cZ nI (nS (by simp))
     have hG7:=hG.keep cZ nI (nS (by simp))
     have hE7:=hE.keep cZ nI (nS (by simp))
     have E97:=E95.keep cZ (nS (by simp))
     have zZ:=cZ.size
     have hTn:∀y∈ [c1,c2,c3],y≠b1/\y≠b2/\y≠b3:=fun y hy=>by
      have h:=(hT y hy).1
      rw [hT1.out] at h
      simp only [C7,F4,F1,or_false,not_or] at h
      exact⟨h.1.2.2.1,h.1.2.2.2.1,h.1.2.2.2.2⟩
     have nc1:=hTn c1 (by simp)
     have nc2:=hTn c2 (by simp)
     have nc3:=hTn c3 (by simp)
     have nn3:∀t j,Yr XNn (s1,s2,s4) t j-> [n].length+j.length<=1000000:=fun t j h=>by have h2:=gN.out _ _ h;simp only [I1,U7];omega
     clear hN hG hE E75 cO5 cA5 cB5 lA5 lB5 lb5
     go_wp2_with (first|(at_range;refine ZQ rfl (.tmp 77) _ rfl hu (fun _ _ h=>Xw h) rfl kc1 ?_;intro w8 hR8 hc8 hs8)|fail)
     rw [hr3] at hR8 hs8 ⊢
     simp only [Act.put,D0,C8,C9]
     have N8:=hN7.keep hc8 C0 (by simp)
     have E98:=E97.keep hc8
     have ne3:b1≠r3/\c1≠r3/\b2≠r3/\b3≠r3/\c2≠r3/\c3≠r3/\x15≠r3/\x9≠r3/\x15≠b1/\x9≠b1:=by have h1:=hN7.lt;have h2:=ho7.lt;have h3:=hG7.lt;have h4:=hE7.lt;have h5:=B15.lt;have h6:=E97.lt;omega
     go_loopw [] (fun wr=>∃D3,qG wr Uu QW c1 r3 (Yr XNn (s1,s2,s4)) D3/\Qx wr Uu QW b1 (fun k l=>(fun k l=>(0<n/\Yr (XB.took 0) (s1,s2,s4) k l)∨(1<n/\Yr (XA.took 1) (s1,s2,s4) k l)) k l∨∃j,D3 k j/\l=[n] ++j)/\Qc [b1,r3] w8 wr) (fun wr=>leftN wr c1 r3)
     case atStart=>exact⟨_,hR8,N8.congr (by simp),B0 _ _⟩
     case round=>
      obtain⟨D3,hR,hK,hc⟩:=hrel
      obtain⟨wq,hwq⟩:∃wq:World,wq=wr:=⟨_,rfl⟩
      rw [<-hwq] at hR hK hc ⊢
      clear hwq
      have niq:Qm w8 [b1,r3]:=F7 N8.nz (F7 hR8.nz C0)
      have BX:=E98.kp hc
      have c8q:Qc [b1,r3] wz wq:=hc8.ty hc
      have ni7:Qm wz [b1,r3]:=fun y hy=>by
       rcases C7.1 hy with rfl|hy
       ·exact hN7.nz
       ·rw [E0.1 hy, <-hr3];exact fun cs fr h=>absurd (F5.1 h).1 (i9 _)
      have G9q:=E97.kp c8q
      have q9:=G9q.o3
      have p9:=G9q.f
      have q15:=(B15.kp c8q).o3
      have p15:=(B15.kp c8q).f
      have AE:=Qb (fun(W:World) (cW:Qc [] wq W) (v:Value) (hv:Zn W [n] v)=>UY (fun k l=>(0<n/\W6 (XB.took 0) (s1,s2,s4) k l)∨(1<n/\W6 (XA.took 1) (s1,s2,s4) k l)) (W6 XNn (s1,s2,s4)) (fun k l=>(0<n/\VB (XB.took 0) (s1,s2,s4) k l)∨(1<n/\VB (XA.took 1) (s1,s2,s4) k l)) (VB XNn (s1,s2,s4)) b2 b3 c2 c3 (some b1) (some c1) v [n] W ((hG7.keep c8q ni7).keep cW C0 (by simp)) ((hE7.keep c8q ni7).keep cW C0 (by simp)) ((ho7.fl.keep c8q ni7).keep cW C0 (by simp)) ((ho7.em.keep c8q ni7).keep cW C0 (by simp)) ⟨nc2.2.1.symm,nc3.2.1.symm,nc2.2.2.symm,nc3.2.2.symm,by omega⟩ hv (fun k j h=>by have h2:=gN2.out _ _ _ h;simp only [I1,U7];omega) (fun k j h=>by obtain⟨_,_,h,_⟩:=h;have h2:=gN2.out _ _ _ h;simp only [I1,U7];omega) (fun k=>UB dN _ k) (fun k=>qY dN _ k))
      go_upto_region 13 with (first|(at_next;refine ZP rfl (.tmp 78) rfl rfl hR ?_ ?_;rotate_left;rintro⟨g4,g5,g6⟩ j v1 wA hk4 hj hl4 hRA hcA hsA hltA hent;unfold QW at hent ⊢;rotate_right;intro hD)|(go_at_call 101;refine(AE.out _ C6 _ (yJ wq n)).mono ?_;rintro e wB ⟨rfl,kA,kG,cB⟩)|fail)
      ·have cwB:Qc [b2,b3] wq wB:=Qc.ty (C6) cB
       have niB:Qm wq [b2,b3]:=F7 (hG7.keep c8q ni7).nz (F7 (hE7.keep c8q ni7).nz C0)
       have KF:Qx wq Uu QW b1 (fun k l=>(fun k l=>(0<n/\Yr (XB.took 0) (s1,s2,s4) k l)∨(1<n/\Yr (XA.took 1) (s1,s2,s4) k l)) k l∨∃j,Yr XNn (s1,s2,s4) k j/\l=[n] ++j):=(hK.congr (fun k l=>by simp only [hD])).front (fun k=>VO dN _ k)
       have KN:=(KF.congr (fun k l=>Qfh hn1 ((QdZ n k l).trans (tkO.out k l)))).keep cwB niB
       have KA:=kA.congr (fun k l=>Qfh hn1 ((Qfk n k l).trans (tkA.out k l)))
       have KE:=kG.congr (fun k l=>Qfh hn1 ((Qez n k l).trans (tkE.out k l)))
       have X8:Wz AT SB B w8 xp bs (r3::T1):=X7.more hc8 (fun y hy=>by
        rcases C7.1 hy with rfl|hy
        ·exact .inr ⟨by omega,by omega⟩
        ·exact .inl hy)
       have XB':=((X8.keep hc niq (fun y hy=>.inl (by rw [hT1.out];simp only [C7,F1,or_false] at hy;rcases hy with rfl|rfl<;>simp))).keep cwB niB (fun y hy=>.inl (by rw [hT1.out];simp only [C7,F1,or_false] at hy;rcases hy with rfl|rfl<;>simp))).less (T':=T1) (fun y hy=>I5 _ hy)
       have CN:=(((‹Qc [bs,b1,b2,b3] w2 w5›.trans cZ (fun y hy=>by simp only [C7,F1,or_false] at hy;rcases hy with rfl|rfl;exact .inl (by simp);exact .inr (by omega))).trans c8q (fun y hy=>by simp only [C7,F1,or_false] at hy;rcases hy with rfl|rfl;exact .inl (by simp);exact .inr (by omega))).trans cwB (fun y hy=>.inl (by simp at hy ⊢;omega)))
       go_roundw
       case rel=>exact⟨n+1,by omega,by omega,by go_num,KN,KA,KE,XB',CN⟩
       case measure=>simp [intOf];omega
      ·refine Qp fun w9 hw9=>?_
       obtain⟨xk,hxk⟩:∃xk,wA.heap.size=xk:=⟨_,rfl⟩
       have c9:Qc [] wA w9:=by rw [hw9];exact C6
       have E6:ZU w9 xk [.string g4,.string g5,.string g6]:=by rw [hw9, <-hxk];exact L9 wA _ _
       try rw [<-hsA]
       try rw [hxk]
       clear hw9
       have cr9:Qc [r3] wq w9:=hcA.tz c9
       have nq:Qm wq [r3]:=F7 hR.nz C0
       have K5:=hK.keep cr9 nq
       have sk:g4.size<=maxLen/\g5.size<=maxLen/\g6.size<=maxLen:=by
        obtain⟨z,e,hz⟩:=hk4
        obtain rfl:=Xw (show QW (g4,g5,g6)=QW z from e)
        exact hz
       have hj5:=hj.keep c9 C0
       have R5:=Qb (hRA.keep c9 C0 (by simp) (by simp))
       have CC:=Qb (hc.trans cr9 (fun x hx=>.inl (by simp at hx ⊢;exact .inr hx)))
       have HL:=Qb (show leftN w9 c1 r3<leftN wq c1 r3 by rw [hRA.left c9 (by simp) (by simp)];exact hltA)
       have lt5:=c9.size
       have ltx:=E6.lt
       have E3:=BX.kp cr9
       have n5:=nn3 _ _ hl4.1
       clear hcA hRA hltA hent hsA hl4 hR hK hc
       refine Ze (b:=⟨#[],[]⟩) 7 [84,85,86,87,88,89,90] (JR [(0,84),(1,85),(2,86),(3,87),(5,89)] [.pointer (some ⟨x9,0,none⟩),.map (some b1),.agg #[.string g4,.string g5,.string g6],.int .i64 n,v1] [(4,88),(6,90)] [fun W u=>Zn W [n] u,fun W u=>Zn W ([n] ++j) u] none [] w9) (by kernel_rfl) (XN _ _) (by kernel_rfl) (by kernel_rfl) (by kernel_rfl) (JR.zero (by decide) (by decide)) ?_ ?_
       ·refine⟨.inr ?_,.inr ?_,.inr ?_,.inr ?_,.inr ?_,.inr ?_,.inr ?_,.inl rfl,trivial⟩
        ·rintro d v W- -p H K hK
         simp only [z1,z2,z4,z5,z6] at hK ⊢
         go_simp
         exact hK.out _ _ (H.put 0 rfl rfl)
        ·rintro d v W- -p H K hK
         have e0:=H.val 0 _ _ _ rfl rfl (Qh p 0)
         have q3:=(E3.keep H.chg).o3
         have fq:=(E3.keep H.chg).f
         simp only [z1,z2,z4,z5,z6,e0] at hK ⊢
         go_simp
         exact hK.out _ _ (H.put 1 rfl rfl)
        ·rintro d v W- -p H K hK
         have q6:=(E6.keep H.chg).o3
         have fq:=(E6.keep H.chg).f
         simp only [z1,z2,z4,z5,z6] at hK ⊢
         go_simp
         exact hK.out _ _ (H.put 2 rfl rfl)
        ·rintro d v W- -p H K hK
         simp only [z1,z2,z4,z5,z6] at hK ⊢
         go_simp
         exact hK.out _ _ (H.put 3 rfl rfl)
        ·intro d v W hC hd p H K hK
         have e3:=H.val 3 _ _ _ rfl rfl (Qh p 3)
         have g:=H.chg
         simp only [z1,z2,z4,z5,z6,e3] at hK ⊢
         go_simp
         have hP:=yJ W n
         exact hK.out _ _ (H.n2 _ hP (fun _ HK=>HK.keep ((B0 [] W).alloc _) C0) (.inr ((B0 _ _).alloc _)) (H.chg.alloc _))
        ·rintro d v W- -p H K hK
         simp only [z1,z2,z4,z5,z6] at hK ⊢
         go_simp
         exact hK.out _ _ (H.put 4 rfl rfl)
        ·intro d v W hC hd p H K hK
         have P4:=H.prop 0 _ _ _ rfl rfl (Qh p 4)
         have e5:=H.val 4 _ _ _ rfl rfl (Qh p 5)
         have g:=H.chg
         simp only [z1,z2,z4,z5,z6,e5] at hK ⊢
         go_simp
         go_at_call 100
         refine(Ug [n] j _ v1 W P4 (hj5.keep g C0) n5).mono ?_
         rintro e W2 ⟨u,rfl,hP,c2⟩
         dsimp only
         exact hK.out _ _ ((H.swap.n2 _ hP (fun _ HK=>HK.keep c2 C0) (.inr c2) (H.chg.tz c2)).swap)
       ·refine⟨_,rfl,fun v W H K hK=>?_⟩
        have e0:=H.val 0 _ _ _ rfl rfl (by decide)
        have e1:=H.val 1 _ _ _ rfl rfl (by decide)
        have e2:=H.val 2 _ _ _ rfl rfl (by decide)
        have e3:=H.val 3 _ _ _ rfl rfl (by decide)
        have e5:=H.val 4 _ _ _ rfl rfl (by decide)
        have P4:=H.prop 0 _ _ _ rfl rfl (by decide)
        have P6:=H.prop 1 _ _ _ rfl rfl (by decide)
        have CHW:=H.chg
        clear H
        simp only [z1,z2,z4,z5,e0,e1,e2,e3,e5]
        go_simp
        go_at_call 99
        refine(Vs _ b1 (g4,g5,g6) _ _ W sk.1 sk.2.1 sk.2.2 (K5.keep CHW C0) (P6)).mono ?_
        rintro e W2 ⟨rfl,k2,d2⟩
        refine hK.out _ _ ?_
        have nb9:Qm W [b1]:=F7 (K5.keep CHW C0).nz C0
        have R6:=(R5.out.keep CHW C0).keep d2 nb9
        have l6:=((R5.out.keep CHW C0).left d2).trans (R5.out.left CHW)
        go_roundw
        case rel=>(repeat apply Exists.intro);exact⟨⟨_,R6,k2.congr Wc,(CC.out.tz CHW).trans d2 (fun x hx=>.inl (by simp at hx ⊢;exact .inl hx))⟩,rfl⟩
        case measure=>have:=HL.out;omega
  ·obtain rfl:n=2:=by omega
   have hN:=hN.congr (fun k l=>QeH)
   have hG:=hG.congr (fun k l=>QeH)
   have hE:=hE.congr (fun k l=>QeH)
   have D9:=E9.kp hc
   have D8:=E8.kp hc
   have M8:=K8.kp hc
   have XW:=hXr
   have ex:a.ex Qs place=Rn.alt (XA.took 1) (XB.took 0):=by rw [Qa.ex_eq,if_pos h8,hXA.out,hXB.out]
   have hoW:XH wo b1 b2 b3 (a.ex Qs place) (s1,s2,s4):=by
    rw [ex]
    exact⟨hN,hG,hE.congr (fun k l=>⟨fun h=>h.elim (fun⟨t,e,h1,h2⟩=>⟨t,e,.inl h1,h2⟩) (fun⟨t,e,h1,h2⟩=>⟨t,e,.inr h1,h2⟩),fun⟨t,e,h1,h2⟩=>h1.elim (fun h=>.inl ⟨t,e,h,h2⟩) (fun h=>.inr ⟨t,e,h,h2⟩)⟩)⟩
   have czW:Qc [bs] w wo:=(c2.ty hc).mono (fun y hy=>by
    simp only [C7,F1,or_false] at hy
    rcases hy with rfl|rfl|rfl|rfl
    ·exact .inl (by simp)
    ·exact .inr (by omega)
    ·exact .inr (by omega)
    ·exact .inr (by omega))
   clear ex
   have o9:=D9.o3
   have p9:=D9.f
   have q8:=D8.o3
   have r8:=D8.f
   have cp2:=Xz wo (x7+1) (.map (some b1)) (.map (some b2)) (.map (some b3))
   have n2x:Qm wo [x7+1]:=F7 M8.nz C0
   have B8:=D8.put3 rfl (.map (some b1)) (.map (some b2)) (.map (some b3))
   have X9:=XW.keep cp2 n2x (fun y hy=>.inl (by rw [E0.1 hy,hT1.out];simp))
   have ho9:=hoW.keep cp2 n2x
   have cz:=(czW.trans cp2 (fun y hy=>.inr (by rw [E0.1 hy];omega)))
   go_wp2_with fail
   have z8:=B8.o3
   have y8:=B8.f
   refine bodyPost_ret (v:=.agg #[.map (some b1),.map (some b2),.map (some b3)]) (by simp only [results,Tryz.results136];go_simp) rfl ?_
   refine⟨b1,b2,b3,rfl,ho9,fun y hy=>?_,X9.less (fun y hy=>by rw [hT1.out];simp [hy]),cz⟩
   simp only [C7,F1,or_false] at hy
   rcases hy with rfl|rfl|rfl<;>exact⟨fun h=>by have:=hTl _ h;omega,by omega⟩
end Go.Proofs.YtjeadhmkghnkkaaGreatDoor
