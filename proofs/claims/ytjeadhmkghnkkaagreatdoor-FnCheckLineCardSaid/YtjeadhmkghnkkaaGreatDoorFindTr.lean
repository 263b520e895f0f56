/- find of the explorer. Conditions: as stated. -/
import Derived.Test.YtjeadhmkghnkkaaGreatDoorListX
set_option maxRecDepth 100000
set_option maxHeartbeats 8000000
namespace Go.Proofs.YtjeadhmkghnkkaaGreatDoor
open Go.RowKit

theorem Qdi (AT:Int->Option Qa) (SB:Nat->Prop) (B xp bs:Nat) (a:Qa) (h10:a.op=10) (hA:ut AT SB B xp bs a.A) (hB:ut AT SB B xp bs a.B):QcV AT SB B xp bs a:=by
 rintro place b off ⟨s1,s2,s4⟩ T w hX hAct hfit hok hp0 hp1 hcost hW hs
 unfold QW
 have e8:(a.op==8)=false:=by rw [h10];rfl
 have e9:(a.op==9)=false:=by rw [h10];rfl
 have e10:(a.op==10)=true:=by simpa using h10
 obtain⟨uA,uB,hSB,lb,cs,lA,lB⟩:=id hAct
 have op0:=cs.1
 have cs:=Qb cs
 go_enter Tryz.func136,Tryz.ntmps136
 have hm:=UU Tryz.prog
 have hu:Tryz.prog.underlying 70=some (.map 82 25):=by kernel_rfl
 have hu2:Tryz.prog.underlying 71=some (.map 84 25):=by kernel_rfl
 have hu3:Tryz.prog.underlying 72=some (.map 3 25):=by kernel_rfl
 obtain⟨x7,hx7⟩:∃x7,w.heap.size=x7:=⟨_,rfl⟩
 have NO:=Qb (fun W=>Wq W)
 go_upto_region 2 with (first|(go_at_call 97;refine(NO.out _).mono ?_;rintro e w1 ⟨b1,b2,b3,rfl,⟨m1,m2,m3,m4⟩,c1,k1,k2,k3⟩)|fail)
 refine Qp fun w2 hw2=>?_
 have cA:Qc [] w w1:=(show Qc [] w _ from C6).tz c1
 have c2:Qc [] w w2:=by rw [hw2];exact cA.alloc _
 obtain⟨x9,hx9⟩:∃x9,w1.heap.size=x9:=⟨_,rfl⟩
 have e12:Qc [] w1 w2:=by rw [hw2];exact C6
 have s12:w2.heap.size=x9+1:=by rw [hw2, <-hx9];simp
 have b9:b1<x9/\b2<x9/\b3<x9:=by omega
 have hpl:place<=999:=by have:=a.size_eq;omega
 have m0:x7+2<=b1:=by have:=m1;first|omega|(simp [hx7] at this;omega)
 have E7:ZU w2 x7 [.string s1,.string s2,.string s4]:=by rw [hw2, <-hx7];exact(((L9 w _ _).alloc _).keep c1).alloc _
 have E8:ZU w2 (x7+1) [.map none,.map none,.map none]:=by rw [hw2, <-hx7];exact((ZU.newAt (w.alloc _) _ _).keep c1).alloc _
 have K8:Kd w2 (x7+1) 74:=by rw [hw2, <-hx7];exact((Y3 (w.alloc _) _ _).keep c1).alloc _
 have E9:ZU w2 x9 [.map (some b1),.map (some b2),.map (some b3)]:=by rw [hw2, <-hx9];exact L9 w1 _ _
 have K9:Kd w2 x9 74:=by rw [hw2, <-hx9];exact Y3 w1 _ _
 have k1:=fun X hX=>(k1 X hX).keep e12 C0 (by simp)
 have k2:=fun X hX=>(k2 X hX).keep e12 C0 (by simp)
 have k3:=fun X hX=>(k3 X hX).keep e12 C0 (by simp)
 clear hw2 NO
 rw [hx9]
 have l7:=E7.lt
 have l8:=E8.lt
 have l9:=E9.lt
 obtain⟨T1,hT1⟩:∃T1,Hid (T1=[x7+1,x9,b1,b2,b3] ++T):=⟨_,Qb rfl⟩
 have wl:=hX.memo.lt
 have X2:Wz AT SB B w2 xp bs T1:=hX.more c2 (fun y hy=>by
  rw [hT1.out] at hy
  simp only [C7,F4,F1,or_false] at hy
  rcases hy with (rfl|rfl|rfl|rfl|rfl)|hy
  all_goals first|exact .inl hy|exact .inr (by omega))
 have act2:=hAct.keep c2 hX.sb (by simp)
 have lA2:=lA.keep c2 hX.sb (by simp)
 have lB2:=lB.keep c2 hX.sb (by simp)
 have cs2:=Qb (fun(o:Nat) (u:Value) (h:w.cell? ⟨b,o,none⟩=some u)=>(c2.cell (p:=⟨b,o,none⟩) lb (by simp)).trans h)
 have op2:=cs2.out _ _ op0
 have lb2:=F6 lb c2.size
 have hTl:=fun y hy=>(hX.low.2.2 y hy).2
 have sbl:=hX.sb
 have hsh:=Qb hs
 clear hs cA e12 c1 m1 m4 op0 hAct lA lB hX
 obtain⟨hact,okA,okB⟩:=a.ok_iff.1 hok
 have hsz:=a.size_eq
 have hct:=a.cost_eq
 have hWe:=Wf a
 obtain⟨_,fA,fB⟩:=(Qa.fit_eq _ _ _).1 hfit
 have hwA:Qi a.A<=1048576:=by omega
 have hwB:Qi a.B<=1048576:=by omega
 obtain⟨XA,hXA⟩:∃XA,Hid (XA=Vn Qs a.A (place+1)):=⟨_,Qb rfl⟩
 obtain⟨XB,hXB⟩:∃XB,Hid (XB=Vn Qs a.B (place+1+Qd a.A)):=⟨_,Qb rfl⟩
 have gA:Hid (Yu XA (QT a.A) (VS (YH a.A) (place+1) (place+1+Qd a.A))):=Qb (by rw [hXA.out];exact Yy _ okA _)
 have gB:Hid (Yu XB (QT a.B) (VS (YH a.B) (place+1+Qd a.A) (place+1+Qd a.A+Qd a.B))):=Qb (by rw [hXB.out];exact Yy _ okB _)
 have dA:XM XA:=by rw [hXA.out];exact WF _ _
 have dB:XM XB:=by rw [hXB.out];exact WF _ _
 have LA:=Qb (fun(W:World) (T':List Nat) (s:B3) (X:Wz AT SB B W xp bs T') (l:WY SB W a.A uA) (hs:(Vz s).All W8)=>hA (place+1) uA s T' W X l fA okA (by omega) (by omega) (by omega) hwA hs)
 have LB:=Qb (fun(W:World) (T':List Nat) (s:B3) (X:Wz AT SB B W xp bs T') (l:WY SB W a.B uB) (hs:(Vz s).All W8)=>hB (place+1+Qd a.A) uB s T' W X l fB okB (by omega) (by omega) (by omega) hwB hs)
 rw [<-hXA.out] at LA
 rw [<-hXB.out] at LB
 unfold QW at LA LB
 have cA2:=cs2.out _ _ cs.out.2.2.2.2.2.2.2.2.2.1
 have cB2:=cs2.out _ _ cs.out.2.2.2.2.2.2.2.2.2.2
 have nbB:=sbl b hSB
 have hbB:=X2.low.1
 have nbb:b≠bs:=by omega
 have hT1B:∀y∈ [bs,b1,b2,b3],B<=y:=fun y hy=>by
  have h1:=X2.low.2.2
  simp only [C7,F1,or_false] at hy
  rcases hy with rfl|rfl|rfl|rfl
  ·exact hbB
  ·exact(h1 _ (by rw [hT1.out];simp)).1
  ·exact(h1 _ (by rw [hT1.out];simp)).1
  ·exact(h1 _ (by rw [hT1.out];simp)).1
 have hct4:3 * QT a.A+QT a.B<=400000:=by omega
 have hsz1:place+1+Qd a.A+Qd a.B<=1000:=by omega
 have sAn:Qd a.A<=1000/\Qd a.B<=1000:=by omega
 clear cs cs2 hfit hcost hW hact okA okB fA fB hwA hwB hWe hct hsz hp1 act2
 have hS5:∀y∈([]:List Nat),B<=y:=by simp
 have z2:=B0 [] w2
 have lb5:=F6 lb2 z2.size
 have nb5:∀S':List Nat,(∀y∈S',B<=y)->b∉S':=fun S' h hb=>by have:=h b hb;omega
 have cO5:=(z2.cell (p:=⟨b,off,none⟩) lb2 (nb5 _ hS5)).trans op2
 have cA5:=(z2.cell (p:=⟨b,off+9,none⟩) lb2 (nb5 _ hS5)).trans cA2
 have cB5:=(z2.cell (p:=⟨b,off+10,none⟩) lb2 (nb5 _ hS5)).trans cB2
 have lA5:=lA2.keep z2 sbl hS5
 have lB5:=lB2.keep z2 sbl hS5
 clear hS5 z2
 go_upto_region 43 with fail
 obtain⟨w5,hw5⟩:∃w5:World,w5=w2:=⟨_,rfl⟩
 clear hw5 w5
 refine Ze (b:=⟨#[],[]⟩) 10 [165,166,167,168,169,170,171,172,173,24] (JR [(0,165),(1,166),(2,167),(3,168),(4,169),(5,170),(6,171),(7,172)] [.pointer (some ⟨xp,0,none⟩),.pointer (some ⟨b,off,none⟩),.pointer (some ⟨b,off,none⟩),.pointer (some ⟨b,off+9,none⟩),uA,.int .i64 place,.int .i64 (place+1),.agg #[.string s1,.string s2,.string s4]] [(8,173),(9,24)] [fun W u=>∃c1 c2 c3,u= .agg #[.map (some c1),.map (some c2),.map (some c3)] /\XH W c1 c2 c3 XA (s1,s2,s4)/\(∀y∈ [c1,c2,c3],y∉T1/\y≠bs)/\Wz AT SB B W xp bs (T1),fun W u=>∃x u0 u1 u2,u= .pointer (some ⟨x,0,none⟩)/\w2.heap.size<=x/\ZU W x [u0,u1,u2] /\Kd W x 74] (some 8) [bs] w2) (by kernel_rfl) (XN _ _) (by kernel_rfl) (by kernel_rfl) (by kernel_rfl) (JR.zero (by decide) (by decide)) ?_ ?_
 ·refine⟨.inr ?_,.inr ?_,.inr ?_,.inr ?_,.inr ?_,.inr ?_,.inr ?_,.inr ?_,.inr ?_,.inr ?_,.inl rfl,trivial⟩
  ·rintro d v W- -p H K hK
   simp only [z1,z2,z4,z5,z6] at hK ⊢
   go_simp
   exact hK.out _ _ (H.put 0 rfl rfl)
  ·rintro d v W- -p H K hK
   simp only [z1,z2,z4,z5,z6] at hK ⊢
   go_simp
   exact hK.out _ _ (H.put 1 rfl rfl)
  ·rintro d v W- -p H K hK
   have e1:=H.val 1 _ _ _ rfl rfl (Qh p 1)
   have l0:=F6 lb5 H.chg.size
   have q:=(H.chg.cell (p:=⟨b,off,none⟩) lb5 (by simpa using nbb)).trans cO5
   simp only [z1,z2,z4,z5,z6,e1] at hK ⊢
   go_simp
   exact hK.out _ _ (H.put 2 rfl rfl)
  ·rintro d v W- -p H K hK
   have e2:=H.val 2 _ _ _ rfl rfl (Qh p 2)
   simp only [z1,z2,z4,z5,z6,e2] at hK ⊢
   go_simp
   exact hK.out _ _ (H.put 3 rfl rfl)
  ·rintro d v W- -p H K hK
   have e3:=H.val 3 _ _ _ rfl rfl (Qh p 3)
   have l0:=F6 lb5 H.chg.size
   have q:=(H.chg.cell (p:=⟨b,off+9,none⟩) lb5 (by simpa using nbb)).trans cA5
   simp only [z1,z2,z4,z5,z6,e3] at hK ⊢
   go_simp
   exact hK.out _ _ (H.put 4 rfl rfl)
  ·rintro d v W- -p H K hK
   simp only [z1,z2,z4,z5,z6] at hK ⊢
   go_simp
   exact hK.out _ _ (H.put 5 rfl rfl)
  ·rintro d v W- -p H K hK
   have e5:=H.val 5 _ _ _ rfl rfl (Qh p 5)
   have hw:=Zd (z:=place+1) (by omega) (by omega)
   simp only [z1,z2,z4,z5,z6,e5] at hK ⊢
   go_simp
   exact hK.out _ _ (H.put 6 rfl rfl)
  ·rintro d v W- -p H K hK
   have q7:=(E7.kp H.chg).o3
   have f7:=(E7.kp H.chg).f
   simp only [z1,z2,z4,z5,z6] at hK ⊢
   go_simp
   exact hK.out _ _ (H.put 7 rfl rfl)
  ·intro d v W hC hd p H K hK
   have e0:=H.val 0 _ _ _ rfl rfl (Qh p 0)
   have e4:=H.val 4 _ _ _ rfl rfl (Qh p 4)
   have e6:=H.val 6 _ _ _ rfl rfl (Qh p 6)
   have e7:=H.val 7 _ _ _ rfl rfl (Qh p 7)
   have g0:=H.quiet _ rfl hd
   simp only [z1,z2,z4,z5,z6,e0,e4,e6,e7] at hK ⊢
   go_simp
   go_at_call 69
   refine(LA.out W _ (s1,s2,s4) (X2.kz g0) (lA5.keep g0 sbl (by simp)) hsh.out).mono ?_
   rintro e W2 ⟨c1,c2,c3,rfl,ho,hT,hXX,cc⟩
   dsimp only
   have hP:∃c1 c2 c3,_=Value.agg #[.map (some c1),.map (some c2),.map (some c3)] /\XH W2 c1 c2 c3 XA (s1,s2,s4)/\(∀y∈ [c1,c2,c3],y∉T1/\y≠bs)/\Wz AT SB B W2 xp bs (T1):=⟨c1,c2,c3,rfl,ho,hT,hXX⟩
   exact hK.out _ _ (H.n2 _ hP (fun _ HK=>(by obtain⟨x,u0,u1,u2,e,hx,hb,hkd⟩:=HK;exact⟨x,u0,u1,u2,e,hx,hb.kp cc,hkd.kp cc⟩)) (.inl rfl) (g0.ty cc))
  ·intro d v W hC hd p H K hK
   have g:=H.chg
   simp only [z1,z2,z4,z5,z6] at hK ⊢
   go_simp
   have hP:∃x u0 u1 u2,(Value.pointer (some ⟨W.heap.size,0,none⟩))= .pointer (some ⟨x,0,none⟩)/\w2.heap.size<=x/\ZU (W.alloc (.cells #[.map none,.map none,.map none] 74)) x [u0,u1,u2] /\Kd (W.alloc (.cells #[.map none,.map none,.map none] 74)) x 74:=⟨_,_,_,_,rfl,g.size,L9 W _ _,Y3 W _ _ rfl⟩
   exact hK.out _ _ ((H.swap.n2 _ hP (fun _ HK=>(by obtain⟨c1,c2,c3,e,ho,hT,hXX⟩:=HK;have cn:=(B0 [] W).alloc (.cells #[.map none,.map none,.map none] 74);exact⟨c1,c2,c3,e,ho.keep cn C0 (by simp) (by simp) (by simp),hT,hXX.kz cn⟩)) (.inr ((B0 _ _).alloc _)) (H.chg.alloc _)).swap)
 ·refine⟨_,rfl,fun v W H K hK=>?_⟩
  have e0:=H.val 0 _ _ _ rfl rfl (by decide)
  have e1:=H.val 1 _ _ _ rfl rfl (by decide)
  have e2:=H.val 2 _ _ _ rfl rfl (by decide)
  have e3:=H.val 3 _ _ _ rfl rfl (by decide)
  have e4:=H.val 4 _ _ _ rfl rfl (by decide)
  have e5:=H.val 5 _ _ _ rfl rfl (by decide)
  have e6:=H.val 6 _ _ _ rfl rfl (by decide)
  have e7:=H.val 7 _ _ _ rfl rfl (by decide)
  have P8:=H.prop 0 _ _ _ rfl rfl (by decide)
  have P9:=H.prop 1 _ _ _ rfl rfl (by decide)
  have CHW:=H.chg
  clear H
  simp only [z1,z2,z4,z5,e0,e1,e2,e3,e4,e5,e6,e7]
  obtain⟨a1,a2,a3,ec,ho,hT,hXX⟩:=P8
  obtain⟨x24,u0,u1,u2,ex,hx,hb15,hkd⟩:=P9
  rw [ec,ex]
  have hx15:B<=x24:=G5 X2.le hx
  have fq:=hb15.f
  have oq:=hb15.o3
  go_simp
  refine hK.out _ _ ?_
  have cp:=Xz W x24 (.map (some a1)) (.map (some a2)) (.map (some a3))
  have l15:=hb15.lt
  have B15:=hb15.put3 rfl (.map (some a1)) (.map (some a2)) (.map (some a3))
  have x15p:x24≠xp:=by have h1:=Qk X2.ptr;simp only at h1;omega
  have ho7:=ho.keepB cp hkd
  have X7:=hXX.keepB cp hkd ⟨hx15,x15p⟩
  have K15:=hkd.keepW cp
  obtain⟨w7,hw7⟩:∃w7,(((W.setCell ⟨x24,0,none⟩ (.map (some a1))).setCell ⟨x24,1,none⟩ (.map (some a2))).setCell ⟨x24,2,none⟩ (.map (some a3)))=w7:=⟨_,rfl⟩
  rw [hw7] at cp B15 ho7 X7 K15 ⊢
  have c67:Qc [bs] w2 w7:=CHW.trans cp (fun y hy=>.inr (by rw [E0.1 hy];exact hx))
  have z67:=c67.size
  clear hw7 cp fq oq hb15 ho hXX CHW hkd ec
  obtain⟨r8,hr8⟩:∃r8,w7.heap.size=r8:=⟨_,rfl⟩
  have o15:=B15.o3
  have f15:=B15.f
  have kc1:=ho7.ok
  have hTn:∀y∈ [a1,a2,a3],y≠b1/\y≠b2/\y≠b3/\y≠x9:=fun y hy=>by
   have h:=(hT y hy).1
   rw [hT1.out] at h
   simp only [C7,F4,F1,or_false,not_or] at h
   exact⟨h.1.2.2.1,h.1.2.2.2.1,h.1.2.2.2.2,h.1.2.1⟩
  have na2b:a2≠bs:=(hT a2 (by simp)).2
  obtain⟨na1_0,na1_1,na1_2,na1_3⟩:=hTn a1 (by simp)
  obtain⟨na2_0,na2_1,na2_2,na2_3⟩:=hTn a2 (by simp)
  obtain⟨na3_0,na3_1,na3_2,na3_3⟩:=hTn a3 (by simp)
  have nbsx:bs≠b1/\bs≠b2/\bs≠b3/\bs≠x9/\bs≠x7+1:=by
   have h:=X2.low.2.1
   rw [hT1.out] at h
   simp only [C7,F4,F1,or_false,not_or] at h
   omega
  have N7:=(k1 (fun _ _=>False) (fun _ _ h=>h)).keep c67 X2.nz
  have E97:=E9.kp c67
  go_wp2_with (first|(at_range;refine ZQ rfl (.tmp 175) _ rfl hu (fun _ _ h=>Xw h) rfl kc1 ?_;intro w8 hR8 hc8 hs8)|fail)
  rw [hr8] at hR8 hs8 ⊢
  simp only [Act.put,D0,C8,C9]
  have N8:=N7.keep hc8 C0 (by simp)
  have E98:=E97.keep hc8
  have X8:Wz AT SB B w8 xp bs (r8::T1):=X7.more hc8 (fun y hy=>by
   rcases C7.1 hy with rfl|hy
   ·exact .inr ⟨by omega,by omega⟩
   ·exact .inl hy)
  obtain⟨ne8_0,ne8_1,ne8_2,ne8_3,ne8_4,ne8_5,ne8_6,ne8_7,ne8_8,ne8_9⟩:b1≠r8/\a1≠r8/\a2≠r8/\a3≠r8/\b2≠r8/\b3≠r8/\x9≠r8/\x24≠r8/\x24≠b1/\x9≠b1:=by have h1:=N7.lt;have h2:=ho7.lt;have h5:=B15.lt;have h6:=E97.lt;omega
  go_loopw [] (fun wr=>∃D3,qG wr Uu QW a1 r8 (Yr XA (s1,s2,s4)) D3/\Qx wr Uu QW b1 (fun k l=>(fun _ _=>False) k l∨∃j,D3 k j/\l=[] ++j)/\Qc [b1,r8] w8 wr) (fun wr=>leftN wr a1 r8)
  case atStart=>exact⟨_,hR8,N8.congr (by simp),B0 _ _⟩
  case round=>
   obtain⟨D3,hR,hK,hc⟩:=hrel
   obtain⟨wq,hwq⟩:∃wq:World,wq=wr:=⟨_,rfl⟩
   rw [<-hwq] at hR hK hc ⊢
   clear hwq
   have niq:Qm w8 [b1,r8]:=F7 N8.nz (F7 hR8.nz C0)
   have nq:Qm wq [r8]:=F7 hR.nz C0
   have BX:=E98.kp hc
   have bxo:=BX.o3
   have bxf:=BX.f
   have bxl:=BX.lt
   have KK:=Qb hK
   have B24w:=(B15.keep hc8).kp hc
   have hx9b:=B24w.o3
   have hx9c:=B24w.f
   go_upto_region 48 with (first|(at_next;refine ZP rfl (.tmp 176) rfl rfl hR ?_ ?_;rotate_left;rintro⟨g4,g5,g6⟩ j v1 wA hk4 hj hl4 hRA hcA hsA hltA hent;unfold QW at hent hk4 ⊢;have BY:=BX.kp hcA;have byo:=BY.o3;have byf:=BY.f;have byl:=BY.lt;rotate_right;intro hD)|(go_at_call 99;refine(Vs _ b1 (g4,g5,g6) j v1 _ (yg hk4).1 (yg hk4).2.1 (yg hk4).2.2 (KK.out.keep hcA nq).far (hj.keep (C6 (S:=[])) C0)).mono ?_;rintro e wB ⟨rfl,k2,d2⟩)|fail)
   ·have Nf:=(hK.congr (Y:=fun k l=>False∨∃j,XC (Yr XA (s1,s2,s4) k) j/\l=[] ++j) (fun k l=>by simp only [hD])).front (fun k=>VO dA _ k)
    have Nf:=Nf.congr (Y:=Yr XA (s1,s2,s4)) (fun k l=>⟨fun h=>h.elim False.elim (fun⟨j,h,e⟩=>by rw [e];exact h),fun h=>.inr ⟨l,h,rfl⟩⟩)
    have cq:Qc [b1,r8] w7 wq:=hc8.ty hc
    have ni7:Qm w7 [b1,r8]:=fun y hy=>by
     rcases C7.1 hy with rfl|hy
     ·exact N7.nz
     ·rw [E0.1 hy, <-hr8];exact fun cs fr h=>absurd (F5.1 h).1 (i9 _)
    have cqw:Qc [bs,b1] w2 wq:=(c67.mono (T:=[bs,b1]) (by simp)).trans cq (fun y hy=>by simp only [C7,F1,or_false] at hy;rcases hy with rfl|rfl;exact .inl (by simp);exact .inr (by have:=c67.size;omega))
    have Xf:=(X8.keep hc niq (fun y hy=>.inl (by rw [hT1.out];simp only [C7,F1,or_false] at hy;rcases hy with rfl|rfl<;>simp))).less (T':=T1) (fun y hy=>by simp [hy])
    have a2f:=ho7.fl.keep cq ni7
    have a3f:=ho7.em.keep cq ni7
    have B24:=B15.kp cq
    have g2f:=(k2 (fun _ _=>False) (fun _ _ h=>h)).keep cqw (F7 X2.memo.nz (F7 (k1 (fun _ _=>False) (fun _ _ h=>h)).nz C0))
    have g3f:=(k3 (fun _ _=>False) (fun _ _ h=>h)).keep cqw (F7 X2.memo.nz (F7 (k1 (fun _ _=>False) (fun _ _ h=>h)).nz C0))
    have D9q:=E9.kp cqw
    obtain⟨wf,hwf⟩:∃wf:World,wf=wq:=⟨_,rfl⟩
    rw [<-hwf] at Nf Xf a2f a3f B24 g2f g3f D9q cqw ⊢
    clear hwf hK hR hc KK BX bxo bxf bxl niq nq hx9b hx9c B24w cq ni7 hR8 hc8 hs8 N8 E98 X8 kc1 o15 f15 N7 E97 K15 X7 ho7 B15 c67 z67 e0 e1 e2 e3 e4 e5 e6 e7 ex hT hTn cO5 cA5 cB5 lA5 lB5 lb5 nb5 LA E7 l7 ne8_0 ne8_1 ne8_2 ne8_3 ne8_4 ne8_5 ne8_6 ne8_7 ne8_8 ne8_9
    obtain⟨r9,hr9⟩:∃r9,wf.heap.size=r9:=⟨_,rfl⟩
    have h24:=B24.o3
    have h24f:=B24.f
    go_wp2_with (first|(at_range;refine ZQ rfl (.tmp 188) _ rfl hu3 (fun _ _ h=>Up h) rfl a3f ?_;intro wi hRi hci hsi)|fail)
    rw [hr9] at hRi hsi ⊢
    simp only [Act.put,D0,C8,C9]
    have Gi:=g3f.keep hci C0 (by simp)
    have E9i:=D9q.keep hci
    have Xi:Wz AT SB B wi xp bs (r9::T1):=Xf.more hci (fun y hy=>by
     rcases C7.1 hy with rfl|hy
     ·exact .inr ⟨by omega,by omega⟩
     ·exact .inl hy)
    obtain⟨ne9_0,ne9_1,ne9_2,ne9_3,ne9_4,ne9_5,ne9_6,ne9_7⟩:b3≠r9/\a3≠r9/\a2≠r9/\b1≠r9/\b2≠r9/\x9≠r9/\x24≠r9/\x24≠b3:=by have h1:=g3f.lt;have h2:=a3f.lt;have h3:=a2f.lt;have h4:=Nf.lt;have h5:=g2f.lt;have h6:=D9q.lt;have h7:=B24.lt;omega
    go_loopw [] (fun wr=>∃D3,qG wr zX Wi a3 r9 (VB XA (s1,s2,s4)) D3/\Qx wr zX Wi b3 (fun k l=>(fun _ _=>False) k l∨∃j,D3 k j/\l=[] ++j)/\Qc [b3,r9] wi wr) (fun wr=>leftN wr a3 r9)
    case atStart=>exact⟨_,hRi,Gi.congr (by simp),B0 _ _⟩
    case round=>
     obtain⟨D3,hR,hK,hc⟩:=hrel
     obtain⟨wq,hwq⟩:∃wq:World,wq=wr:=⟨_,rfl⟩
     rw [<-hwq] at hR hK hc ⊢
     clear hwq
     have niq:Qm wi [b3,r9]:=F7 Gi.nz (F7 hRi.nz C0)
     have nq:Qm wq [r9]:=F7 hR.nz C0
     have BX:=E9i.kp hc
     have bxo:=BX.o3
     have bxf:=BX.f
     have bxl:=BX.lt
     have KK:=Qb hK
     have B24w:=(B24.keep hci).kp hc
     have hx9b:=B24w.o3
     have hx9c:=B24w.f
     go_upto_region 52 with (first|(at_next;refine ZP rfl (.tmp 189) rfl rfl hR ?_ ?_;rotate_left;rintro g4 j v1 wA hk4 hj hl4 hRA hcA hsA hltA hent;unfold Wi at hent hk4 ⊢;have BY:=BX.kp hcA;have byo:=BY.o3;have byf:=BY.f;have byl:=BY.lt;rotate_right;intro hD)|(go_at_call 138;refine(QaB _ b3 g4 j v1 _ (QgB hk4) (KK.out.keep hcA nq).far (hj.keep (C6 (S:=[])) C0)).mono ?_;rintro e wB ⟨rfl,k2,d2⟩)|fail)
     ·have Vg:=(hK.congr (Y:=fun k l=>False∨∃j,XC (VB XA (s1,s2,s4) k) j/\l=[] ++j) (fun k l=>by simp only [hD])).front (fun k=>qY dA _ k)
      have Vg:=Vg.congr (Y:=VB XA (s1,s2,s4)) (fun k l=>⟨fun h=>h.elim False.elim (fun⟨j,h,e⟩=>by rw [e];exact h),fun h=>.inr ⟨l,h,rfl⟩⟩)
      have cg:Qc [b3,r9] wf wq:=hci.ty hc
      have nig:Qm wf [b3,r9]:=fun y hy=>by
       rcases C7.1 hy with rfl|hy
       ·exact g3f.nz
       ·rw [E0.1 hy, <-hr9];exact fun cs fr h=>absurd (F5.1 h).1 (i9 _)
      have cwg:Qc [bs,b1,b3] w2 wq:=(cqw.mono (T:=[bs,b1,b3]) (fun y hy=>.inl (by simp at hy ⊢;omega))).trans cg (fun y hy=>by simp only [C7,F1,or_false] at hy;rcases hy with rfl|rfl;exact .inl (by simp);exact .inr (by have:=cqw.size;omega))
      have Xg:=(Xi.keep hc niq (fun y hy=>.inl (by rw [hT1.out];simp only [C7,F1,or_false] at hy;rcases hy with rfl|rfl<;>simp))).less (T':=T1) (fun y hy=>by simp [hy])
      have Ng:=Nf.keep cg nig
      have Gg:=g2f.keep cg nig
      have Ag2:=a2f.keep cg nig
      have Bg24:=B24w
      obtain⟨wg,hwg⟩:∃wg:World,wg=wq:=⟨_,rfl⟩
      rw [<-hwg] at Vg Xg Ng Gg Ag2 Bg24 cwg ⊢
      clear hwg hK hR hc KK cg hRi hci hsi Gi E9i Xi niq nq BX bxo bxf bxl a3f a2f g2f g3f Xf Nf B24 B24w h24 h24f hx9b hx9c D9q cqw ne9_0 ne9_1 ne9_2 ne9_3 ne9_4 ne9_5 ne9_6 ne9_7 nig k1 k3 na1_0 na1_1 na1_2 na1_3 na3_0 na3_1 na3_2 na3_3 hr9 hu3
      obtain⟨r2,hr2⟩:∃r2,wg.heap.size=r2:=⟨_,rfl⟩
      have hx24:=Bg24.o3
      have hf24:=Bg24.f
      go_wp2_with (first|(at_range;refine ZQ rfl (.tmp 201) _ rfl hu2 (fun _ _ h=>VN h) rfl Ag2 ?_;intro wh hRh hch hsh2)|fail)
      rw [hr2] at hRh hsh2 ⊢
      simp only [Act.put,D0,C8,C9]
      have Nh:=Ng.keep hch C0 (by simp)
      have Gh:=Gg.keep hch C0 (by simp)
      have Vh:=Vg.keep hch C0 (by simp)
      have Xh:Wz AT SB B wh xp bs (r2::T1):=Xg.more hch (fun y hy=>by
       rcases C7.1 hy with rfl|hy
       ·exact .inr ⟨by omega,by omega⟩
       ·exact .inl hy)
      have cwh:Qc [bs,b1,b3] w2 wh:=cwg.tz hch
      have bsn:bs≠x9/\bs≠b1/\bs≠b2/\bs≠b3:=by
       have h:=X2.low.2.1
       rw [hT1.out] at h
       simp only [C7,F4,F1,or_false,not_or] at h
       exact⟨h.1.2.1,h.1.2.2.1,h.1.2.2.2.1,h.1.2.2.2.2⟩
      obtain⟨nr2_0,nr2_1,nr2_2,nr2_3,nr2_4,nr2_5,nr2_6⟩:r2≠bs/\r2≠b1/\r2≠b2/\r2≠b3/\r2≠x9/\r2≠a2/\b1<r2:=by have h1:=Ng.lt;have h2:=Gg.lt;have h3:=Vg.lt;have h4:=Ag2.lt;have h5:=Xg.memo.lt;have h6:=(E9.kp cwg).lt;omega
      have F9:=E9.kp cwh
      go_loopw [] (fun wr=>∃D,qG wr zS YN a2 r2 (W6 XA (s1,s2,s4)) D/\Qx wr Uu QW b1 (fun k l=>Yr XA (s1,s2,s4) k l∨UR D (fun f=>Yr XB f.2) k l)/\Qx wr zS YN b2 (UR D (fun f=>W6 XB f.2))/\Qx wr zX Wi b3 (fun k l=>VB XA (s1,s2,s4) k l∨UR D (fun f=>VB XB f.2) k l)/\Wz AT SB B wr xp bs (r2::T1)/\Qc [bs,b1,b2,b3,r2] wh wr) (fun wr=>leftN wr a2 r2)
      case atStart=>exact⟨_,hRh,Nh.congr (fun k l=>⟨fun h=>.inl h,fun h=>h.resolve_right (VH _ _)⟩),Gh.congr (fun k l=>⟨fun h=>h.elim,fun h=>(VH _ _ h).elim⟩),Vh.congr (fun k l=>⟨fun h=>.inl h,fun h=>h.resolve_right (VH _ _)⟩),Xh,B0 _ _⟩
      case round=>
       obtain⟨D,hR,hN2,hA2,hE2,hX2,hc2⟩:=hrel
       obtain⟨wp,hwp⟩:∃wp:World,wp=wr:=⟨_,rfl⟩
       rw [<-hwp] at hR hN2 hA2 hE2 hX2 hc2 ⊢
       clear hwp
       have hS5:∀y∈ [bs,b1,b2,b3,r2],B<=y:=fun y hy=>by
        simp only [C7,F1,or_false] at hy
        rcases hy with rfl|rfl|rfl|rfl|rfl
        ·exact hbB
        ·exact hT1B _ (by simp)
        ·exact hT1B _ (by simp)
        ·exact hT1B _ (by simp)
        ·exact(hX2.low.2.2 _ (by simp)).1
       have cwp:Qc [bs,b1,b2,b3,r2] w2 wp:=(cwh.mono (T:=[bs,b1,b2,b3,r2]) (fun y hy=>.inl (by simp at hy ⊢;omega))).trans hc2 (fun y hy=>.inl (by simp at hy ⊢;omega))
       have D9:=F9.kp hc2
       have D8:=E8.kp cwp
       have M8:=K8.kp cwp
       have o9:=D9.o3
       have p9:=D9.f
       have q8:=D8.o3
       have r8x:=D8.f
       have z24:=hc2.size
       go_upto_region 55 with (first|(at_next;refine ZP rfl (.tmp 202) rfl rfl hR ?_ ?_;rotate_left;rintro⟨⟨i1,i2,i3⟩,g1,g2,g3⟩ f v0 w5 hk hf hl hR5 hc5 hs5 hlt5 hent;unfold YN at hent ⊢;rotate_right;intro hD)|fail)
       ·have NN:=(Qeh hN2 hD (fun k=>UB dA _ k)).congr (fun k l=>QeP (Y:=XB) k l)
        have AA:=(Qeh (P:=fun _ _=>False) (R:=fun f:Yq=>W6 XB f.2) (hA2.congr (fun k l=>by simp)) hD (fun k=>UB dA _ k)).congr (Y:=W6 (XA.tried XB) (s1,s2,s4)) (fun k l=>by rw [<-QeE];simp)
        have GG:=(Qeh hE2 hD (fun k=>UB dA _ k)).congr (fun k l=>Qel (Y:=XB) k l)
        have XW:=hX2.less (T':=T1) (fun y hy=>by simp [hy])
        have ex:a.ex Qs place=XA.tried XB:=by rw [Qa.ex_eq,if_neg (by omega),if_neg (by omega),if_pos h10,hXA.out,hXB.out]
        have hoW:XH wp b1 b2 b3 (a.ex Qs place) (s1,s2,s4):=by rw [ex];exact⟨NN,AA,GG⟩
        have czW:Qc [bs] w wp:=(c2.ty cwp).mono (fun y hy=>by
         simp only [C7,F1,or_false] at hy
         have h2:=c2.size
         rcases hy with rfl|rfl|rfl|rfl|rfl
         ·exact .inl (by simp)
         ·exact .inr (by omega)
         ·exact .inr (by omega)
         ·exact .inr (by omega)
         ·exact .inr (by omega))
        have o9:=D9.o3
        have p9:=D9.f
        have q8:=D8.o3
        have r8:=D8.f
        have cp2:=Xz wp (x7+1) (.map (some b1)) (.map (some b2)) (.map (some b3))
        have n2x:Qm wp [x7+1]:=F7 M8.nz C0
        have B8:=D8.put3 rfl (.map (some b1)) (.map (some b2)) (.map (some b3))
        have X9:=XW.keep cp2 n2x (fun y hy=>.inl (by rw [E0.1 hy,hT1.out];simp))
        have ho9:=hoW.keep cp2 n2x
        have cz:=(czW.trans cp2 (fun y hy=>.inr (by rw [E0.1 hy];omega)))
        have z8:=B8.o3
        have y8:=B8.f
        refine bodyPost_ret (v:=.agg #[.map (some b1),.map (some b2),.map (some b3)]) (by simp only [results,Tryz.results136];go_simp) rfl ?_
        refine⟨b1,b2,b3,rfl,ho9,fun y hy=>?_,X9.less (fun y hy=>by rw [hT1.out];simp [hy]),cz⟩
        simp only [C7,F1,or_false] at hy
        rcases hy with rfl|rfl|rfl<;>exact⟨fun h=>by have:=hTl _ h;omega,by omega⟩
       ·refine Qp fun w6 hw6=>?_
        obtain⟨x13,hx13⟩:∃x13,w5.heap.size=x13:=⟨_,rfl⟩
        have c6:Qc [] w5 w6:=by rw [hw6];exact C6
        have E13:ZU w6 x13 [.int .i64 i1,.int .i64 i2,.int .i64 i3,.string g1,.string g2,.string g3]:=by rw [hw6, <-hx13];exact L9 w5 _ _
        try rw [<-hs5]
        rw [hx13]
        clear hw6
        have cr6:Qc [r2] wp w6:=hc5.tz c6
        have no:Qm wp [r2]:=F7 hR.nz C0
        have X6:Wz AT SB B w6 xp bs (r2::T1):=hX2.keep cr6 no (by simp)
        have l13:=E13.lt
        have wpb:=hX2.memo.lt
        have hx13b:x13≠bs:=by omega
        have gsh:=(gA.out.bad hsh.out hl.1)
        have cw6:Qc [bs,b1,b2,b3,r2] w2 w6:=cwp.trans cr6 (fun y hy=>.inl (by simp at hy ⊢;omega))
        have lb5:=F6 lb2 cw6.size
        have nb5:∀S':List Nat,(∀y∈S',B<=y)->b∉S':=fun S' h hb=>by have:=h b hb;omega
        have cO5:=(cw6.cell (p:=⟨b,off,none⟩) lb2 (nb5 _ hS5)).trans op2
        have cA5:=(cw6.cell (p:=⟨b,off+9,none⟩) lb2 (nb5 _ hS5)).trans cA2
        have cB5:=(cw6.cell (p:=⟨b,off+10,none⟩) lb2 (nb5 _ hS5)).trans cB2
        have lA5:=lA2.keep cw6 sbl hS5
        have lB5:=lB2.keep cw6 sbl hS5
        refine Ze (b:=⟨#[],[]⟩) 17 [208,209,210,211,212,213,214,215,216,217,218,219,220,221,222,223,31] (JR [(0,208),(1,209),(2,210),(3,211),(4,212),(5,213),(6,214),(7,215),(8,216),(9,217),(10,218),(11,219),(12,220),(13,221),(14,222)] [.pointer (some ⟨xp,0,none⟩),.pointer (some ⟨b,off,none⟩),.pointer (some ⟨b,off,none⟩),.pointer (some ⟨b,off+10,none⟩),uB,.int .i64 place,.int .i64 (place+1),.pointer (some ⟨b,off,none⟩),.pointer (some ⟨b,off,none⟩),.pointer (some ⟨b,off+9,none⟩),uA,.int .i64 (Qd a.A:Int),.int .i64 (place+1+(Qd a.A:Int)),.pointer (some ⟨x13,3,none⟩),.agg #[.string g1,.string g2,.string g3]] [(15,223),(16,31)] [fun W u=>∃c1 c2 c3,u= .agg #[.map (some c1),.map (some c2),.map (some c3)] /\XH W c1 c2 c3 XB (g1,g2,g3)/\(∀y∈ [c1,c2,c3],y∉r2::T1/\y≠bs)/\Wz AT SB B W xp bs (r2::T1),fun W u=>∃x u0 u1 u2,u= .pointer (some ⟨x,0,none⟩)/\w6.heap.size<=x/\ZU W x [u0,u1,u2] /\Kd W x 74] (some 15) [bs] w6) (by kernel_rfl) (XN _ _) (by kernel_rfl) (by kernel_rfl) (by kernel_rfl) (JR.zero (by decide) (by decide)) ?_ ?_
        ·refine⟨.inr ?_,.inr ?_,.inr ?_,.inr ?_,.inr ?_,.inr ?_,.inr ?_,.inr ?_,.inr ?_,.inr ?_,.inr ?_,.inr ?_,.inr ?_,.inr ?_,.inr ?_,.inr ?_,.inr ?_,.inl rfl,trivial⟩
         ·rintro d v W- -p H K hK
          simp only [z1,z2,z4,z5,z6] at hK ⊢
          go_simp
          exact hK.out _ _ (H.put 0 rfl rfl)
         ·rintro d v W- -p H K hK
          simp only [z1,z2,z4,z5,z6] at hK ⊢
          go_simp
          exact hK.out _ _ (H.put 1 rfl rfl)
         ·rintro d v W- -p H K hK
          have e1:=H.val 1 _ _ _ rfl rfl (Qh p 1)
          have l0:=F6 lb5 H.chg.size
          have q:=(H.chg.cell (p:=⟨b,off,none⟩) lb5 (by simpa using nbb)).trans cO5
          simp only [z1,z2,z4,z5,z6,e1] at hK ⊢
          go_simp
          exact hK.out _ _ (H.put 2 rfl rfl)
         ·rintro d v W- -p H K hK
          have e2:=H.val 2 _ _ _ rfl rfl (Qh p 2)
          simp only [z1,z2,z4,z5,z6,e2] at hK ⊢
          go_simp
          exact hK.out _ _ (H.put 3 rfl rfl)
         ·rintro d v W- -p H K hK
          have e3:=H.val 3 _ _ _ rfl rfl (Qh p 3)
          have l0:=F6 lb5 H.chg.size
          have q:=(H.chg.cell (p:=⟨b,off+10,none⟩) lb5 (by simpa using nbb)).trans cB5
          simp only [z1,z2,z4,z5,z6,e3] at hK ⊢
          go_simp
          exact hK.out _ _ (H.put 4 rfl rfl)
         ·rintro d v W- -p H K hK
          simp only [z1,z2,z4,z5,z6] at hK ⊢
          go_simp
          exact hK.out _ _ (H.put 5 rfl rfl)
         ·rintro d v W- -p H K hK
          have e5:=H.val 5 _ _ _ rfl rfl (Qh p 5)
          have hw:=Zd (z:=place+1) (by omega) (by omega)
          simp only [z1,z2,z4,z5,z6,e5] at hK ⊢
          go_simp
          exact hK.out _ _ (H.put 6 rfl rfl)
         ·rintro d v W- -p H K hK
          simp only [z1,z2,z4,z5,z6] at hK ⊢
          go_simp
          exact hK.out _ _ (H.put 7 rfl rfl)
         ·rintro d v W- -p H K hK
          have e7:=H.val 7 _ _ _ rfl rfl (Qh p 7)
          have l0:=F6 lb5 H.chg.size
          have q:=(H.chg.cell (p:=⟨b,off,none⟩) lb5 (by simpa using nbb)).trans cO5
          simp only [z1,z2,z4,z5,z6,e7] at hK ⊢
          go_simp
          exact hK.out _ _ (H.put 8 rfl rfl)
         ·rintro d v W- -p H K hK
          have e8:=H.val 8 _ _ _ rfl rfl (Qh p 8)
          simp only [z1,z2,z4,z5,z6,e8] at hK ⊢
          go_simp
          exact hK.out _ _ (H.put 9 rfl rfl)
         ·rintro d v W- -p H K hK
          have e9:=H.val 9 _ _ _ rfl rfl (Qh p 9)
          have l0:=F6 lb5 H.chg.size
          have q:=(H.chg.cell (p:=⟨b,off+9,none⟩) lb5 (by simpa using nbb)).trans cA5
          simp only [z1,z2,z4,z5,z6,e9] at hK ⊢
          go_simp
          exact hK.out _ _ (H.put 10 rfl rfl)
         ·intro d v W hC hd p H K hK
          have e10:=H.val 10 _ _ _ rfl rfl (Qh p 10)
          have g:=H.chg
          simp only [z1,z2,z4,z5,z6,e10] at hK ⊢
          go_simp
          go_at_call 13
          refine(Zc a.A uA W.heap.size W (by omega) (lA5.keep g sbl (fun y hy=>by rw [E0.1 hy];exact hbB)).rd (F0 _)).mono ?_
          rintro e W2 ⟨rfl,c2⟩
          dsimp only
          exact hK.out _ _ (H.t2 11 rfl rfl c2 (fun h _=>absurd (Qh (hC 15 _ rfl h) 11) (by simp [hd])) (fun _ HK=>(by obtain⟨x,u0,u1,u2,e,hx,hb,hkd⟩:=HK;exact⟨x,u0,u1,u2,e,hx,hb.keep c2,hkd.keep c2⟩)))
         ·rintro d v W- -p H K hK
          have e6:=H.val 6 _ _ _ rfl rfl (Qh p 6)
          have e11:=H.val 11 _ _ _ rfl rfl (Qh p 11)
          have hw:=Zd (z:=place+1+(Qd a.A:Int)) (by omega) (by omega)
          simp only [z1,z2,z4,z5,z6,e6,e11] at hK ⊢
          go_simp
          exact hK.out _ _ (H.put 12 rfl rfl)
         ·rintro d v W- -p H K hK
          simp only [z1,z2,z4,z5,z6] at hK ⊢
          go_simp
          exact hK.out _ _ (H.put 13 rfl rfl)
         ·rintro d v W- -p H K hK
          have e13:=H.val 13 _ _ _ rfl rfl (Qh p 13)
          have q13:=(E13.kp H.chg).o6
          have f13:=(E13.kp H.chg).f
          simp only [z1,z2,z4,z5,z6,e13] at hK ⊢
          go_simp
          exact hK.out _ _ (H.put 14 rfl rfl)
         ·intro d v W hC hd p H K hK
          have e0:=H.val 0 _ _ _ rfl rfl (Qh p 0)
          have e4:=H.val 4 _ _ _ rfl rfl (Qh p 4)
          have e12:=H.val 12 _ _ _ rfl rfl (Qh p 12)
          have e14:=H.val 14 _ _ _ rfl rfl (Qh p 14)
          have g0:=H.quiet _ rfl hd
          simp only [z1,z2,z4,z5,z6,e0,e4,e12,e14] at hK ⊢
          go_simp
          go_at_call 69
          refine(LB.out W _ (g1,g2,g3) (X6.kz g0) (lB5.keep g0 sbl (by simp)) gsh.1).mono ?_
          rintro e W2 ⟨c1,c2,c3,rfl,ho,hT,hXX,cc⟩
          dsimp only
          have hP:∃c1 c2 c3,_=Value.agg #[.map (some c1),.map (some c2),.map (some c3)] /\XH W2 c1 c2 c3 XB (g1,g2,g3)/\(∀y∈ [c1,c2,c3],y∉r2::T1/\y≠bs)/\Wz AT SB B W2 xp bs (r2::T1):=⟨c1,c2,c3,rfl,ho,hT,hXX⟩
          exact hK.out _ _ (H.n2 _ hP (fun _ HK=>(by obtain⟨x,u0,u1,u2,e,hx,hb,hkd⟩:=HK;exact⟨x,u0,u1,u2,e,hx,hb.kp cc,hkd.kp cc⟩)) (.inl rfl) (g0.ty cc))
         ·intro d v W hC hd p H K hK
          have g:=H.chg
          simp only [z1,z2,z4,z5,z6] at hK ⊢
          go_simp
          have hP:∃x u0 u1 u2,(Value.pointer (some ⟨W.heap.size,0,none⟩))= .pointer (some ⟨x,0,none⟩)/\w6.heap.size<=x/\ZU (W.alloc (.cells #[.map none,.map none,.map none] 74)) x [u0,u1,u2] /\Kd (W.alloc (.cells #[.map none,.map none,.map none] 74)) x 74:=⟨_,_,_,_,rfl,g.size,L9 W _ _,Y3 W _ _ rfl⟩
          exact hK.out _ _ ((H.swap.n2 _ hP (fun _ HK=>(by obtain⟨c1,c2,c3,e,ho,hT,hXX⟩:=HK;have cn:=(B0 [] W).alloc (.cells #[.map none,.map none,.map none] 74);exact⟨c1,c2,c3,e,ho.keep cn C0 (by simp) (by simp) (by simp),hT,hXX.kz cn⟩)) (.inr ((B0 _ _).alloc _)) (H.chg.alloc _)).swap)
        ·refine⟨_,rfl,fun v W H K hK=>?_⟩
         have e0:=H.val 0 _ _ _ rfl rfl (by decide)
         have e1:=H.val 1 _ _ _ rfl rfl (by decide)
         have e2:=H.val 2 _ _ _ rfl rfl (by decide)
         have e3:=H.val 3 _ _ _ rfl rfl (by decide)
         have e4:=H.val 4 _ _ _ rfl rfl (by decide)
         have e5:=H.val 5 _ _ _ rfl rfl (by decide)
         have e6:=H.val 6 _ _ _ rfl rfl (by decide)
         have e7:=H.val 7 _ _ _ rfl rfl (by decide)
         have e8:=H.val 8 _ _ _ rfl rfl (by decide)
         have e9:=H.val 9 _ _ _ rfl rfl (by decide)
         have e10:=H.val 10 _ _ _ rfl rfl (by decide)
         have e11:=H.val 11 _ _ _ rfl rfl (by decide)
         have e12:=H.val 12 _ _ _ rfl rfl (by decide)
         have e13:=H.val 13 _ _ _ rfl rfl (by decide)
         have e14:=H.val 14 _ _ _ rfl rfl (by decide)
         have P15:=H.prop 0 _ _ _ rfl rfl (by decide)
         have P16:=H.prop 1 _ _ _ rfl rfl (by decide)
         have CHW:=H.chg
         clear H
         simp only [z1,z2,z4,z5,e0,e1,e2,e3,e4,e5,e6,e7,e8,e9,e10,e11,e12,e13,e14]
         obtain⟨c1,c2,c3,ec,ho,hT,hXX⟩:=P15
         obtain⟨x15,u0,u1,u2,ex,hx,hb15,hkd⟩:=P16
         rw [ec,ex]
         have hx15:B<=x15:=G5 X6.le hx
         have fq:=hb15.f
         have oq:=hb15.o3
         go_simp
         refine hK.out _ _ ?_
         have cp:=Xz W x15 (.map (some c1)) (.map (some c2)) (.map (some c3))
         have l15:=hb15.lt
         have B15:=hb15.put3 rfl (.map (some c1)) (.map (some c2)) (.map (some c3))
         have x15p:x15≠xp:=by have h1:=Qk X6.ptr;simp only at h1;omega
         have ho7:=ho.keepB cp hkd
         have X7:=hXX.keepB cp hkd ⟨hx15,x15p⟩
         have K15:=hkd.keepW cp
         obtain⟨w7,hw7⟩:∃w7,(((W.setCell ⟨x15,0,none⟩ (.map (some c1))).setCell ⟨x15,1,none⟩ (.map (some c2))).setCell ⟨x15,2,none⟩ (.map (some c3)))=w7:=⟨_,rfl⟩
         rw [hw7] at cp B15 ho7 X7 K15 ⊢
         have c67:Qc [bs] w6 w7:=CHW.trans cp (fun y hy=>.inr (by rw [E0.1 hy];exact hx))
         have z67:=c67.size
         clear hw7 cp fq oq hb15 ho hXX CHW hkd ec
         have o15:=B15.o3
         have f15:=B15.f
         have kc1:=ho7.ok
         have nbs:Qm w6 [bs]:=X6.nz
         have n67:∀ {y:Nat},y∈ [r2,a2,b1,b2,b3,x9] ->y∉ [bs]:=fun {y} hy h=>by
          rw [E0.1 h] at hy
          simp only [C7,F1,or_false] at hy
          omega
         have R7:=Qb ((hR5.keep c6 C0 (by simp) (by simp)).keep c67 nbs (n67 (by simp)) (n67 (by simp)))
         have lt7:leftN w7 a2 r2<leftN wp a2 r2:=by rw [(hR5.keep c6 C0 (by simp) (by simp)).left c67 (n67 (by simp)) (n67 (by simp)),hR5.left c6 (by simp) (by simp)];exact hlt5
         have N7:=(hN2.keep cr6 no).keep c67 nbs (n67 (by simp))
         have A7:=(hA2.keep cr6 no).keep c67 nbs (n67 (by simp))
         have G7:=(hE2.keep cr6 no).keep c67 nbs (n67 (by simp))
         have f7v:=(hf.keep c6 C0).keep c67 nbs
         have D97:=(D9.kp cr6).keep c67 (n67 (by simp))
         have CC7:=Qb ((hc2.trans cr6 (fun y hy=>.inl (by simp at hy ⊢;omega))).trans c67 (fun y hy=>.inl (by simp at hy ⊢;omega)))
         have hTn:∀y∈ [c1,c2,c3],y≠b1/\y≠b2/\y≠b3/\y≠r2:=fun y hy=>by
          have h:=(hT y hy).1
          rw [hT1.out] at h
          simp only [C7,F4,F1,or_false,not_or] at h
          exact⟨h.2.1.2.2.1,h.2.1.2.2.2.1,h.2.1.2.2.2.2,h.1⟩
         obtain⟨nc1_0,nc1_1,nc1_2,nc1_3⟩:=hTn c1 (by simp)
         obtain⟨nc2_0,nc2_1,nc2_2,nc2_3⟩:=hTn c2 (by simp)
         obtain⟨nc3_0,nc3_1,nc3_2,nc3_3⟩:=hTn c3 (by simp)
         have z6:=c6.size
         clear hR5 hN2 hA2 hE2 hX2 hlt5 hf D9 hR X6 E13 c6 cr6 c67 no nbs hent hc5 cO5 cA5 cB5 lA5 lB5 lb5
         obtain⟨r3,hr3⟩:∃r3,w7.heap.size=r3:=⟨_,rfl⟩
         go_wp2_with (first|(at_range;refine ZQ rfl (.tmp 225) _ rfl hu (fun _ _ h=>Xw h) rfl kc1 ?_;intro w8 hR8 hc8 hs8)|fail)
         try rw [show w7.heap.size=r3 from hr3] at hR8
         try rw [show w7.heap.size=r3 from hr3] at hs8
         try rw [show w7.heap.size=r3 from hr3]
         try simp only [Act.put,D0,C8,C9]
         have N8:=N7.keep hc8 C0 (by simp)
         have f8v:=f7v.keep hc8 C0
         have E98:=D97.keep hc8
         have nn3:∀t j,Yr XB (g1,g2,g3) t j->f.length+j.length<=1000000:=fun t j h=>by have h1:=gsh.2.1;have h2:=(gB.out.ok gsh.1 h).2;omega
         obtain⟨ne3_0,ne3_1,ne3_2,ne3_3,ne3_4,ne3_5,ne3_6,ne3_7,ne3_8,ne3_9,ne3_10,ne3_11⟩:b1≠r3/\c1≠r3/\b2≠r3/\b3≠r3/\c2≠r3/\c3≠r3/\x15≠r3/\x9≠r3/\x15≠b1/\x9≠b1/\r2≠r3/\a2≠r3:=by have h1:=N7.lt;have h2:=ho7.lt;have h3:=A7.lt;have h4:=G7.lt;have h5:=B15.lt;have h6:=D97.lt;have h7:=R7.out.lt;omega
         go_loopw [] (fun wr=>∃D3,qG wr Uu QW c1 r3 (Yr XB (g1,g2,g3)) D3/\Qx wr Uu QW b1 (fun k l=>(fun k l=>Yr XA (s1,s2,s4) k l∨UR D (fun f=>Yr XB f.2) k l) k l∨∃j,D3 k j/\l=f++j)/\Qc [b1,r3] w8 wr) (fun wr=>leftN wr c1 r3)
         case atStart=>exact⟨_,hR8,N8.congr (by simp),B0 _ _⟩
         case round=>
          obtain⟨D3,hR,hK,hc⟩:=hrel
          obtain⟨wq,hwq⟩:∃wq:World,wq=wr:=⟨_,rfl⟩
          rw [<-hwq] at hR hK hc ⊢
          clear hwq
          have niq:Qm w8 [b1,r3]:=F7 N8.nz (F7 hR8.nz C0)
          have fvr:=f8v.keep hc niq
          have BX:=E98.kp hc
          have c8q:Qc [b1,r3] w7 wq:=hc8.ty hc
          have q9:=(D97.kp c8q).o3
          have p9:=(D97.kp c8q).f
          have q15:=(B15.kp c8q).o3
          have p15:=(B15.kp c8q).f
          have ni7:Qm w7 [b1,r3]:=fun y hy=>by
           rcases C7.1 hy with rfl|hy
           ·exact N7.nz
           ·rw [E0.1 hy, <-hr3];exact fun cs fr h=>absurd (F5.1 h).1 (i9 _)
          have AE:=Qb (UY (UR D (fun f=>W6 XB f.2)) (W6 XB (g1,g2,g3)) (fun k l=>VB XA (s1,s2,s4) k l∨UR D (fun f=>VB XB f.2) k l) (VB XB (g1,g2,g3)) b2 b3 c2 c3 (some b1) (some c1) v0 f wq (A7.keep c8q ni7) (G7.keep c8q ni7) (ho7.fl.keep c8q ni7) (ho7.em.keep c8q ni7) ⟨nc2_1.symm,nc3_1.symm,nc2_2.symm,nc3_2.symm,by omega⟩ fvr (fun k j h=>by have h1:=gsh.2.1;have h2:=(gB.out.bad gsh.1 h).2.1;omega) (fun k j h=>by obtain⟨_,_,h,_⟩:=h;have h1:=gsh.2.1;have h2:=(gB.out.bad gsh.1 h).2.1;omega) (fun k=>UB dB _ k) (fun k=>qY dB _ k))
          go_upto_region 59 with (first|(at_next;refine ZP rfl (.tmp 226) rfl rfl hR ?_ ?_;rotate_left;rintro⟨g4,g5,g6⟩ j v1 wA hk4 hj hl4 hRA hcA hsA hltA hent;unfold QW at hent ⊢;rotate_right;intro hD)|(go_at_call 101;refine AE.out.mono ?_;rintro e wB ⟨rfl,kA,kG,cB⟩)|fail)
          ·have niB:Qm wq [b2,b3]:=F7 (A7.keep c8q ni7).nz (F7 (G7.keep c8q ni7).nz C0)
           have KF:Qx wq Uu QW b1 (fun k l=>(Yr XA (s1,s2,s4) k l∨UR D (fun f=>Yr XB f.2) k l)∨∃j,Yr XB (g1,g2,g3) k j/\l=f++j):=(hK.congr (fun k l=>by simp only [hD])).front (fun k=>VO dB _ k)
           have cmO:∀k l,(UR D (fun f:Yq=>Yr XB f.2) k l∨∃j,Yr XB (g1,g2,g3) k j/\l=f++j)↔UR (fun s i=>D s i∨(s=((i1,i2,i3),g1,g2,g3)/\i=f)) (fun f:Yq=>Yr XB f.2) k l:=fun k l=>VF (R:=fun f:Yq=>Yr XB f.2) (s0:=((i1,i2,i3),g1,g2,g3)) k l
           have cmA:∀k l,(UR D (fun f:Yq=>W6 XB f.2) k l∨∃j,W6 XB (g1,g2,g3) k j/\l=f++j)↔UR (fun s i=>D s i∨(s=((i1,i2,i3),g1,g2,g3)/\i=f)) (fun f:Yq=>W6 XB f.2) k l:=fun k l=>VF (R:=fun f:Yq=>W6 XB f.2) (s0:=((i1,i2,i3),g1,g2,g3)) k l
           have cmE:∀k l,(UR D (fun f:Yq=>VB XB f.2) k l∨∃j,VB XB (g1,g2,g3) k j/\l=f++j)↔UR (fun s i=>D s i∨(s=((i1,i2,i3),g1,g2,g3)/\i=f)) (fun f:Yq=>VB XB f.2) k l:=fun k l=>VF (R:=fun f:Yq=>VB XB f.2) (s0:=((i1,i2,i3),g1,g2,g3)) k l
           have KN:=(KF.congr (fun k l=>or_assoc.trans (or_congr i7 (cmO k l)))).keep cB niB
           have RN:=(R7.out.keep c8q ni7).keep cB niB
           have LN:=((R7.out.keep c8q ni7).left cB).trans (R7.out.left c8q)
           have X8:Wz AT SB B w8 xp bs (r3::r2::T1):=X7.more hc8 (fun y hy=>by
            rcases C7.1 hy with rfl|hy
            ·exact .inr ⟨by omega,by omega⟩
            ·exact .inl hy)
           have XB':=((X8.keep hc niq (fun y hy=>.inl (by rw [hT1.out];simp only [C7,F1,or_false] at hy;rcases hy with rfl|rfl<;>simp))).keep cB niB (fun y hy=>.inl (by rw [hT1.out];simp only [C7,F1,or_false] at hy;rcases hy with rfl|rfl<;>simp))).less (T':=r2::T1) (fun y hy=>I5 _ hy)
           have CN:=((CC7.out.trans c8q (fun y hy=>by simp only [C7,F1,or_false] at hy;rcases hy with rfl|rfl;exact .inl (by simp);exact .inr (by omega))).trans cB (fun y hy=>.inl (by simp at hy ⊢;omega)))
           go_roundw
           case rel=>exact⟨_,RN,KN,kA.congr cmA,kG.congr (fun k l=>or_assoc.trans (or_congr i7 (cmE k l))),XB',CN⟩
           case measure=>omega
          ·refine Qp fun w9 hw9=>?_
           obtain⟨xk,hxk⟩:∃xk,wA.heap.size=xk:=⟨_,rfl⟩
           have c9:Qc [] wA w9:=by rw [hw9];exact C6
           have E6:ZU w9 xk [.string g4,.string g5,.string g6]:=by rw [hw9, <-hxk];exact L9 wA _ _
           try rw [<-hsA]
           try rw [hxk]
           clear hw9
           have cr9:Qc [r3] wq w9:=hcA.tz c9
           have nq:Qm wq [r3]:=F7 hR.nz C0
           have K5:=hK.keep cr9 nq
           have pv5:=fvr.keep cr9 nq
           have sk:g4.size<=maxLen/\g5.size<=maxLen/\g6.size<=maxLen:=by
            obtain⟨z,e,hz⟩:=hk4
            obtain rfl:=Xw (show QW (g4,g5,g6)=QW z from e)
            exact hz
           have hj5:=hj.keep c9 C0
           have R5:=Qb (hRA.keep c9 C0 (by simp) (by simp))
           have CC:=Qb (hc.trans cr9 (fun x hx=>.inl (by simp at hx ⊢;exact .inr hx)))
           have HL:=Qb (show leftN w9 c1 r3<leftN wq c1 r3 by rw [hRA.left c9 (by simp) (by simp)];exact hltA)
           have lt5:=c9.size
           have ltx:=E6.lt
           have E3:=BX.kp cr9
           have n5:=nn3 _ _ hl4.1
           have JN:=Qb (fun W (c:Qc [] w9 W)=>Ug f j v0 v1 W (pv5.keep c C0) (hj5.keep c C0) n5)
           clear hcA hRA hltA hent hsA hl4 hR hK hc
           refine Ze (b:=⟨#[],[]⟩) 6 [232,233,234,235,236,237] (JR [(0,232),(1,233),(2,234),(3,235),(4,236)] [.pointer (some ⟨x9,0,none⟩),.map (some b1),.agg #[.string g4,.string g5,.string g6],v0,v1] [(5,237)] [fun W u=>Zn W (f++j) u] none [] w9) (by kernel_rfl) (XN _ _) (by kernel_rfl) (by kernel_rfl) (by kernel_rfl) (JR.zero (by decide) (by decide)) ?_ ?_
           ·refine⟨.inr ?_,.inr ?_,.inr ?_,.inr ?_,.inr ?_,.inr ?_,.inl rfl,trivial⟩
            ·rintro d v W- -p H K hK
             simp only [z1,z2,z4,z5] at hK ⊢
             go_simp
             exact hK.out _ _ (H.put 0 rfl rfl)
            ·rintro d v W- -p H K hK
             have e0:=H.val 0 _ _ _ rfl rfl (Qh p 0)
             have q3:=(E3.keep H.chg).o3
             have fq:=(E3.keep H.chg).f
             simp only [z1,z2,z4,z5,e0] at hK ⊢
             go_simp
             exact hK.out _ _ (H.put 1 rfl rfl)
            ·rintro d v W- -p H K hK
             have q6:=(E6.keep H.chg).o3
             have fq:=(E6.keep H.chg).f
             simp only [z1,z2,z4,z5] at hK ⊢
             go_simp
             exact hK.out _ _ (H.put 2 rfl rfl)
            ·rintro d v W- -p H K hK
             simp only [z1,z2,z4,z5] at hK ⊢
             go_simp
             exact hK.out _ _ (H.put 3 rfl rfl)
            ·rintro d v W- -p H K hK
             simp only [z1,z2,z4,z5] at hK ⊢
             go_simp
             exact hK.out _ _ (H.put 4 rfl rfl)
            ·intro d v W hC hd p H K hK
             have e3:=H.val 3 _ _ _ rfl rfl (Qh p 3)
             have e4:=H.val 4 _ _ _ rfl rfl (Qh p 4)
             have g:=H.chg
             simp only [z1,z2,z4,z5,e3,e4] at hK ⊢
             go_simp
             go_at_call 100
             refine(JN.out W g).mono ?_
             rintro e W2 ⟨u,rfl,hP,c2⟩
             dsimp only
             exact hK.out _ _ (H.n1 _ hP (.inr c2) (H.chg.tz c2))
           ·refine⟨_,rfl,fun v W H K hK=>?_⟩
            have e0:=H.val 0 _ _ _ rfl rfl (by decide)
            have e1:=H.val 1 _ _ _ rfl rfl (by decide)
            have e2:=H.val 2 _ _ _ rfl rfl (by decide)
            have e3:=H.val 3 _ _ _ rfl rfl (by decide)
            have e4:=H.val 4 _ _ _ rfl rfl (by decide)
            have P5:=H.prop 0 _ _ _ rfl rfl (by decide)
            have CHW:=H.chg
            clear H
            simp only [z1,z2,z4,z5,e0,e1,e2,e3,e4]
            go_simp
            go_at_call 99
            refine(Vs _ b1 (g4,g5,g6) _ _ W sk.1 sk.2.1 sk.2.2 (K5.keep CHW C0) (P5)).mono ?_
            rintro e W2 ⟨rfl,k2,d2⟩
            refine hK.out _ _ ?_
            have nb9:Qm W [b1]:=F7 (K5.keep CHW C0).nz C0
            have R6:=(R5.out.keep CHW C0).keep d2 nb9
            have l6:=((R5.out.keep CHW C0).left d2).trans (R5.out.left CHW)
            go_roundw
            case rel=>(repeat apply Exists.intro);exact⟨⟨_,R6,k2.congr Wc,(CC.out.tz CHW).trans d2 (fun x hx=>.inl (by simp at hx ⊢;exact .inl hx))⟩,rfl⟩
            case measure=>have:=HL.out;omega
     ·have cwA:Qc [] wA wA:=C6
      have nb9:Qm wA [b3]:=F7 ((KK.out.keep hcA nq).far cwA).nz C0
      have R6:=(hRA.keep cwA C0 (by simp) (by simp)).keep d2 nb9
      have l6:=((hRA.keep cwA C0 (by simp) (by simp)).left d2).trans (hRA.left cwA (by simp) (by simp))
      have CC:=((hc.trans hcA (fun x hx=>.inl (by simp at hx ⊢;exact .inr hx))).tz cwA).trans d2 (fun x hx=>.inl (by simp at hx ⊢;exact .inl hx))
      go_roundw
      case rel=>exact⟨_,R6,k2.congr Wc,CC⟩
      case measure=>omega
   ·have cwA:Qc [] wA (wA.alloc (.cells #[.string g4,.string g5,.string g6] 82)):=C6
    have nb9:Qm (wA.alloc (.cells #[.string g4,.string g5,.string g6] 82)) [b1]:=F7 ((KK.out.keep hcA nq).far cwA).nz C0
    have R6:=(hRA.keep cwA C0 (by simp) (by simp)).keep d2 nb9
    have l6:=((hRA.keep cwA C0 (by simp) (by simp)).left d2).trans (hRA.left cwA (by simp) (by simp))
    have CC:=((hc.trans hcA (fun x hx=>.inl (by simp at hx ⊢;exact .inr hx))).tz cwA).trans d2 (fun x hx=>.inl (by simp at hx ⊢;exact .inl hx))
    go_roundw
    case rel=>exact⟨_,R6,k2.congr Wc,CC⟩
    case measure=>omega
end Go.Proofs.YtjeadhmkghnkkaaGreatDoor
