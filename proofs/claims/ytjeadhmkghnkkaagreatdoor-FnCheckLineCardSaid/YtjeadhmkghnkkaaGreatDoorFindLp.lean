/- find of the explorer. Conditions: as stated. -/
import Derived.Test.YtjeadhmkghnkkaaGreatDoorListX
set_option maxRecDepth 100000
set_option maxHeartbeats 8000000
namespace Go.Proofs.YtjeadhmkghnkkaaGreatDoor
open Go.RowKit

theorem QbE (AT:Int->Option Qa) (SB:Nat->Prop) (B xp bs:Nat) (a:Qa) (h9:a.op=9) (hA:ut AT SB B xp bs a.A) (hB:ut AT SB B xp bs a.B):QcV AT SB B xp bs a:=by
 rintro place b off ⟨s1,s2,s4⟩ T w hX hAct hfit hok hp0 hp1 hcost hW hs
 unfold QW
 have e8:(a.op==8)=false:=by rw [h9];rfl
 have e9:(a.op==9)=true:=by simpa using h9
 obtain⟨uA,uB,hSB,lb,cs,lA,lB⟩:=id hAct
 have op0:=cs.1
 have cs:=Qb cs
 go_enter Tryz.func136,Tryz.ntmps136
 have hm:=UU Tryz.prog
 have hu:Tryz.prog.underlying 70=some (.map 82 25):=by kernel_rfl
 have hu2:Tryz.prog.underlying 71=some (.map 84 25):=by kernel_rfl
 have hu3:Tryz.prog.underlying 72=some (.map 3 25):=by kernel_rfl
 obtain⟨x7,hx7⟩:∃x7,w.heap.size=x7:=⟨_,rfl⟩
 have NO:=Qb (fun W=>Wq W)
 go_upto_region 2 with (first|(go_at_call 97;refine(NO.out _).mono ?_;rintro e w1 ⟨b1,b2,b3,rfl,⟨m1,m2,m3,m4⟩,c1,k1,k2,k3⟩)|fail)
 refine Qp fun w2 hw2=>?_
 have cA:Qc [] w w1:=(show Qc [] w _ from C6).tz c1
 have c2:Qc [] w w2:=by rw [hw2];exact cA.alloc _
 obtain⟨x9,hx9⟩:∃x9,w1.heap.size=x9:=⟨_,rfl⟩
 have e12:Qc [] w1 w2:=by rw [hw2];exact C6
 have s12:w2.heap.size=x9+1:=by rw [hw2, <-hx9];simp
 have b9:b1<x9/\b2<x9/\b3<x9:=by omega
 have hpl:place<=999:=by have:=a.size_eq;omega
 have m0:x7+2<=b1:=by have:=m1;first|omega|(simp [hx7] at this;omega)
 have E7:ZU w2 x7 [.string s1,.string s2,.string s4]:=by rw [hw2, <-hx7];exact(((L9 w _ _).alloc _).keep c1).alloc _
 have E8:ZU w2 (x7+1) [.map none,.map none,.map none]:=by rw [hw2, <-hx7];exact((ZU.newAt (w.alloc _) _ _).keep c1).alloc _
 have K8:Kd w2 (x7+1) 74:=by rw [hw2, <-hx7];exact((Y3 (w.alloc _) _ _).keep c1).alloc _
 have E9:ZU w2 x9 [.map (some b1),.map (some b2),.map (some b3)]:=by rw [hw2, <-hx9];exact L9 w1 _ _
 have K9:Kd w2 x9 74:=by rw [hw2, <-hx9];exact Y3 w1 _ _
 have k1:=fun X hX=>(k1 X hX).keep e12 C0 (by simp)
 have k2:=fun X hX=>(k2 X hX).keep e12 C0 (by simp)
 have k3:=fun X hX=>(k3 X hX).keep e12 C0 (by simp)
 clear hw2 NO
 rw [hx9]
 have l7:=E7.lt
 have l8:=E8.lt
 have l9:=E9.lt
 obtain⟨T1,hT1⟩:∃T1,Hid (T1=[x7+1,x9,b1,b2,b3] ++T):=⟨_,Qb rfl⟩
 have wl:=hX.memo.lt
 have X2:Wz AT SB B w2 xp bs T1:=hX.more c2 (fun y hy=>by
  rw [hT1.out] at hy
  simp only [C7,F4,F1,or_false] at hy
  rcases hy with (rfl|rfl|rfl|rfl|rfl)|hy
  all_goals first|exact .inl hy|exact .inr (by omega))
 have act2:=hAct.keep c2 hX.sb (by simp)
 have lA2:=lA.keep c2 hX.sb (by simp)
 have lB2:=lB.keep c2 hX.sb (by simp)
 have cs2:=Qb (fun(o:Nat) (u:Value) (h:w.cell? ⟨b,o,none⟩=some u)=>(c2.cell (p:=⟨b,o,none⟩) lb (by simp)).trans h)
 have op2:=cs2.out _ _ op0
 have lb2:=F6 lb c2.size
 have hTl:=fun y hy=>(hX.low.2.2 y hy).2
 have sbl:=hX.sb
 have hsh:=Qb hs
 clear hs cA e12 c1 m1 m4 op0 hAct lA lB hX
 obtain⟨hact,okA,okB⟩:=a.ok_iff.1 hok
 have hsz:=a.size_eq
 have hct:=a.cost_eq
 have hWe:=Wf a
 obtain⟨_,fA,fB⟩:=(Qa.fit_eq _ _ _).1 hfit
 have hwA:Qi a.A<=1048576:=by omega
 have hwB:Qi a.B<=1048576:=by omega
 obtain⟨XA,hXA⟩:∃XA,Hid (XA=Vn Qs a.A (place+1)):=⟨_,Qb rfl⟩
 obtain⟨XB,hXB⟩:∃XB,Hid (XB=Vn Qs a.B (place+1+Qd a.A)):=⟨_,Qb rfl⟩
 have gA:Hid (Yu XA (QT a.A) (VS (YH a.A) (place+1) (place+1+Qd a.A))):=Qb (by rw [hXA.out];exact Yy _ okA _)
 have gB:Hid (Yu XB (QT a.B) (VS (YH a.B) (place+1+Qd a.A) (place+1+Qd a.A+Qd a.B))):=Qb (by rw [hXB.out];exact Yy _ okB _)
 have dA:XM XA:=by rw [hXA.out];exact WF _ _
 have dB:XM XB:=by rw [hXB.out];exact WF _ _
 have LA:=Qb (fun(W:World) (T':List Nat) (s:B3) (X:Wz AT SB B W xp bs T') (l:WY SB W a.A uA) (hs:(Vz s).All W8)=>hA (place+1) uA s T' W X l fA okA (by omega) (by omega) (by omega) hwA hs)
 have LB:=Qb (fun(W:World) (T':List Nat) (s:B3) (X:Wz AT SB B W xp bs T') (l:WY SB W a.B uB) (hs:(Vz s).All W8)=>hB (place+1+Qd a.A) uB s T' W X l fB okB (by omega) (by omega) (by omega) hwB hs)
 rw [<-hXA.out] at LA
 rw [<-hXB.out] at LB
 unfold QW at LA LB
 have cA2:=cs2.out _ _ cs.out.2.2.2.2.2.2.2.2.2.1
 have cB2:=cs2.out _ _ cs.out.2.2.2.2.2.2.2.2.2.2
 have nbB:=sbl b hSB
 have hbB:=X2.low.1
 have nbb:b≠bs:=by omega
 have hT1B:∀y∈ [bs,b1,b2,b3],B<=y:=fun y hy=>by
  have h1:=X2.low.2.2
  simp only [C7,F1,or_false] at hy
  rcases hy with rfl|rfl|rfl|rfl
  ·exact hbB
  ·exact(h1 _ (by rw [hT1.out];simp)).1
  ·exact(h1 _ (by rw [hT1.out];simp)).1
  ·exact(h1 _ (by rw [hT1.out];simp)).1
 have hct4:3 * QT a.A+QT a.B<=400000:=by omega
 have hsz1:place+1+Qd a.A+Qd a.B<=1000:=by omega
 have sAn:Qd a.A<=1000/\Qd a.B<=1000:=by omega
 clear cs cs2 hfit hcost hW hact okA okB fA fB hwA hwB hWe hct hsz hp1 act2
 clear dB gB LB hXB
 go_wp2_with fail
 go_loopw [101] (fun i wr=>∃n:Nat,n<=4/\i= .int .i64 n/\Qx wr Uu QW b1 (fun k l=>∃r:Nat,r<n/\Yr ((XA.pow r).took r) (s1,s2,s4) k l)/\Qx wr zS YN b2 (fun k l=>∃r:Nat,r<n/\W6 ((XA.pow r).took r) (s1,s2,s4) k l)/\Qx wr zX Wi b3 (fun k l=>∃r:Nat,r<n/\VB ((XA.pow r).took r) (s1,s2,s4) k l)/\Wz AT SB B wr xp bs T1/\Qc [bs,b1,b2,b3] w2 wr) (fun i _=>4-(intOf i).toNat)
 case atStart=>exact⟨0,by omega,rfl,k1 _ (fun k i h=>by obtain⟨r,h,_⟩:=h;omega),k2 _ (fun k i h=>by obtain⟨r,h,_⟩:=h;omega),k3 _ (fun k i h=>by obtain⟨r,h,_⟩:=h;omega),X2,B0 _ _⟩
 case round=>
  obtain⟨n,hn4,rfl,hN1,hG1,hE1,hX1,hc1⟩:=hrel
  obtain⟨wo,hwo⟩:∃wo:World,wo=wr:=⟨_,rfl⟩
  rw [<-hwo] at hN1 hG1 hE1 hX1 hc1 ⊢
  clear hwo
  by_cases hlt:n<4
  ·obtain⟨nm,hnm⟩:∃nm,wo.heap.size=nm:=⟨_,rfl⟩
   have E7o:=E7.kp hc1
   have l7o:=E7o.lt
   have zo:=hc1.size
   obtain⟨wm,hwm⟩:∃wm,wm=(wo.alloc (.map #[] 0)).alloc (.cells #[.int .i64 (n:Int)] 3):=⟨_,rfl⟩
   have cm:Qc [] wo wm:=by rw [hwm];exact C6
   have hM0:ZH wm Uu nm []:=by rw [hwm, <-hnm];exact(ZH.made wo Uu).chg ((B0 [] _).alloc _) (by simp)
   have hI0:Zn wm [(n:Int)] (.slice (some ⟨nm+1,0,none⟩) 1 1):=by have h:=yJ (wo.alloc (.map #[] 0)) n;rw [hwm,show nm+1=(wo.alloc (.map #[] 0)).heap.size by simp [hnm]];exact h
   have zm:wm.heap.size=nm+2:=by rw [hwm];simp [hnm]
   have hM0h:=Qb hM0
   have hI0h:=Qb hI0
   clear hM0 hI0
   have o7:=(E7o.alloc (.map #[] 0)).o3
   have f7:=(E7o.alloc (.map #[] 0)).f
   have hkc:Uu (.agg #[.string s1,.string s2,.string s4]):=Qb8 hsh.out
   go_wp2_with (first|(refine vz rfl (.tmp 104) (.tmp 105) (.tmp 107) _ rfl Vo trivial hu rfl (show ZH _ Uu nm [] by rw [<-hwm];exact hM0h.out) (key:=QW (s1,s2,s4)) (val:=.slice (some ⟨nm+1,0,none⟩) 1 1) rfl rfl hkc ?_;intro w3 E3 hE3 d3 sz3 hm3)|fail)
   rw [<-hwm] at d3 sz3
   have nI0:Qm wm [nm]:=F7 hM0h.out.nz C0
   have c3:Qc [] wo w3:=cm.trans d3 (fun x hx=>.inr (by rw [E0.1 hx];omega))
   have N3:Qx w3 Uu QW nm (Yr ((XA.pow 0).took n) (s1,s2,s4)):=(Qx.single hE3 hm3 (hI0h.out.keep d3 nI0)).congr (fun k i=>⟨fun h=>⟨[],h.2,by rw [h.1];exact⟨rfl,rfl⟩⟩,fun h=>by obtain⟨j,e,h1,h2⟩:=h;obtain rfl:j=[]:=h1;exact⟨xX h2,e⟩⟩)
   have z3:w3.heap.size=nm+2:=sz3.trans zm
   clear hwm hM0h hI0h hE3 hm3 d3 sz3 o7 f7 cm nI0
   have X3:Wz AT SB B w3 xp bs (nm::T1):=hX1.more c3 (fun y hy=>by
    rcases C7.1 hy with rfl|hy
    ·exact .inr ⟨by omega,by omega⟩
    ·exact .inl hy)
   obtain⟨P2,hP2⟩:∃P2:Yq->List Int->Prop,Hid (P2=fun k l=>∃r:Nat,r<n/\W6 ((XA.pow r).took r) (s1,s2,s4) k l):=⟨_,Qb rfl⟩
   obtain⟨P3,hP3⟩:∃P3:Int->List Int->Prop,Hid (P3=fun k l=>∃r:Nat,r<n/\VB ((XA.pow r).took r) (s1,s2,s4) k l):=⟨_,Qb rfl⟩
   rw [<-hP2.out] at hG1
   rw [<-hP3.out] at hE1
   have N1:=hN1.keep c3 C0 (by simp)
   have G3:Qx w3 zS YN b2 (fun k l=>P2 k l∨W6 ((XA.pow 0).took n) (s1,s2,s4) k l):=(hG1.keep c3 C0 (by simp)).congr (fun k l=>⟨fun h=>.inl h,fun h=>h.resolve_right (fun h=>by obtain⟨_,_,h⟩:=h;exact h)⟩)
   have V3:Qx w3 zX Wi b3 (fun k l=>P3 k l∨VB ((XA.pow 0).took n) (s1,s2,s4) k l):=(hE1.keep c3 C0 (by simp)).congr (fun k l=>⟨fun h=>.inl h,fun h=>h.resolve_right (fun h=>by obtain⟨_,_,⟨_,_,h⟩,_⟩:=h;exact h)⟩)
   have cw3:Qc [bs,b1,b2,b3] w2 w3:=hc1.tz c3
   have hnmx:x9<nm:=by omega
   clear hG1 hE1 hN1 c3
   go_loopw [15,110] (fun now i wr=>∃q nb:Nat,q<=n/\i= .int .i64 q/\now= .map (some nb)/\x9<nb/\Qx wr Uu QW nb (Yr ((XA.pow q).took n) (s1,s2,s4))/\Qx wr zS YN b2 (fun k l=>P2 k l∨W6 ((XA.pow q).took n) (s1,s2,s4) k l)/\Qx wr zX Wi b3 (fun k l=>P3 k l∨VB ((XA.pow q).took n) (s1,s2,s4) k l)/\Wz AT SB B wr xp bs (nb::T1)/\Qc [bs,b2,b3] w3 wr) (fun _ i _=>n-(intOf i).toNat)
   case atStart=>exact⟨0,nm,I3 _,rfl,rfl,hnmx,N3,G3,V3,X3,B0 _ _⟩
   case round=>
    obtain⟨q,nb,hq,rfl,rfl,hnb,hN,hA',hE,hXr,hc⟩:=hrel
    obtain⟨w1',hw1'⟩:∃w1':World,w1'=wr:=⟨_,rfl⟩
    rw [<-hw1'] at hN hA' hE hXr hc ⊢
    clear hw1'
    have lb3:∀y∈ [bs,b2,b3],B<=y:=fun y hy=>hT1B y (by simp at hy ⊢;omega)
    have nb1:b1∉ [bs,b2,b3]:=by have h:=X2.low.2.1;rw [hT1.out] at h;simp only [C7,F4,F1,or_false,not_or] at h ⊢;omega
    by_cases hqn:q<n
    ·obtain⟨XK,hXK⟩:∃XK,Hid (XK=(XA.pow q).took n):=⟨_,Qb rfl⟩
     rw [<-hXK.out] at hN hA' hE
     have gX:Hid (Yu XK (3 * QT a.A+1) (VS (YH a.A) (place+1) (place+1+Qd a.A))):=Qb (by rw [hXK.out];exact Qhk gA.out q n (by omega))
     have dX:XM XK:=by rw [hXK.out];exact(dA.pow q).took (by omega) (by omega)
     obtain⟨nx,hnx⟩:∃nx,w1'.heap.size=nx:=⟨_,rfl⟩
     go_upto_region 25 with fail
     refine Qp fun wa hwa=>?_
     have ca:Qc [] w1' wa:=by rw [hwa];exact C6
     have za:wa.heap.size=nx+1:=by rw [hwa, <-hnx];simp
     have N0:Qx wa Uu QW nx (UR (fun _ _=>False) (fun u=>Yr XA u)):=by rw [hwa, <-hnx];exact Qx.made w1' Uu QW VH
     clear hwa
     try rw [hnx]
     have lnb:nb<nx:=by have h:=hN.lt;omega
     have X4:Wz AT SB B wa xp bs (nx::nb::T1):=hXr.more ca (fun y hy=>by
      rcases C7.1 hy with rfl|hy
      ·exact .inr ⟨by omega,by omega⟩
      ·exact .inl hy)
     have hNa:=hN.keep ca C0 (by simp)
     go_wp2_with (first|(at_range;refine ZQ rfl (.tmp 113) _ rfl hu (fun _ _ h=>Xw h) rfl hNa ?_;intro w4 hR4 hc4 hs4)|fail)
     rw [za] at hR4 hs4 ⊢
     simp only [Act.put,D0,C8,C9]
     have N4:=N0.keep hc4 C0 (by simp)
     have c04:Qc [] w1' w4:=ca.tz hc4
     have A4:=hA'.keep c04 C0 (by simp)
     have G4:=hE.keep c04 C0 (by simp)
     have X5:Wz AT SB B w4 xp bs ((nx+1)::nx::nb::T1):=X4.more hc4 (fun y hy=>by
      rcases C7.1 hy with rfl|hy
      ·exact .inr ⟨by omega,by omega⟩
      ·exact .inl hy)
     have lowT:∀y∈ [bs,b2,b3],y<nx:=fun y hy=>by
      simp only [C7,F1,or_false] at hy
      rcases hy with rfl|rfl|rfl
      ·have h:=hXr.memo.lt;omega
      ·have h:=hA'.lt;omega
      ·have h:=hE.lt;omega
     have bsn:bs≠x9/\bs≠b1/\bs≠b2/\bs≠b3/\bs≠nb:=by
      have h:=hXr.low.2.1
      rw [hT1.out] at h
      simp only [C7,F4,F1,or_false,not_or] at h
      exact⟨h.2.1.2.1,h.2.1.2.2.1,h.2.1.2.2.2.1,h.2.1.2.2.2.2,h.1⟩
     have cw4:Qc [bs,b1,b2,b3] w2 w4:=(cw3.trans hc (fun y hy=>.inl (by simp at hy ⊢;omega))).tz c04
     have F9:=E9.kp cw4
     clear N0 hNa ca hc4 X4 hN hA' hE
     go_loopw [] (fun wr=>∃D,qG wr Uu QW nb (nx+1) (Yr XK (s1,s2,s4)) D/\Qx wr Uu QW nx (UR D (fun u=>Yr XA u))/\Qx wr zS YN b2 (fun k l=>P2 k l∨(W6 XK (s1,s2,s4) k l∨UR D (fun u=>W6 XA u) k l))/\Qx wr zX Wi b3 (fun k l=>P3 k l∨(VB XK (s1,s2,s4) k l∨UR D (fun u=>VB XA u) k l))/\Wz AT SB B wr xp bs ((nx+1)::nx::nb::T1)/\Qc [bs,b2,b3,nx,nx+1] w4 wr) (fun wr=>leftN wr nb (nx+1))
     case atStart=>exact⟨_,hR4,N4,A4.congr (fun k l=>or_congr i7 ⟨fun h=>.inl h,fun h=>h.resolve_right (VH _ _)⟩),G4.congr (fun k l=>or_congr i7 ⟨fun h=>.inl h,fun h=>h.resolve_right (VH _ _)⟩),X5,B0 _ _⟩
     case round=>
      obtain⟨D,hR,hN2,hA2,hE2,hX2,hc2⟩:=hrel
      obtain⟨wp,hwp⟩:∃wp:World,wp=wr:=⟨_,rfl⟩
      rw [<-hwp] at hR hN2 hA2 hE2 hX2 hc2 ⊢
      clear hwp
      have lowS:∀y∈ [bs,b2,b3,nx,nx+1],B<=y:=fun y hy=>by
       have h2:∀y∈(nx+1)::nx::nb::T1,B<=y:=fun y hy=>(hX2.low.2.2 y hy).1
       simp only [C7,F1,or_false] at hy
       rcases hy with rfl|rfl|rfl|rfl|rfl
       ·exact hbB
       ·exact hT1B _ (by simp)
       ·exact hT1B _ (by simp)
       ·exact h2 _ (by simp)
       ·exact h2 _ (by simp)
      have hS5:∀y∈ [bs,b1,b2,b3,nx,nx+1],B<=y:=fun y hy=>by
       simp only [C7,F1,or_false] at hy
       rcases hy with rfl|rfl|rfl|rfl|rfl|rfl
       ·exact hbB
       ·exact hT1B _ (by simp)
       ·exact hT1B _ (by simp)
       ·exact hT1B _ (by simp)
       ·exact lowS _ (by simp)
       ·exact lowS _ (by simp)
      have cwp:Qc [bs,b1,b2,b3,nx,nx+1] w2 wp:=(cw4.mono (T:=[bs,b1,b2,b3,nx,nx+1]) (fun y hy=>.inl (by simp at hy ⊢;omega))).trans hc2 (fun y hy=>.inl (by simp at hy ⊢;omega))
      have D9:=F9.kp hc2
      have z24:=hc2.size
      go_upto_region 28 with (first|(at_next;refine ZP rfl (.tmp 114) rfl rfl hR ?_ ?_;rotate_left;rintro⟨g1,g2,g3⟩ f v0 w5 hk hf hl hR5 hc5 hs5 hlt5 hent;unfold QW at hent ⊢;rotate_right;intro hD)|fail)
      ·have NN:=Qa4 hN2 hD dX
       have AA:=Qdh hA2 hD dX
       have GG:=Qdv hE2 hD dX
       have eT:XK.seq XA=(XA.pow (q+1)).took n:=by rw [hXK.out,Qfa];rfl
       rw [eT] at NN AA GG
       have XT:=hX2.less (T':=nx::T1) (fun y hy=>by
        rcases C7.1 hy with rfl|hy
        ·simp
        ·simp [hy])
       have b37:=hc.size
       have b04:=c04.size
       have CT:=((hc.tz c04).trans hc2 (fun y hy=>by
        simp only [C7,F1,or_false] at hy
        rcases hy with rfl|rfl|rfl|rfl|rfl
        ·exact .inl (by simp)
        ·exact .inl (by simp)
        ·exact .inl (by simp)
        ·exact .inr (by omega)
        ·exact .inr (by omega)))
       go_wp2_with fail
       go_roundw
       case rel=>exact⟨q+1,nx,by omega,by go_num,rfl,by omega,NN,AA,GG,XT,CT⟩
       case measure=>simp [intOf];omega
      ·refine Qp fun w6 hw6=>?_
       obtain⟨x13,hx13⟩:∃x13,w5.heap.size=x13:=⟨_,rfl⟩
       have c6:Qc [] w5 w6:=by rw [hw6];exact C6
       have E13:ZU w6 x13 [.string g1,.string g2,.string g3]:=by rw [hw6, <-hx13];exact L9 w5 _ _
       try rw [<-hs5]
       rw [hx13]
       clear hw6
       have cr6:Qc [nx+1] wp w6:=hc5.tz c6
       have no:Qm wp [nx+1]:=F7 hR.nz C0
       have X6:Wz AT SB B w6 xp bs ((nx+1)::nx::nb::T1):=hX2.keep cr6 no (by simp)
       have l13:=E13.lt
       have wpb:=hX2.memo.lt
       have hx13b:x13≠bs:=by omega
       have gsh:=(gX.out.ok hsh.out hl.1)
       have cw6:Qc [bs,b1,b2,b3,nx,nx+1] w2 w6:=cwp.trans cr6 (fun y hy=>.inl (by simp at hy ⊢;omega))
       have lb5:=F6 lb2 cw6.size
       have nb5:∀S':List Nat,(∀y∈S',B<=y)->b∉S':=fun S' h hb=>by have:=h b hb;omega
       have cO5:=(cw6.cell (p:=⟨b,off,none⟩) lb2 (nb5 _ hS5)).trans op2
       have cA5:=(cw6.cell (p:=⟨b,off+9,none⟩) lb2 (nb5 _ hS5)).trans cA2
       have cB5:=(cw6.cell (p:=⟨b,off+10,none⟩) lb2 (nb5 _ hS5)).trans cB2
       have lA5:=lA2.keep cw6 sbl hS5
       have lB5:=lB2.keep cw6 sbl hS5
       refine Ze (b:=⟨#[],[]⟩) 10 [120,121,122,123,124,125,126,127,128,19] (JR [(0,120),(1,121),(2,122),(3,123),(4,124),(5,125),(6,126),(7,127)] [.pointer (some ⟨xp,0,none⟩),.pointer (some ⟨b,off,none⟩),.pointer (some ⟨b,off,none⟩),.pointer (some ⟨b,off+9,none⟩),uA,.int .i64 place,.int .i64 (place+1),.agg #[.string g1,.string g2,.string g3]] [(8,128),(9,19)] [fun W u=>∃c1 c2 c3,u= .agg #[.map (some c1),.map (some c2),.map (some c3)] /\XH W c1 c2 c3 XA (g1,g2,g3)/\(∀y∈ [c1,c2,c3],y∉(nx+1)::nx::nb::T1/\y≠bs)/\Wz AT SB B W xp bs ((nx+1)::nx::nb::T1),fun W u=>∃x u0 u1 u2,u= .pointer (some ⟨x,0,none⟩)/\w6.heap.size<=x/\ZU W x [u0,u1,u2] /\Kd W x 74] (some 8) [bs] w6) (by kernel_rfl) (XN _ _) (by kernel_rfl) (by kernel_rfl) (by kernel_rfl) (JR.zero (by decide) (by decide)) ?_ ?_
       ·refine⟨.inr ?_,.inr ?_,.inr ?_,.inr ?_,.inr ?_,.inr ?_,.inr ?_,.inr ?_,.inr ?_,.inr ?_,.inl rfl,trivial⟩
        ·rintro d v W- -p H K hK
         simp only [z1,z2,z4,z5,z6] at hK ⊢
         go_simp
         exact hK.out _ _ (H.put 0 rfl rfl)
        ·rintro d v W- -p H K hK
         simp only [z1,z2,z4,z5,z6] at hK ⊢
         go_simp
         exact hK.out _ _ (H.put 1 rfl rfl)
        ·rintro d v W- -p H K hK
         have e1:=H.val 1 _ _ _ rfl rfl (Qh p 1)
         have l0:=F6 lb5 H.chg.size
         have q:=(H.chg.cell (p:=⟨b,off,none⟩) lb5 (by simpa using nbb)).trans cO5
         simp only [z1,z2,z4,z5,z6,e1] at hK ⊢
         go_simp
         exact hK.out _ _ (H.put 2 rfl rfl)
        ·rintro d v W- -p H K hK
         have e2:=H.val 2 _ _ _ rfl rfl (Qh p 2)
         simp only [z1,z2,z4,z5,z6,e2] at hK ⊢
         go_simp
         exact hK.out _ _ (H.put 3 rfl rfl)
        ·rintro d v W- -p H K hK
         have e3:=H.val 3 _ _ _ rfl rfl (Qh p 3)
         have l0:=F6 lb5 H.chg.size
         have q:=(H.chg.cell (p:=⟨b,off+9,none⟩) lb5 (by simpa using nbb)).trans cA5
         simp only [z1,z2,z4,z5,z6,e3] at hK ⊢
         go_simp
         exact hK.out _ _ (H.put 4 rfl rfl)
        ·rintro d v W- -p H K hK
         simp only [z1,z2,z4,z5,z6] at hK ⊢
         go_simp
         exact hK.out _ _ (H.put 5 rfl rfl)
        ·rintro d v W- -p H K hK
         have e5:=H.val 5 _ _ _ rfl rfl (Qh p 5)
         have hw:=Zd (z:=place+1) (by omega) (by omega)
         simp only [z1,z2,z4,z5,z6,e5] at hK ⊢
         go_simp
         exact hK.out _ _ (H.put 6 rfl rfl)
        ·rintro d v W- -p H K hK
         have q13:=(E13.kp H.chg).o3
         have f13:=(E13.kp H.chg).f
         simp only [z1,z2,z4,z5,z6] at hK ⊢
         go_simp
         exact hK.out _ _ (H.put 7 rfl rfl)
        ·intro d v W hC hd p H K hK
         have e0:=H.val 0 _ _ _ rfl rfl (Qh p 0)
         have e4:=H.val 4 _ _ _ rfl rfl (Qh p 4)
         have e6:=H.val 6 _ _ _ rfl rfl (Qh p 6)
         have e7:=H.val 7 _ _ _ rfl rfl (Qh p 7)
         have g0:=H.quiet _ rfl hd
         simp only [z1,z2,z4,z5,z6,e0,e4,e6,e7] at hK ⊢
         go_simp
         go_at_call 69
         refine(LA.out W _ (g1,g2,g3) (X6.kz g0) (lA5.keep g0 sbl (by simp)) gsh.1).mono ?_
         rintro e W2 ⟨c1,c2,c3,rfl,ho,hT,hXX,cc⟩
         dsimp only
         have hP:∃c1 c2 c3,_=Value.agg #[.map (some c1),.map (some c2),.map (some c3)] /\XH W2 c1 c2 c3 XA (g1,g2,g3)/\(∀y∈ [c1,c2,c3],y∉(nx+1)::nx::nb::T1/\y≠bs)/\Wz AT SB B W2 xp bs ((nx+1)::nx::nb::T1):=⟨c1,c2,c3,rfl,ho,hT,hXX⟩
         exact hK.out _ _ (H.n2 _ hP (fun _ HK=>(by obtain⟨x,u0,u1,u2,e,hx,hb,hkd⟩:=HK;exact⟨x,u0,u1,u2,e,hx,hb.kp cc,hkd.kp cc⟩)) (.inl rfl) (g0.ty cc))
        ·intro d v W hC hd p H K hK
         have g:=H.chg
         simp only [z1,z2,z4,z5,z6] at hK ⊢
         go_simp
         have hP:∃x u0 u1 u2,(Value.pointer (some ⟨W.heap.size,0,none⟩))= .pointer (some ⟨x,0,none⟩)/\w6.heap.size<=x/\ZU (W.alloc (.cells #[.map none,.map none,.map none] 74)) x [u0,u1,u2] /\Kd (W.alloc (.cells #[.map none,.map none,.map none] 74)) x 74:=⟨_,_,_,_,rfl,g.size,L9 W _ _,Y3 W _ _ rfl⟩
         exact hK.out _ _ ((H.swap.n2 _ hP (fun _ HK=>(by obtain⟨c1,c2,c3,e,ho,hT,hXX⟩:=HK;have cn:=(B0 [] W).alloc (.cells #[.map none,.map none,.map none] 74);exact⟨c1,c2,c3,e,ho.keep cn C0 (by simp) (by simp) (by simp),hT,hXX.kz cn⟩)) (.inr ((B0 _ _).alloc _)) (H.chg.alloc _)).swap)
       ·refine⟨_,rfl,fun v W H K hK=>?_⟩
        have e0:=H.val 0 _ _ _ rfl rfl (by decide)
        have e1:=H.val 1 _ _ _ rfl rfl (by decide)
        have e2:=H.val 2 _ _ _ rfl rfl (by decide)
        have e3:=H.val 3 _ _ _ rfl rfl (by decide)
        have e4:=H.val 4 _ _ _ rfl rfl (by decide)
        have e5:=H.val 5 _ _ _ rfl rfl (by decide)
        have e6:=H.val 6 _ _ _ rfl rfl (by decide)
        have e7:=H.val 7 _ _ _ rfl rfl (by decide)
        have P8:=H.prop 0 _ _ _ rfl rfl (by decide)
        have P9:=H.prop 1 _ _ _ rfl rfl (by decide)
        have CHW:=H.chg
        clear H
        simp only [z1,z2,z4,z5,e0,e1,e2,e3,e4,e5,e6,e7]
        obtain⟨c1,c2,c3,ec,ho,hT,hXX⟩:=P8
        obtain⟨x15,u0,u1,u2,ex,hx,hb15,hkd⟩:=P9
        rw [ec,ex]
        have hx15:B<=x15:=G5 X6.le hx
        have fq:=hb15.f
        have oq:=hb15.o3
        go_simp
        refine hK.out _ _ ?_
        have cp:=Xz W x15 (.map (some c1)) (.map (some c2)) (.map (some c3))
        have l15:=hb15.lt
        have B15:=hb15.put3 rfl (.map (some c1)) (.map (some c2)) (.map (some c3))
        have x15p:x15≠xp:=by have h1:=Qk X6.ptr;simp only at h1;omega
        have ho7:=ho.keepB cp hkd
        have X7:=hXX.keepB cp hkd ⟨hx15,x15p⟩
        have K15:=hkd.keepW cp
        obtain⟨w7,hw7⟩:∃w7,(((W.setCell ⟨x15,0,none⟩ (.map (some c1))).setCell ⟨x15,1,none⟩ (.map (some c2))).setCell ⟨x15,2,none⟩ (.map (some c3)))=w7:=⟨_,rfl⟩
        rw [hw7] at cp B15 ho7 X7 K15 ⊢
        have c67:Qc [bs] w6 w7:=CHW.trans cp (fun y hy=>.inr (by rw [E0.1 hy];exact hx))
        have z67:=c67.size
        clear hw7 cp fq oq hb15 ho hXX CHW hkd ec
        have o15:=B15.o3
        have f15:=B15.f
        have kc1:=ho7.ok
        have nbs:Qm w6 [bs]:=X6.nz
        have n67:∀ {y:Nat},y∈ [nx+1,nx,nb,b2,b3,x9] ->y∉ [bs]:=fun {y} hy h=>by
         rw [E0.1 h] at hy
         simp only [C7,F1,or_false] at hy
         omega
        have R7:=Qb ((hR5.keep c6 C0 (by simp) (by simp)).keep c67 nbs (n67 (by simp)) (n67 (by simp)))
        have lt7:leftN w7 nb (nx+1)<leftN wp nb (nx+1):=by rw [(hR5.keep c6 C0 (by simp) (by simp)).left c67 (n67 (by simp)) (n67 (by simp)),hR5.left c6 (by simp) (by simp)];exact hlt5
        have N7:=(hN2.keep cr6 no (by simp)).keep c67 nbs (n67 (by simp))
        have A7:=(hA2.keep cr6 no (by simp;omega)).keep c67 nbs (n67 (by simp))
        have G7:=(hE2.keep cr6 no (by simp;omega)).keep c67 nbs (n67 (by simp))
        have f7v:=(hf.keep c6 C0).keep c67 nbs
        have D97:=(D9.keep cr6 (by simp;omega)).keep c67 (n67 (by simp))
        have CC7:=Qb ((hc2.trans cr6 (fun y hy=>.inl (by simp at hy ⊢;omega))).trans c67 (fun y hy=>.inl (by simp at hy ⊢;omega)))
        have hTn:∀y∈ [c1,c2,c3],y≠nx/\y≠b2/\y≠b3:=fun y hy=>by
         have h:=(hT y hy).1
         rw [hT1.out] at h
         simp only [C7,F4,F1,or_false,not_or] at h
         exact⟨h.2.1,h.2.2.2.1.2.2.2.1,h.2.2.2.1.2.2.2.2⟩
        have nc1:=(hTn c1 (by simp)).1
        have nc2:=hTn c2 (by simp)
        have nc3:=hTn c3 (by simp)
        have z6:=c6.size
        clear hR5 hN2 hA2 hE2 hX2 hlt5 hf D9 hR X6 E13 c6 cr6 c67 no nbs hent hc5 cO5 cA5 cB5 lA5 lb5
        obtain⟨r3,hr3⟩:∃r3,w7.heap.size=r3:=⟨_,rfl⟩
        go_wp2_with (first|(at_range;refine ZQ rfl (.tmp 130) _ rfl hu (fun _ _ h=>Xw h) rfl kc1 ?_;intro w8 hR8 hc8 hs8)|fail)
        rw [show w7.heap.size=r3 from hr3] at hR8 hs8 ⊢
        simp only [Act.put,D0,C8,C9]
        have N8:=N7.keep hc8 C0 (by simp)
        have f8v:=f7v.keep hc8 C0
        have nn3:∀t j,Yr XA (g1,g2,g3) t j->f.length+j.length<=1000000:=fun t j h=>by have h1:=gsh.2;have h2:=(gA.out.ok gsh.1 h).2;omega
        have ne3:nx≠r3/\c1≠r3/\x15≠r3/\x15≠nx:=by have h1:=N7.lt;have h2:=kc1.lt;have h3:=B15.lt;omega
        go_loopw [] (fun wr=>∃D3,qG wr Uu QW c1 r3 (Yr XA (g1,g2,g3)) D3/\Qx wr Uu QW nx (fun k l=>(UR D (fun u=>Yr XA u)) k l∨∃j,D3 k j/\l=f++j)/\Qc [nx,r3] w8 wr) (fun wr=>leftN wr c1 r3)
        case atStart=>exact⟨_,hR8,N8.congr (by simp),B0 _ _⟩
        case round=>
         obtain⟨D3,hR,hK,hc⟩:=hrel
         obtain⟨wq,hwq⟩:∃wq:World,wq=wr:=⟨_,rfl⟩
         rw [<-hwq] at hR hK hc ⊢
         clear hwq
         have niq:Qm w8 [nx,r3]:=F7 N8.nz (F7 hR8.nz C0)
         have fvr:=f8v.keep hc niq
         have c8q:Qc [nx,r3] w7 wq:=hc8.ty hc
         have q9:=(D97.kp c8q).o3
         have p9:=(D97.kp c8q).f
         have q15:=(B15.kp c8q).o3
         have p15:=(B15.kp c8q).f
         have ni7:Qm w7 [nx,r3]:=fun y hy=>by
          rcases C7.1 hy with rfl|hy
          ·exact N7.nz
          ·rw [E0.1 hy, <-hr3];exact fun cs fr h=>absurd (F5.1 h).1 (i9 _)
         have lc:c1<r3/\c2<r3/\c3<r3:=by have h:=ho7.lt;omega
         have nb23:b2≠b3/\b2≠c2/\b2≠c3/\b3≠c2/\b3≠c3:=⟨by omega,nc2.2.1.symm,nc3.2.1.symm,nc2.2.2.symm,nc3.2.2.symm⟩
         have nc2r:c2∉ [nx,r3] /\c3∉ [nx,r3]:=by have h1:=nc2.1;have h2:=nc3.1;simp only [C7,F1,or_false,not_or];omega
         have AE:=Qb (UY (fun k l=>P2 k l∨(W6 XK (s1,s2,s4) k l∨UR D (fun u=>W6 XA u) k l)) (W6 XA (g1,g2,g3)) (fun k l=>P3 k l∨(VB XK (s1,s2,s4) k l∨UR D (fun u=>VB XA u) k l)) (VB XA (g1,g2,g3)) b2 b3 c2 c3 (some b1) (some c1) v0 f wq (A7.keep c8q ni7) (G7.keep c8q ni7) (ho7.fl.keep c8q ni7 nc2r.1) (ho7.em.keep c8q ni7 nc2r.2) ⟨nb23.2.1,nb23.2.2.1,nb23.2.2.2.1,nb23.2.2.2.2,nb23.1⟩ fvr (fun k j h=>by have h1:=gsh.2;have h2:=(gA.out.bad gsh.1 h).2.1;omega) (fun k j h=>by obtain⟨_,_,h,_⟩:=h;have h1:=gsh.2;have h2:=(gA.out.bad gsh.1 h).2.1;omega) (fun k=>UB dA _ k) (fun k=>qY dA _ k))
         go_upto_region 32 with (first|(at_next;refine ZP rfl (.tmp 131) rfl rfl hR ?_ ?_;rotate_left;rintro⟨g4,g5,g6⟩ j v1 wA hk4 hj hl4 hRA hcA hsA hltA hent;unfold QW at hent ⊢;rotate_right;intro hD)|(go_at_call 101;refine AE.out.mono ?_;rintro e wB ⟨rfl,kA,kG,cB⟩)|fail)
         ·have nbq:nx≠b2/\nx≠b3/\nx≠c1:=by omega
          have niB:Qm wq [b2,b3]:=F7 (A7.keep c8q ni7).nz (F7 (G7.keep c8q ni7).nz C0)
          have KF:Qx wq Uu QW nx (fun k l=>UR D (fun u=>Yr XA u) k l∨∃j,Yr XA (g1,g2,g3) k j/\l=f++j):=(hK.congr (fun k l=>by simp only [hD])).front (fun k=>VO dA _ k)
          have KN:=(KF.congr (fun k l=>VF k l)).keep cB niB (by simp;omega)
          have nR:nb≠nx/\nb≠r3/\nx+1≠r3/\nb≠b2/\nb≠b3/\nx+1≠b2/\nx+1≠b3:=by omega
          have RN:=(R7.out.keep c8q ni7 (by simp;omega) (by simp;omega)).keep cB niB (by simp;omega) (by simp;omega)
          have LN:=((R7.out.keep c8q ni7 (by simp;omega) (by simp;omega)).left cB (by simp;omega) (by simp;omega)).trans (R7.out.left c8q (by simp;omega) (by simp;omega))
          have X8:Wz AT SB B w8 xp bs (r3::(nx+1)::nx::nb::T1):=X7.more hc8 (fun y hy=>by
           rcases C7.1 hy with rfl|hy
           ·exact .inr ⟨by omega,by omega⟩
           ·exact .inl hy)
          have XB':=((X8.keep hc niq (by simp)).keep cB niB (fun y hy=>.inl (by rw [hT1.out];simp only [C7,F1,or_false] at hy;rcases hy with rfl|rfl<;>simp))).less (T':=(nx+1)::nx::nb::T1) (fun y hy=>I5 _ hy)
          have CN:=((CC7.out.trans c8q (fun y hy=>by simp only [C7,F1,or_false] at hy;rcases hy with rfl|rfl;exact .inl (by simp);exact .inr (by omega))).trans cB (fun y hy=>.inl (by simp at hy ⊢;omega)))
          go_roundw
          case rel=>exact⟨_,RN,KN,kA.congr (fun k l=>QcA (VF k l)),kG.congr (fun k l=>QcA (VF k l)),XB',CN⟩
          case measure=>omega
         ·refine Qp fun w9 hw9=>?_
          obtain⟨xk,hxk⟩:∃xk,wA.heap.size=xk:=⟨_,rfl⟩
          have c9:Qc [] wA w9:=by rw [hw9];exact C6
          have E6:ZU w9 xk [.string g4,.string g5,.string g6]:=by rw [hw9, <-hxk];exact L9 wA _ _
          try rw [<-hsA]
          try rw [hxk]
          clear hw9
          have cr9:Qc [r3] wq w9:=hcA.tz c9
          have nq:Qm wq [r3]:=F7 hR.nz C0
          have K5:=hK.keep cr9 nq
          have pv5:=fvr.keep cr9 nq
          have sk:g4.size<=maxLen/\g5.size<=maxLen/\g6.size<=maxLen:=by
           obtain⟨z,e,hz⟩:=hk4
           obtain rfl:=Xw (show QW (g4,g5,g6)=QW z from e)
           exact hz
          have hj5:=hj.keep c9 C0
          have R5:=Qb (hRA.keep c9 C0 (by simp) (by simp))
          have CC:=Qb (hc.trans cr9 (fun x hx=>.inl (by simp at hx ⊢;exact .inr hx)))
          have HL:=Qb (show leftN w9 c1 r3<leftN wq c1 r3 by rw [hRA.left c9 (by simp) (by simp)];exact hltA)
          have lt5:=c9.size
          have ltx:=E6.lt
          have n5:=nn3 _ _ hl4.1
          have JN:=Qb (fun W (c:Qc [] w9 W)=>Ug f j v0 v1 W (pv5.keep c C0) (hj5.keep c C0) n5)
          clear hcA hRA hltA hent hsA hl4 hR hK hc
          refine Ze (b:=⟨#[],[]⟩) 5 [137,138,139,140,141] (JR [(0,137),(1,138),(2,139),(3,140)] [.map (some nx),.agg #[.string g4,.string g5,.string g6],v0,v1] [(4,141)] [fun W u=>Zn W (f++j) u] none [] w9) (by kernel_rfl) (XN _ _) (by kernel_rfl) (by kernel_rfl) (by kernel_rfl) (JR.zero (by decide) (by decide)) ?_ ?_
          ·refine⟨.inr ?_,.inr ?_,.inr ?_,.inr ?_,.inr ?_,.inl rfl,trivial⟩
           ·rintro d v W- -p H K hK
            simp only [z1,z2,z4,z5] at hK ⊢
            go_simp
            exact hK.out _ _ (H.put 0 rfl rfl)
           ·rintro d v W- -p H K hK
            have q6:=(E6.keep H.chg).o3
            have fq:=(E6.keep H.chg).f
            simp only [z1,z2,z4,z5] at hK ⊢
            go_simp
            exact hK.out _ _ (H.put 1 rfl rfl)
           ·rintro d v W- -p H K hK
            simp only [z1,z2,z4,z5] at hK ⊢
            go_simp
            exact hK.out _ _ (H.put 2 rfl rfl)
           ·rintro d v W- -p H K hK
            simp only [z1,z2,z4,z5] at hK ⊢
            go_simp
            exact hK.out _ _ (H.put 3 rfl rfl)
           ·intro d v W hC hd p H K hK
            have e2:=H.val 2 _ _ _ rfl rfl (Qh p 2)
            have e3:=H.val 3 _ _ _ rfl rfl (Qh p 3)
            have g:=H.chg
            simp only [z1,z2,z4,z5,e2,e3] at hK ⊢
            go_simp
            go_at_call 100
            refine(JN.out W g).mono ?_
            rintro e W2 ⟨u,rfl,hP,c2⟩
            dsimp only
            exact hK.out _ _ (H.n1 _ hP (.inr c2) (H.chg.tz c2))
          ·refine⟨_,rfl,fun v W H K hK=>?_⟩
           have e0:=H.val 0 _ _ _ rfl rfl (by decide)
           have e1:=H.val 1 _ _ _ rfl rfl (by decide)
           have e2:=H.val 2 _ _ _ rfl rfl (by decide)
           have e3:=H.val 3 _ _ _ rfl rfl (by decide)
           have P4:=H.prop 0 _ _ _ rfl rfl (by decide)
           have CHW:=H.chg
           clear H
           simp only [z1,z2,z4,z5,e0,e1,e2,e3]
           go_simp
           go_at_call 99
           refine(Vs _ nx (g4,g5,g6) _ _ W sk.1 sk.2.1 sk.2.2 (K5.keep CHW C0) (P4)).mono ?_
           rintro e W2 ⟨rfl,k2,d2⟩
           refine hK.out _ _ ?_
           have nb9:Qm W [nx]:=F7 (K5.keep CHW C0).nz C0
           have R6:=(R5.out.keep CHW C0).keep d2 nb9
           have l6:=((R5.out.keep CHW C0).left d2).trans (R5.out.left CHW)
           go_roundw
           case rel=>(repeat apply Exists.intro);exact⟨⟨_,R6,k2.congr Wc,(CC.out.tz CHW).trans d2 (fun x hx=>.inl (by simp at hx ⊢;exact .inl hx))⟩,rfl⟩
           case measure=>have:=HL.out;omega
    ·obtain rfl:q=n:=by omega
     have hc9:=hc
     have c3w:=hc.size
     have D9:=(E9.kp cw3).kp hc
     have hN1':=N1.keep hc (F7 X3.memo.nz (F7 G3.nz (F7 V3.nz C0))) nb1
     obtain⟨r7,hr7⟩:∃r7,w1'.heap.size=r7:=⟨_,rfl⟩
     go_wp2_with (first|(at_range;refine ZQ rfl (.tmp 149) _ rfl hu (fun _ _ h=>Xw h) rfl hN ?_;intro w8 hR8 hc8 hs8)|fail)
     rw [hr7] at hR8 hs8 ⊢
     simp only [Act.put,D0,C8,C9]
     have N8:=hN1'.keep hc8 C0 (by simp)
     have E98:=D9.keep hc8
     have ne3:b1≠r7/\nb≠r7/\b1≠nb/\x9≠r7/\x9≠b1/\b2≠r7/\b3≠r7/\b1≠b2/\b1≠b3:=by have h1:=hN1'.lt;have h2:=hN.lt;have h3:=D9.lt;have h4:=hA'.lt;have h5:=hE.lt;omega
     have A8:=hA'.keep hc8 C0 (by simp)
     have G8:=hE.keep hc8 C0 (by simp)
     have X8:Wz AT SB B w8 xp bs (r7::nb::T1):=hXr.more hc8 (fun y hy=>by
      rcases C7.1 hy with rfl|hy
      ·exact .inr ⟨by omega,by omega⟩
      ·exact .inl hy)
     go_loopw [] (fun wr=>∃D3,qG wr Uu QW nb r7 (Yr ((XA.pow q).took q) (s1,s2,s4)) D3/\Qx wr Uu QW b1 (fun k l=>(fun k l=>∃r:Nat,r<q/\Yr ((XA.pow r).took r) (s1,s2,s4) k l) k l∨∃j,D3 k j/\l=[] ++j)/\Qc [b1,r7] w8 wr) (fun wr=>leftN wr nb r7)
     case atStart=>exact⟨_,hR8,N8.congr (by simp),B0 _ _⟩
     case round=>
      obtain⟨D3,hR,hK,hc⟩:=hrel
      obtain⟨wq,hwq⟩:∃wq:World,wq=wr:=⟨_,rfl⟩
      rw [<-hwq] at hR hK hc ⊢
      clear hwq
      have niq:Qm w8 [b1,r7]:=F7 N8.nz (F7 hR8.nz C0)
      have nq:Qm wq [r7]:=F7 hR.nz C0
      have BX:=E98.kp hc
      have bxo:=BX.o3
      have bxf:=BX.f
      have bxl:=BX.lt
      have KK:=Qb hK
      go_wp2_with (first|(at_next;refine ZP rfl (.tmp 150) rfl rfl hR ?_ ?_;rotate_left;rintro⟨g4,g5,g6⟩ j v1 wA hk4 hj hl4 hRA hcA hsA hltA hent;unfold QW at hent hk4 ⊢;have BY:=BX.kp hcA;have byo:=BY.o3;have byf:=BY.f;have byl:=BY.lt;rotate_right;intro hD)|(go_at_call 99;refine(Vs _ b1 (g4,g5,g6) j v1 _ (yg hk4).1 (yg hk4).2.1 (yg hk4).2.2 (KK.out.keep hcA nq).far (hj.keep (C6 (S:=[])) C0)).mono ?_;rintro e wB ⟨rfl,k2,d2⟩)|fail)
      ·have dq:XM ((XA.pow q).took q):=(dA.pow q).took (by omega) (by omega)
       have KF:=(hK.congr (Y:=fun k l=>(∃r:Nat,r<q/\Yr ((XA.pow r).took r) (s1,s2,s4) k l)∨∃j,XC (Yr ((XA.pow q).took q) (s1,s2,s4) k) j/\l=[] ++j) (fun k l=>by simp only [hD])).front (fun k=>VO dq _ k)
       have KN:=KF.congr (Y:=fun k l=>∃r:Nat,r<q+1/\Yr ((XA.pow r).took r) (s1,s2,s4) k l) (fun k l=>(or_congr i7 ⟨fun⟨j,h,e⟩=>by rw [e];exact h,fun h=>⟨l,h,rfl⟩⟩).trans (qu (f:=fun r k l=>Yr ((XA.pow r).took r) (s1,s2,s4) k l) q k l))
       have KA:=(A8.keep hc niq).congr (Y:=fun k l=>∃r:Nat,r<q+1/\W6 ((XA.pow r).took r) (s1,s2,s4) k l) (fun k l=>by rw [hP2.out];exact qu (f:=fun r k l=>W6 ((XA.pow r).took r) (s1,s2,s4) k l) q k l)
       have KE:=(G8.keep hc niq).congr (Y:=fun k l=>∃r:Nat,r<q+1/\VB ((XA.pow r).took r) (s1,s2,s4) k l) (fun k l=>by rw [hP3.out];exact qu (f:=fun r k l=>VB ((XA.pow r).took r) (s1,s2,s4) k l) q k l)
       have XQ:=(X8.keep hc niq (fun y hy=>.inl (by rw [hT1.out];simp only [C7,F1,or_false] at hy;rcases hy with rfl|rfl<;>simp))).less (T':=T1) (fun y hy=>by simp [hy])
       have z38:=cw3.size
       have CQ:=((cw3.trans (hc9.tz hc8) (fun y hy=>.inl (by simp at hy ⊢;omega))).trans hc (fun y hy=>by simp only [C7,F1,or_false] at hy;rcases hy with rfl|rfl;exact .inl (by simp);exact .inr (by omega)))
       go_roundw
       case rel=>exact⟨q+1,by omega,by go_num,KN,KA,KE,XQ,CQ⟩
       case measure=>simp [intOf];omega
      ·have cwA:Qc [] wA (wA.alloc (.cells #[.string g4,.string g5,.string g6] 82)):=C6
       have nb9:Qm (wA.alloc (.cells #[.string g4,.string g5,.string g6] 82)) [b1]:=F7 ((KK.out.keep hcA nq).far cwA).nz C0
       have R6:=(hRA.keep cwA C0 (by simp) (by simp)).keep d2 nb9
       have l6:=((hRA.keep cwA C0 (by simp) (by simp)).left d2).trans (hRA.left cwA (by simp) (by simp))
       have CC:=((hc.trans hcA (fun x hx=>.inl (by simp at hx ⊢;exact .inr hx))).tz cwA).trans d2 (fun x hx=>.inl (by simp at hx ⊢;exact .inl hx))
       go_roundw
       case rel=>exact⟨_,R6,k2.congr Wc,CC⟩
       case measure=>omega
  ·obtain rfl:n=4:=by omega
   have D9:=E9.kp hc1
   have D8:=E8.kp hc1
   have M8:=K8.kp hc1
   have XW:=hX1
   have ex:a.ex Qs place=XA.loop:=by rw [Qa.ex_eq,if_neg (by omega),if_pos h9,hXA.out]
   have hoW:XH wo b1 b2 b3 (a.ex Qs place) (s1,s2,s4):=by
    rw [ex]
    refine⟨hN1.congr (fun k l=>⟨fun⟨r,h,h1⟩=>⟨r,by omega,h1⟩,fun⟨r,h,h1⟩=>⟨r,by omega,h1⟩⟩),hG1.congr (fun k l=>⟨fun⟨r,h,h1⟩=>⟨r,by omega,h1⟩,fun⟨r,h,h1⟩=>⟨r,by omega,h1⟩⟩),hE1.congr (fun k l=>⟨fun⟨r,h,t,e,h1,h2⟩=>⟨t,e,⟨r,by omega,h1⟩,h2⟩,fun⟨t,e,⟨r,h,h1⟩,h2⟩=>⟨r,by omega,t,e,h1,h2⟩⟩)⟩
   have czW:Qc [bs] w wo:=(c2.ty hc1).mono (fun y hy=>by
    simp only [C7,F1,or_false] at hy
    rcases hy with rfl|rfl|rfl|rfl
    ·exact .inl (by simp)
    ·exact .inr (by omega)
    ·exact .inr (by omega)
    ·exact .inr (by omega))
   have o9:=D9.o3
   have p9:=D9.f
   have q8:=D8.o3
   have r8:=D8.f
   have cp2:=Xz wo (x7+1) (.map (some b1)) (.map (some b2)) (.map (some b3))
   have n2x:Qm wo [x7+1]:=F7 M8.nz C0
   have B8:=D8.put3 rfl (.map (some b1)) (.map (some b2)) (.map (some b3))
   have X9:=XW.keep cp2 n2x (fun y hy=>.inl (by rw [E0.1 hy,hT1.out];simp))
   have ho9:=hoW.keep cp2 n2x
   have cz:=(czW.trans cp2 (fun y hy=>.inr (by rw [E0.1 hy];omega)))
   go_wp2_with fail
   have z8:=B8.o3
   have y8:=B8.f
   refine bodyPost_ret (v:=.agg #[.map (some b1),.map (some b2),.map (some b3)]) (by simp only [results,Tryz.results136];go_simp) rfl ?_
   refine⟨b1,b2,b3,rfl,ho9,fun y hy=>?_,X9.less (fun y hy=>by rw [hT1.out];simp [hy]),cz⟩
   simp only [C7,F1,or_false] at hy
   rcases hy with rfl|rfl|rfl<;>exact⟨fun h=>by have:=hTl _ h;omega,by omega⟩
end Go.Proofs.YtjeadhmkghnkkaaGreatDoor
