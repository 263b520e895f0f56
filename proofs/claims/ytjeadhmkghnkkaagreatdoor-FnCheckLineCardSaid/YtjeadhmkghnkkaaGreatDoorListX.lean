/- list of the explorer. Conditions: as stated. -/
import Derived.Test.YtjeadhmkghnkkaaGreatDoorOneX
set_option maxRecDepth 100000
set_option maxHeartbeats 8000000
namespace Go.Proofs.YtjeadhmkghnkkaaGreatDoor
open Go.RowKit

theorem Qc2 (AT:Int->Option Qa) (SB:Nat->Prop) (B xp bs:Nat) (m:List Qa) (hF:∀a∈m,QcV AT SB B xp bs a):ut AT SB B xp bs m:=by
 rintro place ul ⟨s1,s2,s4⟩ T w hX hL hfit hok hp0 hp1 hcost hW hs
 obtain⟨A,cap,eul,hcap,hcm⟩:=hL.sl
 unfold maxLen at hcm
 subst eul
 unfold QW
 have hF:=Qb hF
 go_enter Tryz.func69,Tryz.ntmps69
 have hm:=UU Tryz.prog
 have hu:Tryz.prog.underlying 70=some (.map 82 25):=by kernel_rfl
 obtain⟨x7,hx7⟩:∃x7,w.heap.size=x7:=⟨_,rfl⟩
 have NO:=Qb (fun W=>Wq W)
 go_upto_region 2 with (first|(go_at_call 97;refine(NO.out _).mono ?_;rintro e w1 ⟨b1,b2,b3,rfl,⟨m1,m2,m3,m4⟩,c1,k1,k2,k3⟩)|fail)
 refine Qp fun w2 hw2=>?_
 have cA:Qc [] w w1:=(show Qc [] w _ from C6).tz c1
 have c2:Qc [] w w2:=by rw [hw2];exact cA.alloc _
 obtain⟨x9,hx9⟩:∃x9,w1.heap.size=x9:=⟨_,rfl⟩
 have e12:Qc [] w1 w2:=by rw [hw2];exact C6
 have s12:w2.heap.size=x9+1:=by rw [hw2, <-hx9];simp
 have m0:x7+2<=b1:=by have:=m1;first|omega|(simp [hx7] at this;omega)
 have E7:ZU w2 x7 [.string s1,.string s2,.string s4]:=by rw [hw2, <-hx7];exact(((L9 w _ _).alloc _).keep c1).alloc _
 have E8:ZU w2 (x7+1) [.map none,.map none,.map none]:=by rw [hw2, <-hx7];exact((ZU.newAt (w.alloc _) _ _).keep c1).alloc _
 have K8:Kd w2 (x7+1) 74:=by rw [hw2, <-hx7];exact((Y3 (w.alloc _) _ _).keep c1).alloc _
 have E9:ZU w2 x9 [.map (some b1),.map (some b2),.map (some b3)]:=by rw [hw2, <-hx9];exact L9 w1 _ _
 have K9:Kd w2 x9 74:=by rw [hw2, <-hx9];exact Y3 w1 _ _
 have g2:=(k2 (W6 Rn.skip (s1,s2,s4)) (fun _ _ h=>h)).keep e12 C0 (by simp)
 have g3:=(k3 (VB Rn.skip (s1,s2,s4)) (fun _ _ h=>by obtain⟨_,_,h,_⟩:=h;exact h)).keep e12 C0 (by simp)
 clear hw2 k1 k2 k3 NO
 rw [hx9]
 have lt7:=E7.lt
 have o7:=(E7.alloc (.map #[] 0)).o3
 have f7:=(E7.alloc (.map #[] 0)).f
 have hkc:Uu (.agg #[.string s1,.string s2,.string s4]):=Qb8 hs
 have hM0:ZH (w2.alloc (.map #[] 0)) Uu (x9+1) []:=by rw [<-s12];exact ZH.made w2 Uu
 have cm:Qc [] w2 (w2.alloc (.map #[] 0)):=C6
 go_wp2_with (first|(refine vz rfl (.tmp 19) (.tmp 20) (.const (.slice none 0 0)) _ rfl Vo trivial hu rfl hM0 (key:=QW (s1,s2,s4)) (val:=.slice none 0 0) rfl rfl hkc ?_;intro w3 E3 hE3 d3 sz3 hm3)|fail)
 have c23:Qc [] w2 w3:=cm.trans d3 (fun x hx=>.inr (by rw [E0.1 hx];omega))
 have cw3:Qc [] w w3:=c2.tz c23
 have l7:=E7.lt
 have l8:=E8.lt
 have l9:=E9.lt
 have s23:=c23.size
 have E7:=E7.keep c23
 have E8:=E8.keep c23
 have E9:=E9.keep c23
 have K8:=K8.keep c23
 have K9:=K9.keep c23
 have g2:=g2.keep c23 C0 (by simp)
 have g3:=g3.keep c23 C0 (by simp)
 have z3:x9+2<=w3.heap.size:=by have h:=sz3;simp at h;omega
 have N3:Qx w3 Uu QW (x9+1) (Yr Rn.skip (s1,s2,s4)):=(Qx.single hE3 hm3 (Zn.nil w3 none (I3 _))).congr (fun k i=>⟨fun h=>by rw [h.1,h.2];exact⟨rfl,rfl⟩,fun h=>⟨xX h.2,h.1⟩⟩)
 obtain⟨T1,hT1⟩:∃T1,Hid (T1=[x7+1,x9,b2,b3] ++T):=⟨_,Qb rfl⟩
 have wl:=hX.memo.lt
 have X3:Wz AT SB B w3 xp bs ((x9+1)::T1):=hX.more cw3 (fun y hy=>by
  rw [hT1.out] at hy
  simp only [C7,F4,F1,or_false] at hy
  rcases hy with rfl|(rfl|rfl|rfl|rfl)|hy
  all_goals first|exact .inl hy|exact .inr (by omega))
 have lA:WY SB w3 m (.slice A m.length cap):=hL.keep cw3 hX.sb (by simp)
 have sbl:=hX.sb
 have hTl:=fun y hy=>(hX.low.2.2 y hy).2
 clear hE3 hm3 d3 sz3 hM0 cm e12 cA m1 o7 f7 lt7 c23 c2 hL hX c1
 have hsh:=Qb hs
 have hfith:=Qb hfit
 have hokh:=Qb hok
 clear hs hfit hok
 go_loopw [2,10,24] (fun pl now i wr=>∃k nb,k<=m.length/\i= .int .i64 k/\pl= .int .i64 (place+Qd (m.take k))/\now= .map (some nb)/\x9<nb/\Qx wr Uu QW nb (Yr (Vn Qs (m.take k) place) (s1,s2,s4))/\Qx wr zS YN b2 (W6 (Vn Qs (m.take k) place) (s1,s2,s4))/\Qx wr zX Wi b3 (VB (Vn Qs (m.take k) place) (s1,s2,s4))/\Wz AT SB B wr xp bs (nb::T1)/\Qc [bs,b2,b3] w3 wr) (fun _ _ i _=>m.length-(intOf i).toNat)
 case atStart=>exact⟨0,x9+1,I3 _,rfl,by simp [Qd],rfl,by omega,by rw [T9,Vn];exact N3,by rw [T9,Vn];exact g2,by rw [T9,Vn];exact g3,X3,B0 _ _⟩
 case round=>
  obtain⟨k,nb,hk,rfl,rfl,rfl,hnb,hN,hA,hE,hXr,hc⟩:=hrel
  obtain⟨wo,hwo⟩:∃wo:World,wo=wr:=⟨_,rfl⟩
  rw [<-hwo] at hN hA hE hXr hc ⊢
  clear hwo
  by_cases hlt:k<m.length
  ·have lAo:=lA.keep hc sbl (fun y hy=>by
    have h1:=hXr.low
    have h2:∀y∈T1,B<=y:=fun y hy=>(h1.2.2 y (I5 _ hy)).1
    simp only [C7,F1,or_false] at hy
    rcases hy with rfl|rfl|rfl
    ·exact h1.1
    ·exact h2 _ (by rw [hT1.out];simp)
    ·exact h2 _ (by rw [hT1.out];simp))
   obtain⟨g,cap',eg,_,_,hact⟩:=lAo.act k hlt
   obtain⟨rfl,rfl⟩:A=some (⟨g,0,none⟩:Addr)/\cap=cap':=by injection eg with h1 _ h2;exact⟨h1,h2⟩
   clear eg
   obtain⟨XK,hXK⟩:∃XK,XK=Vn Qs (m.take k) place:=⟨_,rfl⟩
   obtain⟨pk,hpk⟩:∃pk:Int,place+Qd (m.take k)=pk:=⟨_,rfl⟩
   obtain⟨Y,hY⟩:∃Y,Y=m[k].ex Qs pk:=⟨_,rfl⟩
   have hpk0:0<=pk/\pk+m[k].size<=1000/\pk<=1000:=by
    have h1:=Vj m k hlt
    have h2:=zz m (k+1)
    omega
   rw [<-hXK] at hN hA hE
   rw [hpk]
   have hkl:=Qb (show 0<m.length-k by omega)
   have hXKh:=Qb hXK
   have hpkh:=Qb hpk
   have hYh:=Qb hY
   clear hXK hpk hY
   have hmem:m[k] ∈m:=I4 hlt
   have gX:Yu XK (QT (m.take k)) (VS (YH (m.take k)) place (place+Qd (m.take k))):=by rw [hXKh.out];exact Yy _ ((Wh _).2 (fun a ha=>(Wh m).1 hokh.out a (List.mem_of_mem_take ha))) place
   have gY:Yu Y m[k].cost (VS m[k].flat pk (pk+m[k].size)):=by rw [hYh.out];exact Qa.ex_good _ ((Wh m).1 hokh.out _ hmem) pk
   have dX:XM XK:=by rw [hXKh.out];exact WF _ _
   have dY:XM Y:=by rw [hYh.out];exact Qa.ex_dig _ _
   have hck:QT (m.take k)+m[k].cost<=400000:=by
    have h1:=vk m k hlt
    have h2:=qe m (k+1)
    omega
   have gX:=Qb gX
   have gY:=Qb gY
   obtain⟨nx,hnx⟩:∃nx,wo.heap.size=nx:=⟨_,rfl⟩
   go_upto_region 7 with fail
   refine Qp fun wa hwa=>?_
   have ca:Qc [] wo wa:=by rw [hwa];exact C6
   have za:wa.heap.size=nx+1:=by rw [hwa, <-hnx];simp
   have N0:Qx wa Uu QW nx (UR (fun _ _=>False) (fun u=>Yr Y u)):=by rw [hwa, <-hnx];exact Qx.made wo Uu QW VH
   clear hwa
   try rw [hnx]
   have lnb:nb<nx:=by have h:=hN.lt;omega
   have X4:Wz AT SB B wa xp bs (nx::nb::T1):=hXr.more ca (fun y hy=>by
    rcases C7.1 hy with rfl|hy
    ·exact .inr ⟨by omega,by omega⟩
    ·exact .inl hy)
   have hNa:=hN.keep ca C0 (by simp)
   go_wp2_with (first|(at_range;refine ZQ rfl (.tmp 28) _ rfl hu (fun _ _ h=>Xw h) rfl hNa ?_;intro w4 hR4 hc4 hs4)|fail)
   rw [za] at hR4 hs4 ⊢
   simp only [Act.put,D0,C8,C9]
   have N4:=N0.keep hc4 C0 (by simp)
   have c04:Qc [] wo w4:=ca.tz hc4
   have A4:=hA.keep c04 C0 (by simp)
   have G4:=hE.keep c04 C0 (by simp)
   have X5:Wz AT SB B w4 xp bs ((nx+1)::nx::nb::T1):=X4.more hc4 (fun y hy=>by
    rcases C7.1 hy with rfl|hy
    ·exact .inr ⟨by omega,by omega⟩
    ·exact .inl hy)
   have lowT:∀y∈ [bs,b2,b3],y<nx:=fun y hy=>by
    simp only [C7,F1,or_false] at hy
    rcases hy with rfl|rfl|rfl
    ·have h:=hXr.memo.lt;omega
    ·have h:=hA.lt;omega
    ·have h:=hE.lt;omega
   have bsn:bs≠x7/\bs≠x9/\bs≠b2/\bs≠b3/\bs≠nb:=by
    have h:=hXr.low.2.1
    rw [hT1.out] at h
    simp only [C7,F4,F1,or_false,not_or] at h
    refine⟨fun e=>?_,h.2.1.2.1,h.2.1.2.2.1,h.2.1.2.2.2,h.1⟩
    omega
   have actr:=hact.keep c04 sbl (by simp)
   have F9:=(E9.kp hc).keep c04
   clear N0 hNa ca hc4 X4 hN
   go_loopw [] (fun wr=>∃D,qG wr Uu QW nb (nx+1) (Yr XK (s1,s2,s4)) D/\Qx wr Uu QW nx (UR D (fun u=>Yr Y u))/\Qx wr zS YN b2 (fun k l=>W6 XK (s1,s2,s4) k l∨UR D (fun u=>W6 Y u) k l)/\Qx wr zX Wi b3 (fun k l=>VB XK (s1,s2,s4) k l∨UR D (fun u=>VB Y u) k l)/\Wz AT SB B wr xp bs ((nx+1)::nx::nb::T1)/\Qc [bs,b2,b3,nx,nx+1] w4 wr) (fun wr=>leftN wr nb (nx+1))
   case atStart=>exact⟨_,hR4,N4,A4.congr (fun k l=>⟨fun h=>.inl h,fun h=>h.resolve_right (VH _ _)⟩),G4.congr (fun k l=>⟨fun h=>.inl h,fun h=>h.resolve_right (VH _ _)⟩),X5,B0 _ _⟩
   case round=>
    obtain⟨D,hR,hN2,hA2,hE2,hX2,hc2⟩:=hrel
    obtain⟨wp,hwp⟩:∃wp:World,wp=wr:=⟨_,rfl⟩
    rw [<-hwp] at hR hN2 hA2 hE2 hX2 hc2 ⊢
    clear hwp
    have lowS:∀y∈ [bs,b2,b3,nx,nx+1],B<=y:=fun y hy=>by
     have h1:=hX2.low
     have h2:∀y∈(nx+1)::nx::nb::T1,B<=y:=fun y hy=>(h1.2.2 y hy).1
     simp only [C7,F1,or_false] at hy
     rcases hy with rfl|rfl|rfl|rfl|rfl
     ·exact h1.1
     ·exact h2 _ (by rw [hT1.out];simp)
     ·exact h2 _ (by rw [hT1.out];simp)
     ·exact h2 _ (by simp)
     ·exact h2 _ (by simp)
    have act2:=actr.keep hc2 sbl lowS
    have D9:=F9.kp hc2
    have z24:=hc2.size
    go_upto_region 10 with (first|(at_next;refine ZP rfl (.tmp 29) rfl rfl hR ?_ ?_;rotate_left;rintro⟨g1,g2,g3⟩ f v0 w5 hk hf hl hR5 hc5 hs5 hlt5 hent;unfold QW at hent ⊢;rotate_right;intro hD)|fail)
    ·have NN:=Qa4 hN2 hD dX
     have AA:=Qd5 hA2 hD dX
     have GG:=QeU hE2 hD dX
     have eT:Vn Qs (m.take (k+1)) place=XK.seq Y:=by rw [Qeg m k hlt,hXKh.out,hYh.out,hpkh.out]
     rw [<-eT] at NN AA GG
     have XT:=hX2.less (T':=nx::T1) (fun y hy=>by
      rcases C7.1 hy with rfl|hy
      ·simp
      ·simp [hy])
     have eP:place+((Qd (m.take (k+1)):Nat):Int)=pk+(1+Qd m[k].A+Qd m[k].B):=by
      have h1:=Vj m k hlt
      have h2:=m[k].size_eq
      have h3:=hpkh.out
      omega
     have b37:=hc.size
     have b04:=c04.size
     have CT:=Qb (((hc.tz c04).trans hc2 (fun y hy=>by
      simp only [C7,F1,or_false] at hy
      rcases hy with rfl|rfl|rfl|rfl|rfl
      ·exact .inl (by simp)
      ·exact .inl (by simp)
      ·exact .inl (by simp)
      ·exact .inr (by omega)
      ·exact .inr (by omega))))
     obtain⟨uA,uB,_,lg,cs,lAA,lBB⟩:=act2
     have hsz2:=m[k].size_eq
     have cs:=Qb cs
     have kA:∀W,Qc [] wp W->WY SB W m[k].A uA:=fun W c=>lAA.keep c sbl (by simp)
     have kB:∀W,Qc [] wp W->WY SB W m[k].B uB:=fun W c=>lBB.keep c sbl (by simp)
     have kA:=Qb kA
     have kB:=Qb kB
     clear lAA lBB hR hN2 hA2 hE2 D9 hD hX2 hc2 hc c04 actr hact F9 lowS lowT
     obtain⟨VL,hV⟩:∃VL:List Value,VL=[.int .i64 pk,.slice (some ⟨g,0,none⟩) m.length cap,.int .i64 (k:Int),.pointer (some ⟨g,k * 11,none⟩),.pointer (some ⟨g,k * 11+9,none⟩),uA,.int .i64 (Qd m[k].A:Int),.int .i64 (1+(Qd m[k].A:Int)),.slice (some ⟨g,0,none⟩) m.length cap,.int .i64 (k:Int),.pointer (some ⟨g,k * 11,none⟩),.pointer (some ⟨g,k * 11+10,none⟩),uB,.int .i64 (Qd m[k].B:Int),.int .i64 (1+(Qd m[k].A:Int)+(Qd m[k].B:Int)),.int .i64 (pk+(1+(Qd m[k].A:Int)+(Qd m[k].B:Int)))]:=⟨_,rfl⟩
     obtain⟨J,hJ⟩:∃J:(Nat->Bool)->(Nat->Value)->World->Prop,∀d v W,J d v W↔(JG [(0,61),(1,62),(2,63),(3,64),(4,65),(5,66),(6,67),(7,68),(8,69),(9,70),(10,71),(11,72),(12,73),(13,74),(14,75),(15,76)] VL d v/\Qc [] wp W):=⟨_,fun _ _ _=>i7⟩
     refine Ze (b:=⟨#[],[]⟩) 16 [61,62,63,64,65,66,67,68,69,70,71,72,73,74,75,76] J (by kernel_rfl) (XN _ _) (by kernel_rfl) (by kernel_rfl) (by kernel_rfl) ?_ ?_ ?_
     ·exact(hJ _ _ _).2 ⟨UO (by decide),C6⟩
     ·refine⟨.inr ?_,.inr ?_,.inr ?_,.inr ?_,.inr ?_,.inr ?_,.inr ?_,.inr ?_,.inr ?_,.inr ?_,.inr ?_,.inr ?_,.inr ?_,.inr ?_,.inr ?_,.inr ?_,.inl rfl,trivial⟩
      ·intro d v W hC hd hpre hJ1 K hK
       have H:=Qb ((hJ _ _ _).1 hJ1)
       clear hJ1
       clear hpre hC hd
       simp only [Xq,C8,C9]
       go_simp
       refine YD hK (by simp only [Xq,Act.put,D0,C8,C9] <;>rfl) ((hJ _ _ _).2 ⟨Qu (by decide) (by decide) H.out.1 0 _ _ _ rfl (by rw [hV];rfl),H.out.2⟩)
      ·intro d v W hC hd hpre hJ1 K hK
       have H:=Qb ((hJ _ _ _).1 hJ1)
       clear hJ1
       clear hpre hC hd
       simp only [Xq,C8,C9]
       go_simp
       refine YD hK (by simp only [Xq,Act.put,D0,C8,C9] <;>rfl) ((hJ _ _ _).2 ⟨Qu (by decide) (by decide) H.out.1 1 _ _ _ rfl (by rw [hV];rfl),H.out.2⟩)
      ·intro d v W hC hd hpre hJ1 K hK
       have H:=Qb ((hJ _ _ _).1 hJ1)
       clear hJ1
       clear hpre hC hd
       simp only [Xq,C8,C9]
       go_simp
       refine YD hK (by simp only [Xq,Act.put,D0,C8,C9] <;>rfl) ((hJ _ _ _).2 ⟨Qu (by decide) (by decide) H.out.1 2 _ _ _ rfl (by rw [hV];rfl),H.out.2⟩)
      ·intro d v W hC hd hpre hJ1 K hK
       have H:=Qb ((hJ _ _ _).1 hJ1)
       clear hJ1
       have e1:v 62= .slice (some ⟨g,0,none⟩) m.length cap:=H.out.1 1 _ _ _ rfl (by rw [hV];rfl) (Qh hpre 1)
       have e2:v 63= .int .i64 (k:Int):=H.out.1 2 _ _ _ rfl (by rw [hV];rfl) (Qh hpre 2)
       clear hpre hC hd
       simp only [Xq,C8,C9,e1,e2]
       go_simp
       refine YD hK (by simp only [Xq,Act.put,D0,C8,C9,e1,e2] <;>rfl) ((hJ _ _ _).2 ⟨Qu (by decide) (by decide) H.out.1 3 _ _ _ rfl (by rw [hV];rfl),H.out.2⟩)
      ·intro d v W hC hd hpre hJ1 K hK
       have H:=Qb ((hJ _ _ _).1 hJ1)
       clear hJ1
       have e3:v 64= .pointer (some ⟨g,k * 11,none⟩):=H.out.1 3 _ _ _ rfl (by rw [hV];rfl) (Qh hpre 3)
       clear hpre hC hd
       simp only [Xq,C8,C9,e3]
       go_simp
       refine YD hK (by simp only [Xq,Act.put,D0,C8,C9,e3] <;>rfl) ((hJ _ _ _).2 ⟨Qu (by decide) (by decide) H.out.1 4 _ _ _ rfl (by rw [hV];rfl),H.out.2⟩)
      ·intro d v W hC hd hpre hJ1 K hK
       have H:=Qb ((hJ _ _ _).1 hJ1)
       clear hJ1
       have e4:v 65= .pointer (some ⟨g,k * 11+9,none⟩):=H.out.1 4 _ _ _ rfl (by rw [hV];rfl) (Qh hpre 4)
       clear hpre hC hd
       have l0:=F6 lg H.out.2.size
       have q:=(H.out.2.cell (p:=⟨g,k * 11+9,none⟩) lg (by simp)).trans cs.out.2.2.2.2.2.2.2.2.2.1
       simp only [Xq,C8,C9,e4]
       go_simp
       refine YD hK (by simp only [Xq,Act.put,D0,C8,C9,e4] <;>rfl) ((hJ _ _ _).2 ⟨Qu (by decide) (by decide) H.out.1 5 _ _ _ rfl (by rw [hV];rfl),H.out.2⟩)
      ·intro d v W hC hd hpre hJ1 K hK
       have H:=Qb ((hJ _ _ _).1 hJ1)
       clear hJ1
       have e5:v 66=uA:=H.out.1 5 _ _ _ rfl (by rw [hV];rfl) (Qh hpre 5)
       clear hpre
       have g:=H.out.2
       simp only [Xq,C8,C9,e5]
       go_simp
       go_at_call 13
       refine(Zc m[k].A uA W.heap.size W (by omega) (kA.out W g).rd (F0 _)).mono ?_
       rintro e W2 ⟨rfl,c2⟩
       dsimp only
       refine YD hK (by simp only [Xq,Act.put,D0,C8,C9,e5] <;>rfl) ((hJ _ _ _).2 ⟨Qu (by decide) (by decide) H.out.1 6 _ _ _ rfl (by rw [hV];rfl),H.out.2.tz c2⟩)
      ·intro d v W hC hd hpre hJ1 K hK
       have H:=Qb ((hJ _ _ _).1 hJ1)
       clear hJ1
       have e6:v 67= .int .i64 (Qd m[k].A:Int):=H.out.1 6 _ _ _ rfl (by rw [hV];rfl) (Qh hpre 6)
       clear hpre hC hd
       have hw:=Zd (z:=1+(Qd m[k].A:Int)) (by omega) (by omega)
       simp only [Xq,C8,C9,e6]
       go_simp
       refine YD hK (by simp only [Xq,Act.put,D0,C8,C9,e6] <;>rfl) ((hJ _ _ _).2 ⟨Qu (by decide) (by decide) H.out.1 7 _ _ _ rfl (by rw [hV];rfl),H.out.2⟩)
      ·intro d v W hC hd hpre hJ1 K hK
       have H:=Qb ((hJ _ _ _).1 hJ1)
       clear hJ1
       clear hpre hC hd
       simp only [Xq,C8,C9]
       go_simp
       refine YD hK (by simp only [Xq,Act.put,D0,C8,C9] <;>rfl) ((hJ _ _ _).2 ⟨Qu (by decide) (by decide) H.out.1 8 _ _ _ rfl (by rw [hV];rfl),H.out.2⟩)
      ·intro d v W hC hd hpre hJ1 K hK
       have H:=Qb ((hJ _ _ _).1 hJ1)
       clear hJ1
       clear hpre hC hd
       simp only [Xq,C8,C9]
       go_simp
       refine YD hK (by simp only [Xq,Act.put,D0,C8,C9] <;>rfl) ((hJ _ _ _).2 ⟨Qu (by decide) (by decide) H.out.1 9 _ _ _ rfl (by rw [hV];rfl),H.out.2⟩)
      ·intro d v W hC hd hpre hJ1 K hK
       have H:=Qb ((hJ _ _ _).1 hJ1)
       clear hJ1
       have e8:v 69= .slice (some ⟨g,0,none⟩) m.length cap:=H.out.1 8 _ _ _ rfl (by rw [hV];rfl) (Qh hpre 8)
       have e9:v 70= .int .i64 (k:Int):=H.out.1 9 _ _ _ rfl (by rw [hV];rfl) (Qh hpre 9)
       clear hpre hC hd
       simp only [Xq,C8,C9,e8,e9]
       go_simp
       refine YD hK (by simp only [Xq,Act.put,D0,C8,C9,e8,e9] <;>rfl) ((hJ _ _ _).2 ⟨Qu (by decide) (by decide) H.out.1 10 _ _ _ rfl (by rw [hV];rfl),H.out.2⟩)
      ·intro d v W hC hd hpre hJ1 K hK
       have H:=Qb ((hJ _ _ _).1 hJ1)
       clear hJ1
       have e10:v 71= .pointer (some ⟨g,k * 11,none⟩):=H.out.1 10 _ _ _ rfl (by rw [hV];rfl) (Qh hpre 10)
       clear hpre hC hd
       simp only [Xq,C8,C9,e10]
       go_simp
       refine YD hK (by simp only [Xq,Act.put,D0,C8,C9,e10] <;>rfl) ((hJ _ _ _).2 ⟨Qu (by decide) (by decide) H.out.1 11 _ _ _ rfl (by rw [hV];rfl),H.out.2⟩)
      ·intro d v W hC hd hpre hJ1 K hK
       have H:=Qb ((hJ _ _ _).1 hJ1)
       clear hJ1
       have e11:v 72= .pointer (some ⟨g,k * 11+10,none⟩):=H.out.1 11 _ _ _ rfl (by rw [hV];rfl) (Qh hpre 11)
       clear hpre hC hd
       have l0:=F6 lg H.out.2.size
       have q:=(H.out.2.cell (p:=⟨g,k * 11+10,none⟩) lg (by simp)).trans cs.out.2.2.2.2.2.2.2.2.2.2
       simp only [Xq,C8,C9,e11]
       go_simp
       refine YD hK (by simp only [Xq,Act.put,D0,C8,C9,e11] <;>rfl) ((hJ _ _ _).2 ⟨Qu (by decide) (by decide) H.out.1 12 _ _ _ rfl (by rw [hV];rfl),H.out.2⟩)
      ·intro d v W hC hd hpre hJ1 K hK
       have H:=Qb ((hJ _ _ _).1 hJ1)
       clear hJ1
       have e12:v 73=uB:=H.out.1 12 _ _ _ rfl (by rw [hV];rfl) (Qh hpre 12)
       clear hpre
       have g:=H.out.2
       simp only [Xq,C8,C9,e12]
       go_simp
       go_at_call 13
       refine(Zc m[k].B uB W.heap.size W (by omega) (kB.out W g).rd (F0 _)).mono ?_
       rintro e W2 ⟨rfl,c2⟩
       dsimp only
       refine YD hK (by simp only [Xq,Act.put,D0,C8,C9,e12] <;>rfl) ((hJ _ _ _).2 ⟨Qu (by decide) (by decide) H.out.1 13 _ _ _ rfl (by rw [hV];rfl),H.out.2.tz c2⟩)
      ·intro d v W hC hd hpre hJ1 K hK
       have H:=Qb ((hJ _ _ _).1 hJ1)
       clear hJ1
       have e7:v 68= .int .i64 (1+(Qd m[k].A:Int)):=H.out.1 7 _ _ _ rfl (by rw [hV];rfl) (Qh hpre 7)
       have e13:v 74= .int .i64 (Qd m[k].B:Int):=H.out.1 13 _ _ _ rfl (by rw [hV];rfl) (Qh hpre 13)
       clear hpre hC hd
       have hw:=Zd (z:=1+(Qd m[k].A:Int)+(Qd m[k].B:Int)) (by omega) (by omega)
       simp only [Xq,C8,C9,e7,e13]
       go_simp
       refine YD hK (by simp only [Xq,Act.put,D0,C8,C9,e7,e13] <;>rfl) ((hJ _ _ _).2 ⟨Qu (by decide) (by decide) H.out.1 14 _ _ _ rfl (by rw [hV];rfl),H.out.2⟩)
      ·intro d v W hC hd hpre hJ1 K hK
       have H:=Qb ((hJ _ _ _).1 hJ1)
       clear hJ1
       have e0:v 61= .int .i64 pk:=H.out.1 0 _ _ _ rfl (by rw [hV];rfl) (Qh hpre 0)
       have e14:v 75= .int .i64 (1+(Qd m[k].A:Int)+(Qd m[k].B:Int)):=H.out.1 14 _ _ _ rfl (by rw [hV];rfl) (Qh hpre 14)
       clear hpre hC hd
       have hw:=Zd (z:=pk+(1+(Qd m[k].A:Int)+(Qd m[k].B:Int))) (by omega) (by omega)
       simp only [Xq,C8,C9,e0,e14]
       go_simp
       refine YD hK (by simp only [Xq,Act.put,D0,C8,C9,e0,e14] <;>rfl) ((hJ _ _ _).2 ⟨Qu (by decide) (by decide) H.out.1 15 _ _ _ rfl (by rw [hV];rfl),H.out.2⟩)
     ·refine⟨_,rfl,fun v W hJ1 K hK=>?_⟩
      have H:=Qb ((hJ _ _ _).1 hJ1)
      clear hJ1
      have e0:v 61= .int .i64 pk:=H.out.1 0 _ _ _ rfl (by rw [hV];rfl) (by decide)
      have e1:v 62= .slice (some ⟨g,0,none⟩) m.length cap:=H.out.1 1 _ _ _ rfl (by rw [hV];rfl) (by decide)
      have e2:v 63= .int .i64 (k:Int):=H.out.1 2 _ _ _ rfl (by rw [hV];rfl) (by decide)
      have e3:v 64= .pointer (some ⟨g,k * 11,none⟩):=H.out.1 3 _ _ _ rfl (by rw [hV];rfl) (by decide)
      have e4:v 65= .pointer (some ⟨g,k * 11+9,none⟩):=H.out.1 4 _ _ _ rfl (by rw [hV];rfl) (by decide)
      have e5:v 66=uA:=H.out.1 5 _ _ _ rfl (by rw [hV];rfl) (by decide)
      have e6:v 67= .int .i64 (Qd m[k].A:Int):=H.out.1 6 _ _ _ rfl (by rw [hV];rfl) (by decide)
      have e7:v 68= .int .i64 (1+(Qd m[k].A:Int)):=H.out.1 7 _ _ _ rfl (by rw [hV];rfl) (by decide)
      have e8:v 69= .slice (some ⟨g,0,none⟩) m.length cap:=H.out.1 8 _ _ _ rfl (by rw [hV];rfl) (by decide)
      have e9:v 70= .int .i64 (k:Int):=H.out.1 9 _ _ _ rfl (by rw [hV];rfl) (by decide)
      have e10:v 71= .pointer (some ⟨g,k * 11,none⟩):=H.out.1 10 _ _ _ rfl (by rw [hV];rfl) (by decide)
      have e11:v 72= .pointer (some ⟨g,k * 11+10,none⟩):=H.out.1 11 _ _ _ rfl (by rw [hV];rfl) (by decide)
      have e12:v 73=uB:=H.out.1 12 _ _ _ rfl (by rw [hV];rfl) (by decide)
      have e13:v 74= .int .i64 (Qd m[k].B:Int):=H.out.1 13 _ _ _ rfl (by rw [hV];rfl) (by decide)
      have e14:v 75= .int .i64 (1+(Qd m[k].A:Int)+(Qd m[k].B:Int)):=H.out.1 14 _ _ _ rfl (by rw [hV];rfl) (by decide)
      have e15:v 76= .int .i64 (pk+(1+(Qd m[k].A:Int)+(Qd m[k].B:Int))):=H.out.1 15 _ _ _ rfl (by rw [hV];rfl) (by decide)
      have CHW:=H.out.2
      clear H hJ J hV
      simp only [Xq,C8,C9,e0,e1,e2,e3,e4,e5,e6,e7,e8,e9,e10,e11,e12,e13,e14,e15]
      go_simp
      refine hK.out _ _ ?_
      go_wp2_with fail
      go_roundw
      case rel=>exact⟨k+1,nx,by have:=hkl.out;omega,by go_num,by rw [eP],rfl,by omega,NN.keep CHW C0 (by simp),AA.keep CHW C0 (by simp),GG.keep CHW C0 (by simp),XT.kz CHW,CT.out.tz CHW⟩
      case measure=>have:=hkl.out;simp [intOf];omega
    ·refine Qp fun w6 hw6=>?_
     obtain⟨x13,hx13⟩:∃x13,w5.heap.size=x13:=⟨_,rfl⟩
     have c6:Qc [] w5 w6:=by rw [hw6];exact C6
     have E13:ZU w6 x13 [.string g1,.string g2,.string g3]:=by rw [hw6, <-hx13];exact L9 w5 _ _
     try rw [<-hs5]
     rw [hx13]
     clear hw6
     have cr6:Qc [nx+1] wp w6:=hc5.tz c6
     have no:Qm wp [nx+1]:=F7 hR.nz C0
     have X6:Wz AT SB B w6 xp bs ((nx+1)::nx::nb::T1):=hX2.keep cr6 no (by simp)
     have l13:=E13.lt
     have wpb:=hX2.memo.lt
     have hx13b:x13≠bs:=by omega
     have gsh:=(gX.out.ok hsh.out hl.1)
     have act6:=act2.keep cr6 sbl (fun y hy=>lowS y (by rw [E0.1 hy];simp))
     have hpt:=Qb X6.ptr
     have ONX:=Qb (fun W (hc:Qc [] w6 W)=>Qfe AT SB B m[k] pk g1 g2 g3 g (k * 11) xp bs ((nx+1)::nx::nb::T1) W (X6.kz hc) (((Qa.fit_eq _ _ _).1 (by rw [<-hpkh.out];exact k9 hlt hfith.out)).1) (act6.elim fun _ h=>h.elim fun _ h=>h.1) (fun W' T' hx' hcc=>hF.out m[k] hmem pk g (k * 11) (g1,g2,g3) T' W' hx' (act6.keep (hc.tz hcc) sbl (by simp)) (by rw [<-hpkh.out];exact k9 hlt hfith.out) ((Wh m).1 hokh.out _ hmem) hpk0.1 hpk0.2.1 (by omega) (by have h1:=zi hmem;unfold Qi at hW;omega) gsh.1))
     rw [<-hYh.out] at ONX
     refine Ze (b:=⟨#[],[]⟩) 8 [35,36,37,38,39,40,41,15] (JR [(0,35),(1,36),(2,37),(3,38),(4,39),(5,40)] [.pointer (some ⟨xp,0,none⟩),.slice (some ⟨g,0,none⟩) m.length cap,.int .i64 (k:Int),.pointer (some ⟨g,k * 11,none⟩),.int .i64 pk,.agg #[.string g1,.string g2,.string g3]] [(6,41),(7,15)] [fun W u=>∃c1 c2 c3,u= .agg #[.map (some c1),.map (some c2),.map (some c3)] /\XH W c1 c2 c3 Y (g1,g2,g3)/\(∀y∈ [c1,c2,c3],y∉(nx+1)::nx::nb::T1/\y≠bs)/\Wz AT SB B W xp bs ((nx+1)::nx::nb::T1),fun W u=>∃x u0 u1 u2,u= .pointer (some ⟨x,0,none⟩)/\w6.heap.size<=x/\ZU W x [u0,u1,u2] /\Kd W x 74] (some 6) [bs] w6) (by kernel_rfl) (XN _ _) (by kernel_rfl) (by kernel_rfl) (by kernel_rfl) (JR.zero (by decide) (by decide)) ?_ ?_
     ·refine⟨.inr ?_,.inr ?_,.inr ?_,.inr ?_,.inr ?_,.inr ?_,.inr ?_,.inr ?_,.inl rfl,trivial⟩
      ·rintro d v W- -p H K hK
       simp only [z1,z2,z4,z5,z6] at hK ⊢
       go_simp
       exact hK.out _ _ (H.put 0 rfl rfl)
      ·rintro d v W- -p H K hK
       simp only [z1,z2,z4,z5,z6] at hK ⊢
       go_simp
       exact hK.out _ _ (H.put 1 rfl rfl)
      ·rintro d v W- -p H K hK
       simp only [z1,z2,z4,z5,z6] at hK ⊢
       go_simp
       exact hK.out _ _ (H.put 2 rfl rfl)
      ·rintro d v W- -p H K hK
       have e1:=H.val 1 _ _ _ rfl rfl (Qh p 1)
       have e2:=H.val 2 _ _ _ rfl rfl (Qh p 2)
       simp only [z1,z2,z4,z5,z6,e1,e2] at hK ⊢
       go_simp
       exact hK.out _ _ (H.put 3 rfl rfl)
      ·rintro d v W- -p H K hK
       simp only [z1,z2,z4,z5,z6] at hK ⊢
       go_simp
       exact hK.out _ _ (H.put 4 rfl rfl)
      ·rintro d v W- -p H K hK
       have q13:=(E13.kp H.chg).o3
       have f13:=(E13.kp H.chg).f
       simp only [z1,z2,z4,z5,z6] at hK ⊢
       go_simp
       exact hK.out _ _ (H.put 5 rfl rfl)
      ·intro d v W hC hd p H K hK
       have e0:=H.val 0 _ _ _ rfl rfl (Qh p 0)
       have e3:=H.val 3 _ _ _ rfl rfl (Qh p 3)
       have e4:=H.val 4 _ _ _ rfl rfl (Qh p 4)
       have e5:=H.val 5 _ _ _ rfl rfl (Qh p 5)
       have g0:=H.quiet _ rfl hd
       simp only [z1,z2,z4,z5,z6,e0,e3,e4,e5] at hK ⊢
       go_simp
       go_at_call 98
       refine(ONX.out W g0).mono ?_
       rintro e W2 ⟨c1,c2,c3,rfl,ho,hT,hXX,cc⟩
       dsimp only
       have hP:∃c1 c2 c3,_=Value.agg #[.map (some c1),.map (some c2),.map (some c3)] /\XH W2 c1 c2 c3 Y (g1,g2,g3)/\(∀y∈ [c1,c2,c3],y∉(nx+1)::nx::nb::T1/\y≠bs)/\Wz AT SB B W2 xp bs ((nx+1)::nx::nb::T1):=⟨c1,c2,c3,rfl,ho,hT,hXX⟩
       exact hK.out _ _ (H.n2 _ hP (fun _ HK=>(by obtain⟨x,u0,u1,u2,e,hx,hb,hkd⟩:=HK;exact⟨x,u0,u1,u2,e,hx,hb.kp cc,hkd.kp cc⟩)) (.inl rfl) (g0.ty cc))
      ·intro d v W hC hd p H K hK
       have g:=H.chg
       simp only [z1,z2,z4,z5,z6] at hK ⊢
       go_simp
       have hP:∃x u0 u1 u2,(Value.pointer (some ⟨W.heap.size,0,none⟩))= .pointer (some ⟨x,0,none⟩)/\w6.heap.size<=x/\ZU (W.alloc (.cells #[.map none,.map none,.map none] 74)) x [u0,u1,u2] /\Kd (W.alloc (.cells #[.map none,.map none,.map none] 74)) x 74:=⟨_,_,_,_,rfl,g.size,L9 W _ _,Y3 W _ _ rfl⟩
       exact hK.out _ _ ((H.swap.n2 _ hP (fun _ HK=>(by obtain⟨c1,c2,c3,e,ho,hT,hXX⟩:=HK;have cn:=(B0 [] W).alloc (.cells #[.map none,.map none,.map none] 74);exact⟨c1,c2,c3,e,ho.keep cn C0 (by simp) (by simp) (by simp),hT,hXX.kz cn⟩)) (.inr ((B0 _ _).alloc _)) (H.chg.alloc _)).swap)
     ·refine⟨_,rfl,fun v W H K hK=>?_⟩
      have e0:=H.val 0 _ _ _ rfl rfl (by decide)
      have e1:=H.val 1 _ _ _ rfl rfl (by decide)
      have e2:=H.val 2 _ _ _ rfl rfl (by decide)
      have e3:=H.val 3 _ _ _ rfl rfl (by decide)
      have e4:=H.val 4 _ _ _ rfl rfl (by decide)
      have e5:=H.val 5 _ _ _ rfl rfl (by decide)
      have P6:=H.prop 0 _ _ _ rfl rfl (by decide)
      have P7:=H.prop 1 _ _ _ rfl rfl (by decide)
      have CHW:=H.chg
      clear H
      simp only [z1,z2,z4,z5,e0,e1,e2,e3,e4,e5]
      obtain⟨c1,c2,c3,ec,ho,hT,hXX⟩:=P6
      obtain⟨x15,u0,u1,u2,ex,hx,hb15,hkd⟩:=P7
      rw [ec,ex]
      have fq:=hb15.f
      have oq:=hb15.o3
      go_simp
      refine hK.out _ _ ?_
      have cp:=Xz W x15 (.map (some c1)) (.map (some c2)) (.map (some c3))
      have l15:=hb15.lt
      have z6:=c6.size
      have B15:=hb15.put3 rfl (.map (some c1)) (.map (some c2)) (.map (some c3))
      have x15n:B<=x15/\x15≠xp:=by have h1:=Qk hpt.out;have h2:=X6.le;simp only at h1;exact⟨by omega,by omega⟩
      have ho7:=ho.keepB cp hkd
      have X7:=hXX.keepB cp hkd x15n
      obtain⟨w7,hw7⟩:∃w7,(((W.setCell ⟨x15,0,none⟩ (.map (some c1))).setCell ⟨x15,1,none⟩ (.map (some c2))).setCell ⟨x15,2,none⟩ (.map (some c3)))=w7:=⟨_,rfl⟩
      rw [hw7] at cp B15 ho7 X7 ⊢
      have c67:Qc [bs] w6 w7:=CHW.trans cp (fun y hy=>.inr (by rw [E0.1 hy];exact hx))
      have z67:=c67.size
      have z77:=cp.size
      clear hw7 cp fq oq hb15 ho hXX CHW hkd ONX hpt e0 e1 e2 e3 e4 e5 ec ex
      have nbs:Qm w6 [bs]:=X6.nz
      have n67:∀ {y:Nat},y∈ [nx+1,nx,nb,b2,b3,x9] ->y∉ [bs]:=fun {y} hy h=>by
       rw [E0.1 h] at hy
       simp only [C7,F1,or_false] at hy
       omega
      have R7:=Qb ((hR5.keep c6 C0 (by simp) (by simp)).keep c67 nbs (n67 (by simp)) (n67 (by simp)))
      have lt7:leftN w7 nb (nx+1)<leftN wp nb (nx+1):=by rw [(hR5.keep c6 C0 (by simp) (by simp)).left c67 (n67 (by simp)) (n67 (by simp)),hR5.left c6 (by simp) (by simp)];exact hlt5
      have N7:=(hN2.keep cr6 no (by simp)).keep c67 nbs (n67 (by simp))
      have A7:=(hA2.keep cr6 no (by simp;omega)).keep c67 nbs (n67 (by simp))
      have G7:=(hE2.keep cr6 no (by simp;omega)).keep c67 nbs (n67 (by simp))
      have f7v:=(hf.keep c6 C0).keep c67 nbs
      have D97:=(D9.keep cr6 (by simp;omega)).keep c67 (n67 (by simp))
      have CC7:=Qb ((hc2.trans cr6 (fun y hy=>.inl (by simp at hy ⊢;omega))).trans c67 (fun y hy=>.inl (by simp at hy ⊢;omega)))
      have hTn:∀y∈ [c1,c2,c3],y≠nx/\y≠b2/\y≠b3:=fun y hy=>by
       have h:=(hT y hy).1
       rw [hT1.out] at h
       simp only [C7,F4,F1,or_false,not_or] at h
       exact⟨h.2.1,h.2.2.2.1.2.2.1,h.2.2.2.1.2.2.2⟩
      have nc1:=(hTn c1 (by simp)).1
      have nc2:=hTn c2 (by simp)
      have nc3:=hTn c3 (by simp)
      have o15:=B15.o3
      have f15:=B15.f
      have kc1:=ho7.ok
      clear hR5 hN2 hA2 hE2 hX2 hlt5 hf D9 hR X6 E13 c6 cr6 c67 no nbs hent hc5 act2 act6
      obtain⟨r3,hr3⟩:∃r3,w7.heap.size=r3:=⟨_,rfl⟩
      go_wp2_with (first|(at_range;refine ZQ rfl (.tmp 43) _ rfl hu (fun _ _ h=>Xw h) rfl kc1 ?_;intro w8 hR8 hc8 hs8)|fail)
      rw [show w7.heap.size=r3 from hr3] at hR8 hs8 ⊢
      simp only [Act.put,D0,C8,C9]
      have N8:=N7.keep hc8 C0 (by simp)
      have f8v:=f7v.keep hc8 C0
      have nn3:∀t j,Yr Y (g1,g2,g3) t j->f.length+j.length<=1000000:=fun t j h=>by have h1:=gsh.2;have h2:=(gY.out.ok gsh.1 h).2;omega
      have ne3:nx≠r3/\c1≠r3:=by have h1:=N7.lt;have h2:=kc1.lt;omega
      go_loopw [] (fun wr=>∃D3,qG wr Uu QW c1 r3 (Yr Y (g1,g2,g3)) D3/\Qx wr Uu QW nx (fun k l=>(UR D (fun u=>Yr Y u)) k l∨∃j,D3 k j/\l=f++j)/\Qc [nx,r3] w8 wr) (fun wr=>leftN wr c1 r3)
      case atStart=>exact⟨_,hR8,N8.congr (by simp),B0 _ _⟩
      case round=>
       obtain⟨D3,hR,hK,hc⟩:=hrel
       obtain⟨wq,hwq⟩:∃wq:World,wq=wr:=⟨_,rfl⟩
       rw [<-hwq] at hR hK hc ⊢
       clear hwq
       have niq:Qm w8 [nx,r3]:=F7 N8.nz (F7 hR8.nz C0)
       have fvr:=f8v.keep hc niq
       have c8q:Qc [nx,r3] w7 wq:=hc8.ty hc
       have q9:=(D97.kp c8q).o3
       have p9:=(D97.kp c8q).f
       have q15:=(B15.kp c8q).o3
       have p15:=(B15.kp c8q).f
       have ni7:Qm w7 [nx,r3]:=fun y hy=>by
        rcases C7.1 hy with rfl|hy
        ·exact N7.nz
        ·rw [E0.1 hy, <-hr3];exact fun cs fr h=>absurd (F5.1 h).1 (i9 _)
       have lc:c1<r3/\c2<r3/\c3<r3:=by have h:=ho7.lt;omega
       have nb23:b2≠b3/\b2≠c2/\b2≠c3/\b3≠c2/\b3≠c3:=⟨by omega,nc2.2.1.symm,nc3.2.1.symm,nc2.2.2.symm,nc3.2.2.symm⟩
       have nc2r:c2∉ [nx,r3] /\c3∉ [nx,r3]:=by have h1:=nc2.1;have h2:=nc3.1;simp only [C7,F1,or_false,not_or];omega
       have AE:=Qb (UY (fun k l=>W6 XK (s1,s2,s4) k l∨UR D (fun u=>W6 Y u) k l) (W6 Y (g1,g2,g3)) (fun k l=>VB XK (s1,s2,s4) k l∨UR D (fun u=>VB Y u) k l) (VB Y (g1,g2,g3)) b2 b3 c2 c3 (some b1) (some c1) v0 f wq (A7.keep c8q ni7) (G7.keep c8q ni7) (ho7.fl.keep c8q ni7 nc2r.1) (ho7.em.keep c8q ni7 nc2r.2) ⟨nb23.2.1,nb23.2.2.1,nb23.2.2.2.1,nb23.2.2.2.2,nb23.1⟩ fvr (fun k j h=>by have h1:=gsh.2;have h2:=(gY.out.bad gsh.1 h).2.1;omega) (fun k j h=>by obtain⟨_,_,h,_⟩:=h;have h1:=gsh.2;have h2:=(gY.out.bad gsh.1 h).2.1;omega) (fun k=>UB dY _ k) (fun k=>qY dY _ k))
       go_upto_region 14 with (first|(at_next;refine ZP rfl (.tmp 44) rfl rfl hR ?_ ?_;rotate_left;rintro⟨g4,g5,g6⟩ j v1 wA hk4 hj hl4 hRA hcA hsA hltA hent;unfold QW at hent ⊢;rotate_right;intro hD)|(go_at_call 101;refine AE.out.mono ?_;rintro e wB ⟨rfl,kA,kG,cB⟩)|fail)
       ·have nbq:nx≠b2/\nx≠b3/\nx≠c1:=by omega
        have KF:Qx wq Uu QW nx (fun k l=>UR D (fun u=>Yr Y u) k l∨∃j,Yr Y (g1,g2,g3) k j/\l=f++j):=(hK.congr (fun k l=>by simp only [hD])).front (fun k=>VO dY _ k)
        have KN:=((KF.congr (fun k l=>VF k l)).keep cB (F7 (A7.keep c8q ni7).nz (F7 (G7.keep c8q ni7).nz C0)) (by simp;omega))
        have niB:Qm wq [b2,b3]:=F7 (A7.keep c8q ni7).nz (F7 (G7.keep c8q ni7).nz C0)
        have nR:nb≠nx/\nb≠r3/\nx+1≠r3/\nb≠b2/\nb≠b3/\nx+1≠b2/\nx+1≠b3:=by omega
        have RN:=(R7.out.keep c8q ni7 (by simp;omega) (by simp;omega)).keep cB niB (by simp;omega) (by simp;omega)
        have LN:=((R7.out.keep c8q ni7 (by simp;omega) (by simp;omega)).left cB (by simp;omega) (by simp;omega)).trans (R7.out.left c8q (by simp;omega) (by simp;omega))
        have X8:Wz AT SB B w8 xp bs (r3::(nx+1)::nx::nb::T1):=X7.more hc8 (fun y hy=>by
         rcases C7.1 hy with rfl|hy
         ·exact .inr ⟨by omega,by omega⟩
         ·exact .inl hy)
        have XB:=((X8.keep hc niq (by simp)).keep cB niB (fun y hy=>.inl (by rw [hT1.out];simp only [C7,F1,or_false] at hy;rcases hy with rfl|rfl<;>simp))).less (T':=(nx+1)::nx::nb::T1) (fun y hy=>I5 _ hy)
        have CN:=((CC7.out.trans c8q (fun y hy=>by simp only [C7,F1,or_false] at hy;rcases hy with rfl|rfl;exact .inl (by simp);exact .inr (by omega))).trans cB (fun y hy=>.inl (by simp at hy ⊢;omega)))
        go_roundw
        case rel=>exact⟨_,RN,KN,kA.congr (fun k l=>or_assoc.trans (or_congr i7 (VF k l))),kG.congr (fun k l=>or_assoc.trans (or_congr i7 (VF k l))),XB,CN⟩
        case measure=>omega
       ·refine Qp fun w9 hw9=>?_
        obtain⟨xk,hxk⟩:∃xk,wA.heap.size=xk:=⟨_,rfl⟩
        have c9:Qc [] wA w9:=by rw [hw9];exact C6
        have E6:ZU w9 xk [.string g4,.string g5,.string g6]:=by rw [hw9, <-hxk];exact L9 wA _ _
        try rw [<-hsA]
        try rw [hxk]
        clear hw9
        have cr9:Qc [r3] wq w9:=hcA.tz c9
        have nq:Qm wq [r3]:=F7 hR.nz C0
        have K5:=hK.keep cr9 nq
        have pv5:=fvr.keep cr9 nq
        have sk:g4.size<=maxLen/\g5.size<=maxLen/\g6.size<=maxLen:=by
         obtain⟨z,e,hz⟩:=hk4
         obtain rfl:=Xw (show QW (g4,g5,g6)=QW z from e)
         exact hz
        have hj5:=hj.keep c9 C0
        have R5:=Qb (hRA.keep c9 C0 (by simp) (by simp))
        have CC:=Qb (hc.trans cr9 (fun x hx=>.inl (by simp at hx ⊢;exact .inr hx)))
        have HL:=Qb (show leftN w9 c1 r3<leftN wq c1 r3 by rw [hRA.left c9 (by simp) (by simp)];exact hltA)
        have lt5:=c9.size
        have ltx:=E6.lt
        have n5:=nn3 _ _ hl4.1
        have JN:=Qb (fun W (c:Qc [] w9 W)=>Ug f j v0 v1 W (pv5.keep c C0) (hj5.keep c C0) n5)
        clear hcA hRA hltA hent hsA hl4 hR hK hc
        refine Ze (b:=⟨#[],[]⟩) 5 [50,51,52,53,54] (JR [(0,50),(1,51),(2,52),(3,53)] [.map (some nx),.agg #[.string g4,.string g5,.string g6],v0,v1] [(4,54)] [fun W u=>Zn W (f++j) u] none [] w9) (by kernel_rfl) (XN _ _) (by kernel_rfl) (by kernel_rfl) (by kernel_rfl) (JR.zero (by decide) (by decide)) ?_ ?_
        ·refine⟨.inr ?_,.inr ?_,.inr ?_,.inr ?_,.inr ?_,.inl rfl,trivial⟩
         ·rintro d v W- -p H K hK
          simp only [z1,z2,z4,z5] at hK ⊢
          go_simp
          exact hK.out _ _ (H.put 0 rfl rfl)
         ·rintro d v W- -p H K hK
          have q6:=(E6.keep H.chg).o3
          have fq:=(E6.keep H.chg).f
          simp only [z1,z2,z4,z5] at hK ⊢
          go_simp
          exact hK.out _ _ (H.put 1 rfl rfl)
         ·rintro d v W- -p H K hK
          simp only [z1,z2,z4,z5] at hK ⊢
          go_simp
          exact hK.out _ _ (H.put 2 rfl rfl)
         ·rintro d v W- -p H K hK
          simp only [z1,z2,z4,z5] at hK ⊢
          go_simp
          exact hK.out _ _ (H.put 3 rfl rfl)
         ·intro d v W hC hd p H K hK
          have e2:=H.val 2 _ _ _ rfl rfl (Qh p 2)
          have e3:=H.val 3 _ _ _ rfl rfl (Qh p 3)
          have g:=H.chg
          simp only [z1,z2,z4,z5,e2,e3] at hK ⊢
          go_simp
          go_at_call 100
          refine(JN.out W g).mono ?_
          rintro e W2 ⟨u,rfl,hP,c2⟩
          dsimp only
          exact hK.out _ _ (H.n1 _ hP (.inr c2) (H.chg.tz c2))
        ·refine⟨_,rfl,fun v W H K hK=>?_⟩
         have e0:=H.val 0 _ _ _ rfl rfl (by decide)
         have e1:=H.val 1 _ _ _ rfl rfl (by decide)
         have e2:=H.val 2 _ _ _ rfl rfl (by decide)
         have e3:=H.val 3 _ _ _ rfl rfl (by decide)
         have P4:=H.prop 0 _ _ _ rfl rfl (by decide)
         have CHW:=H.chg
         clear H
         simp only [z1,z2,z4,z5,e0,e1,e2,e3]
         go_simp
         go_at_call 99
         refine(Vs _ nx (g4,g5,g6) _ _ W sk.1 sk.2.1 sk.2.2 (K5.keep CHW C0) (P4)).mono ?_
         rintro e W2 ⟨rfl,k2,d2⟩
         refine hK.out _ _ ?_
         have nb9:Qm W [nx]:=F7 (K5.keep CHW C0).nz C0
         have R6:=(R5.out.keep CHW C0).keep d2 nb9
         have l6:=((R5.out.keep CHW C0).left d2).trans (R5.out.left CHW)
         go_roundw
         case rel=>(repeat apply Exists.intro);exact⟨⟨_,R6,k2.congr Wc,(CC.out.tz CHW).trans d2 (fun x hx=>.inl (by simp at hx ⊢;exact .inl hx))⟩,rfl⟩
         case measure=>have:=HL.out;omega
  ·obtain rfl:k=m.length:=by omega
   rw [I8] at hN hA hE
   have D9:=E9.kp hc
   have D8:=E8.kp hc
   have M9:=K9.kp hc
   have M8:=K8.kp hc
   have o9:=D9.o3
   have p9:=D9.f
   have B9:=D9.set 0 (.map (some nb))
   have q9:=B9.o3
   have r9:=B9.f
   have D8a:=D8.far (g:=x9) (i:=0) (.map (some nb)) (by omega)
   have q8:=D8a.o3
   have r8:=D8a.f
   have cp1:Qc [x9] wo (wo.setCell ⟨x9,0,none⟩ (.map (some nb))):=(B0 _ _).setCell (.inl (by simp)) _
   have cp2:=Xz (wo.setCell ⟨x9,0,none⟩ (.map (some nb))) (x7+1) (.map (some nb)) (.map (some b2)) (.map (some b3))
   have n1:Qm wo [x9]:=F7 M9.nz C0
   have n2:Qm (wo.setCell ⟨x9,0,none⟩ (.map (some nb))) [x7+1]:=F7 (M8.kp cp1).nz C0
   have B8:=D8a.put3 rfl (.map (some nb)) (.map (some b2)) (.map (some b3))
   have X9:=(hXr.keep cp1 n1 (fun y hy=>.inl (by rw [E0.1 hy,hT1.out];simp))).keep cp2 n2 (fun y hy=>.inl (by rw [E0.1 hy,hT1.out];simp))
   have ho9:XH _ nb b2 b3 (Vn Qs m place) (s1,s2,s4):=⟨(hN.keep cp1 n1).keep cp2 n2,(hA.keep cp1 n1).keep cp2 n2,(hE.keep cp1 n1).keep cp2 n2⟩
   have cz:=(((cw3.ty hc).trans cp1 (fun y hy=>.inr (by rw [E0.1 hy];omega))).trans cp2 (fun y hy=>.inr (by rw [E0.1 hy];omega))).mono (T:=[bs]) (fun y hy=>by
    simp only [C7,F1,or_false] at hy
    rcases hy with rfl|rfl|rfl
    ·exact .inl (by simp)
    ·exact .inr (by omega)
    ·exact .inr (by omega))
   go_wp2_with fail
   have z8:=B8.o3
   have y8:=B8.f
   refine bodyPost_ret (v:=.agg #[.map (some nb),.map (some b2),.map (some b3)]) (by simp only [results,Tryz.results69];go_simp) rfl ?_
   refine⟨nb,b2,b3,rfl,ho9,fun y hy=>?_,X9.less (fun y hy=>by rw [hT1.out];simp [hy]),cz⟩
   simp only [C7,F1,or_false] at hy
   rcases hy with rfl|rfl|rfl<;>exact⟨fun h=>by have:=hTl _ h;omega,by omega⟩
end Go.Proofs.YtjeadhmkghnkkaaGreatDoor
