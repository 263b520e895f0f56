/- The program's inference. Conditions: as stated. -/
import Derived.Test.YtfjhdnjlhjimeaaGreatDoorPasses
import Derived.Test.YtfjhdnjlhjimeaaGreatDoorWantR
import Derived.Test.YtfjhdnjlhjimeaaGreatDoorPre3
set_option maxRecDepth 100000
set_option maxHeartbeats 8000000
namespace Go.Proofs.YtfjhdnjlhjimeaaGreatDoor
open Go.RowKit

def Qii (SB:Nat->Prop) (B xiq:Nat) (m:List Qa):Prop:=∀(ul:Value) (b:Nat) (X:YY Qhq->Prop) (A:Nat->Int->Prop) (F:Prop) (w:World),YO B w->B<=w.heap.size->Qf9 w xiq A F->Qd6 w b X->(B<=xiq/\B<=b/\xiq≠b)->WY SB w m ul->
 Calls Tryz.prog 53 #[.pointer (some ⟨xiq,0,none⟩),ul,.map (some b)] w fun e w'=>∃b',e= .returned (.map (some b'))/\Qd6 w' b' (fun t=>∃s,X s/\(w3L QdW m).reach s t)/\
  Qf9 w' xiq (fun i n=>A i n∨∃s,X s/\(w3L QdW m).ask s i n) (F∨∃s,X s/\(w3L QdW m).fail s)/\Qc [xiq] w w'/\(b'=b∨w.heap.size<=b')
def Qij (SB:Nat->Prop) (B xiq:Nat) (a:Qa):Prop:=∀(g off nx:Nat) (s:YY Qhq) (N:YY Qhq->Prop) (A:Nat->Int->Prop) (F:Prop) (w:World),YO B w->B<=w.heap.size->Qf9 w xiq A F->Qd6 w nx N->(B<=xiq/\B<=nx/\xiq≠nx)->QaV SB w g off a->s.All Qhq.sm->
 Calls Tryz.prog 82 #[.pointer (some ⟨xiq,0,none⟩),.pointer (some ⟨g,off,none⟩),Qgi s,.map (some nx)] w fun e w'=>e= .returned (.tuple #[])/\Qd6 w' nx (fun t=>N t∨(a.w3 QdW).reach s t)/\
  Qf9 w' xiq (fun i n=>A i n∨(a.w3 QdW).ask s i n) (F∨(a.w3 QdW).fail s)/\Qc [xiq,nx] w w'
theorem Qif (SB:Nat->Prop) (B xiq:Nat) (m:List Qa) (hsb:∀y,SB y->y<B) (hF:∀a∈m,Qij SB B xiq a):Qii SB B xiq m:=by
 intro ul b X A F w hE hB hI hX hx hL
 obtain⟨Aa,cap,eul,hcap,hcm⟩:=hL.sl
 unfold maxLen at hcm
 subst eul
 have hF:=Qb hF
 have hm:=UU Tryz.prog
 have hu:Tryz.prog.underlying 118=some (.map 114 4):=by kernel_rfl
 have wb:=hX.lt
 go_enter Tryz.func53,Tryz.ntmps53
 go_wp2_with fail
 go_loopw [2,12] (fun fr i wr=>∃k bk Xkq Ak Fk,k<=m.length/\i= .int .i64 (k:Nat)/\fr= .map (some bk)/\QhF X A F (w3L QdW (m.take k)) Xkq Ak Fk/\Qd6 wr bk Xkq/\Qf9 wr xiq Ak Fk/\Qc [xiq] w wr/\(bk=b∨w.heap.size<=bk)) (fun _ i _=>m.length-(intOf i).toNat)
 case atStart=>exact⟨0,b,X,A,F,I3 _,rfl,rfl,by rw [T9];exact QhF.zero X A F,hX,hI,B0 _ _,.inl rfl⟩
 case round=>
  obtain⟨k,bk,Xkq,Ak,Fk,hk,rfl,rfl,hP,hXk,hIk,hc,hbk⟩:=hrel
  obtain⟨wo,hwo⟩:∃wo:World,wo=wr:=⟨_,rfl⟩
  rw [<-hwo] at hXk hIk hc ⊢
  clear hwo
  have zo:=hc.size
  have lxi:=hIk.lt
  by_cases hlt:k<m.length
  ·have lAo:=hL.keep hc hsb (fun y hy=>by rw [E0.1 hy];exact hx.1)
   obtain⟨g,cap',eg,_,_,hact⟩:=lAo.act k hlt
   obtain⟨rfl,rfl⟩:Aa=some (⟨g,0,none⟩:Addr)/\cap=cap':=by injection eg with h1 _ h2;exact⟨h1,h2⟩
   clear eg
   obtain⟨Y,hY⟩:∃Y,Y=m[k].w3 QdW:=⟨_,rfl⟩
   have hO:=hF.out m[k] (I4 hlt)
   unfold Qij at hO
   rw [<-hY] at hO
   have hP2:=hP.more hlt
   rw [<-hY] at hP2
   have hP2:=Qb hP2
   have hO:=Qb hO
   have Eo:=hE.keep hc (fun y hy=>by rw [E0.1 hy];exact hx.1) hB
   have Bo:=G5 hB hc.size
   have hkl:=Qb (show 0<m.length-k by omega)
   clear hP hY
   have lbk:=hXk.lt
   have hbx:bk≠xiq:=by rcases hbk with rfl|h;exact fun e=>hx.2.2 e.symm;have:=hI.lt;omega
   have hBk:B<=bk:=by rcases hbk with rfl|h;exact hx.2.1;omega
   obtain⟨nx,hnx⟩:∃nx,wo.heap.size=nx:=⟨_,rfl⟩
   go_upto_region 5 with fail
   refine Qp fun wa hwa=>?_
   have ca:Qc [] wo wa:=by rw [hwa];exact C6
   have za:wa.heap.size=nx+1:=by rw [hwa, <-hnx];simp
   have N0:Qd6 wa nx (fun t=>∃u,False/\Y.reach u t):=by rw [hwa, <-hnx];exact Qd6.made wo (fun k ⟨_,h,_⟩=>h)
   clear hwa
   try rw [hnx]
   have hXa:=hXk.keep ca
   go_wp2_with (first|(at_range;refine Qia rfl (.tmp 16) _ rfl hu rfl hXa ?_;intro w4 hR4 hc4 hs4)|fail)
   rw [za] at hR4 hs4 ⊢
   simp only [Act.put,D0,C8,C9]
   have N4:=N0.keep hc4
   have c04:Qc [] wo w4:=ca.tz hc4
   have I4qq:=hIk.keep c04
   have E4:=Eo.keep c04 (by simp) Bo
   have B4:=G5 Bo c04.size
   have act4:=hact.keep (B:=B) c04 hsb (by simp)
   clear N0 hXa ca hc4 Eo
   go_loopw [] (fun wr=>∃D,Sgs wr bk (nx+1) Xkq D/\Qd6 wr nx (fun t=>∃u,D u/\Y.reach u t)/\Qf9 wr xiq (fun i n=>Ak i n∨∃u,D u/\Y.ask u i n) (Fk∨∃u,D u/\Y.fail u)/\Qc [xiq,nx,nx+1] w4 wr) (fun wr=>leftN wr bk (nx+1))
   case atStart=>exact⟨_,hR4,N4,I4qq.congr (fun i n _=>⟨.inl,fun h=>h.elim id (fun⟨_,h,_⟩=>h.elim)⟩) ⟨.inl,fun h=>h.elim id (fun⟨_,h,_⟩=>h.elim)⟩,B0 _ _⟩
   case round=>
    obtain⟨D,hR,hN2,hI2,hc2⟩:=hrel
    obtain⟨wp,hwp⟩:∃wp:World,wp=wr:=⟨_,rfl⟩
    rw [<-hwp] at hR hN2 hI2 hc2 ⊢
    clear hwp
    have low3:∀y∈ [xiq,nx,nx+1],B<=y:=fun y hy=>by
     simp only [C7,F1,or_false] at hy
     rcases hy with rfl|rfl|rfl<;>omega
    have act2:=act4.keep hc2 hsb low3
    have E2:=E4.keep hc2 low3 B4
    have B2:=G5 B4 hc2.size
    have z24:=hc2.size
    go_upto_region 8 with (first|(at_next;refine Qh9 rfl (.tmp 17) rfl rfl hR ?_ ?_;rotate_left;intro s w5 hs5 hXs hR5 hc5 hsz5 hlt5 hent;unfold Qgi at hent ⊢;rotate_right;intro hD)|fail)
    ·have NN:Qd6 wp nx (fun t=>∃u,Xkq u/\Y.reach u t):=hN2.congr (fun t=>by simp only [hD])
     have II:Qf9 wp xiq (fun i n=>Ak i n∨∃u,Xkq u/\Y.ask u i n) (Fk∨∃u,Xkq u/\Y.fail u):=hI2.congr (fun i n _=>by simp only [hD]) (by simp only [hD])
     have CT:=Qb (((hc.tz c04).trans hc2 (fun y hy=>by
      simp only [C7,F1,or_false] at hy
      rcases hy with rfl|rfl|rfl
      ·exact .inl (by simp)
      ·exact .inr (by omega)
      ·exact .inr (by omega))))
     clear hR hN2 hI2 hD
     go_wp2_with fail
     go_roundw
     case rel=>exact⟨k+1,nx,_,_,_,by omega,by go_num,rfl,hP2.out,NN,II,CT.out,.inr (by omega)⟩
     case measure=>have:=hkl.out;simp [intOf];omega
    ·refine Qp fun w6 hw6=>?_
     obtain⟨x13,hx13⟩:∃x13,w5.heap.size=x13:=⟨_,rfl⟩
     have c6:Qc [] w5 w6:=by rw [hw6];exact C6
     have E13:ZU w6 x13 (Qg9 s):=by rw [hw6, <-hx13];exact L9 w5 _ _
     try rw [<-hsz5]
     rw [hx13]
     clear hw6
     have cr6:Qc [nx+1] wp w6:=hc5.tz c6
     have N6qq:=hN2.keep cr6
     have I6qq:=hI2.keep cr6
     have R6:=(hR5.keep c6).1
     have hlt6:leftN w6 bk (nx+1)<leftN wp bk (nx+1):=by rw [(hR5.keep c6).2];exact hlt5
     have act6:=act2.keep cr6 hsb (fun y hy=>low3 y (by rw [E0.1 hy];simp))
     have E6:=E2.keep cr6 (fun y hy=>low3 y (by rw [E0.1 hy];simp)) B2
     have B6:=G5 B2 cr6.size
     have l13:=E13.lt
     have e13:=E13.o6
     have CC:=Qb (hc2.trans cr6 (fun y hy=>.inl (by rw [E0.1 hy];simp)))
     have R6:=Qb R6
     have HL:=Qb hlt6
     have hsm:=Qb hs5
     have ON:=Qb (fun W (hc:Qc [] w6 W)=>hO.out g (k * 11) nx s _ _ _ W (E6.keep hc (by simp) B6) (G5 B6 hc.size) (I6qq.keep hc) (N6qq.keep hc) ⟨hx.1,by omega,by omega⟩ (act6.keep hc hsb (by simp)) hsm.out)
     clear hR hR5 hent hlt5 hlt6 hsz5 hN2 hI2 hs5 hXs act2 E2 act6 E6 act4 E4 I4qq N4 hR4 e13 hc2 hc5
     obtain⟨VL,hV⟩:∃VL:List Value,VL=[.pointer (some ⟨xiq,0,none⟩),.slice (some ⟨g,0,none⟩) m.length cap,.int .i64 (k:Int),.pointer (some ⟨g,k * 11,none⟩),.agg #[.int .i64 s.a.given,.string s.a.shape,.int .i64 s.b.given,.string s.b.shape,.int .i64 s.c.given,.string s.c.shape],.map (some nx)]:=⟨_,rfl⟩
     obtain⟨J,hJ⟩:∃J:(Nat->Bool)->(Nat->Value)->World->Prop,∀d v W,J d v W↔(JG [(0,22),(1,23),(2,24),(3,25),(4,26),(5,27)] VL d v/\Qc [] w6 W):=⟨_,fun _ _ _=>i7⟩
     refine Ze (b:=⟨#[],[]⟩) 6 [22,23,24,25,26,27] J (by kernel_rfl) (XN _ _) (by kernel_rfl) (by kernel_rfl) (by kernel_rfl) ?_ ?_ ?_
     ·exact(hJ _ _ _).2 ⟨UO (by decide),C6⟩
     ·refine⟨.inr ?_,.inr ?_,.inr ?_,.inr ?_,.inr ?_,.inr ?_,.inl rfl,trivial⟩
      ·intro d v W hC hd hpre hJ1 K hK
       have H:=Qb ((hJ _ _ _).1 hJ1)
       clear hJ1
       clear hpre hC hd
       simp only [Xq,C8,C9]
       go_simp
       refine YD hK (by simp only [Xq,Act.put,D0,C8,C9] <;>rfl) ((hJ _ _ _).2 ⟨Qu (by decide) (by decide) H.out.1 0 _ _ _ rfl (by rw [hV];rfl),H.out.2⟩)
      ·intro d v W hC hd hpre hJ1 K hK
       have H:=Qb ((hJ _ _ _).1 hJ1)
       clear hJ1
       clear hpre hC hd
       simp only [Xq,C8,C9]
       go_simp
       refine YD hK (by simp only [Xq,Act.put,D0,C8,C9] <;>rfl) ((hJ _ _ _).2 ⟨Qu (by decide) (by decide) H.out.1 1 _ _ _ rfl (by rw [hV];rfl),H.out.2⟩)
      ·intro d v W hC hd hpre hJ1 K hK
       have H:=Qb ((hJ _ _ _).1 hJ1)
       clear hJ1
       clear hpre hC hd
       simp only [Xq,C8,C9]
       go_simp
       refine YD hK (by simp only [Xq,Act.put,D0,C8,C9] <;>rfl) ((hJ _ _ _).2 ⟨Qu (by decide) (by decide) H.out.1 2 _ _ _ rfl (by rw [hV];rfl),H.out.2⟩)
      ·intro d v W hC hd hpre hJ1 K hK
       have H:=Qb ((hJ _ _ _).1 hJ1)
       clear hJ1
       have e1:v 23= .slice (some ⟨g,0,none⟩) m.length cap:=H.out.1 1 _ _ _ rfl (by rw [hV];rfl) (Qh hpre 1)
       have e2:v 24= .int .i64 (k:Int):=H.out.1 2 _ _ _ rfl (by rw [hV];rfl) (Qh hpre 2)
       clear hpre hC hd
       simp only [Xq,C8,C9,e1,e2]
       go_simp
       refine YD hK (by simp only [Xq,Act.put,D0,C8,C9,e1,e2] <;>rfl) ((hJ _ _ _).2 ⟨Qu (by decide) (by decide) H.out.1 3 _ _ _ rfl (by rw [hV];rfl),H.out.2⟩)
      ·intro d v W hC hd hpre hJ1 K hK
       have H:=Qb ((hJ _ _ _).1 hJ1)
       clear hJ1
       clear hpre hC hd
       have q6:=(E13.keep H.out.2).o6
       have f6:=(E13.keep H.out.2).f
       simp only [Xq,C8,C9]
       go_simp
       refine YD hK (by simp only [Xq,Act.put,D0,C8,C9] <;>rfl) ((hJ _ _ _).2 ⟨Qu (by decide) (by decide) H.out.1 4 _ _ _ rfl (by rw [hV];rfl),H.out.2⟩)
      ·intro d v W hC hd hpre hJ1 K hK
       have H:=Qb ((hJ _ _ _).1 hJ1)
       clear hJ1
       clear hpre hC hd
       simp only [Xq,C8,C9]
       go_simp
       refine YD hK (by simp only [Xq,Act.put,D0,C8,C9] <;>rfl) ((hJ _ _ _).2 ⟨Qu (by decide) (by decide) H.out.1 5 _ _ _ rfl (by rw [hV];rfl),H.out.2⟩)
     ·refine⟨_,rfl,fun v W hJ1 K hK=>?_⟩
      have H:=Qb ((hJ _ _ _).1 hJ1)
      clear hJ1
      have e0:v 22= .pointer (some ⟨xiq,0,none⟩):=H.out.1 0 _ _ _ rfl (by rw [hV];rfl) (by decide)
      have e1:v 23= .slice (some ⟨g,0,none⟩) m.length cap:=H.out.1 1 _ _ _ rfl (by rw [hV];rfl) (by decide)
      have e2:v 24= .int .i64 (k:Int):=H.out.1 2 _ _ _ rfl (by rw [hV];rfl) (by decide)
      have e3:v 25= .pointer (some ⟨g,k * 11,none⟩):=H.out.1 3 _ _ _ rfl (by rw [hV];rfl) (by decide)
      have e4:v 26= .agg #[.int .i64 s.a.given,.string s.a.shape,.int .i64 s.b.given,.string s.b.shape,.int .i64 s.c.given,.string s.c.shape]:=H.out.1 4 _ _ _ rfl (by rw [hV];rfl) (by decide)
      have e5:v 27= .map (some nx):=H.out.1 5 _ _ _ rfl (by rw [hV];rfl) (by decide)
      have CHW:=H.out.2
      clear H hJ J hV
      simp only [Xq,C8,C9,e0,e1,e2,e3,e4,e5]
      have g0:=CHW
      go_simp
      go_at_call 82
      unfold Qgi at ON
      refine(ON.out W g0).mono ?_
      rintro e W2 ⟨rfl,n2,i2,c2⟩
      dsimp only
      refine hK.out _ _ ?_
      have cq:Qc [xiq,nx] w6 W2:=(g0.mono (by simp)).trans c2 (fun _ h=>.inl h)
      have RN:=R6.out.keep cq (by simp;omega) (by simp;omega)
      go_wp2_with fail
      go_roundw
      case rel=>exact⟨_,RN.1,n2.congr (fun t=>⟨fun h=>h.elim (fun⟨u,a,b⟩=>⟨u,.inl a,b⟩) (fun h=>⟨_,.inr rfl,h⟩),fun⟨u,a,b⟩=>a.elim (fun a=>.inl ⟨u,a,b⟩) (fun a=>.inr (a ▸ b))⟩),i2.congr (fun i n _=>⟨fun h=>h.elim (fun h=>h.elim .inl (fun⟨u,a,b⟩=>.inr ⟨u,.inl a,b⟩)) (fun h=>.inr ⟨_,.inr rfl,h⟩),fun h=>h.elim (fun h=>.inl (.inl h)) (fun⟨u,a,b⟩=>a.elim (fun a=>.inl (.inr ⟨u,a,b⟩)) (fun a=>.inr (a ▸ b)))⟩) ⟨fun h=>h.elim (fun h=>h.elim .inl (fun⟨u,a,b⟩=>.inr ⟨u,.inl a,b⟩)) (fun h=>.inr ⟨_,.inr rfl,h⟩),fun h=>h.elim (fun h=>.inl (.inl h)) (fun⟨u,a,b⟩=>a.elim (fun a=>.inl (.inr ⟨u,a,b⟩)) (fun a=>.inr (a ▸ b)))⟩,CC.out.trans cq (fun y hy=>.inl (by simp at hy ⊢;omega))⟩
      case measure=>rw [RN.2];exact HL.out
  ·obtain rfl:k=m.length:=by omega
   rw [I8] at hP
   go_wp2_with fail
   refine bodyPost_ret (v:=.map (some bk)) (by simp only [results,Tryz.results53];go_simp) rfl ?_
   exact⟨bk,rfl,hXk.congr hP.r,hIk.congr (fun i n _=>hP.a i n) hP.f,hc,hbk⟩
end Go.Proofs.YtfjhdnjlhjimeaaGreatDoor
set_option maxRecDepth 100000
set_option maxHeartbeats 8000000
namespace Go.Proofs.YtfjhdnjlhjimeaaGreatDoor
open Go.RowKit

theorem Qin {a:Qa} (h8:a.op≠8) (h9:a.op≠9):a.w3 QdW=QdW a:=by rw [Qa.w3_eq,if_neg h8,if_neg h9]
theorem Qip {a:Qa} (h:a.op=2∨a.op=6∨a.op=7) (s:YY Qhq) (he:¬(s.get a.slot).empty):(∀t,(QdW a).reach s t↔ ∃y,QhW a (s.get a.slot)=some y/\t=s.set a.slot y)/\(∀i n,(QdW a).ask s i n↔(s.get a.slot).bare/\i+1=(s.get a.slot).given/\n=KV a)/\((QdW a).fail s↔QhW a (s.get a.slot)=none):=by
 have h0:=YY.set_get s a.slot
 obtain⟨x,hx⟩:∃x,s.get a.slot=x:=⟨_,rfl⟩
 rw [hx] at h0 he ⊢
 have hb3:x.bare->¬3<=QgF x.shape:=fun h=>by have:=h.2;omega
 unfold QdW QhW
 rcases h with h2|h6|h7
 ·simp only [h2,if_true,show ¬(2:Int)=1 by decide,show ¬(2:Int)=5 by decide,show ¬(2:Int)=4 by decide,if_false,hx,true_and]
  by_cases h3:3<=QgF x.shape
  ·rw [if_pos h3]
   refine⟨fun t=>⟨fun h=>?_,fun⟨y,e,ht⟩=>⟨he,.inl ⟨h3,?_⟩⟩⟩,fun _ _=>by trivial,⟨fun h=>absurd h3 (by have:=h.2.1;omega),fun h=>by cases h⟩⟩
   ·obtain⟨_,⟨_,rfl⟩|⟨h,_⟩⟩:=h
    ·exact⟨x,rfl,h0.symm⟩
    ·omega
   ·cases e;rw [ht,h0]
  ·rw [if_neg h3]
   by_cases hb:x.bare∨ZL (Qa6 x.shape) (KV a)
   ·rw [if_pos hb]
    refine⟨fun t=>⟨fun h=>?_,fun⟨y,e,ht⟩=>⟨he,.inr ⟨by omega,hb,?_⟩⟩⟩,fun _ _=>by trivial,⟨fun h=>absurd hb (not_or.2 ⟨h.2.2.1,h.2.2.2⟩),fun h=>by cases h⟩⟩
    ·obtain⟨_,⟨h,_⟩|⟨_,_,rfl⟩⟩:=h
     ·omega
     ·exact⟨_,rfl,rfl⟩
    ·cases e;exact ht
   ·rw [if_neg hb]
    refine⟨fun t=>⟨fun h=>?_,fun⟨y,e,ht⟩=>by cases e⟩,fun _ _=>by trivial,⟨fun _=>rfl,fun _=>⟨he,by omega,(not_or.1 hb).1,(not_or.1 hb).2⟩⟩⟩
    obtain⟨_,⟨h,_⟩|⟨_,h,_⟩⟩:=h
    ·omega
    ·exact absurd h hb
 all_goals
  have hn:¬a.op=1/\¬a.op=5/\¬a.op=4/\¬a.op=2:=by omega
  simp only [hn.1,hn.2.1,hn.2.2.1,hn.2.2.2,if_false,hx,false_and]
  by_cases hb:x.bare∨ZL (Qa6 x.shape) (KV a)
  ·rw [if_pos hb]
   refine⟨fun t=>⟨fun h=>⟨x,rfl,by rw [h.2.2,h0]⟩,fun⟨y,e,ht⟩=>⟨he,hb,?_⟩⟩,fun _ _=>by trivial,⟨fun h=>absurd hb (not_or.2 ⟨h.2.1,h.2.2⟩),fun h=>by cases h⟩⟩
   cases e;rw [ht,h0]
  ·rw [if_neg hb]
   exact⟨fun t=>⟨fun h=>absurd h.2.1 hb,fun⟨y,e,ht⟩=>by cases e⟩,fun _ _=>by trivial,⟨fun _=>rfl,fun _=>⟨he,(not_or.1 hb).1,(not_or.1 hb).2⟩⟩⟩
theorem Qio {a:Qa} (h:a.op=2∨a.op=6∨a.op=7) (s:YY Qhq) (he:(s.get a.slot).empty):(∀t,¬(QdW a).reach s t)/\(∀i n,¬(QdW a).ask s i n)/\¬(QdW a).fail s:=by
 have hb:¬(s.get a.slot).bare:=fun h=>by have:=h.1;have:=he.1;omega
 unfold QdW
 rcases h with h2|h6|h7
 ·simp only [h2,if_true,show ¬(2:Int)=1 by decide,show ¬(2:Int)=5 by decide,show ¬(2:Int)=4 by decide,if_false]
  exact⟨fun t h=>h.1 (by simpa [h2] using he),fun i n h=>hb (by simpa [h2] using h.1),fun h=>h.1 (by simpa [h2] using he)⟩
 all_goals
  have hn:¬a.op=1/\¬a.op=5/\¬a.op=4/\¬a.op=2:=by omega
  simp only [hn.1,hn.2.1,hn.2.2.1,hn.2.2.2,if_false]
  exact⟨fun t h=>h.1 he,fun i n h=>hb h.1,fun h=>h.1 he⟩
theorem Qim {a:Qa} (h:Qgc a):QE a.slot:=by
 obtain⟨ha,h3,h10⟩:=h
 have hop:=Gt ha
 have z:QE 0:=⟨by omega,by omega⟩
 rcases(show a.op=1∨a.op=2∨a.op=4∨a.op=5∨a.op=6∨a.op=7∨a.op=8∨a.op=9 by omega) with h|h|h|h|h|h|h|h
 ·exact((xQ h).1 ha).1
 ·exact((xJ h).1 ha).1
 ·exact((GV h).1 ha).1
 ·exact((kJ (.inr h)).1 ha).1
 ·exact((jk h).1 ha).1
 ·exact((jf h).1 ha).1
 ·rw [((jD (.inl h)).1 ha).1];exact z
 ·rw [((QcM h).1 ha).1];exact z
theorem Qir (s:YY Qhq) {i:Int} (hi:QE i) (gv:Nat) (sh:ByteArray):((Qg9 s).set (i.toNat * 2) (.int .i64 (gv:Int))).set (i.toNat * 2+1) (.string sh)=Qg9 (s.set i ⟨gv,sh⟩):=by
 obtain⟨h0,h2⟩:=hi
 rcases(show i=0∨i=1∨i=2 by omega) with rfl|rfl|rfl<;>rfl
theorem Qiq (SB:Nat->Prop) (B xiq:Nat) (a:Qa) (ha:Qgc a) (hsb:∀y,SB y->y<B) (hop:a.op=2∨a.op=6∨a.op=7):Qij SB B xiq a:=by
 intro g off nx s N A F w hE hB hI hN hx hA hs
 have oo:=hop
 have hw3:=Qin (a:=a) (by omega) (by omega)
 rw [hw3]
 have e8:(a.op==8)=false:=by rw [beq_eq_false_iff_ne];omega
 have e9:(a.op==9)=false:=by rw [beq_eq_false_iff_ne];omega
 have e1:(a.op==1)=false:=by rw [beq_eq_false_iff_ne];omega
 have e5:(a.op==5)=false:=by rw [beq_eq_false_iff_ne];omega
 have e4:(a.op==4)=false:=by rw [beq_eq_false_iff_ne];omega
 have hslot:QE a.slot:=Qim ha
 obtain⟨n,hn,hn3⟩:∃n:Nat,a.slot=(n:Int)/\n<3:=⟨a.slot.toNat,by have:=hslot.1;omega,by have:=hslot.2;omega⟩
 obtain⟨uA,uB,hSB,lg,cs,lA,lB⟩:=id hA
 have gB:=hsb g hSB
 have op0:=cs.1
 have sl0:=cs.2.1
 rw [hn] at sl0
 replace cs:=Qb cs
 have hE2:=hE
 unfold Qgi
 go_enter Tryz.func82,Tryz.ntmps82
 have hm:=UU Tryz.prog
 have hu:Tryz.prog.underlying 118=some (.map 114 4):=by kernel_rfl
 obtain⟨bx,hbx⟩:∃bx,w.heap.size=bx:=⟨_,rfl⟩
 go_upto_region 1 with fail
 refine Qp fun w2 hw2=>?_
 have c2:Qc [] w w2:=by rw [hw2];exact C6
 have z2:w2.heap.size=bx+1:=by rw [hw2, <-hbx];simp
 have b2:ZU w2 bx (Qg9 s):=by rw [hw2, <-hbx];exact L9 w _ _
 clear hw2
 try rw [hbx]
 have q2:=(b2.alloc (.map #[] 0)).o6
 have f2:=(b2.alloc (.map #[] 0)).f
 have hkc:KCg (Qgi s):=⟨s,rfl,hs⟩
 unfold Qgi at hkc
 have hM0:ZH (w2.alloc (.map #[] 0)) KCg (bx+1) []:=by rw [<-z2];exact ZH.made w2 KCg
 have cm:Qc [] w2 (w2.alloc (.map #[] 0)):=C6
 go_upto_region 2 with (first|(refine vz rfl (.tmp 16) (.tmp 17) (.const (.bool true)) _ rfl Qh8 trivial hu rfl hM0 (key:=Qgi s) (val:=.bool true) rfl rfl hkc ?_;intro w3 E3 hE3 d3 sz3 hm3)|fail)
 have S3:Qd6 w3 (bx+1) (fun t=>t=s):=(Qd6.put (X:=fun _=>False) (E:=[]) (fun p hp=>by cases hp) (fun _ h=>h.elim) hs hE3 hm3).congr (fun k=>⟨fun h=>h.resolve_left id,.inr⟩)
 have c23:Qc [] w2 w3:=cm.trans d3 (fun y hy=>.inr (by rw [E0.1 hy];omega))
 have c3:Qc [] w w3:=c2.tz c23
 have z3:w3.heap.size=bx+2:=by rw [sz3];simp [z2]
 have b3:=b2.keep c23
 have I3qq:=hI.keep c3
 have N3:=hN.keep c3
 have A3:=hA.keep (B:=B) c3 hsb (by simp)
 have E3q:=hE.keep c3 (by simp) hB
 have B3:=G5 hB c3.size
 have cs3:=Qb (fun(o:Nat) (u:Value) (h:w.cell? ⟨g,o,none⟩=some u)=>(c3.cell (p:=⟨g,o,none⟩) lg (by simp)).trans h)
 have op3:=cs3.out _ _ op0
 have sl3:=cs3.out _ _ sl0
 have lg3:=F6 lg c3.size
 have lxi:=hI.lt
 have lnx:=hN.lt
 have hC3:=Qb c3
 have ni:((n:Nat):Int)<3:=by omega
 clear hE3 hm3 d3 sz3 hM0 cm q2 f2 c23 c2 hkc hI hN hA hE
 obtain⟨g0,g1⟩:=QhQ s hslot
 rw [show a.slot.toNat=n by omega] at g0 g1
 have SP:=Qip hop s
 have SE:=Qio hop s
 have PA:Calls Tryz.prog 127 #[.pointer (some ⟨xiq,0,none⟩),.pointer (some ⟨g,off,none⟩),.pointer (some ⟨bx,n * 2,none⟩)] w3 (Qib a s xiq bx A F w3):=by
  rw [<-show a.slot.toNat=n by omega]
  have lb:B<=xiq/\B<=bx/\xiq≠bx:=⟨hx.1,by omega,by omega⟩
  rcases hop with h|h|h
  ·exact Qik SB B xiq bx g off a s A F w3 h ha.1 hs E3q B3 I3qq b3 A3 hsb lb
  ·exact Qig SB B xiq bx g off a s A F w3 h ha.1 hs E3q B3 I3qq b3 A3 hsb lb
  ·exact Qie SB B xiq bx g off a s A F w3 h ha.1 hs E3q B3 I3qq b3 A3 hsb lb
 unfold Qib at PA
 have KGq:=fun t=>Qhz a ha s t hs
 obtain⟨x,hxx⟩:∃x,s.get a.slot=x:=⟨_,rfl⟩
 rw [hxx] at g0 g1 SP SE PA
 have k0:=b3.c _ _ g0
 have k1:=b3.c _ _ g1
 have f3:=b3.f
 replace PA:=Qb PA
 replace KGq:=Qb KGq
 have lbx:=b3.lt
 clear g0 g1 hxx A3 b3 oo hslot hn
 by_cases he:x.empty
 ·have z0:x.given=0:=he.1
  have z1:x.shape.toList=[]:=by rw [ByteArray.toList_eq];exact I6 (by rw [Zl];exact he.2)
  replace SE:=Qb (SE he)
  clear SP PA he
  go_wp2_with fail
  refine bodyPost_ret (results_none (by kernel_rfl) _ _ _) rfl ?_
  exact⟨rfl,N3.congr (fun t=>⟨.inl,fun h=>h.elim id (fun h=>absurd h (SE.out.1 t))⟩),I3qq.congr (fun i n _=>⟨.inl,fun h=>h.elim id (fun h=>absurd h (SE.out.2.1 i n))⟩) ⟨.inl,fun h=>h.elim id (fun h=>absurd h SE.out.2.2)⟩,hC3.out.mono (by simp)⟩
 ·have HC:x.given=0/\¬x.shape.toList=[] ∨¬x.given=0:=by
   by_cases h0:x.given=0
   ·exact .inl ⟨h0,fun h=>he ⟨h0,by rw [<-Zl, <-ByteArray.toList_eq,h];rfl⟩⟩
   ·exact .inr h0
  replace SP:=Qb (SP he)
  clear SE he
  rcases HC with ⟨z0,z1⟩|z0
  all_goals
   go_wp2_with fail
   refine PA.out.mono ?_
   rintro e w4 ⟨ok,rfl,hok,b4,i4,c4⟩
   have c34:Qc [xiq,nx] w w4:=(hC3.out.mono (T:=[xiq,nx]) (by simp)).trans c4 (fun y hy=>by
    simp only [C7,F1,or_false] at hy
    rcases hy with rfl|rfl
    ·exact .inl (by simp)
    ·exact .inr (by omega))
   have N4:=N3.keep c4 (by simp;omega)
   have I4qq:=i4.congr (A':=fun i n=>A i n∨(QdW a).ask s i n) (F':=F∨(QdW a).fail s) (fun i n _=>or_congr i7 (SP.out.2.1 i n).symm) (or_congr i7 SP.out.2.2.symm)
   cases hy:QhW a x with
   |none=>
    rw [hy] at hok b4
    obtain rfl:ok=false:=by cases ok;rfl;exact absurd (hok.1 rfl) (by simp)
    have HY:=Qb hy
    replace c34:=Qb c34
    clear hok i4 c4 hy b4 k0 k1
    go_wp2_with fail
    go_end0
    exact⟨rfl,N4.congr (fun t=>⟨.inl,fun h=>h.elim id (fun h=>by obtain⟨y,e,_⟩:=(SP.out.1 t).1 h;rw [HY.out] at e;cases e)⟩),I4qq,c34.out⟩
   |some y=>
    rw [hy] at hok b4
    obtain rfl:ok=true:=hok.2 rfl
    obtain⟨s2,hs2⟩:∃s2,s.set a.slot y=s2:=⟨_,rfl⟩
    have b4:ZU w4 bx (Qg9 s2):=by rw [<-hs2];exact b4
    have hr:=fun t=>SP.out.1 t
    rw [hy] at hr
    have hre:∀t,(QdW a).reach s t↔t=s2:=fun t=>(hr t).trans ⟨fun⟨y2,e,h⟩=>by cases e;rw [h,hs2],fun h=>⟨y,rfl,by rw [h,hs2]⟩⟩
    have hk2:=KGq.out s2 ((hre s2).2 rfl)
    have q4:=b4.o6
    have f4:=b4.f
    replace hre:=Qb hre
    replace hk2:=Qb hk2
    replace c34:=Qb c34
    clear hr hok hy hs2 i4 c4 k0 k1 f3 b4
    go_wp2_with (first|(at_mapUpdate;refine Qh7 rfl (.tmp 119) (.tmp 120) (.const (.bool true)) _ rfl hu Qh8 rfl N4 (s:=s2) rfl rfl hk2.out ?_;intro w5 n5 c5 z5)|fail)
    go_end0
    exact⟨rfl,n5.congr (fun t=>or_congr i7 (hre.out t).symm),I4qq.keep c5 (by simp;omega),c34.out.trans c5 (fun y hy=>.inl (by rw [E0.1 hy];simp))⟩
theorem Qis (SB:Nat->Prop) (B xiq:Nat) (a:Qa) (ha:Qgc a) (hsb:∀y,SB y->y<B) (hop:a.op=1):Qij SB B xiq a:=by
 intro g off nx s N A F w hE hB hI hN hx hA hs
 have hw3:=Qin (a:=a) (by omega) (by omega)
 rw [hw3]
 have hslot:QE a.slot:=Qim ha
 obtain⟨n,hn,hn3⟩:∃n:Nat,a.slot=(n:Int)/\n<3:=⟨a.slot.toNat,by have:=hslot.1;omega,by have:=hslot.2;omega⟩
 obtain⟨uA,uB,hSB,lg,cs,lA,lB⟩:=id hA
 have gB:=hsb g hSB
 have op0:=cs.1
 have sl0:=cs.2.1
 rw [hn] at sl0
 replace cs:=Qb cs
 have hE2:=hE
 unfold Qgi
 go_enter Tryz.func82,Tryz.ntmps82
 have hm:=UU Tryz.prog
 have hu:Tryz.prog.underlying 118=some (.map 114 4):=by kernel_rfl
 obtain⟨bx,hbx⟩:∃bx,w.heap.size=bx:=⟨_,rfl⟩
 go_upto_region 1 with fail
 refine Qp fun w2 hw2=>?_
 have c2:Qc [] w w2:=by rw [hw2];exact C6
 have z2:w2.heap.size=bx+1:=by rw [hw2, <-hbx];simp
 have b2:ZU w2 bx (Qg9 s):=by rw [hw2, <-hbx];exact L9 w _ _
 clear hw2
 try rw [hbx]
 have q2:=(b2.alloc (.map #[] 0)).o6
 have f2:=(b2.alloc (.map #[] 0)).f
 have hkc:KCg (Qgi s):=⟨s,rfl,hs⟩
 unfold Qgi at hkc
 have hM0:ZH (w2.alloc (.map #[] 0)) KCg (bx+1) []:=by rw [<-z2];exact ZH.made w2 KCg
 have cm:Qc [] w2 (w2.alloc (.map #[] 0)):=C6
 go_upto_region 2 with (first|(refine vz rfl (.tmp 16) (.tmp 17) (.const (.bool true)) _ rfl Qh8 trivial hu rfl hM0 (key:=Qgi s) (val:=.bool true) rfl rfl hkc ?_;intro w3 E3 hE3 d3 sz3 hm3)|fail)
 have S3:Qd6 w3 (bx+1) (fun t=>t=s):=(Qd6.put (X:=fun _=>False) (E:=[]) (fun p hp=>by cases hp) (fun _ h=>h.elim) hs hE3 hm3).congr (fun k=>⟨fun h=>h.resolve_left id,.inr⟩)
 have c23:Qc [] w2 w3:=cm.trans d3 (fun y hy=>.inr (by rw [E0.1 hy];omega))
 have c3:Qc [] w w3:=c2.tz c23
 have z3:w3.heap.size=bx+2:=by rw [sz3];simp [z2]
 have b3:=b2.keep c23
 have I3qq:=hI.keep c3
 have N3:=hN.keep c3
 have A3:=hA.keep (B:=B) c3 hsb (by simp)
 have E3q:=hE.keep c3 (by simp) hB
 have B3:=G5 hB c3.size
 have cs3:=Qb (fun(o:Nat) (u:Value) (h:w.cell? ⟨g,o,none⟩=some u)=>(c3.cell (p:=⟨g,o,none⟩) lg (by simp)).trans h)
 have op3:=cs3.out _ _ op0
 have sl3:=cs3.out _ _ sl0
 have lg3:=F6 lg c3.size
 have lxi:=hI.lt
 have lnx:=hN.lt
 have hC3:=Qb c3
 have ni:((n:Nat):Int)<3:=by omega
 clear hE3 hm3 d3 sz3 hM0 cm q2 f2 c23 c2 hkc hI hN hA hE
 rw [hop] at op3
 obtain⟨g0,g1⟩:=QhQ s hslot
 have hst:=Qir s hslot
 rw [show a.slot.toNat=n by omega] at g0 g1 hst
 have k0:=b3.c _ _ g0
 have k1:=b3.c _ _ g1
 have f3:=b3.f
 have hre:(∀t,(QdW a).reach s t↔t=s.set a.slot ⟨0,a.word⟩)/\(∀i n,¬(QdW a).ask s i n)/\¬(QdW a).fail s:=by
  unfold QdW
  simp only [hop,if_true]
  exact⟨fun _=>by trivial,fun _ _ h=>h,fun h=>h⟩
 have hk2:=Qhz a ha s _ hs ((hre.1 _).2 rfl)
 obtain⟨s2,hs2⟩:∃s2,s.set a.slot ⟨0,a.word⟩=s2:=⟨_,rfl⟩
 rw [hs2] at hre hk2
 have wd3:=cs3.out _ _ cs.out.2.2.2.1
 have hst:=hst 0 a.word
 rw [hs2] at hst
 replace hst:=Qb hst
 replace hre:=Qb hre
 replace hk2:=Qb hk2
 clear hs2 g0 g1 hn hslot A3 hw3
 go_upto_region 27 with fail
 refine Qp fun w4 hw4=>?_
 have b4:ZU w4 bx (Qg9 s2):=by rw [hw4, <-hst.out];exact(b3.set _ _).set _ _
 have c4:Qc [bx] w3 w4:=by rw [hw4];exact((B0 _ _).setCell (.inl (by simp)) _).setCell (.inl (by simp)) _
 clear hw4 k0 k1 f3
 have N4:=N3.keep c4 (by simp;omega)
 have I4qq:=I3qq.keep c4 (by simp;omega)
 have c34:=Qb (hC3.out.trans c4 (fun y hy=>.inr (by rw [E0.1 hy];omega)))
 have q4:=b4.o6
 have f4:=b4.f
 clear c4
 go_wp2_with (first|(at_mapUpdate;refine Qh7 rfl (.tmp 89) (.tmp 90) (.const (.bool true)) _ rfl hu Qh8 rfl N4 (s:=s2) rfl rfl hk2.out ?_;intro w5 n5 c5 z5)|fail)
 refine bodyPost_ret (results_none (by kernel_rfl) _ _ _) rfl ?_
 exact⟨rfl,n5.congr (fun t=>or_congr i7 (hre.out.1 t).symm),(I4qq.keep c5 (by simp;omega)).congr (fun i n _=>⟨.inl,fun h=>h.elim id (fun h=>absurd h (hre.out.2.1 i n))⟩) ⟨.inl,fun h=>h.elim id (fun h=>absurd h hre.out.2.2)⟩,(c34.out.mono (T:=[xiq,nx]) (by simp)).trans c5 (fun y hy=>.inl (by rw [E0.1 hy];simp))⟩
theorem Qiu (SB:Nat->Prop) (B xiq:Nat) (a:Qa) (ha:Qgc a) (hsb:∀y,SB y->y<B) (hop:a.op=5):Qij SB B xiq a:=by
 intro g off nx s N A F w hE hB hI hN hx hA hs
 have hw3:=Qin (a:=a) (by omega) (by omega)
 rw [hw3]
 have hslot:QE a.slot:=Qim ha
 obtain⟨n,hn,hn3⟩:∃n:Nat,a.slot=(n:Int)/\n<3:=⟨a.slot.toNat,by have:=hslot.1;omega,by have:=hslot.2;omega⟩
 obtain⟨uA,uB,hSB,lg,cs,lA,lB⟩:=id hA
 have gB:=hsb g hSB
 have op0:=cs.1
 have sl0:=cs.2.1
 rw [hn] at sl0
 replace cs:=Qb cs
 have hE2:=hE
 unfold Qgi
 go_enter Tryz.func82,Tryz.ntmps82
 have hm:=UU Tryz.prog
 have hu:Tryz.prog.underlying 118=some (.map 114 4):=by kernel_rfl
 obtain⟨bx,hbx⟩:∃bx,w.heap.size=bx:=⟨_,rfl⟩
 go_upto_region 1 with fail
 refine Qp fun w2 hw2=>?_
 have c2:Qc [] w w2:=by rw [hw2];exact C6
 have z2:w2.heap.size=bx+1:=by rw [hw2, <-hbx];simp
 have b2:ZU w2 bx (Qg9 s):=by rw [hw2, <-hbx];exact L9 w _ _
 clear hw2
 try rw [hbx]
 have q2:=(b2.alloc (.map #[] 0)).o6
 have f2:=(b2.alloc (.map #[] 0)).f
 have hkc:KCg (Qgi s):=⟨s,rfl,hs⟩
 unfold Qgi at hkc
 have hM0:ZH (w2.alloc (.map #[] 0)) KCg (bx+1) []:=by rw [<-z2];exact ZH.made w2 KCg
 have cm:Qc [] w2 (w2.alloc (.map #[] 0)):=C6
 go_upto_region 2 with (first|(refine vz rfl (.tmp 16) (.tmp 17) (.const (.bool true)) _ rfl Qh8 trivial hu rfl hM0 (key:=Qgi s) (val:=.bool true) rfl rfl hkc ?_;intro w3 E3 hE3 d3 sz3 hm3)|fail)
 have S3:Qd6 w3 (bx+1) (fun t=>t=s):=(Qd6.put (X:=fun _=>False) (E:=[]) (fun p hp=>by cases hp) (fun _ h=>h.elim) hs hE3 hm3).congr (fun k=>⟨fun h=>h.resolve_left id,.inr⟩)
 have c23:Qc [] w2 w3:=cm.trans d3 (fun y hy=>.inr (by rw [E0.1 hy];omega))
 have c3:Qc [] w w3:=c2.tz c23
 have z3:w3.heap.size=bx+2:=by rw [sz3];simp [z2]
 have b3:=b2.keep c23
 have I3qq:=hI.keep c3
 have N3:=hN.keep c3
 have A3:=hA.keep (B:=B) c3 hsb (by simp)
 have E3q:=hE.keep c3 (by simp) hB
 have B3:=G5 hB c3.size
 have cs3:=Qb (fun(o:Nat) (u:Value) (h:w.cell? ⟨g,o,none⟩=some u)=>(c3.cell (p:=⟨g,o,none⟩) lg (by simp)).trans h)
 have op3:=cs3.out _ _ op0
 have sl3:=cs3.out _ _ sl0
 have lg3:=F6 lg c3.size
 have lxi:=hI.lt
 have lnx:=hN.lt
 have hC3:=Qb c3
 have ni:((n:Nat):Int)<3:=by omega
 clear hE3 hm3 d3 sz3 hM0 cm q2 f2 c23 c2 hkc hI hN hA hE
 rw [hop] at op3
 obtain⟨g0,g1⟩:=QhQ s hslot
 have hst:=Qir s hslot
 rw [show a.slot.toNat=n by omega] at g0 g1 hst
 have k0:=b3.c _ _ g0
 have k1:=b3.c _ _ g1
 have f3:=b3.f
 have hre:(∀t,(QdW a).reach s t↔t=s.set a.slot ⟨0,⟨#[]⟩⟩)/\(∀i n,¬(QdW a).ask s i n)/\¬(QdW a).fail s:=by
  unfold QdW
  simp only [hop,if_true,show ¬(5:Int)=1 by decide,if_false]
  exact⟨fun _=>by trivial,fun _ _ h=>h,fun h=>h⟩
 have hk2:=Qhz a ha s _ hs ((hre.1 _).2 rfl)
 obtain⟨s2,hs2⟩:∃s2,s.set a.slot ⟨0,⟨#[]⟩⟩=s2:=⟨_,rfl⟩
 rw [hs2] at hre hk2
 have hst:=hst 0 ⟨#[]⟩
 rw [hs2] at hst
 replace hst:=Qb hst
 replace hre:=Qb hre
 replace hk2:=Qb hk2
 clear hs2 g0 g1 hn hslot A3 hw3
 go_upto_region 30 with fail
 refine Qp fun w4 hw4=>?_
 have b4:ZU w4 bx (Qg9 s2):=by rw [hw4, <-hst.out];exact(b3.set _ _).set _ _
 have c4:Qc [bx] w3 w4:=by rw [hw4];exact((B0 _ _).setCell (.inl (by simp)) _).setCell (.inl (by simp)) _
 clear hw4 k0 k1 f3
 have N4:=N3.keep c4 (by simp;omega)
 have I4qq:=I3qq.keep c4 (by simp;omega)
 have c34:=Qb (hC3.out.trans c4 (fun y hy=>.inr (by rw [E0.1 hy];omega)))
 have q4:=b4.o6
 have f4:=b4.f
 clear c4
 go_wp2_with (first|(at_mapUpdate;refine Qh7 rfl (.tmp 96) (.tmp 97) (.const (.bool true)) _ rfl hu Qh8 rfl N4 (s:=s2) rfl rfl hk2.out ?_;intro w5 n5 c5 z5)|fail)
 refine bodyPost_ret (results_none (by kernel_rfl) _ _ _) rfl ?_
 exact⟨rfl,n5.congr (fun t=>or_congr i7 (hre.out.1 t).symm),(I4qq.keep c5 (by simp;omega)).congr (fun i n _=>⟨.inl,fun h=>h.elim id (fun h=>absurd h (hre.out.2.1 i n))⟩) ⟨.inl,fun h=>h.elim id (fun h=>absurd h hre.out.2.2)⟩,(c34.out.mono (T:=[xiq,nx]) (by simp)).trans c5 (fun y hy=>.inl (by rw [E0.1 hy];simp))⟩
theorem Qit (SB:Nat->Prop) (B xiq:Nat) (a:Qa) (ha:Qgc a) (hsb:∀y,SB y->y<B) (hop:a.op=4):Qij SB B xiq a:=by
 intro g off nx s N A F w hE hB hI hN hx hA hs
 have hw3:=Qin (a:=a) (by omega) (by omega)
 rw [hw3]
 have hslot:QE a.slot:=Qim ha
 obtain⟨n,hn,hn3⟩:∃n:Nat,a.slot=(n:Int)/\n<3:=⟨a.slot.toNat,by have:=hslot.1;omega,by have:=hslot.2;omega⟩
 obtain⟨uA,uB,hSB,lg,cs,lA,lB⟩:=id hA
 have gB:=hsb g hSB
 have op0:=cs.1
 have sl0:=cs.2.1
 rw [hn] at sl0
 replace cs:=Qb cs
 have hE2:=hE
 unfold Qgi
 go_enter Tryz.func82,Tryz.ntmps82
 have hm:=UU Tryz.prog
 have hu:Tryz.prog.underlying 118=some (.map 114 4):=by kernel_rfl
 obtain⟨bx,hbx⟩:∃bx,w.heap.size=bx:=⟨_,rfl⟩
 go_upto_region 1 with fail
 refine Qp fun w2 hw2=>?_
 have c2:Qc [] w w2:=by rw [hw2];exact C6
 have z2:w2.heap.size=bx+1:=by rw [hw2, <-hbx];simp
 have b2:ZU w2 bx (Qg9 s):=by rw [hw2, <-hbx];exact L9 w _ _
 clear hw2
 try rw [hbx]
 have q2:=(b2.alloc (.map #[] 0)).o6
 have f2:=(b2.alloc (.map #[] 0)).f
 have hkc:KCg (Qgi s):=⟨s,rfl,hs⟩
 unfold Qgi at hkc
 have hM0:ZH (w2.alloc (.map #[] 0)) KCg (bx+1) []:=by rw [<-z2];exact ZH.made w2 KCg
 have cm:Qc [] w2 (w2.alloc (.map #[] 0)):=C6
 go_upto_region 2 with (first|(refine vz rfl (.tmp 16) (.tmp 17) (.const (.bool true)) _ rfl Qh8 trivial hu rfl hM0 (key:=Qgi s) (val:=.bool true) rfl rfl hkc ?_;intro w3 E3 hE3 d3 sz3 hm3)|fail)
 have S3:Qd6 w3 (bx+1) (fun t=>t=s):=(Qd6.put (X:=fun _=>False) (E:=[]) (fun p hp=>by cases hp) (fun _ h=>h.elim) hs hE3 hm3).congr (fun k=>⟨fun h=>h.resolve_left id,.inr⟩)
 have c23:Qc [] w2 w3:=cm.trans d3 (fun y hy=>.inr (by rw [E0.1 hy];omega))
 have c3:Qc [] w w3:=c2.tz c23
 have z3:w3.heap.size=bx+2:=by rw [sz3];simp [z2]
 have b3:=b2.keep c23
 have I3qq:=hI.keep c3
 have N3:=hN.keep c3
 have A3:=hA.keep (B:=B) c3 hsb (by simp)
 have E3q:=hE.keep c3 (by simp) hB
 have B3:=G5 hB c3.size
 have cs3:=Qb (fun(o:Nat) (u:Value) (h:w.cell? ⟨g,o,none⟩=some u)=>(c3.cell (p:=⟨g,o,none⟩) lg (by simp)).trans h)
 have op3:=cs3.out _ _ op0
 have sl3:=cs3.out _ _ sl0
 have lg3:=F6 lg c3.size
 have lxi:=hI.lt
 have lnx:=hN.lt
 have hC3:=Qb c3
 have ni:((n:Nat):Int)<3:=by omega
 clear hE3 hm3 d3 sz3 hM0 cm q2 f2 c23 c2 hkc hI hN hA hE
 rw [hop] at op3
 obtain⟨g0,g1⟩:=QhQ s hslot
 have hst:=Qir s hslot
 rw [show a.slot.toNat=n by omega] at g0 g1 hst
 have k0:=b3.c _ _ g0
 have k1:=b3.c _ _ g1
 have f3:=b3.f
 have hre:(∀t,(QdW a).reach s t↔t=s.set a.slot (s.get a.other))/\(∀i n,¬(QdW a).ask s i n)/\¬(QdW a).fail s:=by
  unfold QdW
  simp only [hop,if_true,show ¬(4:Int)=1 by decide,show ¬(4:Int)=5 by decide,if_false]
  exact⟨fun _=>by trivial,fun _ _ h=>h,fun h=>h⟩
 have hk2:=Qhz a ha s _ hs ((hre.1 _).2 rfl)
 obtain⟨s2,hs2⟩:∃s2,s.set a.slot (s.get a.other)=s2:=⟨_,rfl⟩
 rw [hs2] at hre hk2
 have hoth:QE a.other:=((GV hop).1 ha.1).2.1
 obtain⟨m,hm0,hm3⟩:∃m:Nat,a.other=(m:Int)/\m<3:=⟨a.other.toNat,by have:=hoth.1;omega,by have:=hoth.2;omega⟩
 obtain⟨o0,o1⟩:=QhQ s hoth
 rw [show a.other.toNat=m by omega] at o0 o1
 obtain⟨y,hy⟩:∃y,s.get a.other=y:=⟨_,rfl⟩
 rw [hy] at o0 o1 hs2
 have j0:=b3.c _ _ o0
 have j1:=b3.c _ _ o1
 have ot3:=cs3.out _ _ cs.out.2.2.1
 rw [hm0] at ot3
 have mi:((m:Nat):Int)<3:=by omega
 have hst:=hst y.given y.shape
 have hs2:s.set a.slot ⟨y.given,y.shape⟩=s2:=hs2
 rw [hs2] at hst
 clear hy hm0 o0 o1 hoth
 replace hst:=Qb hst
 replace hre:=Qb hre
 replace hk2:=Qb hk2
 clear hs2 g0 g1 hn hslot A3 hw3
 go_upto_region 33 with fail
 refine Qp fun w4 hw4=>?_
 have b4:ZU w4 bx (Qg9 s2):=by rw [hw4, <-hst.out];exact(b3.set _ _).set _ _
 have c4:Qc [bx] w3 w4:=by rw [hw4];exact((B0 _ _).setCell (.inl (by simp)) _).setCell (.inl (by simp)) _
 clear hw4 k0 k1 f3 j0 j1
 have N4:=N3.keep c4 (by simp;omega)
 have I4qq:=I3qq.keep c4 (by simp;omega)
 have c34:=Qb (hC3.out.trans c4 (fun y hy=>.inr (by rw [E0.1 hy];omega)))
 have q4:=b4.o6
 have f4:=b4.f
 clear c4
 go_wp2_with (first|(at_mapUpdate;refine Qh7 rfl (.tmp 108) (.tmp 109) (.const (.bool true)) _ rfl hu Qh8 rfl N4 (s:=s2) rfl rfl hk2.out ?_;intro w5 n5 c5 z5)|fail)
 refine bodyPost_ret (results_none (by kernel_rfl) _ _ _) rfl ?_
 exact⟨rfl,n5.congr (fun t=>or_congr i7 (hre.out.1 t).symm),(I4qq.keep c5 (by simp;omega)).congr (fun i n _=>⟨.inl,fun h=>h.elim id (fun h=>absurd h (hre.out.2.1 i n))⟩) ⟨.inl,fun h=>h.elim id (fun h=>absurd h hre.out.2.2)⟩,(c34.out.mono (T:=[xiq,nx]) (by simp)).trans c5 (fun y hy=>.inl (by rw [E0.1 hy];simp))⟩
end Go.Proofs.YtfjhdnjlhjimeaaGreatDoor
set_option maxRecDepth 100000
set_option maxHeartbeats 8000000
namespace Go.Proofs.YtfjhdnjlhjimeaaGreatDoor
open Go.RowKit

def Qix (SL:List Nat) (VL:List Value) (d:Nat->Bool) (v:Nat->Value):Prop:=∀(i s:Nat) (x:Value),SL[i]?=some s->VL[i]?=some x->d i=true->v s=x
theorem Qiv {SL:List Nat} {VL:List Value} {d:Nat->Bool} {v:Nat->Value} (hn:SL.Nodup) (H:Qix SL VL d v) (j s:Nat) (x:Value) (hs:SL[j]?=some s) (hx:VL[j]?=some x):Qix SL VL (fun i=>i==j || d i) (KI (some s) x v):=by
 intro i s' x' h1 h2 h3
 by_cases e:i=j
 ·subst e
  cases hs.symm.trans h1
  cases hx.symm.trans h2
  simp [KI]
 ·have hne:s'≠s:=by
   rintro rfl
   obtain⟨l1,e1⟩:=N9.1 h1
   obtain⟨l2,e2⟩:=N9.1 hs
   exact e ((List.getElem_inj hn).1 (e1.trans e2.symm))
  simp only [KI,if_neg hne]
  exact H i s' x' h1 h2 (by simpa [e] using h3)
theorem QiA (SB:Nat->Prop) (B xiq:Nat) (a:Qa) (ha:Qgc a) (hsb:∀y,SB y->y<B) (hop:a.op=8) (hLA:Qii SB B xiq a.A) (hLB:Qii SB B xiq a.B):Qij SB B xiq a:=by
 intro g off nx s N A F w hE hB hI hN hx hA hs
 have hw3:a.w3 QdW=W3.alt (w3L QdW a.A) (w3L QdW a.B):=by rw [Qa.w3_eq,if_pos hop]
 rw [hw3]
 obtain⟨XA,hXA⟩:∃X,w3L QdW a.A=X:=⟨_,rfl⟩
 obtain⟨XB,hXB⟩:∃X,w3L QdW a.B=X:=⟨_,rfl⟩
 rw [hXA,hXB]
 replace hXA:=Qb hXA
 replace hXB:=Qb hXB
 have hslot:QE a.slot:=Qim ha
 obtain⟨n,hn,hn3⟩:∃n:Nat,a.slot=(n:Int)/\n<3:=⟨a.slot.toNat,by have:=hslot.1;omega,by have:=hslot.2;omega⟩
 obtain⟨uA,uB,hSB,lg,cs,lA,lB⟩:=id hA
 have gB:=hsb g hSB
 have op0:=cs.1
 have sl0:=cs.2.1
 rw [hn] at sl0
 replace cs:=Qb cs
 have hE2:=hE
 unfold Qgi
 go_enter Tryz.func82,Tryz.ntmps82
 have hm:=UU Tryz.prog
 have hu:Tryz.prog.underlying 118=some (.map 114 4):=by kernel_rfl
 obtain⟨bx,hbx⟩:∃bx,w.heap.size=bx:=⟨_,rfl⟩
 go_upto_region 1 with fail
 refine Qp fun w2 hw2=>?_
 have c2:Qc [] w w2:=by rw [hw2];exact C6
 have z2:w2.heap.size=bx+1:=by rw [hw2, <-hbx];simp
 have b2:ZU w2 bx (Qg9 s):=by rw [hw2, <-hbx];exact L9 w _ _
 clear hw2
 try rw [hbx]
 have q2:=(b2.alloc (.map #[] 0)).o6
 have f2:=(b2.alloc (.map #[] 0)).f
 have hkc:KCg (Qgi s):=⟨s,rfl,hs⟩
 unfold Qgi at hkc
 have hM0:ZH (w2.alloc (.map #[] 0)) KCg (bx+1) []:=by rw [<-z2];exact ZH.made w2 KCg
 have cm:Qc [] w2 (w2.alloc (.map #[] 0)):=C6
 go_upto_region 2 with (first|(refine vz rfl (.tmp 16) (.tmp 17) (.const (.bool true)) _ rfl Qh8 trivial hu rfl hM0 (key:=Qgi s) (val:=.bool true) rfl rfl hkc ?_;intro w3 E3 hE3 d3 sz3 hm3)|fail)
 have S3:Qd6 w3 (bx+1) (fun t=>t=s):=(Qd6.put (X:=fun _=>False) (E:=[]) (fun p hp=>by cases hp) (fun _ h=>h.elim) hs hE3 hm3).congr (fun k=>⟨fun h=>h.resolve_left id,.inr⟩)
 have c23:Qc [] w2 w3:=cm.trans d3 (fun y hy=>.inr (by rw [E0.1 hy];omega))
 have c3:Qc [] w w3:=c2.tz c23
 have z3:w3.heap.size=bx+2:=by rw [sz3];simp [z2]
 have b3:=b2.keep c23
 have I3qq:=hI.keep c3
 have N3:=hN.keep c3
 have A3:=hA.keep (B:=B) c3 hsb (by simp)
 have E3q:=hE.keep c3 (by simp) hB
 have B3:=G5 hB c3.size
 have cs3:=Qb (fun(o:Nat) (u:Value) (h:w.cell? ⟨g,o,none⟩=some u)=>(c3.cell (p:=⟨g,o,none⟩) lg (by simp)).trans h)
 have op3:=cs3.out _ _ op0
 have sl3:=cs3.out _ _ sl0
 have lg3:=F6 lg c3.size
 have lxi:=hI.lt
 have lnx:=hN.lt
 have hC3:=Qb c3
 have ni:((n:Nat):Int)<3:=by omega
 clear hE3 hm3 d3 sz3 hM0 cm q2 f2 c23 c2 hkc hI hN hA hE
 rw [hop] at op3
 obtain⟨A1,p1,eA,_,_⟩:=lA.sl
 obtain⟨A2,p2,eB,_,_⟩:=lB.sl
 subst eA eB
 have lA3:=lA.keep (B:=B) c3 hsb (by simp)
 have lB3:=lB.keep (B:=B) c3 hsb (by simp)
 have ca3:=cs3.out _ _ cs.out.2.2.2.2.2.2.2.2.2.1
 have cb3:=cs3.out _ _ cs.out.2.2.2.2.2.2.2.2.2.2
 have q3:=b3.o6
 have f3:=b3.f
 clear A3 lA lB hw3 hs b3
 have pick:∀k:Nat,k<2->∃M uMq,([.slice A1 a.A.length p1,.slice A2 a.B.length p2]:List Value)[k]?=some uMq/\Qii SB B xiq M/\WY SB w3 M uMq/\((k=0/\w3L QdW M=XA)∨(k=1/\w3L QdW M=XB)):=fun k hk=>by
  rcases(show k=0∨k=1 by omega) with rfl|rfl
  ·exact⟨a.A,_,rfl,hLA,lA3,.inl ⟨rfl,hXA.out⟩⟩
  ·exact⟨a.B,_,rfl,hLB,lB3,.inr ⟨rfl,hXB.out⟩⟩
 replace pick:=Qb pick
 clear hLA hLB hXA hXB lA3 lB3
 go_upto_region 5 with fail
 obtain⟨VL,hV⟩:∃VL:List Value,VL=[.pointer (some ⟨g,off,none⟩),.pointer (some ⟨g,off,none⟩),.pointer (some ⟨g,off+9,none⟩),.slice A1 a.A.length p1,.pointer (some ⟨g,off,none⟩),.pointer (some ⟨g,off,none⟩),.pointer (some ⟨g,off+10,none⟩),.slice A2 a.B.length p2,.slice (some ⟨bx+2,0,none⟩) 2 2,.int .i64 2,.int .i64 0]:=⟨_,rfl⟩
 obtain⟨J,hJ⟩:∃J:(Nat->Bool)->(Nat->Value)->World->Prop,∀d v W,J d v W↔(Qix [30,31,32,33,34,35,36,37,38,39,40] VL d v/\Qc [] w3 W/\(d 8=false->W.heap.size=bx+2)/\(d 8=true->ZU W (bx+2) [.slice A1 a.A.length p1,.slice A2 a.B.length p2])):=⟨_,fun _ _ _=>i7⟩
 refine Qiw (b:=⟨#[],[]⟩) [30,31,32,33,34,35,36,37,38,39,40] J (by kernel_rfl) (XN _ _) (by kernel_rfl) (by kernel_rfl) ?_ ?_ ?_
 ·exact(hJ _ _ _).2 ⟨fun i s x h1 _ h3=>absurd (N9.1 h1).1 (by simpa using h3),C6,fun _=>by simp [z3],fun h=>absurd h (by decide)⟩
 ·refine⟨?_,?_,?_,?_,?_,?_,?_,?_,?_,?_,?_,trivial⟩
  ·intro d v W hd hpre hJ1 K hK
   have H:=Qb ((hJ _ _ _).1 hJ1)
   clear hJ1
   clear hpre
   simp only [Xq,C8,C9]
   go_simp
   refine YD hK (by simp only [Xq,Act.put,D0,C8,C9] <;>rfl) ((hJ _ _ _).2 ⟨Qiv (by decide) H.out.1 0 _ _ rfl (by rw [hV];rfl),H.out.2.1,fun h=>H.out.2.2.1 (by simpa using h),fun h=>H.out.2.2.2 (by simpa using h)⟩)
  ·intro d v W hd hpre hJ1 K hK
   have H:=Qb ((hJ _ _ _).1 hJ1)
   clear hJ1
   have e0:v 30= .pointer (some ⟨g,off,none⟩):=H.out.1 0 _ _ rfl (by rw [hV];rfl) (Qh hpre 0)
   clear hpre
   simp only [Xq,C8,C9,e0]
   go_simp
   refine YD hK (by simp only [Xq,Act.put,D0,C8,C9,e0] <;>rfl) ((hJ _ _ _).2 ⟨Qiv (by decide) H.out.1 1 _ _ rfl (by rw [hV];rfl),H.out.2.1,fun h=>H.out.2.2.1 (by simpa using h),fun h=>H.out.2.2.2 (by simpa using h)⟩)
  ·intro d v W hd hpre hJ1 K hK
   have H:=Qb ((hJ _ _ _).1 hJ1)
   clear hJ1
   have e1:v 31= .pointer (some ⟨g,off,none⟩):=H.out.1 1 _ _ rfl (by rw [hV];rfl) (Qh hpre 1)
   clear hpre
   simp only [Xq,C8,C9,e1]
   go_simp
   refine YD hK (by simp only [Xq,Act.put,D0,C8,C9,e1] <;>rfl) ((hJ _ _ _).2 ⟨Qiv (by decide) H.out.1 2 _ _ rfl (by rw [hV];rfl),H.out.2.1,fun h=>H.out.2.2.1 (by simpa using h),fun h=>H.out.2.2.2 (by simpa using h)⟩)
  ·intro d v W hd hpre hJ1 K hK
   have H:=Qb ((hJ _ _ _).1 hJ1)
   clear hJ1
   have e2:v 32= .pointer (some ⟨g,off+9,none⟩):=H.out.1 2 _ _ rfl (by rw [hV];rfl) (Qh hpre 2)
   clear hpre
   have q:=(H.out.2.1.cell (p:=⟨g,off+9,none⟩) lg3 (by simp)).trans ca3
   simp only [Xq,C8,C9,e2]
   go_simp
   refine YD hK (by simp only [Xq,Act.put,D0,C8,C9,e2] <;>rfl) ((hJ _ _ _).2 ⟨Qiv (by decide) H.out.1 3 _ _ rfl (by rw [hV];rfl),H.out.2.1,fun h=>H.out.2.2.1 (by simpa using h),fun h=>H.out.2.2.2 (by simpa using h)⟩)
  ·intro d v W hd hpre hJ1 K hK
   have H:=Qb ((hJ _ _ _).1 hJ1)
   clear hJ1
   clear hpre
   simp only [Xq,C8,C9]
   go_simp
   refine YD hK (by simp only [Xq,Act.put,D0,C8,C9] <;>rfl) ((hJ _ _ _).2 ⟨Qiv (by decide) H.out.1 4 _ _ rfl (by rw [hV];rfl),H.out.2.1,fun h=>H.out.2.2.1 (by simpa using h),fun h=>H.out.2.2.2 (by simpa using h)⟩)
  ·intro d v W hd hpre hJ1 K hK
   have H:=Qb ((hJ _ _ _).1 hJ1)
   clear hJ1
   have e4:v 34= .pointer (some ⟨g,off,none⟩):=H.out.1 4 _ _ rfl (by rw [hV];rfl) (Qh hpre 4)
   clear hpre
   simp only [Xq,C8,C9,e4]
   go_simp
   refine YD hK (by simp only [Xq,Act.put,D0,C8,C9,e4] <;>rfl) ((hJ _ _ _).2 ⟨Qiv (by decide) H.out.1 5 _ _ rfl (by rw [hV];rfl),H.out.2.1,fun h=>H.out.2.2.1 (by simpa using h),fun h=>H.out.2.2.2 (by simpa using h)⟩)
  ·intro d v W hd hpre hJ1 K hK
   have H:=Qb ((hJ _ _ _).1 hJ1)
   clear hJ1
   have e5:v 35= .pointer (some ⟨g,off,none⟩):=H.out.1 5 _ _ rfl (by rw [hV];rfl) (Qh hpre 5)
   clear hpre
   simp only [Xq,C8,C9,e5]
   go_simp
   refine YD hK (by simp only [Xq,Act.put,D0,C8,C9,e5] <;>rfl) ((hJ _ _ _).2 ⟨Qiv (by decide) H.out.1 6 _ _ rfl (by rw [hV];rfl),H.out.2.1,fun h=>H.out.2.2.1 (by simpa using h),fun h=>H.out.2.2.2 (by simpa using h)⟩)
  ·intro d v W hd hpre hJ1 K hK
   have H:=Qb ((hJ _ _ _).1 hJ1)
   clear hJ1
   have e6:v 36= .pointer (some ⟨g,off+10,none⟩):=H.out.1 6 _ _ rfl (by rw [hV];rfl) (Qh hpre 6)
   clear hpre
   have q:=(H.out.2.1.cell (p:=⟨g,off+10,none⟩) lg3 (by simp)).trans cb3
   simp only [Xq,C8,C9,e6]
   go_simp
   refine YD hK (by simp only [Xq,Act.put,D0,C8,C9,e6] <;>rfl) ((hJ _ _ _).2 ⟨Qiv (by decide) H.out.1 7 _ _ rfl (by rw [hV];rfl),H.out.2.1,fun h=>H.out.2.2.1 (by simpa using h),fun h=>H.out.2.2.2 (by simpa using h)⟩)
  ·intro d v W hd hpre hJ1 K hK
   have H:=Qb ((hJ _ _ _).1 hJ1)
   clear hJ1
   have e3:v 33= .slice A1 a.A.length p1:=H.out.1 3 _ _ rfl (by rw [hV];rfl) (Qh hpre 3)
   have e7:v 37= .slice A2 a.B.length p2:=H.out.1 7 _ _ rfl (by rw [hV];rfl) (Qh hpre 7)
   clear hpre
   have hz:=H.out.2.2.1 hd
   simp only [Xq,C8,C9,e3,e7]
   go_simp
   refine YD hK (by simp only [Xq,Act.put,D0,C8,C9,e3,e7] <;>rfl) ((hJ _ _ _).2 ⟨Qiv (by decide) H.out.1 8 _ _ rfl (by rw [hV];rfl),H.out.2.1.alloc (.cells #[.slice A1 a.A.length p1,.slice A2 a.B.length p2] 24),fun h=>absurd h (by simp),fun _=>by rw [<-hz];exact L9 W #[.slice A1 a.A.length p1,.slice A2 a.B.length p2] 24⟩)
  ·intro d v W hd hpre hJ1 K hK
   have H:=Qb ((hJ _ _ _).1 hJ1)
   clear hJ1
   have e8:v 38= .slice (some ⟨bx+2,0,none⟩) 2 2:=H.out.1 8 _ _ rfl (by rw [hV];rfl) (Qh hpre 8)
   clear hpre
   simp only [Xq,C8,C9,e8]
   go_simp
   refine YD hK (by simp only [Xq,Act.put,D0,C8,C9,e8] <;>rfl) ((hJ _ _ _).2 ⟨Qiv (by decide) H.out.1 9 _ _ rfl (by rw [hV];rfl),H.out.2.1,fun h=>H.out.2.2.1 (by simpa using h),fun h=>H.out.2.2.2 (by simpa using h)⟩)
  ·intro d v W hd hpre hJ1 K hK
   have H:=Qb ((hJ _ _ _).1 hJ1)
   clear hJ1
   clear hpre
   simp only [Xq,C8,C9]
   go_simp
   refine YD hK (by simp only [Xq,Act.put,D0,C8,C9] <;>rfl) ((hJ _ _ _).2 ⟨Qiv (by decide) H.out.1 10 _ _ rfl (by rw [hV];rfl),H.out.2.1,fun h=>H.out.2.2.1 (by simpa using h),fun h=>H.out.2.2.2 (by simpa using h)⟩)
 ·intro v W hJ1
  have H:=(hJ _ _ _).1 hJ1
  clear hJ1
  have e8:v 38= .slice (some ⟨bx+2,0,none⟩) 2 2:=H.1 8 _ _ rfl (by rw [hV];rfl) rfl
  have e9:v 39= .int .i64 2:=H.1 9 _ _ rfl (by rw [hV];rfl) rfl
  have e10:v 40= .int .i64 0:=H.1 10 _ _ rfl (by rw [hV];rfl) rfl
  have cW:=H.2.1
  have bq:=H.2.2.2 rfl
  clear H hJ J hV
  obtain⟨qbq,hqb⟩:∃qbq,bx+2=qbq:=⟨_,rfl⟩
  rw [hqb] at e8 bq
  simp only [Xq,C8,C9,e8,e9,e10]
  clear e8 e9 e10 ca3 cb3 q3 f3
  have I5qq:=I3qq.keep cW
  have N5:=N3.keep cW
  have S5:=S3.keep cW
  have EW:=E3q.keep cW (by simp) B3
  have BW:=G5 B3 cW.size
  replace hC3:=Qb (hC3.out.tz cW)
  have zWq:=cW.size
  have CW:=Qb cW
  clear cW
  go_wp2_with fail
  go_loopw [40] (fun i wr=>∃k:Nat,k<=2/\i= .int .i64 (k:Int)/\Qd6 wr nx (fun t=>N t∨(1<=k/\XA.reach s t)∨(k=2/\XB.reach s t))/\Qf9 wr xiq (fun i n=>A i n∨(1<=k/\XA.ask s i n)∨(k=2/\XB.ask s i n)) (F∨(1<=k/\XA.fail s)∨(k=2/\XB.fail s))/\Qc [xiq,nx] W wr) (fun i _=>2-(intOf i).toNat)
  case atStart=>exact⟨0,by omega,rfl,N5.congr (fun t=>by simp),I5qq.congr (fun i n _=>by simp) (by simp),B0 _ _⟩
  case round=>
   obtain⟨k,hk,rfl,hNk,hIk,hck⟩:=hrel
   obtain⟨wo,hwo⟩:∃wo:World,wo=wr:=⟨_,rfl⟩
   rw [<-hwo] at hNk hIk hck ⊢
   clear hwo
   have zo:=hck.size
   by_cases hk2:k<2
   ·obtain⟨M,uMq,huM,hLM,lM,hpk⟩:=pick.out k hk2
    have bo:=bq.keep hck (by simp;omega)
    have cq:=bo.c k _ huM
    have kq:((k:Nat):Int)<2:=by omega
    have lMo:=(lM.keep (B:=B) CW.out hsb (by simp)).keep hck hsb (fun y hy=>by simp only [C7,F1,or_false] at hy;rcases hy with rfl|rfl<;>omega)
    have So:=S5.keep hck
    have Eo:=EW.keep hck (fun y hy=>by simp only [C7,F1,or_false] at hy;rcases hy with rfl|rfl<;>omega) BW
    have Bo:=G5 BW hck.size
    obtain⟨XMq,hXM⟩:∃X,w3L QdW M=X:=⟨_,rfl⟩
    rw [hXM] at hpk
    have LM:=Qb (hLM uMq (bx+1) _ _ _ wo Eo Bo hIk So ⟨hx.1,by omega,by omega⟩ lMo)
    rw [hXM] at LM
    replace hpk:=Qb hpk
    clear huM hLM lM lMo bo hXM hIk So Eo
    go_wp2_with fail
    refine LM.out.mono ?_
    rintro e w5 ⟨b',rfl,s5,i5,c5,hb'⟩
    have s5:Qd6 w5 b' (fun t=>XMq.reach s t):=s5.congr (fun t=>⟨fun⟨_,e,h⟩=>e ▸ h,fun h=>⟨s,rfl,h⟩⟩)
    have i5:=i5.congr (A':=fun i n=>(A i n∨(1<=k/\XA.ask s i n)∨(k=2/\XB.ask s i n))∨XMq.ask s i n) (F':=(F∨(1<=k/\XA.fail s)∨(k=2/\XB.fail s))∨XMq.fail s) (fun i n _=>or_congr i7 ⟨fun⟨_,e,h⟩=>e ▸ h,fun h=>⟨s,rfl,h⟩⟩) (or_congr i7 ⟨fun⟨_,e,h⟩=>e ▸ h,fun h=>⟨s,rfl,h⟩⟩)
    have n5:=hNk.keep c5 (by simp;omega)
    have z5:=c5.size
    have hbn:b'≠nx/\b'≠xiq:=by rcases hb' with rfl|h;exact⟨by omega,by omega⟩;exact⟨by omega,by omega⟩
    have ck5:=Qb (hck.trans c5 (fun y hy=>.inl (by rw [E0.1 hy];simp)))
    obtain⟨r,hr⟩:∃r,w5.heap.size=r:=⟨_,rfl⟩
    clear LM hNk cq hck c5 hb'
    go_wp2_with (first|(at_range;refine Qia rfl (.tmp 47) _ rfl hu rfl s5 ?_;intro w6 hR6 hc6 hs6)|fail)
    rw [hr] at hR6 hs6 ⊢
    simp only [Act.put,D0,C8,C9]
    have n6:=n5.keep hc6
    have i6qq:=i5.keep hc6
    have ck6:=Qb (ck5.out.tz hc6)
    have hrn:r≠nx/\r≠xiq:=by omega
    have rW:=hC3.out.size
    clear s5 n5 i5 ck5 hc6
    go_loopw [] (fun wr=>∃D,Sgs wr b' r (fun t=>XMq.reach s t) D/\Qd6 wr nx (fun t=>(fun t=>N t∨(1<=k/\XA.reach s t)∨(k=2/\XB.reach s t)) t∨D t)/\Qc [nx,r] w6 wr) (fun wr=>leftN wr b' r)
    case atStart=>exact⟨_,hR6,n6.congr (fun t=>⟨.inl,fun h=>h.elim id (fun h=>h.elim)⟩),B0 _ _⟩
    case round=>
     obtain⟨D,hRq,hNq,hcq⟩:=hrel
     obtain⟨wq,hwq⟩:∃wq:World,wq=wr:=⟨_,rfl⟩
     rw [<-hwq] at hRq hNq hcq ⊢
     clear hwq
     go_upto_region 11 with (first|(at_next;refine Qh9 rfl (.tmp 48) rfl rfl hRq ?_ ?_;rotate_left;intro t0 wA ht5 hXt hRA hcA hsA hltA hent;unfold Qgi at hent ⊢;rotate_right;intro hD)|fail)
     ·have hN2:Qd6 wq nx (fun t=>(fun t=>N t∨(1<=k/\XA.reach s t)∨(k=2/\XB.reach s t)) t∨(fun t=>XMq.reach s t) t):=hNq.congr (fun t=>by simp only [hD])
      clear hD hRq hNq
      have i7qq:=i6qq.keep hcq (by simp;omega)
      have ck7:=ck6.out.trans hcq (fun y hy=>by
       simp only [C7,F1,or_false] at hy
       rcases hy with rfl|rfl
       ·exact .inl (by simp)
       ·exact .inr (by omega))
      have hpk2:=hpk.out
      clear hcq i6qq n6 hR6 hpk ck6
      go_wp2_with fail
      go_roundw
      case rel=>
       rcases hpk2 with ⟨rfl,rfl⟩|⟨rfl,rfl⟩
       ·exact⟨1,by omega,by go_num,hN2.congr (fun t=>by simp),i7qq.congr (fun i n _=>by simp) (by simp),ck7⟩
       ·exact⟨2,by omega,by go_num,hN2.congr (fun t=>by simp [or_assoc]),i7qq.congr (fun i n _=>by simp [or_assoc]) (by simp [or_assoc]),ck7⟩
      case measure=>simp [intOf];omega
     ·refine Qp fun w9 hw9=>?_
      obtain⟨x13,hx13⟩:∃x13,wA.heap.size=x13:=⟨_,rfl⟩
      have c9:Qc [] wA w9:=by rw [hw9];exact C6
      have E13:ZU w9 x13 (Qg9 t0):=by rw [hw9, <-hx13];exact L9 wA _ _
      try rw [<-hsA]
      try rw [hx13]
      clear hw9
      have cr9:Qc [r] wq w9:=hcA.tz c9
      have N9qq:=hNq.keep cr9
      have R9qq:=(hRA.keep c9).1
      have hl9:leftN w9 b' r<leftN wq b' r:=by rw [(hRA.keep c9).2];exact hltA
      have q13:=E13.o6
      have f13:=E13.f
      have CC:=Qb (hcq.trans cr9 (fun y hy=>.inl (by rw [E0.1 hy];simp)))
      replace R9qq:=Qb R9qq
      replace hl9:=Qb hl9
      clear hRq hNq hRA hcA hltA hent hsA hXt hcq
      go_wp2_with (first|(at_mapUpdate;refine Qh7 rfl (.tmp 53) (.tmp 54) (.const (.bool true)) _ rfl hu Qh8 rfl N9qq (s:=t0) rfl rfl ht5 ?_;intro w10 n10 c10 z10)|fail)
      have R10:=R9qq.out.keep c10
      go_roundw
      case rel=>exact⟨_,R10.1,n10.congr (fun t=>by first|exact or_assoc|simp [or_assoc]),CC.out.trans c10 (fun y hy=>.inl (by rw [E0.1 hy];simp))⟩
      case measure=>rw [R10.2];exact hl9.out
   ·obtain rfl:k=2:=by omega
    go_wp2_with fail
    refine bodyPost_ret (results_none (by kernel_rfl) _ _ _) rfl ?_
    exact⟨rfl,hNk.congr (fun t=>by simp [W3.alt]),hIk.congr (fun i n _=>by simp [W3.alt]) (by simp [W3.alt]),(hC3.out.mono (T:=[xiq,nx]) (by simp)).trans hck (fun y hy=>.inl hy)⟩
theorem QiD (SB:Nat->Prop) (B xiq:Nat) (a:Qa) (ha:Qgc a) (hsb:∀y,SB y->y<B) (hop:a.op=9) (hLA:Qii SB B xiq a.A):Qij SB B xiq a:=by
 intro g off nx s N A F w hE hB hI hN hx hA hs
 have hw3:a.w3 QdW=W3.loop (w3L QdW a.A):=by rw [Qa.w3_eq,if_neg (by omega),if_pos hop]
 rw [hw3]
 obtain⟨XA,hXA⟩:∃X,w3L QdW a.A=X:=⟨_,rfl⟩
 rw [hXA]
 replace hXA:=Qb hXA
 have hslot:QE a.slot:=Qim ha
 obtain⟨n,hn,hn3⟩:∃n:Nat,a.slot=(n:Int)/\n<3:=⟨a.slot.toNat,by have:=hslot.1;omega,by have:=hslot.2;omega⟩
 obtain⟨uA,uB,hSB,lg,cs,lA,lB⟩:=id hA
 have gB:=hsb g hSB
 have op0:=cs.1
 have sl0:=cs.2.1
 rw [hn] at sl0
 replace cs:=Qb cs
 have hE2:=hE
 unfold Qgi
 go_enter Tryz.func82,Tryz.ntmps82
 have hm:=UU Tryz.prog
 have hu:Tryz.prog.underlying 118=some (.map 114 4):=by kernel_rfl
 obtain⟨bx,hbx⟩:∃bx,w.heap.size=bx:=⟨_,rfl⟩
 go_upto_region 1 with fail
 refine Qp fun w2 hw2=>?_
 have c2:Qc [] w w2:=by rw [hw2];exact C6
 have z2:w2.heap.size=bx+1:=by rw [hw2, <-hbx];simp
 have b2:ZU w2 bx (Qg9 s):=by rw [hw2, <-hbx];exact L9 w _ _
 clear hw2
 try rw [hbx]
 have q2:=(b2.alloc (.map #[] 0)).o6
 have f2:=(b2.alloc (.map #[] 0)).f
 have hkc:KCg (Qgi s):=⟨s,rfl,hs⟩
 unfold Qgi at hkc
 have hM0:ZH (w2.alloc (.map #[] 0)) KCg (bx+1) []:=by rw [<-z2];exact ZH.made w2 KCg
 have cm:Qc [] w2 (w2.alloc (.map #[] 0)):=C6
 go_upto_region 2 with (first|(refine vz rfl (.tmp 16) (.tmp 17) (.const (.bool true)) _ rfl Qh8 trivial hu rfl hM0 (key:=Qgi s) (val:=.bool true) rfl rfl hkc ?_;intro w3 E3 hE3 d3 sz3 hm3)|fail)
 have S3:Qd6 w3 (bx+1) (fun t=>t=s):=(Qd6.put (X:=fun _=>False) (E:=[]) (fun p hp=>by cases hp) (fun _ h=>h.elim) hs hE3 hm3).congr (fun k=>⟨fun h=>h.resolve_left id,.inr⟩)
 have c23:Qc [] w2 w3:=cm.trans d3 (fun y hy=>.inr (by rw [E0.1 hy];omega))
 have c3:Qc [] w w3:=c2.tz c23
 have z3:w3.heap.size=bx+2:=by rw [sz3];simp [z2]
 have b3:=b2.keep c23
 have I3qq:=hI.keep c3
 have N3:=hN.keep c3
 have A3:=hA.keep (B:=B) c3 hsb (by simp)
 have E3q:=hE.keep c3 (by simp) hB
 have B3:=G5 hB c3.size
 have cs3:=Qb (fun(o:Nat) (u:Value) (h:w.cell? ⟨g,o,none⟩=some u)=>(c3.cell (p:=⟨g,o,none⟩) lg (by simp)).trans h)
 have op3:=cs3.out _ _ op0
 have sl3:=cs3.out _ _ sl0
 have lg3:=F6 lg c3.size
 have lxi:=hI.lt
 have lnx:=hN.lt
 have hC3:=Qb c3
 have ni:((n:Nat):Int)<3:=by omega
 clear hE3 hm3 d3 sz3 hM0 cm q2 f2 c23 c2 hkc hI hN hA hE
 rw [hop] at op3
 have lA3:=lA.keep (B:=B) c3 hsb (by simp)
 have ca3:=cs3.out _ _ cs.out.2.2.2.2.2.2.2.2.2.1
 clear A3 lA lB hw3 b3
 go_wp2_with fail
 go_loopw [13,59] (fun now i wr=>∃(k:Nat) (bk:Nat),k<=4/\i= .int .i64 (k:Int)/\now= .map (some bk)/\Qd6 wr bk (fun t=>(XA.pow (k-1)).reach s t)/\(bk=bx+1∨bx+2<=bk)/\Qd6 wr nx (fun t=>N t∨∃n,n<k/\(XA.pow n).reach s t)/\Qf9 wr xiq (fun i n=>A i n∨(XA.pow (k-1)).ask s i n) (F∨(XA.pow (k-1)).fail s)/\Qc [xiq,nx] w3 wr) (fun _ i _=>4-(intOf i).toNat)
 case atStart=>exact⟨0,bx+1,by omega,rfl,rfl,S3,.inl rfl,N3.congr (fun t=>⟨.inl,fun h=>h.elim id (fun⟨_,h,_⟩=>by omega)⟩),I3qq.congr (fun i n _=>⟨.inl,fun h=>h.elim id (fun h=>h.elim)⟩) ⟨.inl,fun h=>h.elim id (fun h=>h.elim)⟩,B0 _ _⟩
 case round=>
  obtain⟨k,bk,hk,rfl,rfl,hSk,hbk,hNk,hIk,hck⟩:=hrel
  obtain⟨wo,hwo⟩:∃wo:World,wo=wr:=⟨_,rfl⟩
  rw [<-hwo] at hSk hNk hIk hck ⊢
  clear hwo
  have zo:=hck.size
  by_cases hk2:k<4
  ·by_cases hk0:k=0
   ·subst hk0
    obtain⟨b5,hb5e⟩:∃b5,bk=b5:=⟨_,rfl⟩
    rw [hb5e] at hSk hbk ⊢
    clear hb5e
    obtain⟨w5,hw5⟩:∃w5:World,w5=wo:=⟨_,rfl⟩
    rw [<-hw5] at hSk hNk hIk hck zo ⊢
    clear hw5
    have s5:Qd6 w5 b5 (fun t=>(XA.pow 0).reach s t):=hSk
    have n5:=hNk
    have i5:Qf9 w5 xiq (fun i n=>A i n∨(XA.pow 0).ask s i n) (F∨(XA.pow 0).fail s):=hIk
    have ck5:=Qb hck
    have hb5:=hbk
    have z5:=hck.size
    have hbn:b5≠nx/\b5≠xiq:=by omega
    clear hSk hNk hIk hck hbk
    obtain⟨r,hr⟩:∃r,w5.heap.size=r:=⟨_,rfl⟩
    go_wp2_with (first|(at_range;refine Qia rfl (.tmp 71) _ rfl hu rfl s5 ?_;intro w6 hR6 hc6 hs6)|fail)
    rw [hr] at hR6 hs6 ⊢
    simp only [Act.put,D0,C8,C9]
    have n6:=n5.keep hc6
    have i6qq:=i5.keep hc6
    have ck6:=Qb (ck5.out.tz hc6)
    have s6:=s5.keep hc6
    have l5:=s5.lt
    have hrn:r≠nx/\r≠xiq/\b5≠r:=by omega
    clear s5 n5 i5 ck5 hc6
    go_loopw [] (fun wr=>∃D,Sgs wr b5 r (fun t=>(XA.pow (0)).reach s t) D/\Qd6 wr nx (fun t=>(fun t=>N t∨∃n,n<0/\(XA.pow n).reach s t) t∨D t)/\Qc [nx,r] w6 wr) (fun wr=>leftN wr b5 r)
    case atStart=>exact⟨_,hR6,n6.congr (fun t=>⟨.inl,fun h=>h.elim id (fun h=>h.elim)⟩),B0 _ _⟩
    case round=>
     obtain⟨D,hRq,hNq,hcq⟩:=hrel
     obtain⟨wq,hwq⟩:∃wq:World,wq=wr:=⟨_,rfl⟩
     rw [<-hwq] at hRq hNq hcq ⊢
     clear hwq
     go_upto_region 23 with (first|(at_next;refine Qh9 rfl (.tmp 72) rfl rfl hRq ?_ ?_;rotate_left;intro t0 wA ht5 hXt hRA hcA hsA hltA hent;unfold Qgi at hent ⊢;rotate_right;intro hD)|fail)
     ·have hN2:Qd6 wq nx (fun t=>(fun t=>N t∨∃n,n<0/\(XA.pow n).reach s t) t∨(fun t=>(XA.pow (0)).reach s t) t):=hNq.congr (fun t=>by simp only [hD])
      clear hD hRq hNq
      have i7qq:=i6qq.keep hcq (by simp;omega)
      have s7:=s6.keep hcq (by simp;omega)
      have ck7:=ck6.out.trans hcq (fun y hy=>by
       simp only [C7,F1,or_false] at hy
       rcases hy with rfl|rfl
       ·exact .inl (by simp)
       ·exact .inr (by omega))
      clear hcq i6qq n6 hR6 ck6 s6
      go_wp2_with fail
      go_roundw
      case rel=>
       have n8:Qd6 wq nx (fun t=>N t∨∃n,n<0+1/\(XA.pow n).reach s t):=hN2.congr (fun t=>⟨fun h=>h.elim (fun h=>h.elim .inl (fun⟨n,a,b⟩=>.inr ⟨n,by omega,b⟩)) (fun h=>.inr ⟨_,by omega,h⟩),fun h=>h.elim (fun h=>.inl (.inl h)) (fun⟨n,a,b⟩=>by
        by_cases e:n=0
        ·exact .inr (e ▸ b)
        ·exact .inl (.inr ⟨n,by omega,b⟩))⟩)
       first
        |exact⟨0+1,b5,by omega,by go_num,rfl,s7,hb5,n8,i7qq,ck7⟩
        |exact⟨0+1,by omega,by go_num,s7,n8,i7qq,ck7⟩
      case measure=>first|(simp [intOf];done)|(simp [intOf];omega)
     ·refine Qp fun w9 hw9=>?_
      obtain⟨x13,hx13⟩:∃x13,wA.heap.size=x13:=⟨_,rfl⟩
      have c9:Qc [] wA w9:=by rw [hw9];exact C6
      have E13:ZU w9 x13 (Qg9 t0):=by rw [hw9, <-hx13];exact L9 wA _ _
      try rw [<-hsA]
      try rw [hx13]
      clear hw9
      have cr9:Qc [r] wq w9:=hcA.tz c9
      have N9qq:=hNq.keep cr9
      have R9qq:=(hRA.keep c9).1
      have hl9:leftN w9 b5 r<leftN wq b5 r:=by rw [(hRA.keep c9).2];exact hltA
      have q13:=E13.o6
      have f13:=E13.f
      have CC:=Qb (hcq.trans cr9 (fun y hy=>.inl (by rw [E0.1 hy];simp)))
      replace R9qq:=Qb R9qq
      replace hl9:=Qb hl9
      clear hRq hNq hRA hcA hltA hent hsA hXt hcq
      go_wp2_with (first|(at_mapUpdate;refine Qh7 rfl (.tmp 77) (.tmp 78) (.const (.bool true)) _ rfl hu Qh8 rfl N9qq (s:=t0) rfl rfl ht5 ?_;intro w10 n10 c10 z10)|fail)
      have R10:=R9qq.out.keep c10
      go_roundw
      case rel=>exact⟨_,R10.1,n10.congr (fun t=>by first|exact or_assoc|simp [or_assoc]),CC.out.trans c10 (fun y hy=>.inl (by rw [E0.1 hy];simp))⟩
      case measure=>rw [R10.2];exact hl9.out
   ·obtain⟨j,rfl⟩:∃j,k=j+1:=⟨k-1,by omega⟩
    have hji:(0:Int)<((j+1:Nat):Int):=by omega
    have hj4:((j+1:Nat):Int)<4:=by omega
    have lo:=hck
    have hbn0:bk≠nx/\bk≠xiq:=by omega
    have caW:=(hck.cell (p:=⟨g,off+9,none⟩) lg3 (by simp;omega)).trans ca3
    have lAo:=lA3.keep hck hsb (fun y hy=>by simp only [C7,F1,or_false] at hy;rcases hy with rfl|rfl<;>omega)
    have Eo:=E3q.keep hck (fun y hy=>by simp only [C7,F1,or_false] at hy;rcases hy with rfl|rfl<;>omega) B3
    have Bo:=G5 B3 hck.size
    have hIk:Qf9 wo xiq (fun i n=>A i n∨(XA.pow j).ask s i n) (F∨(XA.pow j).fail s):=hIk
    have hSk:Qd6 wo bk (fun t=>(XA.pow j).reach s t):=hSk
    have LM:=hLA uA bk _ _ _ wo Eo Bo hIk hSk ⟨hx.1,by omega,by omega⟩ lAo
    rw [hXA.out] at LM
    replace LM:=Qb LM
    clear hIk hSk Eo lAo lo
    go_wp2_with fail
    refine LM.out.mono ?_
    rintro e w5 ⟨b5,rfl,s5,i5,c5,hb5⟩
    have s5:Qd6 w5 b5 (fun t=>(XA.pow (j+1)).reach s t):=s5
    have i5:Qf9 w5 xiq (fun i n=>A i n∨(XA.pow (j+1)).ask s i n) (F∨(XA.pow (j+1)).fail s):=i5.congr (fun i n _=>or_assoc) or_assoc
    have n5:=hNk.keep c5 (by simp;omega)
    have z5:=c5.size
    replace hb5:b5=bx+1∨bx+2<=b5:=by rcases hb5 with rfl|h;exact hbk;exact .inr (by omega)
    have hbn:b5≠nx/\b5≠xiq:=by omega
    have ck5:=Qb (hck.trans c5 (fun y hy=>.inl (by rw [E0.1 hy];simp)))
    clear LM hNk hck c5 caW hbk
    obtain⟨r,hr⟩:∃r,w5.heap.size=r:=⟨_,rfl⟩
    go_wp2_with (first|(at_range;refine Qia rfl (.tmp 71) _ rfl hu rfl s5 ?_;intro w6 hR6 hc6 hs6)|fail)
    rw [hr] at hR6 hs6 ⊢
    simp only [Act.put,D0,C8,C9]
    have n6:=n5.keep hc6
    have i6qq:=i5.keep hc6
    have ck6:=Qb (ck5.out.tz hc6)
    have s6:=s5.keep hc6
    have l5:=s5.lt
    have hrn:r≠nx/\r≠xiq/\b5≠r:=by omega
    clear s5 n5 i5 ck5 hc6
    go_loopw [] (fun wr=>∃D,Sgs wr b5 r (fun t=>(XA.pow (j+1)).reach s t) D/\Qd6 wr nx (fun t=>(fun t=>N t∨∃n,n<j+1/\(XA.pow n).reach s t) t∨D t)/\Qc [nx,r] w6 wr) (fun wr=>leftN wr b5 r)
    case atStart=>exact⟨_,hR6,n6.congr (fun t=>⟨.inl,fun h=>h.elim id (fun h=>h.elim)⟩),B0 _ _⟩
    case round=>
     obtain⟨D,hRq,hNq,hcq⟩:=hrel
     obtain⟨wq,hwq⟩:∃wq:World,wq=wr:=⟨_,rfl⟩
     rw [<-hwq] at hRq hNq hcq ⊢
     clear hwq
     go_upto_region 23 with (first|(at_next;refine Qh9 rfl (.tmp 72) rfl rfl hRq ?_ ?_;rotate_left;intro t0 wA ht5 hXt hRA hcA hsA hltA hent;unfold Qgi at hent ⊢;rotate_right;intro hD)|fail)
     ·have hN2:Qd6 wq nx (fun t=>(fun t=>N t∨∃n,n<j+1/\(XA.pow n).reach s t) t∨(fun t=>(XA.pow (j+1)).reach s t) t):=hNq.congr (fun t=>by simp only [hD])
      clear hD hRq hNq
      have i7qq:=i6qq.keep hcq (by simp;omega)
      have s7:=s6.keep hcq (by simp;omega)
      have ck7:=ck6.out.trans hcq (fun y hy=>by
       simp only [C7,F1,or_false] at hy
       rcases hy with rfl|rfl
       ·exact .inl (by simp)
       ·exact .inr (by omega))
      clear hcq i6qq n6 hR6 ck6 s6
      go_wp2_with fail
      go_roundw
      case rel=>
       have n8:Qd6 wq nx (fun t=>N t∨∃n,n<j+1+1/\(XA.pow n).reach s t):=hN2.congr (fun t=>⟨fun h=>h.elim (fun h=>h.elim .inl (fun⟨n,a,b⟩=>.inr ⟨n,by omega,b⟩)) (fun h=>.inr ⟨_,by omega,h⟩),fun h=>h.elim (fun h=>.inl (.inl h)) (fun⟨n,a,b⟩=>by
        by_cases e:n=j+1
        ·exact .inr (e ▸ b)
        ·exact .inl (.inr ⟨n,by omega,b⟩))⟩)
       first
        |exact⟨j+1+1,b5,by omega,by go_num,rfl,s7,hb5,n8,i7qq,ck7⟩
        |exact⟨j+1+1,by omega,by go_num,s7,n8,i7qq,ck7⟩
      case measure=>first|(simp [intOf];done)|(simp [intOf];omega)
     ·refine Qp fun w9 hw9=>?_
      obtain⟨x13,hx13⟩:∃x13,wA.heap.size=x13:=⟨_,rfl⟩
      have c9:Qc [] wA w9:=by rw [hw9];exact C6
      have E13:ZU w9 x13 (Qg9 t0):=by rw [hw9, <-hx13];exact L9 wA _ _
      try rw [<-hsA]
      try rw [hx13]
      clear hw9
      have cr9:Qc [r] wq w9:=hcA.tz c9
      have N9qq:=hNq.keep cr9
      have R9qq:=(hRA.keep c9).1
      have hl9:leftN w9 b5 r<leftN wq b5 r:=by rw [(hRA.keep c9).2];exact hltA
      have q13:=E13.o6
      have f13:=E13.f
      have CC:=Qb (hcq.trans cr9 (fun y hy=>.inl (by rw [E0.1 hy];simp)))
      replace R9qq:=Qb R9qq
      replace hl9:=Qb hl9
      clear hRq hNq hRA hcA hltA hent hsA hXt hcq
      go_wp2_with (first|(at_mapUpdate;refine Qh7 rfl (.tmp 77) (.tmp 78) (.const (.bool true)) _ rfl hu Qh8 rfl N9qq (s:=t0) rfl rfl ht5 ?_;intro w10 n10 c10 z10)|fail)
      have R10:=R9qq.out.keep c10
      go_roundw
      case rel=>exact⟨_,R10.1,n10.congr (fun t=>by first|exact or_assoc|simp [or_assoc]),CC.out.trans c10 (fun y hy=>.inl (by rw [E0.1 hy];simp))⟩
      case measure=>rw [R10.2];exact hl9.out
  ·obtain rfl:k=4:=by omega
   go_wp2_with fail
   refine bodyPost_ret (results_none (by kernel_rfl) _ _ _) rfl ?_
   exact⟨rfl,hNk.congr (fun t=>or_congr i7 ⟨fun⟨n,a,b⟩=>⟨n,by omega,b⟩,fun⟨n,a,b⟩=>⟨n,by omega,b⟩⟩),hIk,(hC3.out.mono (T:=[xiq,nx]) (by simp)).trans hck (fun y hy=>.inl hy)⟩
end Go.Proofs.YtfjhdnjlhjimeaaGreatDoor
namespace Go.Proofs.YtfjhdnjlhjimeaaGreatDoor
open Go.RowKit

mutual
theorem QiE (SB:Nat->Prop) (B xiq:Nat) (hsb:∀y,SB y->y<B):∀a:Qa,a.AllA Qgc->Qij SB B xiq a
 | .mk op slot other word call face A Bl,h=>by
  rw [Qa.AllA] at h
  have hA:=QiB SB B xiq hsb A h.2.1
  have hB:=QiB SB B xiq hsb Bl h.2.2
  have hop:=Gt h.1.1
  have h3:=h.1.2.1
  have h10:=h.1.2.2
  simp only [Qa.op] at hop h3 h10
  by_cases h8:op=8
  ·exact QiA SB B xiq _ h.1 hsb h8 hA hB
  by_cases h9:op=9
  ·exact QiD SB B xiq _ h.1 hsb h9 hA
  by_cases h1:op=1
  ·exact Qis SB B xiq _ h.1 hsb h1
  by_cases h5:op=5
  ·exact Qiu SB B xiq _ h.1 hsb h5
  by_cases h4:op=4
  ·exact Qit SB B xiq _ h.1 hsb h4
  ·exact Qiq SB B xiq _ h.1 hsb (show op=2∨op=6∨op=7 by omega)
theorem QiB (SB:Nat->Prop) (B xiq:Nat) (hsb:∀y,SB y->y<B):∀l:List Qa,QgK Qgc l->Qii SB B xiq l
 |l,h=>Qif SB B xiq l hsb (QiC SB B xiq hsb l h)
theorem QiC (SB:Nat->Prop) (B xiq:Nat) (hsb:∀y,SB y->y<B):∀l:List Qa,QgK Qgc l->∀a∈l,Qij SB B xiq a
 | [],_=>fun a h=>by cases h
 |a::l,h=>by
  rw [QgK] at h
  intro b hb
  by_cases e:b=a
  ·rw [e];exact QiE SB B xiq hsb a h.1
  ·exact QiC SB B xiq hsb l h.2 b ((C7.1 hb).resolve_left e)
end
end Go.Proofs.YtfjhdnjlhjimeaaGreatDoor
