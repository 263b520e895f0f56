/- Boxes of three and six cells. Conditions: as stated. -/
import Derived.Test.YtfjhdnjlhjimeaaGreatDoorMapsQ
import Derived.Test.YtfjhdnjlhjimeaaGreatDoorThrus
import Derived.Deep.Cut
set_option maxRecDepth 100000
set_option maxHeartbeats 4000000
namespace Go.Proofs.YtfjhdnjlhjimeaaGreatDoor
open Go.RowKit

section
variable {w:World} {b:Nat}
theorem ZU.newAt (w:World) (cs:Array Value) (t:TypeId) (h:b=w.heap.size:=by simp):ZU (w.alloc (.cells cs t)) b cs.toList:=by rw [h];exact L9 w cs t
theorem ZU.o3 {v0 v1 v2:Value} (H:ZU w b [v0,v1,v2]):w.cell? ⟨b,0,none⟩=some v0/\w.cell? ⟨b,1,none⟩=some v1/\w.cell? ⟨b,2,none⟩=some v2:=⟨H.c 0 _ rfl,H.c 1 _ rfl,H.c 2 _ rfl⟩
theorem ZU.o5 {v0 v1 v2 v3 v4:Value} (H:ZU w b [v0,v1,v2,v3,v4]):w.cell? ⟨b,0,none⟩=some v0/\w.cell? ⟨b,1,none⟩=some v1/\w.cell? ⟨b,2,none⟩=some v2/\w.cell? ⟨b,3,none⟩=some v3/\w.cell? ⟨b,4,none⟩=some v4:=⟨H.c 0 _ rfl,H.c 1 _ rfl,H.c 2 _ rfl,H.c 3 _ rfl,H.c 4 _ rfl⟩
theorem ZU.o6 {v0 v1 v2 v3 v4 v5:Value} (H:ZU w b [v0,v1,v2,v3,v4,v5]):w.cell? ⟨b,0,none⟩=some v0/\w.cell? ⟨b,1,none⟩=some v1/\w.cell? ⟨b,2,none⟩=some v2/\w.cell? ⟨b,3,none⟩=some v3/\w.cell? ⟨b,4,none⟩=some v4/\w.cell? ⟨b,5,none⟩=some v5:=
 ⟨H.c 0 _ rfl,H.c 1 _ rfl,H.c 2 _ rfl,H.c 3 _ rfl,H.c 4 _ rfl,H.c 5 _ rfl⟩
theorem ZU.put3 {vs:List Value} (H:ZU w b vs) (h:vs.length=3) (u0 u1 u2:Value):ZU (((w.setCell ⟨b,0,none⟩ u0).setCell ⟨b,1,none⟩ u1).setCell ⟨b,2,none⟩ u2) b [u0,u1,u2]:=by
 match vs,h with
 | [a,c,d],_=>exact((H.set 0 u0).set 1 u1).set 2 u2
def Kd (w:World) (b:Nat) (e:TypeId):Prop:=∃cs fr,w.heap[b]?=some (.cells cs e fr)
theorem Kd.newAt (w:World) (cs:Array Value) (t:TypeId) (h:b=w.heap.size:=by simp):Kd (w.alloc (.cells cs t)) b t:=⟨cs,(0,0),by rw [h];exact heap_alloc_new w _⟩
theorem Kd.keep {w':World} {e:TypeId} {S:List Nat} (h:Kd w b e) (hc:Qc S w w') (hS:b∉S:=by simp):Kd w' b e:=by
 obtain⟨cs,fr,h⟩:=h
 exact⟨cs,fr,(hc.block b (F5.1 h).1 hS).trans h⟩
theorem Kd.alloc {e:TypeId} (h:Kd w b e) (o:Obj):Kd (w.alloc o) b e:=h.keep (S:=[]) ((B0 _ _).alloc o)
theorem Kd.keepW {w':World} {e:TypeId} {S:List Nat} {u0 u1 u2:Value} (h:Kd w b e) (_hc:Qc S w w') (e':w'=(((w.setCell ⟨b,0,none⟩ u0).setCell ⟨b,1,none⟩ u1).setCell ⟨b,2,none⟩ u2):=by rfl):Kd w' b e:=by
 subst e'
 have go:∀(w:World) (i:Nat) (u:Value),Kd w b e->Kd (w.setCell ⟨b,i,none⟩ u) b e:=fun w i u h=>by
  obtain⟨cs,fr,h⟩:=h
  refine⟨cs.setIfInBounds i u,fr,?_⟩
  show(w.heap.modify b _)[b]?=_
  rw [Array.getElem?_modify,h]
  simp
 exact go _ _ _ (go _ _ _ (go _ _ _ h))
theorem Kd.nz {e:TypeId} (h:Kd w b e) (he:e≠3:=by decide):∀cs fr,w.heap[b]?≠some (.cells cs 3 fr):=fun cs fr h1=>by
 obtain⟨cs',fr',h⟩:=h
 rw [h] at h1
 injection h1 with h1
 injection h1 with _ h2
 exact he h2
theorem Xz (w:World) (b:Nat) (u0 u1 u2:Value):Qc [b] w (((w.setCell ⟨b,0,none⟩ u0).setCell ⟨b,1,none⟩ u1).setCell ⟨b,2,none⟩ u2):=
 (((B0 _ _).setCell (.inl (by simp)) _).setCell (.inl (by simp)) _).setCell (.inl (by simp)) _
end
theorem ZU.kp {w w':World} {b:Nat} {vs:List Value} {S:List Nat} (H:ZU w b vs) (hc:Qc S w w') (hb:b∉S:=by first|(simp;done)|((repeat' first|exact F1|refine J4 ?_ ?_)<;>first|assumption|(apply j5;assumption)|omega)|(simp;omega)):ZU w' b vs:=H.keep hc hb
theorem Kd.kp {w w':World} {b:Nat} {e:TypeId} {S:List Nat} (H:Kd w b e) (hc:Qc S w w') (hb:b∉S:=by first|(simp;done)|((repeat' first|exact F1|refine J4 ?_ ?_)<;>first|assumption|(apply j5;assumption)|omega)|(simp;omega)):Kd w' b e:=H.keep hc hb
theorem UY (X1 Y1:Yq->List Int->Prop) (X2 Y2:Int->List Int->Prop) (b1 b2 c1 c2:Nat) (s0 s1:Option Nat) (vi:Value) (i:List Int) (w:World)
  (h1:Qx w zS YN b1 X1) (h2:Qx w zX Wi b2 X2) (h3:Qx w zS YN c1 Y1) (h4:Qx w zX Wi c2 Y2) (hb:b1≠c1/\b1≠c2/\b2≠c1/\b2≠c2/\b1≠b2) (hv:Zn w i vi)
  (n1:∀k j,Y1 k j->i.length+j.length<=1000000) (n2:∀k j,Y2 k j->i.length+j.length<=1000000) (q1:∀k,Pos (Y1 k)) (q2:∀k,Pos (Y2 k)):
  Calls Tryz.prog 101 #[.agg #[.map s0,.map (some b1),.map (some b2)],.agg #[.map s1,.map (some c1),.map (some c2)],vi] w fun e w'=>e= .returned (.tuple #[])/\
   Qx w' zS YN b1 (fun k l=>X1 k l∨∃j,Y1 k j/\l=i++j)/\Qx w' zX Wi b2 (fun k l=>X2 k l∨∃j,Y2 k j/\l=i++j)/\Qc [b1,b2] w w':=by
 go_enter Tryz.func101,Tryz.ntmps101
 have hu1:Tryz.prog.underlying 71=some (.map 84 25):=by kernel_rfl
 have hu2:Tryz.prog.underlying 72=some (.map 3 25):=by kernel_rfl
 go_upto_region 1 with fail
 refine Qp fun wa hwa=>?_
 have ca:Qc [] w wa:=by rw [hwa];exact C6
 obtain⟨x3,hx3⟩:∃x3,w.heap.size=x3:=⟨_,rfl⟩
 have B3:ZU wa x3 [.map s0,.map (some b1),.map (some b2)]:=by rw [hwa, <-hx3];exact(L9 w _ _).alloc _
 have B4:ZU wa (x3+1) [.map s1,.map (some c1),.map (some c2)]:=by rw [hwa, <-hx3];exact ZU.newAt (w.alloc _) _ _
 rw [hx3]
 have l1:=h1.lt
 have l2:=h2.lt
 have l3:=h3.lt
 have l4:=h4.lt
 have sa:x3+2=wa.heap.size:=by rw [hwa, <-hx3];simp
 clear hwa
 have o3:=B3.o3
 have o4:=B4.o3
 have f3:=B3.f
 have f4:=B4.f
 have k3:=h3.keep ca C0 (by simp)
 go_wp2_with (first|(at_range;refine ZQ rfl (.tmp 11) _ rfl hu1 (fun _ _ h=>VN h) rfl k3 ?_;intro w2 hR0 hc2 hs2)|fail)
 obtain⟨r,hr⟩:∃r,wa.heap.size=r:=⟨_,rfl⟩
 rw [hr] at hR0 hs2 ⊢
 simp only [Act.put,D0,C8,C9]
 have cb:Qc [] w w2:=ca.tz hc2
 have C3:=B3.keep hc2
 have C4:=B4.keep hc2
 clear o3 o4 f3 f4 k3 B3 B4
 have m1:=h1.keep cb C0 (by simp)
 have m2:=h2.keep cb C0 (by simp)
 have m4:=h4.keep cb C0 (by simp)
 have mv:=hv.keep cb C0
 go_loopw [] (fun wr=>∃D,qG wr zS YN c1 r Y1 D/\Qx wr zS YN b1 (fun k l=>X1 k l∨∃j,D k j/\l=i++j)/\Qc [b1,r] w2 wr) (fun wr=>leftN wr c1 r)
 case atStart=>exact⟨_,hR0,m1.congr (by simp),B0 _ _⟩
 case round=>
  obtain⟨D,hR,hK,hc⟩:=hrel
  have ni:Qm w2 [b1,r]:=F7 m1.nz (F7 hR0.nz C0)
  have D3:=C3.kp hc
  have D4:=C4.kp hc
  have o3:=D3.o3
  have f3:=D3.f
  have o4:=D4.o3
  have f4:=D4.f
  have m4r:=m4.keep hc ni
  have m2r:=m2.keep hc ni
  have mvr:=mv.keep hc ni
  have sr:=hc.size
  go_upto_region 4 with (first|(at_next;refine ZP rfl (.tmp 12) rfl rfl hR ?_ ?_;rotate_left;rintro⟨⟨g1,g2,g3⟩,g4,g5,g6⟩ j v0 w3 hk hj hl hR3 hc3 hs3 hlt hent;unfold YN at hent ⊢;rotate_right;intro hD)|(at_range;refine ZQ rfl (.tmp 26) _ rfl hu2 (fun _ _ h=>Up h) rfl m4r ?_;intro w4 hT0 hc4 hs4)|fail)
  ·simp only [Act.put,D0,C8,C9]
   have hK1:=(hK.congr (fun k l=>by simp only [hD];exact i7)).front q1
   obtain⟨wo,hwo⟩:∃wo:World,wo=w4:=⟨_,rfl⟩
   obtain⟨t,ht⟩:∃t,wr.heap.size=t:=⟨_,rfl⟩
   rw [ht] at hT0 hs4 ⊢
   have G3:=D3.keep hc4
   have G4:=D4.keep hc4
   have p1:=hK1.keep hc4 C0 (by simp)
   have p2:=m2r.keep hc4 C0 (by simp)
   have pv:=mvr.keep hc4 C0
   have tb:b1≠t/\b2≠t/\x3≠t:=⟨by omega,by omega,by omega⟩
   have cw:Qc [b1,b2] w w4:=(cb.ty (hc.tz hc4)).mono (fun x hx=>by
    rcases C7.1 hx with rfl|hx
    ·exact .inl (by simp)
    ·exact .inr (by have:=E0.1 hx;omega))
   clear o3 f3 o4 f4 hwo
   go_loopw [] (fun wr=>∃D,qG wr zX Wi c2 t Y2 D/\Qx wr zX Wi b2 (fun k l=>X2 k l∨∃j,D k j/\l=i++j)/\Qc [b2,t] w4 wr) (fun wr=>leftN wr c2 t)
   case atStart=>exact⟨_,hT0,p2.congr (by simp),B0 _ _⟩
   case round=>
    obtain⟨D',hR',hK',hc'⟩:=hrel
    have F3:=G3.kp hc'
    have o3:=F3.o3
    have f3:=F3.f
    have pvr:=pv.keep hc' (F7 p2.nz (F7 hT0.nz C0))
    go_upto_region 8 with (first|(at_next;refine ZP rfl (.tmp 27) rfl rfl hR' ?_ ?_;rotate_left;rintro g1 j v0 w3 hk hj hl hR3 hc3 hs3 hlt hent;unfold Wi at hent ⊢;rotate_right;intro hD')|fail)
    ·go_end0
     exact⟨rfl,p1.keep hc' (F7 p2.nz (F7 hT0.nz C0)),(hK'.congr (fun k l=>by simp only [hD'])).front q2,cw.trans hc' (fun x hx=>by
      rcases C7.1 hx with rfl|hx
      ·exact .inl (by simp)
      ·exact .inr (by have:=E0.1 hx;have:=cb.size;have:=sr;omega))⟩
    ·refine Qp fun w5 hw5=>?_
     have c5:Qc [t] wr w5:=by rw [hw5];exact hc3
     have no:Qm wr [t]:=F7 hR'.nz C0
     have E3:=F3.kp c5
     have K5:=hK'.keep c5 no
     have pv5:=pvr.keep c5 no
     have sk:YJ g1:=by
      obtain⟨z,e,hz⟩:=hk
      rw [Up e];exact hz
     rw [<-hw5] at hR3 hj hlt
     have n5:=n2 _ _ hl.1
     have JN:=Qb (fun W (c:Qc [] w5 W)=>Ug i j vi v0 W (pv5.keep c C0) (hj.keep c C0) n5)
     have R5:=Qb hR3
     have CC:=Qb (hc'.trans c5 (fun x hx=>.inl (by simp at hx ⊢;exact .inr hx)))
     have HL:=Qb hlt
     clear hw5 hc3 hs3 hR3 hR' hK' F3 o3 f3 pvr no pv5 hj hc' hlt c5 n5 hent
     refine Ze (b:=⟨#[],[]⟩) 6 [33,34,35,36,37,38] (JR [(0,33),(1,34),(2,35),(3,36),(4,37)] [.pointer (some ⟨x3,2,none⟩),.map (some b2),.int .i64 g1,vi,v0] [(5,38)] [fun W u=>Zn W (i++j) u] none [] w5) (by kernel_rfl) (XN _ _) (by kernel_rfl) (by kernel_rfl) (by kernel_rfl) (JR.zero (by decide) (by decide)) ?_ ?_
     ·refine⟨.inr ?_,.inr ?_,.inr ?_,.inr ?_,.inr ?_,.inr ?_,.inl rfl,trivial⟩
      ·rintro d v W- -p H K hK
       simp only [z1,z2,z4,z5,z6] at hK ⊢
       go_simp
       exact hK.out _ _ (H.put 0 rfl rfl)
      ·rintro d v W- -p H K hK
       have e0:=H.val 0 _ _ _ rfl rfl (Qh p 0)
       have q3:=(E3.keep H.chg).o3
       have fq:=(E3.keep H.chg).f
       simp only [z1,z2,z4,z5,z6,e0] at hK ⊢
       go_simp
       exact hK.out _ _ (H.put 1 rfl rfl)
      ·rintro d v W- -p H K hK
       simp only [z1,z2,z4,z5,z6] at hK ⊢
       go_simp
       exact hK.out _ _ (H.put 2 rfl rfl)
      ·rintro d v W- -p H K hK
       simp only [z1,z2,z4,z5,z6] at hK ⊢
       go_simp
       exact hK.out _ _ (H.put 3 rfl rfl)
      ·rintro d v W- -p H K hK
       simp only [z1,z2,z4,z5,z6] at hK ⊢
       go_simp
       exact hK.out _ _ (H.put 4 rfl rfl)
      ·intro d v W hC hd p H K hK
       have e3:=H.val 3 _ _ _ rfl rfl (Qh p 3)
       have e4:=H.val 4 _ _ _ rfl rfl (Qh p 4)
       have g:=H.chg
       simp only [z1,z2,z4,z5,z6,e3,e4] at hK ⊢
       go_simp
       go_at_call 100
       refine(JN.out W g).mono ?_
       rintro e W2 ⟨u,rfl,hP,c2⟩
       dsimp only
       exact hK.out _ _ (H.n1 _ hP (.inr c2) (H.chg.tz c2))
     ·refine⟨_,rfl,fun v W H K hK=>?_⟩
      have e0:=H.val 0 _ _ _ rfl rfl (by decide)
      have e1:=H.val 1 _ _ _ rfl rfl (by decide)
      have e2:=H.val 2 _ _ _ rfl rfl (by decide)
      have e3:=H.val 3 _ _ _ rfl rfl (by decide)
      have e4:=H.val 4 _ _ _ rfl rfl (by decide)
      have P5:=H.prop 0 _ _ _ rfl rfl (by decide)
      have CHW:=H.chg
      clear H
      simp only [z1,z2,z4,z5,e0,e1,e2,e3,e4]
      go_simp
      go_at_call 138
      refine(QaB _ b2 g1 _ _ W sk (K5.keep CHW C0) (P5)).mono ?_
      rintro e W2 ⟨rfl,k2,d2⟩
      refine hK.out _ _ ?_
      have nb:Qm W [b2]:=F7 (K5.keep CHW C0).nz C0
      have R6:=(R5.out.keep CHW C0).keep d2 nb
      have l6:=((R5.out.keep CHW C0).left d2).trans (R5.out.left CHW)
      go_roundw
      case rel=>(repeat apply Exists.intro);exact⟨⟨_,R6,k2.congr Wc,(CC.out.tz CHW).trans d2 (fun x hx=>.inl (by simp at hx ⊢;exact .inl hx))⟩,rfl⟩
      case measure=>have:=HL.out;omega
  ·refine Qp fun w5 hw5=>?_
   obtain⟨xk,hxk⟩:∃xk,w3.heap.size=xk:=⟨_,rfl⟩
   have c5:Qc [] w3 w5:=by rw [hw5];exact C6
   have E6:ZU w5 xk [.int .i64 g1,.int .i64 g2,.int .i64 g3,.string g4,.string g5,.string g6]:=by rw [hw5, <-hxk];exact L9 w3 _ _
   rw [<-hs3,hxk]
   have cr5:Qc [r] wr w5:=hc3.tz c5
   have no:Qm wr [r]:=F7 hR.nz C0
   have E3:=D3.kp cr5
   have K5:=hK.keep cr5 no
   have pv5:=mvr.keep cr5 no
   have sk:Qbn ((g1,g2,g3),g4,g5,g6):=by
    obtain⟨z,e,hz⟩:=hk
    rw [VN e];exact hz
   have hj5:=hj.keep c5 C0
   have n5:=n1 _ _ hl.1
   have JN:=Qb (fun W (c:Qc [] w5 W)=>Ug i j vi v0 W (pv5.keep c C0) (hj5.keep c C0) n5)
   have R5:=Qb (hR3.keep c5 C0 (by simp) (by simp))
   have CC:=Qb (hc.trans cr5 (fun x hx=>.inl (by simp at hx ⊢;exact .inr hx)))
   have HL:=Qb (show leftN w5 c1 r<leftN wr c1 r by rw [hR3.left c5 (by simp) (by simp)];exact hlt)
   have lt5:=c5.size
   have ltx:=E6.lt
   have nex:b1≠xk/\x3≠xk:=⟨by omega,by omega⟩
   clear hw5 hc3 hR3 hR hK D3 D4 o3 f3 o4 f4 mvr no pv5 hj hj5 hc hlt cr5 c5 n5 hent hxk
   refine Ze (b:=⟨#[],[]⟩) 6 [18,19,20,21,22,23] (JR [(0,18),(1,19),(2,20),(3,21),(4,22)] [.pointer (some ⟨x3,1,none⟩),.map (some b1),.agg #[.int .i64 g1,.int .i64 g2,.int .i64 g3,.string g4,.string g5,.string g6],vi,v0] [(5,23)] [fun W u=>Zn W (i++j) u] none [] w5) (by kernel_rfl) (XN _ _) (by kernel_rfl) (by kernel_rfl) (by kernel_rfl) (JR.zero (by decide) (by decide)) ?_ ?_
   ·refine⟨.inr ?_,.inr ?_,.inr ?_,.inr ?_,.inr ?_,.inr ?_,.inl rfl,trivial⟩
    ·rintro d v W- -p H K hK
     simp only [z1,z2,z4,z5,z6] at hK ⊢
     go_simp
     exact hK.out _ _ (H.put 0 rfl rfl)
    ·rintro d v W- -p H K hK
     have e0:=H.val 0 _ _ _ rfl rfl (Qh p 0)
     have q3:=(E3.keep H.chg).o3
     have fq:=(E3.keep H.chg).f
     simp only [z1,z2,z4,z5,z6,e0] at hK ⊢
     go_simp
     exact hK.out _ _ (H.put 1 rfl rfl)
    ·rintro d v W- -p H K hK
     have q6:=(E6.keep H.chg).o6
     have fq:=(E6.keep H.chg).f
     simp only [z1,z2,z4,z5,z6] at hK ⊢
     go_simp
     exact hK.out _ _ (H.put 2 rfl rfl)
    ·rintro d v W- -p H K hK
     simp only [z1,z2,z4,z5,z6] at hK ⊢
     go_simp
     exact hK.out _ _ (H.put 3 rfl rfl)
    ·rintro d v W- -p H K hK
     simp only [z1,z2,z4,z5,z6] at hK ⊢
     go_simp
     exact hK.out _ _ (H.put 4 rfl rfl)
    ·intro d v W hC hd p H K hK
     have e3:=H.val 3 _ _ _ rfl rfl (Qh p 3)
     have e4:=H.val 4 _ _ _ rfl rfl (Qh p 4)
     have g:=H.chg
     simp only [z1,z2,z4,z5,z6,e3,e4] at hK ⊢
     go_simp
     go_at_call 100
     refine(JN.out W g).mono ?_
     rintro e W2 ⟨u,rfl,hP,c2⟩
     dsimp only
     exact hK.out _ _ (H.n1 _ hP (.inr c2) (H.chg.tz c2))
   ·refine⟨_,rfl,fun v W H K hK=>?_⟩
    have e0:=H.val 0 _ _ _ rfl rfl (by decide)
    have e1:=H.val 1 _ _ _ rfl rfl (by decide)
    have e2:=H.val 2 _ _ _ rfl rfl (by decide)
    have e3:=H.val 3 _ _ _ rfl rfl (by decide)
    have e4:=H.val 4 _ _ _ rfl rfl (by decide)
    have P5:=H.prop 0 _ _ _ rfl rfl (by decide)
    have CHW:=H.chg
    clear H
    simp only [z1,z2,z4,z5,e0,e1,e2,e3,e4]
    go_simp
    go_at_call 137
    refine(Qau _ b1 ((g1,g2,g3),g4,g5,g6) _ _ W sk (K5.keep CHW C0) (P5)).mono ?_
    rintro e W2 ⟨rfl,k2,d2⟩
    refine hK.out _ _ ?_
    have nb:Qm W [b1]:=F7 (K5.keep CHW C0).nz C0
    have R6:=(R5.out.keep CHW C0).keep d2 nb
    have l6:=((R5.out.keep CHW C0).left d2).trans (R5.out.left CHW)
    go_roundw
    case rel=>(repeat apply Exists.intro);exact⟨⟨_,R6,k2.congr Wc,(CC.out.tz CHW).trans d2 (fun x hx=>.inl (by simp at hx ⊢;exact .inl hx))⟩,rfl⟩
    case measure=>have:=HL.out;omega
mutual
def Qa.fit (AT:Int->Option Qa):Qa->Int->Prop
 | .mk op slot other word call face A B,p=>AT p=some (.mk op slot other word call face A B)/\yG AT A (p+1)/\yG AT B (p+1+Qd A)
def yG (AT:Int->Option Qa):List Qa->Int->Prop
 | [],_=>True
 |a::l,p=>a.fit AT p/\yG AT l (p+a.size)
end
theorem Qa.fit_eq (AT:Int->Option Qa) (a:Qa) (p:Int):a.fit AT p↔AT p=some a/\yG AT a.A (p+1)/\yG AT a.B (p+1+Qd a.A):=by cases a;rw [Qa.fit];exact i7
theorem k9 {AT:Int->Option Qa}:∀ {l:List Qa} {p:Int} {k:Nat} (h:k<l.length),yG AT l p->l[k].fit AT (p+Qd (l.take k))
 |a::l,p,0,_,h=>by
  rw [yG] at h
  have e:p+((Qd ((a::l).take 0):Nat):Int)=p:=by rw [T9,Qd];omega
  rw [e]
  exact h.1
 | a::l,p,k+1,hk,h=>by
  rw [yG] at h
  have h1:=k9 (k:=k) (by simpa using hk) h.2
  have e:p+((Qd ((a::l).take (k+1)):Nat):Int)=p+a.size+Qd (l.take k):=by
   rw [Y0,Qd]
   omega
  rw [e]
  exact h1
mutual
def Qa.atP:Qa->Int->Int->Option Qa
 | .mk op slot other word call face A B,p,q=>if q=p then some (.mk op slot other word call face A B) else if q<p+1+Qd A then jx A (p+1) q else jx B (p+1+Qd A) q
def jx:List Qa->Int->Int->Option Qa
 | [],_,_=>none
 |a::l,p,q=>if q<p+a.size then a.atP p q else jx l (p+a.size) q
end
mutual
theorem Qa.fit_atP (AT:Int->Option Qa):∀(a:Qa) (p:Int),(∀q,p<=q->q<p+a.size->AT q=a.atP p q)->a.fit AT p
 | .mk op slot other word call face A B,p,h=>by
  have es:=Qa.size_eq (.mk op slot other word call face A B)
  rw [show(Qa.mk op slot other word call face A B).A=A from rfl,show(Qa.mk op slot other word call face A B).B=B from rfl] at es
  rw [Qa.fit]
  refine⟨?_,GQ AT A _ (fun q h1 h2=>?_),GQ AT B _ (fun q h1 h2=>?_)⟩
  ·rw [h p (by omega) (by omega),Qa.atP,if_pos rfl]
  ·rw [h q (by omega) (by omega),Qa.atP,if_neg (by omega),if_pos (by omega)]
  ·rw [h q (by omega) (by omega),Qa.atP,if_neg (by omega),if_neg (by omega)]
theorem GQ (AT:Int->Option Qa):∀(l:List Qa) (p:Int),(∀q,p<=q->q<p+Qd l->AT q=jx l p q)->yG AT l p
 | [],p,_=>by rw [yG];trivial
 |a::l,p,h=>by
  have es:Qd (a::l)=a.size+Qd l:=by rw [Qd]
  rw [yG]
  have e0:=a.size_eq
  refine⟨Qa.fit_atP AT a p (fun q h1 h2=>?_),GQ AT l _ (fun q h1 h2=>?_)⟩
  ·rw [h q h1 (by omega),jx,if_pos (by omega)]
  ·rw [h q (by omega) (by omega),jx,if_neg (by omega)]
end
theorem Qfr (l:List Qa):yG (jx l 0) l 0:=GQ _ l 0 (fun _ _ _=>rfl)

def vp (AT:Int->Option Qa) (SB:Nat->Prop) (w:World) (bs:Nat) (T:List Nat):Prop:=
 ∃E,ZH w (KCx SB) bs E/\∀p∈E,∃(x:yQ) (a:Qa) (b1 b2 b3:Nat),p.1=JC x/\p.2= .agg #[.map (some b1),.map (some b2),.map (some b3)] /\AT x.1=some a/\XH w b1 b2 b3 (a.ex Qs x.1) x.2.2/\∀y∈ [b1,b2,b3],y∉T/\y≠bs
theorem vp.nz {AT:Int->Option Qa} {SB:Nat->Prop} {w:World} {bs:Nat} {T:List Nat} (h:vp AT SB w bs T):∀cs fr,w.heap[bs]?≠some (.cells cs 3 fr):=by obtain⟨E,h1,_⟩:=h;exact h1.nz
theorem vp.lt {AT:Int->Option Qa} {SB:Nat->Prop} {w:World} {bs:Nat} {T:List Nat} (h:vp AT SB w bs T):bs<w.heap.size:=by obtain⟨E,h1,_⟩:=h;exact h1.lt
structure Wz (AT:Int->Option Qa) (SB:Nat->Prop) (B:Nat) (w:World) (xp bs:Nat) (T:List Nat):Prop where
 env:YO B w
 le:B<=w.heap.size
 blk:Blk SB w
 sb:∀y,SB y->y<B
 ptr:w.cell? ⟨xp,0,none⟩=some (.map (some bs))
 memo:vp AT SB w bs T
 low:B<=bs/\bs∉T/\∀y∈T,B<=y/\y<w.heap.size
 xpn:xp∉T/\xp≠bs
section
variable {AT:Int->Option Qa} {SB:Nat->Prop} {B:Nat} {w w':World} {xp bs:Nat} {T T' S:List Nat}
theorem Wz.keep (h:Wz AT SB B w xp bs T) (hc:Qc S w w') (hn:Qm w S) (hS:∀x∈S,x∈T∨w.heap.size<=x):Wz AT SB B w' xp bs T:=by
 have hB:∀x∈S,B<=x:=fun x hx=>(hS x hx).elim (fun h1=>(h.low.2.2 x h1).1) (fun h1=>G5 h.le h1)
 have hxl:xp<w.heap.size:=Qk h.ptr
 have hbs:bs∉S:=fun hx=>(hS bs hx).elim h.low.2.1 (fun h1=>by have:=h.memo.lt;omega)
 obtain⟨E,hE,hall⟩:=h.memo
 refine⟨h.env.keep hc hB h.le,G5 h.le hc.size,fun y hy=>?_,h.sb,?_,⟨E,hE.chg hc hbs,fun p hp=>?_⟩,⟨h.low.1,h.low.2.1,fun y hy=>⟨(h.low.2.2 y hy).1,F6 (h.low.2.2 y hy).2 hc.size⟩⟩,h.xpn⟩
 ·obtain⟨cs,e,hb⟩:=h.blk y hy
  have hy2:=h.sb y hy
  exact⟨cs,e,(hc.block y (by have:=h.le;omega) (fun hx=>by have:=hB y hx;omega)).trans hb⟩
 ·exact(hc.cell (p:=⟨xp,0,none⟩) hxl (fun hx=>(hS xp hx).elim h.xpn.1 (fun h1=>by omega))).trans h.ptr
 ·obtain⟨x,a,b1,b2,b3,e1,e2,e3,ho,hT⟩:=hall p hp
  have hlt:=ho.lt
  have no:∀y∈ [b1,b2,b3],y<w.heap.size->y∉S:=fun y hy hl hx=>(hS y hx).elim (hT y hy).1 (fun h1=>by omega)
  exact⟨x,a,b1,b2,b3,e1,e2,e3,ho.keep hc hn (no b1 (by simp) hlt.1) (no b2 (by simp) hlt.2.1) (no b3 (by simp) hlt.2.2),hT⟩
theorem Wz.keepB {x:Nat} {e:TypeId} (h:Wz AT SB B w xp bs T) (hc:Qc [x] w w') (hk:Kd w x e) (hx:B<=x/\x≠xp) (he:e≠3:=by decide):Wz AT SB B w' xp bs T:=by
 have hB:∀y∈ [x],B<=y:=fun y hy=>by rw [E0.1 hy];exact hx.1
 have hn:Qm w [x]:=F7 (hk.nz he) C0
 obtain⟨E,hE,hall⟩:=h.memo
 have nm:∀ {b:Nat},(∃es c,w.heap[b]?=some (.map es c))->b∉ [x]:=fun {b} hb hm=>by
  obtain⟨es,c,h1⟩:=hb
  obtain⟨cs,fr,h2⟩:=hk
  rw [E0.1 hm,h2] at h1
  cases h1
 have mp:∀ {κ:Type} {KC:Value->Prop} {enc:κ->Value} {b:Nat} {X:κ->List Int->Prop},Qx w KC enc b X->∃es c,w.heap[b]?=some (.map es c):=fun h=>by
  obtain⟨E,⟨es,c,h1,_⟩,_⟩:=h
  exact⟨es,c,h1⟩
 have hb:bs∉ [x]:=nm (by obtain⟨es,c,h1,_⟩:=hE;exact⟨es,c,h1⟩)
 refine⟨h.env.keep hc hB h.le,G5 h.le hc.size,fun y hy=>?_,h.sb,?_,⟨E,hE.chg hc hb,fun p hp=>?_⟩,⟨h.low.1,h.low.2.1,fun y hy=>⟨(h.low.2.2 y hy).1,F6 (h.low.2.2 y hy).2 hc.size⟩⟩,h.xpn⟩
 ·obtain⟨cs,e,hb⟩:=h.blk y hy
  have hy2:=h.sb y hy
  exact⟨cs,e,(hc.block y (by have:=h.le;omega) (fun hx=>by have:=hB y hx;omega)).trans hb⟩
 ·exact(hc.cell (p:=⟨xp,0,none⟩) (Qk h.ptr) (by simpa using hx.2.symm)).trans h.ptr
 ·obtain⟨x,a,b1,b2,b3,e1,e2,e3,ho,hT⟩:=hall p hp
  exact⟨x,a,b1,b2,b3,e1,e2,e3,ho.keep hc hn (nm (mp ho.ok)) (nm (mp ho.fl)) (nm (mp ho.em)),hT⟩
theorem XH.keepB {b1 b2 b3 x:Nat} {X:yW} {s:B3} {e:TypeId} (h:XH w b1 b2 b3 X s) (hc:Qc [x] w w') (hk:Kd w x e) (he:e≠3:=by decide):XH w' b1 b2 b3 X s:=by
 have nm:∀ {κ:Type} {KC:Value->Prop} {enc:κ->Value} {b:Nat} {X:κ->List Int->Prop},Qx w KC enc b X->b∉ [x]:=fun h hm=>by
  obtain⟨E,⟨es,c,h1,_⟩,_⟩:=h
  obtain⟨cs,fr,h2⟩:=hk
  rw [E0.1 hm,h2] at h1
  cases h1
 exact h.keep hc (F7 (hk.nz he) C0) (nm h.ok) (nm h.fl) (nm h.em)
theorem Wz.kz (h:Wz AT SB B w xp bs T) (hc:Qc [] w w'):Wz AT SB B w' xp bs T:=h.keep hc C0 (by simp)
theorem Wz.more (h:Wz AT SB B w xp bs T) (hc:Qc [] w w') (hT:∀y∈T',y∈T∨(w.heap.size<=y/\y<w'.heap.size)):Wz AT SB B w' xp bs T':=by
 have h':=h.kz hc
 have hxl:xp<w.heap.size:=Qk h.ptr
 obtain⟨E,hE,hall⟩:=h.memo
 refine⟨h'.env,h'.le,h'.blk,h'.sb,h'.ptr,⟨E,hE.chg hc (by simp),fun p hp=>?_⟩,⟨h.low.1,fun hb=>(hT bs hb).elim h.low.2.1 (fun h1=>by have:=h.memo.lt;omega),fun y hy=>?_⟩,⟨fun hb=>(hT xp hb).elim h.xpn.1 (fun h1=>by omega),h.xpn.2⟩⟩
 ·obtain⟨x,a,b1,b2,b3,e1,e2,e3,ho,hT2⟩:=hall p hp
  have hlt:=ho.lt
  have hlt3:∀y∈ [b1,b2,b3],y<w.heap.size:=fun y hy=>by
   simp only [C7,F1,or_false] at hy
   rcases hy with rfl|rfl|rfl
   ·exact hlt.1
   ·exact hlt.2.1
   ·exact hlt.2.2
  exact⟨x,a,b1,b2,b3,e1,e2,e3,ho.keep hc C0 (by simp) (by simp) (by simp),fun y hy=>⟨fun hb=>(hT y hb).elim (hT2 y hy).1 (fun h1=>by have:=hlt3 y hy;omega),(hT2 y hy).2⟩⟩
 ·rcases hT y hy with h1|h1
  ·exact⟨(h.low.2.2 y h1).1,F6 (h.low.2.2 y h1).2 hc.size⟩
  ·exact⟨G5 h.le h1.1,h1.2⟩
theorem Wz.less (h:Wz AT SB B w xp bs T) (hT:∀y∈T',y∈T):Wz AT SB B w xp bs T':=by
 obtain⟨E,hE,hall⟩:=h.memo
 exact⟨h.env,h.le,h.blk,h.sb,h.ptr,⟨E,hE,fun p hp=>by
  obtain⟨x,a,b1,b2,b3,e1,e2,e3,ho,hT2⟩:=hall p hp
  exact⟨x,a,b1,b2,b3,e1,e2,e3,ho,fun y hy=>⟨fun hb=>(hT2 y hy).1 (hT y hb),(hT2 y hy).2⟩⟩⟩,⟨h.low.1,fun hb=>h.low.2.1 (hT _ hb),fun y hy=>h.low.2.2 y (hT y hy)⟩,⟨fun hb=>h.xpn.1 (hT _ hb),h.xpn.2⟩⟩
theorem Wz.nz (h:Wz AT SB B w xp bs T):Qm w [bs]:=F7 h.memo.nz C0
end
def Qf4 (AT:Int->Option Qa) (SB:Nat->Prop) (B:Nat) (X:yW) (s:B3) (xp bs:Nat) (T:List Nat) (w:World) (e:Ending) (w':World):Prop:=
 ∃b1 b2 b3,e= .returned (.agg #[.map (some b1),.map (some b2),.map (some b3)])/\XH w' b1 b2 b3 X s/\(∀y∈ [b1,b2,b3],y∉T/\y≠bs)/\Wz AT SB B w' xp bs T/\Qc [bs] w w'
def WY (SB:Nat->Prop) (w:World) (m:List Qa) (ul:Value):Prop:=∃S,Yb w (QA m) ul S/\∀y∈S,SB y
def QaV (SB:Nat->Prop) (w:World) (b off:Nat) (a:Qa):Prop:=∃uA uB,SB b/\b<w.heap.size/\
 (w.cell? ⟨b,off,none⟩=some (.int .i64 a.op)/\w.cell? ⟨b,off+1,none⟩=some (.int .i64 a.slot)/\w.cell? ⟨b,off+2,none⟩=some (.int .i64 a.other)/\w.cell? ⟨b,off+3,none⟩=some (.string a.word)/\w.cell? ⟨b,off+4,none⟩=some (.string a.call.method)/\w.cell? ⟨b,off+5,none⟩=some (.string a.call.key)/\
  w.cell? ⟨b,off+6,none⟩=some (.int .i64 a.call.value)/\w.cell? ⟨b,off+7,none⟩=some (.string a.call.text)/\w.cell? ⟨b,off+8,none⟩=some (.int .i64 a.face)/\w.cell? ⟨b,off+9,none⟩=some uA/\w.cell? ⟨b,off+10,none⟩=some uB)/\WY SB w a.A uA/\WY SB w a.B uB
section
variable {SB:Nat->Prop} {w w':World} {m:List Qa} {ul:Value} {S:List Nat} {B b off:Nat} {a:Qa}
theorem WY.keep (h:WY SB w m ul) (hc:Qc S w w') (hsb:∀y,SB y->y<B) (hS:∀x∈S,B<=x):WY SB w' m ul:=by
 obtain⟨R,h1,h2⟩:=h
 exact⟨R,Yb.keep hc _ _ _ (fun x hx hy=>by have:=hsb x (h2 x hx);have:=hS x hy;omega) h1,h2⟩
theorem WY.rd (h:WY SB w m ul):Rd w w.heap.size (QA m) ul:=by obtain⟨R,h1,_⟩:=h;exact Yb.rd _ _ _ h1
theorem QaV.keep (h:QaV SB w b off a) (hc:Qc S w w') (hsb:∀y,SB y->y<B) (hS:∀x∈S,B<=x):QaV SB w' b off a:=by
 obtain⟨uA,uB,hb,hl,hcs,hA,hB⟩:=h
 have hn:b∉S:=fun hx=>by have:=hsb b hb;have:=hS b hx;omega
 have e:=fun o=>hc.cell (p:=⟨b,o,none⟩) hl hn
 refine⟨uA,uB,hb,F6 hl hc.size,?_,hA.keep hc hsb hS,hB.keep hc hsb hS⟩
 simpa only [e] using hcs
theorem WY.act (h:WY SB w m ul) (k:Nat) (hk:k<m.length):∃g cap,ul= .slice (some ⟨g,0,none⟩) m.length cap/\cap<=maxLen/\m.length<=cap/\QaV SB w g (k * 11) m[k]:=by
 have hrd:=h.rd
 obtain⟨R,h1,h2⟩:=h
 unfold QA at h1
 rw [Yb] at h1
 rcases h1 with ⟨_,h0,_⟩|⟨g,cap,cur,e,us,S',rfl,h3,h4,hg,hus,hul,hown,rfl⟩
 ·omega
 ·obtain⟨A,cap',e1,_,_,hrow⟩:=Qr hrd
  obtain⟨rfl,rfl⟩:some (⟨g,0,none⟩:Addr)=A/\cap=cap':=by injection e1 with e1 _ e2;exact⟨e1,e2⟩
  obtain⟨b,off,u9,u10,e2,hb,cs⟩:=Yh hrow k hk
  obtain⟨rfl,rfl⟩:g=b/\0=off:=by injection e2 with e2;injection e2 with e2 e3;exact⟨e2,e3⟩
  simp only [J3] at cs
  have part:∀j (d:QD),(QO m[k])[j]?=some d->j<11->∃u Sj,w.cell? ⟨g,k * 11+j,none⟩=some u/\Yb w d u Sj/\∀y∈Sj,SB y:=fun j d hd hj=>by
   have h5:=Vk Yg m k j hk hj
   rw [hd] at h5
   obtain⟨u,Sa,Sj,Sb,g1,rfl,g2,_⟩:=Qt.split hown h5
   refine⟨u,Sj,?_,g2,fun y hy=>h2 y (by simp [hy])⟩
   rw [cell_of_row w g (k * 11+j) cur e (0,0) hg, <-T6]
   rw [<-hus,R8] at g1
   split at g1
   ·exact g1
   ·cases g1
  have hF:=Vi m[k]
  obtain⟨v9,S9,f1,f2,f3⟩:=part 9 (QA m[k].A) (by rw [hF];rfl) (by omega)
  obtain⟨v10,S10,f4,f5,f6⟩:=part 10 (QA m[k].B) (by rw [hF];rfl) (by omega)
  exact⟨g,cap,rfl,h4,h3,v9,v10,h2 g (by simp),(F5.1 hg).1,⟨cs.1,cs.2.1,cs.2.2.1,cs.2.2.2.1,cs.2.2.2.2.1,cs.2.2.2.2.2.1,cs.2.2.2.2.2.2.1,cs.2.2.2.2.2.2.2.1,cs.2.2.2.2.2.2.2.2.1,f1,f4⟩,⟨S9,f2,f3⟩,⟨S10,f5,f6⟩⟩
theorem WY.sl (h:WY SB w m ul):∃A cap,ul= .slice A m.length cap/\m.length<=cap/\cap<=maxLen:=by
 obtain⟨A,cap,e,h1,h2,_⟩:=Qr h.rd
 exact⟨A,cap,e,h1,h2⟩
end
def QcV (AT:Int->Option Qa) (SB:Nat->Prop) (B xp bs:Nat) (a:Qa):Prop:=∀(place:Int) (b off:Nat) (s:B3) (T:List Nat) (W:World),Wz AT SB B W xp bs T->QaV SB W b off a->a.fit AT place->a.ok->0<=place->place+a.size<=1000->a.cost<=400000->Xv a<=1048575->(Vz s).All W8->
 Calls Tryz.prog 136 #[.pointer (some ⟨xp,0,none⟩),.pointer (some ⟨b,off,none⟩),.int .i64 place,QW s] W (Qf4 AT SB B (a.ex Qs place) s xp bs T W)
def ut (AT:Int->Option Qa) (SB:Nat->Prop) (B xp bs:Nat) (m:List Qa):Prop:=∀(place:Int) (ul:Value) (s:B3) (T:List Nat) (W:World),Wz AT SB B W xp bs T->WY SB W m ul->yG AT m place->Jm m->0<=place->place+Qd m<=1000->QT m<=400000->Qi m<=1048576->(Vz s).All W8->
 Calls Tryz.prog 69 #[.pointer (some ⟨xp,0,none⟩),ul,.int .i64 place,QW s] W (Qf4 AT SB B (Vn Qs m place) s xp bs T W)
theorem Uc {s:ByteArray} (h:W8 s):s.size<=200:=by
 have h1:=Qc7 h
 have h2:∀l∈Qg7,l.length<=200:=by decide+kernel
 have:=h2 _ h1
 simpa using this
theorem Qb8 {s:B3} (h:(Vz s).All W8):Uu (QW s):=by
 have hm:200<=maxLen:=by unfold maxLen;omega
 exact⟨s,rfl,G5 (Uc h.1) hm,G5 (Uc h.2.1) hm,G5 (Uc h.2.2) hm⟩
theorem yJ (w:World) (n:Int):Zn (w.alloc (.cells #[.int .i64 n] 3)) [n] (.slice (some ⟨w.heap.size,0,none⟩) 1 1):=by
 refine⟨some ⟨w.heap.size,0,none⟩,1,rfl,F0 _,by unfold maxLen;omega,.inr ⟨w.heap.size,0, #[.int .i64 n],(0,0),rfl,heap_alloc_new w _,fun j hj=>?_⟩⟩
 have h0:j=0:=by simp at hj;exact hj
 subst h0
 rw [cell_of_row _ _ _ _ _ _ (heap_alloc_new w _)]
 rfl
theorem Qhp {P Q R:Prop} (h:R↔P):((((0:Int)<0/\P)∨((1:Int)<0/\Q))∨R)↔(((0:Int)<1/\P)∨((1:Int)<1/\Q)):=by simp [h]
theorem Qhn {P Q R:Prop} (h:R↔Q):((((0:Int)<1/\P)∨((1:Int)<1/\Q))∨R)↔(((0:Int)<2/\P)∨((1:Int)<2/\Q)):=by simp [h]
theorem QeH {P Q:Prop}:(((0:Int)<2/\P)∨((1:Int)<2/\Q))↔(Q∨P):=by simp [or_comm]
def QfD (w:World) (b1 b2 b3:Nat) (w':World):Prop:=(w.heap.size<=b1/\b1<b2/\b2<b3/\b3<w'.heap.size)/\Qc [] w w'/\
 (∀X,(∀k i,¬X k i)->Qx w' Uu QW b1 X)/\(∀X,(∀k i,¬X k i)->Qx w' zS YN b2 X)/\(∀X,(∀k i,¬X k i)->Qx w' zX Wi b3 X)
theorem Qx.madeAt {κ:Type} {X:κ->List Int->Prop} (w:World) (KC:Value->Prop) (enc:κ->Value) {b:Nat} (h:∀k i,¬X k i) (hb:b=w.heap.size:=by simp):Qx (w.alloc (.map #[] 0)) KC enc b X:=by
 rw [hb];exact Qx.made w KC enc h
theorem Qx.far {κ:Type} {X:κ->List Int->Prop} {w w':World} {KC:Value->Prop} {enc:κ->Value} {b:Nat} (h:Qx w KC enc b X) (hc:Qc [] w w':=by exact C6):Qx w' KC enc b X:=h.keep hc C0 (by simp)
theorem Qx.single {κ:Type} {w:World} {KC:Value->Prop} {enc:κ->Value} {b:Nat} {E':List (Value×Value)} {k0:κ} {i0:List Int} {vi:Value} (h:ZH w KC b E') (hm:∀p,p∈E'↔(p∈([]:List (Value×Value))/\p.1≠enc k0)∨p=(enc k0,vi)) (hv:Zn w i0 vi):Qx w KC enc b (fun k i=>k=k0/\i=i0):=
 ⟨E',h,fun p hp=>by
  rcases(hm p).1 hp with ⟨h1,_⟩|rfl
  ·cases h1
  ·exact⟨k0,i0,rfl,hv,⟨rfl,rfl⟩,fun j hj=>by rw [hj.2,Vx];omega⟩,fun k i hi=>⟨(enc k0,vi),(hm _).2 (.inr rfl),by rw [hi.1]⟩⟩
theorem Qx.empty {κ:Type} {w:World} {KC:Value->Prop} {enc:κ->Value} {b:Nat} (h:Qx w KC enc b (fun _ _=>False)):∃E,ZH w KC b E/\∀p,p∉E:=by
 obtain⟨E,h1,h2,_⟩:=h
 exact⟨E,h1,fun p hp=>by
  obtain⟨_,_,_,_,hl⟩:=h2 p hp
  exact hl.1⟩
theorem Qx.stored1 {κ:Type} {w:World} {KC:Value->Prop} {enc:κ->Value} {b:Nat} {E E':List (Value×Value)} {k0:κ} {i0:List Int} {vi:Value} (hn:∀p,p∉E) (h:ZH w KC b E') (hm:∀p,p∈E'↔(p∈E/\p.1≠enc k0)∨p=(enc k0,vi)) (hv:Zn w i0 vi):Qx w KC enc b (fun k i=>k=k0/\i=i0):=
 Qx.single h (fun p=>(hm p).trans ⟨fun h=>h.imp_left fun h1=>absurd h1.1 (hn p),fun h=>h.imp_left fun h1=>(by cases h1.1)⟩) hv
theorem UU (P:Program) (t:TypeId) (W:World):(Instr.makeMap t none).run P W= .ok (.map (some W.heap.size)) (W.alloc (.map #[] 0)):=by
 simp [Instr.makeMap,newObj]
 rfl
theorem vz {P:Program} {w:World} {ops:Array Oper} {rest:List Oper} {o:Oper} {a:Act} {Q:Exit->Act->World->Prop} {KC:Value->Prop} {G:World->Prop} {k e:TypeId} {b:Nat} {E:List (Value×Value)} (hg:o.guard=none) (m x v:Operand) (t:TypeId) (hop:o.op=Op.insert t m x v) (K:qO P k KC G) (hG:G w) (ht:P.underlying t=some (.map k e))
  (hm:a.eval m= .map (some b)) (h:ZH w KC b E) {key val:Value} (hx:a.eval x=key) (hv:a.eval v=val) (hk:KC key)
  (hK:∀w' E',ZH w' KC b E'->Qc [b] w w'->w'.heap.size=w.heap.size->(∀p,p∈E'↔(p∈E/\p.1≠key)∨p=(key,val))->wpList P ops Q rest (a.put o.dst undef) w'):
  wpList P ops Q (o::rest) a w:=by
 refine wpList_plain hg fun K' hK'=>?_
 unfold Oper.wp
 obtain⟨w',E',hrun,h1,h2,h3,h4⟩:=h.store (val:=val) K hG ht hk
 simp [execOp,hop,hm,hx,hv,hrun,Result.andThen]
 exact hK' _ _ (hK w' E' h1 h2 h3 h4)
theorem Wq (w:World):Calls Tryz.prog 97 #[] w fun e w'=>∃b1 b2 b3,e= .returned (.agg #[.map (some b1),.map (some b2),.map (some b3)])/\QfD w b1 b2 b3 w':=by
 go_enter Tryz.func97,Tryz.ntmps97
 have hm:=UU Tryz.prog
 go_wp2_with fail
 refine bodyPost_ret (v:=.agg #[.map (some (w.heap.size+1)),.map (some (w.heap.size+1+1)),.map (some (w.heap.size+1+1+1))]) (by simp only [results,Tryz.results97];go_simp) rfl ?_
 refine⟨_,_,_,rfl,⟨by omega,by omega,by omega,by simp⟩,C6,fun X hX=>?_,fun X hX=>?_,fun X hX=>?_⟩
 ·exact(Qx.madeAt (w.alloc _) Uu QW hX).far
 ·exact(Qx.madeAt ((w.alloc _).alloc _) zS YN hX).far
 ·exact(Qx.madeAt (((w.alloc _).alloc _).alloc _) zX Wi hX).far
theorem Qgk {p:Qe} (h:Qn p):wn p<=200:=by
 obtain⟨⟨f,hf,hc,_⟩,hl,hL⟩:=h
 have h1:p.core.kind.size<=16:=by
  have hm:=UZ hf
  rw [Vl] at hm
  have hall:∀q∈kinds,q.1.length<=16:=by decide
  have:=hall _ hm
  rw [<-Zl];exact this
 have h2:Qcu p.core.cells<=p.core.cells.length * 8:=by
  have hk:=((Kf _).1 hc).2.1
  have:∀l:List QC,(∀c∈l,c.key.size<=8)->(l.map QeX).sum<=l.length * 8:=by
   intro l
   induction l with
   |nil=>intro _;simp
   |cons a l ih=>intro h;simp only [I9,V8,I1];have:=ih (fun c hc=>h c (I5 _ hc));have:=h a K0;unfold QeX at *;omega
  exact this _ (fun c hc=>(hk c hc).1.2.1)
 have h3:wY p.layers<=p.layers.length * 16:=by
  have hk:∀x∈p.layers,x.name.size<=16:=by
   intro x hx
   obtain⟨i,hi,rfl⟩:=M0 hx
   obtain⟨y,hy,_⟩:=hL i hi
   have hm:=UZ hy
   rw [Vl] at hm
   have hall:∀q∈Yk,q.1.length<=16:=by decide
   have:=hall _ hm
   rw [<-Zl];exact this
  have:∀l:List ZZ,(∀c∈l,c.name.size<=16)->(l.map kP).sum<=l.length * 16:=by
   intro l
   induction l with
   |nil=>intro _;simp
   |cons a l ih=>intro h;simp only [I9,V8,I1];have:=ih (fun c hc=>h c (I5 _ hc));have:=h a K0;unfold kP at *;omega
  exact this _ hk
 have h4:=hc.1
 unfold wn Qfn Qfm xO
 omega
theorem Qfu {l:List Ql} (h:QH l):yj l<=1048576:=by
 obtain⟨a,b,c,rfl⟩:∃a b c,l=[a,b,c]:=by
  match l,h.1 with
  | [a,b,c],_=>exact⟨a,b,c,rfl⟩
 have hs:∀x,Ww x->Qab x<=200:=fun x hx=>by
  unfold Qab
  cases hf:x.full with
  |true=>exact Qgk (hx.1 hf)
  |false=>rw [hx.2 hf];decide
 have h1:=hs a (h.2 0 (by simp))
 have h2:=hs b (h.2 1 (by simp))
 have h3:=hs c (h.2 2 (by simp))
 unfold yj xR
 simp only [I9,O2,V8,List.sum_nil,I1,U7]
 omega
theorem jO (m:ByteArray):YJ (ZR m):=by
 unfold ZR
 cases h:Zg m with
 |none=>exact⟨by simp,by simp⟩
 |some k=>
  have hm:=UZ h
  have hall:∀q∈jj,0<=q.2/\q.2<=5:=by decide
  have h5:=hall _ hm
  obtain⟨n,rfl⟩:∃n:Nat,k=n:=⟨k.toNat,by simp only at h5;omega⟩
  have hn:n<=5:=by simp only at h5;omega
  simp only [Int.toNat_natCast]
  rcases(show n=0∨n=1∨n=2∨n=3∨n=4∨n=5 by omega) with rfl|rfl|rfl|rfl|rfl|rfl<;>exact⟨by decide,by decide⟩
theorem yt {f:Int} (h:ql f):YJ f:=⟨by have:=h.1;omega,by have:=h.2;omega⟩
theorem kn {o:Option (Int×Int)} (h:∀x,o=some x->ql x.1/\ql x.2):ql (o.getD (0,0)).1/\ql (o.getD (0,0)).2:=by
 cases o with
 |none=>exact⟨⟨by simp,by simp⟩,⟨by simp,by simp⟩⟩
 |some x=>exact h x rfl
theorem Qd2 (p:Qe) (k:Nat):ql (Qq p k):=by
 unfold Qq
 split
 ·cases h:Qo p.core.kind with
  |none=>exact⟨by simp,by simp⟩
  |some f=>exact Kq h
 ·refine(kn (fun x hx=>?_)).2
  cases h:p.layers[k-1]? with
  |none=>rw [h] at hx;cases hx
  |some y=>rw [h] at hx;exact zQ hx
theorem Qaf {a:Qa} (ha:ZG a):YJ (KV a):=by
 unfold KV
 split
 ·rename_i h
  exact yt ((jk h).1 ha).2.1
 ·split
  ·exact jO _
  ·exact yt (kn (fun x hx=>zQ hx)).1
theorem jI {s:ByteArray} (h:W8 s) (hz:s.size≠0):YJ (yO s):=by
 obtain⟨p,_,_,_,e⟩:=Uh hz h
 rw [Qae hz h e]
 exact yt (Qd2 _ _)
theorem Qbl {a:Qa} (ha:ZG a) (p:Int) (hp:0<=p/\p<=1000) (s:YY ByteArray) (hs:s.All W8) (hne:(YX a p s).2≠QJ):(YX a p s).1=s/\((YX a p s).2.code=2∨(YX a p s).2.code=1)/\YJ (YX a p s).2.place/\YJ (YX a p s).2.want/\YJ (YX a p s).2.had:=by
 have hsp:YJ p:=⟨by omega,by omega⟩
 have h0:YJ 0:=⟨by omega,by omega⟩
 obtain⟨h1,h2|h2⟩:=jZ a p s hne
 ·rw [h2]
  exact⟨h1,.inl rfl,hsp,h0,h0⟩
 ·have hz:(s.get a.slot).size≠0:=fun hz=>by
   unfold YX at h2
   by_cases g1:a.op=1
   ·rw [if_pos g1] at h2;cases h2
   ·rw [if_neg g1] at h2
    by_cases g5:a.op=5
    ·rw [if_pos g5] at h2;cases h2
    ·rw [if_neg g5] at h2
     by_cases g4:a.op=4
     ·rw [if_pos g4] at h2;cases h2
     ·rw [if_neg g4,if_pos hz] at h2
      cases h2
  rw [h2]
  exact⟨h1,.inr rfl,hsp,Qaf ha,jI (hs.get a.slot) hz⟩
theorem Xo.eta (e:Xo) {c:Int} (h:e.code=c):e=⟨c,e.place,e.want,e.had⟩:=by cases e;simp only at h;simp [h]
section
variable {a:Qa} {p:Int} {s t:B3} {e:Xo} (h:YX a p (Vz s)=(Vz t,e))
include h
theorem Qda (he:e=QJ):(∀k i,Yr (Qs a p) s k i↔k=t/\i=[])/\(∀k i,¬W6 (Qs a p) s k i)/\∀k i,¬VB (Qs a p) s k i:=by
 subst he
 refine⟨fun k i=>⟨fun hk=>?_,fun hk=>?_⟩,fun k i hk=>?_,fun k i hk=>?_⟩
 ·obtain⟨h1,h2⟩:=(show i=[] /\YX a p (Vz s)=(Vz k,QJ) from hk)
  rw [h] at h2
  exact⟨(xX (U8 h2).1).symm,h1⟩
 ·exact⟨hk.2,by rw [hk.1];exact h⟩
 ·obtain⟨_,h2,h3⟩:=(show i=[] /\YX a p (Vz s)=_/\_≠QJ from hk)
  rw [h] at h2
  exact h3 (U8 h2).2.symm
 ·obtain⟨t',e',hb,_⟩:=hk
  obtain⟨_,h2,h3⟩:=(show i=[] /\YX a p (Vz s)=_/\_≠QJ from hb)
  rw [h] at h2
  exact h3 (U8 h2).2.symm
theorem QdL (he:e.code=1):(∀k i,¬Yr (Qs a p) s k i)/\(∀k i,W6 (Qs a p) s k i↔k=((e.place,e.want,e.had),t)/\i=[])/\∀k i,¬VB (Qs a p) s k i:=by
 have hne:e≠QJ:=fun h1=>by rw [h1] at he;cases he
 refine⟨fun k i hk=>?_,fun k i=>⟨fun hk=>?_,fun hk=>?_⟩,fun k i hk=>?_⟩
 ·obtain⟨_,h2⟩:=(show i=[] /\YX a p (Vz s)=(Vz k,QJ) from hk)
  rw [h] at h2
  exact hne (U8 h2).2
 ·obtain⟨h1,h2,h3⟩:=(show i=[] /\YX a p (Vz s)=(Vz k.2,(⟨1,k.1.1,k.1.2.1,k.1.2.2⟩:Xo))/\_≠QJ from hk)
  rw [h] at h2
  obtain⟨g1,g2⟩:=U8 h2
  rw [g2]
  exact⟨Prod.ext rfl (xX g1).symm,h1⟩
 ·rw [hk.1]
  exact⟨hk.2,by rw [h, <-Xo.eta e he],by rw [<-Xo.eta e he];exact hne⟩
 ·obtain⟨t',e',hb,hc,_⟩:=hk
  obtain⟨_,h2,h3⟩:=(show i=[] /\YX a p (Vz s)=_/\_≠QJ from hb)
  rw [h] at h2
  rw [<- (U8 h2).2] at hc
  exact hc he
theorem Qdg (he:e.code≠1) (hne:e≠QJ):(∀k i,¬Yr (Qs a p) s k i)/\(∀k i,¬W6 (Qs a p) s k i)/\∀k i,VB (Qs a p) s k i↔k=e.place/\i=[]:=by
 refine⟨fun k i hk=>?_,fun k i hk=>?_,fun k i=>⟨fun hk=>?_,fun hk=>?_⟩⟩
 ·obtain⟨_,h2⟩:=(show i=[] /\YX a p (Vz s)=(Vz k,QJ) from hk)
  rw [h] at h2
  exact hne (U8 h2).2
 ·obtain⟨h1,h2,h3⟩:=(show i=[] /\YX a p (Vz s)=(Vz k.2,(⟨1,k.1.1,k.1.2.1,k.1.2.2⟩:Xo))/\_≠QJ from hk)
  rw [h] at h2
  exact he (by rw [(U8 h2).2])
 ·obtain⟨t',e',hb,hc,hp⟩:=hk
  obtain⟨h1,h2,h3⟩:=(show i=[] /\YX a p (Vz s)=_/\_≠QJ from hb)
  rw [h] at h2
  rw [<- (U8 h2).2] at hp
  exact⟨hp.symm,h1⟩
 ·exact⟨Vz t,e,⟨hk.2,h,hne⟩,he,hk.1.symm⟩
end
section
variable {w:World} {X Y:yW} {s:B3} {b:Nat} {D:B3->List Int->Prop}
theorem Qdh {P:Yq->List Int->Prop} (h:Qx w zS YN b (fun k i=>P k i∨(W6 X s k i∨UR D (fun u=>W6 Y u) k i))) (hD:∀k i,D k i↔XC (Yr X s k) i) (dX:XM X):Qx w zS YN b (fun k i=>P k i∨W6 (X.seq Y) s k i):=by
 obtain rfl:D=fun k i=>XC (Yr X s k) i:=funext fun k=>funext fun i=>propext (hD k i)
 exact(Qx.fronts (X:=fun k i=>P k i∨W6 X s k i) (F:=Yr X s) (R:=fun u=>W6 Y u) (h.congr (fun k i=>or_assoc.symm)) (fun k=>VO dX s k)).congr (fun k i=>or_assoc.trans (or_congr i7 (Qcr k i)))
theorem Qdv {P:Int->List Int->Prop} (h:Qx w zX Wi b (fun k i=>P k i∨(VB X s k i∨UR D (fun u=>VB Y u) k i))) (hD:∀k i,D k i↔XC (Yr X s k) i) (dX:XM X):Qx w zX Wi b (fun k i=>P k i∨VB (X.seq Y) s k i):=by
 obtain rfl:D=fun k i=>XC (Yr X s k) i:=funext fun k=>funext fun i=>propext (hD k i)
 exact(Qx.fronts (X:=fun k i=>P k i∨VB X s k i) (F:=Yr X s) (R:=fun u=>VB Y u) (h.congr (fun k i=>or_assoc.symm)) (fun k=>VO dX s k)).congr (fun k i=>or_assoc.trans (or_congr i7 (QcK k i)))
theorem QcA {P Q R R' S:Prop} (h:(R∨S)↔R'):((P∨(Q∨R))∨S)↔(P∨(Q∨R')):=by
 rw [<-h];simp only [or_assoc]
end
theorem Qfa (X Y:yW) (n:Int):(X.took n).seq Y=(X.seq Y).took n:=by
 refine Rn.ext' (fun s i t=>?_) (fun s i t e=>?_)
 ·obtain⟨s,rfl⟩:=Ul s
  obtain⟨t,rfl⟩:=Ul t
  exact QaP (s:=s) n t i
 ·obtain⟨s,rfl⟩:=Ul s
  exact jb (s:=s) n t e i
theorem Qhk {X:yW} {n:Nat} {E:YY ByteArray->Xo->Prop} (h:Yu X n E) (q r:Nat) (hq:q<=3):Yu ((X.pow q).took r) (3 * n+1) E:=((h.pow q).took r).mono (by have:=X0 n hq;omega) (fun _ _ h=>h)
theorem yg {g1 g2 g3:ByteArray} (h:Uu (.agg #[.string g1,.string g2,.string g3])):g1.size<=maxLen/\g2.size<=maxLen/\g3.size<=maxLen:=by
 obtain⟨z,e,hz⟩:=h
 obtain rfl:=Xw (show QW (g1,g2,g3)=QW z from e)
 exact hz
theorem qu {κ:Type} {f:Nat->κ->List Int->Prop} (n:Nat) (k:κ) (l:List Int):((∃r:Nat,r<n/\f r k l)∨f n k l)↔ ∃r:Nat,r<n+1/\f r k l:=by
 constructor
 ·rintro(⟨r,h,h1⟩|h)
  ·exact⟨r,by omega,h1⟩
  ·exact⟨n,by omega,h⟩
 ·rintro⟨r,h,h1⟩
  rcases(show r<n∨r=n by omega) with h2|rfl
  ·exact .inl ⟨r,h2,h1⟩
  ·exact .inr h1
theorem QgB {g:Int} (h:zX (.int .i64 g)):YJ g:=by
 obtain⟨z,e,hz⟩:=h
 rw [Up (show Wi g=Wi z from e)];exact hz
section
variable {X Y:yW} {s:B3}
theorem QeP (k:B3) (i:List Int):(Yr X s k i∨UR (W6 X s) (fun f=>Yr Y f.2) k i)↔Yr (X.tried Y) s k i:=by
 constructor
 ·rintro(h|⟨f,a,b,h1,h2,rfl⟩)
  ·exact .inl h
  ·exact .inr ⟨a,b,Vz f.2,_,rfl,h1,rfl,h2⟩
 ·rintro(h|⟨a,b,u,e,rfl,h1,hc,h2⟩)
  ·exact .inl h
  ·obtain⟨u,rfl⟩:=Ul u
   exact .inr ⟨((e.place,e.want,e.had),u),a,b,by unfold W6;rw [<-Xo.eta e hc];exact h1,h2,rfl⟩
theorem QeE (k:Yq) (i:List Int):UR (W6 X s) (fun f=>W6 Y f.2) k i↔W6 (X.tried Y) s k i:=by
 constructor
 ·rintro⟨f,a,b,h1,h2,rfl⟩
  exact .inr ⟨a,b,Vz f.2,_,rfl,h1,rfl,h2⟩
 ·rintro(⟨_,h⟩|⟨a,b,u,e,rfl,h1,hc,h2⟩)
  ·exact absurd rfl h
  ·obtain⟨u,rfl⟩:=Ul u
   exact⟨((e.place,e.want,e.had),u),a,b,by unfold W6;rw [<-Xo.eta e hc];exact h1,h2,rfl⟩
theorem Qel (k:Int) (i:List Int):(VB X s k i∨UR (W6 X s) (fun f=>VB Y f.2) k i)↔VB (X.tried Y) s k i:=by
 constructor
 ·rintro(⟨t,e,h,hc,hp⟩|⟨f,a,b,h1,⟨t,e,h2,hc,hp⟩,rfl⟩)
  ·exact⟨t,e,.inl ⟨h,hc⟩,hc,hp⟩
  ·exact⟨t,e,.inr ⟨a,b,Vz f.2,_,rfl,h1,rfl,h2⟩,hc,hp⟩
 ·rintro⟨t,e,⟨h,_⟩|⟨a,b,u,e',rfl,h1,hc',h2⟩,hc,hp⟩
  ·exact .inl ⟨t,e,h,hc,hp⟩
  ·obtain⟨u,rfl⟩:=Ul u
   exact .inr ⟨((e'.place,e'.want,e'.had),u),a,b,by unfold W6;rw [<-Xo.eta e' hc'];exact h1,⟨t,e,h2,hc,hp⟩,rfl⟩
end
section
variable {σ κ:Type} {w:World} {KC:Value->Prop} {enc:κ->Value} {b:Nat} {D F:σ->List Int->Prop} {R:σ->κ->List Int->Prop} {P:κ->List Int->Prop}
theorem Qeh (h:Qx w KC enc b (fun k i=>P k i∨UR D R k i)) (hD:∀k i,D k i↔XC (F k) i) (hp:∀k,Pos (F k)):Qx w KC enc b (fun k i=>P k i∨UR F R k i):=by
 obtain rfl:D=fun k i=>XC (F k) i:=funext fun k=>funext fun i=>propext (hD k i)
 exact Qx.fronts h hp
end
theorem Y3:type_of% @Kd.newAt:=@Kd.newAt
end Go.Proofs.YtfjhdnjlhjimeaaGreatDoor
