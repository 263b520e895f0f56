/- Boxes of three and six cells. Conditions: as stated. -/
import Derived.Test.YtlnkgcdeljhjcaaGreatDoorMapsQ
import Derived.Test.YtlnkgcdeljhjcaaGreatDoorThrus
import Derived.Deep.Cut
set_option maxRecDepth 100000
set_option maxHeartbeats 4000000
namespace Go.Proofs.YtlnkgcdeljhjcaaGreatDoor
open Go.RowKit

section
variable {w:World} {b:Nat}
theorem QY.newAt (w:World) (cs:Array Value) (t:TypeId) (h:b=w.heap.size:=by simp):QY (w.alloc (.cells cs t)) b cs.toList:=by rw [h];exact QY.new w cs t
theorem QY.o3 {v0 v1 v2:Value} (H:QY w b [v0,v1,v2]):w.cell? ⟨b,0,none⟩=some v0/\w.cell? ⟨b,1,none⟩=some v1/\w.cell? ⟨b,2,none⟩=some v2:=⟨H.c 0 _ rfl,H.c 1 _ rfl,H.c 2 _ rfl⟩
theorem QY.o5 {v0 v1 v2 v3 v4:Value} (H:QY w b [v0,v1,v2,v3,v4]):w.cell? ⟨b,0,none⟩=some v0/\w.cell? ⟨b,1,none⟩=some v1/\w.cell? ⟨b,2,none⟩=some v2/\w.cell? ⟨b,3,none⟩=some v3/\w.cell? ⟨b,4,none⟩=some v4:=⟨H.c 0 _ rfl,H.c 1 _ rfl,H.c 2 _ rfl,H.c 3 _ rfl,H.c 4 _ rfl⟩
theorem QY.o6 {v0 v1 v2 v3 v4 v5:Value} (H:QY w b [v0,v1,v2,v3,v4,v5]):w.cell? ⟨b,0,none⟩=some v0/\w.cell? ⟨b,1,none⟩=some v1/\w.cell? ⟨b,2,none⟩=some v2/\w.cell? ⟨b,3,none⟩=some v3/\w.cell? ⟨b,4,none⟩=some v4/\w.cell? ⟨b,5,none⟩=some v5:=
 ⟨H.c 0 _ rfl,H.c 1 _ rfl,H.c 2 _ rfl,H.c 3 _ rfl,H.c 4 _ rfl,H.c 5 _ rfl⟩
theorem QY.put3 {vs:List Value} (H:QY w b vs) (h:vs.length=3) (u0 u1 u2:Value):QY (((w.setCell ⟨b,0,none⟩ u0).setCell ⟨b,1,none⟩ u1).setCell ⟨b,2,none⟩ u2) b [u0,u1,u2]:=by
 match vs,h with
 | [a,c,d],_=>exact((H.set 0 u0).set 1 u1).set 2 u2
def Kd (w:World) (b:Nat) (e:TypeId):Prop:=∃cs fr,w.heap[b]?=some (.cells cs e fr)
theorem Kd.newAt (w:World) (cs:Array Value) (t:TypeId) (h:b=w.heap.size:=by simp):Kd (w.alloc (.cells cs t)) b t:=⟨cs,(0,0),by rw [h];exact heap_alloc_new w _⟩
theorem Kd.keep {w':World} {e:TypeId} {S:List Nat} (h:Kd w b e) (hc:Qb S w w') (hS:b∉S:=by simp):Kd w' b e:=by
 obtain⟨cs,fr,h⟩:=h
 exact⟨cs,fr,(hc.block b (Array.getElem?_eq_some_iff.1 h).1 hS).trans h⟩
theorem Kd.alloc {e:TypeId} (h:Kd w b e) (o:Obj):Kd (w.alloc o) b e:=h.keep (S:=[]) ((Qb.refl _ _).alloc o)
theorem Kd.keepW {w':World} {e:TypeId} {S:List Nat} {u0 u1 u2:Value} (h:Kd w b e) (_hc:Qb S w w') (e':w'=(((w.setCell ⟨b,0,none⟩ u0).setCell ⟨b,1,none⟩ u1).setCell ⟨b,2,none⟩ u2):=by rfl):Kd w' b e:=by
 subst e'
 have go:∀(w:World) (i:Nat) (u:Value),Kd w b e->Kd (w.setCell ⟨b,i,none⟩ u) b e:=fun w i u h=>by
  obtain⟨cs,fr,h⟩:=h
  refine⟨cs.setIfInBounds i u,fr,?_⟩
  show(w.heap.modify b _)[b]?=_
  rw [Array.getElem?_modify,h]
  simp
 exact go _ _ _ (go _ _ _ (go _ _ _ h))
theorem Kd.nz {e:TypeId} (h:Kd w b e) (he:e≠3:=by decide):∀cs fr,w.heap[b]?≠some (.cells cs 3 fr):=fun cs fr h1=>by
 obtain⟨cs',fr',h⟩:=h
 rw [h] at h1
 injection h1 with h1
 injection h1 with _ h2
 exact he h2
theorem Xo (w:World) (b:Nat) (u0 u1 u2:Value):Qb [b] w (((w.setCell ⟨b,0,none⟩ u0).setCell ⟨b,1,none⟩ u1).setCell ⟨b,2,none⟩ u2):=
 (((Qb.refl _ _).setCell (.inl (by simp)) _).setCell (.inl (by simp)) _).setCell (.inl (by simp)) _
end
theorem QY.kp {w w':World} {b:Nat} {vs:List Value} {S:List Nat} (H:QY w b vs) (hc:Qb S w w') (hb:b∉S:=by first|(simp;done)|((repeat' first|exact List.not_mem_nil|refine List.not_mem_cons_of_ne_of_not_mem ?_ ?_)<;>first|assumption|(apply Ne.symm;assumption)|omega)|(simp;omega)):QY w' b vs:=H.keep hc hb
theorem Kd.kp {w w':World} {b:Nat} {e:TypeId} {S:List Nat} (H:Kd w b e) (hc:Qb S w w') (hb:b∉S:=by first|(simp;done)|((repeat' first|exact List.not_mem_nil|refine List.not_mem_cons_of_ne_of_not_mem ?_ ?_)<;>first|assumption|(apply Ne.symm;assumption)|omega)|(simp;omega)):Kd w' b e:=H.keep hc hb
theorem VY (X1 Y1:Yl->List Int->Prop) (X2 Y2:Int->List Int->Prop) (b1 b2 c1 c2:Nat) (s0 s1:Option Nat) (vi:Value) (i:List Int) (w:World)
  (h1:Qz w ql YD b1 X1) (h2:Qz w qK YQ b2 X2) (h3:Qz w ql YD c1 Y1) (h4:Qz w qK YQ c2 Y2) (hb:b1≠c1/\b1≠c2/\b2≠c1/\b2≠c2/\b1≠b2) (hv:Zj w i vi)
  (n1:∀k j,Y1 k j->i.length+j.length<=1000000) (n2:∀k j,Y2 k j->i.length+j.length<=1000000) (q1:∀k,Pos (Y1 k)) (q2:∀k,Pos (Y2 k)):
  Calls Tryz.prog 98 #[.agg #[.map s0,.map (some b1),.map (some b2)],.agg #[.map s1,.map (some c1),.map (some c2)],vi] w fun e w'=>e= .returned (.tuple #[])/\
   Qz w' ql YD b1 (fun k l=>X1 k l∨∃j,Y1 k j/\l=i++j)/\Qz w' qK YQ b2 (fun k l=>X2 k l∨∃j,Y2 k j/\l=i++j)/\Qb [b1,b2] w w':=by
 go_enter Tryz.func98,Tryz.ntmps98
 have hu1:Tryz.prog.underlying 70=some (.map 90 25):=by kernel_rfl
 have hu2:Tryz.prog.underlying 71=some (.map 3 25):=by kernel_rfl
 go_upto_region 1 with fail
 refine Qo fun wa hwa=>?_
 have ca:Qb [] w wa:=by rw [hwa];exact Qb.now
 obtain⟨x3,hx3⟩:∃x3,w.heap.size=x3:=⟨_,rfl⟩
 have B3:QY wa x3 [.map s0,.map (some b1),.map (some b2)]:=by rw [hwa, <-hx3];exact(QY.new w _ _).alloc _
 have B4:QY wa (x3+1) [.map s1,.map (some c1),.map (some c2)]:=by rw [hwa, <-hx3];exact QY.newAt (w.alloc _) _ _
 rw [hx3]
 have l1:=h1.lt
 have l2:=h2.lt
 have l3:=h3.lt
 have l4:=h4.lt
 have sa:x3+2=wa.heap.size:=by rw [hwa, <-hx3];simp
 clear hwa
 have o3:=B3.o3
 have o4:=B4.o3
 have f3:=B3.f
 have f4:=B4.f
 have k3:=h3.keep ca Qc.nil (by simp)
 go_wp2_with (first|(at_range;refine ZA rfl (.tmp 11) _ rfl hu1 (fun _ _ h=>Vc h) rfl k3 ?_;intro w2 hR0 hc2 hs2)|fail)
 obtain⟨r,hr⟩:∃r,wa.heap.size=r:=⟨_,rfl⟩
 rw [hr] at hR0 hs2 ⊢
 simp only [Act.put,List.setIfInBounds_toArray,List.set_cons_zero,List.set_cons_succ]
 have cb:Qb [] w w2:=ca.tz hc2
 have C3:=B3.keep hc2
 have C4:=B4.keep hc2
 clear o3 o4 f3 f4 k3 B3 B4
 have m1:=h1.keep cb Qc.nil (by simp)
 have m2:=h2.keep cb Qc.nil (by simp)
 have m4:=h4.keep cb Qc.nil (by simp)
 have mv:=hv.keep cb Qc.nil
 go_loopw [] (fun wr=>∃D,Gf wr ql YD c1 r Y1 D/\Qz wr ql YD b1 (fun k l=>X1 k l∨∃j,D k j/\l=i++j)/\Qb [b1,r] w2 wr) (fun wr=>leftN wr c1 r)
 case atStart=>exact⟨_,hR0,m1.congr (by simp),Qb.refl _ _⟩
 case round=>
  obtain⟨D,hR,hK,hc⟩:=hrel
  have ni:Qc w2 [b1,r]:=Qc.cons m1.nz (Qc.cons hR0.nz Qc.nil)
  have D3:=C3.kp hc
  have D4:=C4.kp hc
  have o3:=D3.o3
  have f3:=D3.f
  have o4:=D4.o3
  have f4:=D4.f
  have m4r:=m4.keep hc ni
  have m2r:=m2.keep hc ni
  have mvr:=mv.keep hc ni
  have sr:=hc.size
  go_upto_region 4 with (first|(at_next;refine Zz rfl (.tmp 12) rfl rfl hR ?_ ?_;rotate_left;rintro⟨⟨g1,g2,g3⟩,g4,g5,g6⟩ j v0 w3 hk hj hl hR3 hc3 hs3 hlt hent;unfold YD at hent ⊢;rotate_right;intro hD)|(at_range;refine ZA rfl (.tmp 26) _ rfl hu2 (fun _ _ h=>VV h) rfl m4r ?_;intro w4 hT0 hc4 hs4)|fail)
  ·simp only [Act.put,List.setIfInBounds_toArray,List.set_cons_zero,List.set_cons_succ]
   have hK1:=(hK.congr (fun k l=>by simp only [hD];exact Iff.rfl)).front q1
   obtain⟨wo,hwo⟩:∃wo:World,wo=w4:=⟨_,rfl⟩
   obtain⟨t,ht⟩:∃t,wr.heap.size=t:=⟨_,rfl⟩
   rw [ht] at hT0 hs4 ⊢
   have G3:=D3.keep hc4
   have G4:=D4.keep hc4
   have p1:=hK1.keep hc4 Qc.nil (by simp)
   have p2:=m2r.keep hc4 Qc.nil (by simp)
   have pv:=mvr.keep hc4 Qc.nil
   have tb:b1≠t/\b2≠t/\x3≠t:=⟨by omega,by omega,by omega⟩
   have cw:Qb [b1,b2] w w4:=(cb.ty (hc.tz hc4)).mono (fun x hx=>by
    rcases List.mem_cons.1 hx with rfl|hx
    ·exact .inl (by simp)
    ·exact .inr (by have:=List.mem_singleton.1 hx;omega))
   clear o3 f3 o4 f4 hwo
   go_loopw [] (fun wr=>∃D,Gf wr qK YQ c2 t Y2 D/\Qz wr qK YQ b2 (fun k l=>X2 k l∨∃j,D k j/\l=i++j)/\Qb [b2,t] w4 wr) (fun wr=>leftN wr c2 t)
   case atStart=>exact⟨_,hT0,p2.congr (by simp),Qb.refl _ _⟩
   case round=>
    obtain⟨D',hR',hK',hc'⟩:=hrel
    have F3:=G3.kp hc'
    have o3:=F3.o3
    have f3:=F3.f
    have pvr:=pv.keep hc' (Qc.cons p2.nz (Qc.cons hT0.nz Qc.nil))
    go_upto_region 8 with (first|(at_next;refine Zz rfl (.tmp 27) rfl rfl hR' ?_ ?_;rotate_left;rintro g1 j v0 w3 hk hj hl hR3 hc3 hs3 hlt hent;unfold YQ at hent ⊢;rotate_right;intro hD')|fail)
    ·go_end0
     exact⟨rfl,p1.keep hc' (Qc.cons p2.nz (Qc.cons hT0.nz Qc.nil)),(hK'.congr (fun k l=>by simp only [hD'])).front q2,cw.trans hc' (fun x hx=>by
      rcases List.mem_cons.1 hx with rfl|hx
      ·exact .inl (by simp)
      ·exact .inr (by have:=List.mem_singleton.1 hx;have:=cb.size;have:=sr;omega))⟩
    ·refine Qo fun w5 hw5=>?_
     have c5:Qb [t] wr w5:=by rw [hw5];exact hc3
     have no:Qc wr [t]:=Qc.cons hR'.nz Qc.nil
     have E3:=F3.kp c5
     have K5:=hK'.keep c5 no
     have pv5:=pvr.keep c5 no
     have sk:YA g1:=by
      obtain⟨z,e,hz⟩:=hk
      rw [VV e];exact hz
     rw [<-hw5] at hR3 hj hlt
     have n5:=n2 _ _ hl.1
     have JN:=Qd (fun W (c:Qb [] w5 W)=>WN i j vi v0 W (pv5.keep c Qc.nil) (hj.keep c Qc.nil) n5)
     have R5:=Qd hR3
     have CC:=Qd (hc'.trans c5 (fun x hx=>.inl (by simp at hx ⊢;exact .inr hx)))
     have HL:=Qd hlt
     clear hw5 hc3 hs3 hR3 hR' hK' F3 o3 f3 pvr no pv5 hj hc' hlt c5 n5 hent
     refine Q5 (b:=⟨#[],[]⟩) 6 [33,34,35,36,37,38] (JR [(0,33),(1,34),(2,35),(3,36),(4,37)] [.pointer (some ⟨x3,2,none⟩),.map (some b2),.int .i64 g1,vi,v0] [(5,38)] [fun W u=>Zj W (i++j) u] none [] w5) (by kernel_rfl) (Xn _ _) (by kernel_rfl) (by kernel_rfl) (by kernel_rfl) (JR.zero (by decide) (by decide)) ?_ ?_
     ·refine⟨.inr ?_,.inr ?_,.inr ?_,.inr ?_,.inr ?_,.inr ?_,.inl rfl,trivial⟩
      ·rintro d v W- -p H K hK
       simp only [z1,z2,z4,z5,z6] at hK ⊢
       go_simp
       exact hK.out _ _ (H.put 0 rfl rfl)
      ·rintro d v W- -p H K hK
       have e0:=H.val 0 _ _ _ rfl rfl (Qi p 0)
       have q3:=(E3.keep H.chg).o3
       have fq:=(E3.keep H.chg).f
       simp only [z1,z2,z4,z5,z6,e0] at hK ⊢
       go_simp
       exact hK.out _ _ (H.put 1 rfl rfl)
      ·rintro d v W- -p H K hK
       simp only [z1,z2,z4,z5,z6] at hK ⊢
       go_simp
       exact hK.out _ _ (H.put 2 rfl rfl)
      ·rintro d v W- -p H K hK
       simp only [z1,z2,z4,z5,z6] at hK ⊢
       go_simp
       exact hK.out _ _ (H.put 3 rfl rfl)
      ·rintro d v W- -p H K hK
       simp only [z1,z2,z4,z5,z6] at hK ⊢
       go_simp
       exact hK.out _ _ (H.put 4 rfl rfl)
      ·intro d v W hC hd p H K hK
       have e3:=H.val 3 _ _ _ rfl rfl (Qi p 3)
       have e4:=H.val 4 _ _ _ rfl rfl (Qi p 4)
       have g:=H.chg
       simp only [z1,z2,z4,z5,z6,e3,e4] at hK ⊢
       go_simp
       go_at_call 97
       refine(JN.out W g).mono ?_
       rintro e W2 ⟨u,rfl,hP,c2⟩
       dsimp only
       exact hK.out _ _ (H.n1 _ hP (.inr c2) (H.chg.tz c2))
     ·refine⟨_,rfl,fun v W H K hK=>?_⟩
      have e0:=H.val 0 _ _ _ rfl rfl (by decide)
      have e1:=H.val 1 _ _ _ rfl rfl (by decide)
      have e2:=H.val 2 _ _ _ rfl rfl (by decide)
      have e3:=H.val 3 _ _ _ rfl rfl (by decide)
      have e4:=H.val 4 _ _ _ rfl rfl (by decide)
      have P5:=H.prop 0 _ _ _ rfl rfl (by decide)
      have CHW:=H.chg
      clear H
      simp only [z1,z2,z4,z5,e0,e1,e2,e3,e4]
      go_simp
      go_at_call 162
      refine(Qac _ b2 g1 _ _ W sk (K5.keep CHW Qc.nil) (P5)).mono ?_
      rintro e W2 ⟨rfl,k2,d2⟩
      refine hK.out _ _ ?_
      have nb:Qc W [b2]:=Qc.cons (K5.keep CHW Qc.nil).nz Qc.nil
      have R6:=(R5.out.keep CHW Qc.nil).keep d2 nb
      have l6:=((R5.out.keep CHW Qc.nil).left d2).trans (R5.out.left CHW)
      go_roundw
      case rel=>(repeat apply Exists.intro);exact⟨⟨_,R6,k2.congr Yz,(CC.out.tz CHW).trans d2 (fun x hx=>.inl (by simp at hx ⊢;exact .inl hx))⟩,rfl⟩
      case measure=>have:=HL.out;omega
  ·refine Qo fun w5 hw5=>?_
   obtain⟨xk,hxk⟩:∃xk,w3.heap.size=xk:=⟨_,rfl⟩
   have c5:Qb [] w3 w5:=by rw [hw5];exact Qb.now
   have E6:QY w5 xk [.int .i64 g1,.int .i64 g2,.int .i64 g3,.string g4,.string g5,.string g6]:=by rw [hw5, <-hxk];exact QY.new w3 _ _
   rw [<-hs3,hxk]
   have cr5:Qb [r] wr w5:=hc3.tz c5
   have no:Qc wr [r]:=Qc.cons hR.nz Qc.nil
   have E3:=D3.kp cr5
   have K5:=hK.keep cr5 no
   have pv5:=mvr.keep cr5 no
   have sk:Qb5 ((g1,g2,g3),g4,g5,g6):=by
    obtain⟨z,e,hz⟩:=hk
    rw [Vc e];exact hz
   have hj5:=hj.keep c5 Qc.nil
   have n5:=n1 _ _ hl.1
   have JN:=Qd (fun W (c:Qb [] w5 W)=>WN i j vi v0 W (pv5.keep c Qc.nil) (hj5.keep c Qc.nil) n5)
   have R5:=Qd (hR3.keep c5 Qc.nil (by simp) (by simp))
   have CC:=Qd (hc.trans cr5 (fun x hx=>.inl (by simp at hx ⊢;exact .inr hx)))
   have HL:=Qd (show leftN w5 c1 r<leftN wr c1 r by rw [hR3.left c5 (by simp) (by simp)];exact hlt)
   have lt5:=c5.size
   have ltx:=E6.lt
   have nex:b1≠xk/\x3≠xk:=⟨by omega,by omega⟩
   clear hw5 hc3 hR3 hR hK D3 D4 o3 f3 o4 f4 mvr no pv5 hj hj5 hc hlt cr5 c5 n5 hent hxk
   refine Q5 (b:=⟨#[],[]⟩) 6 [18,19,20,21,22,23] (JR [(0,18),(1,19),(2,20),(3,21),(4,22)] [.pointer (some ⟨x3,1,none⟩),.map (some b1),.agg #[.int .i64 g1,.int .i64 g2,.int .i64 g3,.string g4,.string g5,.string g6],vi,v0] [(5,23)] [fun W u=>Zj W (i++j) u] none [] w5) (by kernel_rfl) (Xn _ _) (by kernel_rfl) (by kernel_rfl) (by kernel_rfl) (JR.zero (by decide) (by decide)) ?_ ?_
   ·refine⟨.inr ?_,.inr ?_,.inr ?_,.inr ?_,.inr ?_,.inr ?_,.inl rfl,trivial⟩
    ·rintro d v W- -p H K hK
     simp only [z1,z2,z4,z5,z6] at hK ⊢
     go_simp
     exact hK.out _ _ (H.put 0 rfl rfl)
    ·rintro d v W- -p H K hK
     have e0:=H.val 0 _ _ _ rfl rfl (Qi p 0)
     have q3:=(E3.keep H.chg).o3
     have fq:=(E3.keep H.chg).f
     simp only [z1,z2,z4,z5,z6,e0] at hK ⊢
     go_simp
     exact hK.out _ _ (H.put 1 rfl rfl)
    ·rintro d v W- -p H K hK
     have q6:=(E6.keep H.chg).o6
     have fq:=(E6.keep H.chg).f
     simp only [z1,z2,z4,z5,z6] at hK ⊢
     go_simp
     exact hK.out _ _ (H.put 2 rfl rfl)
    ·rintro d v W- -p H K hK
     simp only [z1,z2,z4,z5,z6] at hK ⊢
     go_simp
     exact hK.out _ _ (H.put 3 rfl rfl)
    ·rintro d v W- -p H K hK
     simp only [z1,z2,z4,z5,z6] at hK ⊢
     go_simp
     exact hK.out _ _ (H.put 4 rfl rfl)
    ·intro d v W hC hd p H K hK
     have e3:=H.val 3 _ _ _ rfl rfl (Qi p 3)
     have e4:=H.val 4 _ _ _ rfl rfl (Qi p 4)
     have g:=H.chg
     simp only [z1,z2,z4,z5,z6,e3,e4] at hK ⊢
     go_simp
     go_at_call 97
     refine(JN.out W g).mono ?_
     rintro e W2 ⟨u,rfl,hP,c2⟩
     dsimp only
     exact hK.out _ _ (H.n1 _ hP (.inr c2) (H.chg.tz c2))
   ·refine⟨_,rfl,fun v W H K hK=>?_⟩
    have e0:=H.val 0 _ _ _ rfl rfl (by decide)
    have e1:=H.val 1 _ _ _ rfl rfl (by decide)
    have e2:=H.val 2 _ _ _ rfl rfl (by decide)
    have e3:=H.val 3 _ _ _ rfl rfl (by decide)
    have e4:=H.val 4 _ _ _ rfl rfl (by decide)
    have P5:=H.prop 0 _ _ _ rfl rfl (by decide)
    have CHW:=H.chg
    clear H
    simp only [z1,z2,z4,z5,e0,e1,e2,e3,e4]
    go_simp
    go_at_call 161
    refine(Qad _ b1 ((g1,g2,g3),g4,g5,g6) _ _ W sk (K5.keep CHW Qc.nil) (P5)).mono ?_
    rintro e W2 ⟨rfl,k2,d2⟩
    refine hK.out _ _ ?_
    have nb:Qc W [b1]:=Qc.cons (K5.keep CHW Qc.nil).nz Qc.nil
    have R6:=(R5.out.keep CHW Qc.nil).keep d2 nb
    have l6:=((R5.out.keep CHW Qc.nil).left d2).trans (R5.out.left CHW)
    go_roundw
    case rel=>(repeat apply Exists.intro);exact⟨⟨_,R6,k2.congr Yz,(CC.out.tz CHW).trans d2 (fun x hx=>.inl (by simp at hx ⊢;exact .inl hx))⟩,rfl⟩
    case measure=>have:=HL.out;omega
mutual
def Qa.fit (AT:Int->Option Qa):Qa->Int->Prop
 | .mk op slot other word call face A B,p=>AT p=some (.mk op slot other word call face A B)/\zv AT A (p+1)/\zv AT B (p+1+Qe A)
def zv (AT:Int->Option Qa):List Qa->Int->Prop
 | [],_=>True
 |a::l,p=>a.fit AT p/\zv AT l (p+a.size)
end
theorem Qa.fit_eq (AT:Int->Option Qa) (a:Qa) (p:Int):a.fit AT p↔AT p=some a/\zv AT a.A (p+1)/\zv AT a.B (p+1+Qe a.A):=by cases a;rw [Qa.fit];exact Iff.rfl
theorem kK {AT:Int->Option Qa}:∀ {l:List Qa} {p:Int} {k:Nat} (h:k<l.length),zv AT l p->l[k].fit AT (p+Qe (l.take k))
 |a::l,p,0,_,h=>by
  rw [zv] at h
  have e:p+((Qe ((a::l).take 0):Nat):Int)=p:=by rw [List.take_zero,Qe];omega
  rw [e]
  exact h.1
 | a::l,p,k+1,hk,h=>by
  rw [zv] at h
  have h1:=kK (k:=k) (by simpa using hk) h.2
  have e:p+((Qe ((a::l).take (k+1)):Nat):Int)=p+a.size+Qe (l.take k):=by
   rw [List.take_succ_cons,Qe]
   omega
  rw [e]
  exact h1
mutual
def Qa.atP:Qa->Int->Int->Option Qa
 | .mk op slot other word call face A B,p,q=>if q=p then some (.mk op slot other word call face A B) else if q<p+1+Qe A then jO A (p+1) q else jO B (p+1+Qe A) q
def jO:List Qa->Int->Int->Option Qa
 | [],_,_=>none
 |a::l,p,q=>if q<p+a.size then a.atP p q else jO l (p+a.size) q
end
mutual
theorem Qa.fit_atP (AT:Int->Option Qa):∀(a:Qa) (p:Int),(∀q,p<=q->q<p+a.size->AT q=a.atP p q)->a.fit AT p
 | .mk op slot other word call face A B,p,h=>by
  have es:=Qa.size_eq (.mk op slot other word call face A B)
  rw [show(Qa.mk op slot other word call face A B).A=A from rfl,show(Qa.mk op slot other word call face A B).B=B from rfl] at es
  rw [Qa.fit]
  refine⟨?_,JX AT A _ (fun q h1 h2=>?_),JX AT B _ (fun q h1 h2=>?_)⟩
  ·rw [h p (by omega) (by omega),Qa.atP,if_pos rfl]
  ·rw [h q (by omega) (by omega),Qa.atP,if_neg (by omega),if_pos (by omega)]
  ·rw [h q (by omega) (by omega),Qa.atP,if_neg (by omega),if_neg (by omega)]
theorem JX (AT:Int->Option Qa):∀(l:List Qa) (p:Int),(∀q,p<=q->q<p+Qe l->AT q=jO l p q)->zv AT l p
 | [],p,_=>by rw [zv];trivial
 |a::l,p,h=>by
  have es:Qe (a::l)=a.size+Qe l:=by rw [Qe]
  rw [zv]
  have e0:=a.size_eq
  refine⟨Qa.fit_atP AT a p (fun q h1 h2=>?_),JX AT l _ (fun q h1 h2=>?_)⟩
  ·rw [h q h1 (by omega),jO,if_pos (by omega)]
  ·rw [h q (by omega) (by omega),jO,if_neg (by omega)]
end
theorem Qfz (l:List Qa):zv (jO l 0) l 0:=JX _ l 0 (fun _ _ _=>rfl)

def wu (AT:Int->Option Qa) (SB:Nat->Prop) (w:World) (bs:Nat) (T:List Nat):Prop:=
 ∃E,ZI w (KCx SB) bs E/\∀p∈E,∃(x:zL) (a:Qa) (b1 b2 b3:Nat),p.1=Kr x/\p.2= .agg #[.map (some b1),.map (some b2),.map (some b3)] /\AT x.1=some a/\Xx w b1 b2 b3 (a.ex Qy x.1) x.2.2/\∀y∈ [b1,b2,b3],y∉T/\y≠bs
theorem wu.nz {AT:Int->Option Qa} {SB:Nat->Prop} {w:World} {bs:Nat} {T:List Nat} (h:wu AT SB w bs T):∀cs fr,w.heap[bs]?≠some (.cells cs 3 fr):=by obtain⟨E,h1,_⟩:=h;exact h1.nz
theorem wu.lt {AT:Int->Option Qa} {SB:Nat->Prop} {w:World} {bs:Nat} {T:List Nat} (h:wu AT SB w bs T):bs<w.heap.size:=by obtain⟨E,h1,_⟩:=h;exact h1.lt
structure YZ (AT:Int->Option Qa) (SB:Nat->Prop) (B:Nat) (w:World) (xp bs:Nat) (T:List Nat):Prop where
 env:YE B w
 le:B<=w.heap.size
 blk:Blk SB w
 sb:∀y,SB y->y<B
 ptr:w.cell? ⟨xp,0,none⟩=some (.map (some bs))
 memo:wu AT SB w bs T
 low:B<=bs/\bs∉T/\∀y∈T,B<=y/\y<w.heap.size
 xpn:xp∉T/\xp≠bs
section
variable {AT:Int->Option Qa} {SB:Nat->Prop} {B:Nat} {w w':World} {xp bs:Nat} {T T' S:List Nat}
theorem YZ.keep (h:YZ AT SB B w xp bs T) (hc:Qb S w w') (hn:Qc w S) (hS:∀x∈S,x∈T∨w.heap.size<=x):YZ AT SB B w' xp bs T:=by
 have hB:∀x∈S,B<=x:=fun x hx=>(hS x hx).elim (fun h1=>(h.low.2.2 x h1).1) (fun h1=>Nat.le_trans h.le h1)
 have hxl:xp<w.heap.size:=Qn h.ptr
 have hbs:bs∉S:=fun hx=>(hS bs hx).elim h.low.2.1 (fun h1=>by have:=h.memo.lt;omega)
 obtain⟨E,hE,hall⟩:=h.memo
 refine⟨h.env.keep hc hB h.le,Nat.le_trans h.le hc.size,fun y hy=>?_,h.sb,?_,⟨E,hE.chg hc hbs,fun p hp=>?_⟩,⟨h.low.1,h.low.2.1,fun y hy=>⟨(h.low.2.2 y hy).1,Nat.lt_of_lt_of_le (h.low.2.2 y hy).2 hc.size⟩⟩,h.xpn⟩
 ·obtain⟨cs,e,hb⟩:=h.blk y hy
  have hy2:=h.sb y hy
  exact⟨cs,e,(hc.block y (by have:=h.le;omega) (fun hx=>by have:=hB y hx;omega)).trans hb⟩
 ·exact(hc.cell (p:=⟨xp,0,none⟩) hxl (fun hx=>(hS xp hx).elim h.xpn.1 (fun h1=>by omega))).trans h.ptr
 ·obtain⟨x,a,b1,b2,b3,e1,e2,e3,ho,hT⟩:=hall p hp
  have hlt:=ho.lt
  have no:∀y∈ [b1,b2,b3],y<w.heap.size->y∉S:=fun y hy hl hx=>(hS y hx).elim (hT y hy).1 (fun h1=>by omega)
  exact⟨x,a,b1,b2,b3,e1,e2,e3,ho.keep hc hn (no b1 (by simp) hlt.1) (no b2 (by simp) hlt.2.1) (no b3 (by simp) hlt.2.2),hT⟩
theorem YZ.keepB {x:Nat} {e:TypeId} (h:YZ AT SB B w xp bs T) (hc:Qb [x] w w') (hk:Kd w x e) (hx:B<=x/\x≠xp) (he:e≠3:=by decide):YZ AT SB B w' xp bs T:=by
 have hB:∀y∈ [x],B<=y:=fun y hy=>by rw [List.mem_singleton.1 hy];exact hx.1
 have hn:Qc w [x]:=Qc.cons (hk.nz he) Qc.nil
 obtain⟨E,hE,hall⟩:=h.memo
 have nm:∀ {b:Nat},(∃es c,w.heap[b]?=some (.map es c))->b∉ [x]:=fun {b} hb hm=>by
  obtain⟨es,c,h1⟩:=hb
  obtain⟨cs,fr,h2⟩:=hk
  rw [List.mem_singleton.1 hm,h2] at h1
  cases h1
 have mp:∀ {κ:Type} {KC:Value->Prop} {enc:κ->Value} {b:Nat} {X:κ->List Int->Prop},Qz w KC enc b X->∃es c,w.heap[b]?=some (.map es c):=fun h=>by
  obtain⟨E,⟨es,c,h1,_⟩,_⟩:=h
  exact⟨es,c,h1⟩
 have hb:bs∉ [x]:=nm (by obtain⟨es,c,h1,_⟩:=hE;exact⟨es,c,h1⟩)
 refine⟨h.env.keep hc hB h.le,Nat.le_trans h.le hc.size,fun y hy=>?_,h.sb,?_,⟨E,hE.chg hc hb,fun p hp=>?_⟩,⟨h.low.1,h.low.2.1,fun y hy=>⟨(h.low.2.2 y hy).1,Nat.lt_of_lt_of_le (h.low.2.2 y hy).2 hc.size⟩⟩,h.xpn⟩
 ·obtain⟨cs,e,hb⟩:=h.blk y hy
  have hy2:=h.sb y hy
  exact⟨cs,e,(hc.block y (by have:=h.le;omega) (fun hx=>by have:=hB y hx;omega)).trans hb⟩
 ·exact(hc.cell (p:=⟨xp,0,none⟩) (Qn h.ptr) (by simpa using hx.2.symm)).trans h.ptr
 ·obtain⟨x,a,b1,b2,b3,e1,e2,e3,ho,hT⟩:=hall p hp
  exact⟨x,a,b1,b2,b3,e1,e2,e3,ho.keep hc hn (nm (mp ho.ok)) (nm (mp ho.fl)) (nm (mp ho.em)),hT⟩
theorem Xx.keepB {b1 b2 b3 x:Nat} {X:ys} {s:B3} {e:TypeId} (h:Xx w b1 b2 b3 X s) (hc:Qb [x] w w') (hk:Kd w x e) (he:e≠3:=by decide):Xx w' b1 b2 b3 X s:=by
 have nm:∀ {κ:Type} {KC:Value->Prop} {enc:κ->Value} {b:Nat} {X:κ->List Int->Prop},Qz w KC enc b X->b∉ [x]:=fun h hm=>by
  obtain⟨E,⟨es,c,h1,_⟩,_⟩:=h
  obtain⟨cs,fr,h2⟩:=hk
  rw [List.mem_singleton.1 hm,h2] at h1
  cases h1
 exact h.keep hc (Qc.cons (hk.nz he) Qc.nil) (nm h.ok) (nm h.fl) (nm h.em)
theorem YZ.kz (h:YZ AT SB B w xp bs T) (hc:Qb [] w w'):YZ AT SB B w' xp bs T:=h.keep hc Qc.nil (by simp)
theorem YZ.more (h:YZ AT SB B w xp bs T) (hc:Qb [] w w') (hT:∀y∈T',y∈T∨(w.heap.size<=y/\y<w'.heap.size)):YZ AT SB B w' xp bs T':=by
 have h':=h.kz hc
 have hxl:xp<w.heap.size:=Qn h.ptr
 obtain⟨E,hE,hall⟩:=h.memo
 refine⟨h'.env,h'.le,h'.blk,h'.sb,h'.ptr,⟨E,hE.chg hc (by simp),fun p hp=>?_⟩,⟨h.low.1,fun hb=>(hT bs hb).elim h.low.2.1 (fun h1=>by have:=h.memo.lt;omega),fun y hy=>?_⟩,⟨fun hb=>(hT xp hb).elim h.xpn.1 (fun h1=>by omega),h.xpn.2⟩⟩
 ·obtain⟨x,a,b1,b2,b3,e1,e2,e3,ho,hT2⟩:=hall p hp
  have hlt:=ho.lt
  have hlt3:∀y∈ [b1,b2,b3],y<w.heap.size:=fun y hy=>by
   simp only [List.mem_cons,List.not_mem_nil,or_false] at hy
   rcases hy with rfl|rfl|rfl
   ·exact hlt.1
   ·exact hlt.2.1
   ·exact hlt.2.2
  exact⟨x,a,b1,b2,b3,e1,e2,e3,ho.keep hc Qc.nil (by simp) (by simp) (by simp),fun y hy=>⟨fun hb=>(hT y hb).elim (hT2 y hy).1 (fun h1=>by have:=hlt3 y hy;omega),(hT2 y hy).2⟩⟩
 ·rcases hT y hy with h1|h1
  ·exact⟨(h.low.2.2 y h1).1,Nat.lt_of_lt_of_le (h.low.2.2 y h1).2 hc.size⟩
  ·exact⟨Nat.le_trans h.le h1.1,h1.2⟩
theorem YZ.less (h:YZ AT SB B w xp bs T) (hT:∀y∈T',y∈T):YZ AT SB B w xp bs T':=by
 obtain⟨E,hE,hall⟩:=h.memo
 exact⟨h.env,h.le,h.blk,h.sb,h.ptr,⟨E,hE,fun p hp=>by
  obtain⟨x,a,b1,b2,b3,e1,e2,e3,ho,hT2⟩:=hall p hp
  exact⟨x,a,b1,b2,b3,e1,e2,e3,ho,fun y hy=>⟨fun hb=>(hT2 y hy).1 (hT y hb),(hT2 y hy).2⟩⟩⟩,⟨h.low.1,fun hb=>h.low.2.1 (hT _ hb),fun y hy=>h.low.2.2 y (hT y hy)⟩,⟨fun hb=>h.xpn.1 (hT _ hb),h.xpn.2⟩⟩
theorem YZ.nz (h:YZ AT SB B w xp bs T):Qc w [bs]:=Qc.cons h.memo.nz Qc.nil
end
def QgE (AT:Int->Option Qa) (SB:Nat->Prop) (B:Nat) (X:ys) (s:B3) (xp bs:Nat) (T:List Nat) (w:World) (e:Ending) (w':World):Prop:=
 ∃b1 b2 b3,e= .returned (.agg #[.map (some b1),.map (some b2),.map (some b3)])/\Xx w' b1 b2 b3 X s/\(∀y∈ [b1,b2,b3],y∉T/\y≠bs)/\YZ AT SB B w' xp bs T/\Qb [bs] w w'
def Ww (SB:Nat->Prop) (w:World) (m:List Qa) (ul:Value):Prop:=∃S,Ye w (QH m) ul S/\∀y∈S,SB y
def Qaj (SB:Nat->Prop) (w:World) (b off:Nat) (a:Qa):Prop:=∃uA uB,SB b/\b<w.heap.size/\
 (w.cell? ⟨b,off,none⟩=some (.int .i64 a.op)/\w.cell? ⟨b,off+1,none⟩=some (.int .i64 a.slot)/\w.cell? ⟨b,off+2,none⟩=some (.int .i64 a.other)/\w.cell? ⟨b,off+3,none⟩=some (.string a.word)/\w.cell? ⟨b,off+4,none⟩=some (.string a.call.method)/\w.cell? ⟨b,off+5,none⟩=some (.string a.call.key)/\
  w.cell? ⟨b,off+6,none⟩=some (.int .i64 a.call.value)/\w.cell? ⟨b,off+7,none⟩=some (.string a.call.text)/\w.cell? ⟨b,off+8,none⟩=some (.int .i64 a.face)/\w.cell? ⟨b,off+9,none⟩=some uA/\w.cell? ⟨b,off+10,none⟩=some uB)/\Ww SB w a.A uA/\Ww SB w a.B uB
section
variable {SB:Nat->Prop} {w w':World} {m:List Qa} {ul:Value} {S:List Nat} {B b off:Nat} {a:Qa}
theorem Ww.keep (h:Ww SB w m ul) (hc:Qb S w w') (hsb:∀y,SB y->y<B) (hS:∀x∈S,B<=x):Ww SB w' m ul:=by
 obtain⟨R,h1,h2⟩:=h
 exact⟨R,Ye.keep hc _ _ _ (fun x hx hy=>by have:=hsb x (h2 x hx);have:=hS x hy;omega) h1,h2⟩
theorem Ww.rd (h:Ww SB w m ul):Rd w w.heap.size (QH m) ul:=by obtain⟨R,h1,_⟩:=h;exact Ye.rd _ _ _ h1
theorem Qaj.keep (h:Qaj SB w b off a) (hc:Qb S w w') (hsb:∀y,SB y->y<B) (hS:∀x∈S,B<=x):Qaj SB w' b off a:=by
 obtain⟨uA,uB,hb,hl,hcs,hA,hB⟩:=h
 have hn:b∉S:=fun hx=>by have:=hsb b hb;have:=hS b hx;omega
 have e:=fun o=>hc.cell (p:=⟨b,o,none⟩) hl hn
 refine⟨uA,uB,hb,Nat.lt_of_lt_of_le hl hc.size,?_,hA.keep hc hsb hS,hB.keep hc hsb hS⟩
 simpa only [e] using hcs
theorem Ww.act (h:Ww SB w m ul) (k:Nat) (hk:k<m.length):∃g cap,ul= .slice (some ⟨g,0,none⟩) m.length cap/\cap<=maxLen/\m.length<=cap/\Qaj SB w g (k * 11) m[k]:=by
 have hrd:=h.rd
 obtain⟨R,h1,h2⟩:=h
 unfold QH at h1
 rw [Ye] at h1
 rcases h1 with ⟨_,h0,_⟩|⟨g,cap,cur,e,us,S',rfl,h3,h4,hg,hus,hul,hown,rfl⟩
 ·omega
 ·obtain⟨A,cap',e1,_,_,hrow⟩:=Qw hrd
  obtain⟨rfl,rfl⟩:some (⟨g,0,none⟩:Addr)=A/\cap=cap':=by injection e1 with e1 _ e2;exact⟨e1,e2⟩
  obtain⟨b,off,u9,u10,e2,hb,cs⟩:=Yc hrow k hk
  obtain⟨rfl,rfl⟩:g=b/\0=off:=by injection e2 with e2;injection e2 with e2 e3;exact⟨e2,e3⟩
  simp only [Nat.zero_add] at cs
  have part:∀j (d:QK),(Xk m[k])[j]?=some d->j<11->∃u Sj,w.cell? ⟨g,k * 11+j,none⟩=some u/\Ye w d u Sj/\∀y∈Sj,SB y:=fun j d hd hj=>by
   have h5:=WM WS m k j hk hj
   rw [hd] at h5
   obtain⟨u,Sa,Sj,Sb,g1,rfl,g2,_⟩:=Qt.split hown h5
   refine⟨u,Sj,?_,g2,fun y hy=>h2 y (by simp [hy])⟩
   rw [cell_of_row w g (k * 11+j) cur e (0,0) hg, <-Array.getElem?_toList]
   rw [<-hus,List.getElem?_take] at g1
   split at g1
   ·exact g1
   ·cases g1
  have hF:=Ul m[k]
  obtain⟨v9,S9,f1,f2,f3⟩:=part 9 (QH m[k].A) (by rw [hF];rfl) (by omega)
  obtain⟨v10,S10,f4,f5,f6⟩:=part 10 (QH m[k].B) (by rw [hF];rfl) (by omega)
  exact⟨g,cap,rfl,h4,h3,v9,v10,h2 g (by simp),(Array.getElem?_eq_some_iff.1 hg).1,⟨cs.1,cs.2.1,cs.2.2.1,cs.2.2.2.1,cs.2.2.2.2.1,cs.2.2.2.2.2.1,cs.2.2.2.2.2.2.1,cs.2.2.2.2.2.2.2.1,cs.2.2.2.2.2.2.2.2.1,f1,f4⟩,⟨S9,f2,f3⟩,⟨S10,f5,f6⟩⟩
theorem Ww.sl (h:Ww SB w m ul):∃A cap,ul= .slice A m.length cap/\m.length<=cap/\cap<=maxLen:=by
 obtain⟨A,cap,e,h1,h2,_⟩:=Qw h.rd
 exact⟨A,cap,e,h1,h2⟩
end
def Qex (AT:Int->Option Qa) (SB:Nat->Prop) (B xp bs:Nat) (a:Qa):Prop:=∀(place:Int) (b off:Nat) (s:B3) (T:List Nat) (W:World),YZ AT SB B W xp bs T->Qaj SB W b off a->a.fit AT place->a.ok->0<=place->place+a.size<=1000->a.cost<=400000->XO a<=1048575->(Vr s).All WF->
 Calls Tryz.prog 160 #[.pointer (some ⟨xp,0,none⟩),.pointer (some ⟨b,off,none⟩),.int .i64 place,QX s] W (QgE AT SB B (a.ex Qy place) s xp bs T W)
def vU (AT:Int->Option Qa) (SB:Nat->Prop) (B xp bs:Nat) (m:List Qa):Prop:=∀(place:Int) (ul:Value) (s:B3) (T:List Nat) (W:World),YZ AT SB B W xp bs T->Ww SB W m ul->zv AT m place->Kp m->0<=place->place+Qe m<=1000->Q1 m<=400000->Ql m<=1048576->(Vr s).All WF->
 Calls Tryz.prog 65 #[.pointer (some ⟨xp,0,none⟩),ul,.int .i64 place,QX s] W (QgE AT SB B (Vu Qy m place) s xp bs T W)
theorem VH {s:ByteArray} (h:WF s):s.size<=200:=by
 have h1:=Qet h
 have h2:∀l∈QhB,l.length<=200:=by decide+kernel
 have:=h2 _ h1
 simpa using this
theorem QbT {s:B3} (h:(Vr s).All WF):VU (QX s):=by
 have hm:200<=maxLen:=by unfold maxLen;omega
 exact⟨s,rfl,Nat.le_trans (VH h.1) hm,Nat.le_trans (VH h.2.1) hm,Nat.le_trans (VH h.2.2) hm⟩
theorem Kg (w:World) (n:Int):Zj (w.alloc (.cells #[.int .i64 n] 3)) [n] (.slice (some ⟨w.heap.size,0,none⟩) 1 1):=by
 refine⟨some ⟨w.heap.size,0,none⟩,1,rfl,Nat.le_refl _,by unfold maxLen;omega,.inr ⟨w.heap.size,0, #[.int .i64 n],(0,0),rfl,heap_alloc_new w _,fun j hj=>?_⟩⟩
 have h0:j=0:=by simp at hj;exact hj
 subst h0
 rw [cell_of_row _ _ _ _ _ _ (heap_alloc_new w _)]
 rfl
theorem QeV {P Q R:Prop} (h:R↔P):((((0:Int)<0/\P)∨((1:Int)<0/\Q))∨R)↔(((0:Int)<1/\P)∨((1:Int)<1/\Q)):=by simp [h]
theorem Qgc {P Q R:Prop} (h:R↔Q):((((0:Int)<1/\P)∨((1:Int)<1/\Q))∨R)↔(((0:Int)<2/\P)∨((1:Int)<2/\Q)):=by simp [h]
theorem QfN {P Q:Prop}:(((0:Int)<2/\P)∨((1:Int)<2/\Q))↔(Q∨P):=by simp [or_comm]
def Qgz (w:World) (b1 b2 b3:Nat) (w':World):Prop:=(w.heap.size<=b1/\b1<b2/\b2<b3/\b3<w'.heap.size)/\Qb [] w w'/\
 (∀X,(∀k i,¬X k i)->Qz w' VU QX b1 X)/\(∀X,(∀k i,¬X k i)->Qz w' ql YD b2 X)/\(∀X,(∀k i,¬X k i)->Qz w' qK YQ b3 X)
theorem Qz.madeAt {κ:Type} {X:κ->List Int->Prop} (w:World) (KC:Value->Prop) (enc:κ->Value) {b:Nat} (h:∀k i,¬X k i) (hb:b=w.heap.size:=by simp):Qz (w.alloc (.map #[] 0)) KC enc b X:=by
 rw [hb];exact Qz.made w KC enc h
theorem Qz.far {κ:Type} {X:κ->List Int->Prop} {w w':World} {KC:Value->Prop} {enc:κ->Value} {b:Nat} (h:Qz w KC enc b X) (hc:Qb [] w w':=by exact Qb.now):Qz w' KC enc b X:=h.keep hc Qc.nil (by simp)
theorem Qz.single {κ:Type} {w:World} {KC:Value->Prop} {enc:κ->Value} {b:Nat} {E':List (Value×Value)} {k0:κ} {i0:List Int} {vi:Value} (h:ZI w KC b E') (hm:∀p,p∈E'↔(p∈([]:List (Value×Value))/\p.1≠enc k0)∨p=(enc k0,vi)) (hv:Zj w i0 vi):Qz w KC enc b (fun k i=>k=k0/\i=i0):=
 ⟨E',h,fun p hp=>by
  rcases(hm p).1 hp with ⟨h1,_⟩|rfl
  ·cases h1
  ·exact⟨k0,i0,rfl,hv,⟨rfl,rfl⟩,fun j hj=>by rw [hj.2,WZ];omega⟩,fun k i hi=>⟨(enc k0,vi),(hm _).2 (.inr rfl),by rw [hi.1]⟩⟩
theorem Qz.empty {κ:Type} {w:World} {KC:Value->Prop} {enc:κ->Value} {b:Nat} (h:Qz w KC enc b (fun _ _=>False)):∃E,ZI w KC b E/\∀p,p∉E:=by
 obtain⟨E,h1,h2,_⟩:=h
 exact⟨E,h1,fun p hp=>by
  obtain⟨_,_,_,_,hl⟩:=h2 p hp
  exact hl.1⟩
theorem Qz.stored1 {κ:Type} {w:World} {KC:Value->Prop} {enc:κ->Value} {b:Nat} {E E':List (Value×Value)} {k0:κ} {i0:List Int} {vi:Value} (hn:∀p,p∉E) (h:ZI w KC b E') (hm:∀p,p∈E'↔(p∈E/\p.1≠enc k0)∨p=(enc k0,vi)) (hv:Zj w i0 vi):Qz w KC enc b (fun k i=>k=k0/\i=i0):=
 Qz.single h (fun p=>(hm p).trans ⟨fun h=>h.imp_left fun h1=>absurd h1.1 (hn p),fun h=>h.imp_left fun h1=>(by cases h1.1)⟩) hv
theorem Um (P:Program) (t:TypeId) (W:World):(Instr.makeMap t none).run P W= .ok (.map (some W.heap.size)) (W.alloc (.map #[] 0)):=by
 simp [Instr.makeMap,newObj]
 rfl
theorem xV {P:Program} {w:World} {ops:Array Oper} {rest:List Oper} {o:Oper} {a:Act} {Q:Exit->Act->World->Prop} {KC:Value->Prop} {G:World->Prop} {k e:TypeId} {b:Nat} {E:List (Value×Value)} (hg:o.guard=none) (m x v:Operand) (t:TypeId) (hop:o.op=Op.insert t m x v) (K:GM P k KC G) (hG:G w) (ht:P.underlying t=some (.map k e))
  (hm:a.eval m= .map (some b)) (h:ZI w KC b E) {key val:Value} (hx:a.eval x=key) (hv:a.eval v=val) (hk:KC key)
  (hK:∀w' E',ZI w' KC b E'->Qb [b] w w'->w'.heap.size=w.heap.size->(∀p,p∈E'↔(p∈E/\p.1≠key)∨p=(key,val))->wpList P ops Q rest (a.put o.dst undef) w'):
  wpList P ops Q (o::rest) a w:=by
 refine wpList_plain hg fun K' hK'=>?_
 unfold Oper.wp
 obtain⟨w',E',hrun,h1,h2,h3,h4⟩:=h.store (val:=val) K hG ht hk
 simp [execOp,hop,hm,hx,hv,hrun,Result.andThen]
 exact hK' _ _ (hK w' E' h1 h2 h3 h4)
theorem Y0 (w:World):Calls Tryz.prog 94 #[] w fun e w'=>∃b1 b2 b3,e= .returned (.agg #[.map (some b1),.map (some b2),.map (some b3)])/\Qgz w b1 b2 b3 w':=by
 go_enter Tryz.func94,Tryz.ntmps94
 have hm:=Um Tryz.prog
 go_wp2_with fail
 refine bodyPost_ret (v:=.agg #[.map (some (w.heap.size+1)),.map (some (w.heap.size+1+1)),.map (some (w.heap.size+1+1+1))]) (by simp only [results,Tryz.results94];go_simp) rfl ?_
 refine⟨_,_,_,rfl,⟨by omega,by omega,by omega,by simp⟩,Qb.now,fun X hX=>?_,fun X hX=>?_,fun X hX=>?_⟩
 ·exact(Qz.madeAt (w.alloc _) VU QX hX).far
 ·exact(Qz.madeAt ((w.alloc _).alloc _) ql YD hX).far
 ·exact(Qz.madeAt (((w.alloc _).alloc _).alloc _) qK YQ hX).far
theorem Qhd {p:Qh} (h:Qp p):xo p<=200:=by
 obtain⟨⟨f,hf,hc,_⟩,hl,hL⟩:=h
 have h1:p.core.kind.size<=16:=by
  have hm:=UG hf
  rw [WX] at hm
  have hall:∀q∈kinds,q.1.length<=16:=by decide
  have:=hall _ hm
  rw [<-Zr];exact this
 have h2:QdA p.core.cells<=p.core.cells.length * 8:=by
  have hk:=((UJ _).1 hc).2.1
  have:∀l:List QD,(∀c∈l,c.key.size<=8)->(l.map QfK).sum<=l.length * 8:=by
   intro l
   induction l with
   |nil=>intro _;simp
   |cons a l ih=>intro h;simp only [List.map_cons,List.sum_cons,List.length_cons];have:=ih (fun c hc=>h c (List.mem_cons_of_mem _ hc));have:=h a List.mem_cons_self;unfold QfK at *;omega
  exact this _ (fun c hc=>(hk c hc).1.2.1)
 have h3:xE p.layers<=p.layers.length * 16:=by
  have hk:∀x∈p.layers,x.name.size<=16:=by
   intro x hx
   obtain⟨i,hi,rfl⟩:=List.getElem_of_mem hx
   obtain⟨y,hy,_⟩:=hL i hi
   have hm:=UG hy
   rw [WX] at hm
   have hall:∀q∈Yh,q.1.length<=16:=by decide
   have:=hall _ hm
   rw [<-Zr];exact this
  have:∀l:List ZW,(∀c∈l,c.name.size<=16)->(l.map kF).sum<=l.length * 16:=by
   intro l
   induction l with
   |nil=>intro _;simp
   |cons a l ih=>intro h;simp only [List.map_cons,List.sum_cons,List.length_cons];have:=ih (fun c hc=>h c (List.mem_cons_of_mem _ hc));have:=h a List.mem_cons_self;unfold kF at *;omega
  exact this _ hk
 have h4:=hc.1
 unfold xo Qfw Qfl yK
 omega
theorem QgD {l:List Qm} (h:QN l):zr l<=1048576:=by
 obtain⟨a,b,c,rfl⟩:∃a b c,l=[a,b,c]:=by
  match l,h.1 with
  | [a,b,c],_=>exact⟨a,b,c,rfl⟩
 have hs:∀x,Wb x->Qap x<=200:=fun x hx=>by
  unfold Qap
  cases hf:x.full with
  |true=>exact Qhd (hx.1 hf)
  |false=>rw [hx.2 hf];decide
 have h1:=hs a (h.2 0 (by simp))
 have h2:=hs b (h.2 1 (by simp))
 have h3:=hs c (h.2 2 (by simp))
 unfold zr yV
 simp only [List.map_cons,List.map_nil,List.sum_cons,List.sum_nil,List.length_cons,List.length_nil]
 omega
theorem Qbt (m:ByteArray):YA (ZQ m):=by
 unfold ZQ
 cases h:Zk m with
 |none=>exact⟨by simp,by simp⟩
 |some k=>
  have hm:=UG h
  have hall:∀q∈ji,0<=q.2/\q.2<=5:=by decide
  have h5:=hall _ hm
  obtain⟨n,rfl⟩:∃n:Nat,k=n:=⟨k.toNat,by simp only at h5;omega⟩
  have hn:n<=5:=by simp only at h5;omega
  simp only [Int.toNat_natCast]
  rcases(show n=0∨n=1∨n=2∨n=3∨n=4∨n=5 by omega) with rfl|rfl|rfl|rfl|rfl|rfl<;>exact⟨by decide,by decide⟩
theorem qX {f:Int} (h:zV f):YA f:=⟨by have:=h.1;omega,by have:=h.2;omega⟩
theorem uJ {o:Option (Int×Int)} (h:∀x,o=some x->zV x.1/\zV x.2):zV (o.getD (0,0)).1/\zV (o.getD (0,0)).2:=by
 cases o with
 |none=>exact⟨⟨by simp,by simp⟩,⟨by simp,by simp⟩⟩
 |some x=>exact h x rfl
theorem Qfn (p:Qh) (k:Nat):zV (Qs p k):=by
 unfold Qs
 split
 ·cases h:Qq p.core.kind with
  |none=>exact⟨by simp,by simp⟩
  |some f=>exact UE h
 ·refine(uJ (fun x hx=>?_)).2
  cases h:p.layers[k-1]? with
  |none=>rw [h] at hx;cases hx
  |some y=>rw [h] at hx;exact qd hx
theorem Qba {a:Qa} (ha:ZG a):YA (Kj a):=by
 unfold Kj
 split
 ·rename_i h
  exact qX ((kR h).1 ha).2.1
 ·split
  ·exact Qbt _
  ·exact qX (uJ (fun x hx=>qd hx)).1
theorem QaY {s:ByteArray} (h:WF s) (hz:s.size≠0):YA (zF s):=by
 obtain⟨p,_,_,_,e⟩:=VG hz h
 rw [Qas hz h e]
 exact qX (Qfn _ _)
theorem Qc1 {a:Qa} (ha:ZG a) (p:Int) (hp:0<=p/\p<=1000) (s:YM ByteArray) (hs:s.All WF) (hne:(YL a p s).2≠QO):(YL a p s).1=s/\((YL a p s).2.code=2∨(YL a p s).2.code=1)/\YA (YL a p s).2.place/\YA (YL a p s).2.want/\YA (YL a p s).2.had:=by
 have hsp:YA p:=⟨by omega,by omega⟩
 have h0:YA 0:=⟨by omega,by omega⟩
 obtain⟨h1,h2|h2⟩:=Qan a p s hne
 ·rw [h2]
  exact⟨h1,.inl rfl,hsp,h0,h0⟩
 ·have hz:(s.get a.slot).size≠0:=fun hz=>by
   unfold YL at h2
   by_cases g1:a.op=1
   ·rw [if_pos g1] at h2;cases h2
   ·rw [if_neg g1] at h2
    by_cases g5:a.op=5
    ·rw [if_pos g5] at h2;cases h2
    ·rw [if_neg g5] at h2
     by_cases g4:a.op=4
     ·rw [if_pos g4] at h2;cases h2
     ·rw [if_neg g4,if_pos hz] at h2
      cases h2
  rw [h2]
  exact⟨h1,.inr rfl,hsp,Qba ha,QaY (hs.get a.slot) hz⟩
theorem XH.eta (e:XH) {c:Int} (h:e.code=c):e=⟨c,e.place,e.want,e.had⟩:=by cases e;simp only at h;simp [h]
section
variable {a:Qa} {p:Int} {s t:B3} {e:XH} (h:YL a p (Vr s)=(Vr t,e))
include h
theorem Qd5 (he:e=QO):(∀k i,Yj (Qy a p) s k i↔k=t/\i=[])/\(∀k i,¬Wz (Qy a p) s k i)/\∀k i,¬Vf (Qy a p) s k i:=by
 subst he
 refine⟨fun k i=>⟨fun hk=>?_,fun hk=>?_⟩,fun k i hk=>?_,fun k i hk=>?_⟩
 ·obtain⟨h1,h2⟩:=(show i=[] /\YL a p (Vr s)=(Vr k,QO) from hk)
  rw [h] at h2
  exact⟨(yS (Prod.mk.inj h2).1).symm,h1⟩
 ·exact⟨hk.2,by rw [hk.1];exact h⟩
 ·obtain⟨_,h2,h3⟩:=(show i=[] /\YL a p (Vr s)=_/\_≠QO from hk)
  rw [h] at h2
  exact h3 (Prod.mk.inj h2).2.symm
 ·obtain⟨t',e',hb,_⟩:=hk
  obtain⟨_,h2,h3⟩:=(show i=[] /\YL a p (Vr s)=_/\_≠QO from hb)
  rw [h] at h2
  exact h3 (Prod.mk.inj h2).2.symm
theorem QdP (he:e.code=1):(∀k i,¬Yj (Qy a p) s k i)/\(∀k i,Wz (Qy a p) s k i↔k=((e.place,e.want,e.had),t)/\i=[])/\∀k i,¬Vf (Qy a p) s k i:=by
 have hne:e≠QO:=fun h1=>by rw [h1] at he;cases he
 refine⟨fun k i hk=>?_,fun k i=>⟨fun hk=>?_,fun hk=>?_⟩,fun k i hk=>?_⟩
 ·obtain⟨_,h2⟩:=(show i=[] /\YL a p (Vr s)=(Vr k,QO) from hk)
  rw [h] at h2
  exact hne (Prod.mk.inj h2).2
 ·obtain⟨h1,h2,h3⟩:=(show i=[] /\YL a p (Vr s)=(Vr k.2,(⟨1,k.1.1,k.1.2.1,k.1.2.2⟩:XH))/\_≠QO from hk)
  rw [h] at h2
  obtain⟨g1,g2⟩:=Prod.mk.inj h2
  rw [g2]
  exact⟨Prod.ext rfl (yS g1).symm,h1⟩
 ·rw [hk.1]
  exact⟨hk.2,by rw [h, <-XH.eta e he],by rw [<-XH.eta e he];exact hne⟩
 ·obtain⟨t',e',hb,hc,_⟩:=hk
  obtain⟨_,h2,h3⟩:=(show i=[] /\YL a p (Vr s)=_/\_≠QO from hb)
  rw [h] at h2
  rw [<- (Prod.mk.inj h2).2] at hc
  exact hc he
theorem Qd4 (he:e.code≠1) (hne:e≠QO):(∀k i,¬Yj (Qy a p) s k i)/\(∀k i,¬Wz (Qy a p) s k i)/\∀k i,Vf (Qy a p) s k i↔k=e.place/\i=[]:=by
 refine⟨fun k i hk=>?_,fun k i hk=>?_,fun k i=>⟨fun hk=>?_,fun hk=>?_⟩⟩
 ·obtain⟨_,h2⟩:=(show i=[] /\YL a p (Vr s)=(Vr k,QO) from hk)
  rw [h] at h2
  exact hne (Prod.mk.inj h2).2
 ·obtain⟨h1,h2,h3⟩:=(show i=[] /\YL a p (Vr s)=(Vr k.2,(⟨1,k.1.1,k.1.2.1,k.1.2.2⟩:XH))/\_≠QO from hk)
  rw [h] at h2
  exact he (by rw [(Prod.mk.inj h2).2])
 ·obtain⟨t',e',hb,hc,hp⟩:=hk
  obtain⟨h1,h2,h3⟩:=(show i=[] /\YL a p (Vr s)=_/\_≠QO from hb)
  rw [h] at h2
  rw [<- (Prod.mk.inj h2).2] at hp
  exact⟨hp.symm,h1⟩
 ·exact⟨Vr t,e,⟨hk.2,h,hne⟩,he,hk.1.symm⟩
end
section
variable {w:World} {X Y:ys} {s:B3} {b:Nat} {D:B3->List Int->Prop}
theorem Qey {P:Yl->List Int->Prop} (h:Qz w ql YD b (fun k i=>P k i∨(Wz X s k i∨Ut D (fun u=>Wz Y u) k i))) (hD:∀k i,D k i↔XF (Yj X s k) i) (dX:XM X):Qz w ql YD b (fun k i=>P k i∨Wz (X.seq Y) s k i):=by
 obtain rfl:D=fun k i=>XF (Yj X s k) i:=funext fun k=>funext fun i=>propext (hD k i)
 exact(Qz.fronts (X:=fun k i=>P k i∨Wz X s k i) (F:=Yj X s) (R:=fun u=>Wz Y u) (h.congr (fun k i=>or_assoc.symm)) (fun k=>WJ dX s k)).congr (fun k i=>or_assoc.trans (or_congr Iff.rfl (QdC k i)))
theorem Qed {P:Int->List Int->Prop} (h:Qz w qK YQ b (fun k i=>P k i∨(Vf X s k i∨Ut D (fun u=>Vf Y u) k i))) (hD:∀k i,D k i↔XF (Yj X s k) i) (dX:XM X):Qz w qK YQ b (fun k i=>P k i∨Vf (X.seq Y) s k i):=by
 obtain rfl:D=fun k i=>XF (Yj X s k) i:=funext fun k=>funext fun i=>propext (hD k i)
 exact(Qz.fronts (X:=fun k i=>P k i∨Vf X s k i) (F:=Yj X s) (R:=fun u=>Vf Y u) (h.congr (fun k i=>or_assoc.symm)) (fun k=>WJ dX s k)).congr (fun k i=>or_assoc.trans (or_congr Iff.rfl (Qdz k i)))
theorem Qdq {P Q R R' S:Prop} (h:(R∨S)↔R'):((P∨(Q∨R))∨S)↔(P∨(Q∨R')):=by
 rw [<-h];simp only [or_assoc]
end
theorem QfQ (X Y:ys) (n:Int):(X.took n).seq Y=(X.seq Y).took n:=by
 refine Rn.ext' (fun s i t=>?_) (fun s i t e=>?_)
 ·obtain⟨s,rfl⟩:=VP s
  obtain⟨t,rfl⟩:=VP t
  exact Qay (s:=s) n t i
 ·obtain⟨s,rfl⟩:=VP s
  exact jU (s:=s) n t e i
theorem QhT {X:ys} {n:Nat} {E:YM ByteArray->XH->Prop} (h:Yo X n E) (q r:Nat) (hq:q<=3):Yo ((X.pow q).took r) (3 * n+1) E:=((h.pow q).took r).mono (by have:=Nat.mul_le_mul_right n hq;omega) (fun _ _ h=>h)
theorem qP {g1 g2 g3:ByteArray} (h:VU (.agg #[.string g1,.string g2,.string g3])):g1.size<=maxLen/\g2.size<=maxLen/\g3.size<=maxLen:=by
 obtain⟨z,e,hz⟩:=h
 obtain rfl:=Xe (show QX (g1,g2,g3)=QX z from e)
 exact hz
theorem GO {κ:Type} {f:Nat->κ->List Int->Prop} (n:Nat) (k:κ) (l:List Int):((∃r:Nat,r<n/\f r k l)∨f n k l)↔ ∃r:Nat,r<n+1/\f r k l:=by
 constructor
 ·rintro(⟨r,h,h1⟩|h)
  ·exact⟨r,by omega,h1⟩
  ·exact⟨n,by omega,h⟩
 ·rintro⟨r,h,h1⟩
  rcases(show r<n∨r=n by omega) with h2|rfl
  ·exact .inl ⟨r,h2,h1⟩
  ·exact .inr h1
theorem Qhe {g:Int} (h:qK (.int .i64 g)):YA g:=by
 obtain⟨z,e,hz⟩:=h
 rw [VV (show YQ g=YQ z from e)];exact hz
section
variable {X Y:ys} {s:B3}
theorem Qf3 (k:B3) (i:List Int):(Yj X s k i∨Ut (Wz X s) (fun f=>Yj Y f.2) k i)↔Yj (X.tried Y) s k i:=by
 constructor
 ·rintro(h|⟨f,a,b,h1,h2,rfl⟩)
  ·exact .inl h
  ·exact .inr ⟨a,b,Vr f.2,_,rfl,h1,rfl,h2⟩
 ·rintro(h|⟨a,b,u,e,rfl,h1,hc,h2⟩)
  ·exact .inl h
  ·obtain⟨u,rfl⟩:=VP u
   exact .inr ⟨((e.place,e.want,e.had),u),a,b,by unfold Wz;rw [<-XH.eta e hc];exact h1,h2,rfl⟩
theorem Qe6 (k:Yl) (i:List Int):Ut (Wz X s) (fun f=>Wz Y f.2) k i↔Wz (X.tried Y) s k i:=by
 constructor
 ·rintro⟨f,a,b,h1,h2,rfl⟩
  exact .inr ⟨a,b,Vr f.2,_,rfl,h1,rfl,h2⟩
 ·rintro(⟨_,h⟩|⟨a,b,u,e,rfl,h1,hc,h2⟩)
  ·exact absurd rfl h
  ·obtain⟨u,rfl⟩:=VP u
   exact⟨((e.place,e.want,e.had),u),a,b,by unfold Wz;rw [<-XH.eta e hc];exact h1,h2,rfl⟩
theorem Qfd (k:Int) (i:List Int):(Vf X s k i∨Ut (Wz X s) (fun f=>Vf Y f.2) k i)↔Vf (X.tried Y) s k i:=by
 constructor
 ·rintro(⟨t,e,h,hc,hp⟩|⟨f,a,b,h1,⟨t,e,h2,hc,hp⟩,rfl⟩)
  ·exact⟨t,e,.inl ⟨h,hc⟩,hc,hp⟩
  ·exact⟨t,e,.inr ⟨a,b,Vr f.2,_,rfl,h1,rfl,h2⟩,hc,hp⟩
 ·rintro⟨t,e,⟨h,_⟩|⟨a,b,u,e',rfl,h1,hc',h2⟩,hc,hp⟩
  ·exact .inl ⟨t,e,h,hc,hp⟩
  ·obtain⟨u,rfl⟩:=VP u
   exact .inr ⟨((e'.place,e'.want,e'.had),u),a,b,by unfold Wz;rw [<-XH.eta e' hc'];exact h1,⟨t,e,h2,hc,hp⟩,rfl⟩
end
section
variable {σ κ:Type} {w:World} {KC:Value->Prop} {enc:κ->Value} {b:Nat} {D F:σ->List Int->Prop} {R:σ->κ->List Int->Prop} {P:κ->List Int->Prop}
theorem Qfp (h:Qz w KC enc b (fun k i=>P k i∨Ut D R k i)) (hD:∀k i,D k i↔XF (F k) i) (hp:∀k,Pos (F k)):Qz w KC enc b (fun k i=>P k i∨Ut F R k i):=by
 obtain rfl:D=fun k i=>XF (F k) i:=funext fun k=>funext fun i=>propext (hD k i)
 exact Qz.fronts h hp
end
end Go.Proofs.YtlnkgcdeljhjcaaGreatDoor
