/- l8Flat of the reference. Conditions: as stated. -/
import Derived.Test.YtjeadhmkghnkkaaGreatDoorDrawC
import Derived.Deep.Cut
set_option maxRecDepth 100000
set_option maxHeartbeats 16000000
namespace Go.Proofs.YtjeadhmkghnkkaaGreatDoor
open Go.RowKit

def Qgu (k:Nat) (w:World) (e:Ending) (w':World):Prop:=∃(op slot other:Int) (word m y:ByteArray) (v:Int) (t:ByteArray) (face:Int),
 e= .returned (.agg #[.int .i64 op,.int .i64 slot,.int .i64 other,.string word,.string m,.string y,.int .i64 v,.string t,.int .i64 face,.slice none 0 0,.slice none 0 0])/\word.size<=16/\m.size<=16/\y.size<=16/\t.size<=100/\WN w' k/\Qc [k] w w'
def JV (k:Nat) (w x:World) (b:Nat):Prop:=∃(op slot other:Int) (word m y:ByteArray) (v:Int) (t:ByteArray),
 ZU x b [.int .i64 op,.int .i64 slot,.int .i64 other,.string word,.string m,.string y,.int .i64 v,.string t,.int .i64 0,.slice none 0 0,.slice none 0 0] /\ZU x w.heap.size [.int .i64 0,.int .i64 0,.int .i64 0,.string ⟨#[]⟩,.string ⟨#[]⟩,.string ⟨#[]⟩,.int .i64 0,.string ⟨#[]⟩,.int .i64 0,.slice none 0 0,.slice none 0 0] /\word.size<=16/\m.size<=16/\y.size<=16/\t.size<=100/\WN x k/\Qc [k] w x
theorem UI {w x:World} {t:TypeId} {cs:Array Value} {g:Nat} (L:List Int) (hx:x=w.alloc (.cells cs t)) (h:cs.toList=L.map (Value.int .i64)) (hg:w.heap.size=g:=by simp):g<x.heap.size/\∀j (hj:j<L.length),x.cell? ⟨g,j,none⟩=some (.int .i64 L[j]):=by
 subst hx hg
 exact⟨by simp,QaS h⟩
theorem ks {w x:World} {t:TypeId} {cs:Array Value} {g:Nat} (L:List ByteArray) (hx:x=w.alloc (.cells cs t)) (h:cs.toList=L.map Value.string) (hg:w.heap.size=g:=by simp):g<x.heap.size/\∀j (hj:j<L.length),x.cell? ⟨g,j,none⟩=some (.string L[j]):=by
 subst hx hg
 exact⟨by simp,Gv h⟩
theorem vB (k:Nat) (w:World) (hcur:WN w k):
  Calls Tryz.prog 87 #[.pointer (some ⟨k,0,none⟩)] w (Qgu k w):=by
 have hk:=hcur.lt
 have BL:=Qb (fun n W (hc:WN W k)=>Yf k n W hc)
 have CL:=Qb (fun W (hc:WN W k)=>Qbt k W hc)
 have LI:=Qb (fun L g cap W hc h0 h1 hg hl hx=>GY k L g cap W hc h0 h1 hg hl hx)
 have LS:=Qb (fun L g cap W hc h0 h1 hg hl hx=>KZ k L g cap W hc h0 h1 hg hl hx)
 have HA:=Qb (show ∀x∈([⟨#[108,97,109,112]⟩,⟨#[115,104,101,108,102]⟩,⟨#[109,101,116,101,114]⟩,⟨#[100,114,97,119,101,114]⟩,⟨#[100,114,97,119,101,114]⟩,⟨#[118,97,117,108,116]⟩,⟨#[114,111,98,111,116]⟩,⟨#[114,111,98,111,116]⟩,⟨#[115,116,111,110,101]⟩]:List ByteArray),x.size<=16 from by decide)
 have HB:=Qb (show ∀x∈([⟨#[112,108,97,105,110]⟩,⟨#[114,117,110,115]⟩,⟨#[107,101,101,112,115]⟩,⟨#[99,111,117,110,116,115]⟩,⟨#[99,111,117,110,116,115]⟩,⟨#[108,97,122,121]⟩,⟨#[114,101,97,100,115]⟩,⟨#[104,101,97,114,115]⟩,⟨#[104,101,97,108,115]⟩,⟨#[116,119,105,99,101]⟩]:List ByteArray),x.size<=16 from by decide)
 have HS:=Qb (show ∀x∈([0,0,0,1,1,2]:List Int),0<=x/\x<=2 from by decide)
 go_enter Tryz.func87,Tryz.ntmps87
 go_wp2_with fail
 refine ZM fun x0 hx0=>?_
 have c0:Qc [k] w x0:=by rw [hx0];exact C6
 obtain⟨l0,L0⟩:=UI (g:=w.heap.size+1) [0,0,0,1,1,2] hx0 rfl
 have Z0:=Qb (show ZU x0 w.heap.size [.int .i64 0,.int .i64 0,.int .i64 0,.string ⟨#[]⟩,.string ⟨#[]⟩,.string ⟨#[]⟩,.int .i64 0,.string ⟨#[]⟩,.int .i64 0,.slice none 0 0,.slice none 0 0] by rw [hx0];exact(L9 w _ _).alloc _)
 have Q0:=hcur.keep (S:=[]) (show Qc [] w x0 by rw [hx0];exact C6) (by simp)
 clear hx0
 refine(LI.out [0,0,0,1,1,2] (w.heap.size+1) 6 _ Q0 (by decide) (by decide) (by omega) (by first|exact l0|simpa using l0) (by first|exact L0|simpa using L0)).mono ?_
 rintro e w1 ⟨s,rfl,hs,q1,c1⟩
 obtain⟨hs0,hs2⟩:=HS.out s hs
 have s1:=c1.size
 have t1:w.heap.size<w1.heap.size:=by have:=Z0.out.lt;omega
 have Z1:=Qb (Z0.out.keep c1 (by simp;omega))
 have d1:=Qb (c0.trans c1 (fun x hx=>.inl hx))
 clear c0 c1 l0 L0 Z0 Q0 hs s1 hcur HS
 go_wp2_with fail
 refine ZM fun x1 hx1=>?_
 have B1:ZU x1 w1.heap.size [.int .i64 0,.int .i64 s,.int .i64 0,.string ⟨#[]⟩,.string ⟨#[]⟩,.string ⟨#[]⟩,.int .i64 0,.string ⟨#[]⟩,.int .i64 0,.slice none 0 0,.slice none 0 0]:=by rw [hx1];exact L9 _ _ _
 have e1:Qc [] w1 x1:=by rw [hx1];exact C6
 clear hx1
 refine(BL.out 12 _ (q1.kz e1)).mono ?_
 rintro e w2 ⟨r,rfl,⟨r0,r12⟩,q2,c2⟩
 have r12:=r12 (by omega)
 have u2:w1.heap.size<w2.heap.size:=F6 B1.lt c2.size
 have t2:w.heap.size<w2.heap.size:=by omega
 have B2:=Qb (B1.keep c2 (by simp;omega))
 have Z2:=Qb ((Z1.out.keep e1).keep c2 (by simp;omega))
 have d2:=Qb ((d1.out.trans (e1.mono (T:=[k]) (by simp)) (fun x hx=>.inl hx)).trans c2 (fun x hx=>.inl hx))
 clear e1 c2 B1 Z1 d1 q1
 rcases(show(r=0∨r=1∨r=2)∨(r=3∨r=4)∨r=5∨r=6∨r=7∨(r=8∨r=9)∨(r=10∨r=11) by omega) with h|h|rfl|rfl|rfl|h|h
 case' inl=>
  rcases h with rfl|rfl|rfl
  all_goals
   obtain⟨b0,b1,b2,b3,b4,b5,b6,b7,b8,b9,b10⟩:=B2.out.o11
   have bf:=B2.out.f
   go_wp2_with fail
   refine ZM fun x2 hx2=>?_
   clear b0 b1 b2 b3 b4 b5 b6 b7 b8 b9 b10 bf
   have BX2:=Qb (show ZU x2 w1.heap.size [.int .i64 1,.int .i64 s,.int .i64 0,.string ⟨#[]⟩,.string ⟨#[]⟩,.string ⟨#[]⟩,.int .i64 0,.string ⟨#[]⟩,.int .i64 0,.slice none 0 0,.slice none 0 0] by rw [hx2];exact((B2.out.set 0 (.int .i64 1)).alloc _))
   have ZX2:=Qb (show ZU x2 w.heap.size [.int .i64 0,.int .i64 0,.int .i64 0,.string ⟨#[]⟩,.string ⟨#[]⟩,.string ⟨#[]⟩,.int .i64 0,.string ⟨#[]⟩,.int .i64 0,.slice none 0 0,.slice none 0 0] by rw [hx2];exact((Z2.out.far _ (by omega)).alloc _))
   have QX2:=q2.keep (S:=[w1.heap.size]) (show Qc [w1.heap.size] w2 x2 by rw [hx2];exact C6) (by simp;omega)
   have DX2:=Qb (show Qc [k] w x2 by rw [hx2];exact H9 d2.out)
   obtain⟨lt2,LT2⟩:=ks (g:=w2.heap.size) [⟨#[108,97,109,112]⟩,⟨#[115,104,101,108,102]⟩,⟨#[109,101,116,101,114]⟩,⟨#[100,114,97,119,101,114]⟩,⟨#[100,114,97,119,101,114]⟩,⟨#[118,97,117,108,116]⟩,⟨#[114,111,98,111,116]⟩,⟨#[114,111,98,111,116]⟩,⟨#[115,116,111,110,101]⟩] hx2 rfl
   clear hx2 B2 Z2 d2 q2
   refine(LS.out [⟨#[108,97,109,112]⟩,⟨#[115,104,101,108,102]⟩,⟨#[109,101,116,101,114]⟩,⟨#[100,114,97,119,101,114]⟩,⟨#[100,114,97,119,101,114]⟩,⟨#[118,97,117,108,116]⟩,⟨#[114,111,98,111,116]⟩,⟨#[114,111,98,111,116]⟩,⟨#[115,116,111,110,101]⟩] w2.heap.size 9 _ QX2 (by decide) (by decide) (by omega) lt2 LT2).mono ?_
   rintro e w3 ⟨y,rfl,hy,q3,c3⟩
   have zy:=HA.out y hy
   clear lt2 LT2 hy
   have s3:=c3.size
   have t3:w.heap.size<w3.heap.size:=by have:=ZX2.out.lt;omega
   have u3:w1.heap.size<w3.heap.size:=by have:=BX2.out.lt;omega
   have B3:=Qb (BX2.out.keep c3 (by simp;omega))
   have Z3:=Qb (ZX2.out.keep c3 (by simp;omega))
   have d3:=Qb (DX2.out.trans c3 (fun x hx=>.inl hx))
   clear s3 c3 BX2 ZX2 DX2 QX2
   obtain⟨b0,b1,b2,b3,b4,b5,b6,b7,b8,b9,b10⟩:=B3.out.o11
   have bf:=B3.out.f
   go_upto_region 26 with fail
   refine Qp ?_
   intro x hx
   have K:JV k w x w1.heap.size:=by rw [hx];exact⟨_,_,_,_,_,_,_,_,(B3.out.set 3 (.string y)),(Z3.out.far _ (by omega)),zy,by decide,by decide,by decide,q3.keep (S:=[w1.heap.size]) C6 (by simp;omega),H9 d3.out⟩
   clear b0 b1 b2 b3 b4 b5 b6 b7 b8 b9 b10 bf
   clear hx B3 Z3 d3 q3
 case' inr.inl=>
  rcases h with rfl|rfl
  all_goals
   obtain⟨b0,b1,b2,b3,b4,b5,b6,b7,b8,b9,b10⟩:=B2.out.o11
   have bf:=B2.out.f
   go_wp2_with fail
   refine ZM fun x2 hx2=>?_
   clear b0 b1 b2 b3 b4 b5 b6 b7 b8 b9 b10 bf
   have BX2:=Qb (show ZU x2 w1.heap.size [.int .i64 2,.int .i64 s,.int .i64 0,.string ⟨#[]⟩,.string ⟨#[]⟩,.string ⟨#[]⟩,.int .i64 0,.string ⟨#[]⟩,.int .i64 0,.slice none 0 0,.slice none 0 0] by rw [hx2];exact((B2.out.set 0 (.int .i64 2)).alloc _))
   have ZX2:=Qb (show ZU x2 w.heap.size [.int .i64 0,.int .i64 0,.int .i64 0,.string ⟨#[]⟩,.string ⟨#[]⟩,.string ⟨#[]⟩,.int .i64 0,.string ⟨#[]⟩,.int .i64 0,.slice none 0 0,.slice none 0 0] by rw [hx2];exact((Z2.out.far _ (by omega)).alloc _))
   have QX2:=q2.keep (S:=[w1.heap.size]) (show Qc [w1.heap.size] w2 x2 by rw [hx2];exact C6) (by simp;omega)
   have DX2:=Qb (show Qc [k] w x2 by rw [hx2];exact H9 d2.out)
   obtain⟨lt2,LT2⟩:=ks (g:=w2.heap.size) [⟨#[112,108,97,105,110]⟩,⟨#[114,117,110,115]⟩,⟨#[107,101,101,112,115]⟩,⟨#[99,111,117,110,116,115]⟩,⟨#[99,111,117,110,116,115]⟩,⟨#[108,97,122,121]⟩,⟨#[114,101,97,100,115]⟩,⟨#[104,101,97,114,115]⟩,⟨#[104,101,97,108,115]⟩,⟨#[116,119,105,99,101]⟩] hx2 rfl
   clear hx2 B2 Z2 d2 q2
   refine(LS.out [⟨#[112,108,97,105,110]⟩,⟨#[114,117,110,115]⟩,⟨#[107,101,101,112,115]⟩,⟨#[99,111,117,110,116,115]⟩,⟨#[99,111,117,110,116,115]⟩,⟨#[108,97,122,121]⟩,⟨#[114,101,97,100,115]⟩,⟨#[104,101,97,114,115]⟩,⟨#[104,101,97,108,115]⟩,⟨#[116,119,105,99,101]⟩] w2.heap.size 10 _ QX2 (by decide) (by decide) (by omega) lt2 LT2).mono ?_
   rintro e w3 ⟨y,rfl,hy,q3,c3⟩
   have zy:=HB.out y hy
   clear lt2 LT2 hy
   have s3:=c3.size
   have t3:w.heap.size<w3.heap.size:=by have:=ZX2.out.lt;omega
   have u3:w1.heap.size<w3.heap.size:=by have:=BX2.out.lt;omega
   have B3:=Qb (BX2.out.keep c3 (by simp;omega))
   have Z3:=Qb (ZX2.out.keep c3 (by simp;omega))
   have d3:=Qb (DX2.out.trans c3 (fun x hx=>.inl hx))
   clear s3 c3 BX2 ZX2 DX2 QX2
   obtain⟨b0,b1,b2,b3,b4,b5,b6,b7,b8,b9,b10⟩:=B3.out.o11
   have bf:=B3.out.f
   go_upto_region 26 with fail
   refine Qp ?_
   intro x hx
   have K:JV k w x w1.heap.size:=by rw [hx];exact⟨_,_,_,_,_,_,_,_,(B3.out.set 3 (.string y)),(Z3.out.far _ (by omega)),zy,by decide,by decide,by decide,q3.keep (S:=[w1.heap.size]) C6 (by simp;omega),H9 d3.out⟩
   clear b0 b1 b2 b3 b4 b5 b6 b7 b8 b9 b10 bf
   clear hx B3 Z3 d3 q3
 case' inr.inr.inl=>
  obtain⟨b0,b1,b2,b3,b4,b5,b6,b7,b8,b9,b10⟩:=B2.out.o11
  have bf:=B2.out.f
  go_upto_region 26 with fail
  refine Qp ?_
  intro x hx
  have K:JV k w x w1.heap.size:=by rw [hx];exact⟨_,_,_,_,_,_,_,_,(B2.out.set 0 (.int .i64 3)),(Z2.out.far _ (by omega)),by decide,by decide,by decide,by decide,q2.keep (S:=[w1.heap.size]) C6 (by simp;omega),H9 d2.out⟩
  clear b0 b1 b2 b3 b4 b5 b6 b7 b8 b9 b10 bf
  clear hx B2 Z2 d2 q2
 case' inr.inr.inr.inl=>
  obtain⟨b0,b1,b2,b3,b4,b5,b6,b7,b8,b9,b10⟩:=B2.out.o11
  have bf:=B2.out.f
  go_upto_region 20 with fail
  refine Qp ?_
  intro x3 hx3
  have B3:=Qb (show ZU x3 w1.heap.size [.int .i64 4,.int .i64 s,.int .i64 0,.string ⟨#[]⟩,.string ⟨#[]⟩,.string ⟨#[]⟩,.int .i64 0,.string ⟨#[]⟩,.int .i64 0,.slice none 0 0,.slice none 0 0] by rw [hx3];exact B2.out.set 0 _)
  have Z3:=Qb (show ZU x3 w.heap.size [.int .i64 0,.int .i64 0,.int .i64 0,.string ⟨#[]⟩,.string ⟨#[]⟩,.string ⟨#[]⟩,.int .i64 0,.string ⟨#[]⟩,.int .i64 0,.slice none 0 0,.slice none 0 0] by rw [hx3];exact Z2.out.far _ (by omega))
  have Q3:=q2.keep (S:=[w1.heap.size]) (show Qc [w1.heap.size] w2 x3 by rw [hx3];exact C6) (by simp;omega)
  have D3:=Qb (show Qc [k] w x3 by rw [hx3];exact H9 d2.out)
  clear b0 b1 b2 b3 b4 b5 b6 b7 b8 b9 b10 bf
  clear hx3 B2 Z2 d2 q2
  obtain⟨b0,b1,b2,b3,b4,b5,b6,b7,b8,b9,b10⟩:=B3.out.o11
  have bf:=B3.out.f
  have k3:=Q3.lt
  have u3:=B3.out.lt
  go_region_law (first|(go_simp;go_at_call 33;(refine(BL.out 2 _ (by repeat(first|with_reducible exact Q3|with_reducible refine WN.kz ?_ (B0 [] _).drew|with_reducible refine WN.kz ?_ ((B0 [] _).drewN _)))).mono ?_);rintro e w3 ⟨r,rfl,⟨r0,r2⟩,q3,c3⟩;(have r2:=r2 (by omega));(have B4:=B3.out.keep (w':=w3) (S:=[k]) (K6 C6 c3 (fun x hx=>.inl hx)) (by simp;omega));(obtain⟨y0,y1,y2,y3,y4,y5,y6,y7,y8,y9,y10⟩:=B4.o11);(have yf:=B4.f);(have W1:IntKind.i64.wrap (s+1)=s+1:=Zd (by omega) (by omega));(have W2:IntKind.i64.wrap (s+1+r)=s+1+r:=Zd (by omega) (by omega));(have B4:=Qb B4);simp only [])|fail)
  all_goals
   clear b0 b1 b2 b3 b4 b5 b6 b7 b8 b9 b10 bf
   go_upto_region 26 with fail
   refine Qp ?_
   intro x hx
   have e3:Qc [k] x3 w3:=K6 C6 c3 (fun x hx=>.inl hx)
   have K:JV k w x w1.heap.size:=by rw [hx];exact⟨_,_,_,_,_,_,_,_,B4.out.set 2 _,(Z3.out.keep e3 (by simp;omega)).far _ (by omega),by decide,by decide,by decide,by decide,q3.keep (S:=[w1.heap.size]) C6 (by simp;omega),H9 (D3.out.trans e3 (fun x hx=>.inl hx))⟩
   clear hx e3 c3 B4 B3 Z3 D3 q3 Q3 y0 y1 y2 y3 y4 y5 y6 y7 y8 y9 y10 yf W1 W2
 case' inr.inr.inr.inr.inl=>
  go_wp2_with fail
  refine ZM fun x2 hx2=>?_
  have BX2:=Qb (show ZU x2 w1.heap.size [.int .i64 0,.int .i64 s,.int .i64 0,.string ⟨#[]⟩,.string ⟨#[]⟩,.string ⟨#[]⟩,.int .i64 0,.string ⟨#[]⟩,.int .i64 0,.slice none 0 0,.slice none 0 0] by rw [hx2];exact(B2.out.alloc _))
  have ZX2:=Qb (show ZU x2 w.heap.size [.int .i64 0,.int .i64 0,.int .i64 0,.string ⟨#[]⟩,.string ⟨#[]⟩,.string ⟨#[]⟩,.int .i64 0,.string ⟨#[]⟩,.int .i64 0,.slice none 0 0,.slice none 0 0] by rw [hx2];exact(Z2.out.alloc _))
  have QX2:=q2.keep (S:=[w1.heap.size]) (show Qc [w1.heap.size] w2 x2 by rw [hx2];exact C6) (by simp;omega)
  have DX2:=Qb (show Qc [k] w x2 by rw [hx2];exact H9 d2.out)
  obtain⟨lt2,LT2⟩:=UI (g:=w2.heap.size) [5,6] hx2 rfl
  clear hx2 B2 Z2 d2 q2
  refine(LI.out [5,6] w2.heap.size 2 _ QX2 (by decide) (by decide) (by omega) lt2 LT2).mono ?_
  rintro e w3 ⟨z,rfl,hz,q3,c3⟩
  clear lt2 LT2 hz
  have s3:=c3.size
  have t3:w.heap.size<w3.heap.size:=by have:=ZX2.out.lt;omega
  have u3:w1.heap.size<w3.heap.size:=by have:=BX2.out.lt;omega
  have B3:=Qb (BX2.out.keep c3 (by simp;omega))
  have Z3:=Qb (ZX2.out.keep c3 (by simp;omega))
  have d3:=Qb (DX2.out.trans c3 (fun x hx=>.inl hx))
  clear s3 c3 BX2 ZX2 DX2 QX2
  obtain⟨b0,b1,b2,b3,b4,b5,b6,b7,b8,b9,b10⟩:=B3.out.o11
  have bf:=B3.out.f
  go_upto_region 26 with fail
  refine Qp ?_
  intro x hx
  have K:JV k w x w1.heap.size:=by rw [hx];exact⟨_,_,_,_,_,_,_,_,(B3.out.set 0 (.int .i64 z)),(Z3.out.far _ (by omega)),by decide,by decide,by decide,by decide,q3.keep (S:=[w1.heap.size]) C6 (by simp;omega),H9 d3.out⟩
  clear b0 b1 b2 b3 b4 b5 b6 b7 b8 b9 b10 bf
  clear hx B3 Z3 d3 q3
 case' inr.inr.inr.inr.inr.inl=>
  rcases h with rfl|rfl
  all_goals
   obtain⟨b0,b1,b2,b3,b4,b5,b6,b7,b8,b9,b10⟩:=B2.out.o11
   have bf:=B2.out.f
   go_upto_region 26 with fail
   refine Qp ?_
   intro x hx
   have K:JV k w x w1.heap.size:=by rw [hx];exact⟨_,_,_,_,_,_,_,_,(B2.out.set 0 (.int .i64 6)),(Z2.out.far _ (by omega)),by decide,by decide,by decide,by decide,q2.keep (S:=[w1.heap.size]) C6 (by simp;omega),H9 d2.out⟩
   clear b0 b1 b2 b3 b4 b5 b6 b7 b8 b9 b10 bf
   clear hx B2 Z2 d2 q2
 case' inr.inr.inr.inr.inr.inr=>
  rcases h with rfl|rfl
  all_goals
   obtain⟨b0,b1,b2,b3,b4,b5,b6,b7,b8,b9,b10⟩:=B2.out.o11
   have bf:=B2.out.f
   go_wp2_with fail
   refine ZM fun x2 hx2=>?_
   clear b0 b1 b2 b3 b4 b5 b6 b7 b8 b9 b10 bf
   have BX2:=Qb (show ZU x2 w1.heap.size [.int .i64 7,.int .i64 s,.int .i64 0,.string ⟨#[]⟩,.string ⟨#[]⟩,.string ⟨#[]⟩,.int .i64 0,.string ⟨#[]⟩,.int .i64 0,.slice none 0 0,.slice none 0 0] by rw [hx2];exact(B2.out.set 0 (.int .i64 7)))
   have ZX2:=Qb (show ZU x2 w.heap.size [.int .i64 0,.int .i64 0,.int .i64 0,.string ⟨#[]⟩,.string ⟨#[]⟩,.string ⟨#[]⟩,.int .i64 0,.string ⟨#[]⟩,.int .i64 0,.slice none 0 0,.slice none 0 0] by rw [hx2];exact(Z2.out.far _ (by omega)))
   have QX2:=q2.keep (S:=[w1.heap.size]) (show Qc [w1.heap.size] w2 x2 by rw [hx2];exact C6) (by simp;omega)
   have DX2:=Qb (show Qc [k] w x2 by rw [hx2];exact H9 d2.out)
   clear hx2 B2 Z2 d2 q2
   refine(CL.out _ QX2).mono ?_
   rintro e w3 ⟨m,y,v,t,rfl,zm,zy,zt,q3,c3⟩
   have s3:=c3.size
   have t3:w.heap.size<w3.heap.size:=by have:=ZX2.out.lt;omega
   have u3:w1.heap.size<w3.heap.size:=by have:=BX2.out.lt;omega
   have B3:=Qb (BX2.out.keep c3 (by simp;omega))
   have Z3:=Qb (ZX2.out.keep c3 (by simp;omega))
   have d3:=Qb (DX2.out.trans c3 (fun x hx=>.inl hx))
   clear s3 c3 BX2 ZX2 DX2 QX2
   obtain⟨b0,b1,b2,b3,b4,b5,b6,b7,b8,b9,b10⟩:=B3.out.o11
   have bf:=B3.out.f
   have CA:=Qb (fun W=>XX ⟨m,y,v,t⟩ W (by show y.size<=1048576;omega) (by show t.size<=1048575;omega))
   go_wp2_with fail
   refine ZM fun x3 hx3=>?_
   have B4:=Qb (show ZU x3 w1.heap.size [.int .i64 7,.int .i64 s,.int .i64 0,.string ⟨#[]⟩,.string m,.string y,.int .i64 v,.string t,.int .i64 0,.slice none 0 0,.slice none 0 0] by rw [hx3];exact(((B3.out.set 4 _).set 5 _).set 6 _).set 7 _)
   have Z4:=Qb (show ZU x3 w.heap.size [.int .i64 0,.int .i64 0,.int .i64 0,.string ⟨#[]⟩,.string ⟨#[]⟩,.string ⟨#[]⟩,.int .i64 0,.string ⟨#[]⟩,.int .i64 0,.slice none 0 0,.slice none 0 0] by rw [hx3];exact(((Z3.out.far _ (by omega)).far _ (by omega)).far _ (by omega)).far _ (by omega))
   have Q4:=q3.keep (S:=[w1.heap.size]) (show Qc [w1.heap.size] w3 x3 by rw [hx3];exact C6) (by simp;omega)
   have D4:=Qb (show Qc [k] w x3 by rw [hx3];exact H9 d3.out)
   clear b0 b1 b2 b3 b4 b5 b6 b7 b8 b9 b10 bf
   clear hx3 B3 Z3 d3 q3
   refine(CA.out _).mono ?_
   rintro e w4 ⟨ok,rfl,hok,c4⟩
   clear hok
   have s4:=c4.size
   have B5:=Qb (B4.out.keep c4)
   have Z5:=Qb (Z4.out.keep c4)
   have q5:=Q4.kz c4
   have d5:=Qb (D4.out.tz c4)
   have u5:=B5.out.lt
   have t5:=Z5.out.lt
   clear s4 c4 B4 Z4 Q4 D4
   cases ok
   case' false=>
    obtain⟨b0,b1,b2,b3,b4,b5,b6,b7,b8,b9,b10⟩:=B5.out.o11
    have bf:=B5.out.f
    go_upto_region 26 with fail
    refine Qp ?_
    intro x hx
    have K:JV k w x w1.heap.size:=by rw [hx];exact⟨_,_,_,_,_,_,_,_,(((B5.out.set 4 _).set 5 _).set 6 _).set 7 _,(((Z5.out.far _ (by omega)).far _ (by omega)).far _ (by omega)).far _ (by omega),by decide,by decide,by decide,by decide,q5.keep (S:=[w1.heap.size]) C6 (by simp;omega),H9 d5.out⟩
    clear b0 b1 b2 b3 b4 b5 b6 b7 b8 b9 b10 bf
    clear hx B5 Z5 d5 q5
   case' true=>
    obtain⟨b0,b1,b2,b3,b4,b5,b6,b7,b8,b9,b10⟩:=B5.out.o11
    have bf:=B5.out.f
    go_upto_region 26 with fail
    refine Qp ?_
    intro x hx
    have K:JV k w x w1.heap.size:=by rw [hx];exact⟨_,_,_,_,_,_,_,_,B5.out,Z5.out,by decide,zm,zy,zt,q5.keep (S:=[w1.heap.size]) C6 (by simp;omega),H9 d5.out⟩
    clear b0 b1 b2 b3 b4 b5 b6 b7 b8 b9 b10 bf
    clear hx B5 Z5 d5 q5
 all_goals
  obtain⟨op,sl,ot,wd,m,y,v,t,BB,ZB,z1,z2,z3,z4,qq,dd⟩:=K
  have BB:=Qb BB
  have qk:=qq.lt
  have ub:=BB.out.lt
  have uz:=ZB.lt
  obtain⟨Z0,Z1,Z2,Z3,Z4,Z5,Z6,Z7,Z8,Z9,Z10⟩:=ZB.o11
  have zf:=ZB.f
  have ZB:=Qb ZB
  have dd:=Qb dd
  by_cases h6:op=6
  case' pos=>
   have o6:(op==6)=true:=by rw [h6];rfl
   clear h6
   obtain⟨b0,b1,b2,b3,b4,b5,b6,b7,b8,b9,b10⟩:=BB.out.o11
   have bf:=BB.out.f
   go_wp2_with fail
   refine ZM fun x4 hx4=>?_
   have e4:Qc [] x x4:=by rw [hx4];exact C6
   obtain⟨lt4,LT4⟩:=UI (g:=x.heap.size) [0,1,2,2,3,4,6,8,16,19,63] hx4 rfl
   clear b0 b1 b2 b3 b4 b5 b6 b7 b8 b9 b10 bf
   clear Z0 Z1 Z2 Z3 Z4 Z5 Z6 Z7 Z8 Z9 Z10 zf hx4
   refine(LI.out [0,1,2,2,3,4,6,8,16,19,63] x.heap.size 11 _ (qq.kz e4) (by decide) (by decide) (by omega) lt4 LT4).mono ?_
   rintro e w5 ⟨fc,rfl,hfc,q5,c5⟩
   have B6:=Qb ((BB.out.keep e4).keep c5 (by simp;omega))
   have Z6:=Qb ((ZB.out.keep e4).keep c5 (by simp;omega))
   have D6:=Qb ((dd.out.tz e4).trans c5 (fun x hx=>.inl hx))
   have u6:=B6.out.lt
   clear hfc e4 c5 lt4 LT4 BB ZB dd qq
   obtain⟨b0,b1,b2,b3,b4,b5,b6,b7,b8,b9,b10⟩:=B6.out.o11
   have bf:=B6.out.f
   go_upto_region 28 with fail
   refine Qp ?_
   intro x8 hx8
   have K:∃fc,ZU x8 w1.heap.size [.int .i64 op,.int .i64 sl,.int .i64 ot,.string wd,.string m,.string y,.int .i64 v,.string t,.int .i64 fc,.slice none 0 0,.slice none 0 0] /\ZU x8 w.heap.size [.int .i64 0,.int .i64 0,.int .i64 0,.string ⟨#[]⟩,.string ⟨#[]⟩,.string ⟨#[]⟩,.int .i64 0,.string ⟨#[]⟩,.int .i64 0,.slice none 0 0,.slice none 0 0] /\WN x8 k/\Qc [k] w x8:=by rw [hx8];exact⟨_,B6.out.set 8 _,Z6.out.far _ (by omega),q5.keep (S:=[w1.heap.size]) C6 (by simp;omega),H9 D6.out⟩
   clear hx8 B6 Z6 D6 q5 u6 o6
   clear b0 b1 b2 b3 b4 b5 b6 b7 b8 b9 b10 bf
  case' neg=>
   have o6:(op==6)=false:=by rw [beq_eq_false_iff_ne];exact h6
   clear h6
   obtain⟨b0,b1,b2,b3,b4,b5,b6,b7,b8,b9,b10⟩:=BB.out.o11
   have bf:=BB.out.f
   go_upto_region 28 with fail
   refine Qp ?_
   intro x8 hx8
   have K:∃fc,ZU x8 w1.heap.size [.int .i64 op,.int .i64 sl,.int .i64 ot,.string wd,.string m,.string y,.int .i64 v,.string t,.int .i64 fc,.slice none 0 0,.slice none 0 0] /\ZU x8 w.heap.size [.int .i64 0,.int .i64 0,.int .i64 0,.string ⟨#[]⟩,.string ⟨#[]⟩,.string ⟨#[]⟩,.int .i64 0,.string ⟨#[]⟩,.int .i64 0,.slice none 0 0,.slice none 0 0] /\WN x8 k/\Qc [k] w x8:=by rw [hx8];exact⟨_,BB.out.keep (S:=[]) C6,ZB.out.keep (S:=[]) C6,qq.kz C6,H9 dd.out⟩
   clear hx8 BB ZB dd qq o6
   clear b0 b1 b2 b3 b4 b5 b6 b7 b8 b9 b10 bf
   clear Z0 Z1 Z2 Z3 Z4 Z5 Z6 Z7 Z8 Z9 Z10 zf
  all_goals
   obtain⟨fc,B8,Z8,q8,d8⟩:=K
   have B8:=Qb B8
   have u8:=B8.out.lt
   obtain⟨b0,b1,b2,b3,b4,b5,b6,b7,b8,b9,b10⟩:=B8.out.o11
   have bf:=B8.out.f
   obtain⟨Z0,Z1,Z2,Z3,Z4,Z5,Z6,Z7,Z88,Z9,Z10⟩:=Z8.o11
   have zf:=Z8.f
   have d8:=Qb d8
   have uz8:=Z8.lt
   have Z8:=Qb Z8
   go_wp2_with fail
   refine bodyPost_ret (v:=.agg #[.int .i64 op,.int .i64 sl,.int .i64 ot,.string wd,.string m,.string y,.int .i64 v,.string t,.int .i64 fc,.slice none 0 0,.slice none 0 0]) (by simp only [results,Tryz.results87];go_simp) rfl ?_
   exact⟨_,_,_,_,_,_,_,_,_,rfl,z1,z2,z3,z4,q8.keep (S:=[w.heap.size]) C6 (by simp;omega),H9 d8.out⟩
end Go.Proofs.YtjeadhmkghnkkaaGreatDoor
