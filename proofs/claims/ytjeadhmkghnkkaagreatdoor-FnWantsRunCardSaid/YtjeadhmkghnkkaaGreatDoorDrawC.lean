/- Draws of the reference. Conditions: as stated. -/
import Derived.Test.YtjeadhmkghnkkaaGreatDoorCurs
import Derived.Test.YtjeadhmkghnkkaaGreatDoorCellT
import Derived.Test.YtjeadhmkghnkkaaGreatDoorIsActs
set_option maxRecDepth 100000
set_option maxHeartbeats 8000000
namespace Go.Proofs.YtjeadhmkghnkkaaGreatDoor
open Go.RowKit

def Qfz (k:Nat) (w:World) (e:Ending) (w':World):Prop:=∃(l:List QC) (A:Option Addr) (cap:Nat),e= .returned (.slice A l.length cap)/\Jn [k] w w' (cells l) (.slice A l.length cap)/\l.length<=6/\(∀c∈l,SmC c)/\WN w' k
def Qgp (k:Nat) (w:World) (e:Ending) (w':World):Prop:=∃(m y:ByteArray) (v:Int) (t:ByteArray),e= .returned (.agg #[.string m,.string y,.int .i64 v,.string t])/\m.size<=16/\y.size<=16/\t.size<=100/\WN w' k/\Qc [k] w w'
theorem QaM (k:Nat) (w:World) (hcur:WN w k):
  Calls Tryz.prog 190 #[.pointer (some ⟨k,0,none⟩)] w (Qfz k w):=by
 have hk:=hcur.lt
 have BL:=Qb (fun n W (hc:WN W k)=>Yf k n W hc)
 have KY:=Qb (fun W (hc:WN W k)=>uW k W hc)
 have hT:∀x∈ [k],x<w.heap.size:=by simpa using hk
 have HT:=Qb hT
 clear hT
 go_enter Tryz.func190,Tryz.ntmps190
 go_wp2_with fail
 refine(BL.out 6 _ (hcur.kz ((B0 _ _).alloc _))).mono ?_
 rintro e w1 ⟨r,rfl,⟨hr0,hr6⟩,q1,c1⟩
 have hr6:=hr6 (by omega)
 obtain⟨n,rfl⟩:∃n:Nat,r=(n:Int):=⟨r.toNat,by omega⟩
 have hN0:=Qb (((Yo.empty w 194 2 (B0 [] w)).new.newS (T:=[k])).later c1 HT.out)
 clear c1
 go_wp2_with fail
 go_loopw [3,4] (fun v n wr=>∃(j:Nat) (l:List QC) (A:Option Addr) (cap:Nat),n= .int .i64 (j:Int)/\v= .slice A l.length cap/\l.length+j<=5/\Hid (Jn [k] w wr (cells l) (.slice A l.length cap))/\Hid (∀c∈l,SmC c)/\WN wr k) (fun _ n _=>(intOf n).toNat)
 case atStart=>exact⟨n,[],_,_,rfl,rfl,by simp;omega,hN0,(fun c hc=>by simp at hc),q1⟩
 case round=>
  obtain⟨j,l,A,cap,rfl,rfl,hlj,hN,HS,hq⟩:=hrel
  by_cases hj:0<j
  ·obtain⟨i,rfl⟩:∃i,j=i+1:=⟨j-1,by omega⟩
   have hji:(0:Int)<((i+1:Nat):Int):=by omega
   go_wp2_with fail
   refine(KY.out _ hq).mono ?_
   rintro e w2 ⟨key,rfl,hkey,q2,c2⟩
   have n2:=hN.out.later c2 HT.out
   have AT:=Qb (Qfj l key _ _ w2 n2.rd (F0 _))
   have n2:=Qb n2
   clear c2 hN
   go_wp2_with fail
   refine AT.out.mono ?_
   rintro e w3 ⟨r,rfl,r0,r1,c3⟩
   have n3:=Qb (n2.out.later (c3.mono (by simp)) HT.out)
   have q3:=q2.kz c3
   clear c3 AT n2 q2
   by_cases hr:0<=r∨l.length<4
   ·have hput:∀(v:Int) (W:World),0<=v->v<30->Jn [k] w W (cells l) (.slice A l.length cap)->Calls Tryz.prog 208 #[.slice A l.length cap,.string key,.int .i64 v] W (QcI (l.length+1) W):=fun v W v0 v1 hn=>QdF l key v _ _ W hn.rd (F0 _) (by omega) HS.out ⟨hkey,v0,by show v<=99;omega⟩
    have HPUT:=Qb hput
    clear hput
    by_cases hr0:0<=r
    all_goals
     first|(have h4:l.length<4:=by omega)|skip
     go_wp2_with fail
     refine(BL.out 30 _ q3).mono ?_
     rintro e w4 ⟨v,rfl,⟨v0,v30⟩,q4,c4⟩
     have n4:=n3.out.later c4 HT.out
     have PT:=Qb (HPUT.out v w4 v0 (v30 (by omega)) n4)
     have n4:=Qb n4
     clear c4
     go_wp2_with fail
     refine PT.out.mono ?_
     rintro e w5 ⟨out,ho,hs,G⟩
     obtain⟨A5,cap5,rfl,hN5⟩:=G.sl
     go_wp2_with fail
     go_roundw
     case rel=>exact⟨i,out,A5,cap5,by simp,rfl,by omega,Qb (hN5.newS.sooner n4.out.chg),hs,q4.kz hN5.chg⟩
     case measure=>simp [intOf]
   ·have hr0:¬0<=r:=fun h=>hr (.inl h)
    have h4:¬l.length<4:=fun h=>hr (.inr h)
    clear hr
    go_wp2_with fail
    go_roundw
    case rel=>exact⟨i,l,A,cap,by simp,rfl,by omega,n3,HS,q3⟩
    case measure=>simp [intOf]
  ·obtain rfl:j=0:=by omega
   go_wp2_with fail
   go_ret
   exact⟨l,A,cap,rfl,hN.out,by omega,HS.out,hq⟩
theorem Qbc (k:Nat) (w:World) (hcur:WN w k):
  Calls Tryz.prog 162 #[.pointer (some ⟨k,0,none⟩)] w (DrS k (fun s=>s.size<=100) w):=by
 have hk:=hcur.lt
 have BL:=Qb (fun n W (hc:WN W k)=>Yf k n W hc)
 have H1:=Qb (show ∀x∈([⟨#[44]⟩,⟨#[44,122,61,49]⟩,⟨#[61]⟩,⟨#[32]⟩,⟨#[48]⟩]:List ByteArray),x.size<=10 from by decide)
 have H2:=Qb (show ∀x∈([⟨#[]⟩,⟨#[45]⟩,⟨#[98,61,49,44,97,61,50]⟩,⟨#[97,61,49,44,97,61,49]⟩,⟨#[97,61,49,44,98,61,50,44,99,61,51,44,100,61,52,44,101,61,53]⟩,⟨#[97,32,61,32,49]⟩,⟨#[97,61,48,49]⟩,⟨#[45,45]⟩]:List ByteArray),x.size<=100 from by decide)
 go_enter Tryz.func162,Tryz.ntmps162
 go_wp2_with fail
 refine(QaM k w hcur).mono ?_
 rintro e w1 ⟨l,A,cap,rfl,hN,hl,hs,q1⟩
 have FC:=Qb (GF l _ _ w1 hN.rd (F0 _) (by omega) (fun c hc=>by have:=(hs c hc).1;omega))
 have d1:=Qb hN.chg
 have hz:=Qag l
 obtain⟨s,hs⟩:∃s,s=VX l:=⟨_,rfl⟩
 rw [<-hs] at FC hz
 clear hs hN
 go_wp2_with fail
 refine FC.out.mono ?_
 rintro e w2 ⟨rfl,c2⟩
 have q2:=q1.kz c2
 have d2:=Qb (d1.out.trans (c2.mono (by simp)) (fun x hx=>.inl hx))
 clear c2 d1 q1 FC
 go_wp2_with fail
 refine(BL.out 7 _ q2).mono ?_
 rintro e w3 ⟨r,rfl,⟨r0,r7⟩,q3,c3⟩
 have d3:=Qb (d2.out.trans c3 (fun x hx=>.inl hx))
 have k3:=q3.lt
 clear c3 d2 q2 r7
 by_cases hr0:r=0
 ·subst hr0
  go_wp2_with fail
  refine(KZ k [⟨#[44]⟩,⟨#[44,122,61,49]⟩,⟨#[61]⟩,⟨#[32]⟩,⟨#[48]⟩] w3.heap.size 5 _ (q3.kz ((B0 _ _).alloc _)) (by decide) (by decide) (by omega) (by simp) (Gv rfl)).mono ?_
  rintro e w4 ⟨y,rfl,hy,q4,c4⟩
  have zy:=H1.out _ hy
  obtain⟨x,hx⟩:∃x,x=s++y:=⟨_,rfl⟩
  have kx:=wZ (P:=Tryz.prog) hx (by omega)
  have zx:x.size<=100:=by rw [hx,M3];omega
  clear hx hy
  go_wp2_with fail
  go_ret
  exact⟨x,rfl,zx,q4,d3.out.trans (K6 ((B0 [k] _).alloc _) c4 (fun x hx=>.inl hx)) (fun x hx=>.inl hx)⟩
 ·by_cases hr1:r=1
  ·subst hr1
   go_wp2_with fail
   refine(KZ k [⟨#[]⟩,⟨#[45]⟩,⟨#[98,61,49,44,97,61,50]⟩,⟨#[97,61,49,44,97,61,49]⟩,⟨#[97,61,49,44,98,61,50,44,99,61,51,44,100,61,52,44,101,61,53]⟩,⟨#[97,32,61,32,49]⟩,⟨#[97,61,48,49]⟩,⟨#[45,45]⟩] w3.heap.size 8 _ (q3.kz ((B0 _ _).alloc _)) (by decide) (by decide) (by omega) (by simp) (Gv rfl)).mono ?_
   rintro e w4 ⟨y,rfl,hy,q4,c4⟩
   have zy:=H2.out _ hy
   clear hy
   go_wp2_with fail
   go_ret
   exact⟨y,rfl,zy,q4,d3.out.trans (K6 ((B0 [k] _).alloc _) c4 (fun x hx=>.inl hx)) (fun x hx=>.inl hx)⟩
  ·go_wp2_with fail
   go_ret
   exact⟨s,rfl,by omega,q3,d3.out⟩
theorem Qbt (k:Nat) (w:World) (hcur:WN w k):
  Calls Tryz.prog 129 #[.pointer (some ⟨k,0,none⟩)] w (Qgp k w):=by
 have hk:=hcur.lt
 have BL:=Qb (fun n W (hc:WN W k)=>Yf k n W hc)
 have KY:=Qb (fun W (hc:WN W k)=>uW k W hc)
 have TX:=Qb (fun W (hc:WN W k)=>Qbc k W hc)
 have HM:=Qb (show ∀x∈([⟨#[83,116,97,114,116]⟩,⟨#[83,116,97,114,116]⟩,⟨#[83,116,111,112]⟩,⟨#[71,101,116]⟩,⟨#[71,101,116]⟩,⟨#[80,117,116]⟩,⟨#[80,117,116]⟩,⟨#[84,101,108,108]⟩,⟨#[72,101,97,114]⟩,⟨#[76,111,97,100]⟩,⟨#[83,97,118,101]⟩,⟨#[72,101,97,108]⟩]:List ByteArray),x.size<=16 from by decide)
 go_enter Tryz.func129,Tryz.ntmps129
 go_wp2_with fail
 refine(KZ k [⟨#[83,116,97,114,116]⟩,⟨#[83,116,97,114,116]⟩,⟨#[83,116,111,112]⟩,⟨#[71,101,116]⟩,⟨#[71,101,116]⟩,⟨#[80,117,116]⟩,⟨#[80,117,116]⟩,⟨#[84,101,108,108]⟩,⟨#[72,101,97,114]⟩,⟨#[76,111,97,100]⟩,⟨#[83,97,118,101]⟩,⟨#[72,101,97,108]⟩] (w.heap.size+1) 12 _ (hcur.kz (((B0 _ _).alloc _).alloc _)) (by decide) (by decide) (by omega) (by simp) (by rw [show w.heap.size+1=(w.alloc (.cells #[.string ⟨#[]⟩,.string ⟨#[]⟩,.int .i64 0,.string ⟨#[]⟩] 31)).heap.size by simp];exact Gv rfl)).mono ?_
 rintro e w1 ⟨m,rfl,hm,q1,c1⟩
 have zm:=HM.out m hm
 have s1:=c1.size
 have t1:w.heap.size<w1.heap.size:=by simp at s1;omega
 have k1:k<w1.heap.size:=by omega
 have g1:∀o,w1.cell? ⟨w.heap.size,o,none⟩=(w.alloc (.cells #[.string ⟨#[]⟩,.string ⟨#[]⟩,.int .i64 0,.string ⟨#[]⟩] 31)).cell? ⟨w.heap.size,o,none⟩:=fun o=>(c1.cell (p:=⟨w.heap.size,o,none⟩) (by simp;omega) (by simp;omega)).trans (((B0 [] (w.alloc (.cells #[.string ⟨#[]⟩,.string ⟨#[]⟩,.int .i64 0,.string ⟨#[]⟩] 31))).alloc _).cell (p:=⟨w.heap.size,o,none⟩) (by simp) (by simp))
 have f1:∀o,w1.frozen? ⟨w.heap.size,o,none⟩=(w.alloc (.cells #[.string ⟨#[]⟩,.string ⟨#[]⟩,.int .i64 0,.string ⟨#[]⟩] 31)).frozen? ⟨w.heap.size,o,none⟩:=fun o=>(c1.frozen (p:=⟨w.heap.size,o,none⟩) (by simp;omega) (by simp;omega)).trans (((B0 [] (w.alloc (.cells #[.string ⟨#[]⟩,.string ⟨#[]⟩,.int .i64 0,.string ⟨#[]⟩] 31))).alloc _).frozen (p:=⟨w.heap.size,o,none⟩) (by simp) (by simp))
 have d1:=Qb (K6 (((B0 [k] w).alloc (.cells #[.string ⟨#[]⟩,.string ⟨#[]⟩,.int .i64 0,.string ⟨#[]⟩] 31)).alloc _) c1 (fun x hx=>.inl hx))
 clear c1 hm s1 HM hcur
 rcases yA m with ⟨hmm,m1,m2,m3,m4⟩|⟨hmm,m1,m2,m3,m4⟩|⟨hmm,m1,m2,m3,m4⟩|⟨hmm,m1,m2,m3,m4⟩|⟨hmm,m1,m2,m3,m4⟩
 ·clear hmm
  go_wp2_with fail
  obtain⟨wB,hwB⟩:∃x,x=w1.alloc (.cells #[.string m,.string ⟨#[]⟩,.int .i64 0,.string ⟨#[]⟩] 31):=⟨_,rfl⟩
  rw [<-hwB]
  have cB:Qc [] w1 wB:=by rw [hwB];exact(B0 _ _).alloc _
  have sB:wB.heap.size=w1.heap.size+1:=by rw [hwB];simp
  have qB:=q1.kz cB
  have dB:=Qb (d1.out.trans (cB.mono (T:=[k]) (by simp)) (fun x hx=>.inl hx))
  have bB0:wB.cell? ⟨w1.heap.size,0,none⟩=some (.string m):=by rw [hwB];go_simp
  have bB1:wB.cell? ⟨w1.heap.size,1,none⟩=some (.string ⟨#[]⟩):=by rw [hwB];go_simp
  have bB2:wB.cell? ⟨w1.heap.size,2,none⟩=some (.int .i64 0):=by rw [hwB];go_simp
  have bB3:wB.cell? ⟨w1.heap.size,3,none⟩=some (.string ⟨#[]⟩):=by rw [hwB];go_simp
  have hB:∀o,wB.frozen? ⟨w1.heap.size,o,none⟩=false:=fun o=>by rw [hwB];go_simp
  have gB:∀o,wB.cell? ⟨w.heap.size,o,none⟩=(w.alloc (.cells #[.string ⟨#[]⟩,.string ⟨#[]⟩,.int .i64 0,.string ⟨#[]⟩] 31)).cell? ⟨w.heap.size,o,none⟩:=fun o=>(cB.cell (p:=⟨w.heap.size,o,none⟩) t1 (by simp)).trans (g1 o)
  have fB:∀o,wB.frozen? ⟨w.heap.size,o,none⟩=(w.alloc (.cells #[.string ⟨#[]⟩,.string ⟨#[]⟩,.int .i64 0,.string ⟨#[]⟩] 31)).frozen? ⟨w.heap.size,o,none⟩:=fun o=>(cB.frozen (p:=⟨w.heap.size,o,none⟩) t1 (by simp)).trans (f1 o)
  clear hwB cB d1 q1 g1 f1
  refine(KY.out _ qB).mono ?_
  rintro e w2 ⟨z,rfl,hz,q2,c2⟩
  have d2:=Qb (dB.out.trans c2 (fun x hx=>.inl hx))
  have s2:=c2.size
  have u2:w1.heap.size<w2.heap.size:=by first|omega|(simp at s2;omega)
  have t2:w.heap.size<w2.heap.size:=by omega
  have b20:w2.cell? ⟨w1.heap.size,0,none⟩=some (.string m):=(c2.cell (p:=⟨w1.heap.size,0,none⟩) (by first|(simp;done)|(simp;omega)) (by simp;omega)).trans bB0
  have b21:w2.cell? ⟨w1.heap.size,1,none⟩=some (.string ⟨#[]⟩):=(c2.cell (p:=⟨w1.heap.size,1,none⟩) (by first|(simp;done)|(simp;omega)) (by simp;omega)).trans bB1
  have b22:w2.cell? ⟨w1.heap.size,2,none⟩=some (.int .i64 0):=(c2.cell (p:=⟨w1.heap.size,2,none⟩) (by first|(simp;done)|(simp;omega)) (by simp;omega)).trans bB2
  have b23:w2.cell? ⟨w1.heap.size,3,none⟩=some (.string ⟨#[]⟩):=(c2.cell (p:=⟨w1.heap.size,3,none⟩) (by first|(simp;done)|(simp;omega)) (by simp;omega)).trans bB3
  have h2:∀o,w2.frozen? ⟨w1.heap.size,o,none⟩=false:=fun o=>(c2.frozen (p:=⟨w1.heap.size,o,none⟩) (by first|(simp;done)|(simp;omega)) (by simp;omega)).trans (hB o)
  have g2:∀o,w2.cell? ⟨w.heap.size,o,none⟩=(w.alloc (.cells #[.string ⟨#[]⟩,.string ⟨#[]⟩,.int .i64 0,.string ⟨#[]⟩] 31)).cell? ⟨w.heap.size,o,none⟩:=fun o=>(c2.cell (p:=⟨w.heap.size,o,none⟩) (by first|omega|(simp;omega)) (by simp;omega)).trans (gB o)
  have f2:∀o,w2.frozen? ⟨w.heap.size,o,none⟩=(w.alloc (.cells #[.string ⟨#[]⟩,.string ⟨#[]⟩,.int .i64 0,.string ⟨#[]⟩] 31)).frozen? ⟨w.heap.size,o,none⟩:=fun o=>(c2.frozen (p:=⟨w.heap.size,o,none⟩) (by first|omega|(simp;omega)) (by simp;omega)).trans (fB o)
  clear c2 bB0 bB1 bB2 bB3 hB gB fB dB qB sB
  have e20:∀u,(w2.setCell ⟨w1.heap.size,1,none⟩ u).cell? ⟨w1.heap.size,0,none⟩=some (.string m):=fun u=>by rw [World.cell?_setCell_other _ _ _ _ (by simp)];exact b20
  have e21:∀u,(w2.setCell ⟨w1.heap.size,1,none⟩ u).cell? ⟨w1.heap.size,1,none⟩=some u:=fun u=>World.cell?_setCell_same _ _ _ b21
  have e22:∀u,(w2.setCell ⟨w1.heap.size,1,none⟩ u).cell? ⟨w1.heap.size,2,none⟩=some (.int .i64 0):=fun u=>by rw [World.cell?_setCell_other _ _ _ _ (by simp)];exact b22
  have e23:∀u,(w2.setCell ⟨w1.heap.size,1,none⟩ u).cell? ⟨w1.heap.size,3,none⟩=some (.string ⟨#[]⟩):=fun u=>by rw [World.cell?_setCell_other _ _ _ _ (by simp)];exact b23
  go_wp2_with fail
  refine bodyPost_ret (v:=.agg #[.string m,.string z,.int .i64 0,.string ⟨#[]⟩]) (by simp only [results,Tryz.results129];go_simp) rfl ?_
  exact⟨_,_,_,_,rfl,zm,hz,by decide,q2.keep (S:=[w.heap.size,w1.heap.size]) C6 (by simp;omega),by repeat(first|with_reducible exact d2.out|with_reducible exact B0 _ _|with_reducible refine i6 ?_|with_reducible refine a7 ?_ _|with_reducible refine U4 ?_ _|with_reducible refine Q8 ?_ (.inr (by simp;try omega)) _)⟩
 ·clear hmm
  go_wp2_with fail
  obtain⟨wB,hwB⟩:∃x,x=w1.alloc (.cells #[.string m,.string ⟨#[]⟩,.int .i64 0,.string ⟨#[]⟩] 31):=⟨_,rfl⟩
  rw [<-hwB]
  have cB:Qc [] w1 wB:=by rw [hwB];exact(B0 _ _).alloc _
  have sB:wB.heap.size=w1.heap.size+1:=by rw [hwB];simp
  have qB:=q1.kz cB
  have dB:=Qb (d1.out.trans (cB.mono (T:=[k]) (by simp)) (fun x hx=>.inl hx))
  have bB0:wB.cell? ⟨w1.heap.size,0,none⟩=some (.string m):=by rw [hwB];go_simp
  have bB1:wB.cell? ⟨w1.heap.size,1,none⟩=some (.string ⟨#[]⟩):=by rw [hwB];go_simp
  have bB2:wB.cell? ⟨w1.heap.size,2,none⟩=some (.int .i64 0):=by rw [hwB];go_simp
  have bB3:wB.cell? ⟨w1.heap.size,3,none⟩=some (.string ⟨#[]⟩):=by rw [hwB];go_simp
  have hB:∀o,wB.frozen? ⟨w1.heap.size,o,none⟩=false:=fun o=>by rw [hwB];go_simp
  have gB:∀o,wB.cell? ⟨w.heap.size,o,none⟩=(w.alloc (.cells #[.string ⟨#[]⟩,.string ⟨#[]⟩,.int .i64 0,.string ⟨#[]⟩] 31)).cell? ⟨w.heap.size,o,none⟩:=fun o=>(cB.cell (p:=⟨w.heap.size,o,none⟩) t1 (by simp)).trans (g1 o)
  have fB:∀o,wB.frozen? ⟨w.heap.size,o,none⟩=(w.alloc (.cells #[.string ⟨#[]⟩,.string ⟨#[]⟩,.int .i64 0,.string ⟨#[]⟩] 31)).frozen? ⟨w.heap.size,o,none⟩:=fun o=>(cB.frozen (p:=⟨w.heap.size,o,none⟩) t1 (by simp)).trans (f1 o)
  clear hwB cB d1 q1 g1 f1
  refine(KY.out _ qB).mono ?_
  rintro e w2 ⟨z,rfl,hz,q2,c2⟩
  have d2:=Qb (dB.out.trans c2 (fun x hx=>.inl hx))
  have s2:=c2.size
  have u2:w1.heap.size<w2.heap.size:=by first|omega|(simp at s2;omega)
  have t2:w.heap.size<w2.heap.size:=by omega
  have b20:w2.cell? ⟨w1.heap.size,0,none⟩=some (.string m):=(c2.cell (p:=⟨w1.heap.size,0,none⟩) (by first|(simp;done)|(simp;omega)) (by simp;omega)).trans bB0
  have b21:w2.cell? ⟨w1.heap.size,1,none⟩=some (.string ⟨#[]⟩):=(c2.cell (p:=⟨w1.heap.size,1,none⟩) (by first|(simp;done)|(simp;omega)) (by simp;omega)).trans bB1
  have b22:w2.cell? ⟨w1.heap.size,2,none⟩=some (.int .i64 0):=(c2.cell (p:=⟨w1.heap.size,2,none⟩) (by first|(simp;done)|(simp;omega)) (by simp;omega)).trans bB2
  have b23:w2.cell? ⟨w1.heap.size,3,none⟩=some (.string ⟨#[]⟩):=(c2.cell (p:=⟨w1.heap.size,3,none⟩) (by first|(simp;done)|(simp;omega)) (by simp;omega)).trans bB3
  have h2:∀o,w2.frozen? ⟨w1.heap.size,o,none⟩=false:=fun o=>(c2.frozen (p:=⟨w1.heap.size,o,none⟩) (by first|(simp;done)|(simp;omega)) (by simp;omega)).trans (hB o)
  have g2:∀o,w2.cell? ⟨w.heap.size,o,none⟩=(w.alloc (.cells #[.string ⟨#[]⟩,.string ⟨#[]⟩,.int .i64 0,.string ⟨#[]⟩] 31)).cell? ⟨w.heap.size,o,none⟩:=fun o=>(c2.cell (p:=⟨w.heap.size,o,none⟩) (by first|omega|(simp;omega)) (by simp;omega)).trans (gB o)
  have f2:∀o,w2.frozen? ⟨w.heap.size,o,none⟩=(w.alloc (.cells #[.string ⟨#[]⟩,.string ⟨#[]⟩,.int .i64 0,.string ⟨#[]⟩] 31)).frozen? ⟨w.heap.size,o,none⟩:=fun o=>(c2.frozen (p:=⟨w.heap.size,o,none⟩) (by first|omega|(simp;omega)) (by simp;omega)).trans (fB o)
  clear c2 bB0 bB1 bB2 bB3 hB gB fB dB qB sB
  have e20:∀u,(w2.setCell ⟨w1.heap.size,1,none⟩ u).cell? ⟨w1.heap.size,0,none⟩=some (.string m):=fun u=>by rw [World.cell?_setCell_other _ _ _ _ (by simp)];exact b20
  have e21:∀u,(w2.setCell ⟨w1.heap.size,1,none⟩ u).cell? ⟨w1.heap.size,1,none⟩=some u:=fun u=>World.cell?_setCell_same _ _ _ b21
  have e22:∀u,(w2.setCell ⟨w1.heap.size,1,none⟩ u).cell? ⟨w1.heap.size,2,none⟩=some (.int .i64 0):=fun u=>by rw [World.cell?_setCell_other _ _ _ _ (by simp)];exact b22
  have e23:∀u,(w2.setCell ⟨w1.heap.size,1,none⟩ u).cell? ⟨w1.heap.size,3,none⟩=some (.string ⟨#[]⟩):=fun u=>by rw [World.cell?_setCell_other _ _ _ _ (by simp)];exact b23
  obtain⟨w2s,hw2s⟩:∃x,x=w2.setCell ⟨w1.heap.size,1,none⟩ (.string z):=⟨_,rfl⟩
  have q2s:WN w2s k:=q2.keep (S:=[w1.heap.size]) (by rw [hw2s];exact(B0 _ _).setCell (.inl (by simp)) _) (by simp;omega)
  have s2s:w2s.heap.size=w2.heap.size:=by rw [hw2s];simp
  have d2s:=Qb (show Qc [k] w w2s by rw [hw2s];exact d2.out.setCell (.inr (by simp;omega)) _)
  have B20:w2s.cell? ⟨w1.heap.size,0,none⟩=some (.string m):=by rw [hw2s];exact e20 _
  have B21:w2s.cell? ⟨w1.heap.size,1,none⟩=some (.string z):=by rw [hw2s];exact e21 _
  have B22:w2s.cell? ⟨w1.heap.size,2,none⟩=some (.int .i64 0):=by rw [hw2s];exact e22 _
  have B23:w2s.cell? ⟨w1.heap.size,3,none⟩=some (.string ⟨#[]⟩):=by rw [hw2s];exact e23 _
  have H2:∀o,w2s.frozen? ⟨w1.heap.size,o,none⟩=false:=fun o=>by rw [hw2s, <-h2 o];simp
  have G2:∀o,w2s.cell? ⟨w.heap.size,o,none⟩=(w.alloc (.cells #[.string ⟨#[]⟩,.string ⟨#[]⟩,.int .i64 0,.string ⟨#[]⟩] 31)).cell? ⟨w.heap.size,o,none⟩:=fun o=>by rw [hw2s,World.cell?_setCell_other _ _ _ _ (by first|(simp;done)|(simp;omega))];exact g2 o
  have F2:∀o,w2s.frozen? ⟨w.heap.size,o,none⟩=(w.alloc (.cells #[.string ⟨#[]⟩,.string ⟨#[]⟩,.int .i64 0,.string ⟨#[]⟩] 31)).frozen? ⟨w.heap.size,o,none⟩:=fun o=>by rw [hw2s, <-f2 o];simp
  go_wp2_with fail
  rw [<-hw2s]
  clear b20 b21 b22 b23 e20 e21 e22 e23 h2 g2 f2 hw2s d2 q2
  refine(BL.out 20 _ q2s).mono ?_
  rintro e w3 ⟨v,rfl,hv,q3,c3⟩
  have d3:=Qb (d2s.out.trans c3 (fun x hx=>.inl hx))
  have s3:=c3.size
  have u3:w1.heap.size<w3.heap.size:=by first|omega|(simp at s3;omega)
  have t3:w.heap.size<w3.heap.size:=by omega
  have b30:w3.cell? ⟨w1.heap.size,0,none⟩=some (.string m):=(c3.cell (p:=⟨w1.heap.size,0,none⟩) (by first|(simp;done)|(simp;omega)) (by simp;omega)).trans B20
  have b31:w3.cell? ⟨w1.heap.size,1,none⟩=some (.string z):=(c3.cell (p:=⟨w1.heap.size,1,none⟩) (by first|(simp;done)|(simp;omega)) (by simp;omega)).trans B21
  have b32:w3.cell? ⟨w1.heap.size,2,none⟩=some (.int .i64 0):=(c3.cell (p:=⟨w1.heap.size,2,none⟩) (by first|(simp;done)|(simp;omega)) (by simp;omega)).trans B22
  have b33:w3.cell? ⟨w1.heap.size,3,none⟩=some (.string ⟨#[]⟩):=(c3.cell (p:=⟨w1.heap.size,3,none⟩) (by first|(simp;done)|(simp;omega)) (by simp;omega)).trans B23
  have h3:∀o,w3.frozen? ⟨w1.heap.size,o,none⟩=false:=fun o=>(c3.frozen (p:=⟨w1.heap.size,o,none⟩) (by first|(simp;done)|(simp;omega)) (by simp;omega)).trans (H2 o)
  have g3:∀o,w3.cell? ⟨w.heap.size,o,none⟩=(w.alloc (.cells #[.string ⟨#[]⟩,.string ⟨#[]⟩,.int .i64 0,.string ⟨#[]⟩] 31)).cell? ⟨w.heap.size,o,none⟩:=fun o=>(c3.cell (p:=⟨w.heap.size,o,none⟩) (by first|omega|(simp;omega)) (by simp;omega)).trans (G2 o)
  have f3:∀o,w3.frozen? ⟨w.heap.size,o,none⟩=(w.alloc (.cells #[.string ⟨#[]⟩,.string ⟨#[]⟩,.int .i64 0,.string ⟨#[]⟩] 31)).frozen? ⟨w.heap.size,o,none⟩:=fun o=>(c3.frozen (p:=⟨w.heap.size,o,none⟩) (by first|omega|(simp;omega)) (by simp;omega)).trans (F2 o)
  clear c3 B20 B21 B22 B23 H2 G2 F2 d2s q2s s2s
  have e30:∀u,(w3.setCell ⟨w1.heap.size,2,none⟩ u).cell? ⟨w1.heap.size,0,none⟩=some (.string m):=fun u=>by rw [World.cell?_setCell_other _ _ _ _ (by simp)];exact b30
  have e31:∀u,(w3.setCell ⟨w1.heap.size,2,none⟩ u).cell? ⟨w1.heap.size,1,none⟩=some (.string z):=fun u=>by rw [World.cell?_setCell_other _ _ _ _ (by simp)];exact b31
  have e32:∀u,(w3.setCell ⟨w1.heap.size,2,none⟩ u).cell? ⟨w1.heap.size,2,none⟩=some u:=fun u=>World.cell?_setCell_same _ _ _ b32
  have e33:∀u,(w3.setCell ⟨w1.heap.size,2,none⟩ u).cell? ⟨w1.heap.size,3,none⟩=some (.string ⟨#[]⟩):=fun u=>by rw [World.cell?_setCell_other _ _ _ _ (by simp)];exact b33
  go_wp2_with fail
  refine bodyPost_ret (v:=.agg #[.string m,.string z,.int .i64 v,.string ⟨#[]⟩]) (by simp only [results,Tryz.results129];go_simp) rfl ?_
  exact⟨_,_,_,_,rfl,zm,hz,by decide,q3.keep (S:=[w.heap.size,w1.heap.size]) C6 (by simp;omega),by repeat(first|with_reducible exact d3.out|with_reducible exact B0 _ _|with_reducible refine i6 ?_|with_reducible refine a7 ?_ _|with_reducible refine U4 ?_ _|with_reducible refine Q8 ?_ (.inr (by simp;try omega)) _)⟩
 ·clear hmm
  go_wp2_with fail
  obtain⟨wB,hwB⟩:∃x,x=w1.alloc (.cells #[.string m,.string ⟨#[]⟩,.int .i64 0,.string ⟨#[]⟩] 31):=⟨_,rfl⟩
  rw [<-hwB]
  have cB:Qc [] w1 wB:=by rw [hwB];exact(B0 _ _).alloc _
  have sB:wB.heap.size=w1.heap.size+1:=by rw [hwB];simp
  have qB:=q1.kz cB
  have dB:=Qb (d1.out.trans (cB.mono (T:=[k]) (by simp)) (fun x hx=>.inl hx))
  have bB0:wB.cell? ⟨w1.heap.size,0,none⟩=some (.string m):=by rw [hwB];go_simp
  have bB1:wB.cell? ⟨w1.heap.size,1,none⟩=some (.string ⟨#[]⟩):=by rw [hwB];go_simp
  have bB2:wB.cell? ⟨w1.heap.size,2,none⟩=some (.int .i64 0):=by rw [hwB];go_simp
  have bB3:wB.cell? ⟨w1.heap.size,3,none⟩=some (.string ⟨#[]⟩):=by rw [hwB];go_simp
  have hB:∀o,wB.frozen? ⟨w1.heap.size,o,none⟩=false:=fun o=>by rw [hwB];go_simp
  have gB:∀o,wB.cell? ⟨w.heap.size,o,none⟩=(w.alloc (.cells #[.string ⟨#[]⟩,.string ⟨#[]⟩,.int .i64 0,.string ⟨#[]⟩] 31)).cell? ⟨w.heap.size,o,none⟩:=fun o=>(cB.cell (p:=⟨w.heap.size,o,none⟩) t1 (by simp)).trans (g1 o)
  have fB:∀o,wB.frozen? ⟨w.heap.size,o,none⟩=(w.alloc (.cells #[.string ⟨#[]⟩,.string ⟨#[]⟩,.int .i64 0,.string ⟨#[]⟩] 31)).frozen? ⟨w.heap.size,o,none⟩:=fun o=>(cB.frozen (p:=⟨w.heap.size,o,none⟩) t1 (by simp)).trans (f1 o)
  clear hwB cB d1 q1 g1 f1
  refine(BL.out 4 _ qB).mono ?_
  rintro e w2 ⟨z,rfl,hz,q2,c2⟩
  have d2:=Qb (dB.out.trans c2 (fun x hx=>.inl hx))
  have s2:=c2.size
  have u2:w1.heap.size<w2.heap.size:=by first|omega|(simp at s2;omega)
  have t2:w.heap.size<w2.heap.size:=by omega
  have b20:w2.cell? ⟨w1.heap.size,0,none⟩=some (.string m):=(c2.cell (p:=⟨w1.heap.size,0,none⟩) (by first|(simp;done)|(simp;omega)) (by simp;omega)).trans bB0
  have b21:w2.cell? ⟨w1.heap.size,1,none⟩=some (.string ⟨#[]⟩):=(c2.cell (p:=⟨w1.heap.size,1,none⟩) (by first|(simp;done)|(simp;omega)) (by simp;omega)).trans bB1
  have b22:w2.cell? ⟨w1.heap.size,2,none⟩=some (.int .i64 0):=(c2.cell (p:=⟨w1.heap.size,2,none⟩) (by first|(simp;done)|(simp;omega)) (by simp;omega)).trans bB2
  have b23:w2.cell? ⟨w1.heap.size,3,none⟩=some (.string ⟨#[]⟩):=(c2.cell (p:=⟨w1.heap.size,3,none⟩) (by first|(simp;done)|(simp;omega)) (by simp;omega)).trans bB3
  have h2:∀o,w2.frozen? ⟨w1.heap.size,o,none⟩=false:=fun o=>(c2.frozen (p:=⟨w1.heap.size,o,none⟩) (by first|(simp;done)|(simp;omega)) (by simp;omega)).trans (hB o)
  have g2:∀o,w2.cell? ⟨w.heap.size,o,none⟩=(w.alloc (.cells #[.string ⟨#[]⟩,.string ⟨#[]⟩,.int .i64 0,.string ⟨#[]⟩] 31)).cell? ⟨w.heap.size,o,none⟩:=fun o=>(c2.cell (p:=⟨w.heap.size,o,none⟩) (by first|omega|(simp;omega)) (by simp;omega)).trans (gB o)
  have f2:∀o,w2.frozen? ⟨w.heap.size,o,none⟩=(w.alloc (.cells #[.string ⟨#[]⟩,.string ⟨#[]⟩,.int .i64 0,.string ⟨#[]⟩] 31)).frozen? ⟨w.heap.size,o,none⟩:=fun o=>(c2.frozen (p:=⟨w.heap.size,o,none⟩) (by first|omega|(simp;omega)) (by simp;omega)).trans (fB o)
  clear c2 bB0 bB1 bB2 bB3 hB gB fB dB qB sB
  have e20:∀u,(w2.setCell ⟨w1.heap.size,2,none⟩ u).cell? ⟨w1.heap.size,0,none⟩=some (.string m):=fun u=>by rw [World.cell?_setCell_other _ _ _ _ (by simp)];exact b20
  have e21:∀u,(w2.setCell ⟨w1.heap.size,2,none⟩ u).cell? ⟨w1.heap.size,1,none⟩=some (.string ⟨#[]⟩):=fun u=>by rw [World.cell?_setCell_other _ _ _ _ (by simp)];exact b21
  have e22:∀u,(w2.setCell ⟨w1.heap.size,2,none⟩ u).cell? ⟨w1.heap.size,2,none⟩=some u:=fun u=>World.cell?_setCell_same _ _ _ b22
  have e23:∀u,(w2.setCell ⟨w1.heap.size,2,none⟩ u).cell? ⟨w1.heap.size,3,none⟩=some (.string ⟨#[]⟩):=fun u=>by rw [World.cell?_setCell_other _ _ _ _ (by simp)];exact b23
  go_wp2_with fail
  refine bodyPost_ret (v:=.agg #[.string m,.string ⟨#[]⟩,.int .i64 z,.string ⟨#[]⟩]) (by simp only [results,Tryz.results129];go_simp) rfl ?_
  exact⟨_,_,_,_,rfl,zm,by decide,by decide,q2.keep (S:=[w.heap.size,w1.heap.size]) C6 (by simp;omega),by repeat(first|with_reducible exact d2.out|with_reducible exact B0 _ _|with_reducible refine i6 ?_|with_reducible refine a7 ?_ _|with_reducible refine U4 ?_ _|with_reducible refine Q8 ?_ (.inr (by simp;try omega)) _)⟩
 ·clear hmm
  go_wp2_with fail
  obtain⟨wB,hwB⟩:∃x,x=w1.alloc (.cells #[.string m,.string ⟨#[]⟩,.int .i64 0,.string ⟨#[]⟩] 31):=⟨_,rfl⟩
  rw [<-hwB]
  have cB:Qc [] w1 wB:=by rw [hwB];exact(B0 _ _).alloc _
  have sB:wB.heap.size=w1.heap.size+1:=by rw [hwB];simp
  have qB:=q1.kz cB
  have dB:=Qb (d1.out.trans (cB.mono (T:=[k]) (by simp)) (fun x hx=>.inl hx))
  have bB0:wB.cell? ⟨w1.heap.size,0,none⟩=some (.string m):=by rw [hwB];go_simp
  have bB1:wB.cell? ⟨w1.heap.size,1,none⟩=some (.string ⟨#[]⟩):=by rw [hwB];go_simp
  have bB2:wB.cell? ⟨w1.heap.size,2,none⟩=some (.int .i64 0):=by rw [hwB];go_simp
  have bB3:wB.cell? ⟨w1.heap.size,3,none⟩=some (.string ⟨#[]⟩):=by rw [hwB];go_simp
  have hB:∀o,wB.frozen? ⟨w1.heap.size,o,none⟩=false:=fun o=>by rw [hwB];go_simp
  have gB:∀o,wB.cell? ⟨w.heap.size,o,none⟩=(w.alloc (.cells #[.string ⟨#[]⟩,.string ⟨#[]⟩,.int .i64 0,.string ⟨#[]⟩] 31)).cell? ⟨w.heap.size,o,none⟩:=fun o=>(cB.cell (p:=⟨w.heap.size,o,none⟩) t1 (by simp)).trans (g1 o)
  have fB:∀o,wB.frozen? ⟨w.heap.size,o,none⟩=(w.alloc (.cells #[.string ⟨#[]⟩,.string ⟨#[]⟩,.int .i64 0,.string ⟨#[]⟩] 31)).frozen? ⟨w.heap.size,o,none⟩:=fun o=>(cB.frozen (p:=⟨w.heap.size,o,none⟩) t1 (by simp)).trans (f1 o)
  clear hwB cB d1 q1 g1 f1
  refine(TX.out _ qB).mono ?_
  rintro e w2 ⟨z,rfl,hz,q2,c2⟩
  have d2:=Qb (dB.out.trans c2 (fun x hx=>.inl hx))
  have s2:=c2.size
  have u2:w1.heap.size<w2.heap.size:=by first|omega|(simp at s2;omega)
  have t2:w.heap.size<w2.heap.size:=by omega
  have b20:w2.cell? ⟨w1.heap.size,0,none⟩=some (.string m):=(c2.cell (p:=⟨w1.heap.size,0,none⟩) (by first|(simp;done)|(simp;omega)) (by simp;omega)).trans bB0
  have b21:w2.cell? ⟨w1.heap.size,1,none⟩=some (.string ⟨#[]⟩):=(c2.cell (p:=⟨w1.heap.size,1,none⟩) (by first|(simp;done)|(simp;omega)) (by simp;omega)).trans bB1
  have b22:w2.cell? ⟨w1.heap.size,2,none⟩=some (.int .i64 0):=(c2.cell (p:=⟨w1.heap.size,2,none⟩) (by first|(simp;done)|(simp;omega)) (by simp;omega)).trans bB2
  have b23:w2.cell? ⟨w1.heap.size,3,none⟩=some (.string ⟨#[]⟩):=(c2.cell (p:=⟨w1.heap.size,3,none⟩) (by first|(simp;done)|(simp;omega)) (by simp;omega)).trans bB3
  have h2:∀o,w2.frozen? ⟨w1.heap.size,o,none⟩=false:=fun o=>(c2.frozen (p:=⟨w1.heap.size,o,none⟩) (by first|(simp;done)|(simp;omega)) (by simp;omega)).trans (hB o)
  have g2:∀o,w2.cell? ⟨w.heap.size,o,none⟩=(w.alloc (.cells #[.string ⟨#[]⟩,.string ⟨#[]⟩,.int .i64 0,.string ⟨#[]⟩] 31)).cell? ⟨w.heap.size,o,none⟩:=fun o=>(c2.cell (p:=⟨w.heap.size,o,none⟩) (by first|omega|(simp;omega)) (by simp;omega)).trans (gB o)
  have f2:∀o,w2.frozen? ⟨w.heap.size,o,none⟩=(w.alloc (.cells #[.string ⟨#[]⟩,.string ⟨#[]⟩,.int .i64 0,.string ⟨#[]⟩] 31)).frozen? ⟨w.heap.size,o,none⟩:=fun o=>(c2.frozen (p:=⟨w.heap.size,o,none⟩) (by first|omega|(simp;omega)) (by simp;omega)).trans (fB o)
  clear c2 bB0 bB1 bB2 bB3 hB gB fB dB qB sB
  have e20:∀u,(w2.setCell ⟨w1.heap.size,3,none⟩ u).cell? ⟨w1.heap.size,0,none⟩=some (.string m):=fun u=>by rw [World.cell?_setCell_other _ _ _ _ (by simp)];exact b20
  have e21:∀u,(w2.setCell ⟨w1.heap.size,3,none⟩ u).cell? ⟨w1.heap.size,1,none⟩=some (.string ⟨#[]⟩):=fun u=>by rw [World.cell?_setCell_other _ _ _ _ (by simp)];exact b21
  have e22:∀u,(w2.setCell ⟨w1.heap.size,3,none⟩ u).cell? ⟨w1.heap.size,2,none⟩=some (.int .i64 0):=fun u=>by rw [World.cell?_setCell_other _ _ _ _ (by simp)];exact b22
  have e23:∀u,(w2.setCell ⟨w1.heap.size,3,none⟩ u).cell? ⟨w1.heap.size,3,none⟩=some u:=fun u=>World.cell?_setCell_same _ _ _ b23
  go_wp2_with fail
  refine bodyPost_ret (v:=.agg #[.string m,.string ⟨#[]⟩,.int .i64 0,.string z]) (by simp only [results,Tryz.results129];go_simp) rfl ?_
  exact⟨_,_,_,_,rfl,zm,by decide,hz,q2.keep (S:=[w.heap.size,w1.heap.size]) C6 (by simp;omega),by repeat(first|with_reducible exact d2.out|with_reducible exact B0 _ _|with_reducible refine i6 ?_|with_reducible refine a7 ?_ _|with_reducible refine U4 ?_ _|with_reducible refine Q8 ?_ (.inr (by simp;try omega)) _)⟩
 ·clear hmm
  go_wp2_with fail
  refine bodyPost_ret (v:=.agg #[.string m,.string ⟨#[]⟩,.int .i64 0,.string ⟨#[]⟩]) (by simp only [results,Tryz.results129];go_simp) rfl ?_
  exact⟨_,_,_,_,rfl,zm,by decide,by decide,q1.keep (S:=[w.heap.size,w1.heap.size]) C6 (by simp;omega),by repeat(first|with_reducible exact d1.out|with_reducible exact B0 _ _|with_reducible refine i6 ?_|with_reducible refine a7 ?_ _|with_reducible refine U4 ?_ _|with_reducible refine Q8 ?_ (.inr (by simp;try omega)) _)⟩
end Go.Proofs.YtjeadhmkghnkkaaGreatDoor
