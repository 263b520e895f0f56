/- The cursor of the reference's draws. Conditions: as stated. -/
import Derived.Test.YtfjhdnjlhjimeaaGreatDoorPlan
import Derived.Test.YtfjhdnjlhjimeaaGreatDoorApps
set_option maxRecDepth 100000
set_option maxHeartbeats 8000000
namespace Go.Proofs.YtfjhdnjlhjimeaaGreatDoor
open Go.RowKit

theorem Qd0 (x:Int):0<=bits .and .i64 x 255/\bits .and .i64 x 255<=255:=by
 have h:(BitVec.ofInt 64 x&&& BitVec.ofInt 64 255).toNat<=255:=by
  rw [BitVec.toNat_and,show(BitVec.ofInt 64 255).toNat=255 from by decide]
  exact Nat.and_le_right
 have e:bits .and .i64 x 255=IntKind.i64.wrap ((BitVec.ofInt 64 x&&& BitVec.ofInt 64 255).toNat:Int):=rfl
 rw [e,Zd (by omega) (by omega)]
 omega
structure Uv (w:World) (k:Nat) (A:Option Addr) (n cap:Nat) (i h:Int):Prop where
 lt:k<w.heap.size
 c0:w.cell? ⟨k,0,none⟩=some (.slice A n cap)
 c1:w.cell? ⟨k,1,none⟩=some (.int .i64 i)
 c2:w.cell? ⟨k,2,none⟩=some (.int .i64 h)
 f1:w.frozen? ⟨k,1,none⟩=false
 f2:w.frozen? ⟨k,2,none⟩=false
 n4:n<=5000
 i0:0<=i
 i1:i<=n
 bs:∀j,j<n->∃b off z,A=some ⟨b,off,none⟩/\b<k/\w.cell? ⟨b,off+j,none⟩=some (.int .u8 z)/\0<=z/\z<=255
def WN (w:World) (k:Nat):Prop:=∃A n cap i h,Uv w k A n cap i h
section
variable {w w':World} {k:Nat} {A:Option Addr} {n cap:Nat} {i h:Int}
theorem Uv.cur (H:Uv w k A n cap i h):WN w k:=⟨A,n,cap,i,h,H⟩
theorem Uv.keep {S:List Nat} (H:Uv w k A n cap i h) (hc:Qc S w w') (hS:∀x,x∈S->k<x):Uv w' k A n cap i h:=by
 have hk:∀o,w'.cell? ⟨k,o,none⟩=w.cell? ⟨k,o,none⟩:=fun o=>hc.cell H.lt (fun hx=>i9 _ (hS _ hx))
 have hf:∀o,w'.frozen? ⟨k,o,none⟩=w.frozen? ⟨k,o,none⟩:=fun o=>hc.frozen H.lt (fun hx=>i9 _ (hS _ hx))
 exact⟨F6 H.lt hc.size,(hk 0).trans H.c0,(hk 1).trans H.c1,(hk 2).trans H.c2,(hf 1).trans H.f1,(hf 2).trans H.f2,H.n4,H.i0,H.i1,fun j hj=>by
  obtain⟨b,off,z,e,hb,hz,h1⟩:=H.bs j hj
  exact⟨b,off,z,e,hb,(hc.cell (p:=⟨b,off+j,none⟩) (Nat.lt_trans hb H.lt) (fun hx=>by have:=hS _ hx;simp at this;omega)).trans hz,h1⟩⟩
theorem WN.keep {S:List Nat} (H:WN w k) (hc:Qc S w w') (hS:∀x,x∈S->k<x):WN w' k:=by
 obtain⟨A,n,cap,i,h,H⟩:=H
 exact(H.keep hc hS).cur
theorem WN.kz (H:WN w k) (hc:Qc [] w w'):WN w' k:=H.keep hc (by simp)
theorem far {a o:Nat} {p:Addr} (u:Value) (hp:p≠⟨a,o,none⟩):(w.setCell ⟨a,o,none⟩ u).cell? p=w.cell? p:=World.cell?_setCell_other _ _ _ _ (fun e=>hp e.symm)
theorem Uv.set2 (H:Uv w k A n cap i h) (h':Int):Uv (w.setCell ⟨k,2,none⟩ (.int .i64 h')) k A n cap i h':=
 ⟨by simpa [World.setCell] using H.lt,(far _ (by simp)).trans H.c0,(far _ (by simp)).trans H.c1,World.cell?_setCell_same _ _ _ H.c2,by simpa using H.f1,by simpa using H.f2,H.n4,H.i0,H.i1,fun j hj=>by
  obtain⟨b,off,z,e,hb,hz,h1⟩:=H.bs j hj
  exact⟨b,off,z,e,hb,(far _ (by intro q;injection q with q1;omega)).trans hz,h1⟩⟩
theorem Uv.set1 (H:Uv w k A n cap i h) (i':Int) (h0:0<=i') (h1:i'<=n):Uv (w.setCell ⟨k,1,none⟩ (.int .i64 i')) k A n cap i' h:=
 ⟨by simpa [World.setCell] using H.lt,(far _ (by simp)).trans H.c0,World.cell?_setCell_same _ _ _ H.c1,(far _ (by simp)).trans H.c2,by simpa using H.f1,by simpa using H.f2,H.n4,h0,h1,fun j hj=>by
  obtain⟨b,off,z,e,hb,hz,h1⟩:=H.bs j hj
  exact⟨b,off,z,e,hb,(far _ (by intro q;injection q with q1;omega)).trans hz,h1⟩⟩
theorem Uv.drewN (H:Uv w k A n cap i h) (m:Nat):Uv (w.drewN m) k A n cap i h:=⟨H.lt,H.c0,H.c1,H.c2,H.f1,H.f2,H.n4,H.i0,H.i1,H.bs⟩
theorem WN.lt (H:WN w k):k<w.heap.size:=by obtain⟨_,_,_,_,_,H⟩:=H;exact H.lt
end
def Dr (k:Nat) (P:Int->Prop) (w:World) (e:Ending) (w':World):Prop:=∃r,e= .returned (.int .i64 r)/\P r/\WN w' k/\Qc [k] w w'
theorem Qbo (k:Nat) (w:World) (hcur:WN w k):
  Calls Tryz.prog 63 #[.pointer (some ⟨k,0,none⟩)] w (Dr k (fun r=>0<=r/\r<=255) w):=by
 obtain⟨A,n,cap,i,h,H⟩:=hcur
 have c0:=H.c0
 have c1:=H.c1
 have c2:=H.c2
 have f1:=H.f1
 have f2:=H.f2
 have g0:∀u,(w.setCell ⟨k,2,none⟩ u).cell? ⟨k,0,none⟩=some (.slice A n cap):=fun u=>(far u (by simp)).trans H.c0
 have g1:∀u,(w.setCell ⟨k,2,none⟩ u).cell? ⟨k,1,none⟩=some (.int .i64 i):=fun u=>(far u (by simp)).trans H.c1
 have g2:∀u,(w.setCell ⟨k,2,none⟩ u).cell? ⟨k,2,none⟩=some u:=fun u=>World.cell?_setCell_same _ _ _ H.c2
 by_cases hlt:i<n
 ·obtain⟨b,off,z,rfl,hb,hz,z0,z1⟩:=H.bs i.toNat (by have:=H.i0;omega)
  obtain⟨j,rfl⟩:∃j:Nat,i=(j:Int):=⟨i.toNat,by have:=H.i0;omega⟩
  have gz:∀u,(w.setCell ⟨k,2,none⟩ u).cell? ⟨b,off+j,none⟩=some (.int .u8 z):=fun u=>(far u (by intro q;injection q with q1;omega)).trans (by simpa using hz)
  have HH:=Qb H
  have h4:=H.n4
  clear H
  go_enter Tryz.func63,Tryz.ntmps63
  go_wp2_with fail
  go_quiet (fail)
  go_wp2_with fail
  go_quiet (fail)
  go_wp2_with fail
  go_quiet (fail)
  go_wp2_with fail
  go_ret
  exact⟨_,rfl,Qd0 _,(((HH.out.set2 _).drewN _).set1 _ (by omega) (by omega)).cur,(((B0 [k] w).setCell (p:=⟨k,2,none⟩) (.inl (by simp)) _).drewN _).setCell (p:=⟨k,1,none⟩) (.inl (by simp)) _⟩
 ·have HH:=Qb H
  clear H
  go_enter Tryz.func63,Tryz.ntmps63
  go_wp2_with fail
  go_quiet (fail)
  go_wp2_with fail
  go_quiet (fail)
  go_wp2_with fail
  go_ret
  exact⟨_,rfl,Qd0 _,(((HH.out.set2 _).drewN _).drewN _).cur,(((B0 [k] w).setCell (p:=⟨k,2,none⟩) (.inl (by simp)) _).drewN _).drewN _⟩
theorem Yf (k:Nat) (n:Int) (w:World) (hcur:WN w k):
  Calls Tryz.prog 33 #[.pointer (some ⟨k,0,none⟩),.int .i64 n] w (Dr k (fun r=>0<=r/\(0<n->r<n)) w):=by
 have hk:=hcur.lt
 have BY:=Qb (fun W (hc:WN W k)=>Qbo k W hc)
 by_cases h0:n<=0
 ·go_enter Tryz.func33,Tryz.ntmps33
  go_wp2_with fail
  go_ret
  exact⟨_,rfl,⟨by omega,fun h=>by omega⟩,hcur,B0 _ _⟩
 ·by_cases h1:n<=256
  ·go_enter Tryz.func33,Tryz.ntmps33
   go_wp2_with fail
   refine(BY.out _ hcur).mono ?_
   rintro e w1 ⟨r,rfl,⟨r0,r1⟩,q1,k1⟩
   have hm:0<=r % n/\r % n<n:=⟨Int.emod_nonneg _ (by omega),Int.emod_lt_of_pos _ (by omega)⟩
   go_wp2_with fail
   go_ret
   exact⟨_,rfl,⟨hm.1,fun _=>hm.2⟩,q1,k1⟩
  ·go_enter Tryz.func33,Tryz.ntmps33
   go_wp2_with fail
   refine(BY.out _ hcur).mono ?_
   rintro e w1 ⟨r,rfl,⟨r0,r1⟩,q1,k1⟩
   go_wp2_with fail
   refine(BY.out _ q1).mono ?_
   rintro e w2 ⟨s,rfl,⟨s0,s1⟩,q2,k2⟩
   go_wp2_with fail
   refine(BY.out _ q2).mono ?_
   rintro e w3 ⟨t,rfl,⟨t0,t1⟩,q3,k3⟩
   have hm:0<=(r * 65536+s * 256+t) % n/\(r * 65536+s * 256+t) % n<n:=⟨Int.emod_nonneg _ (by omega),Int.emod_lt_of_pos _ (by omega)⟩
   go_wp2_with fail
   go_ret
   exact⟨_,rfl,⟨hm.1,fun _=>hm.2⟩,q3,(k1.trans k2 (fun x hx=>.inl hx)).trans k3 (fun x hx=>.inl hx)⟩
theorem vv (k:Nat) (n:Int) (w:World) (hcur:WN w k):
  Calls Tryz.prog 60 #[.pointer (some ⟨k,0,none⟩),.int .i64 n] w fun e w'=>∃t,e= .returned (.bool t)/\WN w' k/\Qc [k] w w':=by
 have BL:=Qb (fun W (hc:WN W k)=>Yf k n W hc)
 go_enter Tryz.func60,Tryz.ntmps60
 go_wp2_with fail
 refine(BL.out _ hcur).mono ?_
 rintro e w1 ⟨r,rfl,_,q1,k1⟩
 go_wp2_with fail
 all_goals
  go_ret
  exact⟨_,rfl,q1,k1⟩
theorem GY (k:Nat) (L:List Int) (g cap:Nat) (w:World) (hcur:WN w k) (h0:0<L.length) (hL:L.length<=1000) (hg:g≠k) (hl:g<w.heap.size) (hc:∀j (h:j<L.length),w.cell? ⟨g,j,none⟩=some (.int .i64 L[j])):
  Calls Tryz.prog 88 #[.pointer (some ⟨k,0,none⟩),.slice (some ⟨g,0,none⟩) L.length cap] w (Dr k (fun r=>r∈L) w):=by
 have BL:=Qb (fun W (hc:WN W k)=>Yf k L.length W hc)
 have HC:=Qb hc
 clear hc
 go_enter Tryz.func88,Tryz.ntmps88
 go_wp2_with fail
 refine(BL.out _ hcur).mono ?_
 rintro e w1 ⟨r,rfl,⟨r0,r1⟩,q1,k1⟩
 obtain⟨j,rfl⟩:∃j:Nat,r=(j:Int):=⟨r.toNat,by omega⟩
 have hj:j<L.length:=by have:=r1 (by omega);omega
 have hv:=(k1.cell (p:=⟨g,j,none⟩) hl (by simpa using hg)).trans (HC.out j hj)
 clear r0 r1
 go_wp2_with fail
 go_ret
 exact⟨_,rfl,I4 hj,q1,k1⟩
theorem KZ (k:Nat) (L:List ByteArray) (g cap:Nat) (w:World) (hcur:WN w k) (h0:0<L.length) (hL:L.length<=1000) (hg:g≠k) (hl:g<w.heap.size) (hc:∀j (h:j<L.length),w.cell? ⟨g,j,none⟩=some (.string L[j])):
  Calls Tryz.prog 57 #[.pointer (some ⟨k,0,none⟩),.slice (some ⟨g,0,none⟩) L.length cap] w fun e w'=>∃s,e= .returned (.string s)/\s∈L/\WN w' k/\Qc [k] w w':=by
 have BL:=Qb (fun W (hc:WN W k)=>Yf k L.length W hc)
 have HC:=Qb hc
 clear hc
 go_enter Tryz.func57,Tryz.ntmps57
 go_wp2_with fail
 refine(BL.out _ hcur).mono ?_
 rintro e w1 ⟨r,rfl,⟨r0,r1⟩,q1,k1⟩
 obtain⟨j,rfl⟩:∃j:Nat,r=(j:Int):=⟨r.toNat,by omega⟩
 have hj:j<L.length:=by have:=r1 (by omega);omega
 have hv:=(k1.cell (p:=⟨g,j,none⟩) hl (by simpa using hg)).trans (HC.out j hj)
 clear r0 r1
 go_wp2_with fail
 go_ret
 exact⟨_,rfl,I4 hj,q1,k1⟩
theorem QaS {w:World} {t:TypeId} {cs:Array Value} {L:List Int} (h:cs.toList=L.map (Value.int .i64)) (j:Nat) (hj:j<L.length):(w.alloc (.cells cs t)).cell? ⟨w.heap.size,j,none⟩=some (.int .i64 L[j]):=by
 rw [World.cell?_alloc_new, <-T6,h];simp [hj]
theorem Gv {w:World} {t:TypeId} {cs:Array Value} {L:List ByteArray} (h:cs.toList=L.map Value.string) (j:Nat) (hj:j<L.length):(w.alloc (.cells cs t)).cell? ⟨w.heap.size,j,none⟩=some (.string L[j]):=by
 rw [World.cell?_alloc_new, <-T6,h];simp [hj]
def DrS (k:Nat) (P:ByteArray->Prop) (w:World) (e:Ending) (w':World):Prop:=∃s,e= .returned (.string s)/\P s/\WN w' k/\Qc [k] w w'
theorem uW (k:Nat) (w:World) (hcur:WN w k):
  Calls Tryz.prog 161 #[.pointer (some ⟨k,0,none⟩)] w (DrS k (fun s=>s.size<=16) w):=by
 have hk:=hcur.lt
 have HL:=Qb (show ∀x∈([⟨#[97]⟩,⟨#[98]⟩,⟨#[99]⟩,⟨#[107]⟩,⟨#[107,50]⟩,⟨#[122]⟩]:List ByteArray),(fun s=>s.size<=16) x from by decide)
 go_enter Tryz.func161,Tryz.ntmps161
 go_wp2_with fail
 refine(KZ k [⟨#[97]⟩,⟨#[98]⟩,⟨#[99]⟩,⟨#[107]⟩,⟨#[107,50]⟩,⟨#[122]⟩] w.heap.size 6 _ (hcur.kz ((B0 _ _).alloc _)) (by decide) (by decide) (by omega) (by simp) (Gv rfl)).mono ?_
 rintro e w1 ⟨r,rfl,hr,q1,k1⟩
 go_wp2_with fail
 go_ret
 exact⟨_,rfl,HL.out _ hr,q1,K6 ((B0 [k] w).alloc _) k1 (fun x hx=>.inl hx)⟩
theorem Qgb (x:Int):0<=bits .and .i64 x 1073741823/\bits .and .i64 x 1073741823<=1073741823:=by
 have h:(BitVec.ofInt 64 x&&& BitVec.ofInt 64 1073741823).toNat<=1073741823:=by
  rw [BitVec.toNat_and,show(BitVec.ofInt 64 1073741823).toNat=1073741823 from by decide]
  exact Nat.and_le_right
 have e:bits .and .i64 x 1073741823=IntKind.i64.wrap ((BitVec.ofInt 64 x&&& BitVec.ofInt 64 1073741823).toNat:Int):=rfl
 rw [e,Zd (by omega) (by omega)]
 omega
def Kj (w:World) (B:Nat) (A:Option Addr) (n:Nat):Prop:=∀j,j<n->∃b off z,A=some ⟨b,off,none⟩/\b<B/\w.cell? ⟨b,off+j,none⟩=some (.int .u8 z)/\0<=z/\z<=255
theorem kj {w:World} {t:TypeId} {A:Option Addr} {n cap:Nat} {h:Int} (hn:n<=5000) (hb:Kj w w.heap.size A n):Uv (w.alloc (.cells #[.slice A n cap,.int .i64 0,.int .i64 h] t)) w.heap.size A n cap 0 h:=
 ⟨by simp,by simp,by simp,by simp,by go_simp,by go_simp,hn,by omega,by omega,fun j hj=>by
  obtain⟨b,off,z,e,hbk,hz,h1⟩:=hb j hj
  exact⟨b,off,z,e,hbk,(World.cell?_alloc_lt _ _ _ hbk).trans hz,h1⟩⟩
theorem QdS (A:Option Addr) (n cap:Nat) (w:World) (hn:n<=5000) (hb:Kj w w.heap.size A n):
  Calls Tryz.prog 31 #[.slice A n cap] w fun e w'=>∃k,e= .returned (.pointer (some ⟨k,0,none⟩))/\w.heap.size<=k/\WN w' k/\Qc [] w w':=by
 have HB:=Qb hb
 clear hb
 go_enter Tryz.func31,Tryz.ntmps31
 go_wp2_with fail
 go_loopw [3,4] (fun v i wr=>∃(H:Int) (j:Nat),j<=n/\0<=H/\H<=1073741823/\v= .int .i64 H/\i= .int .i64 j/\wr=w) (fun _ i _=>n-(intOf i).toNat)
 case atStart=>exact⟨_,0,I3 _,by omega,by omega,rfl,rfl,rfl⟩
 case round=>
  obtain⟨H,j,hj,h0,h1,rfl,rfl,rfl⟩:=hrel
  by_cases hlt:j<n
  ·obtain⟨b,off,z,rfl,hbk,hz,z0,z1⟩:=HB.out j hlt
   by_cases h4:j<4000
   ·go_wp2_with fail
    go_roundw
    case rel=>exact⟨_,j+1,by omega,(Qgb _).1,(Qgb _).2,rfl,by go_num,by trivial⟩
    case measure=>simp [intOf];omega
   ·go_wp2_with fail
    go_ret
    exact⟨_,rfl,F0 _,(kj hn HB.out).cur,(B0 _ _).alloc _⟩
  ·go_wp2_with fail
   go_ret
   exact⟨_,rfl,F0 _,(kj hn HB.out).cur,(B0 _ _).alloc _⟩
theorem Qfj (l:List QC) (key:ByteArray) (u:Value) (B:Nat) (w:World) (hr:Rd w B (cells l) u) (hB:B<=w.heap.size):
  Calls Tryz.prog 207 #[u,.string key] w fun e w'=>∃r:Int,e= .returned (.int .i64 r)/\ -1<=r/\r<l.length/\Qc [] w w':=by
 obtain⟨A,cap,rfl,h0,h1,hrow⟩:=QX hr
 unfold maxLen at h1
 clear hr
 go_enter Tryz.func207,Tryz.ntmps207
 go_wp2_with fail
 go_loopw [9] (fun i wr=>∃k:Nat,k<=l.length/\i= .int .i64 k/\Qc [] w wr) (fun i _=>l.length-(intOf i).toNat)
 case atStart=>exact⟨0,I3 _,rfl,B0 _ _⟩
 case round=>
  obtain⟨k,hk,rfl,hc⟩:=hrel
  by_cases hlt:k<l.length
  ·obtain⟨b,off,rfl,hb,q0,q1⟩:=Xr (hrow.cz hc hB) k hlt
   have hcs:=hc.size
   cases hq:(l[k].key.toList==key.toList)
   ·go_wp2_with fail
    go_roundw
    case rel=>exact⟨k+1,by omega,by go_num,hc.alloc _⟩
    case measure=>simp [intOf];omega
   ·go_wp2_with fail
    go_ret
    exact⟨_,rfl,by omega,by omega,hc.alloc _⟩
  ·obtain rfl:k=l.length:=by omega
   go_wp2_with fail
   go_ret
   exact⟨_,rfl,by omega,by omega,hc⟩
def SmC (c:QC):Prop:=c.key.size<=16/\0<=c.value/\c.value<=99
def QcI (n:Nat) (w:World) (e:Ending) (w':World):Prop:=∃out:List QC,out.length<=n/\(∀c∈out,SmC c)/\KW (cells out) w e w'
theorem QfT (a b:ByteArray) (W:World):(binOp .geq 9 (.string a) (.string b)).run Tryz.prog W= .ok (.bool (!Op.bytesLess a.toList b.toList)) W:=by
 simp [binOp,go_sem,Op.stringOp]
theorem QdF (l:List QC) (key:ByteArray) (v:Int) (u:Value) (B:Nat) (w:World) (hr:Rd w B (cells l) u) (hB:B<=w.heap.size) (hl:l.length<=1000) (hs:∀c∈l,SmC c) (hk:SmC ⟨key,v⟩):
  Calls Tryz.prog 208 #[u,.string key,.int .i64 v] w (QcI (l.length+1) w):=by
 obtain⟨A,cap,rfl,h0,h1,hrow⟩:=QX hr
 unfold maxLen at h1
 have HS:=Qb hs
 have HK:=Qb hk
 clear hr hs hk
 go_enter Tryz.func208,Tryz.ntmps208
 go_wp2_with fail
 go_loopw [7,8,14] (fun o d i wr=>∃(k:Nat) (A':Option Addr) (cap':Nat) (out:List QC) (t:Bool),k<=l.length/\i= .int .i64 k/\d= .bool t/\o= .slice A' out.length cap'/\Yo w wr 194 2 (.slice A' out.length cap') out.length (out.flatMap Vu)/\out.length<=k+(if t then 1 else 0)/\Hid (∀c∈out,SmC c)) (fun _ _ i _=>l.length-(intOf i).toNat)
 case atStart=>exact⟨0,_,0,[],false,I3 _,rfl,rfl,rfl,Yo.empty w _ _ (B0 _ _),by simp,by simp [Hid]⟩
 case round=>
  obtain⟨k,A',cap',out,t,hkl,rfl,rfl,rfl,hh,hol,HO⟩:=hrel
  have hcg:=hh.chg
  by_cases hlt:k<l.length
  ·obtain⟨b,off,rfl,hb,q0,q1⟩:=Xr (hrow.cz hcg hB) k hlt
   have HM:=Qb (HS.out _ (I4 hlt))
   have hsz:=hcg.size
   have hge:=fun W=>QfT l[k].key key W
   obtain⟨c,hc⟩:∃c,c=l[k]:=⟨_,rfl⟩
   rw [<-hc] at q0 q1 HM hge
   clear hc
   have hob:out.length<=k+1:=by cases t<;>simp at hol<;>omega
   cases t
   ·cases hg:Op.bytesLess c.key.toList key.toList
    ·rw [hg] at hge
     cases hq:(c.key.toList==key.toList)
     ·go_wp2_with (at_builtin;first|(refine xa rfl (.tmp 26) (.tmp 30) _ rfl 194 _ 2 24 Tryz.underlying92 Za rfl (by omega) hh (us:=[.string key,.int .i64 v]) (dsE:=Vu ⟨key,v⟩) ⟨[],I2 (I2 (T8 _)),by simp,((B0 _ _).alloc _).alloc _⟩ rfl (wr.heap.size+1) 1 rfl rfl (by intro j u hj;match j with|0|1=>cases hj;go_simp|j+2=>simp at hj) (by intro u hu;simp at hu;rcases hu with rfl|rfl<;>rfl) (by omega) (by omega) ?_;intro A2 cap2 w2 hA2 hst;obtain⟨hs2,hst⟩:=hst;have b0:=(hst wr.heap.size (F0 _) (by simp;omega) 0).trans (show _=some (.string c.key) by go_simp);have b1:=(hst wr.heap.size (F0 _) (by simp;omega) 1).trans (show _=some (.int .i64 c.value) by go_simp))|(refine ZN rfl (.tmp 36) (.tmp 38) _ rfl 194 _ 2 24 Tryz.underlying92 Za rfl (by omega) hA2 (us:=[.string c.key,.int .i64 c.value]) (dsE:=Vu c) ⟨[],I2 (I2 (T8 _)),by simp,(B0 _ _).alloc _⟩ rfl w2.heap.size 1 rfl rfl (by intro j u hj;match j with|0|1=>cases hj;go_simp|j+2=>simp at hj) (by intro u hu;simp at hu;rcases hu with rfl|rfl<;>rfl) (by omega) (by omega) ?_;intro A3 cap3 w3 hA3))
      go_roundw
      case rel=>exact⟨k+1,A3,cap3,out++ [⟨key,v⟩,c],true,by omega,by go_num,rfl,by simp,by simpa using hA3,by simp at hol ⊢;omega,(Qb (fun x hx=>by simp at hx;rcases hx with hx|rfl|rfl<;>first|exact HO.out x hx|exact HK.out|exact HM.out))⟩
      case measure=>simp [intOf];omega
     ·go_wp2_with (at_builtin;first|(refine xa rfl (.tmp 26) (.tmp 30) _ rfl 194 _ 2 24 Tryz.underlying92 Za rfl (by omega) hh (us:=[.string key,.int .i64 v]) (dsE:=Vu ⟨key,v⟩) ⟨[],I2 (I2 (T8 _)),by simp,((B0 _ _).alloc _).alloc _⟩ rfl (wr.heap.size+1) 1 rfl rfl (by intro j u hj;match j with|0|1=>cases hj;go_simp|j+2=>simp at hj) (by intro u hu;simp at hu;rcases hu with rfl|rfl<;>rfl) (by omega) (by omega) ?_;intro A2 cap2 w2 hA2 hst;obtain⟨hs2,hst⟩:=hst;have b0:=(hst wr.heap.size (F0 _) (by simp;omega) 0).trans (show _=some (.string c.key) by go_simp);have b1:=(hst wr.heap.size (F0 _) (by simp;omega) 1).trans (show _=some (.int .i64 c.value) by go_simp)))
      go_roundw
      case rel=>exact⟨k+1,A2,cap2,out++ [⟨key,v⟩],true,by omega,by go_num,rfl,by simp,by simpa using hA2,by simp at hol ⊢;omega,(Qb (fun x hx=>by simp at hx;rcases hx with hx|rfl<;>first|exact HO.out x hx|exact HK.out|exact HM.out))⟩
      case measure=>simp [intOf];omega
    ·rw [hg] at hge
     cases hq:(c.key.toList==key.toList)
     ·go_wp2_with (at_builtin;first|(refine ZN rfl (.tmp 36) (.tmp 38) _ rfl 194 _ 2 24 Tryz.underlying92 Za rfl (by omega) hh (us:=[.string c.key,.int .i64 c.value]) (dsE:=Vu c) ⟨[],I2 (I2 (T8 _)),by simp,((B0 _ _).alloc _).alloc _⟩ rfl (wr.heap.size+1) 1 rfl rfl (by intro j u hj;match j with|0|1=>cases hj;go_simp|j+2=>simp at hj) (by intro u hu;simp at hu;rcases hu with rfl|rfl<;>rfl) (by omega) (by omega) ?_;intro A3 cap3 w3 hA3))
      go_roundw
      case rel=>exact⟨k+1,A3,cap3,out++ [c],false,by omega,by go_num,rfl,by simp,by simpa using hA3,by simp at hol ⊢;omega,(Qb (fun x hx=>by simp at hx;rcases hx with hx|rfl<;>first|exact HO.out x hx|exact HK.out|exact HM.out))⟩
      case measure=>simp [intOf];omega
     ·go_wp2_with fail
      go_roundw
      case rel=>exact⟨k+1,A',cap',out,false,by omega,by go_num,rfl,by simp,by simpa using (hh.later ((B0 _ _).alloc _)),by simp at hol ⊢;omega,HO⟩
      case measure=>simp [intOf];omega
   ·cases hq:(c.key.toList==key.toList)
    ·go_wp2_with (at_builtin;first|(refine ZN rfl (.tmp 36) (.tmp 38) _ rfl 194 _ 2 24 Tryz.underlying92 Za rfl (by omega) hh (us:=[.string c.key,.int .i64 c.value]) (dsE:=Vu c) ⟨[],I2 (I2 (T8 _)),by simp,((B0 _ _).alloc _).alloc _⟩ rfl (wr.heap.size+1) 1 rfl rfl (by intro j u hj;match j with|0|1=>cases hj;go_simp|j+2=>simp at hj) (by intro u hu;simp at hu;rcases hu with rfl|rfl<;>rfl) (by omega) (by omega) ?_;intro A3 cap3 w3 hA3))
     go_roundw
     case rel=>exact⟨k+1,A3,cap3,out++ [c],true,by omega,by go_num,rfl,by simp,by simpa using hA3,by simp at hol ⊢;omega,(Qb (fun x hx=>by simp at hx;rcases hx with hx|rfl<;>first|exact HO.out x hx|exact HK.out|exact HM.out))⟩
     case measure=>simp [intOf];omega
    ·go_wp2_with fail
     go_roundw
     case rel=>exact⟨k+1,A',cap',out,true,by omega,by go_num,rfl,by simp,by simpa using (hh.later ((B0 _ _).alloc _)),by simp at hol ⊢;omega,HO⟩
     case measure=>simp [intOf];omega
  ·obtain rfl:k=l.length:=by omega
   have hob:out.length<=l.length+1:=by cases t<;>simp at hol<;>omega
   cases t
   ·go_wp2_with (at_builtin;(refine ZN rfl (.tmp 43) (.tmp 47) _ rfl 194 _ 2 24 Tryz.underlying92 Za rfl (by omega) hh (us:=[.string key,.int .i64 v]) (dsE:=Vu ⟨key,v⟩) ⟨[],I2 (I2 (T8 _)),by simp,(B0 _ _).alloc _⟩ rfl wr.heap.size 1 rfl rfl (by intro j u hj;match j with|0|1=>cases hj;go_simp|j+2=>simp at hj) (by intro u hu;simp at hu;rcases hu with rfl|rfl<;>rfl) (by omega) (by omega) ?_;intro A3 cap3 w3 hA3))
    go_ret
    exact⟨out++ [⟨key,v⟩],by simp at hol ⊢;omega,((Qb (fun x hx=>by simp at hx;rcases hx with hx|rfl<;>first|exact HO.out x hx|exact HK.out|exact HM.out))).out,_,rfl,by have:=hA3.new;unfold cells;simpa using this⟩
   ·go_wp2_with fail
    go_ret
    exact⟨out,by simp at hol ⊢;omega,HO.out,_,rfl,by have:=hh.new;unfold cells;simpa using this⟩
end Go.Proofs.YtfjhdnjlhjimeaaGreatDoor
namespace Go.Proofs.YtfjhdnjlhjimeaaGreatDoor
open Go.ChangeShapes Go.WideShapes Go.RowKit Go.Deep

abbrev QcS:={n:Int // 0<=n/\n<=255}
def xh (n:QcS):List QD:=[.v (.int .u8 n.1)]
theorem QdJ (n:QcS):(xh n).length=1:=rfl
theorem Vp.u8 {P:Program} {N:Nat} {t:TypeId} (ht:P.underlying t=some (.int .u8)):Vp P N t xh:=by
 intro H enc w n cs x _ h
 obtain⟨m,rfl,_,hw⟩:=DataW.trod_int ht h
 exact⟨⟨m,bounds_u8 hw⟩,by simp [xh,Jl,Qdq,QgD],RdV.one (by rw [Rd])⟩
theorem jH:Tryz.prog.cellsOf 5=1:=by kernel_rfl
theorem Qax (N:Nat):Vp Tryz.prog N 22 (vl xh):=
 Vp.mono (Vp.slice (F:=xh) Tryz.underlying22 jH (by omega) QdJ (Vp.u8 (N:=N) Tryz.underlying5)) (by omega)
theorem ku (l:List QcS):l.flatMap xh=l.map (fun n=>QD.v (.int .u8 n.1)):=by
 induction l with
 |nil=>rfl
 |cons a l ih=>rw [J6,ih];rfl
theorem QdC {w:World} {B:Nat} {l:List QcS} {u:Value} (h:Rd w B (.s l.length (l.flatMap xh)) u):∃A cap,u= .slice A l.length cap/\l.length<=cap/\cap<=maxLen/\Kj w B A l.length:=by
 obtain⟨A,cap,rfl,h0,h1,h2⟩:=h.at_
 refine⟨A,cap,rfl,h0,h1,fun j hj=>?_⟩
 have hne:l.flatMap xh≠ []:=by
  rw [ku]
  intro e
  have:=congrArg List.length e
  simp at this
  subst this
  simp at hj
 obtain⟨b,off,rfl,hb,hx⟩:=h2 hne
 obtain⟨u,hu,hd⟩:=hx j (.v (.int .u8 l[j].1)) (by rw [ku];simp [hj])
 rw [Rd] at hd
 subst hd
 exact⟨b,off,l[j].1,rfl,hb,hu,l[j].2⟩
end Go.Proofs.YtfjhdnjlhjimeaaGreatDoor
