/- PlanSize and PlanDepth. Conditions: as stated. -/
import Derived.Test.YtfjhdnjlhjimeaaGreatDoorTypesA
set_option maxRecDepth 100000
set_option maxHeartbeats 2000000
namespace Go.Proofs.YtfjhdnjlhjimeaaGreatDoor
open Go.RowKit

theorem Zd {z:Int} (h0: -9223372036854775808<=z) (h1:z<=9223372036854775807):IntKind.i64.wrap z=z:=by
 rw [IntKind.wrap_i64];omega
theorem VJ:∀l m:List Qa,Qd (l++m)=Qd l+Qd m
 | [],m=>by simp [Qd]
 |a::l,m=>by rw [M2,Qd,VJ l m,Qd];omega
theorem Vj (l:List Qa) (k:Nat) (h:k<l.length):Qd (l.take (k+1))=Qd (l.take k)+l[k].size:=by
 rw [G6 h,VJ];simp [Qd]
theorem zz (l:List Qa) (k:Nat):Qd (l.take k)<=Qd l:=by
 have:=VJ (l.take k) (l.drop k)
 rw [T7] at this
 omega
theorem xU (l:List Qa):Qd l<=Qi l:=by
 have key:∀n (l:List Qa),Qd l<=n->Qd l<=Qi l:=by
  intro n
  induction n with
  |zero=>intro l h;omega
  | succ n ih=>
   intro l
   induction l with
   |nil=>intro _;simp [Qd]
   |cons a l ihl=>
    intro h
    rw [Qd] at h ⊢
    have e1:=a.size_eq
    have e2:=Wf a
    have h1:=ih a.A (by omega)
    have h2:=ih a.B (by omega)
    have h3:=ihl (by omega)
    unfold Qi Wv at h3 ⊢
    simp only [I1,I9,V8]
    omega
 exact key _ l (F0 _)

mutual
def Qa.depth:Qa->Nat
 | .mk _ _ _ _ _ _ A B=>1+max (Qv A) (Qv B)
def Qv:List Qa->Nat
 | []=>0
 |a::l=>max a.depth (Qv l)
end
theorem Qa.depth_eq (a:Qa):a.depth=1+max (Qv a.A) (Qv a.B):=by
 cases a;rw [Qa.depth];rfl
theorem qc:∀l m:List Qa,Qv (l++m)=max (Qv l) (Qv m)
 | [],m=>by simp [Qv]
 |a::l,m=>by rw [M2,Qv,qc l m,Qv];omega
theorem xg (l:List Qa) (k:Nat) (h:k<l.length):Qv (l.take (k+1))=max (Qv (l.take k)) l[k].depth:=by
 rw [G6 h,qc];simp [Qv]
theorem wO {l:List Qa} {a:Qa} (h:a∈l):a.depth<=Qv l:=by
 induction l with
 |nil=>cases h
 |cons b l ih=>
  rw [Qv]
  rcases C7.1 h with rfl|h
  ·omega
  ·have:=ih h;omega
theorem yR (l:List Qa):Qv l<=Qd l:=by
 have key:∀n (l:List Qa),Qd l<=n->Qv l<=Qd l:=by
  intro n
  induction n with
  |zero=>
   intro l h
   cases l with
   |nil=>simp [Qv]
   |cons a l=>rw [Qd] at h;have:=a.size_eq;omega
  | succ n ih=>
   intro l
   induction l with
   |nil=>intro _;simp [Qv]
   |cons a l ihl=>
    intro h
    rw [Qd] at h ⊢
    rw [Qv]
    have e1:=a.size_eq
    have e2:=a.depth_eq
    have h1:=ih a.A (by omega)
    have h2:=ih a.B (by omega)
    have h3:=ihl (by omega)
    omega
 exact key _ l (F0 _)

def vY (l:List Qa):Prop:=∀(u:Value) (B:Nat) (w:World),Qd l<=100000000->Rd w B (QA l) u->B<=w.heap.size->
 Calls Tryz.prog 89 #[u] w fun e w'=>e= .returned (.int .i64 (Qd l))/\Qc [] w w'
theorem zL:∀l,vY l:=by
 refine j4 fun l ih=>?_
 intro u B w hl hr hB
 obtain⟨A,cap,rfl,h0,h1,hrow⟩:=Qr hr
 unfold maxLen at h1
 have IH:=Qb ih
 clear ih hr
 go_enter Tryz.func89,Tryz.ntmps89
 go_wp2_with fail
 go_loopw [3,8] (fun n i wr=>∃(k:Nat) (x:Int),k<=l.length/\i= .int .i64 k/\n= .int .i64 x/\0<=x/\x<=100000000/\Hid (x=Qd (l.take k))/\Qc [] w wr) (fun _ i _=>l.length-(intOf i).toNat)
 case atStart=>exact⟨0,0,I3 _,rfl,rfl,by omega,by omega,by simp [Qd,Hid],B0 _ _⟩
 case round=>
  obtain⟨k,x,hk,rfl,rfl,hx0,hx1,HX,hc⟩:=hrel
  by_cases hlt:k<l.length
  ·obtain⟨b,off,uA,uB,rfl,hb,q0,q1,q2,q3,q4,q5,q6,q7,q8,q9,q10,rA,rB⟩:=Yh (hrow.cz hc hB) k hlt
   obtain⟨A1,cap1,rfl,_,_,_⟩:=Qr rA
   obtain⟨A2,cap2,rfl,_,_,_⟩:=Qr rB
   have hmem:=I4 hlt
   have hsA:x+(1+Qd l[k].A+Qd l[k].B)<=100000000:=by
    have:=Vj l k hlt;have:=zz l (k+1);have:=l[k].size_eq;have:=HX.out;omega
   have cA:=fun W (hW:Qc [] wr W)=>(IH.out _ hmem).1 _ B W (by omega) (rA.cz hW (by have:=hc.size;omega)) (by have:=hc.size;have:=hW.size;omega)
   have cB:=fun W (hW:Qc [] wr W)=>(IH.out _ hmem).2 _ B W (by omega) (rB.cz hW (by have:=hc.size;omega)) (by have:=hc.size;have:=hW.size;omega)
   have HA:=Qb cA;have HB:=Qb cB;clear cA cB
   go_wp2_with fail
   go_region_held3 (fun w'=>w'.cell? ⟨wr.heap.size,9,none⟩=some (.slice A1 l[k].A.length cap1)/\w'.cell? ⟨wr.heap.size,10,none⟩=some (.slice A2 l[k].B.length cap2)/\wr.heap.size<w'.heap.size/\Qc [] wr w') (first|exact⟨by go_simp,by go_simp,by simp,((B0 _ _).alloc _).drew⟩|exact⟨(c1.cell E3 (by simp)).trans E1,(c1.cell E3 (by simp)).trans E2,by have:=c1.size;omega,E4.tz c1⟩) (first|(go_at_call 89;obtain⟨E1,E2,E3,E4⟩:= ‹_/\_/\_/\Qc [] wr _›;(with_reducible refine(HA.out _ E4).mono ?_);rintro e w1 ⟨rfl,c1⟩)|(go_at_call 89;obtain⟨E1,E2,E3,E4⟩:= ‹_/\_/\_/\Qc [] wr _›;(with_reducible refine(HB.out _ E4).mono ?_);rintro e w1 ⟨rfl,c1⟩))
   obtain⟨_,_,_,E⟩:= ‹_/\_/\_/\Qc [] wr _›
   go_wp2_with fail
   go_roundw
   case rel=>
    have e1:=Vj l k hlt
    have e2:=l[k].size_eq
    have e3:=HX.out
    have a1:=Zd (z:=x+1) (by omega) (by omega)
    have a2:=Zd (z:=x+1+(Qd l[k].A:Int)) (by omega) (by omega)
    have a3:=Zd (z:=x+1+(Qd l[k].A:Int)+(Qd l[k].B:Int)) (by omega) (by omega)
    refine⟨k+1,x+1+(Qd l[k].A:Int)+(Qd l[k].B:Int),by omega,by go_num,by rw [a1,a2,a3],by omega,by omega,?_,hc.tz E⟩
    show _=_
    rw [e1,e2];omega
   case measure=>simp [intOf];omega
  ·obtain rfl:k=l.length:=by omega
   go_wp2_with fail
   go_ret
   have h5:=HX.out
   rw [I8] at h5
   exact⟨VG h5,hc⟩
theorem zT (l:List Qa) (u:Value) (B:Nat) (w:World) (hW:Qi l<=1048576) (hr:Rd w B (QA l) u) (hB:B<=w.heap.size):
  Calls Tryz.prog 89 #[u] w fun e w'=>e= .returned (.int .i64 (Qd l))/\Qc [] w w':=zL l u B w (by have:=xU l;omega) hr hB
def vZ (l:List Qa):Prop:=∀(u:Value) (B:Nat) (w:World),Qd l<=100000000->Rd w B (QA l) u->B<=w.heap.size->
 Calls Tryz.prog 13 #[u] w fun e w'=>e= .returned (.int .i64 (Qd l))/\Qc [] w w'
theorem Zc:∀l,vZ l:=by
 refine j4 fun l ih=>?_
 intro u B w hl hr hB
 obtain⟨A,cap,rfl,h0,h1,hrow⟩:=Qr hr
 unfold maxLen at h1
 have IH:=Qb ih
 clear ih hr
 go_enter Tryz.func13,Tryz.ntmps13
 go_wp2_with fail
 go_loopw [3,8] (fun n i wr=>∃(k:Nat) (x:Int),k<=l.length/\i= .int .i64 k/\n= .int .i64 x/\0<=x/\x<=100000000/\Hid (x=Qd (l.take k))/\Qc [] w wr) (fun _ i _=>l.length-(intOf i).toNat)
 case atStart=>exact⟨0,0,I3 _,rfl,rfl,by omega,by omega,by simp [Qd,Hid],B0 _ _⟩
 case round=>
  obtain⟨k,x,hk,rfl,rfl,hx0,hx1,HX,hc⟩:=hrel
  by_cases hlt:k<l.length
  ·obtain⟨b,off,uA,uB,rfl,hb,q0,q1,q2,q3,q4,q5,q6,q7,q8,q9,q10,rA,rB⟩:=Yh (hrow.cz hc hB) k hlt
   obtain⟨A1,cap1,rfl,_,_,_⟩:=Qr rA
   obtain⟨A2,cap2,rfl,_,_,_⟩:=Qr rB
   have hmem:=I4 hlt
   have hsA:x+(1+Qd l[k].A+Qd l[k].B)<=100000000:=by
    have:=Vj l k hlt;have:=zz l (k+1);have:=l[k].size_eq;have:=HX.out;omega
   have cA:=fun W (hW:Qc [] wr W)=>(IH.out _ hmem).1 _ B W (by omega) (rA.cz hW (by have:=hc.size;omega)) (by have:=hc.size;have:=hW.size;omega)
   have cB:=fun W (hW:Qc [] wr W)=>(IH.out _ hmem).2 _ B W (by omega) (rB.cz hW (by have:=hc.size;omega)) (by have:=hc.size;have:=hW.size;omega)
   have HA:=Qb cA;have HB:=Qb cB;clear cA cB
   go_wp2_with fail
   go_region_held3 (fun w'=>w'.cell? ⟨wr.heap.size,9,none⟩=some (.slice A1 l[k].A.length cap1)/\w'.cell? ⟨wr.heap.size,10,none⟩=some (.slice A2 l[k].B.length cap2)/\wr.heap.size<w'.heap.size/\Qc [] wr w') (first|exact⟨by go_simp,by go_simp,by simp,((B0 _ _).alloc _).drew⟩|exact⟨(c1.cell E3 (by simp)).trans E1,(c1.cell E3 (by simp)).trans E2,by have:=c1.size;omega,E4.tz c1⟩) (first|(go_at_call 13;obtain⟨E1,E2,E3,E4⟩:= ‹_/\_/\_/\Qc [] wr _›;(with_reducible refine(HA.out _ E4).mono ?_);rintro e w1 ⟨rfl,c1⟩)|(go_at_call 13;obtain⟨E1,E2,E3,E4⟩:= ‹_/\_/\_/\Qc [] wr _›;(with_reducible refine(HB.out _ E4).mono ?_);rintro e w1 ⟨rfl,c1⟩))
   obtain⟨_,_,_,E⟩:= ‹_/\_/\_/\Qc [] wr _›
   go_wp2_with fail
   go_roundw
   case rel=>
    have e1:=Vj l k hlt
    have e2:=l[k].size_eq
    have e3:=HX.out
    have a1:=Zd (z:=1+(Qd l[k].A:Int)) (by omega) (by omega)
    have a2:=Zd (z:=1+(Qd l[k].A:Int)+(Qd l[k].B:Int)) (by omega) (by omega)
    have a3:=Zd (z:=x+(1+(Qd l[k].A:Int)+(Qd l[k].B:Int))) (by omega) (by omega)
    refine⟨k+1,x+(1+(Qd l[k].A:Int)+(Qd l[k].B:Int)),by omega,by go_num,by rw [a1,a2,a3],by omega,by omega,?_,hc.tz E⟩
    show _=_
    rw [e1,e2];omega
   case measure=>simp [intOf];omega
  ·obtain rfl:k=l.length:=by omega
   go_wp2_with fail
   go_ret
   have h5:=HX.out
   rw [I8] at h5
   exact⟨VG h5,hc⟩
theorem zP (l:List Qa) (u:Value) (B:Nat) (w:World) (hW:Qi l<=1048576) (hr:Rd w B (QA l) u) (hB:B<=w.heap.size):
  Calls Tryz.prog 13 #[u] w fun e w'=>e= .returned (.int .i64 (Qd l))/\Qc [] w w':=Zc l u B w (by have:=xU l;omega) hr hB
theorem QdA (a b:Int) (w:World):Calls Tryz.prog 131 #[.int .i64 a,.int .i64 b] w fun e w'=>e= .returned (.int .i64 (max a b))/\w=w':=by
 by_cases h:b<a
 ·go_enter Tryz.func131,Tryz.ntmps131
  go_wp2_with fail
  go_ret
  exact⟨VG (by omega),rfl⟩
 ·go_enter Tryz.func131,Tryz.ntmps131
  go_wp2_with fail
  go_ret
  exact⟨VG (by omega),rfl⟩
def wD (l:List Qa):Prop:=∀(u:Value) (B:Nat) (w:World),Qv l<=100000000->Rd w B (QA l) u->B<=w.heap.size->
 Calls Tryz.prog 90 #[u] w fun e w'=>e= .returned (.int .i64 (Qv l))/\Qc [] w w'
theorem qU:∀l,wD l:=by
 refine j4 fun l ih=>?_
 intro u B w hl hr hB
 obtain⟨A,cap,rfl,h0,h1,hrow⟩:=Qr hr
 unfold maxLen at h1
 have IH:=Qb ih
 clear ih hr
 go_enter Tryz.func90,Tryz.ntmps90
 go_wp2_with fail
 go_loopw [3,8] (fun n i wr=>∃(k:Nat) (x:Int),k<=l.length/\i= .int .i64 k/\n= .int .i64 x/\0<=x/\x<=100000000/\Hid (x=Qv (l.take k))/\Qc [] w wr) (fun _ i _=>l.length-(intOf i).toNat)
 case atStart=>exact⟨0,0,I3 _,rfl,rfl,by omega,by omega,by simp [Qv,Hid],B0 _ _⟩
 case round=>
  obtain⟨k,x,hk,rfl,rfl,hx0,hx1,HX,hc⟩:=hrel
  by_cases hlt:k<l.length
  ·obtain⟨b,off,uA,uB,rfl,hb,q0,q1,q2,q3,q4,q5,q6,q7,q8,q9,q10,rA,rB⟩:=Yh (hrow.cz hc hB) k hlt
   obtain⟨A1,cap1,rfl,_,_,_⟩:=Qr rA
   obtain⟨A2,cap2,rfl,_,_,_⟩:=Qr rB
   have hmem:=I4 hlt
   have hsA:Qv l[k].A<=100000000-1/\Qv l[k].B<=100000000-1:=by
    have:=wO hmem;have:=l[k].depth_eq;omega
   have cA:=fun W (hW:Qc [] wr W)=>(IH.out _ hmem).1 _ B W (by omega) (rA.cz hW (by have:=hc.size;omega)) (by have:=hc.size;have:=hW.size;omega)
   have cB:=fun W (hW:Qc [] wr W)=>(IH.out _ hmem).2 _ B W (by omega) (rB.cz hW (by have:=hc.size;omega)) (by have:=hc.size;have:=hW.size;omega)
   have HA:=Qb cA;have HB:=Qb cB;clear cA cB
   obtain⟨pA,hpA⟩:∃p:Int,p=Qv l[k].A:=⟨_,rfl⟩
   obtain⟨pB,hpB⟩:∃p:Int,p=Qv l[k].B:=⟨_,rfl⟩
   rw [<-hpA] at HA
   rw [<-hpB] at HB
   have hA0:0<=pA/\pA<=99999999:=by omega
   have hB0:0<=pB/\pB<=99999999:=by omega
   have HPA:=Qb hpA;have HPB:=Qb hpB;clear hpA hpB hsA
   go_wp2_with fail
   go_region_held3 (fun w'=>w'.cell? ⟨wr.heap.size,9,none⟩=some (.slice A1 l[k].A.length cap1)/\w'.cell? ⟨wr.heap.size,10,none⟩=some (.slice A2 l[k].B.length cap2)/\wr.heap.size<w'.heap.size/\Qc [] wr w') (first|exact⟨by go_simp,by go_simp,by simp,((B0 _ _).alloc _).drew⟩|exact⟨(c1.cell E3 (by simp)).trans E1,(c1.cell E3 (by simp)).trans E2,by have:=c1.size;omega,E4.tz c1⟩|assumption) (first|(go_at_call 90;obtain⟨E1,E2,E3,E4⟩:= ‹_/\_/\_/\Qc [] wr _›;(with_reducible refine(HA.out _ E4).mono ?_);rintro e w1 ⟨rfl,c1⟩)|(go_at_call 90;obtain⟨E1,E2,E3,E4⟩:= ‹_/\_/\_/\Qc [] wr _›;(with_reducible refine(HB.out _ E4).mono ?_);rintro e w1 ⟨rfl,c1⟩)|(go_at_call 131;refine(QdA _ _ _).mono ?_;rintro e w1 ⟨rfl,rfl⟩;have c1:=B0 [] w1))
   obtain⟨_,_,_,E⟩:= ‹_/\_/\_/\Qc [] wr _›
   have e1:=xg l k hlt
   have e2:=l[k].depth_eq
   have a1:=Zd (z:=1+max pA pB) (by omega) (by omega)
   have a2:=Zd (z:=1+pA) (by omega) (by omega)
   have a3:=Zd (z:=1+pB) (by omega) (by omega)
   have A1_:=Qb a1;have A2_:=Qb a2;have A3_:=Qb a3;have E1_:=Qb e1;have E2_:=Qb e2
   clear a1 a2 a3 e1 e2
   go_wp2_with fail
   go_roundw
   case rel=>
    have e1:=E1_.out;have e2:=E2_.out;have e3:=HX.out;have e4:=HPA.out;have e5:=HPB.out
    refine⟨k+1,max x (1+max pA pB),by omega,by go_num,?_,by omega,by omega,?_,hc.tz E⟩
    ·rw [A1_.out]
    ·show _=_
     rw [e1,e2];omega
   case measure=>simp [intOf];omega
  ·obtain rfl:k=l.length:=by omega
   go_wp2_with fail
   go_ret
   have h5:=HX.out
   rw [I8] at h5
   exact⟨VG h5,hc⟩
theorem qS (l:List Qa) (u:Value) (B:Nat) (w:World) (hW:Qi l<=1048576) (hr:Rd w B (QA l) u) (hB:B<=w.heap.size):
  Calls Tryz.prog 90 #[u] w fun e w'=>e= .returned (.int .i64 (Qv l))/\Qc [] w w':=qU l u B w (by have:=xU l;have:=yR l;omega) hr hB
def vJ (l:List Qa):Prop:=∀(u:Value) (B:Nat) (w:World),Qv l<=100000000->Rd w B (QA l) u->B<=w.heap.size->
 Calls Tryz.prog 41 #[u] w fun e w'=>e= .returned (.int .i64 (Qv l))/\Qc [] w w'
theorem qW:∀l,vJ l:=by
 refine j4 fun l ih=>?_
 intro u B w hl hr hB
 obtain⟨A,cap,rfl,h0,h1,hrow⟩:=Qr hr
 unfold maxLen at h1
 have IH:=Qb ih
 clear ih hr
 go_enter Tryz.func41,Tryz.ntmps41
 go_wp2_with fail
 go_loopw [3,8] (fun n i wr=>∃(k:Nat) (x:Int),k<=l.length/\i= .int .i64 k/\n= .int .i64 x/\0<=x/\x<=100000000/\Hid (x=Qv (l.take k))/\Qc [] w wr) (fun _ i _=>l.length-(intOf i).toNat)
 case atStart=>exact⟨0,0,I3 _,rfl,rfl,by omega,by omega,by simp [Qv,Hid],B0 _ _⟩
 case round=>
  obtain⟨k,x,hk,rfl,rfl,hx0,hx1,HX,hc⟩:=hrel
  by_cases hlt:k<l.length
  ·obtain⟨b,off,uA,uB,rfl,hb,q0,q1,q2,q3,q4,q5,q6,q7,q8,q9,q10,rA,rB⟩:=Yh (hrow.cz hc hB) k hlt
   obtain⟨A1,cap1,rfl,_,_,_⟩:=Qr rA
   obtain⟨A2,cap2,rfl,_,_,_⟩:=Qr rB
   have hmem:=I4 hlt
   have hsA:Qv l[k].A<=100000000-1/\Qv l[k].B<=100000000-1:=by
    have:=wO hmem;have:=l[k].depth_eq;omega
   have cA:=fun W (hW:Qc [] wr W)=>(IH.out _ hmem).1 _ B W (by omega) (rA.cz hW (by have:=hc.size;omega)) (by have:=hc.size;have:=hW.size;omega)
   have cB:=fun W (hW:Qc [] wr W)=>(IH.out _ hmem).2 _ B W (by omega) (rB.cz hW (by have:=hc.size;omega)) (by have:=hc.size;have:=hW.size;omega)
   have HA:=Qb cA;have HB:=Qb cB;clear cA cB
   obtain⟨pA,hpA⟩:∃p:Int,p=Qv l[k].A:=⟨_,rfl⟩
   obtain⟨pB,hpB⟩:∃p:Int,p=Qv l[k].B:=⟨_,rfl⟩
   rw [<-hpA] at HA
   rw [<-hpB] at HB
   have hA0:0<=pA/\pA<=99999999:=by omega
   have hB0:0<=pB/\pB<=99999999:=by omega
   have HPA:=Qb hpA;have HPB:=Qb hpB;clear hpA hpB hsA
   go_wp2_with fail
   go_region_held3 (fun w'=>w'.cell? ⟨wr.heap.size,9,none⟩=some (.slice A1 l[k].A.length cap1)/\w'.cell? ⟨wr.heap.size,10,none⟩=some (.slice A2 l[k].B.length cap2)/\wr.heap.size<w'.heap.size/\Qc [] wr w') (first|exact⟨by go_simp,by go_simp,by simp,((B0 _ _).alloc _).drew⟩|exact⟨(c1.cell E3 (by simp)).trans E1,(c1.cell E3 (by simp)).trans E2,by have:=c1.size;omega,E4.tz c1⟩|assumption) (first|(go_at_call 41;obtain⟨E1,E2,E3,E4⟩:= ‹_/\_/\_/\Qc [] wr _›;(with_reducible refine(HA.out _ E4).mono ?_);rintro e w1 ⟨rfl,c1⟩)|(go_at_call 41;obtain⟨E1,E2,E3,E4⟩:= ‹_/\_/\_/\Qc [] wr _›;(with_reducible refine(HB.out _ E4).mono ?_);rintro e w1 ⟨rfl,c1⟩))
   obtain⟨_,_,_,E⟩:= ‹_/\_/\_/\Qc [] wr _›
   have e1:=xg l k hlt
   have e2:=l[k].depth_eq
   have a1:=Zd (z:=1+max pA pB) (by omega) (by omega)
   have a2:=Zd (z:=1+pA) (by omega) (by omega)
   have a3:=Zd (z:=1+pB) (by omega) (by omega)
   have A1_:=Qb a1;have A2_:=Qb a2;have A3_:=Qb a3;have E1_:=Qb e1;have E2_:=Qb e2
   clear a1 a2 a3 e1 e2
   go_wp2_with fail
   go_roundw
   case rel=>
    have e1:=E1_.out;have e2:=E2_.out;have e3:=HX.out;have e4:=HPA.out;have e5:=HPB.out
    refine⟨k+1,max x (1+max pA pB),by omega,by go_num,?_,by omega,by omega,?_,hc.tz E⟩
    ·rw [A2_.out,A3_.out];congr 1;split<;>split<;>omega
    ·show _=_
     rw [e1,e2];omega
   case measure=>simp [intOf];omega
  ·obtain rfl:k=l.length:=by omega
   go_wp2_with fail
   go_ret
   have h5:=HX.out
   rw [I8] at h5
   exact⟨VG h5,hc⟩
theorem qR (l:List Qa) (u:Value) (B:Nat) (w:World) (hW:Qi l<=1048576) (hr:Rd w B (QA l) u) (hB:B<=w.heap.size):
  Calls Tryz.prog 41 #[u] w fun e w'=>e= .returned (.int .i64 (Qv l))/\Qc [] w w':=qW l u B w (by have:=xU l;have:=yR l;omega) hr hB
end Go.Proofs.YtfjhdnjlhjimeaaGreatDoor
