/- PlanSize and PlanDepth. Conditions: as stated. -/
import Derived.Test.YtlnkgcdeljhjcaaGreatDoorTypesA
set_option maxRecDepth 100000
set_option maxHeartbeats 2000000
namespace Go.Proofs.YtlnkgcdeljhjcaaGreatDoor
open Go.RowKit

theorem Zc {z:Int} (h0: -9223372036854775808<=z) (h1:z<=9223372036854775807):IntKind.i64.wrap z=z:=by
 rw [IntKind.wrap_i64];omega
theorem Vt:∀l m:List Qa,Qe (l++m)=Qe l+Qe m
 | [],m=>by simp [Qe]
 |a::l,m=>by rw [List.cons_append,Qe,Vt l m,Qe];omega
theorem WQ (l:List Qa) (k:Nat) (h:k<l.length):Qe (l.take (k+1))=Qe (l.take k)+l[k].size:=by
 rw [List.take_succ_eq_append_getElem h,Vt];simp [Qe]
theorem qx (l:List Qa) (k:Nat):Qe (l.take k)<=Qe l:=by
 have:=Vt (l.take k) (l.drop k)
 rw [List.take_append_drop] at this
 omega
theorem yU (l:List Qa):Qe l<=Ql l:=by
 have key:∀n (l:List Qa),Qe l<=n->Qe l<=Ql l:=by
  intro n
  induction n with
  |zero=>intro l h;omega
  | succ n ih=>
   intro l
   induction l with
   |nil=>intro _;simp [Qe]
   |cons a l ihl=>
    intro h
    rw [Qe] at h ⊢
    have e1:=a.size_eq
    have e2:=YT a
    have h1:=ih a.A (by omega)
    have h2:=ih a.B (by omega)
    have h3:=ihl (by omega)
    unfold Ql Wp at h3 ⊢
    simp only [List.length_cons,List.map_cons,List.sum_cons]
    omega
 exact key _ l (Nat.le_refl _)

mutual
def Qa.depth:Qa->Nat
 | .mk _ _ _ _ _ _ A B=>1+max (Qx A) (Qx B)
def Qx:List Qa->Nat
 | []=>0
 |a::l=>max a.depth (Qx l)
end
theorem Qa.depth_eq (a:Qa):a.depth=1+max (Qx a.A) (Qx a.B):=by
 cases a;rw [Qa.depth];rfl
theorem J9:∀l m:List Qa,Qx (l++m)=max (Qx l) (Qx m)
 | [],m=>by simp [Qx]
 |a::l,m=>by rw [List.cons_append,Qx,J9 l m,Qx];omega
theorem yo (l:List Qa) (k:Nat) (h:k<l.length):Qx (l.take (k+1))=max (Qx (l.take k)) l[k].depth:=by
 rw [List.take_succ_eq_append_getElem h,J9];simp [Qx]
theorem xB {l:List Qa} {a:Qa} (h:a∈l):a.depth<=Qx l:=by
 induction l with
 |nil=>cases h
 |cons b l ih=>
  rw [Qx]
  rcases List.mem_cons.1 h with rfl|h
  ·omega
  ·have:=ih h;omega
theorem zQ (l:List Qa):Qx l<=Qe l:=by
 have key:∀n (l:List Qa),Qe l<=n->Qx l<=Qe l:=by
  intro n
  induction n with
  |zero=>
   intro l h
   cases l with
   |nil=>simp [Qx]
   |cons a l=>rw [Qe] at h;have:=a.size_eq;omega
  | succ n ih=>
   intro l
   induction l with
   |nil=>intro _;simp [Qx]
   |cons a l ihl=>
    intro h
    rw [Qe] at h ⊢
    rw [Qx]
    have e1:=a.size_eq
    have e2:=a.depth_eq
    have h1:=ih a.A (by omega)
    have h2:=ih a.B (by omega)
    have h3:=ihl (by omega)
    omega
 exact key _ l (Nat.le_refl _)

def vL (l:List Qa):Prop:=∀(u:Value) (B:Nat) (w:World),Qe l<=100000000->Rd w B (QH l) u->B<=w.heap.size->
 Calls Tryz.prog 91 #[u] w fun e w'=>e= .returned (.int .i64 (Qe l))/\Qb [] w w'
theorem qD:∀l,vL l:=by
 refine Qa.ind fun l ih=>?_
 intro u B w hl hr hB
 obtain⟨A,cap,rfl,h0,h1,hrow⟩:=Qw hr
 unfold maxLen at h1
 have IH:=Qd ih
 clear ih hr
 go_enter Tryz.func91,Tryz.ntmps91
 go_wp2_with fail
 go_loopw [3,8] (fun n i wr=>∃(k:Nat) (x:Int),k<=l.length/\i= .int .i64 k/\n= .int .i64 x/\0<=x/\x<=100000000/\Hid (x=Qe (l.take k))/\Qb [] w wr) (fun _ i _=>l.length-(intOf i).toNat)
 case atStart=>exact⟨0,0,Nat.zero_le _,rfl,rfl,by omega,by omega,by simp [Qe,Hid],Qb.refl _ _⟩
 case round=>
  obtain⟨k,x,hk,rfl,rfl,hx0,hx1,HX,hc⟩:=hrel
  by_cases hlt:k<l.length
  ·obtain⟨b,off,uA,uB,rfl,hb,q0,q1,q2,q3,q4,q5,q6,q7,q8,q9,q10,rA,rB⟩:=Yc (hrow.cz hc hB) k hlt
   obtain⟨A1,cap1,rfl,_,_,_⟩:=Qw rA
   obtain⟨A2,cap2,rfl,_,_,_⟩:=Qw rB
   have hmem:=List.getElem_mem hlt
   have hsA:x+(1+Qe l[k].A+Qe l[k].B)<=100000000:=by
    have:=WQ l k hlt;have:=qx l (k+1);have:=l[k].size_eq;have:=HX.out;omega
   have cA:=fun W (hW:Qb [] wr W)=>(IH.out _ hmem).1 _ B W (by omega) (rA.cz hW (by have:=hc.size;omega)) (by have:=hc.size;have:=hW.size;omega)
   have cB:=fun W (hW:Qb [] wr W)=>(IH.out _ hmem).2 _ B W (by omega) (rB.cz hW (by have:=hc.size;omega)) (by have:=hc.size;have:=hW.size;omega)
   have HA:=Qd cA;have HB:=Qd cB;clear cA cB
   go_wp2_with fail
   go_region_held3 (fun w'=>w'.cell? ⟨wr.heap.size,9,none⟩=some (.slice A1 l[k].A.length cap1)/\w'.cell? ⟨wr.heap.size,10,none⟩=some (.slice A2 l[k].B.length cap2)/\wr.heap.size<w'.heap.size/\Qb [] wr w') (first|exact⟨by go_simp,by go_simp,by simp,((Qb.refl _ _).alloc _).drew⟩|exact⟨(c1.cell E3 (by simp)).trans E1,(c1.cell E3 (by simp)).trans E2,by have:=c1.size;omega,E4.tz c1⟩) (first|(go_at_call 91;obtain⟨E1,E2,E3,E4⟩:= ‹_/\_/\_/\Qb [] wr _›;(with_reducible refine(HA.out _ E4).mono ?_);rintro e w1 ⟨rfl,c1⟩)|(go_at_call 91;obtain⟨E1,E2,E3,E4⟩:= ‹_/\_/\_/\Qb [] wr _›;(with_reducible refine(HB.out _ E4).mono ?_);rintro e w1 ⟨rfl,c1⟩))
   obtain⟨_,_,_,E⟩:= ‹_/\_/\_/\Qb [] wr _›
   go_wp2_with fail
   go_roundw
   case rel=>
    have e1:=WQ l k hlt
    have e2:=l[k].size_eq
    have e3:=HX.out
    have a1:=Zc (z:=x+1) (by omega) (by omega)
    have a2:=Zc (z:=x+1+(Qe l[k].A:Int)) (by omega) (by omega)
    have a3:=Zc (z:=x+1+(Qe l[k].A:Int)+(Qe l[k].B:Int)) (by omega) (by omega)
    refine⟨k+1,x+1+(Qe l[k].A:Int)+(Qe l[k].B:Int),by omega,by go_num,by rw [a1,a2,a3],by omega,by omega,?_,hc.tz E⟩
    show _=_
    rw [e1,e2];omega
   case measure=>simp [intOf];omega
  ·obtain rfl:k=l.length:=by omega
   go_wp2_with fail
   go_ret
   have h5:=HX.out
   rw [List.take_length] at h5
   exact⟨Vp h5,hc⟩
theorem qi (l:List Qa) (u:Value) (B:Nat) (w:World) (hW:Ql l<=1048576) (hr:Rd w B (QH l) u) (hB:B<=w.heap.size):
  Calls Tryz.prog 91 #[u] w fun e w'=>e= .returned (.int .i64 (Qe l))/\Qb [] w w':=qD l u B w (by have:=yU l;omega) hr hB
def vP (l:List Qa):Prop:=∀(u:Value) (B:Nat) (w:World),Qe l<=100000000->Rd w B (QH l) u->B<=w.heap.size->
 Calls Tryz.prog 13 #[u] w fun e w'=>e= .returned (.int .i64 (Qe l))/\Qb [] w w'
theorem QT:∀l,vP l:=by
 refine Qa.ind fun l ih=>?_
 intro u B w hl hr hB
 obtain⟨A,cap,rfl,h0,h1,hrow⟩:=Qw hr
 unfold maxLen at h1
 have IH:=Qd ih
 clear ih hr
 go_enter Tryz.func13,Tryz.ntmps13
 go_wp2_with fail
 go_loopw [3,8] (fun n i wr=>∃(k:Nat) (x:Int),k<=l.length/\i= .int .i64 k/\n= .int .i64 x/\0<=x/\x<=100000000/\Hid (x=Qe (l.take k))/\Qb [] w wr) (fun _ i _=>l.length-(intOf i).toNat)
 case atStart=>exact⟨0,0,Nat.zero_le _,rfl,rfl,by omega,by omega,by simp [Qe,Hid],Qb.refl _ _⟩
 case round=>
  obtain⟨k,x,hk,rfl,rfl,hx0,hx1,HX,hc⟩:=hrel
  by_cases hlt:k<l.length
  ·obtain⟨b,off,uA,uB,rfl,hb,q0,q1,q2,q3,q4,q5,q6,q7,q8,q9,q10,rA,rB⟩:=Yc (hrow.cz hc hB) k hlt
   obtain⟨A1,cap1,rfl,_,_,_⟩:=Qw rA
   obtain⟨A2,cap2,rfl,_,_,_⟩:=Qw rB
   have hmem:=List.getElem_mem hlt
   have hsA:x+(1+Qe l[k].A+Qe l[k].B)<=100000000:=by
    have:=WQ l k hlt;have:=qx l (k+1);have:=l[k].size_eq;have:=HX.out;omega
   have cA:=fun W (hW:Qb [] wr W)=>(IH.out _ hmem).1 _ B W (by omega) (rA.cz hW (by have:=hc.size;omega)) (by have:=hc.size;have:=hW.size;omega)
   have cB:=fun W (hW:Qb [] wr W)=>(IH.out _ hmem).2 _ B W (by omega) (rB.cz hW (by have:=hc.size;omega)) (by have:=hc.size;have:=hW.size;omega)
   have HA:=Qd cA;have HB:=Qd cB;clear cA cB
   go_wp2_with fail
   go_region_held3 (fun w'=>w'.cell? ⟨wr.heap.size,9,none⟩=some (.slice A1 l[k].A.length cap1)/\w'.cell? ⟨wr.heap.size,10,none⟩=some (.slice A2 l[k].B.length cap2)/\wr.heap.size<w'.heap.size/\Qb [] wr w') (first|exact⟨by go_simp,by go_simp,by simp,((Qb.refl _ _).alloc _).drew⟩|exact⟨(c1.cell E3 (by simp)).trans E1,(c1.cell E3 (by simp)).trans E2,by have:=c1.size;omega,E4.tz c1⟩) (first|(go_at_call 13;obtain⟨E1,E2,E3,E4⟩:= ‹_/\_/\_/\Qb [] wr _›;(with_reducible refine(HA.out _ E4).mono ?_);rintro e w1 ⟨rfl,c1⟩)|(go_at_call 13;obtain⟨E1,E2,E3,E4⟩:= ‹_/\_/\_/\Qb [] wr _›;(with_reducible refine(HB.out _ E4).mono ?_);rintro e w1 ⟨rfl,c1⟩))
   obtain⟨_,_,_,E⟩:= ‹_/\_/\_/\Qb [] wr _›
   go_wp2_with fail
   go_roundw
   case rel=>
    have e1:=WQ l k hlt
    have e2:=l[k].size_eq
    have e3:=HX.out
    have a1:=Zc (z:=1+(Qe l[k].A:Int)) (by omega) (by omega)
    have a2:=Zc (z:=1+(Qe l[k].A:Int)+(Qe l[k].B:Int)) (by omega) (by omega)
    have a3:=Zc (z:=x+(1+(Qe l[k].A:Int)+(Qe l[k].B:Int))) (by omega) (by omega)
    refine⟨k+1,x+(1+(Qe l[k].A:Int)+(Qe l[k].B:Int)),by omega,by go_num,by rw [a1,a2,a3],by omega,by omega,?_,hc.tz E⟩
    show _=_
    rw [e1,e2];omega
   case measure=>simp [intOf];omega
  ·obtain rfl:k=l.length:=by omega
   go_wp2_with fail
   go_ret
   have h5:=HX.out
   rw [List.take_length] at h5
   exact⟨Vp h5,hc⟩
theorem qC (l:List Qa) (u:Value) (B:Nat) (w:World) (hW:Ql l<=1048576) (hr:Rd w B (QH l) u) (hB:B<=w.heap.size):
  Calls Tryz.prog 13 #[u] w fun e w'=>e= .returned (.int .i64 (Qe l))/\Qb [] w w':=QT l u B w (by have:=yU l;omega) hr hB
theorem QeC (a b:Int) (w:World):Calls Tryz.prog 158 #[.int .i64 a,.int .i64 b] w fun e w'=>e= .returned (.int .i64 (max a b))/\w=w':=by
 by_cases h:b<a
 ·go_enter Tryz.func158,Tryz.ntmps158
  go_wp2_with fail
  go_ret
  exact⟨Vp (by omega),rfl⟩
 ·go_enter Tryz.func158,Tryz.ntmps158
  go_wp2_with fail
  go_ret
  exact⟨Vp (by omega),rfl⟩
def xM (l:List Qa):Prop:=∀(u:Value) (B:Nat) (w:World),Qx l<=100000000->Rd w B (QH l) u->B<=w.heap.size->
 Calls Tryz.prog 92 #[u] w fun e w'=>e= .returned (.int .i64 (Qx l))/\Qb [] w w'
theorem Gx:∀l,xM l:=by
 refine Qa.ind fun l ih=>?_
 intro u B w hl hr hB
 obtain⟨A,cap,rfl,h0,h1,hrow⟩:=Qw hr
 unfold maxLen at h1
 have IH:=Qd ih
 clear ih hr
 go_enter Tryz.func92,Tryz.ntmps92
 go_wp2_with fail
 go_loopw [3,8] (fun n i wr=>∃(k:Nat) (x:Int),k<=l.length/\i= .int .i64 k/\n= .int .i64 x/\0<=x/\x<=100000000/\Hid (x=Qx (l.take k))/\Qb [] w wr) (fun _ i _=>l.length-(intOf i).toNat)
 case atStart=>exact⟨0,0,Nat.zero_le _,rfl,rfl,by omega,by omega,by simp [Qx,Hid],Qb.refl _ _⟩
 case round=>
  obtain⟨k,x,hk,rfl,rfl,hx0,hx1,HX,hc⟩:=hrel
  by_cases hlt:k<l.length
  ·obtain⟨b,off,uA,uB,rfl,hb,q0,q1,q2,q3,q4,q5,q6,q7,q8,q9,q10,rA,rB⟩:=Yc (hrow.cz hc hB) k hlt
   obtain⟨A1,cap1,rfl,_,_,_⟩:=Qw rA
   obtain⟨A2,cap2,rfl,_,_,_⟩:=Qw rB
   have hmem:=List.getElem_mem hlt
   have hsA:Qx l[k].A<=100000000-1/\Qx l[k].B<=100000000-1:=by
    have:=xB hmem;have:=l[k].depth_eq;omega
   have cA:=fun W (hW:Qb [] wr W)=>(IH.out _ hmem).1 _ B W (by omega) (rA.cz hW (by have:=hc.size;omega)) (by have:=hc.size;have:=hW.size;omega)
   have cB:=fun W (hW:Qb [] wr W)=>(IH.out _ hmem).2 _ B W (by omega) (rB.cz hW (by have:=hc.size;omega)) (by have:=hc.size;have:=hW.size;omega)
   have HA:=Qd cA;have HB:=Qd cB;clear cA cB
   obtain⟨pA,hpA⟩:∃p:Int,p=Qx l[k].A:=⟨_,rfl⟩
   obtain⟨pB,hpB⟩:∃p:Int,p=Qx l[k].B:=⟨_,rfl⟩
   rw [<-hpA] at HA
   rw [<-hpB] at HB
   have hA0:0<=pA/\pA<=99999999:=by omega
   have hB0:0<=pB/\pB<=99999999:=by omega
   have HPA:=Qd hpA;have HPB:=Qd hpB;clear hpA hpB hsA
   go_wp2_with fail
   go_region_held3 (fun w'=>w'.cell? ⟨wr.heap.size,9,none⟩=some (.slice A1 l[k].A.length cap1)/\w'.cell? ⟨wr.heap.size,10,none⟩=some (.slice A2 l[k].B.length cap2)/\wr.heap.size<w'.heap.size/\Qb [] wr w') (first|exact⟨by go_simp,by go_simp,by simp,((Qb.refl _ _).alloc _).drew⟩|exact⟨(c1.cell E3 (by simp)).trans E1,(c1.cell E3 (by simp)).trans E2,by have:=c1.size;omega,E4.tz c1⟩|assumption) (first|(go_at_call 92;obtain⟨E1,E2,E3,E4⟩:= ‹_/\_/\_/\Qb [] wr _›;(with_reducible refine(HA.out _ E4).mono ?_);rintro e w1 ⟨rfl,c1⟩)|(go_at_call 92;obtain⟨E1,E2,E3,E4⟩:= ‹_/\_/\_/\Qb [] wr _›;(with_reducible refine(HB.out _ E4).mono ?_);rintro e w1 ⟨rfl,c1⟩)|(go_at_call 158;refine(QeC _ _ _).mono ?_;rintro e w1 ⟨rfl,rfl⟩;have c1:=Qb.refl [] w1))
   obtain⟨_,_,_,E⟩:= ‹_/\_/\_/\Qb [] wr _›
   have e1:=yo l k hlt
   have e2:=l[k].depth_eq
   have a1:=Zc (z:=1+max pA pB) (by omega) (by omega)
   have a2:=Zc (z:=1+pA) (by omega) (by omega)
   have a3:=Zc (z:=1+pB) (by omega) (by omega)
   have A1_:=Qd a1;have A2_:=Qd a2;have A3_:=Qd a3;have E1_:=Qd e1;have E2_:=Qd e2
   clear a1 a2 a3 e1 e2
   go_wp2_with fail
   go_roundw
   case rel=>
    have e1:=E1_.out;have e2:=E2_.out;have e3:=HX.out;have e4:=HPA.out;have e5:=HPB.out
    refine⟨k+1,max x (1+max pA pB),by omega,by go_num,?_,by omega,by omega,?_,hc.tz E⟩
    ·rw [A1_.out]
    ·show _=_
     rw [e1,e2];omega
   case measure=>simp [intOf];omega
  ·obtain rfl:k=l.length:=by omega
   go_wp2_with fail
   go_ret
   have h5:=HX.out
   rw [List.take_length] at h5
   exact⟨Vp h5,hc⟩
theorem Gs (l:List Qa) (u:Value) (B:Nat) (w:World) (hW:Ql l<=1048576) (hr:Rd w B (QH l) u) (hB:B<=w.heap.size):
  Calls Tryz.prog 92 #[u] w fun e w'=>e= .returned (.int .i64 (Qx l))/\Qb [] w w':=Gx l u B w (by have:=yU l;have:=zQ l;omega) hr hB
def xF (l:List Qa):Prop:=∀(u:Value) (B:Nat) (w:World),Qx l<=100000000->Rd w B (QH l) u->B<=w.heap.size->
 Calls Tryz.prog 45 #[u] w fun e w'=>e= .returned (.int .i64 (Qx l))/\Qb [] w w'
theorem GN:∀l,xF l:=by
 refine Qa.ind fun l ih=>?_
 intro u B w hl hr hB
 obtain⟨A,cap,rfl,h0,h1,hrow⟩:=Qw hr
 unfold maxLen at h1
 have IH:=Qd ih
 clear ih hr
 go_enter Tryz.func45,Tryz.ntmps45
 go_wp2_with fail
 go_loopw [3,8] (fun n i wr=>∃(k:Nat) (x:Int),k<=l.length/\i= .int .i64 k/\n= .int .i64 x/\0<=x/\x<=100000000/\Hid (x=Qx (l.take k))/\Qb [] w wr) (fun _ i _=>l.length-(intOf i).toNat)
 case atStart=>exact⟨0,0,Nat.zero_le _,rfl,rfl,by omega,by omega,by simp [Qx,Hid],Qb.refl _ _⟩
 case round=>
  obtain⟨k,x,hk,rfl,rfl,hx0,hx1,HX,hc⟩:=hrel
  by_cases hlt:k<l.length
  ·obtain⟨b,off,uA,uB,rfl,hb,q0,q1,q2,q3,q4,q5,q6,q7,q8,q9,q10,rA,rB⟩:=Yc (hrow.cz hc hB) k hlt
   obtain⟨A1,cap1,rfl,_,_,_⟩:=Qw rA
   obtain⟨A2,cap2,rfl,_,_,_⟩:=Qw rB
   have hmem:=List.getElem_mem hlt
   have hsA:Qx l[k].A<=100000000-1/\Qx l[k].B<=100000000-1:=by
    have:=xB hmem;have:=l[k].depth_eq;omega
   have cA:=fun W (hW:Qb [] wr W)=>(IH.out _ hmem).1 _ B W (by omega) (rA.cz hW (by have:=hc.size;omega)) (by have:=hc.size;have:=hW.size;omega)
   have cB:=fun W (hW:Qb [] wr W)=>(IH.out _ hmem).2 _ B W (by omega) (rB.cz hW (by have:=hc.size;omega)) (by have:=hc.size;have:=hW.size;omega)
   have HA:=Qd cA;have HB:=Qd cB;clear cA cB
   obtain⟨pA,hpA⟩:∃p:Int,p=Qx l[k].A:=⟨_,rfl⟩
   obtain⟨pB,hpB⟩:∃p:Int,p=Qx l[k].B:=⟨_,rfl⟩
   rw [<-hpA] at HA
   rw [<-hpB] at HB
   have hA0:0<=pA/\pA<=99999999:=by omega
   have hB0:0<=pB/\pB<=99999999:=by omega
   have HPA:=Qd hpA;have HPB:=Qd hpB;clear hpA hpB hsA
   go_wp2_with fail
   go_region_held3 (fun w'=>w'.cell? ⟨wr.heap.size,9,none⟩=some (.slice A1 l[k].A.length cap1)/\w'.cell? ⟨wr.heap.size,10,none⟩=some (.slice A2 l[k].B.length cap2)/\wr.heap.size<w'.heap.size/\Qb [] wr w') (first|exact⟨by go_simp,by go_simp,by simp,((Qb.refl _ _).alloc _).drew⟩|exact⟨(c1.cell E3 (by simp)).trans E1,(c1.cell E3 (by simp)).trans E2,by have:=c1.size;omega,E4.tz c1⟩|assumption) (first|(go_at_call 45;obtain⟨E1,E2,E3,E4⟩:= ‹_/\_/\_/\Qb [] wr _›;(with_reducible refine(HA.out _ E4).mono ?_);rintro e w1 ⟨rfl,c1⟩)|(go_at_call 45;obtain⟨E1,E2,E3,E4⟩:= ‹_/\_/\_/\Qb [] wr _›;(with_reducible refine(HB.out _ E4).mono ?_);rintro e w1 ⟨rfl,c1⟩))
   obtain⟨_,_,_,E⟩:= ‹_/\_/\_/\Qb [] wr _›
   have e1:=yo l k hlt
   have e2:=l[k].depth_eq
   have a1:=Zc (z:=1+max pA pB) (by omega) (by omega)
   have a2:=Zc (z:=1+pA) (by omega) (by omega)
   have a3:=Zc (z:=1+pB) (by omega) (by omega)
   have A1_:=Qd a1;have A2_:=Qd a2;have A3_:=Qd a3;have E1_:=Qd e1;have E2_:=Qd e2
   clear a1 a2 a3 e1 e2
   go_wp2_with fail
   go_roundw
   case rel=>
    have e1:=E1_.out;have e2:=E2_.out;have e3:=HX.out;have e4:=HPA.out;have e5:=HPB.out
    refine⟨k+1,max x (1+max pA pB),by omega,by go_num,?_,by omega,by omega,?_,hc.tz E⟩
    ·rw [A2_.out,A3_.out];congr 1;split<;>split<;>omega
    ·show _=_
     rw [e1,e2];omega
   case measure=>simp [intOf];omega
  ·obtain rfl:k=l.length:=by omega
   go_wp2_with fail
   go_ret
   have h5:=HX.out
   rw [List.take_length] at h5
   exact⟨Vp h5,hc⟩
theorem GK (l:List Qa) (u:Value) (B:Nat) (w:World) (hW:Ql l<=1048576) (hr:Rd w B (QH l) u) (hB:B<=w.heap.size):
  Calls Tryz.prog 45 #[u] w fun e w'=>e= .returned (.int .i64 (Qx l))/\Qb [] w w':=GN l u B w (by have:=yU l;have:=zQ l;omega) hr hB
end Go.Proofs.YtlnkgcdeljhjcaaGreatDoor
