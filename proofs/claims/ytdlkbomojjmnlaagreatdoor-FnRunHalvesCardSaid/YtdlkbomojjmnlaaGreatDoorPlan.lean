/- PlanSize and PlanDepth, of the reference and of the program. Written by a program. -/
import Derived.Test.YtdlkbomojjmnlaaGreatDoorTypesA
set_option maxRecDepth 100000
set_option maxHeartbeats 2000000
namespace Go.Proofs.YtdlkbomojjmnlaaGreatDoor
open Go.RowKit

theorem wr_id {z:Int} (h0: -9223372036854775808<=z) (h1:z<=9223372036854775807):IntKind.i64.wrap z=z:=by
 rw [IntKind.wrap_i64];omega
theorem sizeL_append:∀l m:List ActionT,sizeL (l++m)=sizeL l+sizeL m
 | [],m=>by simp [sizeL]
 |a::l,m=>by rw [List.cons_append,sizeL,sizeL_append l m,sizeL];omega
theorem sizeL_take (l:List ActionT) (k:Nat) (h:k<l.length):sizeL (l.take (k+1))=sizeL (l.take k)+l[k].size:=by
 rw [List.take_succ_eq_append_getElem h,sizeL_append];simp [sizeL]
theorem sizeL_le (l:List ActionT) (k:Nat):sizeL (l.take k)<=sizeL l:=by
 have:=sizeL_append (l.take k) (l.drop k)
 rw [List.take_append_drop] at this
 omega
theorem sizeL_W (l:List ActionT):sizeL l<=actionsW l:=by
 have key:∀n (l:List ActionT),sizeL l<=n->sizeL l<=actionsW l:=by
  intro n
  induction n with
  |zero=>intro l h;omega
  | succ n ih=>
   intro l
   induction l with
   |nil=>intro _;simp [sizeL]
   |cons a l ihl=>
    intro h
    rw [sizeL] at h ⊢
    have e1:=a.size_eq
    have e2:=actionW_eq a
    have h1:=ih a.A (by omega)
    have h2:=ih a.B (by omega)
    have h3:=ihl (by omega)
    unfold actionsW actionsW1 at h3 ⊢
    simp only [List.length_cons,List.map_cons,List.sum_cons]
    omega
 exact key _ l (Nat.le_refl _)

mutual
/-- How deep. -/
def ActionT.depth:ActionT->Nat
 | .mk _ _ _ _ _ _ A B=>1+max (depthL A) (depthL B)
def depthL:List ActionT->Nat
 | []=>0
 |a::l=>max a.depth (depthL l)
end
theorem ActionT.depth_eq (a:ActionT):a.depth=1+max (depthL a.A) (depthL a.B):=by
 cases a;rw [ActionT.depth];rfl
theorem depthL_append:∀l m:List ActionT,depthL (l++m)=max (depthL l) (depthL m)
 | [],m=>by simp [depthL]
 |a::l,m=>by rw [List.cons_append,depthL,depthL_append l m,depthL];omega
theorem depthL_take (l:List ActionT) (k:Nat) (h:k<l.length):depthL (l.take (k+1))=max (depthL (l.take k)) l[k].depth:=by
 rw [List.take_succ_eq_append_getElem h,depthL_append];simp [depthL]
theorem depthL_mem {l:List ActionT} {a:ActionT} (h:a∈l):a.depth<=depthL l:=by
 induction l with
 |nil=>cases h
 |cons b l ih=>
  rw [depthL]
  rcases List.mem_cons.1 h with rfl|h
  ·omega
  ·have:=ih h;omega
theorem depthL_size (l:List ActionT):depthL l<=sizeL l:=by
 have key:∀n (l:List ActionT),sizeL l<=n->depthL l<=sizeL l:=by
  intro n
  induction n with
  |zero=>
   intro l h
   cases l with
   |nil=>simp [depthL]
   |cons a l=>rw [sizeL] at h;have:=a.size_eq;omega
  | succ n ih=>
   intro l
   induction l with
   |nil=>intro _;simp [depthL]
   |cons a l ihl=>
    intro h
    rw [sizeL] at h ⊢
    rw [depthL]
    have e1:=a.size_eq
    have e2:=a.depth_eq
    have h1:=ih a.A (by omega)
    have h2:=ih a.B (by omega)
    have h3:=ihl (by omega)
    omega
 exact key _ l (Nat.le_refl _)

def PlanSize_spec (l:List ActionT):Prop:=∀(u:Value) (B:Nat) (w:World),sizeL l<=100000000->Rd w B (actions l) u->B<=w.heap.size->
 Calls Tryz.prog 45 #[u] w fun e w'=>e= .returned (.int .i64 (sizeL l))/\Chg [] w w'
theorem planSize_spec_any:∀l,PlanSize_spec l:=by
 refine ActionT.ind fun l ih=>?_
 intro u B w hl hr hB
 obtain⟨A,cap,rfl,h0,h1,hrow⟩:=actions_row hr
 unfold maxLen at h1
 have IH:=hid ih
 clear ih hr
 go_enter Tryz.func45,Tryz.ntmps45
 go_wp2_with fail
 go_loopw [3,8] (fun n i wr=>∃(k:Nat) (x:Int),k<=l.length/\i= .int .i64 k/\n= .int .i64 x/\0<=x/\x<=100000000/\Hid (x=sizeL (l.take k))/\Chg [] w wr) (fun _ i _=>l.length-(intOf i).toNat)
 case atStart=>exact⟨0,0,Nat.zero_le _,rfl,rfl,by omega,by omega,by simp [sizeL,Hid],Chg.refl _ _⟩
 case round=>
  obtain⟨k,x,hk,rfl,rfl,hx0,hx1,HX,hc⟩:=hrel
  by_cases hlt:k<l.length
  ·obtain⟨b,off,uA,uB,rfl,hb,q0,q1,q2,q3,q4,q5,q6,q7,q8,q9,q10,rA,rB⟩:=actions_cells (hrow.chg0 hc hB) k hlt
   obtain⟨A1,cap1,rfl,_,_,_⟩:=actions_row rA
   obtain⟨A2,cap2,rfl,_,_,_⟩:=actions_row rB
   have hmem:=List.getElem_mem hlt
   have hsA:x+(1+sizeL l[k].A+sizeL l[k].B)<=100000000:=by
    have:=sizeL_take l k hlt;have:=sizeL_le l (k+1);have:=l[k].size_eq;have:=HX.out;omega
   have cA:=fun W (hW:Chg [] wr W)=>(IH.out _ hmem).1 _ B W (by omega) (rA.chg0 hW (by have:=hc.size;omega)) (by have:=hc.size;have:=hW.size;omega)
   have cB:=fun W (hW:Chg [] wr W)=>(IH.out _ hmem).2 _ B W (by omega) (rB.chg0 hW (by have:=hc.size;omega)) (by have:=hc.size;have:=hW.size;omega)
   have HA:=hid cA;have HB:=hid cB;clear cA cB
   go_wp2_with fail
   go_region_held3 (fun w'=>w'.cell? ⟨wr.heap.size,9,none⟩=some (.slice A1 l[k].A.length cap1)/\w'.cell? ⟨wr.heap.size,10,none⟩=some (.slice A2 l[k].B.length cap2)/\wr.heap.size<w'.heap.size/\Chg [] wr w') (first|exact⟨by go_simp,by go_simp,by simp,((Chg.refl _ _).alloc _).drew⟩|exact⟨(c1.cell E3 (by simp)).trans E1,(c1.cell E3 (by simp)).trans E2,by have:=c1.size;omega,E4.trans0 c1⟩) (first|(go_at_call 45;obtain⟨E1,E2,E3,E4⟩:= ‹_/\_/\_/\Chg [] wr _›;(with_reducible refine(HA.out _ E4).mono ?_);rintro e w1 ⟨rfl,c1⟩)|(go_at_call 45;obtain⟨E1,E2,E3,E4⟩:= ‹_/\_/\_/\Chg [] wr _›;(with_reducible refine(HB.out _ E4).mono ?_);rintro e w1 ⟨rfl,c1⟩))
   obtain⟨_,_,_,E⟩:= ‹_/\_/\_/\Chg [] wr _›
   go_wp2_with fail
   go_roundw
   case rel=>
    have e1:=sizeL_take l k hlt
    have e2:=l[k].size_eq
    have e3:=HX.out
    have a1:=wr_id (z:=x+1) (by omega) (by omega)
    have a2:=wr_id (z:=x+1+(sizeL l[k].A:Int)) (by omega) (by omega)
    have a3:=wr_id (z:=x+1+(sizeL l[k].A:Int)+(sizeL l[k].B:Int)) (by omega) (by omega)
    refine⟨k+1,x+1+(sizeL l[k].A:Int)+(sizeL l[k].B:Int),by omega,by go_num,by rw [a1,a2,a3],by omega,by omega,?_,hc.trans0 E⟩
    show _=_
    rw [e1,e2];omega
   case measure=>simp [intOf];omega
  ·obtain rfl:k=l.length:=by omega
   go_wp2_with fail
   go_ret
   have h5:=HX.out
   rw [List.take_length] at h5
   exact⟨ret_int h5,hc⟩
theorem planSize_spec_law (l:List ActionT) (u:Value) (B:Nat) (w:World) (hW:actionsW l<=1048576) (hr:Rd w B (actions l) u) (hB:B<=w.heap.size):
  Calls Tryz.prog 45 #[u] w fun e w'=>e= .returned (.int .i64 (sizeL l))/\Chg [] w w':=planSize_spec_any l u B w (by have:=sizeL_W l;omega) hr hB
def PlanSize_impl (l:List ActionT):Prop:=∀(u:Value) (B:Nat) (w:World),sizeL l<=100000000->Rd w B (actions l) u->B<=w.heap.size->
 Calls Tryz.prog 16 #[u] w fun e w'=>e= .returned (.int .i64 (sizeL l))/\Chg [] w w'
theorem planSize_impl_any:∀l,PlanSize_impl l:=by
 refine ActionT.ind fun l ih=>?_
 intro u B w hl hr hB
 obtain⟨A,cap,rfl,h0,h1,hrow⟩:=actions_row hr
 unfold maxLen at h1
 have IH:=hid ih
 clear ih hr
 go_enter Tryz.func16,Tryz.ntmps16
 go_wp2_with fail
 go_loopw [3,8] (fun n i wr=>∃(k:Nat) (x:Int),k<=l.length/\i= .int .i64 k/\n= .int .i64 x/\0<=x/\x<=100000000/\Hid (x=sizeL (l.take k))/\Chg [] w wr) (fun _ i _=>l.length-(intOf i).toNat)
 case atStart=>exact⟨0,0,Nat.zero_le _,rfl,rfl,by omega,by omega,by simp [sizeL,Hid],Chg.refl _ _⟩
 case round=>
  obtain⟨k,x,hk,rfl,rfl,hx0,hx1,HX,hc⟩:=hrel
  by_cases hlt:k<l.length
  ·obtain⟨b,off,uA,uB,rfl,hb,q0,q1,q2,q3,q4,q5,q6,q7,q8,q9,q10,rA,rB⟩:=actions_cells (hrow.chg0 hc hB) k hlt
   obtain⟨A1,cap1,rfl,_,_,_⟩:=actions_row rA
   obtain⟨A2,cap2,rfl,_,_,_⟩:=actions_row rB
   have hmem:=List.getElem_mem hlt
   have hsA:x+(1+sizeL l[k].A+sizeL l[k].B)<=100000000:=by
    have:=sizeL_take l k hlt;have:=sizeL_le l (k+1);have:=l[k].size_eq;have:=HX.out;omega
   have cA:=fun W (hW:Chg [] wr W)=>(IH.out _ hmem).1 _ B W (by omega) (rA.chg0 hW (by have:=hc.size;omega)) (by have:=hc.size;have:=hW.size;omega)
   have cB:=fun W (hW:Chg [] wr W)=>(IH.out _ hmem).2 _ B W (by omega) (rB.chg0 hW (by have:=hc.size;omega)) (by have:=hc.size;have:=hW.size;omega)
   have HA:=hid cA;have HB:=hid cB;clear cA cB
   go_wp2_with fail
   go_region_held3 (fun w'=>w'.cell? ⟨wr.heap.size,9,none⟩=some (.slice A1 l[k].A.length cap1)/\w'.cell? ⟨wr.heap.size,10,none⟩=some (.slice A2 l[k].B.length cap2)/\wr.heap.size<w'.heap.size/\Chg [] wr w') (first|exact⟨by go_simp,by go_simp,by simp,((Chg.refl _ _).alloc _).drew⟩|exact⟨(c1.cell E3 (by simp)).trans E1,(c1.cell E3 (by simp)).trans E2,by have:=c1.size;omega,E4.trans0 c1⟩) (first|(go_at_call 16;obtain⟨E1,E2,E3,E4⟩:= ‹_/\_/\_/\Chg [] wr _›;(with_reducible refine(HA.out _ E4).mono ?_);rintro e w1 ⟨rfl,c1⟩)|(go_at_call 16;obtain⟨E1,E2,E3,E4⟩:= ‹_/\_/\_/\Chg [] wr _›;(with_reducible refine(HB.out _ E4).mono ?_);rintro e w1 ⟨rfl,c1⟩))
   obtain⟨_,_,_,E⟩:= ‹_/\_/\_/\Chg [] wr _›
   go_wp2_with fail
   go_roundw
   case rel=>
    have e1:=sizeL_take l k hlt
    have e2:=l[k].size_eq
    have e3:=HX.out
    have a1:=wr_id (z:=1+(sizeL l[k].A:Int)) (by omega) (by omega)
    have a2:=wr_id (z:=1+(sizeL l[k].A:Int)+(sizeL l[k].B:Int)) (by omega) (by omega)
    have a3:=wr_id (z:=x+(1+(sizeL l[k].A:Int)+(sizeL l[k].B:Int))) (by omega) (by omega)
    refine⟨k+1,x+(1+(sizeL l[k].A:Int)+(sizeL l[k].B:Int)),by omega,by go_num,by rw [a1,a2,a3],by omega,by omega,?_,hc.trans0 E⟩
    show _=_
    rw [e1,e2];omega
   case measure=>simp [intOf];omega
  ·obtain rfl:k=l.length:=by omega
   go_wp2_with fail
   go_ret
   have h5:=HX.out
   rw [List.take_length] at h5
   exact⟨ret_int h5,hc⟩
theorem planSize_impl_law (l:List ActionT) (u:Value) (B:Nat) (w:World) (hW:actionsW l<=1048576) (hr:Rd w B (actions l) u) (hB:B<=w.heap.size):
  Calls Tryz.prog 16 #[u] w fun e w'=>e= .returned (.int .i64 (sizeL l))/\Chg [] w w':=planSize_impl_any l u B w (by have:=sizeL_W l;omega) hr hB
theorem l8Max_any (a b:Int) (w:World):Calls Tryz.prog 79 #[.int .i64 a,.int .i64 b] w fun e w'=>e= .returned (.int .i64 (max a b))/\w=w':=by
 by_cases h:b<a
 ·go_enter Tryz.func79,Tryz.ntmps79
  go_wp2_with fail
  go_ret
  exact⟨ret_int (by omega),rfl⟩
 ·go_enter Tryz.func79,Tryz.ntmps79
  go_wp2_with fail
  go_ret
  exact⟨ret_int (by omega),rfl⟩
def PlanDepth_spec (l:List ActionT):Prop:=∀(u:Value) (B:Nat) (w:World),depthL l<=100000000->Rd w B (actions l) u->B<=w.heap.size->
 Calls Tryz.prog 46 #[u] w fun e w'=>e= .returned (.int .i64 (depthL l))/\Chg [] w w'
theorem planDepth_spec_any:∀l,PlanDepth_spec l:=by
 refine ActionT.ind fun l ih=>?_
 intro u B w hl hr hB
 obtain⟨A,cap,rfl,h0,h1,hrow⟩:=actions_row hr
 unfold maxLen at h1
 have IH:=hid ih
 clear ih hr
 go_enter Tryz.func46,Tryz.ntmps46
 go_wp2_with fail
 go_loopw [3,8] (fun n i wr=>∃(k:Nat) (x:Int),k<=l.length/\i= .int .i64 k/\n= .int .i64 x/\0<=x/\x<=100000000/\Hid (x=depthL (l.take k))/\Chg [] w wr) (fun _ i _=>l.length-(intOf i).toNat)
 case atStart=>exact⟨0,0,Nat.zero_le _,rfl,rfl,by omega,by omega,by simp [depthL,Hid],Chg.refl _ _⟩
 case round=>
  obtain⟨k,x,hk,rfl,rfl,hx0,hx1,HX,hc⟩:=hrel
  by_cases hlt:k<l.length
  ·obtain⟨b,off,uA,uB,rfl,hb,q0,q1,q2,q3,q4,q5,q6,q7,q8,q9,q10,rA,rB⟩:=actions_cells (hrow.chg0 hc hB) k hlt
   obtain⟨A1,cap1,rfl,_,_,_⟩:=actions_row rA
   obtain⟨A2,cap2,rfl,_,_,_⟩:=actions_row rB
   have hmem:=List.getElem_mem hlt
   have hsA:depthL l[k].A<=100000000-1/\depthL l[k].B<=100000000-1:=by
    have:=depthL_mem hmem;have:=l[k].depth_eq;omega
   have cA:=fun W (hW:Chg [] wr W)=>(IH.out _ hmem).1 _ B W (by omega) (rA.chg0 hW (by have:=hc.size;omega)) (by have:=hc.size;have:=hW.size;omega)
   have cB:=fun W (hW:Chg [] wr W)=>(IH.out _ hmem).2 _ B W (by omega) (rB.chg0 hW (by have:=hc.size;omega)) (by have:=hc.size;have:=hW.size;omega)
   have HA:=hid cA;have HB:=hid cB;clear cA cB
   obtain⟨pA,hpA⟩:∃p:Int,p=depthL l[k].A:=⟨_,rfl⟩
   obtain⟨pB,hpB⟩:∃p:Int,p=depthL l[k].B:=⟨_,rfl⟩
   rw [<-hpA] at HA
   rw [<-hpB] at HB
   have hA0:0<=pA/\pA<=99999999:=by omega
   have hB0:0<=pB/\pB<=99999999:=by omega
   have HPA:=hid hpA;have HPB:=hid hpB;clear hpA hpB hsA
   go_wp2_with fail
   go_region_held3 (fun w'=>w'.cell? ⟨wr.heap.size,9,none⟩=some (.slice A1 l[k].A.length cap1)/\w'.cell? ⟨wr.heap.size,10,none⟩=some (.slice A2 l[k].B.length cap2)/\wr.heap.size<w'.heap.size/\Chg [] wr w') (first|exact⟨by go_simp,by go_simp,by simp,((Chg.refl _ _).alloc _).drew⟩|exact⟨(c1.cell E3 (by simp)).trans E1,(c1.cell E3 (by simp)).trans E2,by have:=c1.size;omega,E4.trans0 c1⟩|assumption) (first|(go_at_call 46;obtain⟨E1,E2,E3,E4⟩:= ‹_/\_/\_/\Chg [] wr _›;(with_reducible refine(HA.out _ E4).mono ?_);rintro e w1 ⟨rfl,c1⟩)|(go_at_call 46;obtain⟨E1,E2,E3,E4⟩:= ‹_/\_/\_/\Chg [] wr _›;(with_reducible refine(HB.out _ E4).mono ?_);rintro e w1 ⟨rfl,c1⟩)|(go_at_call 79;refine(l8Max_any _ _ _).mono ?_;rintro e w1 ⟨rfl,rfl⟩;have c1:=Chg.refl [] w1))
   obtain⟨_,_,_,E⟩:= ‹_/\_/\_/\Chg [] wr _›
   have e1:=depthL_take l k hlt
   have e2:=l[k].depth_eq
   have a1:=wr_id (z:=1+max pA pB) (by omega) (by omega)
   have a2:=wr_id (z:=1+pA) (by omega) (by omega)
   have a3:=wr_id (z:=1+pB) (by omega) (by omega)
   have A1_:=hid a1;have A2_:=hid a2;have A3_:=hid a3;have E1_:=hid e1;have E2_:=hid e2
   clear a1 a2 a3 e1 e2
   go_wp2_with fail
   go_roundw
   case rel=>
    have e1:=E1_.out;have e2:=E2_.out;have e3:=HX.out;have e4:=HPA.out;have e5:=HPB.out
    refine⟨k+1,max x (1+max pA pB),by omega,by go_num,?_,by omega,by omega,?_,hc.trans0 E⟩
    ·rw [A1_.out]
    ·show _=_
     rw [e1,e2];omega
   case measure=>simp [intOf];omega
  ·obtain rfl:k=l.length:=by omega
   go_wp2_with fail
   go_ret
   have h5:=HX.out
   rw [List.take_length] at h5
   exact⟨ret_int h5,hc⟩
theorem planDepth_spec_law (l:List ActionT) (u:Value) (B:Nat) (w:World) (hW:actionsW l<=1048576) (hr:Rd w B (actions l) u) (hB:B<=w.heap.size):
  Calls Tryz.prog 46 #[u] w fun e w'=>e= .returned (.int .i64 (depthL l))/\Chg [] w w':=planDepth_spec_any l u B w (by have:=sizeL_W l;have:=depthL_size l;omega) hr hB
def PlanDepth_impl (l:List ActionT):Prop:=∀(u:Value) (B:Nat) (w:World),depthL l<=100000000->Rd w B (actions l) u->B<=w.heap.size->
 Calls Tryz.prog 43 #[u] w fun e w'=>e= .returned (.int .i64 (depthL l))/\Chg [] w w'
theorem planDepth_impl_any:∀l,PlanDepth_impl l:=by
 refine ActionT.ind fun l ih=>?_
 intro u B w hl hr hB
 obtain⟨A,cap,rfl,h0,h1,hrow⟩:=actions_row hr
 unfold maxLen at h1
 have IH:=hid ih
 clear ih hr
 go_enter Tryz.func43,Tryz.ntmps43
 go_wp2_with fail
 go_loopw [3,8] (fun n i wr=>∃(k:Nat) (x:Int),k<=l.length/\i= .int .i64 k/\n= .int .i64 x/\0<=x/\x<=100000000/\Hid (x=depthL (l.take k))/\Chg [] w wr) (fun _ i _=>l.length-(intOf i).toNat)
 case atStart=>exact⟨0,0,Nat.zero_le _,rfl,rfl,by omega,by omega,by simp [depthL,Hid],Chg.refl _ _⟩
 case round=>
  obtain⟨k,x,hk,rfl,rfl,hx0,hx1,HX,hc⟩:=hrel
  by_cases hlt:k<l.length
  ·obtain⟨b,off,uA,uB,rfl,hb,q0,q1,q2,q3,q4,q5,q6,q7,q8,q9,q10,rA,rB⟩:=actions_cells (hrow.chg0 hc hB) k hlt
   obtain⟨A1,cap1,rfl,_,_,_⟩:=actions_row rA
   obtain⟨A2,cap2,rfl,_,_,_⟩:=actions_row rB
   have hmem:=List.getElem_mem hlt
   have hsA:depthL l[k].A<=100000000-1/\depthL l[k].B<=100000000-1:=by
    have:=depthL_mem hmem;have:=l[k].depth_eq;omega
   have cA:=fun W (hW:Chg [] wr W)=>(IH.out _ hmem).1 _ B W (by omega) (rA.chg0 hW (by have:=hc.size;omega)) (by have:=hc.size;have:=hW.size;omega)
   have cB:=fun W (hW:Chg [] wr W)=>(IH.out _ hmem).2 _ B W (by omega) (rB.chg0 hW (by have:=hc.size;omega)) (by have:=hc.size;have:=hW.size;omega)
   have HA:=hid cA;have HB:=hid cB;clear cA cB
   obtain⟨pA,hpA⟩:∃p:Int,p=depthL l[k].A:=⟨_,rfl⟩
   obtain⟨pB,hpB⟩:∃p:Int,p=depthL l[k].B:=⟨_,rfl⟩
   rw [<-hpA] at HA
   rw [<-hpB] at HB
   have hA0:0<=pA/\pA<=99999999:=by omega
   have hB0:0<=pB/\pB<=99999999:=by omega
   have HPA:=hid hpA;have HPB:=hid hpB;clear hpA hpB hsA
   go_wp2_with fail
   go_region_held3 (fun w'=>w'.cell? ⟨wr.heap.size,9,none⟩=some (.slice A1 l[k].A.length cap1)/\w'.cell? ⟨wr.heap.size,10,none⟩=some (.slice A2 l[k].B.length cap2)/\wr.heap.size<w'.heap.size/\Chg [] wr w') (first|exact⟨by go_simp,by go_simp,by simp,((Chg.refl _ _).alloc _).drew⟩|exact⟨(c1.cell E3 (by simp)).trans E1,(c1.cell E3 (by simp)).trans E2,by have:=c1.size;omega,E4.trans0 c1⟩|assumption) (first|(go_at_call 43;obtain⟨E1,E2,E3,E4⟩:= ‹_/\_/\_/\Chg [] wr _›;(with_reducible refine(HA.out _ E4).mono ?_);rintro e w1 ⟨rfl,c1⟩)|(go_at_call 43;obtain⟨E1,E2,E3,E4⟩:= ‹_/\_/\_/\Chg [] wr _›;(with_reducible refine(HB.out _ E4).mono ?_);rintro e w1 ⟨rfl,c1⟩))
   obtain⟨_,_,_,E⟩:= ‹_/\_/\_/\Chg [] wr _›
   have e1:=depthL_take l k hlt
   have e2:=l[k].depth_eq
   have a1:=wr_id (z:=1+max pA pB) (by omega) (by omega)
   have a2:=wr_id (z:=1+pA) (by omega) (by omega)
   have a3:=wr_id (z:=1+pB) (by omega) (by omega)
   have A1_:=hid a1;have A2_:=hid a2;have A3_:=hid a3;have E1_:=hid e1;have E2_:=hid e2
   clear a1 a2 a3 e1 e2
   go_wp2_with fail
   go_roundw
   case rel=>
    have e1:=E1_.out;have e2:=E2_.out;have e3:=HX.out;have e4:=HPA.out;have e5:=HPB.out
    refine⟨k+1,max x (1+max pA pB),by omega,by go_num,?_,by omega,by omega,?_,hc.trans0 E⟩
    ·rw [A2_.out,A3_.out];congr 1;split<;>split<;>omega
    ·show _=_
     rw [e1,e2];omega
   case measure=>simp [intOf];omega
  ·obtain rfl:k=l.length:=by omega
   go_wp2_with fail
   go_ret
   have h5:=HX.out
   rw [List.take_length] at h5
   exact⟨ret_int h5,hc⟩
theorem planDepth_impl_law (l:List ActionT) (u:Value) (B:Nat) (w:World) (hW:actionsW l<=1048576) (hr:Rd w B (actions l) u) (hB:B<=w.heap.size):
  Calls Tryz.prog 43 #[u] w fun e w'=>e= .returned (.int .i64 (depthL l))/\Chg [] w w':=planDepth_impl_any l u B w (by have:=sizeL_W l;have:=depthL_size l;omega) hr hB
end Go.Proofs.YtdlkbomojjmnlaaGreatDoor
