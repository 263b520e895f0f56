/- Copies of actions, of the program and of the reference. Written by a program. -/
import Derived.Test.YtdlkbomojjmnlaaGreatDoorTypesA
import Derived.Test.YtdlkbomojjmnlaaGreatDoorApps
set_option maxRecDepth 100000
set_option maxHeartbeats 2000000
namespace Go.Proofs.YtdlkbomojjmnlaaGreatDoor
open Go.RowKit

def CopyP (l:List ActionT):Prop:=∀(u:Value) (B:Nat) (w:World),actionsW l<=1048576->Rd w B (actions l) u->B<=w.heap.size->Calls Tryz.prog 88 #[u] w (Gives (actions l) w)
theorem copyAction_el (a:ActionT) (hA:CopyP a.A) (hB:CopyP a.B) (u9 u10:Value) (B:Nat) (w:World) (hW:actionW a<=1048576) (r9:Rd w B (actions a.A) u9) (r10:Rd w B (actions a.B) u10) (hBw:B<=w.heap.size):
  Calls Tryz.prog 53 #[.agg #[.int .i64 a.op,.int .i64 a.slot,.int .i64 a.other,.string a.word,.string a.call.method,.string a.call.key,.int .i64 a.call.value,.string a.call.text,.int .i64 a.face,u9,u10]] w (fun e w'=>∃A9 cap9 A10 cap10,e= .returned (.agg #[.int .i64 a.op,.int .i64 a.slot,.int .i64 a.other,.string a.word,.string a.call.method,.string a.call.key,.int .i64 a.call.value,.string a.call.text,.int .i64 a.face,.slice A9 a.A.length cap9,.slice A10 a.B.length cap10])/\NewL w w' (actionF a) [.int .i64 a.op,.int .i64 a.slot,.int .i64 a.other,.string a.word,.string a.call.method,.string a.call.key,.int .i64 a.call.value,.string a.call.text,.int .i64 a.face,.slice A9 a.A.length cap9,.slice A10 a.B.length cap10]):=by
 rw [actionW_eq] at hW
 obtain⟨X9,xap9,rfl,_,_,_⟩:=actions_row r9
 obtain⟨X10,xap10,rfl,_,_,_⟩:=actions_row r10
 go_enter Tryz.func53,Tryz.ntmps53
 go_wp2_with fail
 refine(hA _ B _ (by omega) (r9.chg0 (((Chg.refl _ _).alloc _).alloc _) hBw) (by simp;omega)).mono ?_;intro e w1 G1;obtain⟨A9,cap9,rfl,n1⟩:=G1.sl
 obtain⟨y1,z1,s1⟩:=n1.chg.cells
 have d1:Chg [] w w1:=Chg.trans0 (((Chg.refl _ _).alloc _).alloc _) n1.chg
 have t1:w.heap.size+1<w1.heap.size:=by simp at s1;omega
 have t1':w.heap.size<w1.heap.size:=by omega
 have c1:w1.cell? ⟨w.heap.size,9,none⟩=some (.slice X9 a.A.length xap9):=by rw [y1 _ _ (by simp;omega)];go_simp
 go_wp2_with fail
 refine(hB _ B _ (by omega) (r10.chg0 (Chg.to d1) hBw) (by simp;omega)).mono ?_;intro e w2 G2;obtain⟨A10,cap10,rfl,n2⟩:=G2.sl
 obtain⟨y2,z2,s2⟩:=n2.chg.cells
 have t2:w.heap.size+1<w2.heap.size:=by simp at s2;omega
 have t2':w.heap.size<w2.heap.size:=by omega
 have c2:w2.cell? ⟨w.heap.size,9,none⟩=some (.slice A9 a.A.length cap9):=by rw [y2 _ _ (by simpa [World.setCell] using t1')];exact World.cell?_setCell_same _ _ _ c1
 have c3:w2.cell? ⟨w.heap.size,10,none⟩=some (.slice X10 a.B.length xap10):=by
  rw [y2 _ _ (by simpa [World.setCell] using t1'),World.cell?_setCell_other _ _ _ _ (by simp),y1 _ _ (by simp;omega)];go_simp
 have c4:(w2.setCell ⟨w.heap.size,10,none⟩ (.slice A10 a.B.length cap10)).cell? ⟨w.heap.size,10,none⟩=some (.slice A10 a.B.length cap10):=World.cell?_setCell_same _ _ _ c3
 have tt:w.heap.size<w.heap.size+1+1:=by omega
 go_wp2_with fail
 refine bodyPost_ret (v:=.agg #[.int .i64 a.op,.int .i64 a.slot,.int .i64 a.other,.string a.word,.string a.call.method,.string a.call.key,.int .i64 a.call.value,.string a.call.text,.int .i64 a.face,.slice A9 a.A.length cap9,.slice A10 a.B.length cap10]) (by simp only [results,Tryz.results53];go_simp) rfl ⟨_,_,_,_,rfl,?_⟩
 rw [actionF_parts]
 refine NewT.start (T:=[w.heap.size,w.heap.size+1]) ?_ (by intro x hx;simp at hx;omega)
 refine NewT.cons_v ?_
 refine NewT.cons_v ?_
 refine NewT.cons_v ?_
 refine NewT.cons_v ?_
 refine NewT.cons_v ?_
 refine NewT.cons_v ?_
 refine NewT.cons_v ?_
 refine NewT.cons_v ?_
 refine NewT.cons_v ?_
 refine NewT.cons_new n1 (by intro x hx;simp at hx ⊢;omega) Chg.now (Chg.refl _ _) ?_
 refine NewT.cons_new n2 (by intro x hx;simp at hx ⊢;omega) Chg.now (Chg.refl _ _) ?_
 refine NewT.nil ?_
 repeat(first|with_reducible exact Chg.refl _ _|with_reducible refine Chg.drew ?_|with_reducible refine Chg.alloc ?_ _|with_reducible refine Chg.setCell ?_ (.inl (by simp)) _)

theorem copyActions_any:∀l,CopyP l:=by
 refine ActionT.ind fun l ih=>?_
 intro u B w hl hr hB
 have hll:l.length<=1048576:=by unfold actionsW at hl;omega
 obtain⟨A,cap,rfl,h0,h1,hrow⟩:=actions_row hr
 unfold maxLen at h1
 have IH:=hid ih
 clear ih hr
 go_enter Tryz.func88,Tryz.ntmps88
 go_wp2_with fail
 go_loopw [3,8] (fun v i wr=>∃(k:Nat) (A':Option Addr) (cap':Nat),k<=l.length/\i= .int .i64 k/\v= .slice A' k cap'/\App w wr 32 11 (.slice A' k cap') k ((l.take k).flatMap actionF)) (fun _ i _=>l.length-(intOf i).toNat)
 case atStart=>exact⟨0,none,0,Nat.zero_le _,rfl,rfl,App.nil w _ _ (Chg.refl _ _)⟩
 case round=>
  obtain⟨k,A',cap',hk,rfl,rfl,hh⟩:=hrel
  by_cases hlt:k<l.length
  ·obtain⟨b,off,u9,u10,rfl,hb,q0,q1,q2,q3,q4,q5,q6,q7,q8,q9,q10,r9,r10⟩:=actions_cells (hrow.chg0 hh.chg hB) k hlt
   have hmem:=List.getElem_mem hlt
   have hwt:=actionsW_mem hmem
   obtain⟨X9,xap9,rfl,_,_,_⟩:=actions_row r9
   obtain⟨X10,xap10,rfl,_,_,_⟩:=actions_row r10
   have hsz:=hh.chg.size
   go_wp2_with fail
   refine(copyAction_el l[k] (IH.out _ hmem).1 (IH.out _ hmem).2 _ _ B _ (by unfold actionsW at hl;omega) (r9.chg0 ((Chg.refl _ _).alloc _) (by omega)) (r10.chg0 ((Chg.refl _ _).alloc _) (by omega)) (by simp;omega)).mono ?_
   rintro e w1 ⟨A9,cap9,A10,cap10,rfl,n1⟩
   have n2:=n1.sooner ((Chg.refl [] wr).alloc _)
   have hone:∀u∈([.int .i64 (l[k].op),.int .i64 (l[k].slot),.int .i64 (l[k].other),.string (l[k].word),.string (l[k].call.method),.string (l[k].call.key),.int .i64 (l[k].call.value),.string (l[k].call.text),.int .i64 (l[k].face),.slice A9 l[k].A.length cap9,.slice A10 l[k].B.length cap10]:List Value),u.oneCell'=true:=by intro u hu;simp at hu;rcases hu with rfl|rfl|rfl|rfl|rfl|rfl|rfl|rfl|rfl|rfl|rfl<;>rfl
   have hnw:∀j u,([.int .i64 (l[k].op),.int .i64 (l[k].slot),.int .i64 (l[k].other),.string (l[k].word),.string (l[k].call.method),.string (l[k].call.key),.int .i64 (l[k].call.value),.string (l[k].call.text),.int .i64 (l[k].face),.slice A9 l[k].A.length cap9,.slice A10 l[k].B.length cap10]:List Value)[j]?=some u->(w1.alloc (.cells #[.int .i64 (l[k].op),.int .i64 (l[k].slot),.int .i64 (l[k].other),.string (l[k].word),.string (l[k].call.method),.string (l[k].call.key),.int .i64 (l[k].call.value),.string (l[k].call.text),.int .i64 (l[k].face),.slice A9 l[k].A.length cap9,.slice A10 l[k].B.length cap10] 32)).cell? ⟨w1.heap.size,j,none⟩=some u:=by
    intro j u hj
    rw [World.cell?_alloc_mark]
    simpa using hj
   have HNW:=hid hnw;have HONE:=hid hone
   clear hnw hone
   go_wp2_with (at_builtin;refine wpList_app rfl (.tmp 12) (.tmp 15) _ rfl 32 _ 11 152 Tryz.underlying24 action_info rfl (by omega) hh (n2.later ((Chg.refl _ _).alloc _)) rfl w1.heap.size 1 rfl rfl HNW.out HONE.out (by omega) (by omega) ?_;intro A2 cap2 w2 hA2)
   go_roundw
   case rel=>exact⟨k+1,A2,cap2,by omega,by go_num,by go_num,by rw [List.take_succ_eq_append_getElem hlt,List.flatMap_append];simpa using hA2⟩
   case measure=>simp [intOf];omega
  ·obtain rfl:k=l.length:=by omega
   rw [List.take_length] at hh
   go_wp2_with fail
   go_ret
   exact⟨_,rfl,hh.new⟩
end Go.Proofs.YtdlkbomojjmnlaaGreatDoor
