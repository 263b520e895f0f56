/- ShapesOf of both packages: the recipes of slots, joined. Written by a program. -/
import Derived.Test.YtdlkbomojjmnlaaGreatDoorTypes
import Derived.Test.YtdlkbomojjmnlaaGreatDoorTexts
import Derived.Test.YtdlkbomojjmnlaaGreatDoorBuilders
import Derived.Test.YtdlkbomojjmnlaaGreatDoorRunsP
set_option maxRecDepth 100000
set_option maxHeartbeats 1000000
namespace Go.Proofs.YtdlkbomojjmnlaaGreatDoor
open Go.RowKit

theorem shapesOf_impl_any (l:List SlotT) (u:Value) (B:Nat) (w:World) (hl:slotsW l<=1048576) (hr:Rd w B (slots l) u) (hB:B<=w.heap.size):
  Calls Tryz.prog 24 #[u] w (Gives (strs (shapes l)) w):=by
 obtain⟨A,cap,rfl,h0,h1,hrow⟩:=slots_row hr
 have hll:l.length<=1048576:=by unfold slotsW at hl;omega
 unfold maxLen at h1
 clear hr
 go_enter Tryz.func24,Tryz.ntmps24
 go_wp2_with fail
 go_loopw [3,8] (fun v i wr=>∃(k:Nat) (A':Option Addr) (cap':Nat),k<=l.length/\i= .int .i64 k/\v= .slice A' k cap'/\App w wr 9 1 (.slice A' k cap') k (((l.take k).map shapeOf).flatMap strC)) (fun _ i _=>l.length-(intOf i).toNat)
 case atStart=>exact⟨0,_,0,Nat.zero_le _,rfl,rfl,App.nil w _ _ (Chg.refl _ _)⟩
 case round=>
  obtain⟨k,A',cap',hk,rfl,rfl,hh⟩:=hrel
  by_cases hlt:k<l.length
  ·obtain⟨b,off,u4,u6,rfl,hb,q0,q1,q2,q3,q4,q5,q6,r4,r6⟩:=slots_cells (hrow.chg0 hh.chg hB) k hlt
   have hsz:=hh.chg.size
   have hwt:partW l[k].part<=slotsW1 l:=slotsW_mem (List.getElem_mem hlt)
   have hrw:=recipe_W l[k].part
   have hll6:l[k].part.layers.length<=1048576:=by unfold partW layersW at hwt;unfold slotsW at hl;omega
   have hrs:(recipe l[k].part).length<=1073741824/\strsW1 (recipe l[k].part)<=1073741824:=by unfold strsW at hrw;unfold slotsW at hl;omega
   obtain⟨X4,xap4,rfl,_,_,_⟩:=cells_row r4
   obtain⟨X6,xap6,rfl,_,_,_⟩:=layers_row r6
   clear hwt hrw
   by_cases hfull:l[k].full=true
   ·have hsh:shapeOf l[k]=joinB (recipe l[k].part) ⟨#[32]⟩:=by unfold shapeOf;rw [if_pos hfull]
    go_wp2_with fail
    refine(recipeOf_impl_any l[k].part _ _ B _ hll6 (r6.chg0 ((Chg.refl _ _).alloc _) (by omega)) (by simp;omega)).mono ?_
    intro e w1 G1;obtain⟨A1,cap1,rfl,n1⟩:=G1.sl
    have d1:Chg [] wr w1:=Chg.trans0 ((Chg.refl _ _).alloc _) n1.chg
    go_wp2_with fail
    refine(joinWith_impl_any (recipe l[k].part) ⟨#[32]⟩ _ _ _ hrs.1 (by decide) hrs.2 n1.rd (Nat.le_refl _)).mono ?_
    rintro e w2 ⟨rfl,c2⟩
    have d2:Chg [] wr w2:=Chg.trans0 d1 c2
    rw [<-hsh]
    go_wp2_with (at_builtin;refine wpList_app rfl (.tmp 14) (.tmp 19) _ rfl 9 _ 1 16 Tryz.underlying56 string_info rfl (by omega) hh (us:=[.string (shapeOf l[k])]) (dsE:=strC (shapeOf l[k])) ⟨[],HasL.cons_v (HasL.nil _),by simp,d2.alloc _⟩ rfl w2.heap.size 1 rfl rfl (by intro j u hj;cases j with|zero=>cases hj;go_simp|succ j=>simp at hj) (by intro u hu;simp at hu;subst hu;rfl) (by omega) (by omega) ?_;intro A2 cap2 w3 hA2)
    go_roundw
    case rel=>exact⟨k+1,A2,cap2,by omega,by go_num,by go_num,by rw [List.take_succ_eq_append_getElem hlt,List.map_append,List.flatMap_append];simpa using hA2⟩
    case measure=>simp [intOf];omega
   ·have hsh:shapeOf l[k]=⟨#[]⟩:=by unfold shapeOf;rw [if_neg hfull]
    have hff:l[k].full=false:=by simpa using hfull
    have hemp:({data:= #[] }:ByteArray)=shapeOf l[k]:=hsh.symm
    have HE:=hid hemp
    clear hsh hemp hfull
    go_wp2_with (at_builtin;refine wpList_app rfl (.tmp 21) (.tmp 22) _ rfl 9 _ 1 16 Tryz.underlying56 string_info rfl (by omega) hh (us:=[.string ⟨#[]⟩]) (dsE:=strC ⟨#[]⟩) ⟨[],HasL.cons_v (HasL.nil _),by simp,((Chg.refl _ _).alloc _).alloc _⟩ rfl (wr.heap.size+1) 1 rfl rfl (by intro j u hj;cases j with|zero=>cases hj;go_simp|succ j=>simp at hj) (by intro u hu;simp at hu;subst hu;rfl) (by omega) (by omega) ?_;intro A2 cap2 w3 hA2)
    go_roundw
    case rel=>
     rw [HE.out] at hA2
     exact⟨k+1,A2,cap2,by omega,by go_num,by go_num,by rw [List.take_succ_eq_append_getElem hlt,List.map_append,List.flatMap_append];simpa using hA2⟩
    case measure=>simp [intOf];omega
  ·obtain rfl:k=l.length:=by omega
   rw [List.take_length] at hh
   go_wp2_with fail
   go_ret
   exact⟨_,rfl,by have:=hh.new;unfold strs shapes;rw [List.length_map];exact this⟩
end Go.Proofs.YtdlkbomojjmnlaaGreatDoor
