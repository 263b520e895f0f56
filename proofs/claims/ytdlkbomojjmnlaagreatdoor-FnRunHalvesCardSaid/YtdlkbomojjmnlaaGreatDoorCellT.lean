/- FormatCells of the reference: the text of cells. Conditions: none beyond sizes. -/
import Derived.Test.YtdlkbomojjmnlaaGreatDoorNames
import Derived.Test.YtdlkbomojjmnlaaGreatDoorNumsAll
import Derived.Test.YtdlkbomojjmnlaaGreatDoorBuilders
import Derived.Test.YtdlkbomojjmnlaaGreatDoorApps
import Derived.Deep.RegionHeld3
set_option maxRecDepth 100000
set_option maxHeartbeats 8000000
namespace Go.Proofs.YtdlkbomojjmnlaaGreatDoor
open Go.RowKit

/-- The text of a cell. -/
noncomputable def cellT (c:CellT):ByteArray:=(c.key++⟨#[61]⟩)++numT c.value
open Classical in
/-- The text of cells. -/
noncomputable def cellsT (l:List CellT):ByteArray:=if CellsOk l then(if l.length=0 then⟨#[45]⟩ else joinB (l.map cellT) ⟨#[44]⟩) else⟨#[]⟩
theorem cellsT_no {l:List CellT} (h:¬CellsOk l):cellsT l=⟨#[]⟩:=by unfold cellsT;rw [if_neg h]
theorem cellsT_nil {l:List CellT} (h:CellsOk l) (h0:l.length=0):cellsT l=⟨#[45]⟩:=by unfold cellsT;rw [if_pos h,if_pos h0]
theorem cellsT_pos {l:List CellT} (h:CellsOk l) (h0:¬l.length=0):cellsT l=joinB (l.map cellT) ⟨#[44]⟩:=by unfold cellsT;rw [if_pos h,if_neg h0]
theorem digT_3 {m:Int} (h:m<=999):(digT m).size<=3:=by
 have:∀(k:Nat) (m:Int),m.toNat<10 ^ (k+1)->(digT m).size<=k+1:=by
  intro k
  induction k with
  |zero=>intro m h;unfold digT;rw [Lib.decDigits,dif_pos (by omega)];simp [ByteArray.size]
  | succ k ih=>
   intro m h
   by_cases hm:m.toNat<10
   ·unfold digT;rw [Lib.decDigits,dif_pos hm];simp [ByteArray.size]
   ·rw [digT_step (by omega),ByteArray.size_append,strOfNums_size]
    have:=ih (m / 10) (by rw [Nat.pow_succ] at h;omega)
    simp
    omega
 exact this 2 m (by omega)
theorem numT_3 {n:Int} (h:IsNum n):(numT n).size<=3:=by rw [numT_pos h.1];exact digT_3 h.2
theorem cellT_size {c:CellT} (hk:IsNm c.key) (hv:IsNum c.value):(cellT c).size<=12:=by
 unfold cellT
 rw [ByteArray.size_append,ByteArray.size_append]
 have:=numT_3 hv
 have:=hk.2.1
 have e:(⟨#[61]⟩:ByteArray).size=1:=rfl
 omega
theorem cellT_W {l:List CellT} (h:CellsOk l):strsW1 (l.map cellT)<=48:=by
 have:∀l:List CellT,(∀c∈l,(cellT c).size<=12)->strsW1 (l.map cellT)<=l.length * 12:=by
  intro l
  induction l with
  |nil=>intro _;simp [strsW1]
  |cons c l ih=>
   intro hs
   have h1:=hs c (by simp)
   have h2:=ih (fun x hx=>hs x (by simp [hx]))
   unfold strsW1 at h2 ⊢
   simp only [List.map_cons,List.sum_cons,List.length_cons]
   omega
 have:=this l (fun c hc=>by obtain⟨k,hk,rfl⟩:=List.getElem_of_mem hc;exact cellT_size (h.2 k hk).1 (h.2 k hk).2.1)
 have:=h.1
 omega
theorem cellsT_size (l:List CellT):(cellsT l).size<=60:=by
 by_cases h:CellsOk l
 ·by_cases h0:l.length=0
  ·rw [cellsT_nil h h0];decide
  ·rw [cellsT_pos h h0]
   have h4:=h.1
   have hw:=cellT_W h
   cases l with
   |nil=>exact absurd rfl h0
   |cons c l=>
    rw [List.map_cons] at hw ⊢
    rw [joinB_size,show(⟨#[44]⟩:ByteArray).size=1 from rfl]
    simp only [List.length_cons,List.length_map] at h4 ⊢
    omega
 ·rw [cellsT_no h];decide
theorem formatCells_spec_any (l:List CellT) (u:Value) (B:Nat) (w:World) (r:Rd w B (cells l) u) (hB:B<=w.heap.size) (hl:l.length<=1048576) (hs:∀c∈l,c.key.size<=1048576):
  Calls Tryz.prog 216 #[u] w (StrPost (cellsT l) w):=by
 by_cases hp:CellsOk l
 ·have IC:=hid (fun W (hc:Chg [] w W)=>(isCells_spec_any l u B W (r.chg0 hc hB) (Nat.le_trans hB hc.size) hl hs).mono (BoolPost.pos hp))
  obtain⟨A,cap,rfl,h0,h1,hrow⟩:=cells_row r
  unfold maxLen at h1
  have hl4:=hp.1
  have HP:=hid hp
  clear hp hs r hl
  go_enter Tryz.func216,Tryz.ntmps216
  go_wp2_with fail
  refine(IC.out _ ((Chg.refl _ _).alloc _)).mono ?_
  rintro e w1 ⟨rfl,c1⟩
  have hA0:=hid ((App.empty w 9 1 (Chg.refl [] w)).later c1)
  clear c1 IC
  go_wp2_with fail
  go_loopw [3,12] (fun v i wr=>∃(k:Nat) (A':Option Addr) (cap':Nat),k<=l.length/\i= .int .i64 k/\v= .slice A' k cap'/\App w wr 9 1 (.slice A' k cap') k (((l.take k).map cellT).flatMap strC)) (fun _ i _=>l.length-(intOf i).toNat)
  case atStart=>exact⟨0,_,0,Nat.zero_le _,rfl,rfl,hA0.out⟩
  case round=>
   obtain⟨k,A',cap',hk,rfl,rfl,hh⟩:=hrel
   have hcg:Chg [] w wr:=hh.chg
   by_cases hlt:k<l.length
   ·obtain⟨b,off,rfl,hb,q0,q1⟩:=cells_cells (hrow.chg0 hcg hB) k hlt
    have hsz:=hcg.size
    have hck:=HP.out.2 k hlt
    have z1:=hck.1.2.1
    have z3:=hck.2.1
    have z2:=numT_3 hck.2.1
    have HK:=hid (show cellT l[k]=(l[k].key++⟨#[61]⟩)++numT l[k].value from rfl)
    obtain⟨t,ht⟩:∃t,t=cellT l[k]:=⟨_,rfl⟩
    obtain⟨y,hy⟩:∃y,y=l[k].key:=⟨_,rfl⟩
    obtain⟨v,hv⟩:∃v,v=l[k].value:=⟨_,rfl⟩
    rw [<-ht, <-hy, <-hv] at HK
    rw [<-hy] at q0 z1
    rw [<-hv] at q1 z2 z3
    have FN:=hid (fun W=>formatNumber_spec_any v W (by have:=z3.1;omega) (by have:=z3.2;omega))
    obtain⟨n,hn⟩:∃n,n=numT v:=⟨_,rfl⟩
    rw [<-hn] at HK FN z2
    obtain⟨x,hx⟩:∃x,x=y++⟨#[61]⟩:=⟨_,rfl⟩
    have HK:=HK.out
    rw [<-hx] at HK
    have e1:(⟨#[61]⟩:ByteArray).size=1:=rfl
    have zx:x.size<=9:=by rw [hx,ByteArray.size_append];omega
    have k1:=cat_is (P:=Tryz.prog) hx (by omega)
    have k2:=cat_is (P:=Tryz.prog) HK (by omega)
    have HT:=hid ht
    have HH:=hid hh
    clear hx hn hv hy ht HK e1 hck z3 hh hcg
    go_wp2_with fail
    go_region_law (first|(go_simp;go_at_call 144;(with_reducible refine(FN.out _).mono ?_);rintro e w2 ⟨rfl,c2⟩;(have y2:=fun o=>c2.cell (p:=⟨wr.heap.size,o,none⟩) (by simp) (by simp));(have c3:=(Chg.trans0 Chg.now c2:Chg [] wr w2));(have h2:=hid c3);clear c3 c2;simp only [])|(refine step_appN rfl (.tmp 16) (.tmp 24) _ rfl rfl rfl (run_appM _ _ 9 _ 1 16 Tryz.underlying56 string_info rfl (by omega) HH.out (us:=[.string t]) (dsE:=strC t) ⟨[],HasL.cons_v (HasL.nil _),by simp,h2.out.alloc _⟩ _ 1 _ rfl (by intro j u hj;cases j with|zero=>cases hj;go_simp|succ j=>simp at hj) (by intro u hu;simp at hu;subst hu;rfl) (by omega) (by omega)) ?_;rintro A3 cap3 w3 ⟨hA3,_,_⟩;simp only [])|fail)
    all_goals
     go_wp2_with fail
     go_roundw
     case rel=>exact⟨k+1,A3,cap3,by omega,by go_num,rfl,by rw [List.take_succ_eq_append_getElem hlt,List.map_append,List.flatMap_append,List.map_cons,List.map_nil, <-HT.out];simpa using hA3⟩
     case measure=>simp [intOf];omega
   ·obtain rfl:k=l.length:=by omega
    have hn:=hh.new.rd
    rw [List.take_length] at hn
    have HJ:=hid (joinWith_spec_any (l.map cellT) ⟨#[44]⟩ (.slice A' l.length cap') wr.heap.size wr (by simp;omega) (by decide) (by have:=cellT_W HP.out;omega) (by unfold strs;rw [List.length_map];exact hn) (Nat.le_refl _))
    have HC:=hid hcg
    clear hn hh hcg
    by_cases h0:l.length=0
    ·have HZ:=hid (cellsT_nil HP.out h0)
     have hz:((l.length:Int)==0)=true:=by simp [h0]
     clear h0 HJ
     go_wp2_with fail
     go_ret
     exact⟨str_ret HZ.out.symm,HC.out⟩
    ·have HZ:=hid (cellsT_pos HP.out h0)
     have hz:((l.length:Int)==0)=false:=by simpa using h0
     clear h0
     go_wp2_with fail
     refine HJ.out.mono ?_
     rintro e w4 ⟨rfl,c4⟩
     go_wp2_with fail
     go_ret
     exact⟨str_ret HZ.out.symm,HC.out.trans0 c4⟩
 ·have IC:=hid (fun W (hc:Chg [] w W)=>(isCells_spec_any l u B W (r.chg0 hc hB) (Nat.le_trans hB hc.size) hl hs).mono (BoolPost.neg hp))
  obtain⟨A,cap,rfl,h0,h1,hrow⟩:=cells_row r
  have HE:=hid (cellsT_no hp)
  clear hp hs r hl hrow
  go_enter Tryz.func216,Tryz.ntmps216
  go_wp2_with fail
  refine(IC.out _ ((Chg.refl _ _).alloc _)).mono ?_
  rintro e w1 ⟨rfl,c1⟩
  go_wp2_with fail
  go_ret
  exact⟨str_ret HE.out.symm,((Chg.refl _ _).alloc _).trans0 c1⟩
end Go.Proofs.YtdlkbomojjmnlaaGreatDoor
