/- l3At and l3Put of the reference: what they answer. Conditions: none. Written by a program. / l3Run and l3Keep of the reference. Conditions: none. Written by a program. / l3Do of the reference. Conditions: none beyond sizes. Written by a program. / What a call does to a core, whatever the method: 'does' of the program, l3Do of the reference. Conditions: the library's variables stand; the call's text has a bound. -/
import Derived.Test.YtjigcplpkhpgnaaGreatDoorPlains
import Derived.Test.YtjigcplpkhpgnaaGreatDoorApps
import Derived.Test.YtjigcplpkhpgnaaGreatDoorAppX
import Derived.Test.YtjigcplpkhpgnaaGreatDoorBoxes
import Derived.Test.YtjigcplpkhpgnaaGreatDoorDoesAll
import Derived.BigRegion
import Derived.Test.YtjigcplpkhpgnaaGreatDoorCellT
import Derived.Test.YtjigcplpkhpgnaaGreatDoorCellsAll
import Derived.Deep.RegionLaw
set_option maxRecDepth 100000
set_option maxHeartbeats 8000000
namespace Go.Proofs.YtjigcplpkhpgnaaGreatDoor
open Go.RowKit

theorem putS_first {k:ByteArray} {v:Int} {c:CellT} {l:List CellT} (h:Op.bytesLess c.key.toList k.toList=false):putS k v false (c::l)=[⟨k,v⟩] ++((if c.key=k then [] else [c])++putS k v true l):=by
 rw [putS,h];simp
theorem putS_lt {k:ByteArray} {v:Int} {c:CellT} {l:List CellT} (h:Op.bytesLess c.key.toList k.toList=true):putS k v false (c::l)=(if c.key=k then [] else [c])++putS k v false l:=by
 rw [putS,h];simp
theorem putS_more {k:ByteArray} {v:Int} {c:CellT} {l:List CellT}:putS k v true (c::l)=(if c.key=k then [] else [c])++putS k v true l:=by
 rw [putS];simp
theorem geq_strs (a b:ByteArray) (W:World):(binOp .geq 9 (.string a) (.string b)).run Tryz.prog W= .ok (.bool (!Op.bytesLess a.toList b.toList)) W:=by
 simp [binOp,go_sem,Op.stringOp]
theorem l3At_is (l:List CellT) (key:ByteArray) (u:Value) (B:Nat) (w:World) (hr:Rd w B (cells l) u) (hB:B<=w.heap.size):
  Calls Tryz.prog 167 #[u,.string key] w fun e w'=>((∃(k:Nat) (hk:k<l.length),e= .returned (.int .i64 k)/\findC l key=some l[k].value)∨(e= .returned (.int .i64 (-1))/\findC l key=none))/\Chg [] w w':=by
 obtain⟨A,cap,rfl,h0,h1,hrow⟩:=cells_row hr
 unfold maxLen at h1
 clear hr
 go_enter Tryz.func167,Tryz.ntmps167
 go_wp2_with fail
 go_loopw [9] (fun i wr=>∃k:Nat,k<=l.length/\i= .int .i64 k/\Hid (∀j (hj:j<l.length),j<k->l[j].key≠key)/\Chg [] w wr) (fun i _=>l.length-(intOf i).toNat)
 case atStart=>exact⟨0,Nat.zero_le _,rfl,hid (fun j _ h=>absurd h (Nat.not_lt_zero _)),Chg.refl _ _⟩
 case round=>
  obtain⟨k,hk,rfl,HN,hc⟩:=hrel
  by_cases hlt:k<l.length
  ·obtain⟨b,off,rfl,hb,q0,q1⟩:=cells_cells (hrow.chg0 hc hB) k hlt
   have hcs:=hc.size
   cases hq:(l[k].key.toList==key.toList)
   ·have hne:l[k].key≠key:=fun e=>by rw [e] at hq;simp at hq
    have HN2:=hid (fun j (hj:j<l.length) (hjk:j<k+1)=>(Nat.lt_succ_iff_lt_or_eq.1 hjk).elim (HN.out j hj) (fun e=>by subst e;exact hne))
    clear hne
    go_wp2_with fail
    go_roundw
    case rel=>exact⟨k+1,by omega,by go_num,HN2,hc.alloc _⟩
    case measure=>simp [intOf];omega
   ·have HF:=hid (findC_at hlt HN.out (key_eq.1 (by simpa using hq)))
    go_wp2_with fail
    go_ret
    exact⟨.inl ⟨k,hlt,rfl,HF.out⟩,hc.alloc _⟩
  ·obtain rfl:k=l.length:=by omega
   have HF:=hid (findC_none (k:=key) fun c hc=>by obtain⟨j,hj,rfl⟩:=List.getElem_of_mem hc;exact HN.out j hj hj)
   go_wp2_with fail
   go_ret
   exact⟨.inr ⟨rfl,HF.out⟩,hc⟩
theorem l3Put_is (l:List CellT) (key:ByteArray) (v:Int) (u:Value) (B:Nat) (w:World) (hr:Rd w B (cells l) u) (hB:B<=w.heap.size) (hl:l.length<=1000):
  Calls Tryz.prog 168 #[u,.string key,.int .i64 v] w (Gives (cells (putS key v false l)) w):=by
 obtain⟨A,cap,rfl,h0,h1,hrow⟩:=cells_row hr
 unfold maxLen at h1
 clear hr
 go_enter Tryz.func168,Tryz.ntmps168
 go_wp2_with fail
 go_loopw [7,8,14] (fun o d i wr=>∃(k:Nat) (A':Option Addr) (cap':Nat) (out:List CellT) (t:Bool),k<=l.length/\i= .int .i64 k/\d= .bool t/\o= .slice A' out.length cap'/\App w wr 102 2 (.slice A' out.length cap') out.length (out.flatMap cellF)/\out.length<=k+(if t then 1 else 0)/\Hid (putS key v false l=out++putS key v t (l.drop k))) (fun _ _ i _=>l.length-(intOf i).toNat)
 case atStart=>exact⟨0,_,0,[],false,Nat.zero_le _,rfl,rfl,rfl,App.empty w _ _ (Chg.refl _ _),by simp,hid rfl⟩
 case round=>
  obtain⟨k,A',cap',out,t,hkl,rfl,rfl,rfl,hh,hol,HO⟩:=hrel
  have hcg:=hh.chg
  by_cases hlt:k<l.length
  ·obtain⟨b,off,rfl,hb,q0,q1⟩:=cells_cells (hrow.chg0 hcg hB) k hlt
   have HD:=hid (List.drop_eq_getElem_cons hlt)
   have hsz:=hcg.size
   have hge:=fun W=>geq_strs l[k].key key W
   obtain⟨c,hc⟩:∃c,c=l[k]:=⟨_,rfl⟩
   rw [<-hc] at q0 q1 HD hge
   clear hc
   have hob:out.length<=k+1:=by cases t<;>simp at hol<;>omega
   cases t
   ·cases hg:Op.bytesLess c.key.toList key.toList
    ·have HG:=hid hg
     rw [hg] at hge
     cases hq:(c.key.toList==key.toList)
     ·go_wp2_with (at_builtin;first|(refine wpList_appX rfl (.tmp 26) (.tmp 30) _ rfl 102 _ 2 24 Tryz.underlying64 cell_info rfl (by omega) hh (us:=[.string key,.int .i64 v]) (dsE:=cellF ⟨key,v⟩) ⟨[],HasL.cons_v (HasL.cons_v (HasL.nil _)),by simp,((Chg.refl _ _).alloc _).alloc _⟩ rfl (wr.heap.size+1) 1 rfl rfl (by intro j u hj;match j with|0|1=>cases hj;go_simp|j+2=>simp at hj) (by intro u hu;simp at hu;rcases hu with rfl|rfl<;>rfl) (by omega) (by omega) ?_;intro A2 cap2 w2 hA2 hst;obtain⟨hs2,hst⟩:=hst;have b0:=(hst wr.heap.size (Nat.le_refl _) (by simp;omega) 0).trans (show _=some (.string c.key) by go_simp);have b1:=(hst wr.heap.size (Nat.le_refl _) (by simp;omega) 1).trans (show _=some (.int .i64 c.value) by go_simp))|(refine wpList_app rfl (.tmp 36) (.tmp 38) _ rfl 102 _ 2 24 Tryz.underlying64 cell_info rfl (by omega) hA2 (us:=[.string c.key,.int .i64 c.value]) (dsE:=cellF c) ⟨[],HasL.cons_v (HasL.cons_v (HasL.nil _)),by simp,(Chg.refl _ _).alloc _⟩ rfl w2.heap.size 1 rfl rfl (by intro j u hj;match j with|0|1=>cases hj;go_simp|j+2=>simp at hj) (by intro u hu;simp at hu;rcases hu with rfl|rfl<;>rfl) (by omega) (by omega) ?_;intro A3 cap3 w3 hA3))
      go_roundw
      case rel=>exact⟨k+1,A3,cap3,out++ [⟨key,v⟩,c],true,by omega,by go_num,rfl,by simp,by simpa using hA3,by simp at hol ⊢;omega,(hid (by rw [HO.out,HD.out,putS_first HG.out,if_neg (fun e=>by rw [e] at hq;simp at hq)];simp))⟩
      case measure=>simp [intOf];omega
     ·go_wp2_with (at_builtin;first|(refine wpList_appX rfl (.tmp 26) (.tmp 30) _ rfl 102 _ 2 24 Tryz.underlying64 cell_info rfl (by omega) hh (us:=[.string key,.int .i64 v]) (dsE:=cellF ⟨key,v⟩) ⟨[],HasL.cons_v (HasL.cons_v (HasL.nil _)),by simp,((Chg.refl _ _).alloc _).alloc _⟩ rfl (wr.heap.size+1) 1 rfl rfl (by intro j u hj;match j with|0|1=>cases hj;go_simp|j+2=>simp at hj) (by intro u hu;simp at hu;rcases hu with rfl|rfl<;>rfl) (by omega) (by omega) ?_;intro A2 cap2 w2 hA2 hst;obtain⟨hs2,hst⟩:=hst;have b0:=(hst wr.heap.size (Nat.le_refl _) (by simp;omega) 0).trans (show _=some (.string c.key) by go_simp);have b1:=(hst wr.heap.size (Nat.le_refl _) (by simp;omega) 1).trans (show _=some (.int .i64 c.value) by go_simp)))
      go_roundw
      case rel=>exact⟨k+1,A2,cap2,out++ [⟨key,v⟩],true,by omega,by go_num,rfl,by simp,by simpa using hA2,by simp at hol ⊢;omega,(hid (by rw [HO.out,HD.out,putS_first HG.out,if_pos (key_eq.1 (by simpa using hq))];simp))⟩
      case measure=>simp [intOf];omega
    ·have HG:=hid hg
     rw [hg] at hge
     cases hq:(c.key.toList==key.toList)
     ·go_wp2_with (at_builtin;first|(refine wpList_app rfl (.tmp 36) (.tmp 38) _ rfl 102 _ 2 24 Tryz.underlying64 cell_info rfl (by omega) hh (us:=[.string c.key,.int .i64 c.value]) (dsE:=cellF c) ⟨[],HasL.cons_v (HasL.cons_v (HasL.nil _)),by simp,((Chg.refl _ _).alloc _).alloc _⟩ rfl (wr.heap.size+1) 1 rfl rfl (by intro j u hj;match j with|0|1=>cases hj;go_simp|j+2=>simp at hj) (by intro u hu;simp at hu;rcases hu with rfl|rfl<;>rfl) (by omega) (by omega) ?_;intro A3 cap3 w3 hA3))
      go_roundw
      case rel=>exact⟨k+1,A3,cap3,out++ [c],false,by omega,by go_num,rfl,by simp,by simpa using hA3,by simp at hol ⊢;omega,(hid (by rw [HO.out,HD.out,putS_lt HG.out,if_neg (fun e=>by rw [e] at hq;simp at hq)];simp))⟩
      case measure=>simp [intOf];omega
     ·go_wp2_with fail
      go_roundw
      case rel=>exact⟨k+1,A',cap',out,false,by omega,by go_num,rfl,by simp,by simpa using (hh.later ((Chg.refl _ _).alloc _)),by simp at hol ⊢;omega,hid (by rw [HO.out,HD.out,putS_lt HG.out,if_pos (key_eq.1 (by simpa using hq))];simp)⟩
      case measure=>simp [intOf];omega
   ·cases hq:(c.key.toList==key.toList)
    ·go_wp2_with (at_builtin;first|(refine wpList_app rfl (.tmp 36) (.tmp 38) _ rfl 102 _ 2 24 Tryz.underlying64 cell_info rfl (by omega) hh (us:=[.string c.key,.int .i64 c.value]) (dsE:=cellF c) ⟨[],HasL.cons_v (HasL.cons_v (HasL.nil _)),by simp,((Chg.refl _ _).alloc _).alloc _⟩ rfl (wr.heap.size+1) 1 rfl rfl (by intro j u hj;match j with|0|1=>cases hj;go_simp|j+2=>simp at hj) (by intro u hu;simp at hu;rcases hu with rfl|rfl<;>rfl) (by omega) (by omega) ?_;intro A3 cap3 w3 hA3))
     go_roundw
     case rel=>exact⟨k+1,A3,cap3,out++ [c],true,by omega,by go_num,rfl,by simp,by simpa using hA3,by simp at hol ⊢;omega,(hid (by rw [HO.out,HD.out,putS_more,if_neg (fun e=>by rw [e] at hq;simp at hq)];simp))⟩
     case measure=>simp [intOf];omega
    ·go_wp2_with fail
     go_roundw
     case rel=>exact⟨k+1,A',cap',out,true,by omega,by go_num,rfl,by simp,by simpa using (hh.later ((Chg.refl _ _).alloc _)),by simp at hol ⊢;omega,hid (by rw [HO.out,HD.out,putS_more,if_pos (key_eq.1 (by simpa using hq))];simp)⟩
     case measure=>simp [intOf];omega
  ·obtain rfl:k=l.length:=by omega
   have hob:out.length<=l.length+1:=by cases t<;>simp at hol<;>omega
   cases t
   ·go_wp2_with (at_builtin;(refine wpList_app rfl (.tmp 43) (.tmp 47) _ rfl 102 _ 2 24 Tryz.underlying64 cell_info rfl (by omega) hh (us:=[.string key,.int .i64 v]) (dsE:=cellF ⟨key,v⟩) ⟨[],HasL.cons_v (HasL.cons_v (HasL.nil _)),by simp,(Chg.refl _ _).alloc _⟩ rfl wr.heap.size 1 rfl rfl (by intro j u hj;match j with|0|1=>cases hj;go_simp|j+2=>simp at hj) (by intro u hu;simp at hu;rcases hu with rfl|rfl<;>rfl) (by omega) (by omega) ?_;intro A3 cap3 w3 hA3))
    go_ret
    have e:putS key v false l=out++ [⟨key,v⟩]:=by have:=HO.out;rw [List.drop_length] at this;exact this
    rw [e]
    exact⟨_,rfl,by have:=hA3.new;unfold cells;simpa using this⟩
   ·go_wp2_with fail
    go_ret
    have e:putS key v false l=out:=by have:=HO.out;rw [List.drop_length] at this;simpa [putS] using this
    rw [e]
    exact⟨_,rfl,by have:=hh.new;unfold cells;simpa using this⟩
/-- A core and a reply: the core's cells lie in blocks of their own, old ones or new ones. -/
def CoreRep (r:CoreT×RepT) (S3:List Nat) (w:World) (e:Ending) (w':World):Prop:=
 ∃A c S',e= .returned (.tuple #[.agg #[.string r.1.kind,.bool r.1.on,.bool r.1.broken,.slice A r.1.cells.length c,.int .i64 r.1.count],repV r.2])/\Has w' (cells r.1.cells) (.slice A r.1.cells.length c) S'/\(∀x,x∈S'->x∈S3∨w.heap.size<=x)/\Chg [] w w'
theorem l3Run_Heal (p:CoreT) (A3:Option Addr) (c3:Nat) (S3:List Nat) (w:World) (h3:Has w (cells p.cells) (.slice A3 p.cells.length c3) S3) (hp:CoreOk p):
  Calls Tryz.prog 157 #[.agg #[.string p.kind,.bool p.on,.bool p.broken,.slice A3 p.cells.length c3,.int .i64 p.count],.string mHeal] w (CoreRep ({p with on:=false,broken:=false},repOf 0 0 0 0) S3 w):=by
 obtain⟨hnum0,hnum1⟩:0<=p.count/\p.count<=999:=by obtain⟨_,_,_,_,hn,_⟩:=hp;exact hn
 have UP:=hid (fun W=>l3Up_any p.count W ⟨hnum0,hnum1⟩)
 have K3:=hid h3
 obtain⟨t0,t1,t2,t3,t4,t5,t6,t7,t8⟩:=tl_Heal
 clear h3 hp
 go_enter Tryz.func157,Tryz.ntmps157
 go_wp2_with fail
 refine bodyPost_ret (v:=.tuple #[.agg #[.string p.kind,.bool false,.bool false,.slice A3 p.cells.length c3,.int .i64 p.count],repV (repOf 0 0 0 0)]) (by simp only [repV,repOf,results,Tryz.results157];go_simp) rfl ?_
 exact⟨A3,c3,S3,rfl,K3.out.keep0 Chg.now,fun x hx=>.inl hx,Chg.now⟩
theorem l3Run_Stop (p:CoreT) (A3:Option Addr) (c3:Nat) (S3:List Nat) (w:World) (h3:Has w (cells p.cells) (.slice A3 p.cells.length c3) S3) (hp:CoreOk p):
  Calls Tryz.prog 157 #[.agg #[.string p.kind,.bool p.on,.bool p.broken,.slice A3 p.cells.length c3,.int .i64 p.count],.string mStop] w (CoreRep (if p.on=true then({p with on:=false},repOf 0 0 0 0) else(p,repOf 2 0 0 0)) S3 w):=by
 obtain⟨hnum0,hnum1⟩:0<=p.count/\p.count<=999:=by obtain⟨_,_,_,_,hn,_⟩:=hp;exact hn
 have UP:=hid (fun W=>l3Up_any p.count W ⟨hnum0,hnum1⟩)
 have K3:=hid h3
 obtain⟨t0,t1,t2,t3,t4,t5,t6,t7,t8⟩:=tl_Stop
 clear h3 hp
 cases ho:p.on
 ·rw [if_neg (by simp)]
  go_enter Tryz.func157,Tryz.ntmps157
  go_wp2_with fail
  refine bodyPost_ret (v:=.tuple #[.agg #[.string p.kind,.bool false,.bool p.broken,.slice A3 p.cells.length c3,.int .i64 p.count],repV (repOf 2 0 0 0)]) (by simp only [repV,repOf,results,Tryz.results157];go_simp) rfl ?_
  rw [<-ho]
  exact⟨A3,c3,S3,rfl,K3.out.keep0 Chg.now,fun x hx=>.inl hx,Chg.now⟩
 ·rw [if_pos rfl]
  go_enter Tryz.func157,Tryz.ntmps157
  go_wp2_with fail
  refine bodyPost_ret (v:=.tuple #[.agg #[.string p.kind,.bool false,.bool p.broken,.slice A3 p.cells.length c3,.int .i64 p.count],repV (repOf 0 0 0 0)]) (by simp only [repV,repOf,results,Tryz.results157];go_simp) rfl ?_
  exact⟨A3,c3,S3,rfl,K3.out.keep0 Chg.now,fun x hx=>.inl hx,Chg.now⟩
theorem l3Run_Start (p:CoreT) (A3:Option Addr) (c3:Nat) (S3:List Nat) (w:World) (h3:Has w (cells p.cells) (.slice A3 p.cells.length c3) S3) (hp:CoreOk p):
  Calls Tryz.prog 157 #[.agg #[.string p.kind,.bool p.on,.bool p.broken,.slice A3 p.cells.length c3,.int .i64 p.count],.string mStart] w (CoreRep (if p.on=true then({p with on:=false,broken:=true},repOf 3 0 0 0) else({p with on:=true,count:=upN p.count},repOf 0 0 0 0)) S3 w):=by
 obtain⟨hnum0,hnum1⟩:0<=p.count/\p.count<=999:=by obtain⟨_,_,_,_,hn,_⟩:=hp;exact hn
 have UP:=hid (fun W=>l3Up_any p.count W ⟨hnum0,hnum1⟩)
 have K3:=hid h3
 obtain⟨t0,t1,t2,t3,t4,t5,t6,t7,t8⟩:=tl_Start
 clear h3 hp
 cases ho:p.on
 ·rw [if_neg (by simp)]
  go_enter Tryz.func157,Tryz.ntmps157
  go_wp2_with fail
  refine(UP.out _).mono ?_
  rintro e w1 ⟨rfl,hw1⟩
  subst hw1
  go_wp2_with fail
  refine bodyPost_ret (v:=.tuple #[.agg #[.string p.kind,.bool true,.bool p.broken,.slice A3 p.cells.length c3,.int .i64 (upN p.count)],repV (repOf 0 0 0 0)]) (by simp only [repV,repOf,results,Tryz.results157];go_simp) rfl ?_
  exact⟨A3,c3,S3,rfl,K3.out.keep0 Chg.now,fun x hx=>.inl hx,Chg.now⟩
 ·rw [if_pos rfl]
  go_enter Tryz.func157,Tryz.ntmps157
  go_wp2_with fail
  refine bodyPost_ret (v:=.tuple #[.agg #[.string p.kind,.bool false,.bool true,.slice A3 p.cells.length c3,.int .i64 p.count],repV (repOf 3 0 0 0)]) (by simp only [repV,repOf,results,Tryz.results157];go_simp) rfl ?_
  exact⟨A3,c3,S3,rfl,K3.out.keep0 Chg.now,fun x hx=>.inl hx,Chg.now⟩
theorem l3Keep_Get (p:CoreT) (key:ByteArray) (value:Int) (text:ByteArray) (A3:Option Addr) (c3:Nat) (S3:List Nat) (w:World) (h3:Has w (cells p.cells) (.slice A3 p.cells.length c3) S3) (hp:CoreOk p):
  Calls Tryz.prog 155 #[.agg #[.string p.kind,.bool p.on,.bool p.broken,.slice A3 p.cells.length c3,.int .i64 p.count],.agg #[.string mGet,.string key,.int .i64 value,.string text],.bool (runsK p.kind)] w (CoreRep (keepT p ⟨mGet,key,value,text⟩) S3 w):=by
 obtain⟨hnum0,hnum1⟩:0<=p.count/\p.count<=999:=by obtain⟨_,_,_,_,hn,_⟩:=hp;exact hn
 have UP:=hid (fun W=>l3Up_any p.count W ⟨hnum0,hnum1⟩)
 have K3:=hid h3
 have tG:(ByteArray.toList mGet== [71,101,116])=true:=by rw [ByteArray.toList_eq];decide
 obtain⟨f,hkf,hcc,_⟩:=hp
 have ASC:=hid (cellsOk_asc hcc)
 have hl4:=hcc.1
 have AT:=hid (fun W (hW:Chg [] w W)=>l3At_is p.cells key _ w.heap.size W (h3.rd.chg0 hW (Nat.le_refl _)) hW.size)
 obtain⟨A,cap,e,h0,h1,hrow⟩:=cells_row h3.rd
 simp only [Value.slice.injEq,true_and] at e
 obtain⟨e1,e2⟩:=e
 subst e1 e2
 unfold maxLen at h1
 obtain⟨rb,hrb⟩:∃rb,rb=runsK p.kind:=⟨_,rfl⟩
 have KT:=hid (show keepT p ⟨mGet,key,value,text⟩=if rb=true/\p.on=false then(p,repOf 2 0 0 0) else(p,match findC p.cells key with|some v=>repOf 0 v 0 0|none=>repOf 4 0 0 0) by unfold keepT;rw [<-hrb];rw [if_pos rfl];rfl)
 rw [<-hrb]
 clear hkf hcc h3 hrb
 go_enter Tryz.func155,Tryz.ntmps155
 go_wp2_with fail
 refine(AT.out _ Chg.now).mono ?_
 rintro e w1 ⟨hr,c1⟩
 obtain⟨y1,_,s1⟩:=c1.cells
 have d1:Chg [] w w1:=Chg.trans0 Chg.now c1
 have hb0:w.heap.size<w1.heap.size:=by simp at s1;omega
 have hb1:w.heap.size+1<w1.heap.size:=by simp at s1;omega
 have hb2:w.heap.size+2<w1.heap.size:=by simp at s1;omega
 have hb3:w.heap.size+3<w1.heap.size:=by simp at s1;omega
 have b0:=fun o=>y1 w.heap.size o (by first|(simp;done)|(simp;omega))
 have b1:=fun o=>y1 (w.heap.size+1) o (by first|(simp;done)|(simp;omega))
 have b2:=fun o=>y1 (w.heap.size+1+1) o (by first|(simp;done)|(simp;omega))
 have b3:=fun o=>y1 (w.heap.size+1+1+1) o (by simp)
 have fz:=fun o=>(c1.cells.2.1 w.heap.size o (by first|(simp;done)|(simp;omega)))
 have fz2:=fun o=>(c1.cells.2.1 (w.heap.size+1+1) o (by first|(simp;done)|(simp;omega)))
 have fz3:=fun o=>(c1.cells.2.1 (w.heap.size+1+1+1) o (by simp))
 have hcs:(rb=true/\p.on=false)∨rb=false∨(rb=true/\p.on=true):=by
  cases rb<;>cases p.on<;>simp
 rcases hcs with hof|hcs
 ·have K2:=hid (KT.out.trans (by rw [if_pos hof]))
  obtain⟨hr1,ho⟩:=hof
  subst hr1
  clear KT
  rcases hr with ⟨k,hk,rfl,hf⟩|⟨rfl,hf⟩
  all_goals
   clear hf
   go_wp2_with fail
   refine bodyPost_ret (v:=.tuple #[.agg #[.string p.kind,.bool false,.bool p.broken,.slice A3 p.cells.length c3,.int .i64 p.count],repV (repOf 2 0 0 0)]) (by simp only [repV,repOf,results,Tryz.results155];go_simp) rfl ?_
   rw [K2.out]
   exact⟨A3,c3,S3,by simp only [ho],K3.out.keep0 (by first|exact Chg.to d1|exact Chg.now),fun x hx=>.inl hx,(by first|exact Chg.to d1|exact Chg.now)⟩
 have K2:=hid (KT.out.trans (by rw [if_neg (by rcases hcs with h|h<;>simp [h])]))
 clear KT
 rcases hcs with hr1|⟨hr1,ho⟩
 all_goals
  subst hr1
  rcases hr with ⟨k,hk,rfl,hf⟩|⟨rfl,hf⟩
 all_goals
  have K9:=hid (K2.out.trans (by rw [hf]))
  clear K2 hf
 ·obtain⟨b,off,rfl,hb,p0,p1⟩:=cells_cells (hrow.chg0 d1 (Nat.le_refl _)) k hk
  have hkn:¬((k:Int)<0):=by omega
  have hbw:b<w1.heap.size:=by have:=d1.size;omega
  go_wp2_with fail
  go_region
  all_goals
   go_wp2_with fail
   refine bodyPost_ret (v:=.tuple #[.agg #[.string p.kind,.bool p.on,.bool p.broken,.slice (some ⟨b,off,none⟩) p.cells.length c3,.int .i64 p.count],repV (repOf 0 p.cells[k].value 0 0)]) (by simp only [repV,repOf,results,Tryz.results155];go_simp) rfl ?_
   rw [K9.out]
   exact⟨some ⟨b,off,none⟩,c3,S3,rfl,K3.out.keep0 (by first|exact Chg.to d1|exact Chg.now),fun x hx=>.inl hx,(by first|exact Chg.to d1|exact Chg.now)⟩
 ·go_wp2_with fail
  refine bodyPost_ret (v:=.tuple #[.agg #[.string p.kind,.bool p.on,.bool p.broken,.slice A3 p.cells.length c3,.int .i64 p.count],repV (repOf 4 0 0 0)]) (by simp only [repV,repOf,results,Tryz.results155];go_simp) rfl ?_
  rw [K9.out]
  exact⟨A3,c3,S3,rfl,K3.out.keep0 (by first|exact Chg.to d1|exact Chg.now),fun x hx=>.inl hx,(by first|exact Chg.to d1|exact Chg.now)⟩
 ·obtain⟨b,off,rfl,hb,p0,p1⟩:=cells_cells (hrow.chg0 d1 (Nat.le_refl _)) k hk
  have hkn:¬((k:Int)<0):=by omega
  have hbw:b<w1.heap.size:=by have:=d1.size;omega
  go_wp2_with fail
  go_region
  all_goals
   go_wp2_with fail
   refine bodyPost_ret (v:=.tuple #[.agg #[.string p.kind,.bool p.on,.bool p.broken,.slice (some ⟨b,off,none⟩) p.cells.length c3,.int .i64 p.count],repV (repOf 0 p.cells[k].value 0 0)]) (by simp only [repV,repOf,results,Tryz.results155];go_simp) rfl ?_
   rw [K9.out]
   exact⟨some ⟨b,off,none⟩,c3,S3,rfl,K3.out.keep0 (by first|exact Chg.to d1|exact Chg.now),fun x hx=>.inl hx,(by first|exact Chg.to d1|exact Chg.now)⟩
 ·go_wp2_with fail
  refine bodyPost_ret (v:=.tuple #[.agg #[.string p.kind,.bool p.on,.bool p.broken,.slice A3 p.cells.length c3,.int .i64 p.count],repV (repOf 4 0 0 0)]) (by simp only [repV,repOf,results,Tryz.results155];go_simp) rfl ?_
  rw [K9.out]
  exact⟨A3,c3,S3,rfl,K3.out.keep0 (by first|exact Chg.to d1|exact Chg.now),fun x hx=>.inl hx,(by first|exact Chg.to d1|exact Chg.now)⟩

theorem l3Keep_Put (p:CoreT) (key:ByteArray) (value:Int) (text:ByteArray) (A3:Option Addr) (c3:Nat) (S3:List Nat) (w:World) (h3:Has w (cells p.cells) (.slice A3 p.cells.length c3) S3) (hp:CoreOk p):
  Calls Tryz.prog 155 #[.agg #[.string p.kind,.bool p.on,.bool p.broken,.slice A3 p.cells.length c3,.int .i64 p.count],.agg #[.string mPut,.string key,.int .i64 value,.string text],.bool (runsK p.kind)] w (CoreRep (keepT p ⟨mPut,key,value,text⟩) S3 w):=by
 obtain⟨hnum0,hnum1⟩:0<=p.count/\p.count<=999:=by obtain⟨_,_,_,_,hn,_⟩:=hp;exact hn
 have UP:=hid (fun W=>l3Up_any p.count W ⟨hnum0,hnum1⟩)
 have K3:=hid h3
 have tG:(ByteArray.toList mPut== [71,101,116])=false:=by rw [ByteArray.toList_eq];decide
 obtain⟨f,hkf,hcc,_⟩:=hp
 have ASC:=hid (cellsOk_asc hcc)
 have hl4:=hcc.1
 have AT:=hid (fun W (hW:Chg [] w W)=>l3At_is p.cells key _ w.heap.size W (h3.rd.chg0 hW (Nat.le_refl _)) hW.size)
 obtain⟨A,cap,e,h0,h1,hrow⟩:=cells_row h3.rd
 simp only [Value.slice.injEq,true_and] at e
 obtain⟨e1,e2⟩:=e
 subst e1 e2
 unfold maxLen at h1
 obtain⟨rb,hrb⟩:∃rb,rb=runsK p.kind:=⟨_,rfl⟩
 have KT:=hid (show keepT p ⟨mPut,key,value,text⟩=if rb=true/\p.on=false then(p,repOf 2 0 0 0) else if findC p.cells key=none/\4<=p.cells.length then(p,repOf 5 0 0 0) else({p with cells:=putC p.cells key value,count:=upN p.count},repOf 0 (putC p.cells key value).length 0 0) by unfold keepT;rw [<-hrb];rw [if_neg (c:=mPut=mGet) (by simp [mPut_Get])])
 rw [<-hrb]
 clear hkf hcc h3 hrb
 go_enter Tryz.func155,Tryz.ntmps155
 go_wp2_with fail
 refine(AT.out _ Chg.now).mono ?_
 rintro e w1 ⟨hr,c1⟩
 obtain⟨y1,_,s1⟩:=c1.cells
 have d1:Chg [] w w1:=Chg.trans0 Chg.now c1
 have hb0:w.heap.size<w1.heap.size:=by simp at s1;omega
 have hb1:w.heap.size+1<w1.heap.size:=by simp at s1;omega
 have hb2:w.heap.size+2<w1.heap.size:=by simp at s1;omega
 have hb3:w.heap.size+3<w1.heap.size:=by simp at s1;omega
 have b0:=fun o=>y1 w.heap.size o (by first|(simp;done)|(simp;omega))
 have b1:=fun o=>y1 (w.heap.size+1) o (by first|(simp;done)|(simp;omega))
 have b2:=fun o=>y1 (w.heap.size+1+1) o (by first|(simp;done)|(simp;omega))
 have b3:=fun o=>y1 (w.heap.size+1+1+1) o (by simp)
 have fz:=fun o=>(c1.cells.2.1 w.heap.size o (by first|(simp;done)|(simp;omega)))
 have fz2:=fun o=>(c1.cells.2.1 (w.heap.size+1+1) o (by first|(simp;done)|(simp;omega)))
 have fz3:=fun o=>(c1.cells.2.1 (w.heap.size+1+1+1) o (by simp))
 have hcs:(rb=true/\p.on=false)∨rb=false∨(rb=true/\p.on=true):=by
  cases rb<;>cases p.on<;>simp
 rcases hcs with hof|hcs
 ·have K2:=hid (KT.out.trans (by rw [if_pos hof]))
  obtain⟨hr1,ho⟩:=hof
  subst hr1
  clear KT
  rcases hr with ⟨k,hk,rfl,hf⟩|⟨rfl,hf⟩
  all_goals
   clear hf
   go_wp2_with fail
   refine bodyPost_ret (v:=.tuple #[.agg #[.string p.kind,.bool false,.bool p.broken,.slice A3 p.cells.length c3,.int .i64 p.count],repV (repOf 2 0 0 0)]) (by simp only [repV,repOf,results,Tryz.results155];go_simp) rfl ?_
   rw [K2.out]
   exact⟨A3,c3,S3,by simp only [ho],K3.out.keep0 (by first|exact Chg.to d1|exact Chg.now),fun x hx=>.inl hx,(by first|exact Chg.to d1|exact Chg.now)⟩
 have K2:=hid (KT.out.trans (by rw [if_neg (by rcases hcs with h|h<;>simp [h])]))
 clear KT
 have PT:=hid (fun W (hW:Chg [] w W)=>l3Put_is p.cells key value _ w.heap.size W (K3.out.rd.chg0 hW (Nat.le_refl _)) hW.size (by omega))
 rw [putS_eq ASC.out] at PT
 obtain⟨L,hL⟩:∃L,L=putC p.cells key value:=⟨_,rfl⟩
 rw [<-hL] at PT K2
 clear hL
 rcases hcs with hr1|⟨hr1,ho⟩
 all_goals
  subst hr1
  rcases hr with ⟨k,hk,rfl,hf⟩|⟨rfl,hf⟩
 ·have hkn:¬((k:Int)<0):=by omega
  have K9:=hid (K2.out.trans (by rw [hf,if_neg (by simp)]))
  clear K2 hf
  go_wp2_with fail
  refine(PT.out _ (by first|exact Chg.to d1|exact Chg.now)).mono ?_
  intro e w2 G
  obtain⟨A2,c2,rfl,hN⟩:=G.sl
  obtain⟨S2,hS2,lo2,cc2⟩:=hN
  have d2:Chg [] w w2:=Chg.trans0 (by first|exact Chg.to d1|exact Chg.now) cc2
  have sz2:=cc2.size
  obtain⟨y2,z2,_⟩:=cc2.cells
  have e0:=fun o=>y2 w.heap.size o (by simpa using hb0)
  have e2:=fun o=>y2 (w.heap.size+1+1) o (by simpa using hb2)
  have e3:=fun o=>y2 (w.heap.size+1+1+1) o (by simpa using hb3)
  have g0:=fun o=>z2 w.heap.size o (by simpa using hb0)
  have g2:=fun o=>z2 (w.heap.size+1+1) o (by simpa using hb2)
  have g3:=fun o=>z2 (w.heap.size+1+1+1) o (by simpa using hb3)
  have v0:w2.cell? ⟨w.heap.size,0,none⟩=some (.string p.kind):=(e0 0).trans ((b0 0).trans (by go_simp))
  have v1:w2.cell? ⟨w.heap.size,1,none⟩=some (.bool p.on):=(e0 1).trans ((b0 1).trans (by go_simp))
  have v2:w2.cell? ⟨w.heap.size,2,none⟩=some (.bool p.broken):=(e0 2).trans ((b0 2).trans (by go_simp))
  have v3:w2.cell? ⟨w.heap.size,3,none⟩=some (.slice A3 p.cells.length c3):=(e0 3).trans ((b0 3).trans (by go_simp))
  have v4:w2.cell? ⟨w.heap.size,4,none⟩=some (.int .i64 p.count):=(e0 4).trans ((b0 4).trans (by go_simp))
  have x0:w.heap.size<w2.heap.size:=by omega
  have x2:w.heap.size+2<w2.heap.size:=by omega
  have x3:w.heap.size+3<w2.heap.size:=by omega
  have lo3:∀x,x∈S2->w.heap.size+3<x:=fun x hx=>by have:=lo2 x hx;first|omega|(simp at this;omega)
  have HS:=hid hS2
  clear y1 y2 z2 hS2 lo2 cc2 G e0
  go_wp2_with fail
  refine(UP.out _).mono ?_
  rintro e w3 ⟨rfl,hw3⟩
  subst hw3
  go_wp2_with fail
  go_region
  all_goals
   go_wp2_with fail
   refine bodyPost_ret (v:=.tuple #[.agg #[.string p.kind,.bool p.on,.bool p.broken,.slice A2 L.length c2,.int .i64 (upN p.count)],repV (repOf 0 L.length 0 0)]) (by simp only [repV,repOf,results,Tryz.results155];go_simp) rfl ?_
   rw [K9.out]
   exact⟨A2,c2,S2,rfl,HS.out.keep (S0:=[w.heap.size,w.heap.size+1+1,w.heap.size+1+1+1]) Chg.now (fun x hx=>by have:=lo3 x hx;simp;omega),fun x hx=>.inr (by have:=lo3 x hx;omega),(by first|exact Chg.to d2|exact Chg.now)⟩
 ·by_cases h4:4<=p.cells.length
  ·have K9:=hid (K2.out.trans (by rw [if_pos ⟨hf,h4⟩]))
   have h44:((p.cells.length:Int)==4)=true:=by simp;omega
   clear K2 hf
   go_wp2_with fail
   refine bodyPost_ret (v:=.tuple #[.agg #[.string p.kind,.bool p.on,.bool p.broken,.slice A3 p.cells.length c3,.int .i64 p.count],repV (repOf 5 0 0 0)]) (by simp only [repV,repOf,results,Tryz.results155];go_simp) rfl ?_
   rw [K9.out]
   exact⟨A3,c3,S3,rfl,K3.out.keep0 (by first|exact Chg.to d1|exact Chg.now),fun x hx=>.inl hx,(by first|exact Chg.to d1|exact Chg.now)⟩
  ·have K9:=hid (K2.out.trans (by rw [if_neg (fun h=>h4 h.2)]))
   have h44:((p.cells.length:Int)==4)=false:=by simp;omega
   clear K2 hf
   go_wp2_with fail
   refine(PT.out _ (by first|exact Chg.to d1|exact Chg.now)).mono ?_
   intro e w2 G
   obtain⟨A2,c2,rfl,hN⟩:=G.sl
   obtain⟨S2,hS2,lo2,cc2⟩:=hN
   have d2:Chg [] w w2:=Chg.trans0 (by first|exact Chg.to d1|exact Chg.now) cc2
   have sz2:=cc2.size
   obtain⟨y2,z2,_⟩:=cc2.cells
   have e0:=fun o=>y2 w.heap.size o (by simpa using hb0)
   have e2:=fun o=>y2 (w.heap.size+1+1) o (by simpa using hb2)
   have e3:=fun o=>y2 (w.heap.size+1+1+1) o (by simpa using hb3)
   have g0:=fun o=>z2 w.heap.size o (by simpa using hb0)
   have g2:=fun o=>z2 (w.heap.size+1+1) o (by simpa using hb2)
   have g3:=fun o=>z2 (w.heap.size+1+1+1) o (by simpa using hb3)
   have v0:w2.cell? ⟨w.heap.size,0,none⟩=some (.string p.kind):=(e0 0).trans ((b0 0).trans (by go_simp))
   have v1:w2.cell? ⟨w.heap.size,1,none⟩=some (.bool p.on):=(e0 1).trans ((b0 1).trans (by go_simp))
   have v2:w2.cell? ⟨w.heap.size,2,none⟩=some (.bool p.broken):=(e0 2).trans ((b0 2).trans (by go_simp))
   have v3:w2.cell? ⟨w.heap.size,3,none⟩=some (.slice A3 p.cells.length c3):=(e0 3).trans ((b0 3).trans (by go_simp))
   have v4:w2.cell? ⟨w.heap.size,4,none⟩=some (.int .i64 p.count):=(e0 4).trans ((b0 4).trans (by go_simp))
   have x0:w.heap.size<w2.heap.size:=by omega
   have x2:w.heap.size+2<w2.heap.size:=by omega
   have x3:w.heap.size+3<w2.heap.size:=by omega
   have lo3:∀x,x∈S2->w.heap.size+3<x:=fun x hx=>by have:=lo2 x hx;first|omega|(simp at this;omega)
   have HS:=hid hS2
   clear y1 y2 z2 hS2 lo2 cc2 G e0
   go_wp2_with fail
   refine(UP.out _).mono ?_
   rintro e w3 ⟨rfl,hw3⟩
   subst hw3
   go_wp2_with fail
   go_region
   all_goals
    go_wp2_with fail
    refine bodyPost_ret (v:=.tuple #[.agg #[.string p.kind,.bool p.on,.bool p.broken,.slice A2 L.length c2,.int .i64 (upN p.count)],repV (repOf 0 L.length 0 0)]) (by simp only [repV,repOf,results,Tryz.results155];go_simp) rfl ?_
    rw [K9.out]
    exact⟨A2,c2,S2,rfl,HS.out.keep (S0:=[w.heap.size,w.heap.size+1+1,w.heap.size+1+1+1]) Chg.now (fun x hx=>by have:=lo3 x hx;simp;omega),fun x hx=>.inr (by have:=lo3 x hx;omega),(by first|exact Chg.to d2|exact Chg.now)⟩
 ·have hkn:¬((k:Int)<0):=by omega
  have K9:=hid (K2.out.trans (by rw [hf,if_neg (by simp)]))
  clear K2 hf
  go_wp2_with fail
  refine(PT.out _ (by first|exact Chg.to d1|exact Chg.now)).mono ?_
  intro e w2 G
  obtain⟨A2,c2,rfl,hN⟩:=G.sl
  obtain⟨S2,hS2,lo2,cc2⟩:=hN
  have d2:Chg [] w w2:=Chg.trans0 (by first|exact Chg.to d1|exact Chg.now) cc2
  have sz2:=cc2.size
  obtain⟨y2,z2,_⟩:=cc2.cells
  have e0:=fun o=>y2 w.heap.size o (by simpa using hb0)
  have e2:=fun o=>y2 (w.heap.size+1+1) o (by simpa using hb2)
  have e3:=fun o=>y2 (w.heap.size+1+1+1) o (by simpa using hb3)
  have g0:=fun o=>z2 w.heap.size o (by simpa using hb0)
  have g2:=fun o=>z2 (w.heap.size+1+1) o (by simpa using hb2)
  have g3:=fun o=>z2 (w.heap.size+1+1+1) o (by simpa using hb3)
  have v0:w2.cell? ⟨w.heap.size,0,none⟩=some (.string p.kind):=(e0 0).trans ((b0 0).trans (by go_simp))
  have v1:w2.cell? ⟨w.heap.size,1,none⟩=some (.bool p.on):=(e0 1).trans ((b0 1).trans (by go_simp))
  have v2:w2.cell? ⟨w.heap.size,2,none⟩=some (.bool p.broken):=(e0 2).trans ((b0 2).trans (by go_simp))
  have v3:w2.cell? ⟨w.heap.size,3,none⟩=some (.slice A3 p.cells.length c3):=(e0 3).trans ((b0 3).trans (by go_simp))
  have v4:w2.cell? ⟨w.heap.size,4,none⟩=some (.int .i64 p.count):=(e0 4).trans ((b0 4).trans (by go_simp))
  have x0:w.heap.size<w2.heap.size:=by omega
  have x2:w.heap.size+2<w2.heap.size:=by omega
  have x3:w.heap.size+3<w2.heap.size:=by omega
  have lo3:∀x,x∈S2->w.heap.size+3<x:=fun x hx=>by have:=lo2 x hx;first|omega|(simp at this;omega)
  have HS:=hid hS2
  clear y1 y2 z2 hS2 lo2 cc2 G e0
  go_wp2_with fail
  refine(UP.out _).mono ?_
  rintro e w3 ⟨rfl,hw3⟩
  subst hw3
  go_wp2_with fail
  go_region
  all_goals
   go_wp2_with fail
   refine bodyPost_ret (v:=.tuple #[.agg #[.string p.kind,.bool p.on,.bool p.broken,.slice A2 L.length c2,.int .i64 (upN p.count)],repV (repOf 0 L.length 0 0)]) (by simp only [repV,repOf,results,Tryz.results155];go_simp) rfl ?_
   rw [K9.out]
   exact⟨A2,c2,S2,rfl,HS.out.keep (S0:=[w.heap.size,w.heap.size+1+1,w.heap.size+1+1+1]) Chg.now (fun x hx=>by have:=lo3 x hx;simp;omega),fun x hx=>.inr (by have:=lo3 x hx;omega),(by first|exact Chg.to d2|exact Chg.now)⟩
 ·by_cases h4:4<=p.cells.length
  ·have K9:=hid (K2.out.trans (by rw [if_pos ⟨hf,h4⟩]))
   have h44:((p.cells.length:Int)==4)=true:=by simp;omega
   clear K2 hf
   go_wp2_with fail
   refine bodyPost_ret (v:=.tuple #[.agg #[.string p.kind,.bool p.on,.bool p.broken,.slice A3 p.cells.length c3,.int .i64 p.count],repV (repOf 5 0 0 0)]) (by simp only [repV,repOf,results,Tryz.results155];go_simp) rfl ?_
   rw [K9.out]
   exact⟨A3,c3,S3,rfl,K3.out.keep0 (by first|exact Chg.to d1|exact Chg.now),fun x hx=>.inl hx,(by first|exact Chg.to d1|exact Chg.now)⟩
  ·have K9:=hid (K2.out.trans (by rw [if_neg (fun h=>h4 h.2)]))
   have h44:((p.cells.length:Int)==4)=false:=by simp;omega
   clear K2 hf
   go_wp2_with fail
   refine(PT.out _ (by first|exact Chg.to d1|exact Chg.now)).mono ?_
   intro e w2 G
   obtain⟨A2,c2,rfl,hN⟩:=G.sl
   obtain⟨S2,hS2,lo2,cc2⟩:=hN
   have d2:Chg [] w w2:=Chg.trans0 (by first|exact Chg.to d1|exact Chg.now) cc2
   have sz2:=cc2.size
   obtain⟨y2,z2,_⟩:=cc2.cells
   have e0:=fun o=>y2 w.heap.size o (by simpa using hb0)
   have e2:=fun o=>y2 (w.heap.size+1+1) o (by simpa using hb2)
   have e3:=fun o=>y2 (w.heap.size+1+1+1) o (by simpa using hb3)
   have g0:=fun o=>z2 w.heap.size o (by simpa using hb0)
   have g2:=fun o=>z2 (w.heap.size+1+1) o (by simpa using hb2)
   have g3:=fun o=>z2 (w.heap.size+1+1+1) o (by simpa using hb3)
   have v0:w2.cell? ⟨w.heap.size,0,none⟩=some (.string p.kind):=(e0 0).trans ((b0 0).trans (by go_simp))
   have v1:w2.cell? ⟨w.heap.size,1,none⟩=some (.bool p.on):=(e0 1).trans ((b0 1).trans (by go_simp))
   have v2:w2.cell? ⟨w.heap.size,2,none⟩=some (.bool p.broken):=(e0 2).trans ((b0 2).trans (by go_simp))
   have v3:w2.cell? ⟨w.heap.size,3,none⟩=some (.slice A3 p.cells.length c3):=(e0 3).trans ((b0 3).trans (by go_simp))
   have v4:w2.cell? ⟨w.heap.size,4,none⟩=some (.int .i64 p.count):=(e0 4).trans ((b0 4).trans (by go_simp))
   have x0:w.heap.size<w2.heap.size:=by omega
   have x2:w.heap.size+2<w2.heap.size:=by omega
   have x3:w.heap.size+3<w2.heap.size:=by omega
   have lo3:∀x,x∈S2->w.heap.size+3<x:=fun x hx=>by have:=lo2 x hx;first|omega|(simp at this;omega)
   have HS:=hid hS2
   clear y1 y2 z2 hS2 lo2 cc2 G e0
   go_wp2_with fail
   refine(UP.out _).mono ?_
   rintro e w3 ⟨rfl,hw3⟩
   subst hw3
   go_wp2_with fail
   go_region
   all_goals
    go_wp2_with fail
    refine bodyPost_ret (v:=.tuple #[.agg #[.string p.kind,.bool p.on,.bool p.broken,.slice A2 L.length c2,.int .i64 (upN p.count)],repV (repOf 0 L.length 0 0)]) (by simp only [repV,repOf,results,Tryz.results155];go_simp) rfl ?_
    rw [K9.out]
    exact⟨A2,c2,S2,rfl,HS.out.keep (S0:=[w.heap.size,w.heap.size+1+1,w.heap.size+1+1+1]) Chg.now (fun x hx=>by have:=lo3 x hx;simp;omega),fun x hx=>.inr (by have:=lo3 x hx;omega),(by first|exact Chg.to d2|exact Chg.now)⟩

theorem l3Do_Start (p:CoreT) (key:ByteArray) (value:Int) (text:ByteArray) (A3:Option Addr) (c3:Nat) (S3:List Nat) (w:World) (h3:Has w (cells p.cells) (.slice A3 p.cells.length c3) S3) (hp:CoreOk p):
  Calls Tryz.prog 142 #[.agg #[.string p.kind,.bool p.on,.bool p.broken,.slice A3 p.cells.length c3,.int .i64 p.count],.agg #[.string mStart,.string key,.int .i64 value,.string text],.bool (runsK p.kind)] w (CoreRep (doesT p ⟨mStart,key,value,text⟩) S3 w):=by
 obtain⟨hnum0,hnum1⟩:0<=p.count/\p.count<=999:=by obtain⟨_,_,_,_,hn,_⟩:=hp;exact hn
 have UP:=hid (fun W=>l3Up_any p.count W ⟨hnum0,hnum1⟩)
 have K3:=hid h3
 obtain⟨t0,t1,t2,t3,t4,t5,t6,t7,t8⟩:=tl_Start
 have hl3:=h3.lt
 rw [doesT_Start rfl]
 rcases(by cases p.broken<;>simp:p.broken=false∨p.broken=true) with hb|hb
 ·rw [if_neg (by simp [hb])]
  have RC:=hid (fun W (hW:Chg [] w W)=>l3Run_Start p A3 c3 S3 W (h3.keep0 hW) hp)
  obtain⟨R,hR⟩:∃R,R=(if p.on=true then({p with on:=false,broken:=true},repOf 3 0 0 0) else({p with on:=true,count:=upN p.count},repOf 0 0 0 0)):=⟨_,rfl⟩
  rw [<-hR] at RC ⊢
  rw [hb] at RC ⊢
  clear hR h3 hp
  go_enter Tryz.func142,Tryz.ntmps142
  go_wp2_with fail
  refine(RC.out _ Chg.now).mono ?_
  rintro e w1 ⟨A,c,S',rfl,hH,hS,c1⟩
  have d1:Chg [] w w1:=Chg.trans0 Chg.now c1
  obtain⟨y1,z1,s1⟩:=c1.cells
  have x2:w.heap.size+2<w1.heap.size:=by simp at s1;omega
  have x3:w.heap.size+3<w1.heap.size:=by simp at s1;omega
  have b2:=fun o=>y1 (w.heap.size+1+1) o (by first|(simp;done)|(simp;omega))
  have b3:=fun o=>y1 (w.heap.size+1+1+1) o (by simp)
  have g2:=fun o=>z1 (w.heap.size+1+1) o (by first|(simp;done)|(simp;omega))
  have g3:=fun o=>z1 (w.heap.size+1+1+1) o (by simp)
  have hS2:∀x,x∈S'->x<w.heap.size∨w.heap.size+3<x:=fun x hx=>by
   rcases hS x hx with h|h
   ·exact .inl (hl3 x h)
   ·right;simp at h;omega
  have HS:=hid hS
  have HH:=hid hH
  clear y1 z1 s1 c1 hH hS
  unfold repV
  go_wp2_with fail
  refine bodyPost_ret (v:=.tuple #[.agg #[.string R.1.kind,.bool R.1.on,.bool R.1.broken,.slice A R.1.cells.length c,.int .i64 R.1.count],repV R.2]) (by simp only [repV,results,Tryz.results142];go_simp) rfl ?_
  exact⟨A,c,S',rfl,HH.out.keep (S0:=[w.heap.size+1+1,w.heap.size+1+1+1]) Chg.now (fun x hx=>by have:=hS2 x hx;simp;omega),fun x hx=>(HS.out x hx).imp id (fun h=>by simp at h;omega),(by first|exact Chg.to d1|exact Chg.now)⟩
 ·rw [if_pos hb]
  clear h3 hp
  go_enter Tryz.func142,Tryz.ntmps142
  go_wp2_with fail
  refine bodyPost_ret (v:=.tuple #[.agg #[.string p.kind,.bool p.on,.bool true,.slice A3 p.cells.length c3,.int .i64 p.count],repV (repOf 3 0 0 0)]) (by simp only [repV,repOf,results,Tryz.results142];go_simp) rfl ?_
  exact⟨A3,c3,S3,by simp only [hb],K3.out.keep0 Chg.now,fun x hx=>.inl hx,Chg.now⟩
theorem l3Do_Stop (p:CoreT) (key:ByteArray) (value:Int) (text:ByteArray) (A3:Option Addr) (c3:Nat) (S3:List Nat) (w:World) (h3:Has w (cells p.cells) (.slice A3 p.cells.length c3) S3) (hp:CoreOk p):
  Calls Tryz.prog 142 #[.agg #[.string p.kind,.bool p.on,.bool p.broken,.slice A3 p.cells.length c3,.int .i64 p.count],.agg #[.string mStop,.string key,.int .i64 value,.string text],.bool (runsK p.kind)] w (CoreRep (doesT p ⟨mStop,key,value,text⟩) S3 w):=by
 obtain⟨hnum0,hnum1⟩:0<=p.count/\p.count<=999:=by obtain⟨_,_,_,_,hn,_⟩:=hp;exact hn
 have UP:=hid (fun W=>l3Up_any p.count W ⟨hnum0,hnum1⟩)
 have K3:=hid h3
 obtain⟨t0,t1,t2,t3,t4,t5,t6,t7,t8⟩:=tl_Stop
 have hl3:=h3.lt
 rw [doesT_Stop rfl]
 rcases(by cases p.broken<;>simp:p.broken=false∨p.broken=true) with hb|hb
 ·rw [if_neg (by simp [hb])]
  have RC:=hid (fun W (hW:Chg [] w W)=>l3Run_Stop p A3 c3 S3 W (h3.keep0 hW) hp)
  obtain⟨R,hR⟩:∃R,R=(if p.on=true then({p with on:=false},repOf 0 0 0 0) else(p,repOf 2 0 0 0)):=⟨_,rfl⟩
  rw [<-hR] at RC ⊢
  rw [hb] at RC ⊢
  clear hR h3 hp
  go_enter Tryz.func142,Tryz.ntmps142
  go_wp2_with fail
  refine(RC.out _ Chg.now).mono ?_
  rintro e w1 ⟨A,c,S',rfl,hH,hS,c1⟩
  have d1:Chg [] w w1:=Chg.trans0 Chg.now c1
  obtain⟨y1,z1,s1⟩:=c1.cells
  have x2:w.heap.size+2<w1.heap.size:=by simp at s1;omega
  have x3:w.heap.size+3<w1.heap.size:=by simp at s1;omega
  have b2:=fun o=>y1 (w.heap.size+1+1) o (by first|(simp;done)|(simp;omega))
  have b3:=fun o=>y1 (w.heap.size+1+1+1) o (by simp)
  have g2:=fun o=>z1 (w.heap.size+1+1) o (by first|(simp;done)|(simp;omega))
  have g3:=fun o=>z1 (w.heap.size+1+1+1) o (by simp)
  have hS2:∀x,x∈S'->x<w.heap.size∨w.heap.size+3<x:=fun x hx=>by
   rcases hS x hx with h|h
   ·exact .inl (hl3 x h)
   ·right;simp at h;omega
  have HS:=hid hS
  have HH:=hid hH
  clear y1 z1 s1 c1 hH hS
  unfold repV
  go_wp2_with fail
  refine bodyPost_ret (v:=.tuple #[.agg #[.string R.1.kind,.bool R.1.on,.bool R.1.broken,.slice A R.1.cells.length c,.int .i64 R.1.count],repV R.2]) (by simp only [repV,results,Tryz.results142];go_simp) rfl ?_
  exact⟨A,c,S',rfl,HH.out.keep (S0:=[w.heap.size+1+1,w.heap.size+1+1+1]) Chg.now (fun x hx=>by have:=hS2 x hx;simp;omega),fun x hx=>(HS.out x hx).imp id (fun h=>by simp at h;omega),(by first|exact Chg.to d1|exact Chg.now)⟩
 ·rw [if_pos hb]
  clear h3 hp
  go_enter Tryz.func142,Tryz.ntmps142
  go_wp2_with fail
  refine bodyPost_ret (v:=.tuple #[.agg #[.string p.kind,.bool p.on,.bool true,.slice A3 p.cells.length c3,.int .i64 p.count],repV (repOf 3 0 0 0)]) (by simp only [repV,repOf,results,Tryz.results142];go_simp) rfl ?_
  exact⟨A3,c3,S3,by simp only [hb],K3.out.keep0 Chg.now,fun x hx=>.inl hx,Chg.now⟩
theorem l3Do_Get (p:CoreT) (key:ByteArray) (value:Int) (text:ByteArray) (A3:Option Addr) (c3:Nat) (S3:List Nat) (w:World) (h3:Has w (cells p.cells) (.slice A3 p.cells.length c3) S3) (hp:CoreOk p):
  Calls Tryz.prog 142 #[.agg #[.string p.kind,.bool p.on,.bool p.broken,.slice A3 p.cells.length c3,.int .i64 p.count],.agg #[.string mGet,.string key,.int .i64 value,.string text],.bool (runsK p.kind)] w (CoreRep (doesT p ⟨mGet,key,value,text⟩) S3 w):=by
 obtain⟨hnum0,hnum1⟩:0<=p.count/\p.count<=999:=by obtain⟨_,_,_,_,hn,_⟩:=hp;exact hn
 have UP:=hid (fun W=>l3Up_any p.count W ⟨hnum0,hnum1⟩)
 have K3:=hid h3
 obtain⟨t0,t1,t2,t3,t4,t5,t6,t7,t8⟩:=tl_Get
 have hl3:=h3.lt
 rw [doesT_Get rfl]
 rcases(by cases p.broken<;>simp:p.broken=false∨p.broken=true) with hb|hb
 ·rw [if_neg (by simp [hb])]
  have RC:=hid (fun W (hW:Chg [] w W)=>l3Keep_Get p key value text A3 c3 S3 W (h3.keep0 hW) hp)
  obtain⟨R,hR⟩:∃R,R=keepT p ⟨mGet,key,value,text⟩:=⟨_,rfl⟩
  rw [<-hR] at RC ⊢
  rw [hb] at RC ⊢
  clear hR h3 hp
  go_enter Tryz.func142,Tryz.ntmps142
  go_wp2_with fail
  refine(RC.out _ Chg.now).mono ?_
  rintro e w1 ⟨A,c,S',rfl,hH,hS,c1⟩
  have d1:Chg [] w w1:=Chg.trans0 Chg.now c1
  obtain⟨y1,z1,s1⟩:=c1.cells
  have x2:w.heap.size+2<w1.heap.size:=by simp at s1;omega
  have x3:w.heap.size+3<w1.heap.size:=by simp at s1;omega
  have b2:=fun o=>y1 (w.heap.size+1+1) o (by first|(simp;done)|(simp;omega))
  have b3:=fun o=>y1 (w.heap.size+1+1+1) o (by simp)
  have g2:=fun o=>z1 (w.heap.size+1+1) o (by first|(simp;done)|(simp;omega))
  have g3:=fun o=>z1 (w.heap.size+1+1+1) o (by simp)
  have hS2:∀x,x∈S'->x<w.heap.size∨w.heap.size+3<x:=fun x hx=>by
   rcases hS x hx with h|h
   ·exact .inl (hl3 x h)
   ·right;simp at h;omega
  have HS:=hid hS
  have HH:=hid hH
  clear y1 z1 s1 c1 hH hS
  unfold repV
  go_wp2_with fail
  refine bodyPost_ret (v:=.tuple #[.agg #[.string R.1.kind,.bool R.1.on,.bool R.1.broken,.slice A R.1.cells.length c,.int .i64 R.1.count],repV R.2]) (by simp only [repV,results,Tryz.results142];go_simp) rfl ?_
  exact⟨A,c,S',rfl,HH.out.keep (S0:=[w.heap.size+1+1,w.heap.size+1+1+1]) Chg.now (fun x hx=>by have:=hS2 x hx;simp;omega),fun x hx=>(HS.out x hx).imp id (fun h=>by simp at h;omega),(by first|exact Chg.to d1|exact Chg.now)⟩
 ·rw [if_pos hb]
  clear h3 hp
  go_enter Tryz.func142,Tryz.ntmps142
  go_wp2_with fail
  refine bodyPost_ret (v:=.tuple #[.agg #[.string p.kind,.bool p.on,.bool true,.slice A3 p.cells.length c3,.int .i64 p.count],repV (repOf 3 0 0 0)]) (by simp only [repV,repOf,results,Tryz.results142];go_simp) rfl ?_
  exact⟨A3,c3,S3,by simp only [hb],K3.out.keep0 Chg.now,fun x hx=>.inl hx,Chg.now⟩
theorem l3Do_Put (p:CoreT) (key:ByteArray) (value:Int) (text:ByteArray) (A3:Option Addr) (c3:Nat) (S3:List Nat) (w:World) (h3:Has w (cells p.cells) (.slice A3 p.cells.length c3) S3) (hp:CoreOk p):
  Calls Tryz.prog 142 #[.agg #[.string p.kind,.bool p.on,.bool p.broken,.slice A3 p.cells.length c3,.int .i64 p.count],.agg #[.string mPut,.string key,.int .i64 value,.string text],.bool (runsK p.kind)] w (CoreRep (doesT p ⟨mPut,key,value,text⟩) S3 w):=by
 obtain⟨hnum0,hnum1⟩:0<=p.count/\p.count<=999:=by obtain⟨_,_,_,_,hn,_⟩:=hp;exact hn
 have UP:=hid (fun W=>l3Up_any p.count W ⟨hnum0,hnum1⟩)
 have K3:=hid h3
 obtain⟨t0,t1,t2,t3,t4,t5,t6,t7,t8⟩:=tl_Put
 have hl3:=h3.lt
 rw [doesT_Put rfl]
 rcases(by cases p.broken<;>simp:p.broken=false∨p.broken=true) with hb|hb
 ·rw [if_neg (by simp [hb])]
  have RC:=hid (fun W (hW:Chg [] w W)=>l3Keep_Put p key value text A3 c3 S3 W (h3.keep0 hW) hp)
  obtain⟨R,hR⟩:∃R,R=keepT p ⟨mPut,key,value,text⟩:=⟨_,rfl⟩
  rw [<-hR] at RC ⊢
  rw [hb] at RC ⊢
  clear hR h3 hp
  go_enter Tryz.func142,Tryz.ntmps142
  go_wp2_with fail
  refine(RC.out _ Chg.now).mono ?_
  rintro e w1 ⟨A,c,S',rfl,hH,hS,c1⟩
  have d1:Chg [] w w1:=Chg.trans0 Chg.now c1
  obtain⟨y1,z1,s1⟩:=c1.cells
  have x2:w.heap.size+2<w1.heap.size:=by simp at s1;omega
  have x3:w.heap.size+3<w1.heap.size:=by simp at s1;omega
  have b2:=fun o=>y1 (w.heap.size+1+1) o (by first|(simp;done)|(simp;omega))
  have b3:=fun o=>y1 (w.heap.size+1+1+1) o (by simp)
  have g2:=fun o=>z1 (w.heap.size+1+1) o (by first|(simp;done)|(simp;omega))
  have g3:=fun o=>z1 (w.heap.size+1+1+1) o (by simp)
  have hS2:∀x,x∈S'->x<w.heap.size∨w.heap.size+3<x:=fun x hx=>by
   rcases hS x hx with h|h
   ·exact .inl (hl3 x h)
   ·right;simp at h;omega
  have HS:=hid hS
  have HH:=hid hH
  clear y1 z1 s1 c1 hH hS
  unfold repV
  go_wp2_with fail
  refine bodyPost_ret (v:=.tuple #[.agg #[.string R.1.kind,.bool R.1.on,.bool R.1.broken,.slice A R.1.cells.length c,.int .i64 R.1.count],repV R.2]) (by simp only [repV,results,Tryz.results142];go_simp) rfl ?_
  exact⟨A,c,S',rfl,HH.out.keep (S0:=[w.heap.size+1+1,w.heap.size+1+1+1]) Chg.now (fun x hx=>by have:=hS2 x hx;simp;omega),fun x hx=>(HS.out x hx).imp id (fun h=>by simp at h;omega),(by first|exact Chg.to d1|exact Chg.now)⟩
 ·rw [if_pos hb]
  clear h3 hp
  go_enter Tryz.func142,Tryz.ntmps142
  go_wp2_with fail
  refine bodyPost_ret (v:=.tuple #[.agg #[.string p.kind,.bool p.on,.bool true,.slice A3 p.cells.length c3,.int .i64 p.count],repV (repOf 3 0 0 0)]) (by simp only [repV,repOf,results,Tryz.results142];go_simp) rfl ?_
  exact⟨A3,c3,S3,by simp only [hb],K3.out.keep0 Chg.now,fun x hx=>.inl hx,Chg.now⟩
theorem l3Do_Tell (p:CoreT) (key:ByteArray) (value:Int) (text:ByteArray) (A3:Option Addr) (c3:Nat) (S3:List Nat) (w:World) (h3:Has w (cells p.cells) (.slice A3 p.cells.length c3) S3) (hp:CoreOk p):
  Calls Tryz.prog 142 #[.agg #[.string p.kind,.bool p.on,.bool p.broken,.slice A3 p.cells.length c3,.int .i64 p.count],.agg #[.string mTell,.string key,.int .i64 value,.string text],.bool (runsK p.kind)] w (CoreRep (doesT p ⟨mTell,key,value,text⟩) S3 w):=by
 obtain⟨hnum0,hnum1⟩:0<=p.count/\p.count<=999:=by obtain⟨_,_,_,_,hn,_⟩:=hp;exact hn
 have UP:=hid (fun W=>l3Up_any p.count W ⟨hnum0,hnum1⟩)
 have K3:=hid h3
 obtain⟨t0,t1,t2,t3,t4,t5,t6,t7,t8⟩:=tl_Tell
 have hl3:=h3.lt
 rw [doesT_Tell rfl]
 clear h3 hp
 rcases(by cases p.broken<;>simp:p.broken=false∨p.broken=true) with hb|hb
 all_goals
  go_enter Tryz.func142,Tryz.ntmps142
  go_wp2_with fail
  go_region
  all_goals
   go_wp2_with fail
   refine bodyPost_ret (v:=.tuple #[.agg #[.string p.kind,.bool p.on,.bool p.broken,.slice A3 p.cells.length c3,.int .i64 p.count],repV (repOf 0 p.count 0 0)]) (by simp only [repV,repOf,results,Tryz.results142];go_simp) rfl ?_
   exact⟨A3,c3,S3,by simp only [hb],K3.out.keep0 Chg.now,fun x hx=>.inl hx,Chg.now⟩
theorem l3Do_Hear (p:CoreT) (key:ByteArray) (value:Int) (text:ByteArray) (A3:Option Addr) (c3:Nat) (S3:List Nat) (w:World) (h3:Has w (cells p.cells) (.slice A3 p.cells.length c3) S3) (hp:CoreOk p):
  Calls Tryz.prog 142 #[.agg #[.string p.kind,.bool p.on,.bool p.broken,.slice A3 p.cells.length c3,.int .i64 p.count],.agg #[.string mHear,.string key,.int .i64 value,.string text],.bool (runsK p.kind)] w (CoreRep (doesT p ⟨mHear,key,value,text⟩) S3 w):=by
 obtain⟨hnum0,hnum1⟩:0<=p.count/\p.count<=999:=by obtain⟨_,_,_,_,hn,_⟩:=hp;exact hn
 have UP:=hid (fun W=>l3Up_any p.count W ⟨hnum0,hnum1⟩)
 have K3:=hid h3
 obtain⟨t0,t1,t2,t3,t4,t5,t6,t7,t8⟩:=tl_Hear
 have hl3:=h3.lt
 rw [doesT_Hear rfl]
 rcases(by cases p.broken<;>simp:p.broken=false∨p.broken=true) with hb|hb
 ·rw [if_neg (by simp [hb])]
  rw [hear_on]
  clear h3 hp
  by_cases h0:value=0
  ·subst h0
   rcases(by cases p.on<;>simp:p.on=false∨p.on=true) with ho|ho
   all_goals
    go_enter Tryz.func142,Tryz.ntmps142
    go_wp2_with fail
    refine(UP.out _).mono ?_
    rintro e w1 ⟨rfl,hw1⟩
    subst hw1
    go_wp2_with fail
    go_region
    all_goals
     go_wp2_with fail
     refine bodyPost_ret (v:=.tuple #[.agg #[.string p.kind,.bool false,.bool false,.slice A3 p.cells.length c3,.int .i64 (upN p.count)],repV (repOf 0 (upN p.count) 0 0)]) (by simp only [repV,repOf,results,Tryz.results142];go_simp) rfl ?_
     exact⟨A3,c3,S3,by simp only [hb],K3.out.keep0 Chg.now,fun x hx=>.inl hx,Chg.now⟩
  ·by_cases h1:value=1
   ·subst h1
    go_enter Tryz.func142,Tryz.ntmps142
    go_wp2_with fail
    refine(UP.out _).mono ?_
    rintro e w1 ⟨rfl,hw1⟩
    subst hw1
    go_wp2_with fail
    go_region
    all_goals
     go_wp2_with fail
     refine bodyPost_ret (v:=.tuple #[.agg #[.string p.kind,.bool true,.bool false,.slice A3 p.cells.length c3,.int .i64 (upN p.count)],repV (repOf 0 (upN p.count) 0 0)]) (by simp only [repV,repOf,results,Tryz.results142];go_simp) rfl ?_
     exact⟨A3,c3,S3,rfl,K3.out.keep0 Chg.now,fun x hx=>.inl hx,Chg.now⟩
   ·have z0:(value==0)=false:=beq_false_of_ne h0
    have z1:(value==1)=false:=beq_false_of_ne h1
    rw [if_neg h0,if_neg h1]
    clear h1
    rcases(by cases p.on<;>simp:p.on=false∨p.on=true) with ho|ho
    all_goals
     go_enter Tryz.func142,Tryz.ntmps142
     go_wp2_with fail
     refine(UP.out _).mono ?_
     rintro e w1 ⟨rfl,hw1⟩
     subst hw1
     go_wp2_with fail
     go_region
     all_goals
      go_wp2_with fail
      refine bodyPost_ret (v:=.tuple #[.agg #[.string p.kind,.bool p.on,.bool false,.slice A3 p.cells.length c3,.int .i64 (upN p.count)],repV (repOf 0 (upN p.count) 0 0)]) (by simp only [repV,repOf,results,Tryz.results142];go_simp) rfl ?_
      exact⟨A3,c3,S3,by simp only [hb],K3.out.keep0 Chg.now,fun x hx=>.inl hx,Chg.now⟩
 ·rw [if_pos hb]
  clear h3 hp
  go_enter Tryz.func142,Tryz.ntmps142
  go_wp2_with fail
  refine bodyPost_ret (v:=.tuple #[.agg #[.string p.kind,.bool p.on,.bool true,.slice A3 p.cells.length c3,.int .i64 p.count],repV (repOf 3 0 0 0)]) (by simp only [repV,repOf,results,Tryz.results142];go_simp) rfl ?_
  exact⟨A3,c3,S3,by simp only [hb],K3.out.keep0 Chg.now,fun x hx=>.inl hx,Chg.now⟩
theorem l3Do_Heal (p:CoreT) (key:ByteArray) (value:Int) (text:ByteArray) (A3:Option Addr) (c3:Nat) (S3:List Nat) (w:World) (h3:Has w (cells p.cells) (.slice A3 p.cells.length c3) S3) (hp:CoreOk p):
  Calls Tryz.prog 142 #[.agg #[.string p.kind,.bool p.on,.bool p.broken,.slice A3 p.cells.length c3,.int .i64 p.count],.agg #[.string mHeal,.string key,.int .i64 value,.string text],.bool (runsK p.kind)] w (CoreRep (doesT p ⟨mHeal,key,value,text⟩) S3 w):=by
 obtain⟨hnum0,hnum1⟩:0<=p.count/\p.count<=999:=by obtain⟨_,_,_,_,hn,_⟩:=hp;exact hn
 have UP:=hid (fun W=>l3Up_any p.count W ⟨hnum0,hnum1⟩)
 have K3:=hid h3
 obtain⟨t0,t1,t2,t3,t4,t5,t6,t7,t8⟩:=tl_Heal
 have hl3:=h3.lt
 rw [doesT_Heal rfl]
 rcases(by cases p.broken<;>simp:p.broken=false∨p.broken=true) with hb|hb
 all_goals
  have RC:=hid (fun W (hW:Chg [] w W)=>l3Run_Heal p A3 c3 S3 W (h3.keep0 hW) hp)
  obtain⟨R,hR⟩:∃R,R=(({p with on:=false,broken:=false},repOf 0 0 0 0):CoreT×RepT):=⟨_,rfl⟩
  rw [<-hR] at RC ⊢
  rw [hb] at RC ⊢
  clear hR h3 hp
  go_enter Tryz.func142,Tryz.ntmps142
  go_wp2_with fail
  refine(RC.out _ Chg.now).mono ?_
  rintro e w1 ⟨A,c,S',rfl,hH,hS,c1⟩
  have d1:Chg [] w w1:=Chg.trans0 Chg.now c1
  obtain⟨y1,z1,s1⟩:=c1.cells
  have x2:w.heap.size+2<w1.heap.size:=by simp at s1;omega
  have x3:w.heap.size+3<w1.heap.size:=by simp at s1;omega
  have b2:=fun o=>y1 (w.heap.size+1+1) o (by first|(simp;done)|(simp;omega))
  have b3:=fun o=>y1 (w.heap.size+1+1+1) o (by simp)
  have g2:=fun o=>z1 (w.heap.size+1+1) o (by first|(simp;done)|(simp;omega))
  have g3:=fun o=>z1 (w.heap.size+1+1+1) o (by simp)
  have hS2:∀x,x∈S'->x<w.heap.size∨w.heap.size+3<x:=fun x hx=>by
   rcases hS x hx with h|h
   ·exact .inl (hl3 x h)
   ·right;simp at h;omega
  have HS:=hid hS
  have HH:=hid hH
  clear y1 z1 s1 c1 hH hS
  unfold repV
  go_wp2_with fail
  refine bodyPost_ret (v:=.tuple #[.agg #[.string R.1.kind,.bool R.1.on,.bool R.1.broken,.slice A R.1.cells.length c,.int .i64 R.1.count],repV R.2]) (by simp only [repV,results,Tryz.results142];go_simp) rfl ?_
  exact⟨A,c,S',rfl,HH.out.keep (S0:=[w.heap.size+1+1,w.heap.size+1+1+1]) Chg.now (fun x hx=>by have:=hS2 x hx;simp;omega),fun x hx=>(HS.out x hx).imp id (fun h=>by simp at h;omega),(by first|exact Chg.to d1|exact Chg.now)⟩
theorem l3Do_Save (p:CoreT) (key:ByteArray) (value:Int) (text:ByteArray) (A3:Option Addr) (c3:Nat) (S3:List Nat) (w:World) (h3:Has w (cells p.cells) (.slice A3 p.cells.length c3) S3) (hp:CoreOk p):
  Calls Tryz.prog 142 #[.agg #[.string p.kind,.bool p.on,.bool p.broken,.slice A3 p.cells.length c3,.int .i64 p.count],.agg #[.string mSave,.string key,.int .i64 value,.string text],.bool (runsK p.kind)] w (CoreRep (doesT p ⟨mSave,key,value,text⟩) S3 w):=by
 obtain⟨hnum0,hnum1⟩:0<=p.count/\p.count<=999:=by obtain⟨_,_,_,_,hn,_⟩:=hp;exact hn
 have UP:=hid (fun W=>l3Up_any p.count W ⟨hnum0,hnum1⟩)
 have K3:=hid h3
 obtain⟨t0,t1,t2,t3,t4,t5,t6,t7,t8⟩:=tl_Save
 have hl3:=h3.lt
 rw [doesT_Save rfl]
 rcases(by cases p.broken<;>simp:p.broken=false∨p.broken=true) with hb|hb
 ·rw [if_neg (by simp [hb])]
  have hck:∀c∈p.cells,c.key.size<=1048576:=fun c hc=>by
   obtain⟨_,_,hcc,_⟩:=hp
   have:=((cellsOk_iff _).1 hcc).2.1 c hc
   have:=this.1.2.1
   omega
  have hcl:p.cells.length<=1048576:=by
   obtain⟨_,_,hcc,_⟩:=hp
   have:=hcc.1
   omega
  have FC:=hid (fun W (hW:Chg [] w W)=>formatCells_spec_any p.cells _ w.heap.size W (K3.out.rd.chg0 hW (Nat.le_refl _)) hW.size hcl hck)
  obtain⟨s,hs⟩:∃s,s=cellsT p.cells:=⟨_,rfl⟩
  rw [<-hs] at FC ⊢
  clear hs hck h3 hp
  go_enter Tryz.func142,Tryz.ntmps142
  go_wp2_with fail
  go_region_law (first|(go_simp;go_at_call 156;(with_reducible refine(FC.out _ Chg.now).mono ?_);rintro e w1 ⟨rfl,c1⟩;(have d1:Chg [] w w1:=Chg.trans0 Chg.now c1);(have y1:=fun o=>c1.cell (p:=⟨w.heap.size,o,none⟩) (by first|(simp;done)|(simp;omega)) (by simp));(have y2:=fun o=>c1.cell (p:=⟨w.heap.size+1+1,o,none⟩) (by first|(simp;done)|(simp;omega)) (by simp));(have y3:=fun o=>c1.cell (p:=⟨w.heap.size+1+1+1,o,none⟩) (by simp) (by simp));(have z2:=fun o=>c1.frozen (p:=⟨w.heap.size+1+1,o,none⟩) (by first|(simp;done)|(simp;omega)) (by simp));(have z3:=fun o=>c1.frozen (p:=⟨w.heap.size+1+1+1,o,none⟩) (by simp) (by simp));simp only [])|fail)
  all_goals
   go_wp2_with fail
   refine bodyPost_ret (v:=.tuple #[.agg #[.string p.kind,.bool p.on,.bool false,.slice A3 p.cells.length c3,.int .i64 p.count],repV (⟨0,0,s,0,0⟩)]) (by simp only [repV,results,Tryz.results142];go_simp) rfl ?_
   exact⟨A3,c3,S3,by simp only [hb],K3.out.keep0 (by first|exact Chg.to d1|exact Chg.now),fun x hx=>.inl hx,(by first|exact Chg.to d1|exact Chg.now)⟩
 ·rw [if_pos hb]
  clear h3 hp
  go_enter Tryz.func142,Tryz.ntmps142
  go_wp2_with fail
  refine bodyPost_ret (v:=.tuple #[.agg #[.string p.kind,.bool p.on,.bool true,.slice A3 p.cells.length c3,.int .i64 p.count],repV (repOf 3 0 0 0)]) (by simp only [repV,repOf,results,Tryz.results142];go_simp) rfl ?_
  exact⟨A3,c3,S3,by simp only [hb],K3.out.keep0 Chg.now,fun x hx=>.inl hx,Chg.now⟩
theorem l3Do_Load (p:CoreT) (key:ByteArray) (value:Int) (text:ByteArray) (A3:Option Addr) (c3:Nat) (S3:List Nat) (w:World) (h3:Has w (cells p.cells) (.slice A3 p.cells.length c3) S3) (hp:CoreOk p) (ht:text.size<=1048575):
  Calls Tryz.prog 142 #[.agg #[.string p.kind,.bool p.on,.bool p.broken,.slice A3 p.cells.length c3,.int .i64 p.count],.agg #[.string mLoad,.string key,.int .i64 value,.string text],.bool (runsK p.kind)] w (CoreRep (doesT p ⟨mLoad,key,value,text⟩) S3 w):=by
 obtain⟨hnum0,hnum1⟩:0<=p.count/\p.count<=999:=by obtain⟨_,_,_,_,hn,_⟩:=hp;exact hn
 have UP:=hid (fun W=>l3Up_any p.count W ⟨hnum0,hnum1⟩)
 have K3:=hid h3
 obtain⟨t0,t1,t2,t3,t4,t5,t6,t7,t8⟩:=tl_Load
 have hl3:=h3.lt
 rw [doesT_Load rfl]
 rcases(by cases p.broken<;>simp:p.broken=false∨p.broken=true) with hb|hb
 ·rw [if_neg (by simp [hb])]
  have PC:=hid (fun W=>parseCells_spec_any text W ht)
  clear ht h3 hp
  cases hpc:parseCells text with
  |none=>
   rw [hpc] at PC
   go_enter Tryz.func142,Tryz.ntmps142
   go_wp2_with fail
   refine(PC.out _).mono ?_
   rintro e w1 ⟨l,A,c,hl,rfl,hN⟩
   obtain⟨S2,hS2,lo2,c1⟩:=hN
   have d1:Chg [] w w1:=Chg.trans0 Chg.now c1
   obtain⟨y1,z1,s1⟩:=c1.cells
   have x0:w.heap.size<w1.heap.size:=by simp at s1;omega
   have x2:w.heap.size+2<w1.heap.size:=by simp at s1;omega
   have x3:w.heap.size+3<w1.heap.size:=by simp at s1;omega
   have b0:=fun o=>y1 w.heap.size o (by first|(simp;done)|(simp;omega))
   have b2:=fun o=>y1 (w.heap.size+1+1) o (by first|(simp;done)|(simp;omega))
   have b3:=fun o=>y1 (w.heap.size+1+1+1) o (by simp)
   have g0:=fun o=>z1 w.heap.size o (by first|(simp;done)|(simp;omega))
   have g2:=fun o=>z1 (w.heap.size+1+1) o (by first|(simp;done)|(simp;omega))
   have g3:=fun o=>z1 (w.heap.size+1+1+1) o (by simp)
   have v0:w1.cell? ⟨w.heap.size,0,none⟩=some (.string p.kind):=(b0 0).trans (by go_simp)
   have v1:w1.cell? ⟨w.heap.size,1,none⟩=some (.bool p.on):=(b0 1).trans (by go_simp)
   have v2:w1.cell? ⟨w.heap.size,2,none⟩=some (.bool false):=(b0 2).trans (by go_simp)
   have v3:w1.cell? ⟨w.heap.size,3,none⟩=some (.slice A3 p.cells.length c3):=(b0 3).trans (by go_simp)
   have v4:w1.cell? ⟨w.heap.size,4,none⟩=some (.int .i64 p.count):=(b0 4).trans (by go_simp)
   have lo3:∀x,x∈S2->w.heap.size+3<x:=fun x hx=>by have:=lo2 x hx;simp at this;omega
   have HS:=hid hS2
   clear y1 z1 s1 hS2 lo2 c1 b0
   go_wp2_with fail
   refine bodyPost_ret (v:=.tuple #[.agg #[.string p.kind,.bool p.on,.bool false,.slice A3 p.cells.length c3,.int .i64 p.count],repV (repOf 6 0 0 0)]) (by simp only [repV,repOf,results,Tryz.results142];go_simp) rfl ?_
   exact⟨A3,c3,S3,by simp only [hb],K3.out.keep0 (by first|exact Chg.to d1|exact Chg.now),fun x hx=>.inl hx,(by first|exact Chg.to d1|exact Chg.now)⟩
  |some l0=>
   rw [hpc] at PC
   go_enter Tryz.func142,Tryz.ntmps142
   go_wp2_with fail
   refine(PC.out _).mono ?_
   rintro e w1 ⟨l,A,c,hl,rfl,hN⟩
   obtain⟨S2,hS2,lo2,c1⟩:=hN
   have d1:Chg [] w w1:=Chg.trans0 Chg.now c1
   obtain⟨y1,z1,s1⟩:=c1.cells
   have x0:w.heap.size<w1.heap.size:=by simp at s1;omega
   have x2:w.heap.size+2<w1.heap.size:=by simp at s1;omega
   have x3:w.heap.size+3<w1.heap.size:=by simp at s1;omega
   have b0:=fun o=>y1 w.heap.size o (by first|(simp;done)|(simp;omega))
   have b2:=fun o=>y1 (w.heap.size+1+1) o (by first|(simp;done)|(simp;omega))
   have b3:=fun o=>y1 (w.heap.size+1+1+1) o (by simp)
   have g0:=fun o=>z1 w.heap.size o (by first|(simp;done)|(simp;omega))
   have g2:=fun o=>z1 (w.heap.size+1+1) o (by first|(simp;done)|(simp;omega))
   have g3:=fun o=>z1 (w.heap.size+1+1+1) o (by simp)
   have v0:w1.cell? ⟨w.heap.size,0,none⟩=some (.string p.kind):=(b0 0).trans (by go_simp)
   have v1:w1.cell? ⟨w.heap.size,1,none⟩=some (.bool p.on):=(b0 1).trans (by go_simp)
   have v2:w1.cell? ⟨w.heap.size,2,none⟩=some (.bool false):=(b0 2).trans (by go_simp)
   have v3:w1.cell? ⟨w.heap.size,3,none⟩=some (.slice A3 p.cells.length c3):=(b0 3).trans (by go_simp)
   have v4:w1.cell? ⟨w.heap.size,4,none⟩=some (.int .i64 p.count):=(b0 4).trans (by go_simp)
   have lo3:∀x,x∈S2->w.heap.size+3<x:=fun x hx=>by have:=lo2 x hx;simp at this;omega
   have HS:=hid hS2
   clear y1 z1 s1 hS2 lo2 c1 b0
   obtain rfl:l=l0:=hl
   go_wp2_with fail
   refine bodyPost_ret (v:=.tuple #[.agg #[.string p.kind,.bool p.on,.bool false,.slice A l.length c,.int .i64 p.count],repV (repOf 0 l.length 0 0)]) (by simp only [repV,repOf,results,Tryz.results142];go_simp) rfl ?_
   exact⟨A,c,S2,by simp only [hb],HS.out.keep (S0:=[w.heap.size,w.heap.size+1+1,w.heap.size+1+1+1]) Chg.now (fun x hx=>by have:=lo3 x hx;simp;omega),fun x hx=>.inr (by have:=lo3 x hx;omega),(by first|exact Chg.to d1|exact Chg.now)⟩
 ·rw [if_pos hb]
  clear h3 hp
  go_enter Tryz.func142,Tryz.ntmps142
  go_wp2_with fail
  refine bodyPost_ret (v:=.tuple #[.agg #[.string p.kind,.bool p.on,.bool true,.slice A3 p.cells.length c3,.int .i64 p.count],repV (repOf 3 0 0 0)]) (by simp only [repV,repOf,results,Tryz.results142];go_simp) rfl ?_
  exact⟨A3,c3,S3,by simp only [hb],K3.out.keep0 Chg.now,fun x hx=>.inl hx,Chg.now⟩
theorem l3Do_any (p:CoreT) (x:CallT) (A3:Option Addr) (c3:Nat) (S3:List Nat) (w:World) (h3:Has w (cells p.cells) (.slice A3 p.cells.length c3) S3) (hp:CoreOk p) (hx:CallOk x) (ht:x.text.size<=1048575):
  Calls Tryz.prog 142 #[.agg #[.string p.kind,.bool p.on,.bool p.broken,.slice A3 p.cells.length c3,.int .i64 p.count],.agg #[.string x.method,.string x.key,.int .i64 x.value,.string x.text],.bool (runsK p.kind)] w (CoreRep (doesT p x) S3 w):=by
 have hm:=call_meth hx
 obtain⟨m,k,v,t⟩:=x
 simp only at hm ht
 rcases hm with rfl|rfl|rfl|rfl|rfl|rfl|rfl|rfl|rfl
 ·exact l3Do_Start p k v t A3 c3 S3 w h3 hp
 ·exact l3Do_Stop p k v t A3 c3 S3 w h3 hp
 ·exact l3Do_Get p k v t A3 c3 S3 w h3 hp
 ·exact l3Do_Put p k v t A3 c3 S3 w h3 hp
 ·exact l3Do_Tell p k v t A3 c3 S3 w h3 hp
 ·exact l3Do_Hear p k v t A3 c3 S3 w h3 hp
 ·exact l3Do_Load p k v t A3 c3 S3 w h3 hp ht
 ·exact l3Do_Save p k v t A3 c3 S3 w h3 hp
 ·exact l3Do_Heal p k v t A3 c3 S3 w h3 hp
theorem does_any (g:Nat) (p:PartT) (x:CallT) (S3 S5:List Nat) (w:World) (h:PBox w g p S3 S5) (hp:CoreOk p.core) (hx:CallOk x) (ht:x.text.size<=1048575) (hE:Env w):
  Calls Tryz.prog 151 #[.pointer (some ⟨g,0,none⟩),.agg #[.string x.method,.string x.key,.int .i64 x.value,.string x.text]] w (DoesP g p (doesT p.core x) S3 S5 w):=by
 have hm:=call_meth hx
 obtain⟨m,k,v,t⟩:=x
 simp only at hm ht
 rcases hm with rfl|rfl|rfl|rfl|rfl|rfl|rfl|rfl|rfl
 ·exact does_Start g p k v t S3 S5 w h hp hx
 ·exact does_Stop g p k v t S3 S5 w h hp hx
 ·exact does_Get g p k v t S3 S5 w h hp hx
 ·exact does_Put g p k v t S3 S5 w h hp hx
 ·exact does_Tell g p k v t S3 S5 w h hp hx
 ·exact does_Hear g p k v t S3 S5 w h hp hx
 ·exact does_Load g p k v t S3 S5 w h hp hx hE ht
 ·exact does_Save g p k v t S3 S5 w h hp hx hE
 ·exact does_Heal g p k v t S3 S5 w h hp hx
end Go.Proofs.YtjigcplpkhpgnaaGreatDoor
