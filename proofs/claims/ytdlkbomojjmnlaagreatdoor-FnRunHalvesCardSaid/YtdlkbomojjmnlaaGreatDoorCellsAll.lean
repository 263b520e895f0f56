/- strings.Split at one byte, in the shelf's words, gives the pieces between the bytes. / Cells that are read from texts, in plain Lean. / ParseCells of the reference. / ParseCells of the program. Conditions: the tables and variables of the library stand as they are laid. -/
import Derived.Test.YtdlkbomojjmnlaaGreatDoorTexts
import Derived.Lib.Split
import Derived.Lib.SplitLaws
import Derived.Test.YtdlkbomojjmnlaaGreatDoorNames
import Derived.Test.YtdlkbomojjmnlaaGreatDoorNumsAll
import Derived.Test.YtdlkbomojjmnlaaGreatDoorApps
import Derived.Test.YtdlkbomojjmnlaaGreatDoorShSplit
import Derived.Test.YtdlkbomojjmnlaaGreatDoorMeths
set_option maxRecDepth 100000
set_option maxHeartbeats 4000000
namespace Go.Proofs.YtdlkbomojjmnlaaGreatDoor
open Go.RowKit

theorem index_sp (c:UInt8):∀(l cur:List UInt8),(Lib.index l [c]= -1->spAux c cur l=[cur++l])/\∀i:Nat,Lib.index l [c]=i->spAux c cur l=(cur++l.take i)::spAux c [] (l.drop (i+1))
 | [],cur=>by
  have h0:Lib.index [] [c]= -1:=rfl
  refine⟨fun _=>by simp [spAux],fun i hi=>?_⟩
  rw [h0] at hi
  omega
 | b::l,cur=>by
  by_cases hb:b=c
  ·subst hb
   have h0:Lib.index (b::l) [b]=0:=by unfold Lib.index;rw [if_pos (by simp)]
   refine⟨fun h=>by rw [h0] at h;omega,fun i hi=>?_⟩
   rw [h0] at hi
   obtain rfl:i=0:=by omega
   rw [spAux,if_pos rfl]
   simp
  ·have hp:([c].isPrefixOf (b::l))=false:=by
    show(c==b&&List.isPrefixOf [] l)=false
    rw [beq_eq_false_iff_ne.2 (fun e=>hb e.symm)]
    rfl
   have ih:=index_sp c l (cur++ [b])
   have hs:spAux c cur (b::l)=spAux c (cur++ [b]) l:=by rw [spAux,if_neg hb]
   by_cases hm:Lib.index l [c]= -1
   ·have h0:Lib.index (b::l) [c]= -1:=by unfold Lib.index;rw [hp,hm];rfl
    refine⟨fun _=>by rw [hs,ih.1 hm];simp,fun i hi=>?_⟩
    rw [h0] at hi
    omega
   ·have h0:Lib.index (b::l) [c]=Lib.index l [c] +1:=by
     conv=>lhs;unfold Lib.index
     rw [hp]
     simp [hm]
    have hge:=Lib.index_ge l [c]
    refine⟨fun h=>by omega,fun i hi=>?_⟩
    obtain⟨j,hj⟩:∃j:Nat,Lib.index l [c]=j:=⟨(Lib.index l [c]).toNat,by omega⟩
    obtain rfl:i=j+1:=by omega
    rw [hs,ih.2 j hj]
    simp
theorem bytes_list (s:ByteArray):bytesOf s.data.toList=s:=by
 apply ByteArray.ext
 simp [bytesOf]
theorem splitB_one (c:UInt8):∀(k:Nat) (s:ByteArray),Lib.countB s ⟨#[c]⟩=k->Lib.splitB ⟨#[c]⟩ 0 k s=splitS c s:=by
 intro k
 induction k with
 | zero=>
  intro s hk
  rw [Lib.splitB_zero]
  rcases Lib.indexB_cases s ⟨#[c]⟩ with h|⟨i,h,_⟩
  ·have:=(index_sp c s.data.toList []).1 h
   unfold splitS
   rw [this]
   simp [bytes_list]
  ·have:=Lib.countB_hit s ⟨#[c]⟩ i (by simp [ByteArray.size]) h
   omega
 | succ k ih=>
  intro s hk
  rcases Lib.indexB_cases s ⟨#[c]⟩ with h|⟨i,h,_⟩
  ·have:=Lib.countB_miss s ⟨#[c]⟩ h
   omega
  ·have hc:=Lib.countB_hit s ⟨#[c]⟩ i (by simp [ByteArray.size]) h
   have hsz:(⟨#[c]⟩:ByteArray).size=1:=rfl
   rw [hsz] at hc
   rw [Lib.splitB_hit _ _ _ _ i h,hsz,ih _ (by omega)]
   have:=(index_sp c s.data.toList []).2 i h
   unfold splitS
   rw [this,List.map_cons]
   congr 1
   ·rw [Nat.add_zero,extract_cut]
    simp [cut]
   ·rw [extract_list]
    unfold cut
    congr 2
    rw [List.take_of_length_le]
    rw [List.length_drop,size_list]
    exact Nat.le_refl _
theorem sp_no (c:UInt8):∀(l cur:List UInt8),c∉l->spAux c cur l=[cur++l]
 | [],cur,_=>by simp [spAux]
 |b::l,cur,h=>by
  rw [spAux,if_neg (fun e=>h (by simp [e])),sp_no c l _ (fun hx=>h (by simp [hx]))]
  simp
theorem sp_some (c:UInt8):∀(l cur:List UInt8),1<=(spAux c cur l).length
 | [],cur=>by simp [spAux]
 |b::l,cur=>by
  rw [spAux]
  split
  ·simp
  ·exact sp_some c l _
theorem sp_yes (c:UInt8):∀(l cur:List UInt8),c∈l->2<=(spAux c cur l).length
 | b::l,cur,h=>by
  rw [spAux]
  split
  ·have:=sp_some c l [];simp;omega
  ·rename_i hb
   exact sp_yes c l _ ((List.mem_cons.1 h).elim (fun e=>absurd e.symm hb) id)
theorem sp_piece (c:UInt8):∀(l cur x:List UInt8),x∈spAux c cur l->x.length<=cur.length+l.length
 | [],cur,x,h=>by rw [spAux,List.mem_singleton] at h;subst h;simp
 | b::l,cur,x,h=>by
  rw [spAux] at h
  split at h
  ·rcases List.mem_cons.1 h with rfl|h
   ·omega
   ·have:=sp_piece c l [] x h;simp at this ⊢;omega
  ·have:=sp_piece c l _ x h;simp at this ⊢;omega
theorem bytesOf_size (l:List UInt8):(bytesOf l).size=l.length:=rfl
theorem splitS_piece {c:UInt8} {s x:ByteArray} (h:x∈splitS c s):x.size<=s.size:=by
 unfold splitS at h
 obtain⟨y,hy,rfl⟩:=List.mem_map.1 h
 have:=sp_piece c _ _ y hy
 rw [size_list] at this
 rw [bytesOf_size]
 simpa using this
theorem splitS_len (c:UInt8) (s:ByteArray):1<=(splitS c s).length/\(splitS c s).length<=s.size+1:=by
 unfold splitS
 rw [List.length_map]
 have h1:=sp_some c s.data.toList []
 have h2:=spAux_len c s.data.toList []
 rw [size_list] at h2
 exact⟨h1,h2⟩
theorem splitS_no {c:UInt8} {s:ByteArray} (h:c∉s.data.toList):splitS c s=[s]:=by
 unfold splitS
 rw [sp_no c _ _ h]
 simp [bytes_list]
theorem splitS_one {c:UInt8} {s x:ByteArray} (h:splitS c s=[x]):x=s/\c∉s.data.toList:=by
 by_cases hc:c∈s.data.toList
 ·have:=sp_yes c _ [] hc
  have h2:=congrArg List.length h
  unfold splitS at h2
  rw [List.length_map] at h2
  simp at h2;omega
 ·rw [splitS_no hc] at h
  simp at h
  exact⟨h.symm,hc⟩
theorem cut_no {c:UInt8} {s:ByteArray} (h:(Lib.cut s.data.toList [c]).2.2=false):splitS c s=[s]:=by
 unfold Lib.cut at h
 split at h
 ·cases h
 ·rename_i hi
  have hge:=Lib.index_ge s.data.toList [c]
  have:=(index_sp c s.data.toList []).1 (by omega)
  unfold splitS
  rw [this]
  simp [bytes_list]
theorem cut_yes {c:UInt8} {s:ByteArray} (h:(Lib.cut s.data.toList [c]).2.2=true):splitS c s=⟨(Lib.cut s.data.toList [c]).1.toArray⟩::splitS c ⟨(Lib.cut s.data.toList [c]).2.1.toArray⟩:=by
 unfold Lib.cut at h ⊢
 split
 ·rename_i hi
  have:=(index_sp c s.data.toList []).2 (Lib.index s.data.toList [c]).toNat (by omega)
  unfold splitS
  rw [this]
  simp [bytesOf]
 ·rename_i hi
  rw [if_neg hi] at h
  cases h
/-- The cell of a text. -/
noncomputable def cellOf (p:ByteArray):Option CellT:=match splitS 61 p with
 | [k,t]=>(parseNum t).map fun n=>⟨k,n⟩
 |_=>none
theorem cellOf_two {p k t:ByteArray} (h:splitS 61 p=[k,t]):cellOf p=(parseNum t).map fun n=>⟨k,n⟩:=by unfold cellOf;rw [h]
theorem cellOf_len {p:ByteArray} (h:(splitS 61 p).length≠2):cellOf p=none:=by
 unfold cellOf
 split
 ·rename_i hh;rw [hh] at h;simp at h
 ·rfl
theorem cellOf_no {p:ByteArray} (h:(Lib.cut p.data.toList [61]).2.2=false):cellOf p=none:=cellOf_len (by rw [cut_no h];simp)
theorem cellOf_bad {p:ByteArray} (h:(Lib.cut p.data.toList [61]).2.2=true) (hn:parseNum ⟨(Lib.cut p.data.toList [61]).2.1.toArray⟩=none):cellOf p=none:=by
 have hs:=cut_yes h
 obtain⟨t,ht⟩:∃t,t=(⟨(Lib.cut p.data.toList [61]).2.1.toArray⟩:ByteArray):=⟨_,rfl⟩
 rw [<-ht] at hs hn
 by_cases hl:(splitS 61 t).length=1
 ·obtain⟨x,hx⟩:=List.length_eq_one_iff.1 hl
  rw [hx,(splitS_one hx).1] at hs
  rw [cellOf_two hs,hn]
  rfl
 ·exact cellOf_len (by rw [hs,List.length_cons];omega)
theorem cellOf_good {p:ByteArray} {n:Int} (h:(Lib.cut p.data.toList [61]).2.2=true) (hn:parseNum ⟨(Lib.cut p.data.toList [61]).2.1.toArray⟩=some n):cellOf p=some ⟨⟨(Lib.cut p.data.toList [61]).1.toArray⟩,n⟩:=by
 have hs:=cut_yes h
 obtain⟨t,ht⟩:∃t,t=(⟨(Lib.cut p.data.toList [61]).2.1.toArray⟩:ByteArray):=⟨_,rfl⟩
 rw [<-ht] at hs hn
 have hd:=(parseNum_of hn).digit
 rw [splitS_no (c:=61) (s:=t) (fun hm=>by have:=hd _ hm;simp at this)] at hs
 rw [cellOf_two hs,hn]
 rfl
open Classical in
/-- The cells of a text. -/
noncomputable def parseCells (s:ByteArray):Option (List CellT):=
 if s=⟨#[45]⟩ then some [] else if h:∃out,(splitS 44 s).map cellOf=out.map some/\CellsOk out then some h.choose else none
theorem parseCells_dash:parseCells ⟨#[45]⟩=some []:=by unfold parseCells;rw [if_pos rfl]
theorem map_some_inj {α:Type}:∀ {a b:List α},a.map some=b.map some->a=b
 | [],[],_=>rfl
 | [],_::_,h=>by simp at h
 |_::_,[],h=>by simp at h
 |x::a,y::b,h=>by
  simp only [List.map_cons,List.cons.injEq,Option.some.injEq] at h
  rw [h.1,map_some_inj h.2]
theorem parseCells_some {s:ByteArray} {out:List CellT} (h0:s≠⟨#[45]⟩) (h:(splitS 44 s).map cellOf=out.map some) (hok:CellsOk out):parseCells s=some out:=by
 unfold parseCells
 have he:∃out,(splitS 44 s).map cellOf=out.map some/\CellsOk out:=⟨out,h,hok⟩
 rw [if_neg h0,dif_pos he,map_some_inj (he.choose_spec.1.symm.trans h)]
theorem parseCells_not {s:ByteArray} {out:List CellT} (h0:s≠⟨#[45]⟩) (h:(splitS 44 s).map cellOf=out.map some) (hok:¬CellsOk out):parseCells s=none:=by
 unfold parseCells
 rw [if_neg h0,dif_neg]
 rintro⟨x,h1,h2⟩
 rw [map_some_inj (h1.symm.trans h)] at h2
 exact hok h2
theorem parseCells_bad {s:ByteArray} (h0:s≠⟨#[45]⟩) {k:Nat} (hk:k<(splitS 44 s).length) (hb:cellOf (splitS 44 s)[k]=none):parseCells s=none:=by
 unfold parseCells
 rw [if_neg h0,dif_neg]
 rintro⟨x,h1,_⟩
 have:=congrArg (fun l=>l[k]?) h1
 simp only [List.getElem?_map,List.getElem?_eq_getElem hk,Option.map_some,hb] at this
 cases hx:x[k]? with
 |none=>rw [hx] at this;simp at this
 |some y=>rw [hx] at this;simp at this
theorem parseCells_long {s:ByteArray} (h0:s≠⟨#[45]⟩) (hl:4<(splitS 44 s).length):parseCells s=none:=by
 unfold parseCells
 rw [if_neg h0,dif_neg]
 rintro⟨x,h1,h2⟩
 have:=congrArg List.length h1
 simp at this
 have:=h2.1
 omega
theorem splitS_take {s:ByteArray} {out:List CellT} {k:Nat} (hk:k<(splitS 44 s).length) (h:((splitS 44 s).take k).map cellOf=out.map some) {c:CellT} (hc:cellOf (splitS 44 s)[k]=some c):((splitS 44 s).take (k+1)).map cellOf=(out++ [c]).map some:=by
 rw [List.take_succ_eq_append_getElem hk,List.map_append,h,List.map_append]
 simp [hc]
/-- Cells, if there are any, and whether there are. -/
def CellsGives (o:Option (List CellT)) (w:World) (e:Ending) (w':World):Prop:=∃l A cap,l=o.getD [] /\e= .returned (.tuple #[.slice A l.length cap,.bool o.isSome])/\New w w' (cells l) (.slice A l.length cap)
theorem CellsGives.yes {o:Option (List CellT)} {l:List CellT} {w w':World} {A:Option Addr} {n cap:Nat} (h:o=some l) (hn:n=l.length) (hN:New w w' (cells l) (.slice A n cap)):CellsGives o w (.returned (.tuple #[.slice A n cap,.bool true])) w':=by
 subst h hn
 exact⟨l,A,cap,rfl,rfl,hN⟩
theorem CellsGives.no {o:Option (List CellT)} {w w':World} {A:Option Addr} {cap:Nat} (h:o=none) (hN:New w w' (cells []) (.slice A 0 cap)):CellsGives o w (.returned (.tuple #[.slice A 0 cap,.bool false])) w':=by
 subst h
 exact⟨[],A,cap,rfl,rfl,hN⟩
theorem cell1_info:(Tryz.prog.info? 188).map (fun i=>(i.zero,i.size,i.bytes))=some (some (.agg #[.string ⟨#[]⟩,.int .i64 0]),2,24):=by kernel_rfl
theorem newL_cell {w w':World} (c:CellT) (hc:Chg [] w w'):NewL w w' (cellF c) [.string c.key,.int .i64 c.value]:=by
 rw [cellF_eq]
 refine NewL.cons_v (NewL.cons_v (NewL.nil hc))
theorem App.toCells {w0 w:World} {A:Option Addr} {n cap:Nat} {l:List CellT} (h:App w0 w 188 2 (.slice A n cap) n (l.flatMap cellF)) (hn:n=l.length):New w0 w (cells l) (.slice A n cap):=by
 have:=h.new
 unfold cells
 rw [<-hn]
 exact this
theorem two_of {α:Type}:∀ {l:List α},l.length=2->∃a b,l=[a,b]
 | [a,b],_=>⟨a,b,rfl⟩
theorem not_dash {s:ByteArray} (h:(s.toList== [45])=false):s≠⟨#[45]⟩:=by
 intro e
 rw [e,ByteArray.toList_eq] at h
 simp at h
theorem is_dash {s:ByteArray} (h:(s.toList== [45])=true):s=⟨#[45]⟩:=by
 have h:=beq_iff_eq.1 h
 rw [ByteArray.toList_eq] at h
 exact ByteArray.ext (Array.toList_inj.1 (by simpa using h))
theorem parseCells_spec_any (s:ByteArray) (w:World) (hs:s.size<=1048575):
  Calls Tryz.prog 171 #[.string s] w (CellsGives (parseCells s) w):=by
 cases hd:(s.toList== [45])
 ·have hnd:=not_dash hd
  have SPL:=hid (fun W=>splitAt_one_any s 44 W (by omega))
  have hpl:=splitS_len 44 s
  have hps:∀x∈splitS 44 s,x.size<=1048576:=fun x hx=>Nat.le_trans (splitS_piece hx) (by omega)
  obtain⟨L,hL⟩:∃L,L=splitS 44 s:=⟨_,rfl⟩
  rw [<-hL] at SPL hpl hps
  have BAD:Hid (∀(k:Nat) (hk:k<L.length),cellOf L[k]=none->parseCells s=none):=by rw [hL];exact fun k hk h=>parseCells_bad hnd hk h
  have GOOD:Hid (∀out:List CellT,L.map cellOf=out.map some->(CellsOk out->parseCells s=some out)/\(¬CellsOk out->parseCells s=none)):=by rw [hL];exact fun out h=>⟨fun hok=>parseCells_some hnd h hok,fun hok=>parseCells_not hnd h hok⟩
  have STEP:Hid (∀(k:Nat) (hk:k<L.length) (out:List CellT) (c:CellT),(L.take k).map cellOf=out.map some->cellOf L[k]=some c->(L.take (k+1)).map cellOf=(out++ [c]).map some):=by rw [hL];exact fun k hk out c h hc=>splitS_take hk h hc
  clear hL hnd
  go_enter Tryz.func171,Tryz.ntmps171
  go_wp2_with fail
  refine(SPL.out _).mono ?_
  intro e w1 G1
  obtain⟨A1,cap1,rfl,n1⟩:=G1.sl
  obtain⟨SK,hK⟩:=AppK.start (App.empty w 188 2 (Chg.refl _ _)) n1
  clear n1
  go_wp2_with fail
  go_loopw [4,17] (fun v i wr=>∃(k:Nat) (A':Option Addr) (cap':Nat) (out:List CellT),k<=L.length/\i= .int .i64 k/\v= .slice A' k cap'/\out.length=k/\(∀c∈out,c.key.size<=1048576)/\Hid ((L.take k).map cellOf=out.map some)/\AppK w wr 188 2 (.slice A' k cap') k (out.flatMap cellF) (strs L) (.slice A1 L.length cap1) SK) (fun _ i _=>L.length-(intOf i).toNat)
  case atStart=>exact⟨0,_,0,[],Nat.zero_le _,rfl,rfl,rfl,by simp,by simp [Hid],hK⟩
  case round=>
   obtain⟨k,A',cap',out,hk,rfl,rfl,hout,hkey,HM,hh⟩:=hrel
   have hcg:=hh.1.chg
   by_cases hlt:k<L.length
   ·obtain⟨_,_,e9,_,_,hrow⟩:=strs_row hh.2.1.rd
    cases e9
    obtain⟨b,off,rfl,hb,q0⟩:=strs_cells hrow k hlt
    have hsk:=hps _ (List.getElem_mem hlt)
    have S2:=hid (fun W=>splitAt_one_any L[k] 61 W hsk)
    have HA:=hid hh
    clear hh hrow
    by_cases h2:(splitS 61 L[k]).length=2
    ·obtain⟨x,y,hxy⟩:=two_of h2
     have hx:x.size<=1048576:=by have:=splitS_piece (c:=61) (s:=L[k]) (x:=x) (by rw [hxy];simp);omega
     have hy:y.size<=1048576:=by have:=splitS_piece (c:=61) (s:=L[k]) (x:=y) (by rw [hxy];simp);omega
     have CO:=hid (cellOf_two hxy)
     rw [hxy] at S2
     clear h2 hxy
     go_wp2_with fail
     refine(S2.out _).mono ?_
     intro e w2 G2
     obtain⟨A2,cap2,rfl,n2⟩:=G2.sl
     have c2:=n2.chg
     have r2:=n2.rd
     obtain⟨_,_,e8,_,_,hr2⟩:=strs_row r2
     cases e8
     obtain⟨b2,off2,e7,hb2,t0⟩:=strs_cells hr2 0 (by simp)
     obtain⟨_,_,e6,_,t1⟩:=strs_cells hr2 1 (by simp)
     subst e7
     cases e6
     simp only [List.getElem_cons_zero,List.getElem_cons_succ,Nat.add_zero] at t0 t1
     clear G2 n2 r2 hr2
     go_wp2_with fail
     refine(parseNumber_spec_any y _ hy).mono ?_
     rintro e w3 ⟨he3,c3⟩
     subst he3
     have u0:=(c3.cell (p:=⟨b2,off2,none⟩) hb2 (by simp)).trans t0
     have u1:=(c3.cell (p:=⟨b2,off2+1,none⟩) hb2 (by simp)).trans t1
     clear t0 t1
     cases hp:parseNum y with
     |none=>
      have HB:=hid (BAD.out k hlt (by rw [CO.out,hp];rfl))
      clear hp
      go_wp2_with fail
      go_ret2
      exact CellsGives.no HB.out (App.toCells (l:=[]) (App.empty w 188 2 ((hcg.trans0 c2).trans0 c3)) rfl)
     |some n=>
      have HG:=hid (STEP.out k hlt out ⟨x,n⟩ HM.out (by rw [CO.out,hp];rfl))
      clear hp
      have hA2:=hid ((HA.out.later c2).later c3)
      have hcl:k<=1048576:=by omega
      go_wp2_with (at_builtin;refine wpList_appK rfl (.tmp 37) (.tmp 43) _ rfl 188 _ 2 24 Tryz.underlying45 cell1_info rfl (by omega) hA2.out (us:=[.string x,.int .i64 n]) (dsE:=cellF ⟨x,n⟩) (newL_cell ⟨x,n⟩ ((Chg.refl _ _).alloc _)) rfl w3.heap.size 1 rfl rfl (by intro j u hj;match j,hj with|0,hj=>cases hj;go_simp|1,hj=>cases hj;go_simp|j+2,hj=>simp at hj) (by intro u hu;simp at hu;rcases hu with rfl|rfl<;>rfl) (by omega) (by omega) ?_;intro A3 cap3 w4 hA3)
      go_roundw
      case rel=>exact⟨k+1,A3,cap3,out++ [⟨x,n⟩],by omega,by go_num,by go_num,by simp [hout],fun c hc=>(List.mem_append.1 hc).elim (hkey c) (fun hc=>by rw [List.mem_singleton] at hc;subst hc;exact hx),HG,by rw [List.flatMap_append];simpa using hA3⟩
      case measure=>simp [intOf];omega
    ·have HB:=hid (BAD.out k hlt (cellOf_len h2))
     have h2n:(((splitS 61 L[k]).length:Int)==2)=false:=beq_eq_false_iff_ne.2 (by omega)
     obtain⟨M,hM⟩:∃M,M=splitS 61 L[k]:=⟨_,rfl⟩
     rw [<-hM] at S2 h2n
     clear hM h2
     go_wp2_with fail
     refine(S2.out _).mono ?_
     intro e w2 G2
     obtain⟨A2,cap2,rfl,n2⟩:=G2.sl
     have c2:=n2.chg
     clear G2 n2
     go_wp2_with fail
     go_ret2
     exact CellsGives.no HB.out (App.toCells (l:=[]) (App.empty w 188 2 (hcg.trans0 c2)) rfl)
   ·obtain rfl:k=L.length:=by omega
    have HM2:=HM.out
    rw [List.take_length] at HM2
    have HG:=hid (GOOD.out out HM2)
    have hN:=App.toCells (l:=out) hh.1 hout.symm
    have hrd:Rd wr wr.heap.size (cells out) (.slice A' L.length cap'):=hN.rd
    have IC:=hid (isCells_spec_any out _ wr.heap.size wr hrd (Nat.le_refl _) (by omega) hkey)
    have HNN:=hid hN
    clear HM2 hN hrd hh
    by_cases hok:CellsOk out
    ·have IC2:=hid (IC.out.mono (BoolPost.pos hok))
     have HP:=hid (HG.out.1 hok)
     clear hok
     go_wp2_with fail
     refine IC2.out.mono ?_
     rintro e w2 ⟨rfl,c2⟩
     go_wp2_with fail
     go_ret2
     exact CellsGives.yes HP.out hout.symm (HNN.out.later c2)
    ·have IC2:=hid (IC.out.mono (BoolPost.neg hok))
     have HP:=hid (HG.out.2 hok)
     clear hok
     go_wp2_with fail
     refine IC2.out.mono ?_
     rintro e w2 ⟨rfl,c2⟩
     go_wp2_with fail
     go_ret2
     exact CellsGives.no HP.out (App.toCells (l:=[]) (App.empty w 188 2 (hcg.trans0 c2)) rfl)
 ·have HD:=hid (is_dash hd)
  go_enter Tryz.func171,Tryz.ntmps171
  go_wp2_with fail
  go_ret2
  exact CellsGives.yes (l:=[]) (by rw [HD.out];exact parseCells_dash) rfl (App.toCells (l:=[]) (App.empty w 188 2 (Chg.refl _ _)) rfl)
theorem cut_size (l:List UInt8) (c:UInt8):(Lib.cut l [c]).1.length<=l.length/\(Lib.cut l [c]).2.1.length<=l.length:=by
 unfold Lib.cut
 split
 ·simp
  omega
 ·simp
theorem Chg.drawn (w:World) (n:Nat):Chg [] w (w.drewN n):=(Chg.refl _ _).drewN n
theorem parseCells_impl_any (s:ByteArray) (w:World) (hs:s.size<=1048575) (he:Env w):
  Calls Tryz.prog 124 #[.string s] w (CellsGives (parseCells s) w):=by
 cases hd:(s.toList== [45])
 ·have hnd:=not_dash hd
  obtain⟨m,hm⟩:=he.max
  have hpl:=splitS_len 44 s
  have SP:=Tryz.strings_Split s ⟨#[44]⟩ m w (by omega) hm (by decide)
  have hcn:Lib.countB s ⟨#[44]⟩+1=(splitS 44 s).length:=by rw [<-splitB_one 44 _ _ rfl,Lib.splitB_all _ (by decide) _ _ _ rfl]
  rw [splitB_one 44 _ _ rfl,hcn] at SP
  have hps:∀x∈splitS 44 s,x.size<=1048575:=fun x hx=>Nat.le_trans (splitS_piece hx) hs
  obtain⟨L,hL⟩:∃L,L=splitS 44 s:=⟨_,rfl⟩
  rw [<-hL] at SP hpl hps
  have BAD:Hid (∀(k:Nat) (hk:k<L.length),cellOf L[k]=none->parseCells s=none):=by rw [hL];exact fun k hk h=>parseCells_bad hnd hk h
  have LONG:Hid (4<L.length->parseCells s=none):=by rw [hL];exact fun h=>parseCells_long hnd h
  have GOOD:Hid (∀out:List CellT,L.map cellOf=out.map some->(CellsOk out->parseCells s=some out)/\(¬CellsOk out->parseCells s=none)):=by rw [hL];exact fun out h=>⟨fun hok=>parseCells_some hnd h hok,fun hok=>parseCells_not hnd h hok⟩
  have STEP:Hid (∀(k:Nat) (hk:k<L.length) (out:List CellT) (c:CellT),(L.take k).map cellOf=out.map some->cellOf L[k]=some c->(L.take (k+1)).map cellOf=(out++ [c]).map some):=by rw [hL];exact fun k hk out c h hc=>splitS_take hk h hc
  have SPH:=hid SP
  have HE:=hid he
  clear hL hnd SP hcn hm he
  go_enter Tryz.func124,Tryz.ntmps124
  go_wp2_with fail
  refine SPH.out.mono ?_
  rintro e w1 ⟨rfl,hw1⟩
  have n1:=new_strs_at w w L 9 _ rfl (by unfold maxLen;omega) (Chg.refl _ _)
  rw [<-hw1] at n1
  have d1:=n1.chg
  have hrd1:=n1.rd
  obtain⟨_,_,e9,_,_,hrow⟩:=strs_row hrd1
  cases e9
  clear n1 hw1 hrd1
  go_wp2_with fail
  go_loopw [4,17] (fun v i wr=>∃(k:Nat) (A':Option Addr) (cap':Nat) (out:List CellT),k<=L.length/\i= .int .i64 k/\v= .slice A' k cap'/\out.length=k/\(∀c∈out,c.key.size<=1048576)/\Hid ((L.take k).map cellOf=out.map some)/\App w1 wr 188 2 (.slice A' k cap') k (out.flatMap cellF)) (fun _ i _=>L.length-(intOf i).toNat)
  case atStart=>exact⟨0,_,0,[],Nat.zero_le _,rfl,rfl,rfl,by simp,by simp [Hid],App.nil w1 _ _ (Chg.refl _ _)⟩
  case round=>
   obtain⟨k,A',cap',out,hk,rfl,rfl,hout,hkey,HM,hh⟩:=hrel
   have hcg:=hh.chg
   have dr:Chg [] w wr:=d1.trans0 hcg
   have HEr:=hid (HE.out.keep dr)
   by_cases hlt:k<L.length
   ·obtain⟨b,off,e8,hb,q0⟩:=strs_cells (hrow.chg0 hcg (Nat.le_refl _)) k hlt
    cases e8
    simp only [Nat.zero_add] at q0
    have hsk:=hps _ (List.getElem_mem hlt)
    obtain⟨m,hm⟩:=HEr.out.max
    have CUT:=Tryz.strings_Cut L[k] ⟨#[61]⟩ m wr (by omega) hm
    have hcs:=cut_size L[k].data.toList 61
    rw [size_list] at hcs
    have hsep:(⟨#[61]⟩:ByteArray).data.toList=[61]:=rfl
    rw [hsep] at CUT
    have CNO:=hid (cellOf_no (p:=L[k]))
    have CBAD:=hid (cellOf_bad (p:=L[k]))
    have CGOOD:=hid (fun n=>cellOf_good (p:=L[k]) (n:=n))
    obtain⟨K,hK⟩:∃K:ByteArray,K=⟨(Lib.cut L[k].data.toList [61]).1.toArray⟩:=⟨_,rfl⟩
    obtain⟨T,hT⟩:∃T:ByteArray,T=⟨(Lib.cut L[k].data.toList [61]).2.1.toArray⟩:=⟨_,rfl⟩
    have hKs:K.size<=1048576:=by rw [hK];show(List.toArray _).size<=_;simp;omega
    have hTs:T.size<=1048576:=by rw [hT];show(List.toArray _).size<=_;simp;omega
    rw [<-hK] at CUT CGOOD
    rw [<-hT] at CUT CGOOD CBAD
    obtain⟨f,hf⟩:∃f,f=(Lib.cut L[k].data.toList [61]).2.2:=⟨_,rfl⟩
    rw [<-hf] at CUT CGOOD CBAD CNO
    have CUTH:=hid CUT
    have HA:=hid hh
    clear hK hT hf CUT hsep hcs hm hh
    cases f with
    |false=>
     have HB:=hid (BAD.out k hlt (CNO.out rfl))
     go_wp2_with fail
     refine CUTH.out.mono ?_
     rintro e w2 ⟨rfl,n,hw2⟩
     have c2:Chg [] wr w2:=hw2 ▸ Chg.drawn _ _
     clear hw2
     go_wp2_with fail
     refine(parseNumber_impl_any T _ hTs (HEr.out.keep c2)).mono ?_
     rintro e w3 ⟨he3,c3⟩
     subst he3
     go_wp2_with fail
     go_ret2
     exact CellsGives.no HB.out (App.toCells (l:=[]) (App.nil w 188 2 ((dr.trans0 c2).trans0 c3)) rfl)
    | true=>
     cases hp:parseNum T with
     |none=>
      have HB:=hid (BAD.out k hlt (CBAD.out rfl hp))
      have PN:=hid (fun W hE=>parseNumber_impl_any T W hTs hE)
      rw [hp] at PN
      clear hp
      go_wp2_with fail
      refine CUTH.out.mono ?_
      rintro e w2 ⟨rfl,n,hw2⟩
      have c2:Chg [] wr w2:=hw2 ▸ Chg.drawn _ _
      clear hw2
      go_wp2_with fail
      refine(PN.out _ (HEr.out.keep c2)).mono ?_
      rintro e w3 ⟨he3,c3⟩
      subst he3
      go_wp2_with fail
      go_ret2
      exact CellsGives.no HB.out (App.toCells (l:=[]) (App.nil w 188 2 ((dr.trans0 c2).trans0 c3)) rfl)
     | some z=>
      have HG:=hid (STEP.out k hlt out ⟨K,z⟩ HM.out (CGOOD.out z rfl hp))
      have PN:=hid (fun W hE=>parseNumber_impl_any T W hTs hE)
      rw [hp] at PN
      clear hp
      by_cases h4:4<=k
      ·have HB:=hid (LONG.out (by omega))
       go_wp2_with fail
       refine CUTH.out.mono ?_
       rintro e w2 ⟨rfl,n,hw2⟩
       have c2:Chg [] wr w2:=hw2 ▸ Chg.drawn _ _
       clear hw2
       go_wp2_with fail
       refine(PN.out _ (HEr.out.keep c2)).mono ?_
       rintro e w3 ⟨he3,c3⟩
       subst he3
       go_wp2_with fail
       go_ret2
       exact CellsGives.no HB.out (App.toCells (l:=[]) (App.nil w 188 2 ((dr.trans0 c2).trans0 c3)) rfl)
      ·go_wp2_with fail
       refine CUTH.out.mono ?_
       rintro e w2 ⟨rfl,n,hw2⟩
       have c2:Chg [] wr w2:=hw2 ▸ Chg.drawn _ _
       clear hw2
       go_wp2_with fail
       refine(PN.out _ (HEr.out.keep c2)).mono ?_
       rintro e w3 ⟨he3,c3⟩
       subst he3
       have hA2:=hid ((HA.out.later c2).later c3)
       go_wp2_with (at_builtin;refine wpList_app rfl (.tmp 43) (.tmp 47) _ rfl 188 _ 2 24 Tryz.underlying45 cell1_info rfl (by omega) hA2.out (us:=[.string K,.int .i64 z]) (dsE:=cellF ⟨K,z⟩) (newL_cell ⟨K,z⟩ ((Chg.refl _ _).alloc _)) rfl w3.heap.size 1 rfl rfl (by intro j u hj;match j,hj with|0,hj=>cases hj;go_simp|1,hj=>cases hj;go_simp|j+2,hj=>simp at hj) (by intro u hu;simp at hu;rcases hu with rfl|rfl<;>rfl) (by omega) (by omega) ?_;intro A3 cap3 w4 hA3)
       go_roundw
       case rel=>exact⟨k+1,A3,cap3,out++ [⟨K,z⟩],by omega,by go_num,by go_num,by simp [hout],fun c hc=>(List.mem_append.1 hc).elim (hkey c) (fun hc=>by rw [List.mem_singleton] at hc;subst hc;exact hKs),HG,by rw [List.flatMap_append];simpa using hA3⟩
       case measure=>simp [intOf];omega
   ·obtain rfl:k=L.length:=by omega
    have HM2:=HM.out
    rw [List.take_length] at HM2
    have HG:=hid (GOOD.out out HM2)
    have hN:=App.toCells (l:=out) hh hout.symm
    have hrd:Rd wr wr.heap.size (cells out) (.slice A' L.length cap'):=hN.rd
    have IC:=hid (isCells_impl_any out _ wr.heap.size wr hrd (Nat.le_refl _) (by omega) hkey)
    have HNN:=hid (show New w wr (cells out) (.slice A' L.length cap') from by
     obtain⟨S,h1,h2,h3⟩:=hN
     exact⟨S,h1,fun x hx=>Nat.le_trans d1.size (h2 x hx),dr⟩)
    clear HM2 hN hrd hh
    by_cases hok:CellsOk out
    ·have IC2:=hid (IC.out.mono (BoolPost.pos hok))
     have HP:=hid (HG.out.1 hok)
     clear hok
     go_wp2_with fail
     refine IC2.out.mono ?_
     rintro e w2 ⟨rfl,c2⟩
     go_wp2_with fail
     go_ret2
     exact CellsGives.yes HP.out hout.symm (HNN.out.later c2)
    ·have IC2:=hid (IC.out.mono (BoolPost.neg hok))
     have HP:=hid (HG.out.2 hok)
     clear hok
     go_wp2_with fail
     refine IC2.out.mono ?_
     rintro e w2 ⟨rfl,c2⟩
     go_wp2_with fail
     go_ret2
     exact CellsGives.no HP.out (App.toCells (l:=[]) (App.nil w 188 2 (dr.trans0 c2)) rfl)
 ·have HD:=hid (is_dash hd)
  clear he
  go_enter Tryz.func124,Tryz.ntmps124
  go_wp2_with fail
  go_ret2
  exact CellsGives.yes (l:=[]) (by rw [HD.out];exact parseCells_dash) rfl (App.toCells (l:=[]) (App.nil w 188 2 (Chg.refl _ _)) rfl)
end Go.Proofs.YtdlkbomojjmnlaaGreatDoor
