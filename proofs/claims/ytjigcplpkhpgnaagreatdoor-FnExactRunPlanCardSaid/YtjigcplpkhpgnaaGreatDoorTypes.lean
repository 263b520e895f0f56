/- Cell: as plain data; the walks of its size, copy, equality, marks. Written by a program. / Layer: as plain data; the walks of its size, copy, equality, marks. Written by a program. / Core: as plain data; the walks of its size, copy, equality, marks. Written by a program. / Part: as plain data; the walks of its size, copy, equality, marks. Written by a program. / Slot: as plain data; the walks of its size, copy, equality, marks. Written by a program. -/
import Derived.Test.YtjigcplpkhpgnaaGreatDoorGround
import Derived.StillTailTactics
import Derived.Deep.RegionHeld3
set_option maxRecDepth 100000
set_option maxHeartbeats 2000000
namespace Go.Proofs.YtjigcplpkhpgnaaGreatDoor
open Go.RowKit

structure CellT where
 key:ByteArray
 value:Int
def cellF (a:CellT):List Dat:=[.v (.string a.key)] ++ [.v (.int .i64 a.value)]
theorem cellF_eq (a:CellT):cellF a=[.v (.string a.key),.v (.int .i64 a.value)]:=rfl
theorem cellF_len (a:CellT):(cellF a).length=2:=rfl
def cells (l:List CellT):Dat:=.s l.length (l.flatMap cellF)
theorem cells_row {w:World} {B:Nat} {l:List CellT} {u:Value} (h:Rd w B (cells l) u):∃A cap,u= .slice A l.length cap/\l.length<=cap/\cap<=maxLen/\RowAt w B cellF 2 l A:=h.row cellF_len (by omega)
theorem cells_cells {w:World} {B:Nat} {l:List CellT} {A:Option Addr} (h:RowAt w B cellF 2 l A) (k:Nat) (hk:k<l.length):∃b off,A=some ⟨b,off,none⟩/\b<B/\w.cell? ⟨b,off+k * 2,none⟩=some (.string (l[k].key))/\w.cell? ⟨b,off+k * 2+1,none⟩=some (.int .i64 (l[k].value)):=by
 obtain⟨b,off,e,hb,hx⟩:=h k hk
 rw [cellF_eq] at hx
 obtain⟨v0,e0,d0⟩:=hx 0 _ rfl
 obtain⟨v1,e1,d1⟩:=hx 1 _ rfl
 rw [Rd] at d0 d1
 subst d0 d1
 exact⟨b,off,e,hb,by simpa using e0,e1⟩

def cellW (a:CellT):Nat:=a.key.size
def cellsW1 (l:List CellT):Nat:=(l.map cellW).sum
def cellsW (l:List CellT):Nat:=l.length+cellsW1 l
theorem cellsW_mem {l:List CellT} {a:CellT} (h:a∈l):cellW a<=cellsW1 l:=sum_mem cellW h
def cellN (_:CellT):Nat:=2
def cellM (_:CellT) (k:Int):CellT:=⟨(mt (k)),(k+1)⟩
def cellsN (l:List CellT):Nat:=(l.map cellN).sum
def cellsM (l:List CellT) (k:Int):List CellT:=mapK cellM cellN l k
theorem cell_info:(Tryz.prog.info? 102).map (fun i=>(i.zero,i.size,i.bytes))=some (some (.agg #[.string ⟨#[]⟩,.int .i64 0]),2,24):=by kernel_rfl
theorem szCell_el (a:CellT) (left:Int) (w:World) (h0:0<=left) (hl:left<=1048576) (hf:FitL (cellF a)):
  Calls Tryz.prog 121 #[.agg #[.string a.key,.int .i64 a.value],.int .i64 left] w (SzPost left (cellW a) w):=by
 simp only [cellF,FitL_append] at hf
 obtain⟨f0,f1⟩:=hf
 simp only [FitL,FitD,FitV,and_true] at f0
 simp only [FitL,FitD,FitV,and_true] at f1
 go_enter Tryz.func121,Tryz.ntmps121
 go_wp2_with fail
 all_goals
  go_ret
  exact⟨_,rfl,by(first|exact Left.no (by(try unfold Left at *);(try unfold cellW);omega)|exact Left.ok (by(try unfold Left at *);(try unfold cellW);omega) (by(try unfold Left at *);(try unfold cellW);omega)),(Chg.refl _ _).alloc _⟩

theorem szCellS_any (l:List CellT) (left:Int) (u:Value) (B:Nat) (w:World) (h0:0<=left) (hl:left<=1048576) (hf:FitL [cells l]) (hr:Rd w B (cells l) u) (hBw:B<=w.heap.size):
  Calls Tryz.prog 92 #[u,.int .i64 left] w (SzPost left (cellsW l) w):=by
 obtain⟨A,cap,rfl,h1,h2,hrow⟩:=cells_row hr
 unfold maxLen at h2
 have HF:=hid hf
 clear hr hf
 go_enter Tryz.func92,Tryz.ntmps92
 go_wp2_with fail
 ·go_ret
  exact⟨_,rfl,Left.no (by unfold cellsW;omega),Chg.refl _ _⟩
 go_loopw [1,5] (fun r i wr=>∃(k:Nat) (x:Int),k<=l.length/\i= .int .i64 k/\r= .int .i64 x/\Chg [] w wr/\0<=x/\x<=left/\Hid (x=left-l.length-cellsW1 (l.take k))) (fun _ i _=>l.length-(intOf i).toNat)
 case atStart=>exact⟨0,_,Nat.zero_le _,rfl,rfl,Chg.refl _ _,by omega,by omega,by simp [cellsW1,Hid]⟩
 case round=>
  obtain⟨k,x,hk,rfl,rfl,hc,hx0,hxl,HX⟩:=hrel
  by_cases hlt:k<l.length
  ·obtain⟨b,off,rfl,hb,q0,q1⟩:=cells_cells (hrow.chg0 hc hBw) k hlt
   have hsz:Hid (cellsW1 (l.take (k+1))=cellsW1 (l.take k)+cellW l[k] /\cellsW1 (l.take (k+1))<=cellsW1 l):=⟨sum_take cellW l k hlt,sum_le cellW l (k+1)⟩
   have hfk:=hid (FitL_flatMap.1 (FitL_slice HF.out) _ (List.getElem_mem hlt))
   go_wp2_with fail
   refine(szCell_el l[k] _ _ (by omega) (by omega) hfk.out).mono ?_
   rintro e w1 ⟨r1_,rfl,L1,C1⟩
   have D1:Chg [] w w1:=hc.trans0 C1
   have bd1:=L1.bd (by omega)
   go_wp2_with fail
   ·go_ret
    refine⟨_,rfl,Left.no ?_,D1⟩
    have:=HX.out;have:=hsz.out
    simp only [Left] at L1
    unfold cellsW
    omega
   ·go_roundw
    case rel=>
     refine⟨k+1,r1_,by omega,by go_num,rfl,D1,by omega,by omega,?_⟩
     have:=HX.out;have:=hsz.out
     simp only [Left] at L1
     show r1_=_
     omega
    case measure=>simp [intOf];omega
  ·go_wp2_with fail
   go_ret
   obtain rfl:k=l.length:=by omega
   have h5:=HX.out
   rw [List.take_length] at h5
   exact⟨_,rfl,Left.ok (by unfold cellsW;omega) (by unfold cellsW;omega),hc⟩

theorem toCell_el (a:CellT) (w:World) (_hW:cellW a<=1048576):
  Calls Tryz.prog 127 #[.agg #[.string a.key,.int .i64 a.value]] w (fun e w'=>e= .returned (.agg #[.string a.key,.int .i64 a.value])/\NewL w w' (cellF a) [.string a.key,.int .i64 a.value]):=by
 go_enter Tryz.func127,Tryz.ntmps127
 go_wp2_with fail
 refine bodyPost_ret (v:=.agg #[.string a.key,.int .i64 a.value]) (by simp only [results,Tryz.results127];go_simp) rfl ⟨rfl,?_⟩
 rw [cellF_eq]
 repeat refine NewL.cons_v ?_
 refine NewL.nil ?_
 repeat(first|with_reducible exact Chg.refl _ _|with_reducible refine Chg.drew ?_|with_reducible refine Chg.alloc ?_ _|with_reducible refine Chg.setCell ?_ (.inr (by simp;try omega)) _)

def cellZ:List Dat:=[.v (.string ⟨#[]⟩),.v (.int .i64 0)]
theorem cellZ_own (w:World):OwnL w cellZ [.string ⟨#[]⟩,.int .i64 0] []:=by
 have h:HasL w cellZ [.string ⟨#[]⟩,.int .i64 0] []:=by
  unfold cellZ
  repeat(first|with_reducible exact HasL.nil _|with_reducible refine HasL.cons_v ?_|with_reducible refine HasL.cons_nil ?_)
 exact h.1
theorem toCellS_any (l:List CellT) (u:Value) (B:Nat) (w:World) (hl:cellsW l<=1048576) (hr:Rd w B (cells l) u) (hB:B<=w.heap.size):
  Calls Tryz.prog 105 #[u] w (Gives (cells l) w):=by
 have hll:l.length<=1048576:=by unfold cellsW at hl;omega
 obtain⟨A,cap,rfl,h0,h1,hrow⟩:=cells_row hr
 have hmk:=fun W=>run_make_rowN (P:=Tryz.prog) 64 102 _ 2 24 Tryz.underlying64 cell_info .i64 .i64 l.length l.length (Nat.le_refl _) (by omega) (by omega) W
 unfold maxLen at h1
 clear hr
 go_enter Tryz.func105,Tryz.ntmps105
 go_wp2_with fail
 go_loopw [4] (fun i wr=>∃k:Nat,k<=l.length/\i= .int .i64 k/\New w wr (.s l.length (filled cellF cellZ l k)) (.slice (some ⟨w.heap.size,0,none⟩) l.length l.length)) (fun i _=>l.length-(intOf i).toNat)
 case atStart=>exact⟨0,Nat.zero_le _,rfl,New.make w 102 _ 2 rfl (by omega) cellZ cellZ_own cellF l l.length rfl (by unfold maxLen;omega)⟩
 case round=>
  obtain⟨k,hk,rfl,hh⟩:=hrel
  by_cases hlt:k<l.length
  ·obtain⟨b,off,rfl,hb,q0,q1⟩:=cells_cells (hrow.chg0 hh.chg hB) k hlt
   have hwt:=cellsW_mem (List.getElem_mem hlt)
   go_wp2_with fail
   refine(toCell_el l[k] _ (by unfold cellsW at hl;omega) ).mono ?_;rintro e w1 ⟨rfl,n1⟩
   have hset:=hh.fill cellF_len rfl hlt n1
   have hh1:=hh.later n1.chg
   obtain⟨rm0,x0,rc0⟩:=hh1.room (j:=k * 2) (by rw [filled_length cellF_len rfl _ _ hk];omega)
   obtain⟨rm1,x1,rc1⟩:=hh1.room (j:=k * 2+1) (by rw [filled_length cellF_len rfl _ _ hk];omega)
   go_wp2_with fail
   go_roundw
   case rel=>exact⟨k+1,by omega,by go_num,hset⟩
   case measure=>simp [intOf];omega
  ·obtain rfl:k=l.length:=by omega
   rw [filled_all] at hh
   go_wp2_with fail
   go_ret
   exact⟨_,rfl,hh⟩

theorem eqCell_el (a:CellT) (w:World):
  Calls Tryz.prog 136 #[.agg #[.string a.key,.int .i64 a.value],.agg #[.string a.key,.int .i64 a.value]] w fun e w'=>e= .returned (.bool true)/\Chg [] w w':=by
 go_enter Tryz.func136,Tryz.ntmps136
 go_wp2_with fail
 go_ret
 exact⟨rfl,((Chg.refl _ _).alloc _).alloc _⟩

theorem eqCellS_same (l:List CellT) (u v:Value) (B B':Nat) (w:World) (hr:Rd w B (cells l) u) (hs:Rd w B' (cells l) v) (hB:B<=w.heap.size) (hB':B'<=w.heap.size):
  Calls Tryz.prog 119 #[u,v] w fun e w'=>e= .returned (.bool true)/\Chg [] w w':=by
 obtain⟨A,cap,rfl,h0,h1,hrow⟩:=cells_row hr
 obtain⟨A',cap',rfl,h0',h1',hrow'⟩:=cells_row hs
 unfold maxLen at h1 h1'
 clear hr hs
 go_enter Tryz.func119,Tryz.ntmps119
 go_wp2_with fail
 go_loopw [5] (fun i wr=>∃k:Nat,k<=l.length/\i= .int .i64 k/\Chg [] w wr) (fun i _=>l.length-(intOf i).toNat)
 case atStart=>exact⟨0,Nat.zero_le _,rfl,Chg.refl _ _⟩
 case round=>
  obtain⟨k,hk,rfl,hc⟩:=hrel
  by_cases hlt:k<l.length
  ·obtain⟨b,off,rfl,hb,q0,q1⟩:=cells_cells (hrow.chg0 hc hB) k hlt
   obtain⟨b',off',rfl,hb',p0,p1⟩:=cells_cells (hrow'.chg0 hc hB') k hlt
   have el:=fun W (_hW:Chg [] wr W)=>eqCell_el l[k] W
   have EL:=hid el
   clear el
   go_wp2_with fail
   go_still_tail 8,(by kernel_rfl)
   change wpList _ _ _ _ _ wr.drew
   go_wp2_with fail
   refine(EL.out _ ((Chg.refl _ _).drew)).mono ?_;rintro e w1 ⟨rfl,c1⟩
   go_wp2_with fail
   go_roundw
   case rel=>exact⟨k+1,by omega,by go_num,hc.drew.trans0 c1⟩
   case measure=>simp [intOf];omega
  ·obtain rfl:k=l.length:=by omega
   go_wp2_with fail
   go_ret
   exact⟨rfl,hc⟩

theorem markCellS_any (l:List CellT) (u:Value) (S:List Nat) (k0:Int) (w:World) (hk0:0<=k0) (hkb:k0+cellsN l<=100000000) (hh:Has w (cells l) u S):
  Calls Tryz.prog 35 #[u,.int .i64 k0] w fun e w'=>e= .returned (.int .i64 (k0+cellsN l))/\Has w' (cells (cellsM l k0)) u S/\Chg S w w':=by
 obtain⟨A,cap,rfl,h0,h1,_⟩:=hh.rd.at_
 unfold maxLen at h1
 go_enter Tryz.func35,Tryz.ntmps35
 go_wp2_with fail
 go_loopw [1,5] (fun r i wr=>∃(i':Nat) (k:Int),i'<=l.length/\i= .int .i64 i'/\r= .int .i64 k/\0<=k/\k<=100000000/\Hid (k=k0+((l.take i').map cellN).sum)/\Has wr (.s l.length ((mapK cellM cellN (l.take i') k0++l.drop i').flatMap cellF)) (.slice A l.length cap) S/\Chg S w wr) (fun _ i _=>l.length-(intOf i).toNat)
 case atStart=>exact⟨0,k0,Nat.zero_le _,rfl,rfl,hk0,by omega,by simp [Hid],by simp only [List.take_zero,mapK,List.nil_append,List.drop_zero];exact hh,Chg.refl _ _⟩
 case round=>
  obtain⟨i,k,hi,rfl,rfl,hk1,hk2,hkq,H0,hc⟩:=hrel
  by_cases hlt:i<l.length
  ·obtain⟨g,rfl,hgS⟩:=H0.own (by omega)
   have hn1:k+cellN l[i] <=100000000:=by
    have:=sum_take cellN l i hlt;have:=sum_le cellN l (i+1);have:=hkq.out;unfold cellsN at hkb;omega
   unfold cellN at hn1
   rw [marking_at l k0 i hlt,cellF_eq] at H0
   have hX:=marking_X (M:=cellM) (N:=cellN) cellF_len l k0 i hlt
   have P0:=H0
   go_wp2_with fail
   refine(markText_any _ _ (by omega)).mono ?_;rintro e w1 ⟨rfl,c1⟩
   have H1:=P0.keep0 c1
   have D1:Chg S w w1:=Chg.trans0 (Chg.to hc) c1
   obtain⟨rf1_0,rx1_0,rc1_0⟩:=H1.room0 hX (by simp)
   obtain⟨rf1_1,rx1_1,rc1_1⟩:=H1.roomAt hX 1 (by simp)
   have P1:=((H1.set0 hX rfl (.string (mt (k)))).setAt hX (j:=1) rfl (.int .i64 (k+1)))
   go_wp2_with fail
   go_roundw
   case rel=>
    have e1:((l.take (i+1)).map cellN).sum=((l.take i).map cellN).sum+cellN l[i]:=sum_take cellN l i hlt
    have e2:=hkq.out
    refine⟨i+1,_,by omega,by go_num,rfl,by omega,by omega,?_,?_,?_⟩
    ·show _=_;have e3:cellN l[i]=2:=rfl
     rw [e1,e3];omega
    ·rw [marking_next l k0 i hlt, <-e2];exact P1
    ·repeat(first|with_reducible exact D1|with_reducible refine Chg.drew ?_|with_reducible refine Chg.alloc ?_ _|with_reducible refine Chg.setCell ?_ (.inl hgS) _)
   case measure=>simp [intOf];omega
  ·obtain rfl:i=l.length:=by omega
   go_wp2_with fail
   go_ret
   have h5:=hkq.out
   rw [List.take_length,List.drop_length,List.append_nil] at H0
   rw [List.take_length] at h5
   refine⟨ret_int h5,?_,hc⟩
   show Has _ (.s (mapK cellM cellN l k0).length ((mapK cellM cellN l k0).flatMap cellF)) _ _
   rw [mapK_length]
   exact H0

theorem heldCellS_any (l:List CellT) (u:Value) (B:Nat) (k0:Int) (w:World) (hk0:0<=k0) (hkb:k0+cellsN l<=100000000) (hr:Rd w B (cells (cellsM l k0)) u) (hB:B<=w.heap.size):
  Calls Tryz.prog 37 #[u,.int .i64 k0] w fun e w'=>e= .returned (.int .i64 (k0+cellsN l))/\Chg [] w w':=by
 obtain⟨A,cap,rfl,h0,h1,hrow⟩:=cells_row hr
 have hlen:(cellsM l k0).length=l.length:=mapK_length l k0
 rw [hlen] at h0 ⊢
 unfold maxLen at h1
 clear hr
 have HL:=hid hlen
 clear hlen
 go_enter Tryz.func37,Tryz.ntmps37
 go_wp2_with fail
 go_loopw [1,5] (fun r i wr=>∃(i':Nat) (k:Int),i'<=l.length/\i= .int .i64 i'/\r= .int .i64 k/\0<=k/\k<=100000000/\Hid (k=k0+((l.take i').map cellN).sum)/\Chg [] w wr) (fun _ i _=>l.length-(intOf i).toNat)
 case atStart=>exact⟨0,k0,Nat.zero_le _,rfl,rfl,hk0,by omega,by simp [Hid],Chg.refl _ _⟩
 case round=>
  obtain⟨i,k,hi,rfl,rfl,hk1,hk2,hkq,hc⟩:=hrel
  by_cases hlt:i<l.length
  ·have hn1:k+cellN l[i] <=100000000:=by
    have:=sum_take cellN l i hlt;have:=sum_le cellN l (i+1);have:=hkq.out;unfold cellsN at hkb;omega
   unfold cellN at hn1
   have hlt':i<(cellsM l k0).length:=by rw [HL.out];exact hlt
   have hget:(cellsM l k0)[i]=cellM l[i] k:=by rw [hkq.out];exact mapK_get l k0 i hlt hlt'
   obtain⟨b,off,rfl,hb,q0,q1⟩:=cells_cells (hrow.chg0 hc hB) i hlt'
   rw [hget] at q0 q1
   replace q0:wr.cell? ⟨b,off+i * 2,none⟩=some (.string (mt (k))):=q0
   replace q1:wr.cell? ⟨b,off+i * 2+1,none⟩=some (.int .i64 (k+1)):=q1
   have hb0:b<wr.heap.size:=by have:=hc.size;omega
   have hB0:B<=wr.heap.size:=by have:=hc.size;omega
   have Q0:=hid q0
   have Q1:=hid q1
   have E0:Chg [] wr wr:=Chg.refl _ _
   clear hget hb hlt' q0 q1
   go_wp2_with fail
   have p0:=(E0.cell (p:=⟨b,off+i * 2,none⟩) hb0 (by simp)).trans Q0.out
   go_region_held3 (fun w'=>w'.cell? ⟨b,off+i * 2,none⟩=some (.string (mt (k)))/\Chg [] wr w') (first|exact⟨p0,E0.drew⟩|exact⟨((E0.drew.trans0 c1).cell (p:=⟨b,off+i * 2,none⟩) hb0 (by simp)).trans Q0.out,E0.drew.trans0 c1⟩) ((go_at_call 34;refine(markText_any _ _ (by omega)).mono ?_;rintro e w1 ⟨rfl,c1⟩))
   rename_i hH;obtain⟨_,E1⟩:=hH
   clear p0
   have p1:=(E1.cell (p:=⟨b,off+i * 2+1,none⟩) hb0 (by simp)).trans Q1.out
   go_wp2_with fail
   go_roundw
   case rel=>
    have e1:((l.take (i+1)).map cellN).sum=((l.take i).map cellN).sum+cellN l[i]:=sum_take cellN l i hlt
    have e2:=hkq.out
    have e3:cellN l[i]=2:=rfl
    refine⟨i+1,_,by omega,by go_num,rfl,by omega,by omega,?_,hc.trans0 E1⟩
    show _=_
    rw [e1,e3];omega
   case measure=>simp [intOf];omega
  ·obtain rfl:i=l.length:=by omega
   go_wp2_with fail
   go_ret
   have h5:=hkq.out
   rw [List.take_length] at h5
   exact⟨ret_int h5,hc⟩

structure LayerT where
 name:ByteArray
 count:Int
def layerF (a:LayerT):List Dat:=[.v (.string a.name)] ++ [.v (.int .i64 a.count)]
theorem layerF_eq (a:LayerT):layerF a=[.v (.string a.name),.v (.int .i64 a.count)]:=rfl
theorem layerF_len (a:LayerT):(layerF a).length=2:=rfl
def layers (l:List LayerT):Dat:=.s l.length (l.flatMap layerF)
theorem layers_row {w:World} {B:Nat} {l:List LayerT} {u:Value} (h:Rd w B (layers l) u):∃A cap,u= .slice A l.length cap/\l.length<=cap/\cap<=maxLen/\RowAt w B layerF 2 l A:=h.row layerF_len (by omega)
theorem layers_cells {w:World} {B:Nat} {l:List LayerT} {A:Option Addr} (h:RowAt w B layerF 2 l A) (k:Nat) (hk:k<l.length):∃b off,A=some ⟨b,off,none⟩/\b<B/\w.cell? ⟨b,off+k * 2,none⟩=some (.string (l[k].name))/\w.cell? ⟨b,off+k * 2+1,none⟩=some (.int .i64 (l[k].count)):=by
 obtain⟨b,off,e,hb,hx⟩:=h k hk
 rw [layerF_eq] at hx
 obtain⟨v0,e0,d0⟩:=hx 0 _ rfl
 obtain⟨v1,e1,d1⟩:=hx 1 _ rfl
 rw [Rd] at d0 d1
 subst d0 d1
 exact⟨b,off,e,hb,by simpa using e0,e1⟩

def layerW (a:LayerT):Nat:=a.name.size
def layersW1 (l:List LayerT):Nat:=(l.map layerW).sum
def layersW (l:List LayerT):Nat:=l.length+layersW1 l
theorem layersW_mem {l:List LayerT} {a:LayerT} (h:a∈l):layerW a<=layersW1 l:=sum_mem layerW h
def layerN (_:LayerT):Nat:=2
def layerM (_:LayerT) (k:Int):LayerT:=⟨(mt (k)),(k+1)⟩
def layersN (l:List LayerT):Nat:=(l.map layerN).sum
def layersM (l:List LayerT) (k:Int):List LayerT:=mapK layerM layerN l k
theorem layer_info:(Tryz.prog.info? 104).map (fun i=>(i.zero,i.size,i.bytes))=some (some (.agg #[.string ⟨#[]⟩,.int .i64 0]),2,24):=by kernel_rfl
theorem szLayer_el (a:LayerT) (left:Int) (w:World) (h0:0<=left) (hl:left<=1048576) (hf:FitL (layerF a)):
  Calls Tryz.prog 93 #[.agg #[.string a.name,.int .i64 a.count],.int .i64 left] w (SzPost left (layerW a) w):=by
 simp only [layerF,FitL_append] at hf
 obtain⟨f0,f1⟩:=hf
 simp only [FitL,FitD,FitV,and_true] at f0
 simp only [FitL,FitD,FitV,and_true] at f1
 go_enter Tryz.func93,Tryz.ntmps93
 go_wp2_with fail
 all_goals
  go_ret
  exact⟨_,rfl,by(first|exact Left.no (by(try unfold Left at *);(try unfold layerW);omega)|exact Left.ok (by(try unfold Left at *);(try unfold layerW);omega) (by(try unfold Left at *);(try unfold layerW);omega)),(Chg.refl _ _).alloc _⟩

theorem szLayerS_any (l:List LayerT) (left:Int) (u:Value) (B:Nat) (w:World) (h0:0<=left) (hl:left<=1048576) (hf:FitL [layers l]) (hr:Rd w B (layers l) u) (hBw:B<=w.heap.size):
  Calls Tryz.prog 62 #[u,.int .i64 left] w (SzPost left (layersW l) w):=by
 obtain⟨A,cap,rfl,h1,h2,hrow⟩:=layers_row hr
 unfold maxLen at h2
 have HF:=hid hf
 clear hr hf
 go_enter Tryz.func62,Tryz.ntmps62
 go_wp2_with fail
 ·go_ret
  exact⟨_,rfl,Left.no (by unfold layersW;omega),Chg.refl _ _⟩
 go_loopw [1,5] (fun r i wr=>∃(k:Nat) (x:Int),k<=l.length/\i= .int .i64 k/\r= .int .i64 x/\Chg [] w wr/\0<=x/\x<=left/\Hid (x=left-l.length-layersW1 (l.take k))) (fun _ i _=>l.length-(intOf i).toNat)
 case atStart=>exact⟨0,_,Nat.zero_le _,rfl,rfl,Chg.refl _ _,by omega,by omega,by simp [layersW1,Hid]⟩
 case round=>
  obtain⟨k,x,hk,rfl,rfl,hc,hx0,hxl,HX⟩:=hrel
  by_cases hlt:k<l.length
  ·obtain⟨b,off,rfl,hb,q0,q1⟩:=layers_cells (hrow.chg0 hc hBw) k hlt
   have hsz:Hid (layersW1 (l.take (k+1))=layersW1 (l.take k)+layerW l[k] /\layersW1 (l.take (k+1))<=layersW1 l):=⟨sum_take layerW l k hlt,sum_le layerW l (k+1)⟩
   have hfk:=hid (FitL_flatMap.1 (FitL_slice HF.out) _ (List.getElem_mem hlt))
   go_wp2_with fail
   refine(szLayer_el l[k] _ _ (by omega) (by omega) hfk.out).mono ?_
   rintro e w1 ⟨r1_,rfl,L1,C1⟩
   have D1:Chg [] w w1:=hc.trans0 C1
   have bd1:=L1.bd (by omega)
   go_wp2_with fail
   ·go_ret
    refine⟨_,rfl,Left.no ?_,D1⟩
    have:=HX.out;have:=hsz.out
    simp only [Left] at L1
    unfold layersW
    omega
   ·go_roundw
    case rel=>
     refine⟨k+1,r1_,by omega,by go_num,rfl,D1,by omega,by omega,?_⟩
     have:=HX.out;have:=hsz.out
     simp only [Left] at L1
     show r1_=_
     omega
    case measure=>simp [intOf];omega
  ·go_wp2_with fail
   go_ret
   obtain rfl:k=l.length:=by omega
   have h5:=HX.out
   rw [List.take_length] at h5
   exact⟨_,rfl,Left.ok (by unfold layersW;omega) (by unfold layersW;omega),hc⟩

theorem toLayer_el (a:LayerT) (w:World) (_hW:layerW a<=1048576):
  Calls Tryz.prog 106 #[.agg #[.string a.name,.int .i64 a.count]] w (fun e w'=>e= .returned (.agg #[.string a.name,.int .i64 a.count])/\NewL w w' (layerF a) [.string a.name,.int .i64 a.count]):=by
 go_enter Tryz.func106,Tryz.ntmps106
 go_wp2_with fail
 refine bodyPost_ret (v:=.agg #[.string a.name,.int .i64 a.count]) (by simp only [results,Tryz.results106];go_simp) rfl ⟨rfl,?_⟩
 rw [layerF_eq]
 repeat refine NewL.cons_v ?_
 refine NewL.nil ?_
 repeat(first|with_reducible exact Chg.refl _ _|with_reducible refine Chg.drew ?_|with_reducible refine Chg.alloc ?_ _|with_reducible refine Chg.setCell ?_ (.inr (by simp;try omega)) _)

def layerZ:List Dat:=[.v (.string ⟨#[]⟩),.v (.int .i64 0)]
theorem layerZ_own (w:World):OwnL w layerZ [.string ⟨#[]⟩,.int .i64 0] []:=by
 have h:HasL w layerZ [.string ⟨#[]⟩,.int .i64 0] []:=by
  unfold layerZ
  repeat(first|with_reducible exact HasL.nil _|with_reducible refine HasL.cons_v ?_|with_reducible refine HasL.cons_nil ?_)
 exact h.1
theorem toLayerS_any (l:List LayerT) (u:Value) (B:Nat) (w:World) (hl:layersW l<=1048576) (hr:Rd w B (layers l) u) (hB:B<=w.heap.size):
  Calls Tryz.prog 78 #[u] w (Gives (layers l) w):=by
 have hll:l.length<=1048576:=by unfold layersW at hl;omega
 obtain⟨A,cap,rfl,h0,h1,hrow⟩:=layers_row hr
 have hmk:=fun W=>run_make_rowN (P:=Tryz.prog) 67 104 _ 2 24 Tryz.underlying67 layer_info .i64 .i64 l.length l.length (Nat.le_refl _) (by omega) (by omega) W
 unfold maxLen at h1
 clear hr
 go_enter Tryz.func78,Tryz.ntmps78
 go_wp2_with fail
 go_loopw [4] (fun i wr=>∃k:Nat,k<=l.length/\i= .int .i64 k/\New w wr (.s l.length (filled layerF layerZ l k)) (.slice (some ⟨w.heap.size,0,none⟩) l.length l.length)) (fun i _=>l.length-(intOf i).toNat)
 case atStart=>exact⟨0,Nat.zero_le _,rfl,New.make w 104 _ 2 rfl (by omega) layerZ layerZ_own layerF l l.length rfl (by unfold maxLen;omega)⟩
 case round=>
  obtain⟨k,hk,rfl,hh⟩:=hrel
  by_cases hlt:k<l.length
  ·obtain⟨b,off,rfl,hb,q0,q1⟩:=layers_cells (hrow.chg0 hh.chg hB) k hlt
   have hwt:=layersW_mem (List.getElem_mem hlt)
   go_wp2_with fail
   refine(toLayer_el l[k] _ (by unfold layersW at hl;omega) ).mono ?_;rintro e w1 ⟨rfl,n1⟩
   have hset:=hh.fill layerF_len rfl hlt n1
   have hh1:=hh.later n1.chg
   obtain⟨rm0,x0,rc0⟩:=hh1.room (j:=k * 2) (by rw [filled_length layerF_len rfl _ _ hk];omega)
   obtain⟨rm1,x1,rc1⟩:=hh1.room (j:=k * 2+1) (by rw [filled_length layerF_len rfl _ _ hk];omega)
   go_wp2_with fail
   go_roundw
   case rel=>exact⟨k+1,by omega,by go_num,hset⟩
   case measure=>simp [intOf];omega
  ·obtain rfl:k=l.length:=by omega
   rw [filled_all] at hh
   go_wp2_with fail
   go_ret
   exact⟨_,rfl,hh⟩

theorem eqLayer_el (a:LayerT) (w:World):
  Calls Tryz.prog 120 #[.agg #[.string a.name,.int .i64 a.count],.agg #[.string a.name,.int .i64 a.count]] w fun e w'=>e= .returned (.bool true)/\Chg [] w w':=by
 go_enter Tryz.func120,Tryz.ntmps120
 go_wp2_with fail
 go_ret
 exact⟨rfl,((Chg.refl _ _).alloc _).alloc _⟩

theorem eqLayerS_same (l:List LayerT) (u v:Value) (B B':Nat) (w:World) (hr:Rd w B (layers l) u) (hs:Rd w B' (layers l) v) (hB:B<=w.heap.size) (hB':B'<=w.heap.size):
  Calls Tryz.prog 91 #[u,v] w fun e w'=>e= .returned (.bool true)/\Chg [] w w':=by
 obtain⟨A,cap,rfl,h0,h1,hrow⟩:=layers_row hr
 obtain⟨A',cap',rfl,h0',h1',hrow'⟩:=layers_row hs
 unfold maxLen at h1 h1'
 clear hr hs
 go_enter Tryz.func91,Tryz.ntmps91
 go_wp2_with fail
 go_loopw [5] (fun i wr=>∃k:Nat,k<=l.length/\i= .int .i64 k/\Chg [] w wr) (fun i _=>l.length-(intOf i).toNat)
 case atStart=>exact⟨0,Nat.zero_le _,rfl,Chg.refl _ _⟩
 case round=>
  obtain⟨k,hk,rfl,hc⟩:=hrel
  by_cases hlt:k<l.length
  ·obtain⟨b,off,rfl,hb,q0,q1⟩:=layers_cells (hrow.chg0 hc hB) k hlt
   obtain⟨b',off',rfl,hb',p0,p1⟩:=layers_cells (hrow'.chg0 hc hB') k hlt
   have el:=fun W (_hW:Chg [] wr W)=>eqLayer_el l[k] W
   have EL:=hid el
   clear el
   go_wp2_with fail
   go_still_tail 8,(by kernel_rfl)
   change wpList _ _ _ _ _ wr.drew
   go_wp2_with fail
   refine(EL.out _ ((Chg.refl _ _).drew)).mono ?_;rintro e w1 ⟨rfl,c1⟩
   go_wp2_with fail
   go_roundw
   case rel=>exact⟨k+1,by omega,by go_num,hc.drew.trans0 c1⟩
   case measure=>simp [intOf];omega
  ·obtain rfl:k=l.length:=by omega
   go_wp2_with fail
   go_ret
   exact⟨rfl,hc⟩

theorem markLayerS_any (l:List LayerT) (u:Value) (S:List Nat) (k0:Int) (w:World) (hk0:0<=k0) (hkb:k0+layersN l<=100000000) (hh:Has w (layers l) u S):
  Calls Tryz.prog 36 #[u,.int .i64 k0] w fun e w'=>e= .returned (.int .i64 (k0+layersN l))/\Has w' (layers (layersM l k0)) u S/\Chg S w w':=by
 obtain⟨A,cap,rfl,h0,h1,_⟩:=hh.rd.at_
 unfold maxLen at h1
 go_enter Tryz.func36,Tryz.ntmps36
 go_wp2_with fail
 go_loopw [1,5] (fun r i wr=>∃(i':Nat) (k:Int),i'<=l.length/\i= .int .i64 i'/\r= .int .i64 k/\0<=k/\k<=100000000/\Hid (k=k0+((l.take i').map layerN).sum)/\Has wr (.s l.length ((mapK layerM layerN (l.take i') k0++l.drop i').flatMap layerF)) (.slice A l.length cap) S/\Chg S w wr) (fun _ i _=>l.length-(intOf i).toNat)
 case atStart=>exact⟨0,k0,Nat.zero_le _,rfl,rfl,hk0,by omega,by simp [Hid],by simp only [List.take_zero,mapK,List.nil_append,List.drop_zero];exact hh,Chg.refl _ _⟩
 case round=>
  obtain⟨i,k,hi,rfl,rfl,hk1,hk2,hkq,H0,hc⟩:=hrel
  by_cases hlt:i<l.length
  ·obtain⟨g,rfl,hgS⟩:=H0.own (by omega)
   have hn1:k+layerN l[i] <=100000000:=by
    have:=sum_take layerN l i hlt;have:=sum_le layerN l (i+1);have:=hkq.out;unfold layersN at hkb;omega
   unfold layerN at hn1
   rw [marking_at l k0 i hlt,layerF_eq] at H0
   have hX:=marking_X (M:=layerM) (N:=layerN) layerF_len l k0 i hlt
   have P0:=H0
   go_wp2_with fail
   refine(markText_any _ _ (by omega)).mono ?_;rintro e w1 ⟨rfl,c1⟩
   have H1:=P0.keep0 c1
   have D1:Chg S w w1:=Chg.trans0 (Chg.to hc) c1
   obtain⟨rf1_0,rx1_0,rc1_0⟩:=H1.room0 hX (by simp)
   obtain⟨rf1_1,rx1_1,rc1_1⟩:=H1.roomAt hX 1 (by simp)
   have P1:=((H1.set0 hX rfl (.string (mt (k)))).setAt hX (j:=1) rfl (.int .i64 (k+1)))
   go_wp2_with fail
   go_roundw
   case rel=>
    have e1:((l.take (i+1)).map layerN).sum=((l.take i).map layerN).sum+layerN l[i]:=sum_take layerN l i hlt
    have e2:=hkq.out
    refine⟨i+1,_,by omega,by go_num,rfl,by omega,by omega,?_,?_,?_⟩
    ·show _=_;have e3:layerN l[i]=2:=rfl
     rw [e1,e3];omega
    ·rw [marking_next l k0 i hlt, <-e2];exact P1
    ·repeat(first|with_reducible exact D1|with_reducible refine Chg.drew ?_|with_reducible refine Chg.alloc ?_ _|with_reducible refine Chg.setCell ?_ (.inl hgS) _)
   case measure=>simp [intOf];omega
  ·obtain rfl:i=l.length:=by omega
   go_wp2_with fail
   go_ret
   have h5:=hkq.out
   rw [List.take_length,List.drop_length,List.append_nil] at H0
   rw [List.take_length] at h5
   refine⟨ret_int h5,?_,hc⟩
   show Has _ (.s (mapK layerM layerN l k0).length ((mapK layerM layerN l k0).flatMap layerF)) _ _
   rw [mapK_length]
   exact H0

theorem heldLayerS_any (l:List LayerT) (u:Value) (B:Nat) (k0:Int) (w:World) (hk0:0<=k0) (hkb:k0+layersN l<=100000000) (hr:Rd w B (layers (layersM l k0)) u) (hB:B<=w.heap.size):
  Calls Tryz.prog 38 #[u,.int .i64 k0] w fun e w'=>e= .returned (.int .i64 (k0+layersN l))/\Chg [] w w':=by
 obtain⟨A,cap,rfl,h0,h1,hrow⟩:=layers_row hr
 have hlen:(layersM l k0).length=l.length:=mapK_length l k0
 rw [hlen] at h0 ⊢
 unfold maxLen at h1
 clear hr
 have HL:=hid hlen
 clear hlen
 go_enter Tryz.func38,Tryz.ntmps38
 go_wp2_with fail
 go_loopw [1,5] (fun r i wr=>∃(i':Nat) (k:Int),i'<=l.length/\i= .int .i64 i'/\r= .int .i64 k/\0<=k/\k<=100000000/\Hid (k=k0+((l.take i').map layerN).sum)/\Chg [] w wr) (fun _ i _=>l.length-(intOf i).toNat)
 case atStart=>exact⟨0,k0,Nat.zero_le _,rfl,rfl,hk0,by omega,by simp [Hid],Chg.refl _ _⟩
 case round=>
  obtain⟨i,k,hi,rfl,rfl,hk1,hk2,hkq,hc⟩:=hrel
  by_cases hlt:i<l.length
  ·have hn1:k+layerN l[i] <=100000000:=by
    have:=sum_take layerN l i hlt;have:=sum_le layerN l (i+1);have:=hkq.out;unfold layersN at hkb;omega
   unfold layerN at hn1
   have hlt':i<(layersM l k0).length:=by rw [HL.out];exact hlt
   have hget:(layersM l k0)[i]=layerM l[i] k:=by rw [hkq.out];exact mapK_get l k0 i hlt hlt'
   obtain⟨b,off,rfl,hb,q0,q1⟩:=layers_cells (hrow.chg0 hc hB) i hlt'
   rw [hget] at q0 q1
   replace q0:wr.cell? ⟨b,off+i * 2,none⟩=some (.string (mt (k))):=q0
   replace q1:wr.cell? ⟨b,off+i * 2+1,none⟩=some (.int .i64 (k+1)):=q1
   have hb0:b<wr.heap.size:=by have:=hc.size;omega
   have hB0:B<=wr.heap.size:=by have:=hc.size;omega
   have Q0:=hid q0
   have Q1:=hid q1
   have E0:Chg [] wr wr:=Chg.refl _ _
   clear hget hb hlt' q0 q1
   go_wp2_with fail
   have p0:=(E0.cell (p:=⟨b,off+i * 2,none⟩) hb0 (by simp)).trans Q0.out
   go_region_held3 (fun w'=>w'.cell? ⟨b,off+i * 2,none⟩=some (.string (mt (k)))/\Chg [] wr w') (first|exact⟨p0,E0.drew⟩|exact⟨((E0.drew.trans0 c1).cell (p:=⟨b,off+i * 2,none⟩) hb0 (by simp)).trans Q0.out,E0.drew.trans0 c1⟩) ((go_at_call 34;refine(markText_any _ _ (by omega)).mono ?_;rintro e w1 ⟨rfl,c1⟩))
   rename_i hH;obtain⟨_,E1⟩:=hH
   clear p0
   have p1:=(E1.cell (p:=⟨b,off+i * 2+1,none⟩) hb0 (by simp)).trans Q1.out
   go_wp2_with fail
   go_roundw
   case rel=>
    have e1:((l.take (i+1)).map layerN).sum=((l.take i).map layerN).sum+layerN l[i]:=sum_take layerN l i hlt
    have e2:=hkq.out
    have e3:layerN l[i]=2:=rfl
    refine⟨i+1,_,by omega,by go_num,rfl,by omega,by omega,?_,hc.trans0 E1⟩
    show _=_
    rw [e1,e3];omega
   case measure=>simp [intOf];omega
  ·obtain rfl:i=l.length:=by omega
   go_wp2_with fail
   go_ret
   have h5:=hkq.out
   rw [List.take_length] at h5
   exact⟨ret_int h5,hc⟩

structure CoreT where
 kind:ByteArray
 on:Bool
 broken:Bool
 cells:List CellT
 count:Int
def coreF (a:CoreT):List Dat:=[.v (.string a.kind)] ++([.v (.bool a.on)] ++([.v (.bool a.broken)] ++([cells a.cells] ++ [.v (.int .i64 a.count)])))
def cores (l:List CoreT):Dat:=.s l.length (l.flatMap coreF)
def coreW (a:CoreT):Nat:=a.kind.size+cellsW a.cells
theorem szCore_el (a:CoreT) (left:Int) (u3:Value) (B:Nat) (w:World) (h0:0<=left) (hl:left<=1048576) (hf:FitL (coreF a)) (r3:Rd w B (cells a.cells) u3) (hBw:B<=w.heap.size):
  Calls Tryz.prog 61 #[.agg #[.string a.kind,.bool a.on,.bool a.broken,u3,.int .i64 a.count],.int .i64 left] w (SzPost left (coreW a) w):=by
 simp only [coreF,FitL_append] at hf
 obtain⟨f0,f1,f2,f3,f4⟩:=hf
 simp only [FitL,FitD,FitV,and_true] at f0
 simp only [FitL,FitD,FitV,and_true] at f1
 simp only [FitL,FitD,FitV,and_true] at f2
 have g3:=hid f3;clear f3
 simp only [FitL,FitD,FitV,and_true] at f4
 go_enter Tryz.func61,Tryz.ntmps61
 go_wp2_with fail
 all_goals try(go_ret;exact⟨_,rfl,by(first|exact Left.no (by(try unfold Left at *);(try unfold coreW);omega)|exact Left.ok (by(try unfold Left at *);(try unfold coreW);omega) (by(try unfold Left at *);(try unfold coreW);omega)),(Chg.refl _ _).alloc _⟩;done)
 refine(szCellS_any a.cells _ u3 B _ (by omega) (by omega) g3.out (r3.chg0 (((Chg.refl _ _).alloc _)) hBw) (by simp;omega)).mono ?_;rintro e w1 ⟨r1_,rfl,L1,C1⟩
 have D1:Chg [] w w1:=Chg.trans0 (((Chg.refl _ _).alloc _)) C1
 have bd1:=L1.bd (by omega)
 have s1:w.heap.size<w1.heap.size:=by have:=C1.size;simp at this;omega
 obtain⟨y1,_,_⟩:=C1.cells
 go_wp2_with fail
 all_goals
  go_ret
  exact⟨_,rfl,by(first|exact Left.no (by(try unfold Left at *);(try unfold coreW);omega)|exact Left.ok (by(try unfold Left at *);(try unfold coreW);omega) (by(try unfold Left at *);(try unfold coreW);omega)),D1⟩

theorem toCore_el (a:CoreT) (u3:Value) (B:Nat) (w:World) (hW:coreW a<=1048576) (r3:Rd w B (cells a.cells) u3) (hBw:B<=w.heap.size):
  Calls Tryz.prog 77 #[.agg #[.string a.kind,.bool a.on,.bool a.broken,u3,.int .i64 a.count]] w (fun e w'=>∃A3 cap3,e= .returned (.agg #[.string a.kind,.bool a.on,.bool a.broken,.slice A3 a.cells.length cap3,.int .i64 a.count])/\NewL w w' (coreF a) [.string a.kind,.bool a.on,.bool a.broken,.slice A3 a.cells.length cap3,.int .i64 a.count]):=by
 unfold coreW at hW
 go_enter Tryz.func77,Tryz.ntmps77
 go_wp2_with fail
 refine(toCellS_any a.cells u3 B _ (by omega) (r3.chg0 Chg.now hBw) (by simp;omega)).mono ?_;intro e w1 G1;obtain⟨A3,cap3,rfl,n1⟩:=G1.sl
 obtain⟨y1,z1,s1⟩:=n1.chg.cells
 have d1:Chg [] w w1:=Chg.trans0 Chg.now n1.chg
 have t1:w.heap.size+1+1<w1.heap.size:=by simp at s1;omega
 have t1':w.heap.size+1<w1.heap.size:=by omega
 have t1'':w.heap.size<w1.heap.size:=by omega
 go_wp2_with fail
 refine bodyPost_ret (v:=.agg #[.string a.kind,.bool a.on,.bool a.broken,.slice A3 a.cells.length cap3,.int .i64 a.count]) (by simp only [results,Tryz.results77];go_simp) rfl ⟨_,_,rfl,?_⟩
 rw [coreF]
 refine NewT.start (T:=[w.heap.size+1,w.heap.size+1+1]) ?_ (by intro x hx;simp at hx;omega)
 refine NewT.cons_v ?_
 refine NewT.cons_v ?_
 refine NewT.cons_v ?_
 refine NewT.cons_new n1 (by intro x hx;simp at hx ⊢;omega) Chg.now (Chg.refl _ _) ?_
 refine NewT.cons_v ?_
 refine NewT.nil ?_
 repeat(first|with_reducible exact Chg.refl _ _|with_reducible refine Chg.drew ?_|with_reducible refine Chg.alloc ?_ _|with_reducible refine Chg.setCell ?_ (.inl (by simp)) _)

theorem eqCore_el (a:CoreT) (u3 v3:Value) (B B':Nat) (w:World) (r3:Rd w B (cells a.cells) u3) (s3:Rd w B' (cells a.cells) v3) (hBw:B<=w.heap.size) (hBw':B'<=w.heap.size):
  Calls Tryz.prog 90 #[.agg #[.string a.kind,.bool a.on,.bool a.broken,u3,.int .i64 a.count],.agg #[.string a.kind,.bool a.on,.bool a.broken,v3,.int .i64 a.count]] w fun e w'=>e= .returned (.bool true)/\Chg [] w w':=by
 go_enter Tryz.func90,Tryz.ntmps90
 go_wp2_with fail
 refine(eqCellS_same a.cells u3 v3 B B' _ (r3.chg0 (((Chg.refl _ _).alloc _).alloc _) hBw) (s3.chg0 (((Chg.refl _ _).alloc _).alloc _) hBw') (by simp;omega) (by simp;omega)).mono ?_;rintro e w1 ⟨rfl,c1⟩
 obtain⟨y1,_,z1⟩:=c1.cells
 have d1:Chg [] w w1:=Chg.trans0 (((Chg.refl _ _).alloc _).alloc _) c1
 have t1:w.heap.size+1<w1.heap.size:=by simp at z1;omega
 have t1':w.heap.size<w1.heap.size:=by omega
 go_wp2_with fail
 go_ret
 exact⟨rfl,d1⟩

structure PartT where
 core:CoreT
 layers:List LayerT
def partF (a:PartT):List Dat:=coreF a.core++ [layers a.layers]
theorem partF_eq (a:PartT):partF a=[.v (.string a.core.kind),.v (.bool a.core.on),.v (.bool a.core.broken),cells a.core.cells,.v (.int .i64 a.core.count),layers a.layers]:=rfl
theorem partF_len (a:PartT):(partF a).length=6:=rfl
def parts (l:List PartT):Dat:=.s l.length (l.flatMap partF)
def partW (a:PartT):Nat:=coreW a.core+layersW a.layers
theorem szPart_el (a:PartT) (left:Int) (u3 u5:Value) (B:Nat) (w:World) (h0:0<=left) (hl:left<=1048576) (hf:FitL (partF a)) (r3:Rd w B (cells a.core.cells) u3) (r5:Rd w B (layers a.layers) u5) (hBw:B<=w.heap.size):
  Calls Tryz.prog 39 #[.agg #[.string a.core.kind,.bool a.core.on,.bool a.core.broken,u3,.int .i64 a.core.count,u5],.int .i64 left] w (SzPost left (partW a) w):=by
 simp only [partF,FitL_append] at hf
 obtain⟨f0,f1⟩:=hf
 have g0:=hid f0;clear f0
 have g1:=hid f1;clear f1
 go_enter Tryz.func39,Tryz.ntmps39
 go_wp2_with fail
 all_goals try(go_ret;exact⟨_,rfl,by(first|exact Left.no (by(try unfold Left at *);(try unfold partW);omega)|exact Left.ok (by(try unfold Left at *);(try unfold partW);omega) (by(try unfold Left at *);(try unfold partW);omega)),(Chg.refl _ _).alloc _⟩;done)
 refine(szCore_el a.core _ u3 B _ (by omega) (by omega) g0.out (r3.chg0 (((Chg.refl _ _).alloc _)) hBw) (by simp;omega)).mono ?_;rintro e w1 ⟨r1_,rfl,L1,C1⟩
 have D1:Chg [] w w1:=Chg.trans0 (((Chg.refl _ _).alloc _)) C1
 have bd1:=L1.bd (by omega)
 have s1:w.heap.size<w1.heap.size:=by have:=C1.size;simp at this;omega
 obtain⟨y1,_,_⟩:=C1.cells
 go_wp2_with fail
 all_goals try(go_ret;exact⟨_,rfl,by(first|exact Left.no (by(try unfold Left at *);(try unfold partW);omega)|exact Left.ok (by(try unfold Left at *);(try unfold partW);omega) (by(try unfold Left at *);(try unfold partW);omega)),D1⟩;done)
 refine(szLayerS_any a.layers _ u5 B _ (by omega) (by omega) g1.out (r5.chg0 (D1) hBw) (by have:=D1.size;omega)).mono ?_;rintro e w2 ⟨r2_,rfl,L2,C2⟩
 have D2:Chg [] w w2:=Chg.trans0 (D1) C2
 have bd2:=L2.bd (by omega)
 have s2:w.heap.size<w2.heap.size:=by have:=C2.size;omega
 obtain⟨y2,_,_⟩:=C2.cells
 go_wp2_with fail
 all_goals
  go_ret
  exact⟨_,rfl,by(first|exact Left.no (by(try unfold Left at *);(try unfold partW);omega)|exact Left.ok (by(try unfold Left at *);(try unfold partW);omega) (by(try unfold Left at *);(try unfold partW);omega)),D2⟩

theorem toPart_el (a:PartT) (u3 u5:Value) (B:Nat) (w:World) (hW:partW a<=1048576) (r3:Rd w B (cells a.core.cells) u3) (r5:Rd w B (layers a.layers) u5) (hBw:B<=w.heap.size):
  Calls Tryz.prog 50 #[.agg #[.string a.core.kind,.bool a.core.on,.bool a.core.broken,u3,.int .i64 a.core.count,u5]] w (fun e w'=>∃A3 cap3 A5 cap5,e= .returned (.agg #[.string a.core.kind,.bool a.core.on,.bool a.core.broken,.slice A3 a.core.cells.length cap3,.int .i64 a.core.count,.slice A5 a.layers.length cap5])/\NewL w w' (partF a) [.string a.core.kind,.bool a.core.on,.bool a.core.broken,.slice A3 a.core.cells.length cap3,.int .i64 a.core.count,.slice A5 a.layers.length cap5]):=by
 unfold partW at hW
 go_enter Tryz.func50,Tryz.ntmps50
 go_wp2_with fail
 refine(toCore_el a.core u3 B _ (by omega) (r3.chg0 Chg.now hBw) (by simp;omega)).mono ?_;rintro e w1 ⟨A3,cap3,rfl,n1⟩
 obtain⟨y1,z1,s1⟩:=n1.chg.cells
 have d1:Chg [] w w1:=Chg.trans0 Chg.now n1.chg
 have t1:w.heap.size+1+1<w1.heap.size:=by simp at s1;omega
 have t1':w.heap.size+1<w1.heap.size:=by omega
 have t1'':w.heap.size<w1.heap.size:=by omega
 go_wp2_with fail
 refine(toLayerS_any a.layers u5 B _ (by omega) (r5.chg0 (Chg.to d1) hBw) (by simp;omega)).mono ?_;intro e w2 G2;obtain⟨A5,cap5,rfl,n2⟩:=G2.sl
 obtain⟨y2,z2,s2⟩:=n2.chg.cells
 have d2:Chg [] w w2:=Chg.trans0 (Chg.to d1) n2.chg
 have t2:w.heap.size+1+1<w2.heap.size:=by simp at s2;omega
 have t2':w.heap.size+1<w2.heap.size:=by omega
 have t2'':w.heap.size<w2.heap.size:=by omega
 go_wp2_with fail
 refine bodyPost_ret (v:=.agg #[.string a.core.kind,.bool a.core.on,.bool a.core.broken,.slice A3 a.core.cells.length cap3,.int .i64 a.core.count,.slice A5 a.layers.length cap5]) (by simp only [results,Tryz.results50];go_simp) rfl ⟨_,_,_,_,rfl,?_⟩
 rw [partF]
 refine NewT.start (T:=[w.heap.size+1,w.heap.size+1+1]) ?_ (by intro x hx;simp at hx;omega)
 refine NewT.app_new n1 (by intro x hx;simp at hx ⊢;omega) Chg.now (Chg.refl _ _) ?_
 refine NewT.cons_new n2 (by intro x hx;simp at hx ⊢;omega) Chg.now (Chg.refl _ _) ?_
 refine NewT.nil ?_
 repeat(first|with_reducible exact Chg.refl _ _|with_reducible refine Chg.drew ?_|with_reducible refine Chg.alloc ?_ _|with_reducible refine Chg.setCell ?_ (.inl (by simp)) _)

theorem eqPart_el (a:PartT) (u3 u5 v3 v5:Value) (B B':Nat) (w:World) (r3:Rd w B (cells a.core.cells) u3) (r5:Rd w B (layers a.layers) u5) (s3:Rd w B' (cells a.core.cells) v3) (s5:Rd w B' (layers a.layers) v5) (hBw:B<=w.heap.size) (hBw':B'<=w.heap.size):
  Calls Tryz.prog 59 #[.agg #[.string a.core.kind,.bool a.core.on,.bool a.core.broken,u3,.int .i64 a.core.count,u5],.agg #[.string a.core.kind,.bool a.core.on,.bool a.core.broken,v3,.int .i64 a.core.count,v5]] w fun e w'=>e= .returned (.bool true)/\Chg [] w w':=by
 go_enter Tryz.func59,Tryz.ntmps59
 go_wp2_with fail
 refine(eqCore_el a.core u3 v3 B B' _ (r3.chg0 (((Chg.refl _ _).alloc _).alloc _) hBw) (s3.chg0 (((Chg.refl _ _).alloc _).alloc _) hBw') (by simp;omega) (by simp;omega)).mono ?_;rintro e w1 ⟨rfl,c1⟩
 obtain⟨y1,_,z1⟩:=c1.cells
 have d1:Chg [] w w1:=Chg.trans0 (((Chg.refl _ _).alloc _).alloc _) c1
 have t1:w.heap.size+1<w1.heap.size:=by simp at z1;omega
 have t1':w.heap.size<w1.heap.size:=by omega
 go_wp2_with fail
 refine(eqLayerS_same a.layers u5 v5 B B' _ (r5.chg0 (d1) hBw) (s5.chg0 (d1) hBw') (by have:=d1.size;omega) (by have:=d1.size;omega)).mono ?_;rintro e w2 ⟨rfl,c2⟩
 obtain⟨y2,_,z2⟩:=c2.cells
 have d2:Chg [] w w2:=Chg.trans0 (d1) c2
 have t2:w.heap.size+1<w2.heap.size:=by omega
 have t2':w.heap.size<w2.heap.size:=by omega
 go_wp2_with fail
 go_ret
 exact⟨rfl,d2⟩

structure SlotT where
 full:Bool
 part:PartT
def slotF (a:SlotT):List Dat:=[.v (.bool a.full)] ++partF a.part
theorem slotF_eq (a:SlotT):slotF a=[.v (.bool a.full),.v (.string a.part.core.kind),.v (.bool a.part.core.on),.v (.bool a.part.core.broken),cells a.part.core.cells,.v (.int .i64 a.part.core.count),layers a.part.layers]:=rfl
theorem slotF_len (a:SlotT):(slotF a).length=7:=rfl
def slots (l:List SlotT):Dat:=.s l.length (l.flatMap slotF)
theorem slots_row {w:World} {B:Nat} {l:List SlotT} {u:Value} (h:Rd w B (slots l) u):∃A cap,u= .slice A l.length cap/\l.length<=cap/\cap<=maxLen/\RowAt w B slotF 7 l A:=h.row slotF_len (by omega)
theorem slots_cells {w:World} {B:Nat} {l:List SlotT} {A:Option Addr} (h:RowAt w B slotF 7 l A) (k:Nat) (hk:k<l.length):∃b off u4 u6,A=some ⟨b,off,none⟩/\b<B/\w.cell? ⟨b,off+k * 7,none⟩=some (.bool (l[k].full))/\w.cell? ⟨b,off+k * 7+1,none⟩=some (.string (l[k].part.core.kind))/\w.cell? ⟨b,off+k * 7+2,none⟩=some (.bool (l[k].part.core.on))/\w.cell? ⟨b,off+k * 7+3,none⟩=some (.bool (l[k].part.core.broken))/\w.cell? ⟨b,off+k * 7+4,none⟩=some u4/\w.cell? ⟨b,off+k * 7+5,none⟩=some (.int .i64 (l[k].part.core.count))/\w.cell? ⟨b,off+k * 7+6,none⟩=some u6/\Rd w B (cells (l[k].part.core.cells)) u4/\Rd w B (layers (l[k].part.layers)) u6:=by
 obtain⟨b,off,e,hb,hx⟩:=h k hk
 rw [slotF_eq] at hx
 obtain⟨v0,e0,d0⟩:=hx 0 _ rfl
 obtain⟨v1,e1,d1⟩:=hx 1 _ rfl
 obtain⟨v2,e2,d2⟩:=hx 2 _ rfl
 obtain⟨v3,e3,d3⟩:=hx 3 _ rfl
 obtain⟨v4,e4,d4⟩:=hx 4 _ rfl
 obtain⟨v5,e5,d5⟩:=hx 5 _ rfl
 obtain⟨v6,e6,d6⟩:=hx 6 _ rfl
 rw [Rd] at d0 d1 d2 d3 d5
 subst d0 d1 d2 d3 d5
 exact⟨b,off,v4,v6,e,hb,by simpa using e0,e1,e2,e3,e4,e5,e6,d4,d6⟩

def slotW (a:SlotT):Nat:=partW a.part
def slotsW1 (l:List SlotT):Nat:=(l.map slotW).sum
def slotsW (l:List SlotT):Nat:=l.length+slotsW1 l
theorem slotsW_mem {l:List SlotT} {a:SlotT} (h:a∈l):slotW a<=slotsW1 l:=sum_mem slotW h
def slotN (a:SlotT):Nat:=5+cellsN a.part.core.cells+layersN a.part.layers
def slotM (a:SlotT) (k:Int):SlotT:=⟨((k) % 3==0),⟨⟨(mt (k+1)),((k+1+1) % 3==0),((k+1+1+1) % 3==0),(cellsM a.part.core.cells (k+1+1+1+1)),(k+1+1+1+1+cellsN a.part.core.cells)⟩,(layersM a.part.layers (k+1+1+1+1+cellsN a.part.core.cells+1))⟩⟩
def slotsN (l:List SlotT):Nat:=(l.map slotN).sum
def slotsM (l:List SlotT) (k:Int):List SlotT:=mapK slotM slotN l k
theorem slot_info:(Tryz.prog.info? 71).map (fun i=>(i.zero,i.size,i.bytes))=some (some (.agg #[.bool false,.string ⟨#[]⟩,.bool false,.bool false,.slice none 0 0,.int .i64 0,.slice none 0 0]),7,88):=by kernel_rfl
theorem szSlot_el (a:SlotT) (left:Int) (u4 u6:Value) (B:Nat) (w:World) (h0:0<=left) (hl:left<=1048576) (hf:FitL (slotF a)) (r4:Rd w B (cells a.part.core.cells) u4) (r6:Rd w B (layers a.part.layers) u6) (hBw:B<=w.heap.size):
  Calls Tryz.prog 19 #[.agg #[.bool a.full,.string a.part.core.kind,.bool a.part.core.on,.bool a.part.core.broken,u4,.int .i64 a.part.core.count,u6],.int .i64 left] w (SzPost left (slotW a) w):=by
 simp only [slotF,FitL_append] at hf
 obtain⟨f0,f1⟩:=hf
 simp only [FitL,FitD,FitV,and_true] at f0
 have g1:=hid f1;clear f1
 go_enter Tryz.func19,Tryz.ntmps19
 go_wp2_with fail
 all_goals try(go_ret;exact⟨_,rfl,by(first|exact Left.no (by(try unfold Left at *);(try unfold slotW);omega)|exact Left.ok (by(try unfold Left at *);(try unfold slotW);omega) (by(try unfold Left at *);(try unfold slotW);omega)),(Chg.refl _ _).alloc _⟩;done)
 refine(szPart_el a.part _ u4 u6 B _ (by omega) (by omega) g1.out (r4.chg0 (((Chg.refl _ _).alloc _)) hBw) (r6.chg0 (((Chg.refl _ _).alloc _)) hBw) (by simp;omega)).mono ?_;rintro e w1 ⟨r1_,rfl,L1,C1⟩
 have D1:Chg [] w w1:=Chg.trans0 (((Chg.refl _ _).alloc _)) C1
 have bd1:=L1.bd (by omega)
 have s1:w.heap.size<w1.heap.size:=by have:=C1.size;simp at this;omega
 obtain⟨y1,_,_⟩:=C1.cells
 go_wp2_with fail
 all_goals
  go_ret
  exact⟨_,rfl,by(first|exact Left.no (by(try unfold Left at *);(try unfold slotW);omega)|exact Left.ok (by(try unfold Left at *);(try unfold slotW);omega) (by(try unfold Left at *);(try unfold slotW);omega)),D1⟩

theorem szSlotS_any (l:List SlotT) (left:Int) (u:Value) (B:Nat) (w:World) (h0:0<=left) (hl:left<=1048576) (hf:FitL [slots l]) (hr:Rd w B (slots l) u) (hBw:B<=w.heap.size):
  Calls Tryz.prog 4 #[u,.int .i64 left] w (SzPost left (slotsW l) w):=by
 obtain⟨A,cap,rfl,h1,h2,hrow⟩:=slots_row hr
 unfold maxLen at h2
 have HF:=hid hf
 clear hr hf
 go_enter Tryz.func4,Tryz.ntmps4
 go_wp2_with fail
 ·go_ret
  exact⟨_,rfl,Left.no (by unfold slotsW;omega),Chg.refl _ _⟩
 go_loopw [1,5] (fun r i wr=>∃(k:Nat) (x:Int),k<=l.length/\i= .int .i64 k/\r= .int .i64 x/\Chg [] w wr/\0<=x/\x<=left/\Hid (x=left-l.length-slotsW1 (l.take k))) (fun _ i _=>l.length-(intOf i).toNat)
 case atStart=>exact⟨0,_,Nat.zero_le _,rfl,rfl,Chg.refl _ _,by omega,by omega,by simp [slotsW1,Hid]⟩
 case round=>
  obtain⟨k,x,hk,rfl,rfl,hc,hx0,hxl,HX⟩:=hrel
  by_cases hlt:k<l.length
  ·obtain⟨b,off,u4,u6,rfl,hb,q0,q1,q2,q3,q4,q5,q6,r4,r6⟩:=slots_cells (hrow.chg0 hc hBw) k hlt
   have hsz:Hid (slotsW1 (l.take (k+1))=slotsW1 (l.take k)+slotW l[k] /\slotsW1 (l.take (k+1))<=slotsW1 l):=⟨sum_take slotW l k hlt,sum_le slotW l (k+1)⟩
   have hfk:=hid (FitL_flatMap.1 (FitL_slice HF.out) _ (List.getElem_mem hlt))
   go_wp2_with fail
   refine(szSlot_el l[k] _ u4 u6 B _ (by omega) (by omega) hfk.out r4 r6 (by have:=hc.size;omega)).mono ?_
   rintro e w1 ⟨r1_,rfl,L1,C1⟩
   have D1:Chg [] w w1:=hc.trans0 C1
   have bd1:=L1.bd (by omega)
   go_wp2_with fail
   ·go_ret
    refine⟨_,rfl,Left.no ?_,D1⟩
    have:=HX.out;have:=hsz.out
    simp only [Left] at L1
    unfold slotsW
    omega
   ·go_roundw
    case rel=>
     refine⟨k+1,r1_,by omega,by go_num,rfl,D1,by omega,by omega,?_⟩
     have:=HX.out;have:=hsz.out
     simp only [Left] at L1
     show r1_=_
     omega
    case measure=>simp [intOf];omega
  ·go_wp2_with fail
   go_ret
   obtain rfl:k=l.length:=by omega
   have h5:=HX.out
   rw [List.take_length] at h5
   exact⟨_,rfl,Left.ok (by unfold slotsW;omega) (by unfold slotsW;omega),hc⟩

theorem toSlot_el (a:SlotT) (u4 u6:Value) (B:Nat) (w:World) (hW:slotW a<=1048576) (r4:Rd w B (cells a.part.core.cells) u4) (r6:Rd w B (layers a.part.layers) u6) (hBw:B<=w.heap.size):
  Calls Tryz.prog 26 #[.agg #[.bool a.full,.string a.part.core.kind,.bool a.part.core.on,.bool a.part.core.broken,u4,.int .i64 a.part.core.count,u6]] w (fun e w'=>∃A4 cap4 A6 cap6,e= .returned (.agg #[.bool a.full,.string a.part.core.kind,.bool a.part.core.on,.bool a.part.core.broken,.slice A4 a.part.core.cells.length cap4,.int .i64 a.part.core.count,.slice A6 a.part.layers.length cap6])/\NewL w w' (slotF a) [.bool a.full,.string a.part.core.kind,.bool a.part.core.on,.bool a.part.core.broken,.slice A4 a.part.core.cells.length cap4,.int .i64 a.part.core.count,.slice A6 a.part.layers.length cap6]):=by
 unfold slotW at hW
 go_enter Tryz.func26,Tryz.ntmps26
 go_wp2_with fail
 refine(toPart_el a.part u4 u6 B _ (by omega) (r4.chg0 Chg.now hBw) (r6.chg0 Chg.now hBw) (by simp;omega)).mono ?_;rintro e w1 ⟨A4,cap4,A6,cap6,rfl,n1⟩
 obtain⟨y1,z1,s1⟩:=n1.chg.cells
 have d1:Chg [] w w1:=Chg.trans0 Chg.now n1.chg
 have t1:w.heap.size+1+1<w1.heap.size:=by simp at s1;omega
 have t1':w.heap.size+1<w1.heap.size:=by omega
 have t1'':w.heap.size<w1.heap.size:=by omega
 go_wp2_with fail
 refine bodyPost_ret (v:=.agg #[.bool a.full,.string a.part.core.kind,.bool a.part.core.on,.bool a.part.core.broken,.slice A4 a.part.core.cells.length cap4,.int .i64 a.part.core.count,.slice A6 a.part.layers.length cap6]) (by simp only [results,Tryz.results26];go_simp) rfl ⟨_,_,_,_,rfl,?_⟩
 rw [slotF]
 refine NewT.start (T:=[w.heap.size+1,w.heap.size+1+1]) ?_ (by intro x hx;simp at hx;omega)
 refine NewT.cons_v ?_
 refine NewT.last_new n1 (by intro x hx;simp at hx ⊢;omega) Chg.now ?_
 repeat(first|with_reducible exact Chg.refl _ _|with_reducible refine Chg.drew ?_|with_reducible refine Chg.alloc ?_ _|with_reducible refine Chg.setCell ?_ (.inl (by simp)) _)

def slotZ:List Dat:=[.v (.bool false),.v (.string ⟨#[]⟩),.v (.bool false),.v (.bool false),.s 0 [],.v (.int .i64 0),.s 0 []]
theorem slotZ_own (w:World):OwnL w slotZ [.bool false,.string ⟨#[]⟩,.bool false,.bool false,.slice none 0 0,.int .i64 0,.slice none 0 0] []:=by
 have h:HasL w slotZ [.bool false,.string ⟨#[]⟩,.bool false,.bool false,.slice none 0 0,.int .i64 0,.slice none 0 0] []:=by
  unfold slotZ
  repeat(first|with_reducible exact HasL.nil _|with_reducible refine HasL.cons_v ?_|with_reducible refine HasL.cons_nil ?_)
 exact h.1
theorem toSlotS_any (l:List SlotT) (u:Value) (B:Nat) (w:World) (hl:slotsW l<=1048576) (hr:Rd w B (slots l) u) (hB:B<=w.heap.size):
  Calls Tryz.prog 7 #[u] w (Gives (slots l) w):=by
 have hll:l.length<=1048576:=by unfold slotsW at hl;omega
 obtain⟨A,cap,rfl,h0,h1,hrow⟩:=slots_row hr
 have hmk:=fun W=>run_make_rowN (P:=Tryz.prog) 29 71 _ 7 88 Tryz.underlying29 slot_info .i64 .i64 l.length l.length (Nat.le_refl _) (by omega) (by omega) W
 unfold maxLen at h1
 clear hr
 go_enter Tryz.func7,Tryz.ntmps7
 go_wp2_with fail
 go_loopw [4] (fun i wr=>∃k:Nat,k<=l.length/\i= .int .i64 k/\New w wr (.s l.length (filled slotF slotZ l k)) (.slice (some ⟨w.heap.size,0,none⟩) l.length l.length)) (fun i _=>l.length-(intOf i).toNat)
 case atStart=>exact⟨0,Nat.zero_le _,rfl,New.make w 71 _ 7 rfl (by omega) slotZ slotZ_own slotF l l.length rfl (by unfold maxLen;omega)⟩
 case round=>
  obtain⟨k,hk,rfl,hh⟩:=hrel
  by_cases hlt:k<l.length
  ·obtain⟨b,off,u4,u6,rfl,hb,q0,q1,q2,q3,q4,q5,q6,r4,r6⟩:=slots_cells (hrow.chg0 hh.chg hB) k hlt
   have hwt:=slotsW_mem (List.getElem_mem hlt)
   go_wp2_with fail
   refine(toSlot_el l[k] u4 u6 B _ (by unfold slotsW at hl;omega) r4 r6 (by have:=hh.chg.size;omega)).mono ?_;rintro e w1 ⟨A4,cap4,A6,cap6,rfl,n1⟩
   have hset:=hh.fill slotF_len rfl hlt n1
   have hh1:=hh.later n1.chg
   obtain⟨rm0,x0,rc0⟩:=hh1.room (j:=k * 7) (by rw [filled_length slotF_len rfl _ _ hk];omega)
   obtain⟨rm1,x1,rc1⟩:=hh1.room (j:=k * 7+1) (by rw [filled_length slotF_len rfl _ _ hk];omega)
   obtain⟨rm2,x2,rc2⟩:=hh1.room (j:=k * 7+2) (by rw [filled_length slotF_len rfl _ _ hk];omega)
   obtain⟨rm3,x3,rc3⟩:=hh1.room (j:=k * 7+3) (by rw [filled_length slotF_len rfl _ _ hk];omega)
   obtain⟨rm4,x4,rc4⟩:=hh1.room (j:=k * 7+4) (by rw [filled_length slotF_len rfl _ _ hk];omega)
   obtain⟨rm5,x5,rc5⟩:=hh1.room (j:=k * 7+5) (by rw [filled_length slotF_len rfl _ _ hk];omega)
   obtain⟨rm6,x6,rc6⟩:=hh1.room (j:=k * 7+6) (by rw [filled_length slotF_len rfl _ _ hk];omega)
   go_wp2_with fail
   go_roundw
   case rel=>exact⟨k+1,by omega,by go_num,hset⟩
   case measure=>simp [intOf];omega
  ·obtain rfl:k=l.length:=by omega
   rw [filled_all] at hh
   go_wp2_with fail
   go_ret
   exact⟨_,rfl,hh⟩

theorem eqSlot_el (a:SlotT) (u4 u6 v4 v6:Value) (B B':Nat) (w:World) (r4:Rd w B (cells a.part.core.cells) u4) (r6:Rd w B (layers a.part.layers) u6) (s4:Rd w B' (cells a.part.core.cells) v4) (s6:Rd w B' (layers a.part.layers) v6) (hBw:B<=w.heap.size) (hBw':B'<=w.heap.size):
  Calls Tryz.prog 32 #[.agg #[.bool a.full,.string a.part.core.kind,.bool a.part.core.on,.bool a.part.core.broken,u4,.int .i64 a.part.core.count,u6],.agg #[.bool a.full,.string a.part.core.kind,.bool a.part.core.on,.bool a.part.core.broken,v4,.int .i64 a.part.core.count,v6]] w fun e w'=>e= .returned (.bool true)/\Chg [] w w':=by
 go_enter Tryz.func32,Tryz.ntmps32
 go_wp2_with fail
 refine(eqPart_el a.part u4 u6 v4 v6 B B' _ (r4.chg0 (((Chg.refl _ _).alloc _).alloc _) hBw) (r6.chg0 (((Chg.refl _ _).alloc _).alloc _) hBw) (s4.chg0 (((Chg.refl _ _).alloc _).alloc _) hBw') (s6.chg0 (((Chg.refl _ _).alloc _).alloc _) hBw') (by simp;omega) (by simp;omega)).mono ?_;rintro e w1 ⟨rfl,c1⟩
 obtain⟨y1,_,z1⟩:=c1.cells
 have d1:Chg [] w w1:=Chg.trans0 (((Chg.refl _ _).alloc _).alloc _) c1
 have t1:w.heap.size+1<w1.heap.size:=by simp at z1;omega
 have t1':w.heap.size<w1.heap.size:=by omega
 go_wp2_with fail
 go_ret
 exact⟨rfl,d1⟩

theorem eqSlotS_same (l:List SlotT) (u v:Value) (B B':Nat) (w:World) (hr:Rd w B (slots l) u) (hs:Rd w B' (slots l) v) (hB:B<=w.heap.size) (hB':B'<=w.heap.size):
  Calls Tryz.prog 12 #[u,v] w fun e w'=>e= .returned (.bool true)/\Chg [] w w':=by
 obtain⟨A,cap,rfl,h0,h1,hrow⟩:=slots_row hr
 obtain⟨A',cap',rfl,h0',h1',hrow'⟩:=slots_row hs
 unfold maxLen at h1 h1'
 clear hr hs
 go_enter Tryz.func12,Tryz.ntmps12
 go_wp2_with fail
 go_loopw [5] (fun i wr=>∃k:Nat,k<=l.length/\i= .int .i64 k/\Chg [] w wr) (fun i _=>l.length-(intOf i).toNat)
 case atStart=>exact⟨0,Nat.zero_le _,rfl,Chg.refl _ _⟩
 case round=>
  obtain⟨k,hk,rfl,hc⟩:=hrel
  by_cases hlt:k<l.length
  ·obtain⟨b,off,u4,u6,rfl,hb,q0,q1,q2,q3,q4,q5,q6,r4,r6⟩:=slots_cells (hrow.chg0 hc hB) k hlt
   obtain⟨b',off',v4,v6,rfl,hb',p0,p1,p2,p3,p4,p5,p6,s4,s6⟩:=slots_cells (hrow'.chg0 hc hB') k hlt
   have el:=fun W (hW:Chg [] wr W)=>eqSlot_el l[k] u4 u6 v4 v6 B B' W (r4.chg0 hW (by have:=hc.size;omega)) (r6.chg0 hW (by have:=hc.size;omega)) (s4.chg0 hW (by have:=hc.size;omega)) (s6.chg0 hW (by have:=hc.size;omega)) (by have:=hc.size;have:=hW.size;omega) (by have:=hc.size;have:=hW.size;omega)
   have EL:=hid el
   clear el
   go_wp2_with fail
   go_still_tail 8,(by kernel_rfl)
   change wpList _ _ _ _ _ wr.drew
   go_wp2_with fail
   refine(EL.out _ ((Chg.refl _ _).drew)).mono ?_;rintro e w1 ⟨rfl,c1⟩
   go_wp2_with fail
   go_roundw
   case rel=>exact⟨k+1,by omega,by go_num,hc.drew.trans0 c1⟩
   case measure=>simp [intOf];omega
  ·obtain rfl:k=l.length:=by omega
   go_wp2_with fail
   go_ret
   exact⟨rfl,hc⟩

theorem markSlotS_any (l:List SlotT) (u:Value) (S:List Nat) (k0:Int) (w:World) (hk0:0<=k0) (hkb:k0+slotsN l<=100000000) (hh:Has w (slots l) u S):
  Calls Tryz.prog 15 #[u,.int .i64 k0] w fun e w'=>e= .returned (.int .i64 (k0+slotsN l))/\Has w' (slots (slotsM l k0)) u S/\Chg S w w':=by
 obtain⟨A,cap,rfl,h0,h1,_⟩:=hh.rd.at_
 unfold maxLen at h1
 go_enter Tryz.func15,Tryz.ntmps15
 go_wp2_with fail
 go_loopw [1,5] (fun r i wr=>∃(i':Nat) (k:Int),i'<=l.length/\i= .int .i64 i'/\r= .int .i64 k/\0<=k/\k<=100000000/\Hid (k=k0+((l.take i').map slotN).sum)/\Has wr (.s l.length ((mapK slotM slotN (l.take i') k0++l.drop i').flatMap slotF)) (.slice A l.length cap) S/\Chg S w wr) (fun _ i _=>l.length-(intOf i).toNat)
 case atStart=>exact⟨0,k0,Nat.zero_le _,rfl,rfl,hk0,by omega,by simp [Hid],by simp only [List.take_zero,mapK,List.nil_append,List.drop_zero];exact hh,Chg.refl _ _⟩
 case round=>
  obtain⟨i,k,hi,rfl,rfl,hk1,hk2,hkq,H0,hc⟩:=hrel
  by_cases hlt:i<l.length
  ·obtain⟨g,rfl,hgS⟩:=H0.own (by omega)
   have hn1:k+slotN l[i] <=100000000:=by
    have:=sum_take slotN l i hlt;have:=sum_le slotN l (i+1);have:=hkq.out;unfold slotsN at hkb;omega
   unfold slotN at hn1
   rw [marking_at l k0 i hlt,slotF_eq] at H0
   have hX:=marking_X (M:=slotM) (N:=slotN) slotF_len l k0 i hlt
   obtain⟨rf0_0,rx0_0,rc0_0⟩:=H0.room0 hX (by simp)
   have P0:=(H0.set0 hX rfl (.bool (k % 3==0)))
   go_wp2_with fail
   refine(markText_any _ _ (by omega)).mono ?_;rintro e w1 ⟨rfl,c1⟩
   have H1:=P0.keep0 c1
   have D1:Chg S w w1:=Chg.trans0 (Chg.to hc) c1
   obtain⟨rf1_1,rx1_1,rc1_1⟩:=H1.roomAt hX 1 (by simp)
   obtain⟨rf1_2,rx1_2,rc1_2⟩:=H1.roomAt hX 2 (by simp)
   obtain⟨rf1_3,rx1_3,rc1_3⟩:=H1.roomAt hX 3 (by simp)
   obtain⟨u4,_,q4,_,_,_⟩:=H1.subAt hX (j:=4) rfl
   have P1:=(((H1.setAt hX (j:=1) rfl (.string (mt (k+1)))).setAt hX (j:=2) rfl (.bool ((k+1+1) % 3==0))).setAt hX (j:=3) rfl (.bool ((k+1+1+1) % 3==0)))
   go_wp2_with fail
   obtain⟨S1,hs1,hS1,back1⟩:=P1.subOf hX (j:=4) rfl (u:=u4) (by go_simp)
   refine(markCellS_any l[i].part.core.cells _ _ _ _ (by omega) (by omega) hs1).mono ?_;rintro e w2 ⟨rfl,hm2,c2⟩
   have H2:=back1 _ _ c2 hm2
   have D2:Chg S w w2:=Chg.trans (Chg.to D1) c2 (fun x hx=>.inl (hS1 x hx))
   obtain⟨rf2_5,rx2_5,rc2_5⟩:=H2.roomAt hX 5 (by simp)
   obtain⟨u6,_,q6,_,_,_⟩:=H2.subAt hX (j:=6) rfl
   have P2:=(H2.setAt hX (j:=5) rfl (.int .i64 (k+1+1+1+1+cellsN l[i].part.core.cells)))
   go_wp2_with fail
   obtain⟨S2,hs2,hS2,back2⟩:=P2.subOf hX (j:=6) rfl (u:=u6) (by go_simp)
   refine(markLayerS_any l[i].part.layers _ _ _ _ (by omega) (by omega) hs2).mono ?_;rintro e w3 ⟨rfl,hm3,c3⟩
   have H3:=back2 _ _ c3 hm3
   have D3:Chg S w w3:=Chg.trans (Chg.to D2) c3 (fun x hx=>.inl (hS2 x hx))
   have P3:=H3
   go_wp2_with fail
   go_roundw
   case rel=>
    have e1:((l.take (i+1)).map slotN).sum=((l.take i).map slotN).sum+slotN l[i]:=sum_take slotN l i hlt
    have e2:=hkq.out
    refine⟨i+1,_,by omega,by go_num,rfl,by omega,by omega,?_,?_,?_⟩
    ·show _=_;have e3:slotN l[i]=5+cellsN l[i].part.core.cells+layersN l[i].part.layers:=rfl
     rw [e1,e3];omega
    ·rw [marking_next l k0 i hlt, <-e2];exact P3
    ·repeat(first|with_reducible exact D3|with_reducible refine Chg.drew ?_|with_reducible refine Chg.alloc ?_ _|with_reducible refine Chg.setCell ?_ (.inl hgS) _)
   case measure=>simp [intOf];omega
  ·obtain rfl:i=l.length:=by omega
   go_wp2_with fail
   go_ret
   have h5:=hkq.out
   rw [List.take_length,List.drop_length,List.append_nil] at H0
   rw [List.take_length] at h5
   refine⟨ret_int h5,?_,hc⟩
   show Has _ (.s (mapK slotM slotN l k0).length ((mapK slotM slotN l k0).flatMap slotF)) _ _
   rw [mapK_length]
   exact H0

theorem heldSlotS_any (l:List SlotT) (u:Value) (B:Nat) (k0:Int) (w:World) (hk0:0<=k0) (hkb:k0+slotsN l<=100000000) (hr:Rd w B (slots (slotsM l k0)) u) (hB:B<=w.heap.size):
  Calls Tryz.prog 18 #[u,.int .i64 k0] w fun e w'=>e= .returned (.int .i64 (k0+slotsN l))/\Chg [] w w':=by
 obtain⟨A,cap,rfl,h0,h1,hrow⟩:=slots_row hr
 have hlen:(slotsM l k0).length=l.length:=mapK_length l k0
 rw [hlen] at h0 ⊢
 unfold maxLen at h1
 clear hr
 have HL:=hid hlen
 clear hlen
 go_enter Tryz.func18,Tryz.ntmps18
 go_wp2_with fail
 go_loopw [1,5] (fun r i wr=>∃(i':Nat) (k:Int),i'<=l.length/\i= .int .i64 i'/\r= .int .i64 k/\0<=k/\k<=100000000/\Hid (k=k0+((l.take i').map slotN).sum)/\Chg [] w wr) (fun _ i _=>l.length-(intOf i).toNat)
 case atStart=>exact⟨0,k0,Nat.zero_le _,rfl,rfl,hk0,by omega,by simp [Hid],Chg.refl _ _⟩
 case round=>
  obtain⟨i,k,hi,rfl,rfl,hk1,hk2,hkq,hc⟩:=hrel
  by_cases hlt:i<l.length
  ·have hn1:k+slotN l[i] <=100000000:=by
    have:=sum_take slotN l i hlt;have:=sum_le slotN l (i+1);have:=hkq.out;unfold slotsN at hkb;omega
   unfold slotN at hn1
   have hlt':i<(slotsM l k0).length:=by rw [HL.out];exact hlt
   have hget:(slotsM l k0)[i]=slotM l[i] k:=by rw [hkq.out];exact mapK_get l k0 i hlt hlt'
   obtain⟨b,off,u4,u6,rfl,hb,q0,q1,q2,q3,q4,q5,q6,r4,r6⟩:=slots_cells (hrow.chg0 hc hB) i hlt'
   rw [hget] at q0 q1 q2 q3 q5 r4 r6
   replace q0:wr.cell? ⟨b,off+i * 7,none⟩=some (.bool (k % 3==0)):=q0
   replace q1:wr.cell? ⟨b,off+i * 7+1,none⟩=some (.string (mt (k+1))):=q1
   replace q2:wr.cell? ⟨b,off+i * 7+2,none⟩=some (.bool ((k+1+1) % 3==0)):=q2
   replace q3:wr.cell? ⟨b,off+i * 7+3,none⟩=some (.bool ((k+1+1+1) % 3==0)):=q3
   replace q5:wr.cell? ⟨b,off+i * 7+5,none⟩=some (.int .i64 (k+1+1+1+1+cellsN l[i].part.core.cells)):=q5
   replace r4:Rd wr B (cells (cellsM l[i].part.core.cells (k+1+1+1+1))) u4:=r4
   replace r6:Rd wr B (layers (layersM l[i].part.layers (k+1+1+1+1+cellsN l[i].part.core.cells+1))) u6:=r6
   have hb0:b<wr.heap.size:=by have:=hc.size;omega
   have hB0:B<=wr.heap.size:=by have:=hc.size;omega
   have Q0:=hid q0
   have Q1:=hid q1
   have Q2:=hid q2
   have Q3:=hid q3
   have Q4:=hid q4
   have Q5:=hid q5
   have Q6:=hid q6
   have E0:Chg [] wr wr:=Chg.refl _ _
   clear hget hb hlt' q0 q1 q2 q3 q4 q5 q6
   have p0:=(E0.cell (p:=⟨b,off+i * 7,none⟩) hb0 (by simp)).trans Q0.out
   go_wp2_with fail
   clear p0
   have p1:=(E0.cell (p:=⟨b,off+i * 7+1,none⟩) hb0 (by simp)).trans Q1.out
   go_region_held3 (fun w'=>w'.cell? ⟨b,off+i * 7+1,none⟩=some (.string (mt (k+1)))/\Chg [] wr w') (first|exact⟨p1,E0.drew⟩|exact⟨((E0.drew.trans0 c1).cell (p:=⟨b,off+i * 7+1,none⟩) hb0 (by simp)).trans Q1.out,E0.drew.trans0 c1⟩) ((go_at_call 34;refine(markText_any _ _ (by omega)).mono ?_;rintro e w1 ⟨rfl,c1⟩))
   rename_i hH;obtain⟨_,E1⟩:=hH
   clear p1
   have p2:=(E1.cell (p:=⟨b,off+i * 7+2,none⟩) hb0 (by simp)).trans Q2.out
   have p3:=(E1.cell (p:=⟨b,off+i * 7+3,none⟩) hb0 (by simp)).trans Q3.out
   have p4:=(E1.cell (p:=⟨b,off+i * 7+4,none⟩) hb0 (by simp)).trans Q4.out
   go_wp2_with fail
   clear p2 p3 p4
   refine(heldCellS_any l[i].part.core.cells _ B _ _ (by omega) (by omega) (r4.chg0 E1 hB0) (by have:=E1.size;omega)).mono ?_;rintro e w2 ⟨rfl,c2⟩
   have E2:=E1.trans0 c2
   have p5:=(E2.cell (p:=⟨b,off+i * 7+5,none⟩) hb0 (by simp)).trans Q5.out
   have p6:=(E2.cell (p:=⟨b,off+i * 7+6,none⟩) hb0 (by simp)).trans Q6.out
   go_wp2_with fail
   clear p5 p6
   refine(heldLayerS_any l[i].part.layers _ B _ _ (by omega) (by omega) (r6.chg0 E2 hB0) (by have:=E2.size;omega)).mono ?_;rintro e w3 ⟨rfl,c3⟩
   have E3:=E2.trans0 c3
   go_wp2_with fail
   go_roundw
   case rel=>
    have e1:((l.take (i+1)).map slotN).sum=((l.take i).map slotN).sum+slotN l[i]:=sum_take slotN l i hlt
    have e2:=hkq.out
    have e3:slotN l[i]=5+cellsN l[i].part.core.cells+layersN l[i].part.layers:=rfl
    refine⟨i+1,_,by omega,by go_num,rfl,by omega,by omega,?_,hc.trans0 E3⟩
    show _=_
    rw [e1,e3];omega
   case measure=>simp [intOf];omega
  ·obtain rfl:i=l.length:=by omega
   go_wp2_with fail
   go_ret
   have h5:=hkq.out
   rw [List.take_length] at h5
   exact⟨ret_int h5,hc⟩

end Go.Proofs.YtjigcplpkhpgnaaGreatDoor
