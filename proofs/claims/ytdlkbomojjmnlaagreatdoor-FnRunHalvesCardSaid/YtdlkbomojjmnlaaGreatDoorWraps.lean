/- What Wrap, MakePart, FillSlots answer, in plain Lean. / Copies of cores and parts, of the program and of the reference. Written by a program. / FaceOf, NewCore, NewPart of both packages. Written by a program. / Wrap of both packages. Written by a program. -/
import Derived.Test.YtdlkbomojjmnlaaGreatDoorParts
import Derived.Test.YtdlkbomojjmnlaaGreatDoorApps
import Derived.Deep.RegionLaw
import Derived.OpenShut
set_option maxRecDepth 100000
set_option maxHeartbeats 8000000
namespace Go.Proofs.YtdlkbomojjmnlaaGreatDoor
open Go.RowKit

structure RepT where
 code:Int
 value:Int
 text:ByteArray
 want:Int
 had:Int
def repOf (code value want had:Int):RepT:=⟨code,value,⟨#[]⟩,want,had⟩
open Classical in
noncomputable def wrapOf (p:PartT) (name:ByteArray):PartT×RepT:=
 match layerOf name with
 |none=>(p,repOf 7 0 0 0)
 |some x=>if ¬PartOk p then(p,repOf 7 0 0 0) else if 3<=p.layers.length then(p,repOf 5 0 0 0)
  else if ¬Offer (faceAt p p.layers.length) x.1 then(p,repOf 1 0 x.1 (faceAt p p.layers.length)) else(⟨p.core,p.layers++ [⟨name,0⟩]⟩,repOf 0 x.2 0 0)
theorem wrapOf_none {p:PartT} {name:ByteArray} (h:layerOf name=none):wrapOf p name=(p,repOf 7 0 0 0):=by unfold wrapOf;rw [h]
theorem wrapOf_bad {p:PartT} {name:ByteArray} (h:¬PartOk p):wrapOf p name=(p,repOf 7 0 0 0):=by
 unfold wrapOf
 cases layerOf name with
 |none=>rfl
 |some x=>simp only [h,not_false_eq_true,if_true]
theorem wrapOf_full {p:PartT} {name:ByteArray} {x:Int×Int} (h:layerOf name=some x) (h1:PartOk p) (h2:3<=p.layers.length):wrapOf p name=(p,repOf 5 0 0 0):=by
 unfold wrapOf;rw [h];simp only [h1,h2,not_true_eq_false,if_true,if_false]
theorem wrapOf_lacks {p:PartT} {name:ByteArray} {x:Int×Int} (h:layerOf name=some x) (h1:PartOk p) (h2:¬3<=p.layers.length) (h3:¬Offer (faceAt p p.layers.length) x.1):wrapOf p name=(p,repOf 1 0 x.1 (faceAt p p.layers.length)):=by
 unfold wrapOf;rw [h];simp only [h1,h2,h3,not_true_eq_false,not_false_eq_true,if_true,if_false]
theorem wrapOf_done {p:PartT} {name:ByteArray} {x:Int×Int} (h:layerOf name=some x) (h1:PartOk p) (h2:¬3<=p.layers.length) (h3:Offer (faceAt p p.layers.length) x.1):wrapOf p name=(⟨p.core,p.layers++ [⟨name,0⟩]⟩,repOf 0 x.2 0 0):=by
 unfold wrapOf;rw [h];simp only [h1,h2,h3,not_true_eq_false,if_false]
noncomputable def makeFold:PartT->List ByteArray->PartT×RepT
 |p,[]=>(p,repOf 0 (faceAt p p.layers.length) 0 0)
 |p,n::r=>if(wrapOf p n).2.code=0 then makeFold (wrapOf p n).1 r else(zeroPart,(wrapOf p n).2)
def newPart (kind:ByteArray):PartT:=⟨⟨kind,false,false,[],0⟩,[]⟩
noncomputable def makeOf:List ByteArray->PartT×RepT
 | []=>(zeroPart,repOf 7 0 0 0)
 |k::r=>match kindOf k with
  |none=>(zeroPart,repOf 7 0 0 0)
  |some _=>makeFold (newPart k) r
noncomputable def slotOf:List ByteArray->Option SlotT
 | []=>some ⟨false,zeroPart⟩
 |k::r=>if(makeOf (k::r)).2.code=0 then some ⟨true,(makeOf (k::r)).1⟩ else none
def FillOk (l:List (List ByteArray)):Prop:=l.length=3/\∀x∈l,(slotOf x).isSome=true
noncomputable def fillSl (l:List (List ByteArray)):List SlotT:=l.map fun x=>(slotOf x).getD ⟨false,zeroPart⟩
/-- n blocks side by side stand. -/
def LowN (a b:World):Nat->Nat->Prop
 |0,_=>True
 |m+1,n=>(∀o,b.cell? ⟨n,o,none⟩=a.cell? ⟨n,o,none⟩)/\(∀o,b.frozen? ⟨n,o,none⟩=a.frozen? ⟨n,o,none⟩)/\n<b.heap.size/\LowN a b m (n+1)
theorem Chg.low' {S:List Nat} {a b:World} (h:Chg S a b):∀(m n:Nat),(∀x,x∈S->x<n∨n+m<=x)->n+m<=a.heap.size->LowN a b m n
 |0,_,_,_=>trivial
 |m+1,n,hS,hm=>⟨h.ce n (by omega) (fun hx=>by have:=hS n hx;omega),h.fe n (by omega) (fun hx=>by have:=hS n hx;omega),by have:=h.size;omega,h.low' m (n+1) (fun x hx=>by have:=hS x hx;omega) (by omega)⟩
theorem Chg.low {S:List Nat} {a b:World} (h:Chg S a b) (m n:Nat) (hS:∀x,x∈S->x<n∨n+m<=x) (hm:n+m<=a.heap.size:=by first|omega|(simp;done)|(simp;omega)):LowN a b m n:=h.low' m n hS hm
/-- The first 5 cells of a block. -/
def Cs5 (W:World) (b:Nat) (v0 v1 v2 v3 v4:Value):Prop:=W.cell? ⟨b,0,none⟩=some v0/\W.cell? ⟨b,1,none⟩=some v1/\W.cell? ⟨b,2,none⟩=some v2/\W.cell? ⟨b,3,none⟩=some v3/\W.cell? ⟨b,4,none⟩=some v4
theorem Cs5.of {W V:World} {b:Nat} {v0 v1 v2 v3 v4:Value} (y:∀o,W.cell? ⟨b,o,none⟩=V.cell? ⟨b,o,none⟩)
  (h0:V.cell? ⟨b,0,none⟩=some v0:=by first|go_cell_look|go_simp) (h1:V.cell? ⟨b,1,none⟩=some v1:=by first|go_cell_look|go_simp) (h2:V.cell? ⟨b,2,none⟩=some v2:=by first|go_cell_look|go_simp) (h3:V.cell? ⟨b,3,none⟩=some v3:=by first|go_cell_look|go_simp) (h4:V.cell? ⟨b,4,none⟩=some v4:=by first|go_cell_look|go_simp):Cs5 W b v0 v1 v2 v3 v4:=⟨(y 0).trans h0,(y 1).trans h1,(y 2).trans h2,(y 3).trans h3,(y 4).trans h4⟩
/-- The first 6 cells of a block. -/
def Cs6 (W:World) (b:Nat) (v0 v1 v2 v3 v4 v5:Value):Prop:=W.cell? ⟨b,0,none⟩=some v0/\W.cell? ⟨b,1,none⟩=some v1/\W.cell? ⟨b,2,none⟩=some v2/\W.cell? ⟨b,3,none⟩=some v3/\W.cell? ⟨b,4,none⟩=some v4/\W.cell? ⟨b,5,none⟩=some v5
theorem Cs6.of {W V:World} {b:Nat} {v0 v1 v2 v3 v4 v5:Value} (y:∀o,W.cell? ⟨b,o,none⟩=V.cell? ⟨b,o,none⟩)
  (h0:V.cell? ⟨b,0,none⟩=some v0:=by first|go_cell_look|go_simp) (h1:V.cell? ⟨b,1,none⟩=some v1:=by first|go_cell_look|go_simp) (h2:V.cell? ⟨b,2,none⟩=some v2:=by first|go_cell_look|go_simp) (h3:V.cell? ⟨b,3,none⟩=some v3:=by first|go_cell_look|go_simp) (h4:V.cell? ⟨b,4,none⟩=some v4:=by first|go_cell_look|go_simp) (h5:V.cell? ⟨b,5,none⟩=some v5:=by first|go_cell_look|go_simp):Cs6 W b v0 v1 v2 v3 v4 v5:=⟨(y 0).trans h0,(y 1).trans h1,(y 2).trans h2,(y 3).trans h3,(y 4).trans h4,(y 5).trans h5⟩
def cellU (l:List CellT):List Value:=l.flatMap fun c=>[.string c.key,.int .i64 c.value]
def layerU (l:List LayerT):List Value:=l.flatMap fun c=>[.string c.name,.int .i64 c.count]
theorem cells_plain (l:List CellT):cells l= .s l.length ((cellU l).map Dat.v):=by
 unfold cells cellU
 congr 1
 induction l with
 |nil=>rfl
 |cons a l ih=>simp [ih,cellF_eq]
theorem layers_plain (l:List LayerT):layers l= .s l.length ((layerU l).map Dat.v):=by
 unfold layers layerU
 congr 1
 induction l with
 |nil=>rfl
 |cons a l ih=>simp [ih,layerF_eq]
theorem cellU_len (l:List CellT):(cellU l).length=l.length * 2:=by
 unfold cellU
 induction l with
 |nil=>rfl
 |cons a l ih=>simp [ih];omega
theorem layerU_len (l:List LayerT):(layerU l).length=l.length * 2:=by
 unfold layerU
 induction l with
 |nil=>rfl
 |cons a l ih=>simp [ih];omega
theorem cellU_one (l:List CellT):∀u∈cellU l,u.oneCell'=true:=by
 intro u hu
 unfold cellU at hu
 simp only [List.mem_flatMap] at hu
 obtain⟨c,_,hc⟩:=hu
 simp at hc
 rcases hc with rfl|rfl<;>rfl
theorem layerU_one (l:List LayerT):∀u∈layerU l,u.oneCell'=true:=by
 intro u hu
 unfold layerU at hu
 simp only [List.mem_flatMap] at hu
 obtain⟨c,_,hc⟩:=hu
 simp at hc
 rcases hc with rfl|rfl<;>rfl
/-- .. behind stores into two blocks of the call's own. -/
theorem New.two {w wb w2 w3:World} {d:Dat} {u:Value} (h:New wb w2 d u) (h0:Chg [] w wb) {g0 g1:Nat} (a0:w.heap.size<=g0) (a1:w.heap.size<=g1) (b0:g0<wb.heap.size) (b1:g1<wb.heap.size) (hc:Chg [g0,g1] w2 w3):New w w3 d u:=by
 obtain⟨S,h1,h2,h3⟩:=h
 exact⟨S,h1.keep hc (fun x hx=>by have:=h2 x hx;simp;omega),fun x hx=>Nat.le_trans h0.size (h2 x hx),(h0.trans0 h3).trans hc (by simp;omega)⟩
/-- A part of one's own: its cells, and its layers, which can still grow. -/
def PartNew (p:PartT) (w w':World) (s3 s5:Value):Prop:=(∃S3,Has w' (cells p.core.cells) s3 S3/\∀x,x∈S3->w.heap.size<=x/\x∉ownL s5)/\App w w' 91 2 s5 p.layers.length ((layerU p.layers).map Dat.v)
def PartGives (p:PartT) (w:World) (e:Ending) (w':World):Prop:=∃A3 c3 A5 c5,e= .returned (.agg #[.string p.core.kind,.bool p.core.on,.bool p.core.broken,.slice A3 p.core.cells.length c3,.int .i64 p.core.count,.slice A5 p.layers.length c5])/\PartNew p w w' (.slice A3 p.core.cells.length c3) (.slice A5 p.layers.length c5)
theorem ownL_mem {v:Value} {x:Nat}:x∈ownL v↔v.ownBlock=some x:=by
 unfold ownL
 cases h:v.ownBlock with
 |none=>simp
 |some k=>simp [eq_comm]
theorem PartNew.mk {p:PartT} {w wb W w1 w2 w3:World} {s3 s5:Value} {g1:Nat} {T:List Nat} (h0:Chg [] w wb) (hW:Chg [] wb W) (n1:New W w1 (cells p.core.cells) s3) (c12:Chg T w1 w2) (hT:∀x,x∈T->x<W.heap.size∨w1.heap.size<=x)
  (hA:App wb w2 91 2 s5 p.layers.length ((layerU p.layers).map Dat.v)) (hs:∀x,x∈ownL s5->x<W.heap.size∨w1.heap.size<=x) (hg:w.heap.size<=g1) (hg1:g1<wb.heap.size) (c23:Chg [g1] w2 w3):PartNew p w w3 s3 s5:=by
 obtain⟨S,h1,h2,h3⟩:=n1
 have e0:=h0.size
 have eW:=hW.size
 refine⟨⟨S,(h1.keep c12 (fun x hx hxT=>by have:=h2 x hx;have:=h1.lt x hx;have:=hT x hxT;omega)).keep c23 (fun x hx=>by simp;rintro rfl;have:=h2 x hx;omega),fun x hx=>⟨by have:=h2 x hx;omega,fun hxs=>by have:=h2 x hx;have:=h1.lt x hx;have:=hs x hxs;omega⟩⟩,hA.out h0 c23 hg hg1⟩
/-- A core of one's own is given. -/
def CoreGives (p:CoreT) (w:World) (e:Ending) (w':World):Prop:=∃A cap,e= .returned (.agg #[.string p.kind,.bool p.on,.bool p.broken,.slice A p.cells.length cap,.int .i64 p.count])/\New w w' (cells p.cells) (.slice A p.cells.length cap)
theorem copyCore_any (p:CoreT) (u3:Value) (B:Nat) (w:World) (hl:p.cells.length<=1048576) (r3:Rd w B (cells p.cells) u3) (hB:B<=w.heap.size):
  Calls Tryz.prog 130 #[.agg #[.string p.kind,.bool p.on,.bool p.broken,u3,.int .i64 p.count]] w (CoreGives p w):=by
 rw [cells_plain] at r3
 obtain⟨A,cap,rfl,h0,h1,hrow⟩:=r3.plain
 unfold maxLen at h1
 have tt:w.heap.size<w.heap.size+1:=Nat.lt_succ_self _
 have tt2:w.heap.size<w.heap.size+1+1:=by omega
 have HROW:=hid hrow
 clear hrow
 go_enter Tryz.func130,Tryz.ntmps130
 go_wp2_with (at_builtin;refine wpList_appN rfl (.const (.slice none 0 0)) (.tmp 4) _ rfl rfl rfl (run_appN _ _ 188 _ 2 24 Tryz.underlying45 cell_info rfl (by omega) (App.nil ((w.alloc (.cells #[.string p.kind,.bool p.on,.bool p.broken,.slice A p.cells.length cap,.int .i64 p.count] 47)).alloc (.cells #[.string ⟨#[]⟩,.bool false,.bool false,.slice none 0 0,.int .i64 0] 47)) 188 2 (Chg.refl _ _)) (Chg.refl _ _) A p.cells.length cap (cellU p.cells) (cellU_len _) (fun hne=>by obtain⟨b,off,e,hb,hc⟩:=HROW.out hne;exact⟨b,off,e,fun j x hj=>((((Chg.refl [] w).alloc _).alloc _).cell (p:=⟨b,off+j,none⟩) (show b<w.heap.size by omega) (by simp)).trans (hc j x hj)⟩) (cellU_one _) (by omega) (by omega)) ?_;rintro A2 cap2 w2 ⟨hA2,hc2,hat2⟩;have c2:Chg [] _ w2:=hc2;obtain⟨y2,z2,s2⟩:=c2.cells;have t2:w.heap.size+1<w2.heap.size:=(by simp at s2;omega);have t2':w.heap.size<w2.heap.size:=(by omega);have x3:w2.cell? ⟨w.heap.size,3,none⟩=some (.slice A p.cells.length cap):=(by rw [y2 _ _ (by simp;omega)];go_simp))
 refine bodyPost_ret (v:=.agg #[.string p.kind,.bool p.on,.bool p.broken,.slice A2 p.cells.length cap2,.int .i64 p.count]) (by simp only [results,Tryz.results130];go_simp) rfl ⟨A2,cap2,rfl,?_⟩
 have hn:=hA2.new
 rw [List.nil_append,Nat.zero_add, <-cells_plain] at hn
 exact hn.two ((Chg.refl _ _).alloc _ |>.alloc _) (g0:=w.heap.size) (g1:=w.heap.size+1) (Nat.le_refl _) (by omega) (by simp;omega) (by simp) Chg.now
theorem l3Copy_any (p:CoreT) (u3:Value) (B:Nat) (w:World) (hl:p.cells.length<=1048576) (r3:Rd w B (cells p.cells) u3) (hB:B<=w.heap.size):
  Calls Tryz.prog 163 #[.agg #[.string p.kind,.bool p.on,.bool p.broken,u3,.int .i64 p.count]] w (CoreGives p w):=by
 rw [cells_plain] at r3
 obtain⟨A,cap,rfl,h0,h1,hrow⟩:=r3.plain
 unfold maxLen at h1
 have tt:w.heap.size<w.heap.size+1:=Nat.lt_succ_self _
 have tt2:w.heap.size<w.heap.size+1+1:=by omega
 have HROW:=hid hrow
 clear hrow
 go_enter Tryz.func163,Tryz.ntmps163
 go_wp2_with (at_builtin;refine wpList_appN rfl (.tmp 3) (.tmp 5) _ rfl rfl rfl (run_appN _ _ 188 _ 2 24 Tryz.underlying45 cell_info rfl (by omega) (App.emptyAt ((w.alloc (.cells #[.string p.kind,.bool p.on,.bool p.broken,.slice A p.cells.length cap,.int .i64 p.count] 47)).alloc (.cells #[.string ⟨#[]⟩,.bool false,.bool false,.slice none 0 0,.int .i64 0] 47)) 188 2 (w.heap.size+1+1) (Chg.refl _ _) (by simp)) (Chg.refl _ _) A p.cells.length cap (cellU p.cells) (cellU_len _) (fun hne=>by obtain⟨b,off,e,hb,hc⟩:=HROW.out hne;exact⟨b,off,e,fun j x hj=>(((((Chg.refl [] w).alloc _).alloc _).alloc _).cell (p:=⟨b,off+j,none⟩) (show b<w.heap.size by omega) (by simp)).trans (hc j x hj)⟩) (cellU_one _) (by omega) (by omega)) ?_;rintro A2 cap2 w2 ⟨hA2,hc2,hat2⟩;have c2:Chg [] _ w2:=hA2.chg;obtain⟨y2,z2,s2⟩:=c2.cells;have t2:w.heap.size+1<w2.heap.size:=(by simp at s2;omega);have t2':w.heap.size<w2.heap.size:=(by omega);have x3:w2.cell? ⟨w.heap.size,3,none⟩=some (.slice A p.cells.length cap):=(by rw [y2 _ _ (by simp;omega)];go_simp))
 refine bodyPost_ret (v:=.agg #[.string p.kind,.bool p.on,.bool p.broken,.slice A2 p.cells.length cap2,.int .i64 p.count]) (by simp only [results,Tryz.results163];go_simp) rfl ⟨A2,cap2,rfl,?_⟩
 have hn:=hA2.new
 rw [List.nil_append,Nat.zero_add, <-cells_plain] at hn
 exact hn.two ((Chg.refl _ _).alloc _ |>.alloc _) (g0:=w.heap.size) (g1:=w.heap.size+1) (Nat.le_refl _) (by omega) (by simp;omega) (by simp) Chg.now
theorem copyPart_any (p:PartT) (u3 u5:Value) (B:Nat) (w:World) (hl:p.layers.length<=1048576) (hcl:p.core.cells.length<=1048576) (r3:Rd w B (cells p.core.cells) u3) (r5:Rd w B (layers p.layers) u5) (hB:B<=w.heap.size):
  Calls Tryz.prog 81 #[.agg #[.string p.core.kind,.bool p.core.on,.bool p.core.broken,u3,.int .i64 p.core.count,u5]] w (PartGives p w):=by
 obtain⟨A3,cap3,rfl,_,_,_⟩:=cells_row r3
 rw [layers_plain] at r5
 obtain⟨A5,cap5,rfl,h0,h1,hrow⟩:=r5.plain
 unfold maxLen at h1
 have tt:w.heap.size<w.heap.size+1:=Nat.lt_succ_self _
 have tt2:w.heap.size<w.heap.size+1+1:=by omega
 have HROW:=hid hrow
 have CC:=hid (fun W (hW:Chg [] ((w.alloc (.cells #[.string p.core.kind,.bool p.core.on,.bool p.core.broken,.slice A3 p.core.cells.length cap3,.int .i64 p.core.count,.slice A5 p.layers.length cap5] 50)).alloc (.cells #[.string ⟨#[]⟩,.bool false,.bool false,.slice none 0 0,.int .i64 0,.slice none 0 0] 50)) W)=>copyCore_any p.core _ B W hcl (r3.chg0 (((Chg.refl [] w).alloc _).alloc _ |>.trans0 hW) hB) (by have:=hW.size;simp at this;omega))
 clear hrow r3 r5
 go_enter Tryz.func81,Tryz.ntmps81
 go_wp2_with fail
 go_region_law (first|(go_simp;go_at_call 130;(with_reducible refine(CC.out _ (by first|exact Chg.to n1.chg|exact Chg.to N1C|exact Chg.to hA2.chg|exact Chg.now)).mono ?_);rintro e w1 ⟨A4,cap4,rfl,n1⟩;have N1C:Chg [] ((w.alloc (.cells #[.string p.core.kind,.bool p.core.on,.bool p.core.broken,.slice A3 p.core.cells.length cap3,.int .i64 p.core.count,.slice A5 p.layers.length cap5] 50)).alloc (.cells #[.string ⟨#[]⟩,.bool false,.bool false,.slice none 0 0,.int .i64 0,.slice none 0 0] 50)) w1:=((by first|exact Chg.to n1.chg|exact Chg.to N1C|exact Chg.to hA2.chg|exact Chg.now):Chg [] ((w.alloc (.cells #[.string p.core.kind,.bool p.core.on,.bool p.core.broken,.slice A3 p.core.cells.length cap3,.int .i64 p.core.count,.slice A5 p.layers.length cap5] 50)).alloc (.cells #[.string ⟨#[]⟩,.bool false,.bool false,.slice none 0 0,.int .i64 0,.slice none 0 0] 50)) _).trans0 n1.chg;obtain⟨y1,z1,s1⟩:=N1C.cells;have s1':w.heap.size+1+1<=w1.heap.size:=(by simpa using s1);have t1:w.heap.size+1<w1.heap.size:=(by omega);have t1':w.heap.size<w1.heap.size:=(by omega);clear s1;simp only [])|(refine step_appN rfl (.const (.slice none 0 0)) (.tmp 7) _ rfl rfl rfl (run_appN _ _ 91 _ 2 24 Tryz.underlying48 layer_info rfl (by omega) (App.nil ((w.alloc (.cells #[.string p.core.kind,.bool p.core.on,.bool p.core.broken,.slice A3 p.core.cells.length cap3,.int .i64 p.core.count,.slice A5 p.layers.length cap5] 50)).alloc (.cells #[.string ⟨#[]⟩,.bool false,.bool false,.slice none 0 0,.int .i64 0,.slice none 0 0] 50)) 91 2 (by first|exact Chg.to n1.chg|exact Chg.to N1C|exact Chg.to hA2.chg|exact Chg.now)) (Chg.refl _ _) A5 p.layers.length cap5 (layerU p.layers) (layerU_len _) (fun hne=>by obtain⟨b,off,e,hb,hc⟩:=HROW.out hne;exact⟨b,off,e,fun j x hj=>((((Chg.refl [] w).alloc _).alloc _ |>.trans0 (by first|exact Chg.to n1.chg|exact Chg.to N1C|exact Chg.to hA2.chg|exact Chg.now)).cell (p:=⟨b,off+j,none⟩) (show b<w.heap.size by omega) (by simp)).trans (hc j x hj)⟩) (layerU_one _) (by omega) (by omega)) ?_;rintro A6 cap6 w2 ⟨hA2,hc2,hat2⟩;simp only [Nat.zero_add,List.nil_append] at hA2 hat2;obtain⟨y2,z2,s2⟩:=hA2.chg.cells;have s2':w.heap.size+1+1<=w2.heap.size:=(by simpa using s2);have t2:w.heap.size+1<w2.heap.size:=(by omega);have t2':w.heap.size<w2.heap.size:=(by omega);clear s2;simp only [])|fail)
 all_goals
  go_wp2_with fail
  refine bodyPost_ret (v:=.agg #[.string p.core.kind,.bool p.core.on,.bool p.core.broken,.slice A4 p.core.cells.length cap4,.int .i64 p.core.count,.slice A6 p.layers.length cap6]) (by simp only [results,Tryz.results81];go_simp) rfl ⟨A4,cap4,A6,cap6,rfl,?_⟩
  refine PartNew.mk (wb:=((w.alloc (.cells #[.string p.core.kind,.bool p.core.on,.bool p.core.broken,.slice A3 p.core.cells.length cap3,.int .i64 p.core.count,.slice A5 p.layers.length cap5] 50)).alloc (.cells #[.string ⟨#[]⟩,.bool false,.bool false,.slice none 0 0,.int .i64 0,.slice none 0 0] 50))) (g1:=w.heap.size+1) (((Chg.refl _ _).alloc _).alloc _) Chg.now n1 (T:=_) hc2 (by intro x hx;simp [ownL,Value.ownBlock] at hx) hA2 (fun x hx=>by rw [ownL_mem] at hx;rcases hat2 with h|h<;>(rw [hx] at h;simp [Value.ownBlock] at h);exact .inr (by omega)) (by omega) (by simp) Chg.now
theorem l4Copy_any (p:PartT) (u3 u5:Value) (B:Nat) (w:World) (hl:p.layers.length<=1048576) (hcl:p.core.cells.length<=1048576) (r3:Rd w B (cells p.core.cells) u3) (r5:Rd w B (layers p.layers) u5) (hB:B<=w.heap.size):
  Calls Tryz.prog 115 #[.agg #[.string p.core.kind,.bool p.core.on,.bool p.core.broken,u3,.int .i64 p.core.count,u5]] w (PartGives p w):=by
 obtain⟨A3,cap3,rfl,_,_,_⟩:=cells_row r3
 rw [layers_plain] at r5
 obtain⟨A5,cap5,rfl,h0,h1,hrow⟩:=r5.plain
 unfold maxLen at h1
 have tt:w.heap.size<w.heap.size+1:=Nat.lt_succ_self _
 have tt2:w.heap.size<w.heap.size+1+1:=by omega
 have HROW:=hid hrow
 have CC:=hid (fun W (hW:Chg [] ((w.alloc (.cells #[.string p.core.kind,.bool p.core.on,.bool p.core.broken,.slice A3 p.core.cells.length cap3,.int .i64 p.core.count,.slice A5 p.layers.length cap5] 50)).alloc (.cells #[.string ⟨#[]⟩,.bool false,.bool false,.slice none 0 0,.int .i64 0,.slice none 0 0] 50)) W)=>l3Copy_any p.core _ B W hcl (r3.chg0 (((Chg.refl [] w).alloc _).alloc _ |>.trans0 hW) hB) (by have:=hW.size;simp at this;omega))
 clear hrow r3 r5
 go_enter Tryz.func115,Tryz.ntmps115
 go_wp2_with fail
 go_region_law (first|(go_simp;go_at_call 163;(with_reducible refine(CC.out _ (by first|exact Chg.to n1.chg|exact Chg.to N1C|exact Chg.to hA2.chg|exact Chg.now)).mono ?_);rintro e w1 ⟨A4,cap4,rfl,n1⟩;have N1C:Chg [] ((w.alloc (.cells #[.string p.core.kind,.bool p.core.on,.bool p.core.broken,.slice A3 p.core.cells.length cap3,.int .i64 p.core.count,.slice A5 p.layers.length cap5] 50)).alloc (.cells #[.string ⟨#[]⟩,.bool false,.bool false,.slice none 0 0,.int .i64 0,.slice none 0 0] 50)) w1:=((by first|exact Chg.to n1.chg|exact Chg.to N1C|exact Chg.to hA2.chg|exact Chg.now):Chg [] ((w.alloc (.cells #[.string p.core.kind,.bool p.core.on,.bool p.core.broken,.slice A3 p.core.cells.length cap3,.int .i64 p.core.count,.slice A5 p.layers.length cap5] 50)).alloc (.cells #[.string ⟨#[]⟩,.bool false,.bool false,.slice none 0 0,.int .i64 0,.slice none 0 0] 50)) _).trans0 n1.chg;obtain⟨y1,z1,s1⟩:=N1C.cells;have s1':w.heap.size+1+1<=w1.heap.size:=(by simpa using s1);have t1:w.heap.size+1<w1.heap.size:=(by omega);have t1':w.heap.size<w1.heap.size:=(by omega);clear s1;simp only [])|(refine step_appN rfl (.tmp 6) (.tmp 8) _ rfl rfl rfl (run_appN _ _ 91 _ 2 24 Tryz.underlying48 layer_info rfl (by omega) (App.emptyAt ((w.alloc (.cells #[.string p.core.kind,.bool p.core.on,.bool p.core.broken,.slice A3 p.core.cells.length cap3,.int .i64 p.core.count,.slice A5 p.layers.length cap5] 50)).alloc (.cells #[.string ⟨#[]⟩,.bool false,.bool false,.slice none 0 0,.int .i64 0,.slice none 0 0] 50)) 91 2 _ (by first|exact Chg.to n1.chg|exact Chg.to N1C|exact Chg.to hA2.chg|exact Chg.now) (by simp)) (Chg.refl _ _) A5 p.layers.length cap5 (layerU p.layers) (layerU_len _) (fun hne=>by obtain⟨b,off,e,hb,hc⟩:=HROW.out hne;exact⟨b,off,e,fun j x hj=>((((Chg.refl [] w).alloc _).alloc _ |>.trans0 (by first|exact Chg.to n1.chg|exact Chg.to N1C|exact Chg.to hA2.chg|exact Chg.now)).cell (p:=⟨b,off+j,none⟩) (show b<w.heap.size by omega) (by simp)).trans (hc j x hj)⟩) (layerU_one _) (by omega) (by omega)) ?_;rintro A6 cap6 w2 ⟨hA2,hc2,hat2⟩;simp only [Nat.zero_add,List.nil_append] at hA2 hat2;obtain⟨y2,z2,s2⟩:=hA2.chg.cells;have s2':w.heap.size+1+1<=w2.heap.size:=(by simpa using s2);have t2:w.heap.size+1<w2.heap.size:=(by omega);have t2':w.heap.size<w2.heap.size:=(by omega);clear s2;simp only [])|(refine step_appN rfl (.tmp 6) (.tmp 8) _ rfl rfl rfl (run_appN _ _ 91 _ 2 24 Tryz.underlying48 layer_info rfl (by omega) ((App.emptyAt ((w.alloc (.cells #[.string p.core.kind,.bool p.core.on,.bool p.core.broken,.slice A3 p.core.cells.length cap3,.int .i64 p.core.count,.slice A5 p.layers.length cap5] 50)).alloc (.cells #[.string ⟨#[]⟩,.bool false,.bool false,.slice none 0 0,.int .i64 0,.slice none 0 0] 50)) 91 2 _ (Chg.refl _ _) (by simp)).later n1.chg) (Chg.refl _ _) A5 p.layers.length cap5 (layerU p.layers) (layerU_len _) (fun hne=>by obtain⟨b,off,e,hb,hc⟩:=HROW.out hne;exact⟨b,off,e,fun j x hj=>((((Chg.refl [] w).alloc _).alloc _ |>.trans0 (by first|exact Chg.to n1.chg|exact Chg.to N1C|exact Chg.to hA2.chg|exact Chg.now)).cell (p:=⟨b,off+j,none⟩) (show b<w.heap.size by omega) (by simp)).trans (hc j x hj)⟩) (layerU_one _) (by omega) (by omega)) ?_;rintro A6 cap6 w2 ⟨hA2,hc2,hat2⟩;simp only [Nat.zero_add,List.nil_append] at hA2 hat2;obtain⟨y2,z2,s2⟩:=hA2.chg.cells;have s2':w.heap.size+1+1<=w2.heap.size:=(by simpa using s2);have t2:w.heap.size+1<w2.heap.size:=(by omega);have t2':w.heap.size<w2.heap.size:=(by omega);clear s2;simp only [])|(refine step_appN rfl (.tmp 6) (.tmp 8) _ rfl rfl rfl (run_appN _ _ 91 _ 2 24 Tryz.underlying48 layer_info rfl (by omega) ((App.emptyAt ((w.alloc (.cells #[.string p.core.kind,.bool p.core.on,.bool p.core.broken,.slice A3 p.core.cells.length cap3,.int .i64 p.core.count,.slice A5 p.layers.length cap5] 50)).alloc (.cells #[.string ⟨#[]⟩,.bool false,.bool false,.slice none 0 0,.int .i64 0,.slice none 0 0] 50)) 91 2 _ (Chg.refl _ _) (by simp)).later ((Chg.refl [] _).drew.trans0 n1.chg)) (Chg.refl _ _) A5 p.layers.length cap5 (layerU p.layers) (layerU_len _) (fun hne=>by obtain⟨b,off,e,hb,hc⟩:=HROW.out hne;exact⟨b,off,e,fun j x hj=>((((Chg.refl [] w).alloc _).alloc _ |>.trans0 (by first|exact Chg.to n1.chg|exact Chg.to N1C|exact Chg.to hA2.chg|exact Chg.now)).cell (p:=⟨b,off+j,none⟩) (show b<w.heap.size by omega) (by simp)).trans (hc j x hj)⟩) (layerU_one _) (by omega) (by omega)) ?_;rintro A6 cap6 w2 ⟨hA2,hc2,hat2⟩;simp only [Nat.zero_add,List.nil_append] at hA2 hat2;obtain⟨y2,z2,s2⟩:=hA2.chg.cells;have s2':w.heap.size+1+1<=w2.heap.size:=(by simpa using s2);have t2:w.heap.size+1<w2.heap.size:=(by omega);have t2':w.heap.size<w2.heap.size:=(by omega);clear s2;simp only [])|fail)
 all_goals
  go_wp2_with fail
  refine bodyPost_ret (v:=.agg #[.string p.core.kind,.bool p.core.on,.bool p.core.broken,.slice A4 p.core.cells.length cap4,.int .i64 p.core.count,.slice A6 p.layers.length cap6]) (by simp only [results,Tryz.results115];go_simp) rfl ⟨A4,cap4,A6,cap6,rfl,?_⟩
  refine PartNew.mk (wb:=((w.alloc (.cells #[.string p.core.kind,.bool p.core.on,.bool p.core.broken,.slice A3 p.core.cells.length cap3,.int .i64 p.core.count,.slice A5 p.layers.length cap5] 50)).alloc (.cells #[.string ⟨#[]⟩,.bool false,.bool false,.slice none 0 0,.int .i64 0,.slice none 0 0] 50))) (g1:=w.heap.size+1) (((Chg.refl _ _).alloc _).alloc _) Chg.now n1 (T:=_) (by first|exact hc2|exact Chg.trans1 Chg.now hc2) (by intro x hx;rw [ownL_mem] at hx;simp [Value.ownBlock] at hx;subst hx;first|(refine .inl ?_;simp;done)|(refine .inr ?_;simp;done)|(refine .inr ?_;simp;omega)|(refine .inl ?_;simp;omega)) hA2 (fun x hx=>by rw [ownL_mem] at hx;rcases hat2 with h|h<;>(rw [hx] at h;simp [Value.ownBlock] at h;subst h;first|(refine .inl ?_;simp;done)|(refine .inr ?_;simp;done)|(refine .inr ?_;simp;omega)|(refine .inl ?_;simp;omega))) (by omega) (by simp) Chg.now
theorem faceOf_impl_any (p:PartT) (u3 u5:Value) (B:Nat) (w:World) (r5:Rd w B (layers p.layers) u5) (hB:B<=w.heap.size):
  Calls Tryz.prog 19 #[.agg #[.string p.core.kind,.bool p.core.on,.bool p.core.broken,u3,.int .i64 p.core.count,u5]] w (IntPost (faceAt p p.layers.length) w):=by
 obtain⟨A,cap,rfl,h0,h1,hrow⟩:=layers_row r5
 unfold maxLen at h1
 have tt:w.heap.size<w.heap.size+1:=Nat.lt_succ_self _
 have FB:=hid (fun W (hW:Chg [] w W)=>faceBelow_any p p.layers.length u3 _ B W (r5.chg0 hW hB) (by have:=hW.size;omega) (Nat.le_refl _))
 go_enter Tryz.func19,Tryz.ntmps19
 go_wp2_with fail
 refine(FB.out _ ?_).mono ?_
 ·repeat(first|with_reducible exact Chg.refl _ _|with_reducible refine Chg.drew ?_|with_reducible refine Chg.alloc ?_ _)
 rintro e w1 ⟨rfl,c1⟩
 go_wp2_with fail
 go_ret
 exact⟨rfl,((Chg.refl _ _).alloc _).trans0 c1⟩
theorem faceOf_spec_any (p:PartT) (u3 u5:Value) (B:Nat) (w:World) (r5:Rd w B (layers p.layers) u5) (hB:B<=w.heap.size):
  Calls Tryz.prog 77 #[.agg #[.string p.core.kind,.bool p.core.on,.bool p.core.broken,u3,.int .i64 p.core.count,u5]] w (IntPost (faceAt p p.layers.length) w):=by
 obtain⟨A,cap,rfl,h0,h1,hrow⟩:=layers_row r5
 unfold maxLen at h1
 have tt:w.heap.size<w.heap.size+1:=Nat.lt_succ_self _
 have FB:=hid (fun W (hW:Chg [] w W)=>l4Face_any p p.layers.length u3 _ B W (r5.chg0 hW hB) (by have:=hW.size;omega) (Nat.le_refl _))
 go_enter Tryz.func77,Tryz.ntmps77
 go_wp2_with fail
 refine(FB.out _ ?_).mono ?_
 ·repeat(first|with_reducible exact Chg.refl _ _|with_reducible refine Chg.drew ?_|with_reducible refine Chg.alloc ?_ _)
 rintro e w1 ⟨rfl,c1⟩
 go_wp2_with fail
 go_ret
 exact⟨rfl,((Chg.refl _ _).alloc _).trans0 c1⟩
theorem newCore_impl_some_any (k:ByteArray) {f:Int} (hk:kindOf k=some f) (w:World):
  Calls Tryz.prog 134 #[.string k] w (fun e w'=>e= .returned (.tuple #[.agg #[.string k,.bool false,.bool false,.slice none 0 0,.int .i64 0],.bool true])/\Chg [] w w'):=by
 have tt:w.heap.size<w.heap.size+1:=Nat.lt_succ_self _
 have KF:=hid (fun W=>(kindFace_impl_any k W).mono (OptIs.some_ hk))
 clear hk
 go_enter Tryz.func134,Tryz.ntmps134
 go_wp2_with fail
 refine(KF.out _).mono ?_
 rintro e w1 ⟨rfl,rfl⟩
 go_wp2_with fail
 refine bodyPost_ret (v:=.tuple #[.agg #[.string k,.bool false,.bool false,.slice none 0 0,.int .i64 0],.bool true]) (by simp only [results,Tryz.results134];go_simp) rfl ⟨rfl,?_⟩
 repeat(first|with_reducible exact Chg.refl _ _|with_reducible refine Chg.alloc ?_ _|with_reducible refine Chg.setCell ?_ (.inr (by simp)) _)
theorem newCore_impl_none_any (k:ByteArray) (hk:kindOf k=none) (w:World):
  Calls Tryz.prog 134 #[.string k] w (fun e w'=>e= .returned (.tuple #[.agg #[.string ⟨#[]⟩,.bool false,.bool false,.slice none 0 0,.int .i64 0],.bool false])/\Chg [] w w'):=by
 have tt:w.heap.size<w.heap.size+1:=Nat.lt_succ_self _
 have KF:=hid (fun W=>(kindFace_impl_any k W).mono (OptIs.none_ hk))
 clear hk
 go_enter Tryz.func134,Tryz.ntmps134
 go_wp2_with fail
 refine(KF.out _).mono ?_
 rintro e w1 ⟨rfl,rfl⟩
 go_wp2_with fail
 refine bodyPost_ret (v:=.tuple #[.agg #[.string ⟨#[]⟩,.bool false,.bool false,.slice none 0 0,.int .i64 0],.bool false]) (by simp only [results,Tryz.results134];go_simp) rfl ⟨rfl,?_⟩
 repeat(first|with_reducible exact Chg.refl _ _|with_reducible refine Chg.alloc ?_ _|with_reducible refine Chg.setCell ?_ (.inr (by simp)) _)
theorem newCore_spec_some_any (k:ByteArray) {f:Int} (hk:kindOf k=some f) (w:World):
  Calls Tryz.prog 159 #[.string k] w (fun e w'=>e= .returned (.tuple #[.agg #[.string k,.bool false,.bool false,.slice none 0 0,.int .i64 0],.bool true])/\Chg [] w w'):=by
 have tt:w.heap.size<w.heap.size+1:=Nat.lt_succ_self _
 have KF:=hid (fun W=>(kindFace_spec_any k W).mono (OptPost.some_ hk))
 clear hk
 go_enter Tryz.func159,Tryz.ntmps159
 go_wp2_with fail
 refine(KF.out _).mono ?_
 rintro e w1 ⟨rfl,c1⟩
 obtain⟨y1,z1,s1⟩:=c1.cells
 have t1:w.heap.size<w1.heap.size:=by simp at s1;omega
 go_wp2_with fail
 refine bodyPost_ret (v:=.tuple #[.agg #[.string k,.bool false,.bool false,.slice none 0 0,.int .i64 0],.bool true]) (by simp only [results,Tryz.results159];go_simp) rfl ⟨rfl,?_⟩
 have E:Chg [] w w1:=((Chg.refl _ _).alloc _).trans0 c1
 repeat(first|with_reducible exact E|with_reducible refine Chg.setCell ?_ (.inr (by simp)) _)
theorem newCore_spec_none_any (k:ByteArray) (hk:kindOf k=none) (w:World):
  Calls Tryz.prog 159 #[.string k] w (fun e w'=>e= .returned (.tuple #[.agg #[.string ⟨#[]⟩,.bool false,.bool false,.slice none 0 0,.int .i64 0],.bool false])/\Chg [] w w'):=by
 have tt:w.heap.size<w.heap.size+1:=Nat.lt_succ_self _
 have KF:=hid (fun W=>(kindFace_spec_any k W).mono (OptPost.none_ hk))
 clear hk
 go_enter Tryz.func159,Tryz.ntmps159
 go_wp2_with fail
 refine(KF.out _).mono ?_
 rintro e w1 ⟨rfl,c1⟩
 obtain⟨y1,z1,s1⟩:=c1.cells
 have t1:w.heap.size<w1.heap.size:=by simp at s1;omega
 go_wp2_with fail
 refine bodyPost_ret (v:=.tuple #[.agg #[.string ⟨#[]⟩,.bool false,.bool false,.slice none 0 0,.int .i64 0],.bool false]) (by simp only [results,Tryz.results159];go_simp) rfl ⟨rfl,?_⟩
 have E:Chg [] w w1:=((Chg.refl _ _).alloc _).trans0 c1
 repeat(first|with_reducible exact E|with_reducible refine Chg.setCell ?_ (.inr (by simp)) _)
theorem newPart_impl_some_any (k:ByteArray) {f:Int} (hk:kindOf k=some f) (w:World):
  Calls Tryz.prog 90 #[.string k] w (fun e w'=>e= .returned (.tuple #[.agg #[.string k,.bool false,.bool false,.slice none 0 0,.int .i64 0,.slice none 0 0],.bool true])/\Chg [] w w'):=by
 have tt:w.heap.size<w.heap.size+1:=Nat.lt_succ_self _
 have NC:=hid (fun W=>newCore_impl_some_any k hk W)
 clear hk
 go_enter Tryz.func90,Tryz.ntmps90
 go_wp2_with fail
 refine(NC.out _).mono ?_
 rintro e w1 ⟨rfl,c1⟩
 have E:Chg [] w w1:=((Chg.refl _ _).alloc _).trans0 c1
 have t1:w.heap.size<w1.heap.size:=by have:=c1.size;simp at this;omega
 have x0:w1.cell? ⟨w.heap.size,0,none⟩=some (.string ⟨#[]⟩):=(c1.cell (p:=⟨w.heap.size,0,none⟩) (by simp) (by simp)).trans (by go_simp)
 have x1:w1.cell? ⟨w.heap.size,1,none⟩=some (.bool false):=(c1.cell (p:=⟨w.heap.size,1,none⟩) (by simp) (by simp)).trans (by go_simp)
 have x2:w1.cell? ⟨w.heap.size,2,none⟩=some (.bool false):=(c1.cell (p:=⟨w.heap.size,2,none⟩) (by simp) (by simp)).trans (by go_simp)
 have x3:w1.cell? ⟨w.heap.size,3,none⟩=some (.slice none 0 0):=(c1.cell (p:=⟨w.heap.size,3,none⟩) (by simp) (by simp)).trans (by go_simp)
 have x4:w1.cell? ⟨w.heap.size,4,none⟩=some (.int .i64 0):=(c1.cell (p:=⟨w.heap.size,4,none⟩) (by simp) (by simp)).trans (by go_simp)
 have x5:w1.cell? ⟨w.heap.size,5,none⟩=some (.slice none 0 0):=(c1.cell (p:=⟨w.heap.size,5,none⟩) (by simp) (by simp)).trans (by go_simp)
 have xf0:w1.frozen? ⟨w.heap.size,0,none⟩=false:=(c1.frozen (p:=⟨w.heap.size,0,none⟩) (by simp) (by simp)).trans (by go_simp)
 have xf1:w1.frozen? ⟨w.heap.size,1,none⟩=false:=(c1.frozen (p:=⟨w.heap.size,1,none⟩) (by simp) (by simp)).trans (by go_simp)
 have xf2:w1.frozen? ⟨w.heap.size,2,none⟩=false:=(c1.frozen (p:=⟨w.heap.size,2,none⟩) (by simp) (by simp)).trans (by go_simp)
 have xf3:w1.frozen? ⟨w.heap.size,3,none⟩=false:=(c1.frozen (p:=⟨w.heap.size,3,none⟩) (by simp) (by simp)).trans (by go_simp)
 have xf4:w1.frozen? ⟨w.heap.size,4,none⟩=false:=(c1.frozen (p:=⟨w.heap.size,4,none⟩) (by simp) (by simp)).trans (by go_simp)
 have xf5:w1.frozen? ⟨w.heap.size,5,none⟩=false:=(c1.frozen (p:=⟨w.heap.size,5,none⟩) (by simp) (by simp)).trans (by go_simp)
 have t2:w.heap.size<w1.heap.size+1:=by omega
 have t3:w.heap.size≠w1.heap.size:=by omega
 go_wp2_with fail
 refine bodyPost_ret (v:=.tuple #[.agg #[.string k,.bool false,.bool false,.slice none 0 0,.int .i64 0,.slice none 0 0],.bool true]) (by simp only [results,Tryz.results90];go_simp) rfl ⟨rfl,?_⟩
 repeat(first|with_reducible exact E|with_reducible refine Chg.alloc ?_ _|with_reducible refine Chg.setCell ?_ (.inr (by simp)) _)
theorem newPart_impl_none_any (k:ByteArray) (hk:kindOf k=none) (w:World):
  Calls Tryz.prog 90 #[.string k] w (fun e w'=>e= .returned (.tuple #[.agg #[.string ⟨#[]⟩,.bool false,.bool false,.slice none 0 0,.int .i64 0,.slice none 0 0],.bool false])/\Chg [] w w'):=by
 have tt:w.heap.size<w.heap.size+1:=Nat.lt_succ_self _
 have NC:=hid (fun W=>newCore_impl_none_any k hk W)
 clear hk
 go_enter Tryz.func90,Tryz.ntmps90
 go_wp2_with fail
 refine(NC.out _).mono ?_
 rintro e w1 ⟨rfl,c1⟩
 have E:Chg [] w w1:=((Chg.refl _ _).alloc _).trans0 c1
 have t1:w.heap.size<w1.heap.size:=by have:=c1.size;simp at this;omega
 have x0:w1.cell? ⟨w.heap.size,0,none⟩=some (.string ⟨#[]⟩):=(c1.cell (p:=⟨w.heap.size,0,none⟩) (by simp) (by simp)).trans (by go_simp)
 have x1:w1.cell? ⟨w.heap.size,1,none⟩=some (.bool false):=(c1.cell (p:=⟨w.heap.size,1,none⟩) (by simp) (by simp)).trans (by go_simp)
 have x2:w1.cell? ⟨w.heap.size,2,none⟩=some (.bool false):=(c1.cell (p:=⟨w.heap.size,2,none⟩) (by simp) (by simp)).trans (by go_simp)
 have x3:w1.cell? ⟨w.heap.size,3,none⟩=some (.slice none 0 0):=(c1.cell (p:=⟨w.heap.size,3,none⟩) (by simp) (by simp)).trans (by go_simp)
 have x4:w1.cell? ⟨w.heap.size,4,none⟩=some (.int .i64 0):=(c1.cell (p:=⟨w.heap.size,4,none⟩) (by simp) (by simp)).trans (by go_simp)
 have x5:w1.cell? ⟨w.heap.size,5,none⟩=some (.slice none 0 0):=(c1.cell (p:=⟨w.heap.size,5,none⟩) (by simp) (by simp)).trans (by go_simp)
 have xf0:w1.frozen? ⟨w.heap.size,0,none⟩=false:=(c1.frozen (p:=⟨w.heap.size,0,none⟩) (by simp) (by simp)).trans (by go_simp)
 have xf1:w1.frozen? ⟨w.heap.size,1,none⟩=false:=(c1.frozen (p:=⟨w.heap.size,1,none⟩) (by simp) (by simp)).trans (by go_simp)
 have xf2:w1.frozen? ⟨w.heap.size,2,none⟩=false:=(c1.frozen (p:=⟨w.heap.size,2,none⟩) (by simp) (by simp)).trans (by go_simp)
 have xf3:w1.frozen? ⟨w.heap.size,3,none⟩=false:=(c1.frozen (p:=⟨w.heap.size,3,none⟩) (by simp) (by simp)).trans (by go_simp)
 have xf4:w1.frozen? ⟨w.heap.size,4,none⟩=false:=(c1.frozen (p:=⟨w.heap.size,4,none⟩) (by simp) (by simp)).trans (by go_simp)
 have xf5:w1.frozen? ⟨w.heap.size,5,none⟩=false:=(c1.frozen (p:=⟨w.heap.size,5,none⟩) (by simp) (by simp)).trans (by go_simp)
 have t2:w.heap.size<w1.heap.size+1:=by omega
 have t3:w.heap.size≠w1.heap.size:=by omega
 go_wp2_with fail
 refine bodyPost_ret (v:=.tuple #[.agg #[.string ⟨#[]⟩,.bool false,.bool false,.slice none 0 0,.int .i64 0,.slice none 0 0],.bool false]) (by simp only [results,Tryz.results90];go_simp) rfl ⟨rfl,?_⟩
 repeat(first|with_reducible exact E|with_reducible refine Chg.alloc ?_ _|with_reducible refine Chg.setCell ?_ (.inr (by simp)) _)
theorem newPart_spec_some_any (k:ByteArray) {f:Int} (hk:kindOf k=some f) (w:World):
  Calls Tryz.prog 107 #[.string k] w (fun e w'=>e= .returned (.tuple #[.agg #[.string k,.bool false,.bool false,.slice none 0 0,.int .i64 0,.slice none 0 0],.bool true])/\Chg [] w w'):=by
 have tt:w.heap.size<w.heap.size+1:=Nat.lt_succ_self _
 have NC:=hid (fun W=>newCore_spec_some_any k hk W)
 clear hk
 go_enter Tryz.func107,Tryz.ntmps107
 go_wp2_with fail
 refine(NC.out _).mono ?_
 rintro e w1 ⟨rfl,c1⟩
 have E:Chg [] w w1:=((Chg.refl _ _).alloc _).trans0 c1
 have t1:w.heap.size<w1.heap.size:=by have:=c1.size;simp at this;omega
 have x0:w1.cell? ⟨w.heap.size,0,none⟩=some (.string ⟨#[]⟩):=(c1.cell (p:=⟨w.heap.size,0,none⟩) (by simp) (by simp)).trans (by go_simp)
 have x1:w1.cell? ⟨w.heap.size,1,none⟩=some (.bool false):=(c1.cell (p:=⟨w.heap.size,1,none⟩) (by simp) (by simp)).trans (by go_simp)
 have x2:w1.cell? ⟨w.heap.size,2,none⟩=some (.bool false):=(c1.cell (p:=⟨w.heap.size,2,none⟩) (by simp) (by simp)).trans (by go_simp)
 have x3:w1.cell? ⟨w.heap.size,3,none⟩=some (.slice none 0 0):=(c1.cell (p:=⟨w.heap.size,3,none⟩) (by simp) (by simp)).trans (by go_simp)
 have x4:w1.cell? ⟨w.heap.size,4,none⟩=some (.int .i64 0):=(c1.cell (p:=⟨w.heap.size,4,none⟩) (by simp) (by simp)).trans (by go_simp)
 have x5:w1.cell? ⟨w.heap.size,5,none⟩=some (.slice none 0 0):=(c1.cell (p:=⟨w.heap.size,5,none⟩) (by simp) (by simp)).trans (by go_simp)
 have xf0:w1.frozen? ⟨w.heap.size,0,none⟩=false:=(c1.frozen (p:=⟨w.heap.size,0,none⟩) (by simp) (by simp)).trans (by go_simp)
 have xf1:w1.frozen? ⟨w.heap.size,1,none⟩=false:=(c1.frozen (p:=⟨w.heap.size,1,none⟩) (by simp) (by simp)).trans (by go_simp)
 have xf2:w1.frozen? ⟨w.heap.size,2,none⟩=false:=(c1.frozen (p:=⟨w.heap.size,2,none⟩) (by simp) (by simp)).trans (by go_simp)
 have xf3:w1.frozen? ⟨w.heap.size,3,none⟩=false:=(c1.frozen (p:=⟨w.heap.size,3,none⟩) (by simp) (by simp)).trans (by go_simp)
 have xf4:w1.frozen? ⟨w.heap.size,4,none⟩=false:=(c1.frozen (p:=⟨w.heap.size,4,none⟩) (by simp) (by simp)).trans (by go_simp)
 have xf5:w1.frozen? ⟨w.heap.size,5,none⟩=false:=(c1.frozen (p:=⟨w.heap.size,5,none⟩) (by simp) (by simp)).trans (by go_simp)
 have t2:w.heap.size<w1.heap.size+1:=by omega
 have t3:w.heap.size≠w1.heap.size:=by omega
 go_wp2_with fail
 refine bodyPost_ret (v:=.tuple #[.agg #[.string k,.bool false,.bool false,.slice none 0 0,.int .i64 0,.slice none 0 0],.bool true]) (by simp only [results,Tryz.results107];go_simp) rfl ⟨rfl,?_⟩
 repeat(first|with_reducible exact E|with_reducible refine Chg.alloc ?_ _|with_reducible refine Chg.setCell ?_ (.inr (by simp)) _)
theorem newPart_spec_none_any (k:ByteArray) (hk:kindOf k=none) (w:World):
  Calls Tryz.prog 107 #[.string k] w (fun e w'=>e= .returned (.tuple #[.agg #[.string ⟨#[]⟩,.bool false,.bool false,.slice none 0 0,.int .i64 0,.slice none 0 0],.bool false])/\Chg [] w w'):=by
 have tt:w.heap.size<w.heap.size+1:=Nat.lt_succ_self _
 have NC:=hid (fun W=>newCore_spec_none_any k hk W)
 clear hk
 go_enter Tryz.func107,Tryz.ntmps107
 go_wp2_with fail
 refine(NC.out _).mono ?_
 rintro e w1 ⟨rfl,c1⟩
 have E:Chg [] w w1:=((Chg.refl _ _).alloc _).trans0 c1
 have t1:w.heap.size<w1.heap.size:=by have:=c1.size;simp at this;omega
 have x0:w1.cell? ⟨w.heap.size,0,none⟩=some (.string ⟨#[]⟩):=(c1.cell (p:=⟨w.heap.size,0,none⟩) (by simp) (by simp)).trans (by go_simp)
 have x1:w1.cell? ⟨w.heap.size,1,none⟩=some (.bool false):=(c1.cell (p:=⟨w.heap.size,1,none⟩) (by simp) (by simp)).trans (by go_simp)
 have x2:w1.cell? ⟨w.heap.size,2,none⟩=some (.bool false):=(c1.cell (p:=⟨w.heap.size,2,none⟩) (by simp) (by simp)).trans (by go_simp)
 have x3:w1.cell? ⟨w.heap.size,3,none⟩=some (.slice none 0 0):=(c1.cell (p:=⟨w.heap.size,3,none⟩) (by simp) (by simp)).trans (by go_simp)
 have x4:w1.cell? ⟨w.heap.size,4,none⟩=some (.int .i64 0):=(c1.cell (p:=⟨w.heap.size,4,none⟩) (by simp) (by simp)).trans (by go_simp)
 have x5:w1.cell? ⟨w.heap.size,5,none⟩=some (.slice none 0 0):=(c1.cell (p:=⟨w.heap.size,5,none⟩) (by simp) (by simp)).trans (by go_simp)
 have xf0:w1.frozen? ⟨w.heap.size,0,none⟩=false:=(c1.frozen (p:=⟨w.heap.size,0,none⟩) (by simp) (by simp)).trans (by go_simp)
 have xf1:w1.frozen? ⟨w.heap.size,1,none⟩=false:=(c1.frozen (p:=⟨w.heap.size,1,none⟩) (by simp) (by simp)).trans (by go_simp)
 have xf2:w1.frozen? ⟨w.heap.size,2,none⟩=false:=(c1.frozen (p:=⟨w.heap.size,2,none⟩) (by simp) (by simp)).trans (by go_simp)
 have xf3:w1.frozen? ⟨w.heap.size,3,none⟩=false:=(c1.frozen (p:=⟨w.heap.size,3,none⟩) (by simp) (by simp)).trans (by go_simp)
 have xf4:w1.frozen? ⟨w.heap.size,4,none⟩=false:=(c1.frozen (p:=⟨w.heap.size,4,none⟩) (by simp) (by simp)).trans (by go_simp)
 have xf5:w1.frozen? ⟨w.heap.size,5,none⟩=false:=(c1.frozen (p:=⟨w.heap.size,5,none⟩) (by simp) (by simp)).trans (by go_simp)
 have t2:w.heap.size<w1.heap.size+1:=by omega
 have t3:w.heap.size≠w1.heap.size:=by omega
 go_wp2_with fail
 refine bodyPost_ret (v:=.tuple #[.agg #[.string ⟨#[]⟩,.bool false,.bool false,.slice none 0 0,.int .i64 0,.slice none 0 0],.bool false]) (by simp only [results,Tryz.results107];go_simp) rfl ⟨rfl,?_⟩
 repeat(first|with_reducible exact E|with_reducible refine Chg.alloc ?_ _|with_reducible refine Chg.setCell ?_ (.inr (by simp)) _)
/-- A part of one's own and a reply are given. -/
def PartRep (r:PartT×RepT) (w:World) (e:Ending) (w':World):Prop:=∃A3 c3 A5 c5,e= .returned (.tuple #[.agg #[.string r.1.core.kind,.bool r.1.core.on,.bool r.1.core.broken,.slice A3 r.1.core.cells.length c3,.int .i64 r.1.core.count,.slice A5 r.1.layers.length c5],.agg #[.int .i64 r.2.code,.int .i64 r.2.value,.string r.2.text,.int .i64 r.2.want,.int .i64 r.2.had]])/\
 NewL w w' (partF r.1) [.string r.1.core.kind,.bool r.1.core.on,.bool r.1.core.broken,.slice A3 r.1.core.cells.length c3,.int .i64 r.1.core.count,.slice A5 r.1.layers.length c5]
theorem App.outP {w w0 w2 w3:World} {T:List Nat} {e:TypeId} {size n:Nat} {v:Value} {us:List Value} (h:App w0 w2 e size v n (us.map Dat.v)) (h0:Chg [] w w0) (hc:Chg T w2 w3) (hT:∀t,t∈T->w.heap.size<=t/\t∉ownL v):App w w3 e size v n (us.map Dat.v):=by
 obtain⟨xs,S',h1,h2,h3,h4,h5,h6⟩:=h
 have hS:=OwnL.plain_nil h2
 subst hS
 refine⟨xs,[],⟨h1.1,?_⟩,OwnL.keep hc _ xs [] (by simp) h2,h3,by simp,by simp,(h0.trans0 h6).trans hc (fun x hx=>.inr (hT x hx).1)⟩
 rcases h1.2 with hl|⟨g,cap,cur,rfl,hb,hg,r⟩
 ·exact .inl hl
 ·refine .inr ⟨g,cap,cur,rfl,Nat.le_trans h0.size hb,(hc.block g (Array.getElem?_eq_some_iff.1 hg).1 (fun hgT=>(hT g hgT).2 (by rw [ownL_mem];rfl))).trans hg,r⟩
theorem part_newL {p:PartT} {w w5:World} {s3 s5:Value} {S3:List Nat} (h3:Has w5 (cells p.core.cells) s3 S3) (hlo:∀x,x∈S3->w.heap.size<=x) (hA:App w w5 91 2 s5 p.layers.length ((layerU p.layers).map Dat.v)) (hd:∀x,x∈S3->x∉ownL s5):
  NewL w w5 (partF p) [.string p.core.kind,.bool p.core.on,.bool p.core.broken,s3,.int .i64 p.core.count,s5]:=by
 obtain⟨h5,h6⟩:=hA.has
 have hl:=HasL.append (HasL.one h3) (HasL.cons_v (x:=.int .i64 p.core.count) (HasL.one h5)) hd
 refine⟨S3++ownL s5,?_,fun x hx=>(List.mem_append.1 hx).elim (hlo x) (h6 x),hA.chg⟩
 rw [partF_eq,layers_plain]
 exact HasL.cons_v (HasL.cons_v (HasL.cons_v hl))
theorem PartNew.ends {p:PartT} {w wb w1 w2 w5:World} {s3 s5:Value} {g1 g2:Nat} (n1:PartNew p wb w1 s3 s5) (h0:Chg [] w wb) (h12:Chg [] w1 w2) (a1:w.heap.size<=g1) (a2:w.heap.size<=g2) (b1:g1<wb.heap.size) (b2:g2<wb.heap.size) (hc:Chg [g1,g2] w2 w5):
  NewL w w5 (partF p) [.string p.core.kind,.bool p.core.on,.bool p.core.broken,s3,.int .i64 p.core.count,s5]:=by
 obtain⟨⟨S3,h3,hS⟩,hA⟩:=n1
 have hA2:=hA.later h12
 have hlow:=hA.has.2
 have e0:=h0.size
 refine part_newL ((h3.keep0 h12).keep hc (fun x hx=>by have:=(hS x hx).1;simp;omega)) (fun x hx=>by have:=(hS x hx).1;omega) (hA2.outP h0 hc (fun t ht=>?_)) (fun x hx=>(hS x hx).2)
 refine⟨by simp at ht;omega,fun hx=>?_⟩
 have:=hlow t hx
 simp at ht
 omega
theorem PartNew.grown {p:PartT} {w wb w1 w3 w4 w5:World} {s3 s5 s6:Value} {g1 g2:Nat} {name:ByteArray} (n1:PartNew p wb w1 s3 s5) (h0:Chg [] w wb) (h13:Chg [] w1 w3) (hc4:Chg (ownL s5) w3 w4)
  (hA:App wb w4 91 2 s6 (p.layers.length+1) ((layerU p.layers).map Dat.v++ [Value.string name,Value.int .i64 0].map Dat.v)) (hat:s6.ownBlock=s5.ownBlock∨∃g,s6.ownBlock=some g/\w1.heap.size<g)
  (a1:w.heap.size<=g1) (a2:w.heap.size<=g2) (b1:g1<wb.heap.size) (b2:g2<wb.heap.size) (hc:Chg [w1.heap.size,g1,g2] w4 w5):
  NewL w w5 (partF ⟨p.core,p.layers++ [⟨name,0⟩]⟩) [.string p.core.kind,.bool p.core.on,.bool p.core.broken,s3,.int .i64 p.core.count,s6]:=by
 obtain⟨⟨S3,h3,hS⟩,hA1⟩:=n1
 have hlt:=h3.lt
 have hlow:=hA1.has.2
 have hlt5:=hA1.has.1.lt
 have e0:=h0.size
 have e1:=hA1.chg.size
 have hU:(layerU p.layers).map Dat.v++ [Value.string name,Value.int .i64 0].map Dat.v=(layerU (p.layers++ [⟨name,0⟩])).map Dat.v:=by simp [layerU]
 rw [hU] at hA
 have own6:∀x,x∈ownL s6->x∈ownL s5∨w1.heap.size<x:=by
  intro x hx
  rw [ownL_mem] at hx ⊢
  rcases hat with h|⟨g,h,hg⟩
  ·exact .inl (h.symm.trans hx)
  ·rw [hx] at h
   cases h
   exact .inr hg
 have h3':Has w5 (cells p.core.cells) s3 S3:=((h3.keep0 h13).keep hc4 (fun x hx=>(hS x hx).2)).keep hc (fun x hx=>by have:=(hS x hx).1;have:=hlt x hx;simp;omega)
 have hA5:App w w5 91 2 s6 (p.layers++ [(⟨name,0⟩:LayerT)]).length ((layerU (p.layers++ [(⟨name,0⟩:LayerT)])).map Dat.v):=by
  rw [List.length_append]
  refine App.outP hA h0 hc (fun t ht=>And.intro (by simp at ht;omega) (fun hx=>?_))
  rcases own6 t hx with h|h
  ·have:=hlow t h;have:=hlt5 t h;simp at ht;omega
  ·simp at ht;omega
 exact part_newL (p:=⟨p.core,p.layers++ [⟨name,0⟩]⟩) h3' (fun x hx=>by have:=(hS x hx).1;omega) hA5 (fun x hx hx6=>by
  rcases own6 x hx6 with h|h
  ·exact(hS x hx).2 h
  ·have:=hlt x hx;omega)
theorem wrap_impl_any (p:PartT) (name:ByteArray) (u3 u5:Value) (B:Nat) (w:World) (r3:Rd w B (cells p.core.cells) u3) (r5:Rd w B (layers p.layers) u5) (hB:B<=w.heap.size) (hl:p.layers.length<=1048576) (hcl:p.core.cells.length<=1048576) (hs:∀c∈p.core.cells,c.key.size<=1048576):
  Calls Tryz.prog 91 #[.agg #[.string p.core.kind,.bool p.core.on,.bool p.core.broken,u3,.int .i64 p.core.count,u5],.string name] w (PartRep (wrapOf p name) w):=by
 obtain⟨A3,cap3,rfl,_,_,_⟩:=cells_row r3
 obtain⟨A5,cap5,rfl,h0,h1,_⟩:=layers_row r5
 unfold maxLen at h1
 have CP:=hid (fun W (hW:Chg [] w W)=>copyPart_any p _ _ B W hl hcl (r3.chg0 hW hB) (r5.chg0 hW hB) (by have:=hW.size;omega))
 have FO:=hid (fun W (hW:Chg [] w W)=>faceOf_impl_any p (.slice A3 p.core.cells.length cap3) _ B W (r5.chg0 hW hB) (by have:=hW.size;omega))
 have IP:=hid (fun W (hW:Chg [] w W)=>isPart_impl_any p _ _ B W (r3.chg0 hW hB) (r5.chg0 hW hB) (by have:=hW.size;omega) hl hcl hs)
 have LF:=hid (fun W=>layerFaces_impl_any name W)
 obtain⟨o,ho⟩:∃o,o=layerOf name:=⟨_,rfl⟩
 rw [<-ho] at LF
 have HO:=hid ho.symm
 clear r3 r5 hs ho
 go_enter Tryz.func91,Tryz.ntmps91
 go_wp2_with fail
 refine(CP.out _ Chg.now).mono ?_
 rintro e w1 ⟨A4,cap4,A6,cap6,rfl,n1⟩
 have N1:=hid n1
 have c1:Chg [] (((w.alloc (.cells #[.string p.core.kind,.bool p.core.on,.bool p.core.broken,.slice A3 p.core.cells.length cap3,.int .i64 p.core.count,.slice A5 p.layers.length cap5] 50)).alloc (.cells #[.string ⟨#[]⟩,.bool false,.bool false,.slice none 0 0,.int .i64 0,.slice none 0 0] 50)).alloc (.cells #[.int .i64 0,.int .i64 0,.string ⟨#[]⟩,.int .i64 0,.int .i64 0] 93)) w1:=n1.2.chg
 have s1:=c1.size
 have v1:w.heap.size+3<=w1.heap.size:=by(try simp at s1)<;>omega
 obtain⟨ya1,za1,xa1,yb1,zb1,xb1,yc1,zc1,xc1, -⟩:=c1.low 3 w.heap.size (fun x hx=>by simp at hx)
 clear s1
 have E1:Hid (Chg [] w w1):=hid (Chg.trans0 Chg.now c1)
 clear c1 n1
 go_wp2_with fail
 refine(LF.out _).mono ?_
 rintro e w1b ⟨rfl,hw1b⟩
 subst hw1b
 go_wp2_with fail
 refine(IP.out _ (Chg.to E1.out)).mono ?_
 rintro e w2 ⟨t,rfl,ht,c2⟩
 have d12:Chg [] w1 w2:=Chg.trans0 Chg.now c2
 have yd2:=c2.ce w1.heap.size
 have zd2:=c2.fe w1.heap.size
 have xd2:w1.heap.size<w2.heap.size:=by have:=c2.size;(try simp at this)<;>omega
 have s2:=d12.size
 obtain⟨ya2,za2,xa2,yb2,zb2,xb2,yc2,zc2,xc2, -⟩:=d12.low 3 w.heap.size (fun x hx=>by simp at hx)
 clear s2
 obtain⟨eb0_2,eb1_2,eb2_2,eb3_2,eb4_2,eb5_2⟩:Cs6 w2 (w.heap.size+1) (.string ⟨#[]⟩) (.bool false) (.bool false) (.slice none 0 0) (.int .i64 0) (.slice none 0 0):=.of yb2
 obtain⟨ec0_2,ec1_2,ec2_2,ec3_2,ec4_2⟩:Cs5 w2 (w.heap.size+1+1) (.int .i64 0) (.int .i64 0) (.string ⟨#[]⟩) (.int .i64 0) (.int .i64 0):=.of yc2
 obtain⟨ed0_2,ed1_2,ed2_2,ed3_2,ed4_2,ed5_2⟩:Cs6 w2 (w1.heap.size) (.string p.core.kind) (.bool p.core.on) (.bool p.core.broken) (.slice A4 p.core.cells.length cap4) (.int .i64 p.core.count) (.slice A6 p.layers.length cap6):=.of yd2
 clear yb2 yc2 yd2
 have D12:=hid d12
 have HT:=hid ht
 clear d12 c2 ht
 cases t
 ·go_wp2_with fail
  refine bodyPost_ret (v:=.tuple #[.agg #[.string p.core.kind,.bool p.core.on,.bool p.core.broken,.slice A4 p.core.cells.length cap4,.int .i64 p.core.count,.slice A6 p.layers.length cap6],.agg #[.int .i64 7,.int .i64 0,.string ⟨#[]⟩,.int .i64 0,.int .i64 0]]) (by simp only [results,Tryz.results91];go_simp) rfl ?_
  rw [wrapOf_bad (fun h=>by have:=HT.out.2 h;simp at this)]
  refine⟨A4,cap4,_,_,rfl,?_⟩
  exact PartNew.ends (w:=w) (wb:=(((w.alloc (.cells #[.string p.core.kind,.bool p.core.on,.bool p.core.broken,.slice A3 p.core.cells.length cap3,.int .i64 p.core.count,.slice A5 p.layers.length cap5] 50)).alloc (.cells #[.string ⟨#[]⟩,.bool false,.bool false,.slice none 0 0,.int .i64 0,.slice none 0 0] 50)).alloc (.cells #[.int .i64 0,.int .i64 0,.string ⟨#[]⟩,.int .i64 0,.int .i64 0] 93))) (g1:=w.heap.size+1) (g2:=w.heap.size+1+1) N1.out Chg.now D12.out (by omega) (by omega) (by simp<;>omega) (by simp<;>omega) Chg.now
 ·have n1p:PartOk p:=HT.out.1 rfl
  have n5:p.layers.length<=3:=n1p.2.1
  have n6:=n1p
  clear n1p
  have N1P:=hid n6
  clear n6
  cases o with
  |none=>
   go_wp2_with fail
   refine bodyPost_ret (v:=.tuple #[.agg #[.string p.core.kind,.bool p.core.on,.bool p.core.broken,.slice A4 p.core.cells.length cap4,.int .i64 p.core.count,.slice A6 p.layers.length cap6],.agg #[.int .i64 7,.int .i64 0,.string ⟨#[]⟩,.int .i64 0,.int .i64 0]]) (by simp only [results,Tryz.results91];go_simp) rfl ?_
   rw [wrapOf_none HO.out]
   refine⟨A4,cap4,_,_,rfl,?_⟩
   exact PartNew.ends (w:=w) (wb:=(((w.alloc (.cells #[.string p.core.kind,.bool p.core.on,.bool p.core.broken,.slice A3 p.core.cells.length cap3,.int .i64 p.core.count,.slice A5 p.layers.length cap5] 50)).alloc (.cells #[.string ⟨#[]⟩,.bool false,.bool false,.slice none 0 0,.int .i64 0,.slice none 0 0] 50)).alloc (.cells #[.int .i64 0,.int .i64 0,.string ⟨#[]⟩,.int .i64 0,.int .i64 0] 93))) (g1:=w.heap.size+1) (g2:=w.heap.size+1+1) N1.out Chg.now D12.out (by omega) (by omega) (by simp<;>omega) (by simp<;>omega) Chg.now
  | some x=>
   have HX:=HO
   by_cases n3:3<=p.layers.length
   ·have i3:(3:Int)<=(p.layers.length:Int):=by omega
    have N3:=hid n3
    clear n3
    go_wp2_with fail
    refine bodyPost_ret (v:=.tuple #[.agg #[.string p.core.kind,.bool p.core.on,.bool p.core.broken,.slice A4 p.core.cells.length cap4,.int .i64 p.core.count,.slice A6 p.layers.length cap6],.agg #[.int .i64 5,.int .i64 0,.string ⟨#[]⟩,.int .i64 0,.int .i64 0]]) (by simp only [results,Tryz.results91];go_simp) rfl ?_
    rw [wrapOf_full HX.out N1P.out N3.out]
    refine⟨A4,cap4,_,_,rfl,?_⟩
    exact PartNew.ends (w:=w) (wb:=(((w.alloc (.cells #[.string p.core.kind,.bool p.core.on,.bool p.core.broken,.slice A3 p.core.cells.length cap3,.int .i64 p.core.count,.slice A5 p.layers.length cap5] 50)).alloc (.cells #[.string ⟨#[]⟩,.bool false,.bool false,.slice none 0 0,.int .i64 0,.slice none 0 0] 50)).alloc (.cells #[.int .i64 0,.int .i64 0,.string ⟨#[]⟩,.int .i64 0,.int .i64 0] 93))) (g1:=w.heap.size+1) (g2:=w.heap.size+1+1) N1.out Chg.now D12.out (by omega) (by omega) (by simp<;>omega) (by simp<;>omega) Chg.now
   ·have i3:(p.layers.length:Int)<3:=by omega
    have N3:=hid n3
    clear n3
    by_cases n4:Offer (faceAt p p.layers.length) x.1
    ·have OF:=hid (fun W=>(offers_impl_any (faceAt p p.layers.length) x.1 W).mono (BoolIs.pos n4))
     have N4:=hid n4
     clear n4
     go_wp2_with fail
     refine(FO.out _ (Chg.to (E1.out.trans0 D12.out))).mono ?_
     rintro e w3 ⟨rfl,c3⟩
     have s3:=c3.size
     have v3:w2.heap.size<=w3.heap.size:=by(try simp at s3)<;>omega
     obtain⟨ya3,za3,xa3,yb3,zb3,xb3,yc3,zc3,xc3, -⟩:=c3.low 3 w.heap.size (fun x hx=>by simp at hx)
     have yd3:=c3.ce w1.heap.size
     have zd3:=c3.fe w1.heap.size
     have xd3:w1.heap.size<w3.heap.size:=by omega
     clear s3
     obtain⟨eb0_3,eb1_3,eb2_3,eb3_3,eb4_3,eb5_3⟩:Cs6 w3 (w.heap.size+1) (.string ⟨#[]⟩) (.bool false) (.bool false) (.slice none 0 0) (.int .i64 0) (.slice none 0 0):=.of yb3
     obtain⟨ec0_3,ec1_3,ec2_3,ec3_3,ec4_3⟩:Cs5 w3 (w.heap.size+1+1) (.int .i64 0) (.int .i64 0) (.string ⟨#[]⟩) (.int .i64 0) (.int .i64 0):=.of yc3
     obtain⟨ed0_3,ed1_3,ed2_3,ed3_3,ed4_3,ed5_3⟩:Cs6 w3 (w1.heap.size) (.string p.core.kind) (.bool p.core.on) (.bool p.core.broken) (.slice A4 p.core.cells.length cap4) (.int .i64 p.core.count) (.slice A6 p.layers.length cap6):=.of yd3
     clear yb3 yc3 yd3
     have D13:Hid (Chg [] w1 w3):=hid (Chg.trans0 (Chg.to D12.out) c3)
     clear c3
     go_wp2_with fail
     refine(OF.out _).mono ?_
     rintro e w3b ⟨rfl,hw3⟩
     obtain rfl:=hw3.symm
     have hlow:=N1.out.2.has.2
     have hltA:=N1.out.2.has.1.lt
     have kb:w.heap.size+1∉ownL (.slice A6 p.layers.length cap6):=fun hx=>by have:=hlow _ hx;simp at this;omega
     have kc:w.heap.size+1+1∉ownL (.slice A6 p.layers.length cap6):=fun hx=>by have:=hlow _ hx;simp at this;omega
     have kd:w1.heap.size∉ownL (.slice A6 p.layers.length cap6):=fun hx=>by have:=hltA _ hx;omega
     go_wp2_with (at_builtin;refine wpList_appN rfl (.tmp 47) (.tmp 50) _ rfl rfl rfl (run_appN _ _ 91 _ 2 24 Tryz.underlying48 layer_info rfl (by omega) N1.out.2 (D13.out.alloc _) (some ⟨w3.heap.size,0,none⟩) 1 1 [.string name,.int .i64 0] rfl (fun _=>⟨w3.heap.size,0,rfl,fun j x hj=>by rw [Nat.zero_add];exact cell_lit _ _ _ (by simpa using hj)⟩) (by intro u hu;simp at hu;rcases hu with rfl|rfl<;>rfl) (by omega) (by omega)) ?_;rintro A7 cap7 w4 ⟨hA4,hc4,hat4⟩;(have yb4:=fun o=>hc4.cell (p:=⟨w.heap.size+1,o,none⟩) (by simp<;>omega) (fun hx=>by first|exact kb hx|(have:=kb;exact this hx)));(have yc4:=fun o=>hc4.cell (p:=⟨w.heap.size+1+1,o,none⟩) (by simp<;>omega) (fun hx=>by first|exact kc hx|(have:=kc;exact this hx)));(have yd4:=fun o=>hc4.cell (p:=⟨w1.heap.size,o,none⟩) (by simp<;>omega) (fun hx=>by first|exact kd hx|(have:=kd;exact this hx)));(have zb4:=fun o=>hc4.frozen (p:=⟨w.heap.size+1,o,none⟩) (by simp<;>omega) (fun hx=>by first|exact kb hx|(have:=kb;exact this hx)));(have zc4:=fun o=>hc4.frozen (p:=⟨w.heap.size+1+1,o,none⟩) (by simp<;>omega) (fun hx=>by first|exact kc hx|(have:=kc;exact this hx)));(have zd4:=fun o=>hc4.frozen (p:=⟨w1.heap.size,o,none⟩) (by simp<;>omega) (fun hx=>by first|exact kd hx|(have:=kd;exact this hx)));have t4:w1.heap.size<w4.heap.size:=(by have:=hc4.size;simp at this;omega);(obtain⟨eb0_4,eb1_4,eb2_4,eb3_4,eb4_4,eb5_4⟩:Cs6 w4 (w.heap.size+1) (.string ⟨#[]⟩) (.bool false) (.bool false) (.slice none 0 0) (.int .i64 0) (.slice none 0 0):=.of yb4);(obtain⟨ec0_4,ec1_4,ec2_4,ec3_4,ec4_4⟩:Cs5 w4 (w.heap.size+1+1) (.int .i64 0) (.int .i64 0) (.string ⟨#[]⟩) (.int .i64 0) (.int .i64 0):=.of yc4);(obtain⟨ed0_4,ed1_4,ed2_4,ed3_4,ed4_4,ed5_4⟩:Cs6 w4 (w1.heap.size) (.string p.core.kind) (.bool p.core.on) (.bool p.core.broken) (.slice A4 p.core.cells.length cap4) (.int .i64 p.core.count) (.slice A6 p.layers.length cap6):=.of yd4);(clear yb4 yc4 yd4);have t4a:w.heap.size+1<w4.heap.size:=(by omega);have t4b:w.heap.size+1+1<w4.heap.size:=(by omega);have t4c:w1.heap.size≠w.heap.size+1:=(by omega);have t4d:w1.heap.size≠w.heap.size+1+1:=(by omega);have HC4:=hid hc4;have HAT:=hid hat4;have HA4:=hid hA4;clear hc4 hat4 hA4)
     refine bodyPost_ret (v:=.tuple #[.agg #[.string p.core.kind,.bool p.core.on,.bool p.core.broken,.slice A4 p.core.cells.length cap4,.int .i64 p.core.count,.slice A7 (p.layers.length+1) cap7],.agg #[.int .i64 0,.int .i64 x.2,.string ⟨#[]⟩,.int .i64 0,.int .i64 0]]) (by simp only [results,Tryz.results91];go_simp) rfl ?_
     rw [wrapOf_done HX.out N1P.out N3.out N4.out]
     have hlen:(p.layers++ [(⟨name,0⟩:LayerT)]).length=p.layers.length+1:=by simp
     refine⟨A4,cap4,A7,cap7,?_,?_⟩
     ·dsimp only
      rw [hlen]
      rfl
     ·dsimp only
      rw [hlen]
      exact PartNew.grown (w:=w) (wb:=(((w.alloc (.cells #[.string p.core.kind,.bool p.core.on,.bool p.core.broken,.slice A3 p.core.cells.length cap3,.int .i64 p.core.count,.slice A5 p.layers.length cap5] 50)).alloc (.cells #[.string ⟨#[]⟩,.bool false,.bool false,.slice none 0 0,.int .i64 0,.slice none 0 0] 50)).alloc (.cells #[.int .i64 0,.int .i64 0,.string ⟨#[]⟩,.int .i64 0,.int .i64 0] 93))) (g1:=w.heap.size+1) (g2:=w.heap.size+1+1) N1.out Chg.now (D13.out.alloc _) HC4.out HA4.out (HAT.out.imp id (fun h=>⟨_,h,by simp<;>omega⟩)) (by omega) (by omega) (by simp<;>omega) (by simp<;>omega) Chg.now
    ·have OF:=hid (fun W=>(offers_impl_any (faceAt p p.layers.length) x.1 W).mono (BoolIs.neg n4))
     have N4:=hid n4
     clear n4
     go_wp2_with fail
     refine(FO.out _ (Chg.to (E1.out.trans0 D12.out))).mono ?_
     rintro e w3 ⟨rfl,c3⟩
     have s3:=c3.size
     have v3:w2.heap.size<=w3.heap.size:=by(try simp at s3)<;>omega
     obtain⟨ya3,za3,xa3,yb3,zb3,xb3,yc3,zc3,xc3, -⟩:=c3.low 3 w.heap.size (fun x hx=>by simp at hx)
     have yd3:=c3.ce w1.heap.size
     have zd3:=c3.fe w1.heap.size
     have xd3:w1.heap.size<w3.heap.size:=by omega
     clear s3
     obtain⟨eb0_3,eb1_3,eb2_3,eb3_3,eb4_3,eb5_3⟩:Cs6 w3 (w.heap.size+1) (.string ⟨#[]⟩) (.bool false) (.bool false) (.slice none 0 0) (.int .i64 0) (.slice none 0 0):=.of yb3
     obtain⟨ec0_3,ec1_3,ec2_3,ec3_3,ec4_3⟩:Cs5 w3 (w.heap.size+1+1) (.int .i64 0) (.int .i64 0) (.string ⟨#[]⟩) (.int .i64 0) (.int .i64 0):=.of yc3
     obtain⟨ed0_3,ed1_3,ed2_3,ed3_3,ed4_3,ed5_3⟩:Cs6 w3 (w1.heap.size) (.string p.core.kind) (.bool p.core.on) (.bool p.core.broken) (.slice A4 p.core.cells.length cap4) (.int .i64 p.core.count) (.slice A6 p.layers.length cap6):=.of yd3
     clear yb3 yc3 yd3
     have D13:Hid (Chg [] w1 w3):=hid (Chg.trans0 (Chg.to D12.out) c3)
     clear c3
     go_wp2_with fail
     refine(OF.out _).mono ?_
     rintro e w3b ⟨rfl,hw3⟩
     obtain rfl:=hw3.symm
     go_wp2_with fail
     go_region_law (first|(go_simp;go_at_call 19;(with_reducible refine(FO.out _ (Chg.to (E1.out.trans0 D13.out))).mono ?_);rintro e w4 ⟨rfl,c4⟩;(have s4:=c4.size);(have v4:w3.heap.size<=w4.heap.size:=by(try simp at s4)<;>omega);(have yb4:=c4.ce (w.heap.size+1));(have zb4:=c4.fe (w.heap.size+1));(have xb4:w.heap.size+1<w4.heap.size:=by omega);(have yc4:=c4.ce (w.heap.size+1+1));(have zc4:=c4.fe (w.heap.size+1+1));(have xc4:w.heap.size+1+1<w4.heap.size:=by omega);(have yd4:=c4.ce w1.heap.size);(have zd4:=c4.fe w1.heap.size);(have xd4:w1.heap.size<w4.heap.size:=by omega);(clear s4);(obtain⟨eb0_4,eb1_4,eb2_4,eb3_4,eb4_4,eb5_4⟩:Cs6 w4 (w.heap.size+1) (.string ⟨#[]⟩) (.bool false) (.bool false) (.slice none 0 0) (.int .i64 0) (.slice none 0 0):=.of yb4);(obtain⟨ec0_4,ec1_4,ec2_4,ec3_4,ec4_4⟩:Cs5 w4 (w.heap.size+1+1) (.int .i64 0) (.int .i64 0) (.string ⟨#[]⟩) (.int .i64 0) (.int .i64 0):=.of yc4);(obtain⟨ed0_4,ed1_4,ed2_4,ed3_4,ed4_4,ed5_4⟩:Cs6 w4 (w1.heap.size) (.string p.core.kind) (.bool p.core.on) (.bool p.core.broken) (.slice A4 p.core.cells.length cap4) (.int .i64 p.core.count) (.slice A6 p.layers.length cap6):=.of yd4);(clear yb4 yc4 yd4);(have D14:Hid (Chg [] w1 w4):=hid (Chg.trans0 (Chg.to D13.out) c4));clear c4;simp only [])|fail)
     all_goals
      go_wp2_with fail
      refine bodyPost_ret (v:=.tuple #[.agg #[.string p.core.kind,.bool p.core.on,.bool p.core.broken,.slice A4 p.core.cells.length cap4,.int .i64 p.core.count,.slice A6 p.layers.length cap6],.agg #[.int .i64 1,.int .i64 0,.string ⟨#[]⟩,.int .i64 x.1,.int .i64 (faceAt p p.layers.length)]]) (by simp only [results,Tryz.results91];go_simp) rfl ?_
      rw [wrapOf_lacks HX.out N1P.out N3.out N4.out]
      refine⟨A4,cap4,_,_,rfl,?_⟩
      exact PartNew.ends (w:=w) (wb:=(((w.alloc (.cells #[.string p.core.kind,.bool p.core.on,.bool p.core.broken,.slice A3 p.core.cells.length cap3,.int .i64 p.core.count,.slice A5 p.layers.length cap5] 50)).alloc (.cells #[.string ⟨#[]⟩,.bool false,.bool false,.slice none 0 0,.int .i64 0,.slice none 0 0] 50)).alloc (.cells #[.int .i64 0,.int .i64 0,.string ⟨#[]⟩,.int .i64 0,.int .i64 0] 93))) (g1:=w.heap.size+1) (g2:=w.heap.size+1+1) N1.out Chg.now D14.out (by omega) (by omega) (by simp<;>omega) (by simp<;>omega) Chg.now
theorem wrap_spec_any (p:PartT) (name:ByteArray) (u3 u5:Value) (B:Nat) (w:World) (r3:Rd w B (cells p.core.cells) u3) (r5:Rd w B (layers p.layers) u5) (hB:B<=w.heap.size) (hl:p.layers.length<=1048576) (hcl:p.core.cells.length<=1048576) (hs:∀c∈p.core.cells,c.key.size<=1048576):
  Calls Tryz.prog 75 #[.agg #[.string p.core.kind,.bool p.core.on,.bool p.core.broken,u3,.int .i64 p.core.count,u5],.string name] w (PartRep (wrapOf p name) w):=by
 obtain⟨A3,cap3,rfl,_,_,_⟩:=cells_row r3
 obtain⟨A5,cap5,rfl,h0,h1,_⟩:=layers_row r5
 unfold maxLen at h1
 have CP:=hid (fun W (hW:Chg [] w W)=>l4Copy_any p _ _ B W hl hcl (r3.chg0 hW hB) (r5.chg0 hW hB) (by have:=hW.size;omega))
 have FO:=hid (fun W (hW:Chg [] w W)=>faceOf_spec_any p (.slice A3 p.core.cells.length cap3) _ B W (r5.chg0 hW hB) (by have:=hW.size;omega))
 have IP:=hid (fun W (hW:Chg [] w W)=>isPart_spec_any p _ _ B W (r3.chg0 hW hB) (r5.chg0 hW hB) (by have:=hW.size;omega) hl hcl hs)
 have LF:=hid (fun W=>l4Row_any name W)
 obtain⟨o,ho⟩:∃o,o=layerOf name:=⟨_,rfl⟩
 rw [<-ho] at LF
 have HO:=hid ho.symm
 clear r3 r5 hs ho
 go_enter Tryz.func75,Tryz.ntmps75
 go_wp2_with fail
 refine(CP.out _ Chg.now).mono ?_
 rintro e w1 ⟨A4,cap4,A6,cap6,rfl,n1⟩
 have N1:=hid n1
 have c1:Chg [] (((w.alloc (.cells #[.string p.core.kind,.bool p.core.on,.bool p.core.broken,.slice A3 p.core.cells.length cap3,.int .i64 p.core.count,.slice A5 p.layers.length cap5] 50)).alloc (.cells #[.string ⟨#[]⟩,.bool false,.bool false,.slice none 0 0,.int .i64 0,.slice none 0 0] 50)).alloc (.cells #[.int .i64 0,.int .i64 0,.string ⟨#[]⟩,.int .i64 0,.int .i64 0] 93)) w1:=n1.2.chg
 have s1:=c1.size
 have v1:w.heap.size+3<=w1.heap.size:=by(try simp at s1)<;>omega
 obtain⟨ya1,za1,xa1,yb1,zb1,xb1,yc1,zc1,xc1, -⟩:=c1.low 3 w.heap.size (fun x hx=>by simp at hx)
 clear s1
 have E1:Hid (Chg [] w w1):=hid (Chg.trans0 Chg.now c1)
 clear c1 n1
 go_wp2_with fail
 refine(LF.out _).mono ?_
 rintro e w1b ⟨rfl,c1b⟩
 have s1b:=c1b.size
 have v1b:w1.heap.size+1<=w1b.heap.size:=by(try simp at s1b)<;>omega
 obtain⟨ya1b,za1b,xa1b,yb1b,zb1b,xb1b,yc1b,zc1b,xc1b, -⟩:=c1b.low 3 w.heap.size (fun x hx=>by simp at hx)
 clear s1b
 have yd1b:=c1b.ce w1.heap.size
 have zd1b:=c1b.fe w1.heap.size
 have xd1b:w1.heap.size<w1b.heap.size:=by omega
 have d1b:Hid (Chg [] w1 w1b):=hid (Chg.trans0 Chg.now c1b)
 clear c1b
 go_wp2_with fail
 refine(IP.out _ (Chg.to (E1.out.trans0 d1b.out))).mono ?_
 rintro e w2 ⟨t,rfl,ht,c2⟩
 have d12:Chg [] w1 w2:=Chg.trans0 (Chg.to d1b.out) c2
 have yd2:=c2.ce w1.heap.size
 have zd2:=c2.fe w1.heap.size
 have xd2:w1.heap.size<w2.heap.size:=by have:=c2.size;(try simp at this)<;>omega
 have s2:=d12.size
 obtain⟨ya2,za2,xa2,yb2,zb2,xb2,yc2,zc2,xc2, -⟩:=d12.low 3 w.heap.size (fun x hx=>by simp at hx)
 clear s2
 obtain⟨eb0_2,eb1_2,eb2_2,eb3_2,eb4_2,eb5_2⟩:Cs6 w2 (w.heap.size+1) (.string ⟨#[]⟩) (.bool false) (.bool false) (.slice none 0 0) (.int .i64 0) (.slice none 0 0):=.of yb2
 obtain⟨ec0_2,ec1_2,ec2_2,ec3_2,ec4_2⟩:Cs5 w2 (w.heap.size+1+1) (.int .i64 0) (.int .i64 0) (.string ⟨#[]⟩) (.int .i64 0) (.int .i64 0):=.of yc2
 obtain⟨ed0_2,ed1_2,ed2_2,ed3_2,ed4_2,ed5_2⟩:Cs6 w2 (w1.heap.size) (.string p.core.kind) (.bool p.core.on) (.bool p.core.broken) (.slice A4 p.core.cells.length cap4) (.int .i64 p.core.count) (.slice A6 p.layers.length cap6):=.of yd2
 clear yb2 yc2 yd2
 have D12:=hid d12
 have HT:=hid ht
 clear d12 c2 ht
 cases t
 ·go_wp2_with fail
  refine bodyPost_ret (v:=.tuple #[.agg #[.string p.core.kind,.bool p.core.on,.bool p.core.broken,.slice A4 p.core.cells.length cap4,.int .i64 p.core.count,.slice A6 p.layers.length cap6],.agg #[.int .i64 7,.int .i64 0,.string ⟨#[]⟩,.int .i64 0,.int .i64 0]]) (by simp only [results,Tryz.results75];go_simp) rfl ?_
  rw [wrapOf_bad (fun h=>by have:=HT.out.2 h;simp at this)]
  refine⟨A4,cap4,_,_,rfl,?_⟩
  exact PartNew.ends (w:=w) (wb:=(((w.alloc (.cells #[.string p.core.kind,.bool p.core.on,.bool p.core.broken,.slice A3 p.core.cells.length cap3,.int .i64 p.core.count,.slice A5 p.layers.length cap5] 50)).alloc (.cells #[.string ⟨#[]⟩,.bool false,.bool false,.slice none 0 0,.int .i64 0,.slice none 0 0] 50)).alloc (.cells #[.int .i64 0,.int .i64 0,.string ⟨#[]⟩,.int .i64 0,.int .i64 0] 93))) (g1:=w.heap.size+1) (g2:=w.heap.size+1+1) N1.out Chg.now D12.out (by omega) (by omega) (by simp<;>omega) (by simp<;>omega) Chg.now
 ·have n1p:PartOk p:=HT.out.1 rfl
  have n5:p.layers.length<=3:=n1p.2.1
  have n6:=n1p
  clear n1p
  have N1P:=hid n6
  clear n6
  cases o with
  |none=>
   go_wp2_with fail
   refine bodyPost_ret (v:=.tuple #[.agg #[.string p.core.kind,.bool p.core.on,.bool p.core.broken,.slice A4 p.core.cells.length cap4,.int .i64 p.core.count,.slice A6 p.layers.length cap6],.agg #[.int .i64 7,.int .i64 0,.string ⟨#[]⟩,.int .i64 0,.int .i64 0]]) (by simp only [results,Tryz.results75];go_simp) rfl ?_
   rw [wrapOf_none HO.out]
   refine⟨A4,cap4,_,_,rfl,?_⟩
   exact PartNew.ends (w:=w) (wb:=(((w.alloc (.cells #[.string p.core.kind,.bool p.core.on,.bool p.core.broken,.slice A3 p.core.cells.length cap3,.int .i64 p.core.count,.slice A5 p.layers.length cap5] 50)).alloc (.cells #[.string ⟨#[]⟩,.bool false,.bool false,.slice none 0 0,.int .i64 0,.slice none 0 0] 50)).alloc (.cells #[.int .i64 0,.int .i64 0,.string ⟨#[]⟩,.int .i64 0,.int .i64 0] 93))) (g1:=w.heap.size+1) (g2:=w.heap.size+1+1) N1.out Chg.now D12.out (by omega) (by omega) (by simp<;>omega) (by simp<;>omega) Chg.now
  | some x=>
   have HX:=HO
   by_cases n3:3<=p.layers.length
   ·have i3:(p.layers.length:Int)=3:=by omega
    have N3:=hid n3
    clear n3
    go_wp2_with fail
    refine bodyPost_ret (v:=.tuple #[.agg #[.string p.core.kind,.bool p.core.on,.bool p.core.broken,.slice A4 p.core.cells.length cap4,.int .i64 p.core.count,.slice A6 p.layers.length cap6],.agg #[.int .i64 5,.int .i64 0,.string ⟨#[]⟩,.int .i64 0,.int .i64 0]]) (by simp only [results,Tryz.results75];go_simp) rfl ?_
    rw [wrapOf_full HX.out N1P.out N3.out]
    refine⟨A4,cap4,_,_,rfl,?_⟩
    exact PartNew.ends (w:=w) (wb:=(((w.alloc (.cells #[.string p.core.kind,.bool p.core.on,.bool p.core.broken,.slice A3 p.core.cells.length cap3,.int .i64 p.core.count,.slice A5 p.layers.length cap5] 50)).alloc (.cells #[.string ⟨#[]⟩,.bool false,.bool false,.slice none 0 0,.int .i64 0,.slice none 0 0] 50)).alloc (.cells #[.int .i64 0,.int .i64 0,.string ⟨#[]⟩,.int .i64 0,.int .i64 0] 93))) (g1:=w.heap.size+1) (g2:=w.heap.size+1+1) N1.out Chg.now D12.out (by omega) (by omega) (by simp<;>omega) (by simp<;>omega) Chg.now
   ·have i3:((p.layers.length:Int)==3)=false:=by simp;omega
    have N3:=hid n3
    clear n3
    by_cases n4:Offer (faceAt p p.layers.length) x.1
    ·have OF:=hid (fun W=>(offers_spec_any (faceAt p p.layers.length) x.1 W).mono (BoolIs.pos n4))
     have N4:=hid n4
     clear n4
     go_wp2_with fail
     refine(FO.out _ (Chg.to (E1.out.trans0 D12.out))).mono ?_
     rintro e w3 ⟨rfl,c3⟩
     have s3:=c3.size
     have v3:w2.heap.size<=w3.heap.size:=by(try simp at s3)<;>omega
     obtain⟨ya3,za3,xa3,yb3,zb3,xb3,yc3,zc3,xc3, -⟩:=c3.low 3 w.heap.size (fun x hx=>by simp at hx)
     have yd3:=c3.ce w1.heap.size
     have zd3:=c3.fe w1.heap.size
     have xd3:w1.heap.size<w3.heap.size:=by omega
     clear s3
     obtain⟨eb0_3,eb1_3,eb2_3,eb3_3,eb4_3,eb5_3⟩:Cs6 w3 (w.heap.size+1) (.string ⟨#[]⟩) (.bool false) (.bool false) (.slice none 0 0) (.int .i64 0) (.slice none 0 0):=.of yb3
     obtain⟨ec0_3,ec1_3,ec2_3,ec3_3,ec4_3⟩:Cs5 w3 (w.heap.size+1+1) (.int .i64 0) (.int .i64 0) (.string ⟨#[]⟩) (.int .i64 0) (.int .i64 0):=.of yc3
     obtain⟨ed0_3,ed1_3,ed2_3,ed3_3,ed4_3,ed5_3⟩:Cs6 w3 (w1.heap.size) (.string p.core.kind) (.bool p.core.on) (.bool p.core.broken) (.slice A4 p.core.cells.length cap4) (.int .i64 p.core.count) (.slice A6 p.layers.length cap6):=.of yd3
     clear yb3 yc3 yd3
     have D13:Hid (Chg [] w1 w3):=hid (Chg.trans0 (Chg.to D12.out) c3)
     clear c3
     go_wp2_with fail
     refine(OF.out _).mono ?_
     rintro e w3b ⟨rfl,hw3⟩
     obtain rfl:=hw3.symm
     have hlow:=N1.out.2.has.2
     have hltA:=N1.out.2.has.1.lt
     have kb:w.heap.size+1∉ownL (.slice A6 p.layers.length cap6):=fun hx=>by have:=hlow _ hx;simp at this;omega
     have kc:w.heap.size+1+1∉ownL (.slice A6 p.layers.length cap6):=fun hx=>by have:=hlow _ hx;simp at this;omega
     have kd:w1.heap.size∉ownL (.slice A6 p.layers.length cap6):=fun hx=>by have:=hltA _ hx;omega
     go_wp2_with (at_builtin;refine wpList_appN rfl (.tmp 47) (.tmp 50) _ rfl rfl rfl (run_appN _ _ 91 _ 2 24 Tryz.underlying48 layer_info rfl (by omega) N1.out.2 (D13.out.alloc _) (some ⟨w3.heap.size,0,none⟩) 1 1 [.string name,.int .i64 0] rfl (fun _=>⟨w3.heap.size,0,rfl,fun j x hj=>by rw [Nat.zero_add];exact cell_lit _ _ _ (by simpa using hj)⟩) (by intro u hu;simp at hu;rcases hu with rfl|rfl<;>rfl) (by omega) (by omega)) ?_;rintro A7 cap7 w4 ⟨hA4,hc4,hat4⟩;(have yb4:=fun o=>hc4.cell (p:=⟨w.heap.size+1,o,none⟩) (by simp<;>omega) (fun hx=>by first|exact kb hx|(have:=kb;exact this hx)));(have yc4:=fun o=>hc4.cell (p:=⟨w.heap.size+1+1,o,none⟩) (by simp<;>omega) (fun hx=>by first|exact kc hx|(have:=kc;exact this hx)));(have yd4:=fun o=>hc4.cell (p:=⟨w1.heap.size,o,none⟩) (by simp<;>omega) (fun hx=>by first|exact kd hx|(have:=kd;exact this hx)));(have zb4:=fun o=>hc4.frozen (p:=⟨w.heap.size+1,o,none⟩) (by simp<;>omega) (fun hx=>by first|exact kb hx|(have:=kb;exact this hx)));(have zc4:=fun o=>hc4.frozen (p:=⟨w.heap.size+1+1,o,none⟩) (by simp<;>omega) (fun hx=>by first|exact kc hx|(have:=kc;exact this hx)));(have zd4:=fun o=>hc4.frozen (p:=⟨w1.heap.size,o,none⟩) (by simp<;>omega) (fun hx=>by first|exact kd hx|(have:=kd;exact this hx)));have t4:w1.heap.size<w4.heap.size:=(by have:=hc4.size;simp at this;omega);(obtain⟨eb0_4,eb1_4,eb2_4,eb3_4,eb4_4,eb5_4⟩:Cs6 w4 (w.heap.size+1) (.string ⟨#[]⟩) (.bool false) (.bool false) (.slice none 0 0) (.int .i64 0) (.slice none 0 0):=.of yb4);(obtain⟨ec0_4,ec1_4,ec2_4,ec3_4,ec4_4⟩:Cs5 w4 (w.heap.size+1+1) (.int .i64 0) (.int .i64 0) (.string ⟨#[]⟩) (.int .i64 0) (.int .i64 0):=.of yc4);(obtain⟨ed0_4,ed1_4,ed2_4,ed3_4,ed4_4,ed5_4⟩:Cs6 w4 (w1.heap.size) (.string p.core.kind) (.bool p.core.on) (.bool p.core.broken) (.slice A4 p.core.cells.length cap4) (.int .i64 p.core.count) (.slice A6 p.layers.length cap6):=.of yd4);(clear yb4 yc4 yd4);have t4a:w.heap.size+1<w4.heap.size:=(by omega);have t4b:w.heap.size+1+1<w4.heap.size:=(by omega);have t4c:w1.heap.size≠w.heap.size+1:=(by omega);have t4d:w1.heap.size≠w.heap.size+1+1:=(by omega);have HC4:=hid hc4;have HAT:=hid hat4;have HA4:=hid hA4;clear hc4 hat4 hA4)
     refine bodyPost_ret (v:=.tuple #[.agg #[.string p.core.kind,.bool p.core.on,.bool p.core.broken,.slice A4 p.core.cells.length cap4,.int .i64 p.core.count,.slice A7 (p.layers.length+1) cap7],.agg #[.int .i64 0,.int .i64 x.2,.string ⟨#[]⟩,.int .i64 0,.int .i64 0]]) (by simp only [results,Tryz.results75];go_simp) rfl ?_
     rw [wrapOf_done HX.out N1P.out N3.out N4.out]
     have hlen:(p.layers++ [(⟨name,0⟩:LayerT)]).length=p.layers.length+1:=by simp
     refine⟨A4,cap4,A7,cap7,?_,?_⟩
     ·dsimp only
      rw [hlen]
      rfl
     ·dsimp only
      rw [hlen]
      exact PartNew.grown (w:=w) (wb:=(((w.alloc (.cells #[.string p.core.kind,.bool p.core.on,.bool p.core.broken,.slice A3 p.core.cells.length cap3,.int .i64 p.core.count,.slice A5 p.layers.length cap5] 50)).alloc (.cells #[.string ⟨#[]⟩,.bool false,.bool false,.slice none 0 0,.int .i64 0,.slice none 0 0] 50)).alloc (.cells #[.int .i64 0,.int .i64 0,.string ⟨#[]⟩,.int .i64 0,.int .i64 0] 93))) (g1:=w.heap.size+1) (g2:=w.heap.size+1+1) N1.out Chg.now (D13.out.alloc _) HC4.out HA4.out (HAT.out.imp id (fun h=>⟨_,h,by simp<;>omega⟩)) (by omega) (by omega) (by simp<;>omega) (by simp<;>omega) Chg.now
    ·have OF:=hid (fun W=>(offers_spec_any (faceAt p p.layers.length) x.1 W).mono (BoolIs.neg n4))
     have N4:=hid n4
     clear n4
     go_wp2_with fail
     refine(FO.out _ (Chg.to (E1.out.trans0 D12.out))).mono ?_
     rintro e w3 ⟨rfl,c3⟩
     have s3:=c3.size
     have v3:w2.heap.size<=w3.heap.size:=by(try simp at s3)<;>omega
     obtain⟨ya3,za3,xa3,yb3,zb3,xb3,yc3,zc3,xc3, -⟩:=c3.low 3 w.heap.size (fun x hx=>by simp at hx)
     have yd3:=c3.ce w1.heap.size
     have zd3:=c3.fe w1.heap.size
     have xd3:w1.heap.size<w3.heap.size:=by omega
     clear s3
     obtain⟨eb0_3,eb1_3,eb2_3,eb3_3,eb4_3,eb5_3⟩:Cs6 w3 (w.heap.size+1) (.string ⟨#[]⟩) (.bool false) (.bool false) (.slice none 0 0) (.int .i64 0) (.slice none 0 0):=.of yb3
     obtain⟨ec0_3,ec1_3,ec2_3,ec3_3,ec4_3⟩:Cs5 w3 (w.heap.size+1+1) (.int .i64 0) (.int .i64 0) (.string ⟨#[]⟩) (.int .i64 0) (.int .i64 0):=.of yc3
     obtain⟨ed0_3,ed1_3,ed2_3,ed3_3,ed4_3,ed5_3⟩:Cs6 w3 (w1.heap.size) (.string p.core.kind) (.bool p.core.on) (.bool p.core.broken) (.slice A4 p.core.cells.length cap4) (.int .i64 p.core.count) (.slice A6 p.layers.length cap6):=.of yd3
     clear yb3 yc3 yd3
     have D13:Hid (Chg [] w1 w3):=hid (Chg.trans0 (Chg.to D12.out) c3)
     clear c3
     go_wp2_with fail
     refine(OF.out _).mono ?_
     rintro e w3b ⟨rfl,hw3⟩
     obtain rfl:=hw3.symm
     go_wp2_with fail
     go_region_law (first|(go_simp;go_at_call 77;(with_reducible refine(FO.out _ (Chg.to (E1.out.trans0 D13.out))).mono ?_);rintro e w4 ⟨rfl,c4⟩;(have s4:=c4.size);(have v4:w3.heap.size<=w4.heap.size:=by(try simp at s4)<;>omega);(have yb4:=c4.ce (w.heap.size+1));(have zb4:=c4.fe (w.heap.size+1));(have xb4:w.heap.size+1<w4.heap.size:=by omega);(have yc4:=c4.ce (w.heap.size+1+1));(have zc4:=c4.fe (w.heap.size+1+1));(have xc4:w.heap.size+1+1<w4.heap.size:=by omega);(have yd4:=c4.ce w1.heap.size);(have zd4:=c4.fe w1.heap.size);(have xd4:w1.heap.size<w4.heap.size:=by omega);(clear s4);(obtain⟨eb0_4,eb1_4,eb2_4,eb3_4,eb4_4,eb5_4⟩:Cs6 w4 (w.heap.size+1) (.string ⟨#[]⟩) (.bool false) (.bool false) (.slice none 0 0) (.int .i64 0) (.slice none 0 0):=.of yb4);(obtain⟨ec0_4,ec1_4,ec2_4,ec3_4,ec4_4⟩:Cs5 w4 (w.heap.size+1+1) (.int .i64 0) (.int .i64 0) (.string ⟨#[]⟩) (.int .i64 0) (.int .i64 0):=.of yc4);(obtain⟨ed0_4,ed1_4,ed2_4,ed3_4,ed4_4,ed5_4⟩:Cs6 w4 (w1.heap.size) (.string p.core.kind) (.bool p.core.on) (.bool p.core.broken) (.slice A4 p.core.cells.length cap4) (.int .i64 p.core.count) (.slice A6 p.layers.length cap6):=.of yd4);(clear yb4 yc4 yd4);(have D14:Hid (Chg [] w1 w4):=hid (Chg.trans0 (Chg.to D13.out) c4));clear c4;simp only [])|fail)
     all_goals
      go_wp2_with fail
      refine bodyPost_ret (v:=.tuple #[.agg #[.string p.core.kind,.bool p.core.on,.bool p.core.broken,.slice A4 p.core.cells.length cap4,.int .i64 p.core.count,.slice A6 p.layers.length cap6],.agg #[.int .i64 1,.int .i64 0,.string ⟨#[]⟩,.int .i64 x.1,.int .i64 (faceAt p p.layers.length)]]) (by simp only [results,Tryz.results75];go_simp) rfl ?_
      rw [wrapOf_lacks HX.out N1P.out N3.out N4.out]
      refine⟨A4,cap4,_,_,rfl,?_⟩
      exact PartNew.ends (w:=w) (wb:=(((w.alloc (.cells #[.string p.core.kind,.bool p.core.on,.bool p.core.broken,.slice A3 p.core.cells.length cap3,.int .i64 p.core.count,.slice A5 p.layers.length cap5] 50)).alloc (.cells #[.string ⟨#[]⟩,.bool false,.bool false,.slice none 0 0,.int .i64 0,.slice none 0 0] 50)).alloc (.cells #[.int .i64 0,.int .i64 0,.string ⟨#[]⟩,.int .i64 0,.int .i64 0] 93))) (g1:=w.heap.size+1) (g2:=w.heap.size+1+1) N1.out Chg.now D14.out (by omega) (by omega) (by simp<;>omega) (by simp<;>omega) Chg.now
end Go.Proofs.YtdlkbomojjmnlaaGreatDoor
