/- What Wrap. Conditions: as stated. -/
import Derived.Test.YtfjhdnjlhjimeaaGreatDoorParts
import Derived.Test.YtfjhdnjlhjimeaaGreatDoorApps
import Derived.Deep.RegionLaw
set_option maxRecDepth 100000
set_option maxHeartbeats 8000000
namespace Go.Proofs.YtfjhdnjlhjimeaaGreatDoor
open Go.RowKit

structure Uw where
 code:Int
 value:Int
 text:ByteArray
 want:Int
 had:Int
def Qf (code value want had:Int):Uw:=⟨code,value,⟨#[]⟩,want,had⟩
open Classical in
noncomputable def QY (p:Qe) (name:ByteArray):Qe×Uw:=
 match Qj name with
 |none=>(p,Qf 7 0 0 0)
 |some x=>if ¬Qn p then(p,Qf 7 0 0 0) else if 3<=p.layers.length then(p,Qf 5 0 0 0)
  else if ¬ZL (Qq p p.layers.length) x.1 then(p,Qf 1 0 x.1 (Qq p p.layers.length)) else(⟨p.core,p.layers++ [⟨name,0⟩]⟩,Qf 0 x.2 0 0)
theorem Vm {p:Qe} {name:ByteArray} (h:Qj name=none):QY p name=(p,Qf 7 0 0 0):=by unfold QY;rw [h]
theorem QbJ {p:Qe} {name:ByteArray} (h:¬Qn p):QY p name=(p,Qf 7 0 0 0):=by
 unfold QY
 cases Qj name with
 |none=>rfl
 |some x=>simp only [h,not_false_eq_true,if_true]
theorem WG {p:Qe} {name:ByteArray} {x:Int×Int} (h:Qj name=some x) (h1:Qn p) (h2:3<=p.layers.length):QY p name=(p,Qf 5 0 0 0):=by
 unfold QY;rw [h];simp only [h1,h2,not_true_eq_false,if_true,if_false]
theorem VM {p:Qe} {name:ByteArray} {x:Int×Int} (h:Qj name=some x) (h1:Qn p) (h2:¬3<=p.layers.length) (h3:¬ZL (Qq p p.layers.length) x.1):QY p name=(p,Qf 1 0 x.1 (Qq p p.layers.length)):=by
 unfold QY;rw [h];simp only [h1,h2,h3,not_true_eq_false,not_false_eq_true,if_true,if_false]
theorem Vw {p:Qe} {name:ByteArray} {x:Int×Int} (h:Qj name=some x) (h1:Qn p) (h2:¬3<=p.layers.length) (h3:ZL (Qq p p.layers.length) x.1):QY p name=(⟨p.core,p.layers++ [⟨name,0⟩]⟩,Qf 0 x.2 0 0):=by
 unfold QY;rw [h];simp only [h1,h2,h3,not_true_eq_false,if_false]
noncomputable def ZX:Qe->List ByteArray->Qe×Uw
 |p,[]=>(p,Qf 0 (Qq p p.layers.length) 0 0)
 |p,n::r=>if(QY p n).2.code=0 then ZX (QY p n).1 r else(Zb,(QY p n).2)
def Xu (kind:ByteArray):Qe:=⟨⟨kind,false,false,[],0⟩,[]⟩
noncomputable def Ys:List ByteArray->Qe×Uw
 | []=>(Zb,Qf 7 0 0 0)
 |k::r=>match Qo k with
  |none=>(Zb,Qf 7 0 0 0)
  |some _=>ZX (Xu k) r
noncomputable def Wd:List ByteArray->Option Ql
 | []=>some ⟨false,Zb⟩
 |k::r=>if(Ys (k::r)).2.code=0 then some ⟨true,(Ys (k::r)).1⟩ else none
def Gx (l:List (List ByteArray)):Prop:=l.length=3/\∀x∈l,(Wd x).isSome=true
noncomputable def JB (l:List (List ByteArray)):List Ql:=l.map fun x=>(Wd x).getD ⟨false,Zb⟩
def Qgt (a b:World):Nat->Nat->Prop
 |0,_=>True
 |m+1,n=>(∀o,b.cell? ⟨n,o,none⟩=a.cell? ⟨n,o,none⟩)/\(∀o,b.frozen? ⟨n,o,none⟩=a.frozen? ⟨n,o,none⟩)/\n<b.heap.size/\Qgt a b m (n+1)
theorem Qc.low' {S:List Nat} {a b:World} (h:Qc S a b):∀(m n:Nat),(∀x,x∈S->x<n∨n+m<=x)->n+m<=a.heap.size->Qgt a b m n
 |0,_,_,_=>trivial
 |m+1,n,hS,hm=>⟨h.ce n (by omega) (fun hx=>by have:=hS n hx;omega),h.fe n (by omega) (fun hx=>by have:=hS n hx;omega),by have:=h.size;omega,h.low' m (n+1) (fun x hx=>by have:=hS x hx;omega) (by omega)⟩
theorem Qc.low {S:List Nat} {a b:World} (h:Qc S a b) (m n:Nat) (hS:∀x,x∈S->x<n∨n+m<=x) (hm:n+m<=a.heap.size:=by first|omega|(simp;done)|(simp;omega)):Qgt a b m n:=h.low' m n hS hm
def Cs5 (W:World) (b:Nat) (v0 v1 v2 v3 v4:Value):Prop:=W.cell? ⟨b,0,none⟩=some v0/\W.cell? ⟨b,1,none⟩=some v1/\W.cell? ⟨b,2,none⟩=some v2/\W.cell? ⟨b,3,none⟩=some v3/\W.cell? ⟨b,4,none⟩=some v4
theorem Cs5.of {W V:World} {b:Nat} {v0 v1 v2 v3 v4:Value} (y:∀o,W.cell? ⟨b,o,none⟩=V.cell? ⟨b,o,none⟩)
  (h0:V.cell? ⟨b,0,none⟩=some v0:=by first|go_cell_look|go_simp) (h1:V.cell? ⟨b,1,none⟩=some v1:=by first|go_cell_look|go_simp) (h2:V.cell? ⟨b,2,none⟩=some v2:=by first|go_cell_look|go_simp) (h3:V.cell? ⟨b,3,none⟩=some v3:=by first|go_cell_look|go_simp) (h4:V.cell? ⟨b,4,none⟩=some v4:=by first|go_cell_look|go_simp):Cs5 W b v0 v1 v2 v3 v4:=⟨(y 0).trans h0,(y 1).trans h1,(y 2).trans h2,(y 3).trans h3,(y 4).trans h4⟩
def Cs6 (W:World) (b:Nat) (v0 v1 v2 v3 v4 v5:Value):Prop:=W.cell? ⟨b,0,none⟩=some v0/\W.cell? ⟨b,1,none⟩=some v1/\W.cell? ⟨b,2,none⟩=some v2/\W.cell? ⟨b,3,none⟩=some v3/\W.cell? ⟨b,4,none⟩=some v4/\W.cell? ⟨b,5,none⟩=some v5
theorem Cs6.of {W V:World} {b:Nat} {v0 v1 v2 v3 v4 v5:Value} (y:∀o,W.cell? ⟨b,o,none⟩=V.cell? ⟨b,o,none⟩)
  (h0:V.cell? ⟨b,0,none⟩=some v0:=by first|go_cell_look|go_simp) (h1:V.cell? ⟨b,1,none⟩=some v1:=by first|go_cell_look|go_simp) (h2:V.cell? ⟨b,2,none⟩=some v2:=by first|go_cell_look|go_simp) (h3:V.cell? ⟨b,3,none⟩=some v3:=by first|go_cell_look|go_simp) (h4:V.cell? ⟨b,4,none⟩=some v4:=by first|go_cell_look|go_simp) (h5:V.cell? ⟨b,5,none⟩=some v5:=by first|go_cell_look|go_simp):Cs6 W b v0 v1 v2 v3 v4 v5:=⟨(y 0).trans h0,(y 1).trans h1,(y 2).trans h2,(y 3).trans h3,(y 4).trans h4,(y 5).trans h5⟩
def Zt (l:List QC):List Value:=l.flatMap fun c=>[.string c.key,.int .i64 c.value]
def Yt (l:List ZZ):List Value:=l.flatMap fun c=>[.string c.name,.int .i64 c.count]
theorem WI (l:List QC):cells l= .s l.length ((Zt l).map QD.v):=by
 unfold cells Zt
 congr 1
 induction l with
 |nil=>rfl
 |cons a l ih=>simp [ih,wE]
theorem Uy (l:List ZZ):layers l= .s l.length ((Yt l).map QD.v):=by
 unfold layers Yt
 congr 1
 induction l with
 |nil=>rfl
 |cons a l ih=>simp [ih,uL]
theorem XR (l:List QC):(Zt l).length=l.length * 2:=by
 unfold Zt
 induction l with
 |nil=>rfl
 |cons a l ih=>simp [ih];omega
theorem Qbs (l:List ZZ):(Yt l).length=l.length * 2:=by
 unfold Yt
 induction l with
 |nil=>rfl
 |cons a l ih=>simp [ih];omega
theorem Yi (l:List QC):∀u∈Zt l,u.oneCell'=true:=by
 intro u hu
 unfold Zt at hu
 simp only [Y7] at hu
 obtain⟨c,_,hc⟩:=hu
 simp at hc
 rcases hc with rfl|rfl<;>rfl
theorem Qbe (l:List ZZ):∀u∈Yt l,u.oneCell'=true:=by
 intro u hu
 unfold Yt at hu
 simp only [Y7] at hu
 obtain⟨c,_,hc⟩:=hu
 simp at hc
 rcases hc with rfl|rfl<;>rfl
theorem qt.two {w wb w2 w3:World} {d:QD} {u:Value} (h:qt wb w2 d u) (h0:Qc [] w wb) {g0 g1:Nat} (a0:w.heap.size<=g0) (a1:w.heap.size<=g1) (b0:g0<wb.heap.size) (b1:g1<wb.heap.size) (hc:Qc [g0,g1] w2 w3):qt w w3 d u:=by
 obtain⟨S,h1,h2,h3⟩:=h
 exact⟨S,h1.keep hc (fun x hx=>by have:=h2 x hx;simp;omega),fun x hx=>G5 h0.size (h2 x hx),(h0.tz h3).trans hc (by simp;omega)⟩
def YG (p:Qe) (w w':World) (s3 s5:Value):Prop:=(∃S3,Yp w' (cells p.core.cells) s3 S3/\∀x,x∈S3->w.heap.size<=x/\x∉Ub s5)/\Yo w w' 145 2 s5 p.layers.length ((Yt p.layers).map QD.v)
def Qc9 (p:Qe) (w:World) (e:Ending) (w':World):Prop:=∃A3 c3 A5 c5,e= .returned (.agg #[.string p.core.kind,.bool p.core.on,.bool p.core.broken,.slice A3 p.core.cells.length c3,.int .i64 p.core.count,.slice A5 p.layers.length c5])/\YG p w w' (.slice A3 p.core.cells.length c3) (.slice A5 p.layers.length c5)
theorem vK {v:Value} {x:Nat}:x∈Ub v↔v.ownBlock=some x:=by
 unfold Ub
 cases h:v.ownBlock with
 |none=>simp
 |some k=>simp [eq_comm]
theorem YG.mk {p:Qe} {w wb W w1 w2 w3:World} {s3 s5:Value} {g1:Nat} {T:List Nat} (h0:Qc [] w wb) (hW:Qc [] wb W) (n1:qt W w1 (cells p.core.cells) s3) (c12:Qc T w1 w2) (hT:∀x,x∈T->x<W.heap.size∨w1.heap.size<=x)
  (hA:Yo wb w2 145 2 s5 p.layers.length ((Yt p.layers).map QD.v)) (hs:∀x,x∈Ub s5->x<W.heap.size∨w1.heap.size<=x) (hg:w.heap.size<=g1) (hg1:g1<wb.heap.size) (c23:Qc [g1] w2 w3):YG p w w3 s3 s5:=by
 obtain⟨S,h1,h2,h3⟩:=n1
 have e0:=h0.size
 have eW:=hW.size
 refine⟨⟨S,(h1.keep c12 (fun x hx hxT=>by have:=h2 x hx;have:=h1.lt x hx;have:=hT x hxT;omega)).keep c23 (fun x hx=>by simp;rintro rfl;have:=h2 x hx;omega),fun x hx=>⟨by have:=h2 x hx;omega,fun hxs=>by have:=h2 x hx;have:=h1.lt x hx;have:=hs x hxs;omega⟩⟩,hA.out h0 c23 hg hg1⟩
def Qdj (p:ZS) (w:World) (e:Ending) (w':World):Prop:=∃A cap,e= .returned (.agg #[.string p.kind,.bool p.on,.bool p.broken,.slice A p.cells.length cap,.int .i64 p.count])/\qt w w' (cells p.cells) (.slice A p.cells.length cap)
theorem jp (p:ZS) (u3:Value) (B:Nat) (w:World) (hl:p.cells.length<=1048576) (r3:Rd w B (cells p.cells) u3) (hB:B<=w.heap.size):
  Calls Tryz.prog 110 #[.agg #[.string p.kind,.bool p.on,.bool p.broken,u3,.int .i64 p.count]] w (Qdj p w):=by
 rw [WI] at r3
 obtain⟨A,cap,rfl,h0,h1,hrow⟩:=r3.plain
 unfold maxLen at h1
 have tt:w.heap.size<w.heap.size+1:=L4 _
 have tt2:w.heap.size<w.heap.size+1+1:=by omega
 have HROW:=Qb hrow
 clear hrow
 go_enter Tryz.func110,Tryz.ntmps110
 go_wp2_with (at_builtin;refine Vv rfl (.const (.slice none 0 0)) (.tmp 4) _ rfl rfl rfl (Zi _ _ 194 _ 2 24 Tryz.underlying92 Za rfl (by omega) (S8 ((w.alloc (.cells #[.string p.kind,.bool p.on,.bool p.broken,.slice A p.cells.length cap,.int .i64 p.count] 94)).alloc (.cells #[.string ⟨#[]⟩,.bool false,.bool false,.slice none 0 0,.int .i64 0] 94)) 194 2 (B0 _ _)) (B0 _ _) A p.cells.length cap (Zt p.cells) (XR _) (fun hne=>by obtain⟨b,off,e,hb,hc⟩:=HROW.out hne;exact⟨b,off,e,fun j x hj=>((((B0 [] w).alloc _).alloc _).cell (p:=⟨b,off+j,none⟩) (show b<w.heap.size by omega) (by simp)).trans (hc j x hj)⟩) (Yi _) (by omega) (by omega)) ?_;rintro A2 cap2 w2 ⟨hA2,hc2,hat2⟩;have c2:Qc [] _ w2:=hc2;obtain⟨y2,z2,s2⟩:=c2.cells;have t2:w.heap.size+1<w2.heap.size:=(by simp at s2;omega);have t2':w.heap.size<w2.heap.size:=(by omega);have x3:w2.cell? ⟨w.heap.size,3,none⟩=some (.slice A p.cells.length cap):=(by rw [y2 _ _ (by simp;omega)];go_simp))
 refine bodyPost_ret (v:=.agg #[.string p.kind,.bool p.on,.bool p.broken,.slice A2 p.cells.length cap2,.int .i64 p.count]) (by simp only [results,Tryz.results110];go_simp) rfl ⟨A2,cap2,rfl,?_⟩
 have hn:=hA2.new
 rw [J9,J3, <-WI] at hn
 exact hn.two ((B0 _ _).alloc _ |>.alloc _) (g0:=w.heap.size) (g1:=w.heap.size+1) (F0 _) (by omega) (by simp;omega) (by simp) C6
theorem VP (p:Qe) (u3 u5:Value) (B:Nat) (w:World) (hl:p.layers.length<=1048576) (hcl:p.core.cells.length<=1048576) (r3:Rd w B (cells p.core.cells) u3) (r5:Rd w B (layers p.layers) u5) (hB:B<=w.heap.size):
  Calls Tryz.prog 72 #[.agg #[.string p.core.kind,.bool p.core.on,.bool p.core.broken,u3,.int .i64 p.core.count,u5]] w (Qc9 p w):=by
 obtain⟨A3,cap3,rfl,_,_,_⟩:=QX r3
 rw [Uy] at r5
 obtain⟨A5,cap5,rfl,h0,h1,hrow⟩:=r5.plain
 unfold maxLen at h1
 have tt:w.heap.size<w.heap.size+1:=L4 _
 have tt2:w.heap.size<w.heap.size+1+1:=by omega
 have HROW:=Qb hrow
 have CC:=Qb (fun W (hW:Qc [] ((w.alloc (.cells #[.string p.core.kind,.bool p.core.on,.bool p.core.broken,.slice A3 p.core.cells.length cap3,.int .i64 p.core.count,.slice A5 p.layers.length cap5] 97)).alloc (.cells #[.string ⟨#[]⟩,.bool false,.bool false,.slice none 0 0,.int .i64 0,.slice none 0 0] 97)) W)=>jp p.core _ B W hcl (r3.cz (((B0 [] w).alloc _).alloc _ |>.tz hW) hB) (by have:=hW.size;simp at this;omega))
 clear hrow r3 r5
 go_enter Tryz.func72,Tryz.ntmps72
 go_wp2_with fail
 go_region_law (first|(go_simp;go_at_call 110;(with_reducible refine(CC.out _ (by first|exact H9 n1.chg|exact H9 N1C|exact H9 hA2.chg|exact C6)).mono ?_);rintro e w1 ⟨A4,cap4,rfl,n1⟩;have N1C:Qc [] ((w.alloc (.cells #[.string p.core.kind,.bool p.core.on,.bool p.core.broken,.slice A3 p.core.cells.length cap3,.int .i64 p.core.count,.slice A5 p.layers.length cap5] 97)).alloc (.cells #[.string ⟨#[]⟩,.bool false,.bool false,.slice none 0 0,.int .i64 0,.slice none 0 0] 97)) w1:=((by first|exact H9 n1.chg|exact H9 N1C|exact H9 hA2.chg|exact C6):Qc [] ((w.alloc (.cells #[.string p.core.kind,.bool p.core.on,.bool p.core.broken,.slice A3 p.core.cells.length cap3,.int .i64 p.core.count,.slice A5 p.layers.length cap5] 97)).alloc (.cells #[.string ⟨#[]⟩,.bool false,.bool false,.slice none 0 0,.int .i64 0,.slice none 0 0] 97)) _).tz n1.chg;obtain⟨y1,z1,s1⟩:=N1C.cells;have s1':w.heap.size+1+1<=w1.heap.size:=(by simpa using s1);have t1:w.heap.size+1<w1.heap.size:=(by omega);have t1':w.heap.size<w1.heap.size:=(by omega);clear s1;simp only [])|(refine Zv rfl (.const (.slice none 0 0)) (.tmp 7) _ rfl rfl rfl (Zi _ _ 145 _ 2 24 Tryz.underlying95 wk rfl (by omega) (S8 ((w.alloc (.cells #[.string p.core.kind,.bool p.core.on,.bool p.core.broken,.slice A3 p.core.cells.length cap3,.int .i64 p.core.count,.slice A5 p.layers.length cap5] 97)).alloc (.cells #[.string ⟨#[]⟩,.bool false,.bool false,.slice none 0 0,.int .i64 0,.slice none 0 0] 97)) 145 2 (by first|exact H9 n1.chg|exact H9 N1C|exact H9 hA2.chg|exact C6)) (B0 _ _) A5 p.layers.length cap5 (Yt p.layers) (Qbs _) (fun hne=>by obtain⟨b,off,e,hb,hc⟩:=HROW.out hne;exact⟨b,off,e,fun j x hj=>((((B0 [] w).alloc _).alloc _ |>.tz (by first|exact H9 n1.chg|exact H9 N1C|exact H9 hA2.chg|exact C6)).cell (p:=⟨b,off+j,none⟩) (show b<w.heap.size by omega) (by simp)).trans (hc j x hj)⟩) (Qbe _) (by omega) (by omega)) ?_;rintro A6 cap6 w2 ⟨hA2,hc2,hat2⟩;simp only [J3,J9] at hA2 hat2;obtain⟨y2,z2,s2⟩:=hA2.chg.cells;have s2':w.heap.size+1+1<=w2.heap.size:=(by simpa using s2);have t2:w.heap.size+1<w2.heap.size:=(by omega);have t2':w.heap.size<w2.heap.size:=(by omega);clear s2;simp only [])|fail)
 all_goals
  go_wp2_with fail
  refine bodyPost_ret (v:=.agg #[.string p.core.kind,.bool p.core.on,.bool p.core.broken,.slice A4 p.core.cells.length cap4,.int .i64 p.core.count,.slice A6 p.layers.length cap6]) (by simp only [results,Tryz.results72];go_simp) rfl ⟨A4,cap4,A6,cap6,rfl,?_⟩
  refine YG.mk (wb:=((w.alloc (.cells #[.string p.core.kind,.bool p.core.on,.bool p.core.broken,.slice A3 p.core.cells.length cap3,.int .i64 p.core.count,.slice A5 p.layers.length cap5] 97)).alloc (.cells #[.string ⟨#[]⟩,.bool false,.bool false,.slice none 0 0,.int .i64 0,.slice none 0 0] 97))) (g1:=w.heap.size+1) (((B0 _ _).alloc _).alloc _) C6 n1 (T:=_) hc2 (by intro x hx;simp [Ub,Value.ownBlock] at hx) hA2 (fun x hx=>by rw [vK] at hx;rcases hat2 with h|h<;>(rw [hx] at h;simp [Value.ownBlock] at h);exact .inr (by omega)) (by omega) (by simp) C6
theorem Wl (p:Qe) (u3 u5:Value) (B:Nat) (w:World) (r5:Rd w B (layers p.layers) u5) (hB:B<=w.heap.size):
  Calls Tryz.prog 86 #[.agg #[.string p.core.kind,.bool p.core.on,.bool p.core.broken,u3,.int .i64 p.core.count,u5]] w (xY (Qq p p.layers.length) w):=by
 obtain⟨A,cap,rfl,h0,h1,hrow⟩:=Xb r5
 unfold maxLen at h1
 have tt:w.heap.size<w.heap.size+1:=L4 _
 have FB:=Qb (fun W (hW:Qc [] w W)=>qj p p.layers.length u3 _ B W (r5.cz hW hB) (by have:=hW.size;omega) (F0 _))
 go_enter Tryz.func86,Tryz.ntmps86
 go_wp2_with fail
 refine(FB.out _ ?_).mono ?_
 ·repeat(first|with_reducible exact B0 _ _|with_reducible refine i6 ?_|with_reducible refine U4 ?_ _)
 rintro e w1 ⟨rfl,c1⟩
 go_wp2_with fail
 go_ret
 exact⟨rfl,((B0 _ _).alloc _).tz c1⟩
theorem JP (k:ByteArray) {f:Int} (hk:Qo k=some f) (w:World):
  Calls Tryz.prog 128 #[.string k] w (fun e w'=>e= .returned (.tuple #[.agg #[.string k,.bool false,.bool false,.slice none 0 0,.int .i64 0],.bool true])/\Qc [] w w'):=by
 have tt:w.heap.size<w.heap.size+1:=L4 _
 have KF:=Qb (fun W=>(ZT k W).mono (WZ.some_ hk))
 clear hk
 go_enter Tryz.func128,Tryz.ntmps128
 go_wp2_with fail
 refine(KF.out _).mono ?_
 rintro e w1 ⟨rfl,rfl⟩
 go_wp2_with fail
 refine bodyPost_ret (v:=.tuple #[.agg #[.string k,.bool false,.bool false,.slice none 0 0,.int .i64 0],.bool true]) (by simp only [results,Tryz.results128];go_simp) rfl ⟨rfl,?_⟩
 repeat(first|with_reducible exact B0 _ _|with_reducible refine U4 ?_ _|with_reducible refine Q8 ?_ (.inr (by simp)) _)
theorem JS (k:ByteArray) (hk:Qo k=none) (w:World):
  Calls Tryz.prog 128 #[.string k] w (fun e w'=>e= .returned (.tuple #[.agg #[.string ⟨#[]⟩,.bool false,.bool false,.slice none 0 0,.int .i64 0],.bool false])/\Qc [] w w'):=by
 have tt:w.heap.size<w.heap.size+1:=L4 _
 have KF:=Qb (fun W=>(ZT k W).mono (WZ.none_ hk))
 clear hk
 go_enter Tryz.func128,Tryz.ntmps128
 go_wp2_with fail
 refine(KF.out _).mono ?_
 rintro e w1 ⟨rfl,rfl⟩
 go_wp2_with fail
 refine bodyPost_ret (v:=.tuple #[.agg #[.string ⟨#[]⟩,.bool false,.bool false,.slice none 0 0,.int .i64 0],.bool false]) (by simp only [results,Tryz.results128];go_simp) rfl ⟨rfl,?_⟩
 repeat(first|with_reducible exact B0 _ _|with_reducible refine U4 ?_ _|with_reducible refine Q8 ?_ (.inr (by simp)) _)
theorem VW (k:ByteArray) {f:Int} (hk:Qo k=some f) (w:World):
  Calls Tryz.prog 84 #[.string k] w (fun e w'=>e= .returned (.tuple #[.agg #[.string k,.bool false,.bool false,.slice none 0 0,.int .i64 0,.slice none 0 0],.bool true])/\Qc [] w w'):=by
 have tt:w.heap.size<w.heap.size+1:=L4 _
 have NC:=Qb (fun W=>JP k hk W)
 clear hk
 go_enter Tryz.func84,Tryz.ntmps84
 go_wp2_with fail
 refine(NC.out _).mono ?_
 rintro e w1 ⟨rfl,c1⟩
 have E:Qc [] w w1:=((B0 _ _).alloc _).tz c1
 have t1:w.heap.size<w1.heap.size:=by have:=c1.size;simp at this;omega
 have x0:w1.cell? ⟨w.heap.size,0,none⟩=some (.string ⟨#[]⟩):=(c1.cell (p:=⟨w.heap.size,0,none⟩) (by simp) (by simp)).trans (by go_simp)
 have x1:w1.cell? ⟨w.heap.size,1,none⟩=some (.bool false):=(c1.cell (p:=⟨w.heap.size,1,none⟩) (by simp) (by simp)).trans (by go_simp)
 have x2:w1.cell? ⟨w.heap.size,2,none⟩=some (.bool false):=(c1.cell (p:=⟨w.heap.size,2,none⟩) (by simp) (by simp)).trans (by go_simp)
 have x3:w1.cell? ⟨w.heap.size,3,none⟩=some (.slice none 0 0):=(c1.cell (p:=⟨w.heap.size,3,none⟩) (by simp) (by simp)).trans (by go_simp)
 have x4:w1.cell? ⟨w.heap.size,4,none⟩=some (.int .i64 0):=(c1.cell (p:=⟨w.heap.size,4,none⟩) (by simp) (by simp)).trans (by go_simp)
 have x5:w1.cell? ⟨w.heap.size,5,none⟩=some (.slice none 0 0):=(c1.cell (p:=⟨w.heap.size,5,none⟩) (by simp) (by simp)).trans (by go_simp)
 have xf0:w1.frozen? ⟨w.heap.size,0,none⟩=false:=(c1.frozen (p:=⟨w.heap.size,0,none⟩) (by simp) (by simp)).trans (by go_simp)
 have xf1:w1.frozen? ⟨w.heap.size,1,none⟩=false:=(c1.frozen (p:=⟨w.heap.size,1,none⟩) (by simp) (by simp)).trans (by go_simp)
 have xf2:w1.frozen? ⟨w.heap.size,2,none⟩=false:=(c1.frozen (p:=⟨w.heap.size,2,none⟩) (by simp) (by simp)).trans (by go_simp)
 have xf3:w1.frozen? ⟨w.heap.size,3,none⟩=false:=(c1.frozen (p:=⟨w.heap.size,3,none⟩) (by simp) (by simp)).trans (by go_simp)
 have xf4:w1.frozen? ⟨w.heap.size,4,none⟩=false:=(c1.frozen (p:=⟨w.heap.size,4,none⟩) (by simp) (by simp)).trans (by go_simp)
 have xf5:w1.frozen? ⟨w.heap.size,5,none⟩=false:=(c1.frozen (p:=⟨w.heap.size,5,none⟩) (by simp) (by simp)).trans (by go_simp)
 have t2:w.heap.size<w1.heap.size+1:=by omega
 have t3:w.heap.size≠w1.heap.size:=by omega
 go_wp2_with fail
 refine bodyPost_ret (v:=.tuple #[.agg #[.string k,.bool false,.bool false,.slice none 0 0,.int .i64 0,.slice none 0 0],.bool true]) (by simp only [results,Tryz.results84];go_simp) rfl ⟨rfl,?_⟩
 repeat(first|with_reducible exact E|with_reducible refine U4 ?_ _|with_reducible refine Q8 ?_ (.inr (by simp)) _)
theorem JQ (k:ByteArray) (hk:Qo k=none) (w:World):
  Calls Tryz.prog 84 #[.string k] w (fun e w'=>e= .returned (.tuple #[.agg #[.string ⟨#[]⟩,.bool false,.bool false,.slice none 0 0,.int .i64 0,.slice none 0 0],.bool false])/\Qc [] w w'):=by
 have tt:w.heap.size<w.heap.size+1:=L4 _
 have NC:=Qb (fun W=>JS k hk W)
 clear hk
 go_enter Tryz.func84,Tryz.ntmps84
 go_wp2_with fail
 refine(NC.out _).mono ?_
 rintro e w1 ⟨rfl,c1⟩
 have E:Qc [] w w1:=((B0 _ _).alloc _).tz c1
 have t1:w.heap.size<w1.heap.size:=by have:=c1.size;simp at this;omega
 have x0:w1.cell? ⟨w.heap.size,0,none⟩=some (.string ⟨#[]⟩):=(c1.cell (p:=⟨w.heap.size,0,none⟩) (by simp) (by simp)).trans (by go_simp)
 have x1:w1.cell? ⟨w.heap.size,1,none⟩=some (.bool false):=(c1.cell (p:=⟨w.heap.size,1,none⟩) (by simp) (by simp)).trans (by go_simp)
 have x2:w1.cell? ⟨w.heap.size,2,none⟩=some (.bool false):=(c1.cell (p:=⟨w.heap.size,2,none⟩) (by simp) (by simp)).trans (by go_simp)
 have x3:w1.cell? ⟨w.heap.size,3,none⟩=some (.slice none 0 0):=(c1.cell (p:=⟨w.heap.size,3,none⟩) (by simp) (by simp)).trans (by go_simp)
 have x4:w1.cell? ⟨w.heap.size,4,none⟩=some (.int .i64 0):=(c1.cell (p:=⟨w.heap.size,4,none⟩) (by simp) (by simp)).trans (by go_simp)
 have x5:w1.cell? ⟨w.heap.size,5,none⟩=some (.slice none 0 0):=(c1.cell (p:=⟨w.heap.size,5,none⟩) (by simp) (by simp)).trans (by go_simp)
 have xf0:w1.frozen? ⟨w.heap.size,0,none⟩=false:=(c1.frozen (p:=⟨w.heap.size,0,none⟩) (by simp) (by simp)).trans (by go_simp)
 have xf1:w1.frozen? ⟨w.heap.size,1,none⟩=false:=(c1.frozen (p:=⟨w.heap.size,1,none⟩) (by simp) (by simp)).trans (by go_simp)
 have xf2:w1.frozen? ⟨w.heap.size,2,none⟩=false:=(c1.frozen (p:=⟨w.heap.size,2,none⟩) (by simp) (by simp)).trans (by go_simp)
 have xf3:w1.frozen? ⟨w.heap.size,3,none⟩=false:=(c1.frozen (p:=⟨w.heap.size,3,none⟩) (by simp) (by simp)).trans (by go_simp)
 have xf4:w1.frozen? ⟨w.heap.size,4,none⟩=false:=(c1.frozen (p:=⟨w.heap.size,4,none⟩) (by simp) (by simp)).trans (by go_simp)
 have xf5:w1.frozen? ⟨w.heap.size,5,none⟩=false:=(c1.frozen (p:=⟨w.heap.size,5,none⟩) (by simp) (by simp)).trans (by go_simp)
 have t2:w.heap.size<w1.heap.size+1:=by omega
 have t3:w.heap.size≠w1.heap.size:=by omega
 go_wp2_with fail
 refine bodyPost_ret (v:=.tuple #[.agg #[.string ⟨#[]⟩,.bool false,.bool false,.slice none 0 0,.int .i64 0,.slice none 0 0],.bool false]) (by simp only [results,Tryz.results84];go_simp) rfl ⟨rfl,?_⟩
 repeat(first|with_reducible exact E|with_reducible refine U4 ?_ _|with_reducible refine Q8 ?_ (.inr (by simp)) _)
def kE (r:Qe×Uw) (w:World) (e:Ending) (w':World):Prop:=∃A3 c3 A5 c5,e= .returned (.tuple #[.agg #[.string r.1.core.kind,.bool r.1.core.on,.bool r.1.core.broken,.slice A3 r.1.core.cells.length c3,.int .i64 r.1.core.count,.slice A5 r.1.layers.length c5],.agg #[.int .i64 r.2.code,.int .i64 r.2.value,.string r.2.text,.int .i64 r.2.want,.int .i64 r.2.had]])/\
 YW w w' (WH r.1) [.string r.1.core.kind,.bool r.1.core.on,.bool r.1.core.broken,.slice A3 r.1.core.cells.length c3,.int .i64 r.1.core.count,.slice A5 r.1.layers.length c5]
theorem Yo.outP {w w0 w2 w3:World} {T:List Nat} {e:TypeId} {size n:Nat} {v:Value} {us:List Value} (h:Yo w0 w2 e size v n (us.map QD.v)) (h0:Qc [] w w0) (hc:Qc T w2 w3) (hT:∀t,t∈T->w.heap.size<=t/\t∉Ub v):Yo w w3 e size v n (us.map QD.v):=by
 obtain⟨xs,S',h1,h2,h3,h4,h5,h6⟩:=h
 have hS:=Qt.plain_nil h2
 subst hS
 refine⟨xs,[],⟨h1.1,?_⟩,Y8 hc _ xs [] (by simp) h2,h3,by simp,by simp,(h0.tz h6).trans hc (fun x hx=>.inr (hT x hx).1)⟩
 rcases h1.2 with hl|⟨g,cap,cur,rfl,hb,hg,r⟩
 ·exact .inl hl
 ·refine .inr ⟨g,cap,cur,rfl,G5 h0.size hb,(hc.block g (F5.1 hg).1 (fun hgT=>(hT g hgT).2 (by rw [vK];rfl))).trans hg,r⟩
theorem yC {p:Qe} {w w5:World} {s3 s5:Value} {S3:List Nat} (h3:Yp w5 (cells p.core.cells) s3 S3) (hlo:∀x,x∈S3->w.heap.size<=x) (hA:Yo w w5 145 2 s5 p.layers.length ((Yt p.layers).map QD.v)) (hd:∀x,x∈S3->x∉Ub s5):
  YW w w5 (WH p) [.string p.core.kind,.bool p.core.on,.bool p.core.broken,s3,.int .i64 p.core.count,s5]:=by
 obtain⟨h5,h6⟩:=hA.has
 have hl:=Zm.append (Zm.one h3) (I2 (x:=.int .i64 p.core.count) (Zm.one h5)) hd
 refine⟨S3++Ub s5,?_,fun x hx=>(F4.1 hx).elim (hlo x) (h6 x),hA.chg⟩
 rw [Gu,Uy]
 exact I2 (I2 (I2 hl))
theorem YG.ends {p:Qe} {w wb w1 w2 w5:World} {s3 s5:Value} {g1 g2:Nat} (n1:YG p wb w1 s3 s5) (h0:Qc [] w wb) (h12:Qc [] w1 w2) (a1:w.heap.size<=g1) (a2:w.heap.size<=g2) (b1:g1<wb.heap.size) (b2:g2<wb.heap.size) (hc:Qc [g1,g2] w2 w5):
  YW w w5 (WH p) [.string p.core.kind,.bool p.core.on,.bool p.core.broken,s3,.int .i64 p.core.count,s5]:=by
 obtain⟨⟨S3,h3,hS⟩,hA⟩:=n1
 have hA2:=hA.later h12
 have hlow:=hA.has.2
 have e0:=h0.size
 refine yC ((h3.kz h12).keep hc (fun x hx=>by have:=(hS x hx).1;simp;omega)) (fun x hx=>by have:=(hS x hx).1;omega) (hA2.outP h0 hc (fun t ht=>?_)) (fun x hx=>(hS x hx).2)
 refine⟨by simp at ht;omega,fun hx=>?_⟩
 have:=hlow t hx
 simp at ht
 omega
theorem YG.grown {p:Qe} {w wb w1 w3 w4 w5:World} {s3 s5 s6:Value} {g1 g2:Nat} {name:ByteArray} (n1:YG p wb w1 s3 s5) (h0:Qc [] w wb) (h13:Qc [] w1 w3) (hc4:Qc (Ub s5) w3 w4)
  (hA:Yo wb w4 145 2 s6 (p.layers.length+1) ((Yt p.layers).map QD.v++ [Value.string name,Value.int .i64 0].map QD.v)) (hat:s6.ownBlock=s5.ownBlock∨∃g,s6.ownBlock=some g/\w1.heap.size<g)
  (a1:w.heap.size<=g1) (a2:w.heap.size<=g2) (b1:g1<wb.heap.size) (b2:g2<wb.heap.size) (hc:Qc [w1.heap.size,g1,g2] w4 w5):
  YW w w5 (WH ⟨p.core,p.layers++ [⟨name,0⟩]⟩) [.string p.core.kind,.bool p.core.on,.bool p.core.broken,s3,.int .i64 p.core.count,s6]:=by
 obtain⟨⟨S3,h3,hS⟩,hA1⟩:=n1
 have hlt:=h3.lt
 have hlow:=hA1.has.2
 have hlt5:=hA1.has.1.lt
 have e0:=h0.size
 have e1:=hA1.chg.size
 have hU:(Yt p.layers).map QD.v++ [Value.string name,Value.int .i64 0].map QD.v=(Yt (p.layers++ [⟨name,0⟩])).map QD.v:=by simp [Yt]
 rw [hU] at hA
 have own6:∀x,x∈Ub s6->x∈Ub s5∨w1.heap.size<x:=by
  intro x hx
  rw [vK] at hx ⊢
  rcases hat with h|⟨g,h,hg⟩
  ·exact .inl (h.symm.trans hx)
  ·rw [hx] at h
   cases h
   exact .inr hg
 have h3':Yp w5 (cells p.core.cells) s3 S3:=((h3.kz h13).keep hc4 (fun x hx=>(hS x hx).2)).keep hc (fun x hx=>by have:=(hS x hx).1;have:=hlt x hx;simp;omega)
 have hA5:Yo w w5 145 2 s6 (p.layers++ [(⟨name,0⟩:ZZ)]).length ((Yt (p.layers++ [(⟨name,0⟩:ZZ)])).map QD.v):=by
  rw [I0]
  refine Yo.outP hA h0 hc (fun t ht=>And.intro (by simp at ht;omega) (fun hx=>?_))
  rcases own6 t hx with h|h
  ·have:=hlow t h;have:=hlt5 t h;simp at ht;omega
  ·simp at ht;omega
 exact yC (p:=⟨p.core,p.layers++ [⟨name,0⟩]⟩) h3' (fun x hx=>by have:=(hS x hx).1;omega) hA5 (fun x hx hx6=>by
  rcases own6 x hx6 with h|h
  ·exact(hS x hx).2 h
  ·have:=hlt x hx;omega)
theorem KD (p:Qe) (name:ByteArray) (u3 u5:Value) (B:Nat) (w:World) (r3:Rd w B (cells p.core.cells) u3) (r5:Rd w B (layers p.layers) u5) (hB:B<=w.heap.size) (hl:p.layers.length<=1048576) (hcl:p.core.cells.length<=1048576) (hs:∀c∈p.core.cells,c.key.size<=1048576):
  Calls Tryz.prog 85 #[.agg #[.string p.core.kind,.bool p.core.on,.bool p.core.broken,u3,.int .i64 p.core.count,u5],.string name] w (kE (QY p name) w):=by
 obtain⟨A3,cap3,rfl,_,_,_⟩:=QX r3
 obtain⟨A5,cap5,rfl,h0,h1,_⟩:=Xb r5
 unfold maxLen at h1
 have CP:=Qb (fun W (hW:Qc [] w W)=>VP p _ _ B W hl hcl (r3.cz hW hB) (r5.cz hW hB) (by have:=hW.size;omega))
 have FO:=Qb (fun W (hW:Qc [] w W)=>Wl p (.slice A3 p.core.cells.length cap3) _ B W (r5.cz hW hB) (by have:=hW.size;omega))
 have IP:=Qb (fun W (hW:Qc [] w W)=>Vf p _ _ B W (r3.cz hW hB) (r5.cz hW hB) (by have:=hW.size;omega) hl hcl hs)
 have LF:=Qb (fun W=>Ya name W)
 obtain⟨o,ho⟩:∃o,o=Qj name:=⟨_,rfl⟩
 rw [<-ho] at LF
 have HO:=Qb ho.symm
 clear r3 r5 hs ho
 go_enter Tryz.func85,Tryz.ntmps85
 go_wp2_with fail
 refine(CP.out _ C6).mono ?_
 rintro e w1 ⟨A4,cap4,A6,cap6,rfl,n1⟩
 have N1:=Qb n1
 have c1:Qc [] (((w.alloc (.cells #[.string p.core.kind,.bool p.core.on,.bool p.core.broken,.slice A3 p.core.cells.length cap3,.int .i64 p.core.count,.slice A5 p.layers.length cap5] 97)).alloc (.cells #[.string ⟨#[]⟩,.bool false,.bool false,.slice none 0 0,.int .i64 0,.slice none 0 0] 97)).alloc (.cells #[.int .i64 0,.int .i64 0,.string ⟨#[]⟩,.int .i64 0,.int .i64 0] 124)) w1:=n1.2.chg
 have s1:=c1.size
 have v1:w.heap.size+3<=w1.heap.size:=by(try simp at s1)<;>omega
 obtain⟨ya1,za1,xa1,yb1,zb1,xb1,yc1,zc1,xc1, -⟩:=c1.low 3 w.heap.size (fun x hx=>by simp at hx)
 clear s1
 have E1:Hid (Qc [] w w1):=Qb (H0 C6 c1)
 clear c1 n1
 go_wp2_with fail
 refine(LF.out _).mono ?_
 rintro e w1b ⟨rfl,hw1b⟩
 subst hw1b
 go_wp2_with fail
 refine(IP.out _ (H9 E1.out)).mono ?_
 rintro e w2 ⟨t,rfl,ht,c2⟩
 have d12:Qc [] w1 w2:=H0 C6 c2
 have yd2:=c2.ce w1.heap.size
 have zd2:=c2.fe w1.heap.size
 have xd2:w1.heap.size<w2.heap.size:=by have:=c2.size;(try simp at this)<;>omega
 have s2:=d12.size
 obtain⟨ya2,za2,xa2,yb2,zb2,xb2,yc2,zc2,xc2, -⟩:=d12.low 3 w.heap.size (fun x hx=>by simp at hx)
 clear s2
 obtain⟨eb0_2,eb1_2,eb2_2,eb3_2,eb4_2,eb5_2⟩:Cs6 w2 (w.heap.size+1) (.string ⟨#[]⟩) (.bool false) (.bool false) (.slice none 0 0) (.int .i64 0) (.slice none 0 0):=.of yb2
 obtain⟨ec0_2,ec1_2,ec2_2,ec3_2,ec4_2⟩:Cs5 w2 (w.heap.size+1+1) (.int .i64 0) (.int .i64 0) (.string ⟨#[]⟩) (.int .i64 0) (.int .i64 0):=.of yc2
 obtain⟨ed0_2,ed1_2,ed2_2,ed3_2,ed4_2,ed5_2⟩:Cs6 w2 (w1.heap.size) (.string p.core.kind) (.bool p.core.on) (.bool p.core.broken) (.slice A4 p.core.cells.length cap4) (.int .i64 p.core.count) (.slice A6 p.layers.length cap6):=.of yd2
 clear yb2 yc2 yd2
 have D12:=Qb d12
 have HT:=Qb ht
 clear d12 c2 ht
 cases t
 ·go_wp2_with fail
  refine bodyPost_ret (v:=.tuple #[.agg #[.string p.core.kind,.bool p.core.on,.bool p.core.broken,.slice A4 p.core.cells.length cap4,.int .i64 p.core.count,.slice A6 p.layers.length cap6],.agg #[.int .i64 7,.int .i64 0,.string ⟨#[]⟩,.int .i64 0,.int .i64 0]]) (by simp only [results,Tryz.results85];go_simp) rfl ?_
  rw [QbJ (fun h=>by have:=HT.out.2 h;simp at this)]
  refine⟨A4,cap4,_,_,rfl,?_⟩
  exact YG.ends (w:=w) (wb:=(((w.alloc (.cells #[.string p.core.kind,.bool p.core.on,.bool p.core.broken,.slice A3 p.core.cells.length cap3,.int .i64 p.core.count,.slice A5 p.layers.length cap5] 97)).alloc (.cells #[.string ⟨#[]⟩,.bool false,.bool false,.slice none 0 0,.int .i64 0,.slice none 0 0] 97)).alloc (.cells #[.int .i64 0,.int .i64 0,.string ⟨#[]⟩,.int .i64 0,.int .i64 0] 124))) (g1:=w.heap.size+1) (g2:=w.heap.size+1+1) N1.out C6 D12.out (by omega) (by omega) (by simp<;>omega) (by simp<;>omega) C6
 ·have n1p:Qn p:=HT.out.1 rfl
  have n5:p.layers.length<=3:=n1p.2.1
  have n6:=n1p
  clear n1p
  have N1P:=Qb n6
  clear n6
  cases o with
  |none=>
   go_wp2_with fail
   refine bodyPost_ret (v:=.tuple #[.agg #[.string p.core.kind,.bool p.core.on,.bool p.core.broken,.slice A4 p.core.cells.length cap4,.int .i64 p.core.count,.slice A6 p.layers.length cap6],.agg #[.int .i64 7,.int .i64 0,.string ⟨#[]⟩,.int .i64 0,.int .i64 0]]) (by simp only [results,Tryz.results85];go_simp) rfl ?_
   rw [Vm HO.out]
   refine⟨A4,cap4,_,_,rfl,?_⟩
   exact YG.ends (w:=w) (wb:=(((w.alloc (.cells #[.string p.core.kind,.bool p.core.on,.bool p.core.broken,.slice A3 p.core.cells.length cap3,.int .i64 p.core.count,.slice A5 p.layers.length cap5] 97)).alloc (.cells #[.string ⟨#[]⟩,.bool false,.bool false,.slice none 0 0,.int .i64 0,.slice none 0 0] 97)).alloc (.cells #[.int .i64 0,.int .i64 0,.string ⟨#[]⟩,.int .i64 0,.int .i64 0] 124))) (g1:=w.heap.size+1) (g2:=w.heap.size+1+1) N1.out C6 D12.out (by omega) (by omega) (by simp<;>omega) (by simp<;>omega) C6
  | some x=>
   have HX:=HO
   by_cases n3:3<=p.layers.length
   ·have i3:(3:Int)<=(p.layers.length:Int):=by omega
    have N3:=Qb n3
    clear n3
    go_wp2_with fail
    refine bodyPost_ret (v:=.tuple #[.agg #[.string p.core.kind,.bool p.core.on,.bool p.core.broken,.slice A4 p.core.cells.length cap4,.int .i64 p.core.count,.slice A6 p.layers.length cap6],.agg #[.int .i64 5,.int .i64 0,.string ⟨#[]⟩,.int .i64 0,.int .i64 0]]) (by simp only [results,Tryz.results85];go_simp) rfl ?_
    rw [WG HX.out N1P.out N3.out]
    refine⟨A4,cap4,_,_,rfl,?_⟩
    exact YG.ends (w:=w) (wb:=(((w.alloc (.cells #[.string p.core.kind,.bool p.core.on,.bool p.core.broken,.slice A3 p.core.cells.length cap3,.int .i64 p.core.count,.slice A5 p.layers.length cap5] 97)).alloc (.cells #[.string ⟨#[]⟩,.bool false,.bool false,.slice none 0 0,.int .i64 0,.slice none 0 0] 97)).alloc (.cells #[.int .i64 0,.int .i64 0,.string ⟨#[]⟩,.int .i64 0,.int .i64 0] 124))) (g1:=w.heap.size+1) (g2:=w.heap.size+1+1) N1.out C6 D12.out (by omega) (by omega) (by simp<;>omega) (by simp<;>omega) C6
   ·have i3:(p.layers.length:Int)<3:=by omega
    have N3:=Qb n3
    clear n3
    by_cases n4:ZL (Qq p p.layers.length) x.1
    ·have OF:=Qb (fun W=>(Xp (Qq p p.layers.length) x.1 W).mono (QZ.pos n4))
     have N4:=Qb n4
     clear n4
     go_wp2_with fail
     refine(FO.out _ (H9 (E1.out.tz D12.out))).mono ?_
     rintro e w3 ⟨rfl,c3⟩
     have s3:=c3.size
     have v3:w2.heap.size<=w3.heap.size:=by(try simp at s3)<;>omega
     obtain⟨ya3,za3,xa3,yb3,zb3,xb3,yc3,zc3,xc3, -⟩:=c3.low 3 w.heap.size (fun x hx=>by simp at hx)
     have yd3:=c3.ce w1.heap.size
     have zd3:=c3.fe w1.heap.size
     have xd3:w1.heap.size<w3.heap.size:=by omega
     clear s3
     obtain⟨eb0_3,eb1_3,eb2_3,eb3_3,eb4_3,eb5_3⟩:Cs6 w3 (w.heap.size+1) (.string ⟨#[]⟩) (.bool false) (.bool false) (.slice none 0 0) (.int .i64 0) (.slice none 0 0):=.of yb3
     obtain⟨ec0_3,ec1_3,ec2_3,ec3_3,ec4_3⟩:Cs5 w3 (w.heap.size+1+1) (.int .i64 0) (.int .i64 0) (.string ⟨#[]⟩) (.int .i64 0) (.int .i64 0):=.of yc3
     obtain⟨ed0_3,ed1_3,ed2_3,ed3_3,ed4_3,ed5_3⟩:Cs6 w3 (w1.heap.size) (.string p.core.kind) (.bool p.core.on) (.bool p.core.broken) (.slice A4 p.core.cells.length cap4) (.int .i64 p.core.count) (.slice A6 p.layers.length cap6):=.of yd3
     clear yb3 yc3 yd3
     have D13:Hid (Qc [] w1 w3):=Qb (H0 (H9 D12.out) c3)
     clear c3
     go_wp2_with fail
     refine(OF.out _).mono ?_
     rintro e w3b ⟨rfl,hw3⟩
     obtain rfl:=hw3.symm
     have hlow:=N1.out.2.has.2
     have hltA:=N1.out.2.has.1.lt
     have kb:w.heap.size+1∉Ub (.slice A6 p.layers.length cap6):=fun hx=>by have:=hlow _ hx;simp at this;omega
     have kc:w.heap.size+1+1∉Ub (.slice A6 p.layers.length cap6):=fun hx=>by have:=hlow _ hx;simp at this;omega
     have kd:w1.heap.size∉Ub (.slice A6 p.layers.length cap6):=fun hx=>by have:=hltA _ hx;omega
     go_wp2_with (at_builtin;refine Vv rfl (.tmp 47) (.tmp 50) _ rfl rfl rfl (Zi _ _ 145 _ 2 24 Tryz.underlying95 wk rfl (by omega) N1.out.2 (D13.out.alloc _) (some ⟨w3.heap.size,0,none⟩) 1 1 [.string name,.int .i64 0] rfl (fun _=>⟨w3.heap.size,0,rfl,fun j x hj=>by rw [J3];exact Xd _ _ _ (by simpa using hj)⟩) (by intro u hu;simp at hu;rcases hu with rfl|rfl<;>rfl) (by omega) (by omega)) ?_;rintro A7 cap7 w4 ⟨hA4,hc4,hat4⟩;(have yb4:=fun o=>hc4.cell (p:=⟨w.heap.size+1,o,none⟩) (by simp<;>omega) (fun hx=>by first|exact kb hx|(have:=kb;exact this hx)));(have yc4:=fun o=>hc4.cell (p:=⟨w.heap.size+1+1,o,none⟩) (by simp<;>omega) (fun hx=>by first|exact kc hx|(have:=kc;exact this hx)));(have yd4:=fun o=>hc4.cell (p:=⟨w1.heap.size,o,none⟩) (by simp<;>omega) (fun hx=>by first|exact kd hx|(have:=kd;exact this hx)));(have zb4:=fun o=>hc4.frozen (p:=⟨w.heap.size+1,o,none⟩) (by simp<;>omega) (fun hx=>by first|exact kb hx|(have:=kb;exact this hx)));(have zc4:=fun o=>hc4.frozen (p:=⟨w.heap.size+1+1,o,none⟩) (by simp<;>omega) (fun hx=>by first|exact kc hx|(have:=kc;exact this hx)));(have zd4:=fun o=>hc4.frozen (p:=⟨w1.heap.size,o,none⟩) (by simp<;>omega) (fun hx=>by first|exact kd hx|(have:=kd;exact this hx)));have t4:w1.heap.size<w4.heap.size:=(by have:=hc4.size;simp at this;omega);(obtain⟨eb0_4,eb1_4,eb2_4,eb3_4,eb4_4,eb5_4⟩:Cs6 w4 (w.heap.size+1) (.string ⟨#[]⟩) (.bool false) (.bool false) (.slice none 0 0) (.int .i64 0) (.slice none 0 0):=.of yb4);(obtain⟨ec0_4,ec1_4,ec2_4,ec3_4,ec4_4⟩:Cs5 w4 (w.heap.size+1+1) (.int .i64 0) (.int .i64 0) (.string ⟨#[]⟩) (.int .i64 0) (.int .i64 0):=.of yc4);(obtain⟨ed0_4,ed1_4,ed2_4,ed3_4,ed4_4,ed5_4⟩:Cs6 w4 (w1.heap.size) (.string p.core.kind) (.bool p.core.on) (.bool p.core.broken) (.slice A4 p.core.cells.length cap4) (.int .i64 p.core.count) (.slice A6 p.layers.length cap6):=.of yd4);(clear yb4 yc4 yd4);have t4a:w.heap.size+1<w4.heap.size:=(by omega);have t4b:w.heap.size+1+1<w4.heap.size:=(by omega);have t4c:w1.heap.size≠w.heap.size+1:=(by omega);have t4d:w1.heap.size≠w.heap.size+1+1:=(by omega);have HC4:=Qb hc4;have HAT:=Qb hat4;have HA4:=Qb hA4;clear hc4 hat4 hA4)
     refine bodyPost_ret (v:=.tuple #[.agg #[.string p.core.kind,.bool p.core.on,.bool p.core.broken,.slice A4 p.core.cells.length cap4,.int .i64 p.core.count,.slice A7 (p.layers.length+1) cap7],.agg #[.int .i64 0,.int .i64 x.2,.string ⟨#[]⟩,.int .i64 0,.int .i64 0]]) (by simp only [results,Tryz.results85];go_simp) rfl ?_
     rw [Vw HX.out N1P.out N3.out N4.out]
     have hlen:(p.layers++ [(⟨name,0⟩:ZZ)]).length=p.layers.length+1:=by simp
     refine⟨A4,cap4,A7,cap7,?_,?_⟩
     ·dsimp only
      rw [hlen]
      rfl
     ·dsimp only
      rw [hlen]
      exact YG.grown (w:=w) (wb:=(((w.alloc (.cells #[.string p.core.kind,.bool p.core.on,.bool p.core.broken,.slice A3 p.core.cells.length cap3,.int .i64 p.core.count,.slice A5 p.layers.length cap5] 97)).alloc (.cells #[.string ⟨#[]⟩,.bool false,.bool false,.slice none 0 0,.int .i64 0,.slice none 0 0] 97)).alloc (.cells #[.int .i64 0,.int .i64 0,.string ⟨#[]⟩,.int .i64 0,.int .i64 0] 124))) (g1:=w.heap.size+1) (g2:=w.heap.size+1+1) N1.out C6 (D13.out.alloc _) HC4.out HA4.out (HAT.out.imp id (fun h=>⟨_,h,by simp<;>omega⟩)) (by omega) (by omega) (by simp<;>omega) (by simp<;>omega) C6
    ·have OF:=Qb (fun W=>(Xp (Qq p p.layers.length) x.1 W).mono (QZ.neg n4))
     have N4:=Qb n4
     clear n4
     go_wp2_with fail
     refine(FO.out _ (H9 (E1.out.tz D12.out))).mono ?_
     rintro e w3 ⟨rfl,c3⟩
     have s3:=c3.size
     have v3:w2.heap.size<=w3.heap.size:=by(try simp at s3)<;>omega
     obtain⟨ya3,za3,xa3,yb3,zb3,xb3,yc3,zc3,xc3, -⟩:=c3.low 3 w.heap.size (fun x hx=>by simp at hx)
     have yd3:=c3.ce w1.heap.size
     have zd3:=c3.fe w1.heap.size
     have xd3:w1.heap.size<w3.heap.size:=by omega
     clear s3
     obtain⟨eb0_3,eb1_3,eb2_3,eb3_3,eb4_3,eb5_3⟩:Cs6 w3 (w.heap.size+1) (.string ⟨#[]⟩) (.bool false) (.bool false) (.slice none 0 0) (.int .i64 0) (.slice none 0 0):=.of yb3
     obtain⟨ec0_3,ec1_3,ec2_3,ec3_3,ec4_3⟩:Cs5 w3 (w.heap.size+1+1) (.int .i64 0) (.int .i64 0) (.string ⟨#[]⟩) (.int .i64 0) (.int .i64 0):=.of yc3
     obtain⟨ed0_3,ed1_3,ed2_3,ed3_3,ed4_3,ed5_3⟩:Cs6 w3 (w1.heap.size) (.string p.core.kind) (.bool p.core.on) (.bool p.core.broken) (.slice A4 p.core.cells.length cap4) (.int .i64 p.core.count) (.slice A6 p.layers.length cap6):=.of yd3
     clear yb3 yc3 yd3
     have D13:Hid (Qc [] w1 w3):=Qb (H0 (H9 D12.out) c3)
     clear c3
     go_wp2_with fail
     refine(OF.out _).mono ?_
     rintro e w3b ⟨rfl,hw3⟩
     obtain rfl:=hw3.symm
     go_wp2_with fail
     go_region_law (first|(go_simp;go_at_call 86;(with_reducible refine(FO.out _ (H9 (E1.out.tz D13.out))).mono ?_);rintro e w4 ⟨rfl,c4⟩;(have s4:=c4.size);(have v4:w3.heap.size<=w4.heap.size:=by(try simp at s4)<;>omega);(have yb4:=c4.ce (w.heap.size+1));(have zb4:=c4.fe (w.heap.size+1));(have xb4:w.heap.size+1<w4.heap.size:=by omega);(have yc4:=c4.ce (w.heap.size+1+1));(have zc4:=c4.fe (w.heap.size+1+1));(have xc4:w.heap.size+1+1<w4.heap.size:=by omega);(have yd4:=c4.ce w1.heap.size);(have zd4:=c4.fe w1.heap.size);(have xd4:w1.heap.size<w4.heap.size:=by omega);(clear s4);(obtain⟨eb0_4,eb1_4,eb2_4,eb3_4,eb4_4,eb5_4⟩:Cs6 w4 (w.heap.size+1) (.string ⟨#[]⟩) (.bool false) (.bool false) (.slice none 0 0) (.int .i64 0) (.slice none 0 0):=.of yb4);(obtain⟨ec0_4,ec1_4,ec2_4,ec3_4,ec4_4⟩:Cs5 w4 (w.heap.size+1+1) (.int .i64 0) (.int .i64 0) (.string ⟨#[]⟩) (.int .i64 0) (.int .i64 0):=.of yc4);(obtain⟨ed0_4,ed1_4,ed2_4,ed3_4,ed4_4,ed5_4⟩:Cs6 w4 (w1.heap.size) (.string p.core.kind) (.bool p.core.on) (.bool p.core.broken) (.slice A4 p.core.cells.length cap4) (.int .i64 p.core.count) (.slice A6 p.layers.length cap6):=.of yd4);(clear yb4 yc4 yd4);(have D14:Hid (Qc [] w1 w4):=Qb (H0 (H9 D13.out) c4));clear c4;simp only [])|fail)
     all_goals
      go_wp2_with fail
      refine bodyPost_ret (v:=.tuple #[.agg #[.string p.core.kind,.bool p.core.on,.bool p.core.broken,.slice A4 p.core.cells.length cap4,.int .i64 p.core.count,.slice A6 p.layers.length cap6],.agg #[.int .i64 1,.int .i64 0,.string ⟨#[]⟩,.int .i64 x.1,.int .i64 (Qq p p.layers.length)]]) (by simp only [results,Tryz.results85];go_simp) rfl ?_
      rw [VM HX.out N1P.out N3.out N4.out]
      refine⟨A4,cap4,_,_,rfl,?_⟩
      exact YG.ends (w:=w) (wb:=(((w.alloc (.cells #[.string p.core.kind,.bool p.core.on,.bool p.core.broken,.slice A3 p.core.cells.length cap3,.int .i64 p.core.count,.slice A5 p.layers.length cap5] 97)).alloc (.cells #[.string ⟨#[]⟩,.bool false,.bool false,.slice none 0 0,.int .i64 0,.slice none 0 0] 97)).alloc (.cells #[.int .i64 0,.int .i64 0,.string ⟨#[]⟩,.int .i64 0,.int .i64 0] 124))) (g1:=w.heap.size+1) (g2:=w.heap.size+1+1) N1.out C6 D14.out (by omega) (by omega) (by simp<;>omega) (by simp<;>omega) C6
end Go.Proofs.YtfjhdnjlhjimeaaGreatDoor
