/- Unwrap of both packages. Conditions: none. Written by a program. -/
import Derived.Test.YtjigcplpkhpgnaaGreatDoorBoxes
set_option maxRecDepth 100000
set_option maxHeartbeats 8000000
namespace Go.Proofs.YtjigcplpkhpgnaaGreatDoor
open Go.RowKit
theorem unwrap_impl_any (p:PartT) (u3 u5:Value) (B:Nat) (w:World) (r3:Rd w B (cells p.core.cells) u3) (r5:Rd w B (layers p.layers) u5) (hB:B<=w.heap.size) (hl:p.layers.length<=1048576) (hcl:p.core.cells.length<=1048576) (hs:∀c∈p.core.cells,c.key.size<=1048576):
  Calls Tryz.prog 115 #[.agg #[.string p.core.kind,.bool p.core.on,.bool p.core.broken,u3,.int .i64 p.core.count,u5]] w (PartB (unwrapT p) w):=by
 obtain⟨A3,c3,rfl,_,_,_⟩:=cells_row r3
 obtain⟨A5,c5,rfl,h0,h1,_⟩:=layers_row r5
 unfold maxLen at h1
 have CP:=hid (fun W (hW:Chg [] w W)=>copyPart_any p _ _ B W hl hcl (r3.chg0 hW hB) (r5.chg0 hW hB) (by have:=hW.size;omega))
 have ip:=fun W (hW:Chg [] w W)=>isPart_impl_any p _ _ B W (r3.chg0 hW hB) (r5.chg0 hW hB) (by have:=hW.size;omega) hl hcl hs
 by_cases n1p:PartOk p
 ·have IP:=hid (fun W (hW:Chg [] w W)=>(ip W hW).mono (BoolPost.pos n1p))
  by_cases n2:p.layers.length=0
  ·have HB:Hid (¬PartOk p∨p.layers.length=0):=hid (.inr n2)
   have i0:((p.layers.length:Int)==0)=true:=by rw [beq_iff_eq];omega
   clear ip r3 r5 hs n2
   go_enter Tryz.func115,Tryz.ntmps115
   go_wp2_with fail
   refine(CP.out _ Chg.now).mono ?_
   rintro e w1 ⟨A4,c4,A6,c6,rfl,n1⟩
   obtain⟨T3,T5,own1,lo30,lo50,c1⟩:=n1.own
   have s1:=c1.size
   have v1:w.heap.size+2<=w1.heap.size:=by(try simp at s1)<;>omega
   obtain⟨ya1,za1,xa1,yc1,zc1,xc1, -⟩:=c1.low 2 (w.heap.size) (fun x hx=>by simp at hx)
   clear s1
   have D1:Hid (Chg [] w w1):=hid (Chg.trans0 Chg.now c1)
   have lo3:Hid (∀x,x∈T3->w.heap.size+2<=x/\x<w1.heap.size):=hid (fun x hx=>⟨by have:=lo30 x hx;(try simp at this)<;>omega,own1.h3.lt x hx⟩)
   have lo5:Hid (∀x,x∈T5->w.heap.size+2<=x/\x<w1.heap.size):=hid (fun x hx=>⟨by have:=lo50 x hx;(try simp at this)<;>omega,own1.h5.lt x hx⟩)
   have OW1:=hid own1
   clear own1 lo30 lo50 n1 c1
   go_wp2_with fail
   refine(IP.out _ (Chg.to D1.out)).mono ?_
   rintro e w2 ⟨rfl,c2⟩
   have s2:=c2.size
   have v2:w1.heap.size+1<=w2.heap.size:=by(try simp at s2)<;>omega
   obtain⟨ya2,za2,xa2,yc2,zc2,xc2, -⟩:=c2.low 2 (w.heap.size) (fun x hx=>by simp at hx)
   have yq2:=c2.ce w1.heap.size
   have zq2:=c2.fe w1.heap.size
   have xq2:w1.heap.size<w2.heap.size:=by omega
   clear s2
   have D2:Hid (Chg [] w w2):=hid (Chg.trans0 (Chg.to D1.out) c2)
   have OW2:=hid ((OW1.out.keep0 Chg.now).keep0 c2)
   clear c2 OW1
   go_wp2_with fail
   refine bodyPost_ret (v:=.tuple #[.agg #[.string p.core.kind,.bool p.core.on,.bool p.core.broken,.slice A4 p.core.cells.length c4,.int .i64 p.core.count,.slice A6 p.layers.length c6],.bool false]) (by simp only [results,Tryz.results115];go_simp) rfl ?_
   rw [unwrapT_bad HB.out]
   exact⟨A4,c4,A6,c6,rfl,POwn.newL ((OW2.out).keep (T:=[w.heap.size+1]) Chg.now (fun x hx=>by have:=lo3.out x hx;simp;omega) (fun x hx=>by have:=lo5.out x hx;simp;omega)) (fun x hx=>by have:=lo3.out x hx;omega) (fun x hx=>by have:=lo5.out x hx;omega) (Chg.to D2.out)⟩
  ·have HD:=hid (unwrapT_done n1p n2)
   have i0:((p.layers.length:Int)==0)=false:=by rw [beq_eq_false_iff_ne];omega
   have i1:(1:Int)<=(p.layers.length:Int):=by omega
   have i2:(p.layers.length:Int)<=1000:=by have:=n1p.2.1;omega
   have i3:0<p.layers.length:=by omega
   clear ip r3 r5 hs n2
   go_enter Tryz.func115,Tryz.ntmps115
   go_wp2_with fail
   refine(CP.out _ Chg.now).mono ?_
   rintro e w1 ⟨A4,c4,A6,c6,rfl,n1⟩
   obtain⟨T3,T5,own1,lo30,lo50,c1⟩:=n1.own
   have s1:=c1.size
   have v1:w.heap.size+2<=w1.heap.size:=by(try simp at s1)<;>omega
   obtain⟨ya1,za1,xa1,yc1,zc1,xc1, -⟩:=c1.low 2 (w.heap.size) (fun x hx=>by simp at hx)
   clear s1
   have D1:Hid (Chg [] w w1):=hid (Chg.trans0 Chg.now c1)
   have lo3:Hid (∀x,x∈T3->w.heap.size+2<=x/\x<w1.heap.size):=hid (fun x hx=>⟨by have:=lo30 x hx;(try simp at this)<;>omega,own1.h3.lt x hx⟩)
   have lo5:Hid (∀x,x∈T5->w.heap.size+2<=x/\x<w1.heap.size):=hid (fun x hx=>⟨by have:=lo50 x hx;(try simp at this)<;>omega,own1.h5.lt x hx⟩)
   have OW1:=hid own1
   clear own1 lo30 lo50 n1 c1
   go_wp2_with fail
   refine(IP.out _ (Chg.to D1.out)).mono ?_
   rintro e w2 ⟨rfl,c2⟩
   have s2:=c2.size
   have v2:w1.heap.size+1<=w2.heap.size:=by(try simp at s2)<;>omega
   obtain⟨ya2,za2,xa2,yc2,zc2,xc2, -⟩:=c2.low 2 (w.heap.size) (fun x hx=>by simp at hx)
   have yq2:=c2.ce w1.heap.size
   have zq2:=c2.fe w1.heap.size
   have xq2:w1.heap.size<w2.heap.size:=by omega
   clear s2
   have D2:Hid (Chg [] w w2):=hid (Chg.trans0 (Chg.to D1.out) c2)
   have OW2:=hid ((OW1.out.keep0 Chg.now).keep0 c2)
   clear c2 OW1
   obtain⟨g,hA6,hg5,hgl,hgc,hgm⟩:=OW2.out.block i3
   unfold maxLen at hgm
   subst hA6
   have j1:(p.layers.length:Int)<=(c6:Int):=by omega
   go_wp2_with fail
   skip
   refine bodyPost_ret (v:=.tuple #[.agg #[.string p.core.kind,.bool p.core.on,.bool p.core.broken,.slice A4 p.core.cells.length c4,.int .i64 p.core.count,.slice (some ⟨g,0,none⟩) (p.layers.length-1) c6],.bool true]) (by simp only [results,Tryz.results115];go_simp) rfl ?_
   rw [HD.out]
   have hlen:(p.layers.take (p.layers.length-1)).length=p.layers.length-1:=by simp
   exact⟨A4,c4,some ⟨g,0,none⟩,c6,by dsimp only;rw [hlen],POwn.newL ((OW2.out.less (k:=p.layers.length-1) (by omega)).keep (T:=[w.heap.size+1,w1.heap.size]) Chg.now (fun x hx=>by have:=lo3.out x hx;simp;omega) (fun x hx=>by have:=lo5.out x hx;simp;omega)) (fun x hx=>by have:=lo3.out x hx;omega) (fun x hx=>by have:=lo5.out x hx;omega) (Chg.to D2.out)⟩
 ·have IP:=hid (fun W (hW:Chg [] w W)=>(ip W hW).mono (BoolPost.neg n1p))
  have HB:Hid (¬PartOk p∨p.layers.length=0):=hid (.inl n1p)
  clear ip r3 r5 hs n1p
  go_enter Tryz.func115,Tryz.ntmps115
  go_wp2_with fail
  refine(CP.out _ Chg.now).mono ?_
  rintro e w1 ⟨A4,c4,A6,c6,rfl,n1⟩
  obtain⟨T3,T5,own1,lo30,lo50,c1⟩:=n1.own
  have s1:=c1.size
  have v1:w.heap.size+2<=w1.heap.size:=by(try simp at s1)<;>omega
  obtain⟨ya1,za1,xa1,yc1,zc1,xc1, -⟩:=c1.low 2 (w.heap.size) (fun x hx=>by simp at hx)
  clear s1
  have D1:Hid (Chg [] w w1):=hid (Chg.trans0 Chg.now c1)
  have lo3:Hid (∀x,x∈T3->w.heap.size+2<=x/\x<w1.heap.size):=hid (fun x hx=>⟨by have:=lo30 x hx;(try simp at this)<;>omega,own1.h3.lt x hx⟩)
  have lo5:Hid (∀x,x∈T5->w.heap.size+2<=x/\x<w1.heap.size):=hid (fun x hx=>⟨by have:=lo50 x hx;(try simp at this)<;>omega,own1.h5.lt x hx⟩)
  have OW1:=hid own1
  clear own1 lo30 lo50 n1 c1
  go_wp2_with fail
  refine(IP.out _ (Chg.to D1.out)).mono ?_
  rintro e w2 ⟨rfl,c2⟩
  have s2:=c2.size
  have v2:w1.heap.size+1<=w2.heap.size:=by(try simp at s2)<;>omega
  obtain⟨ya2,za2,xa2,yc2,zc2,xc2, -⟩:=c2.low 2 (w.heap.size) (fun x hx=>by simp at hx)
  have yq2:=c2.ce w1.heap.size
  have zq2:=c2.fe w1.heap.size
  have xq2:w1.heap.size<w2.heap.size:=by omega
  clear s2
  have D2:Hid (Chg [] w w2):=hid (Chg.trans0 (Chg.to D1.out) c2)
  have OW2:=hid ((OW1.out.keep0 Chg.now).keep0 c2)
  clear c2 OW1
  go_wp2_with fail
  refine bodyPost_ret (v:=.tuple #[.agg #[.string p.core.kind,.bool p.core.on,.bool p.core.broken,.slice A4 p.core.cells.length c4,.int .i64 p.core.count,.slice A6 p.layers.length c6],.bool false]) (by simp only [results,Tryz.results115];go_simp) rfl ?_
  rw [unwrapT_bad HB.out]
  exact⟨A4,c4,A6,c6,rfl,POwn.newL ((OW2.out).keep (T:=[w.heap.size+1]) Chg.now (fun x hx=>by have:=lo3.out x hx;simp;omega) (fun x hx=>by have:=lo5.out x hx;simp;omega)) (fun x hx=>by have:=lo3.out x hx;omega) (fun x hx=>by have:=lo5.out x hx;omega) (Chg.to D2.out)⟩
theorem unwrap_spec_any (p:PartT) (u3 u5:Value) (B:Nat) (w:World) (r3:Rd w B (cells p.core.cells) u3) (r5:Rd w B (layers p.layers) u5) (hB:B<=w.heap.size) (hl:p.layers.length<=1048576) (hcl:p.core.cells.length<=1048576) (hs:∀c∈p.core.cells,c.key.size<=1048576):
  Calls Tryz.prog 73 #[.agg #[.string p.core.kind,.bool p.core.on,.bool p.core.broken,u3,.int .i64 p.core.count,u5]] w (PartB (unwrapT p) w):=by
 obtain⟨A3,c3,rfl,_,_,_⟩:=cells_row r3
 obtain⟨A5,c5,rfl,h0,h1,_⟩:=layers_row r5
 unfold maxLen at h1
 have CP:=hid (fun W (hW:Chg [] w W)=>l4Copy_any p _ _ B W hl hcl (r3.chg0 hW hB) (r5.chg0 hW hB) (by have:=hW.size;omega))
 have ip:=fun W (hW:Chg [] w W)=>isPart_spec_any p _ _ B W (r3.chg0 hW hB) (r5.chg0 hW hB) (by have:=hW.size;omega) hl hcl hs
 by_cases n1p:PartOk p
 ·have IP:=hid (fun W (hW:Chg [] w W)=>(ip W hW).mono (BoolPost.pos n1p))
  by_cases n2:p.layers.length=0
  ·have HB:Hid (¬PartOk p∨p.layers.length=0):=hid (.inr n2)
   have i0:((p.layers.length:Int)==0)=true:=by rw [beq_iff_eq];omega
   clear ip r3 r5 hs n2
   go_enter Tryz.func73,Tryz.ntmps73
   go_wp2_with fail
   refine(CP.out _ Chg.now).mono ?_
   rintro e w1 ⟨A4,c4,A6,c6,rfl,n1⟩
   obtain⟨T3,T5,own1,lo30,lo50,c1⟩:=n1.own
   have s1:=c1.size
   have v1:w.heap.size+2<=w1.heap.size:=by(try simp at s1)<;>omega
   obtain⟨ya1,za1,xa1,yc1,zc1,xc1, -⟩:=c1.low 2 (w.heap.size) (fun x hx=>by simp at hx)
   clear s1
   have D1:Hid (Chg [] w w1):=hid (Chg.trans0 Chg.now c1)
   have lo3:Hid (∀x,x∈T3->w.heap.size+2<=x/\x<w1.heap.size):=hid (fun x hx=>⟨by have:=lo30 x hx;(try simp at this)<;>omega,own1.h3.lt x hx⟩)
   have lo5:Hid (∀x,x∈T5->w.heap.size+2<=x/\x<w1.heap.size):=hid (fun x hx=>⟨by have:=lo50 x hx;(try simp at this)<;>omega,own1.h5.lt x hx⟩)
   have OW1:=hid own1
   clear own1 lo30 lo50 n1 c1
   go_wp2_with fail
   refine(IP.out _ (Chg.to D1.out)).mono ?_
   rintro e w2 ⟨rfl,c2⟩
   have s2:=c2.size
   have v2:w1.heap.size+1<=w2.heap.size:=by(try simp at s2)<;>omega
   obtain⟨ya2,za2,xa2,yc2,zc2,xc2, -⟩:=c2.low 2 (w.heap.size) (fun x hx=>by simp at hx)
   have yq2:=c2.ce w1.heap.size
   have zq2:=c2.fe w1.heap.size
   have xq2:w1.heap.size<w2.heap.size:=by omega
   clear s2
   have D2:Hid (Chg [] w w2):=hid (Chg.trans0 (Chg.to D1.out) c2)
   have OW2:=hid ((OW1.out.keep0 Chg.now).keep0 c2)
   clear c2 OW1
   go_wp2_with fail
   refine bodyPost_ret (v:=.tuple #[.agg #[.string p.core.kind,.bool p.core.on,.bool p.core.broken,.slice A4 p.core.cells.length c4,.int .i64 p.core.count,.slice A6 p.layers.length c6],.bool false]) (by simp only [results,Tryz.results73];go_simp) rfl ?_
   rw [unwrapT_bad HB.out]
   exact⟨A4,c4,A6,c6,rfl,POwn.newL ((OW2.out).keep (T:=[w.heap.size+1]) Chg.now (fun x hx=>by have:=lo3.out x hx;simp;omega) (fun x hx=>by have:=lo5.out x hx;simp;omega)) (fun x hx=>by have:=lo3.out x hx;omega) (fun x hx=>by have:=lo5.out x hx;omega) (Chg.to D2.out)⟩
  ·have HD:=hid (unwrapT_done n1p n2)
   have i0:((p.layers.length:Int)==0)=false:=by rw [beq_eq_false_iff_ne];omega
   have i1:(1:Int)<=(p.layers.length:Int):=by omega
   have i2:(p.layers.length:Int)<=1000:=by have:=n1p.2.1;omega
   have i3:0<p.layers.length:=by omega
   clear ip r3 r5 hs n2
   go_enter Tryz.func73,Tryz.ntmps73
   go_wp2_with fail
   refine(CP.out _ Chg.now).mono ?_
   rintro e w1 ⟨A4,c4,A6,c6,rfl,n1⟩
   obtain⟨T3,T5,own1,lo30,lo50,c1⟩:=n1.own
   have s1:=c1.size
   have v1:w.heap.size+2<=w1.heap.size:=by(try simp at s1)<;>omega
   obtain⟨ya1,za1,xa1,yc1,zc1,xc1, -⟩:=c1.low 2 (w.heap.size) (fun x hx=>by simp at hx)
   clear s1
   have D1:Hid (Chg [] w w1):=hid (Chg.trans0 Chg.now c1)
   have lo3:Hid (∀x,x∈T3->w.heap.size+2<=x/\x<w1.heap.size):=hid (fun x hx=>⟨by have:=lo30 x hx;(try simp at this)<;>omega,own1.h3.lt x hx⟩)
   have lo5:Hid (∀x,x∈T5->w.heap.size+2<=x/\x<w1.heap.size):=hid (fun x hx=>⟨by have:=lo50 x hx;(try simp at this)<;>omega,own1.h5.lt x hx⟩)
   have OW1:=hid own1
   clear own1 lo30 lo50 n1 c1
   go_wp2_with fail
   refine(IP.out _ (Chg.to D1.out)).mono ?_
   rintro e w2 ⟨rfl,c2⟩
   have s2:=c2.size
   have v2:w1.heap.size+1<=w2.heap.size:=by(try simp at s2)<;>omega
   obtain⟨ya2,za2,xa2,yc2,zc2,xc2, -⟩:=c2.low 2 (w.heap.size) (fun x hx=>by simp at hx)
   have yq2:=c2.ce w1.heap.size
   have zq2:=c2.fe w1.heap.size
   have xq2:w1.heap.size<w2.heap.size:=by omega
   clear s2
   have D2:Hid (Chg [] w w2):=hid (Chg.trans0 (Chg.to D1.out) c2)
   have OW2:=hid ((OW1.out.keep0 Chg.now).keep0 c2)
   clear c2 OW1
   obtain⟨g,hA6,hg5,hgl,hgc,hgm⟩:=OW2.out.block i3
   unfold maxLen at hgm
   subst hA6
   have j1:(p.layers.length:Int)<=(c6:Int):=by omega
   go_wp2_with fail
   skip
   refine bodyPost_ret (v:=.tuple #[.agg #[.string p.core.kind,.bool p.core.on,.bool p.core.broken,.slice A4 p.core.cells.length c4,.int .i64 p.core.count,.slice (some ⟨g,0,none⟩) (p.layers.length-1) c6],.bool true]) (by simp only [results,Tryz.results73];go_simp) rfl ?_
   rw [HD.out]
   have hlen:(p.layers.take (p.layers.length-1)).length=p.layers.length-1:=by simp
   exact⟨A4,c4,some ⟨g,0,none⟩,c6,by dsimp only;rw [hlen],POwn.newL ((OW2.out.less (k:=p.layers.length-1) (by omega)).keep (T:=[w.heap.size+1,w1.heap.size]) Chg.now (fun x hx=>by have:=lo3.out x hx;simp;omega) (fun x hx=>by have:=lo5.out x hx;simp;omega)) (fun x hx=>by have:=lo3.out x hx;omega) (fun x hx=>by have:=lo5.out x hx;omega) (Chg.to D2.out)⟩
 ·have IP:=hid (fun W (hW:Chg [] w W)=>(ip W hW).mono (BoolPost.neg n1p))
  have HB:Hid (¬PartOk p∨p.layers.length=0):=hid (.inl n1p)
  clear ip r3 r5 hs n1p
  go_enter Tryz.func73,Tryz.ntmps73
  go_wp2_with fail
  refine(CP.out _ Chg.now).mono ?_
  rintro e w1 ⟨A4,c4,A6,c6,rfl,n1⟩
  obtain⟨T3,T5,own1,lo30,lo50,c1⟩:=n1.own
  have s1:=c1.size
  have v1:w.heap.size+2<=w1.heap.size:=by(try simp at s1)<;>omega
  obtain⟨ya1,za1,xa1,yc1,zc1,xc1, -⟩:=c1.low 2 (w.heap.size) (fun x hx=>by simp at hx)
  clear s1
  have D1:Hid (Chg [] w w1):=hid (Chg.trans0 Chg.now c1)
  have lo3:Hid (∀x,x∈T3->w.heap.size+2<=x/\x<w1.heap.size):=hid (fun x hx=>⟨by have:=lo30 x hx;(try simp at this)<;>omega,own1.h3.lt x hx⟩)
  have lo5:Hid (∀x,x∈T5->w.heap.size+2<=x/\x<w1.heap.size):=hid (fun x hx=>⟨by have:=lo50 x hx;(try simp at this)<;>omega,own1.h5.lt x hx⟩)
  have OW1:=hid own1
  clear own1 lo30 lo50 n1 c1
  go_wp2_with fail
  refine(IP.out _ (Chg.to D1.out)).mono ?_
  rintro e w2 ⟨rfl,c2⟩
  have s2:=c2.size
  have v2:w1.heap.size+1<=w2.heap.size:=by(try simp at s2)<;>omega
  obtain⟨ya2,za2,xa2,yc2,zc2,xc2, -⟩:=c2.low 2 (w.heap.size) (fun x hx=>by simp at hx)
  have yq2:=c2.ce w1.heap.size
  have zq2:=c2.fe w1.heap.size
  have xq2:w1.heap.size<w2.heap.size:=by omega
  clear s2
  have D2:Hid (Chg [] w w2):=hid (Chg.trans0 (Chg.to D1.out) c2)
  have OW2:=hid ((OW1.out.keep0 Chg.now).keep0 c2)
  clear c2 OW1
  go_wp2_with fail
  refine bodyPost_ret (v:=.tuple #[.agg #[.string p.core.kind,.bool p.core.on,.bool p.core.broken,.slice A4 p.core.cells.length c4,.int .i64 p.core.count,.slice A6 p.layers.length c6],.bool false]) (by simp only [results,Tryz.results73];go_simp) rfl ?_
  rw [unwrapT_bad HB.out]
  exact⟨A4,c4,A6,c6,rfl,POwn.newL ((OW2.out).keep (T:=[w.heap.size+1]) Chg.now (fun x hx=>by have:=lo3.out x hx;simp;omega) (fun x hx=>by have:=lo5.out x hx;simp;omega)) (fun x hx=>by have:=lo3.out x hx;omega) (fun x hx=>by have:=lo5.out x hx;omega) (Chg.to D2.out)⟩
end Go.Proofs.YtjigcplpkhpgnaaGreatDoor
