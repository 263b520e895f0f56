/- CallPart of the program. Conditions: as stated. -/
import Derived.Test.YtjeadhmkghnkkaaGreatDoorThrus
import Derived.Test.YtjeadhmkghnkkaaGreatDoorIsActs
set_option maxRecDepth 100000
set_option maxHeartbeats 8000000
namespace Go.Proofs.YtjeadhmkghnkkaaGreatDoor
open Go.RowKit
theorem Ki (p:Qe) (x:QL) (u3 u5:Value) (B:Nat) (w:World) (r3:Rd w B (cells p.core.cells) u3) (r5:Rd w B (layers p.layers) u5) (hB:B<=w.heap.size) (hl:p.layers.length<=1048576) (hcl:p.core.cells.length<=1048576) (hs:∀c∈p.core.cells,c.key.size<=1048576) (ht:x.text.size<=1048575) (hk:x.key.size<=1048576) (hE:KP w):
  Calls Tryz.prog 147 #[.agg #[.string p.core.kind,.bool p.core.on,.bool p.core.broken,u3,.int .i64 p.core.count,u5],.agg #[.string x.method,.string x.key,.int .i64 x.value,.string x.text]] w (kE (QB p x) w):=by
 obtain⟨A3,c3,rfl,_,_,_⟩:=QX r3
 obtain⟨A5,c5,rfl,h0,h1,_⟩:=Xb r5
 unfold maxLen at h1
 have CP:=Qb (fun W (hW:Qc [] w W)=>VP p _ _ B W hl hcl (r3.cz hW hB) (r5.cz hW hB) (by have:=hW.size;omega))
 have FO:=Qb (fun W (hW:Qc [] w W)=>Wl p (.slice A3 p.core.cells.length c3) _ B W (r5.cz hW hB) (by have:=hW.size;omega))
 have ip:=fun W (hW:Qc [] w W)=>Vf p _ _ B W (r3.cz hW hB) (r5.cz hW hB) (by have:=hW.size;omega) hl hcl hs
 by_cases n1p:Qn p
 ·have IP:=Qb (fun W (hW:Qc [] w W)=>(ip W hW).mono (O3 n1p))
  by_cases n2:QS x
  ·have IX:=Qb (fun W=>(QU x W hk).mono (O3 n2))
   have WT:=Qb (fun W=>xB x.method W)
   by_cases n3:ZL (Qq p p.layers.length) (ZR x.method)
   ·have OF:=Qb (fun W=>(Xp (Qq p p.layers.length) (ZR x.method) W).mono (QZ.pos n3))
    have okx:Zr p.layers.length p x:=⟨n1p,F0 _,n2,n3⟩
    have EB:=Qb (YO.of hE)
    have TH:=Qb (fun W g S3 S5 (hW:Zf W g p S3 S5) (hE:YO w.heap.size W) (hB:w.heap.size<=W.heap.size) (hS:∀y∈g::(S3++S5),w.heap.size<=y)=>yS p.layers.length p x g w.heap.size S3 S5 W hW okx ht hk hE hB hS)
    rw [vU n1p n2 n3]
    have hlen:(XG p.layers.length p x).1.layers.length=p.layers.length:=(XF _ _ _ okx).2.len
    obtain⟨r,hr⟩:∃r,r=XG p.layers.length p x:=⟨_,rfl⟩
    rw [<-hr] at TH hlen ⊢
    have HL:=Qb hlen
    have i1:(p.layers.length:Int)<=1000:=by have:=n1p.2.1;omega
    have R3:=Qb r3
    clear ip r3 r5 hs hr hlen okx n1p n2 n3 ht hk hl hcl hE
    go_enter Tryz.func147,Tryz.ntmps147
    go_wp2_with fail
    refine(CP.out _ C6).mono ?_
    rintro e w1 ⟨A4,c4,A6,c6,rfl,n1⟩
    obtain⟨T3,T5,own1,lo30,lo50,c1⟩:=n1.own
    have s1:=c1.size
    have v1:w.heap.size+4<=w1.heap.size:=by(try simp at s1)<;>omega
    obtain⟨ya1,za1,xa1,yb1,zb1,xb1,yc1,zc1,xc1,yd1,zd1,xd1, -⟩:=c1.low 4 (w.heap.size) (fun x hx=>by simp at hx)
    clear s1
    have D1:Hid (Qc [] w w1):=Qb (H0 C6 c1)
    have lo3:Hid (∀x,x∈T3->w.heap.size+4<=x/\x<w1.heap.size):=Qb (fun x hx=>⟨by have:=lo30 x hx;(try simp at this)<;>omega,own1.h3.lt x hx⟩)
    have lo5:Hid (∀x,x∈T5->w.heap.size+4<=x/\x<w1.heap.size):=Qb (fun x hx=>⟨by have:=lo50 x hx;(try simp at this)<;>omega,own1.h5.lt x hx⟩)
    have OW1:=Qb own1
    clear own1 lo30 lo50 n1 c1
    go_wp2_with fail
    refine(IP.out _ (H9 D1.out)).mono ?_
    rintro e w2 ⟨rfl,c2⟩
    have s2:=c2.size
    have v2:w1.heap.size+1<=w2.heap.size:=by(try simp at s2)<;>omega
    obtain⟨ya2,za2,xa2,yb2,zb2,xb2,yc2,zc2,xc2,yd2,zd2,xd2, -⟩:=c2.low 4 (w.heap.size) (fun x hx=>by simp at hx)
    have yq2:=c2.ce w1.heap.size
    have zq2:=c2.fe w1.heap.size
    have xq2:w1.heap.size<w2.heap.size:=by omega
    clear s2
    have D2:Hid (Qc [] w w2):=Qb (H0 (H9 D1.out) c2)
    have OW2:=Qb ((OW1.out.kz C6).kz c2)
    clear c2 OW1
    go_wp2_with fail
    refine(IX.out _).mono ?_
    rintro e w3 ⟨rfl,c3x⟩
    have c3:=c3x
    clear c3x
    have s3:=c3.size
    have v3:w2.heap.size<=w3.heap.size:=by(try simp at s3)<;>omega
    obtain⟨ya3,za3,xa3,yb3,zb3,xb3,yc3,zc3,xc3,yd3,zd3,xd3, -⟩:=c3.low 4 (w.heap.size) (fun x hx=>by simp at hx)
    have yq3:=c3.ce w1.heap.size
    have zq3:=c3.fe w1.heap.size
    have xq3:w1.heap.size<w3.heap.size:=by omega
    clear s3
    have D3:Hid (Qc [] w w3):=Qb (H0 (H9 D2.out) c3)
    have OW3:=Qb ((OW2.out.kz C6).kz c3)
    clear c3 OW2
    go_wp2_with fail
    refine(FO.out _ (H9 D3.out)).mono ?_
    rintro e w4 ⟨rfl,c4⟩
    have s4:=c4.size
    have v4:w3.heap.size<=w4.heap.size:=by(try simp at s4)<;>omega
    obtain⟨ya4,za4,xa4,yb4,zb4,xb4,yc4,zc4,xc4,yd4,zd4,xd4, -⟩:=c4.low 4 (w.heap.size) (fun x hx=>by simp at hx)
    have yq4:=c4.ce w1.heap.size
    have zq4:=c4.fe w1.heap.size
    have xq4:w1.heap.size<w4.heap.size:=by omega
    clear s4
    have D4:Hid (Qc [] w w4):=Qb (H0 (H9 D3.out) c4)
    have OW4:=Qb ((OW3.out.kz C6).kz c4)
    clear c4 OW3
    go_wp2_with fail
    refine(WT.out _).mono ?_
    rintro e w5 ⟨rfl,c5y⟩
    have c5:=c5y
    clear c5y
    have s5:=c5.size
    have v5:w4.heap.size<=w5.heap.size:=by(try simp at s5)<;>omega
    obtain⟨ya5,za5,xa5,yb5,zb5,xb5,yc5,zc5,xc5,yd5,zd5,xd5, -⟩:=c5.low 4 (w.heap.size) (fun x hx=>by simp at hx)
    have yq5:=c5.ce w1.heap.size
    have zq5:=c5.fe w1.heap.size
    have xq5:w1.heap.size<w5.heap.size:=by omega
    clear s5
    have D5:Hid (Qc [] w w5):=Qb (H0 (H9 D4.out) c5)
    have OW5:=Qb ((OW4.out.kz C6).kz c5)
    clear c5 OW4
    go_wp2_with fail
    refine(OF.out _).mono ?_
    rintro e w5b ⟨rfl,hw5b⟩
    obtain rfl:=hw5b.symm
    go_wp2_with fail
    refine(TH.out _ w1.heap.size T3 T5 ?_ (EB.out.keep (S:=[]) (H9 D5.out) (by simp) (F0 _)) (by(try simp)<;>omega) (fun y hy=>by
     rcases C7.1 hy with rfl|hy2
     ·omega
     ·rcases F4.1 hy2 with h|h
      ·have:=lo3.out y h;omega
      ·have:=lo5.out y h;omega)).mono ?_
    ·exact(OW5.out.kz C6).pbox (by go_simp) (by go_simp) (by go_simp) (by go_simp) (by go_simp) (by go_simp) (fun o ho=>by go_simp) (fun h=>by have:=lo3.out _ h;omega) (fun h=>by have:=lo5.out _ h;omega)
    rintro e w6 ⟨U3,rfl,pb6,hU,c6x⟩
    have hne:∀y,y∈w1.heap.size::(T3++T5)->w.heap.size+4<=y:=fun y hy=>by
     rcases C7.1 hy with rfl|hy2
     ·omega
     ·rcases F4.1 hy2 with h|h
      ·have:=lo3.out y h;omega
      ·have:=lo5.out y h;omega
    have s6:=c6x.size
    have v6:w5.heap.size<=w6.heap.size:=by(try simp at s6)<;>omega
    obtain⟨-, -,xa6, -, -,xb6,yc6,zc6,xc6,yd6,zd6,xd6, -⟩:=c6x.low 4 (w.heap.size) (fun x hx=>by have:=hne _ hx;(try simp at this)<;>omega)
    have xq6:w1.heap.size<w6.heap.size:=by omega
    clear s6
    have D6:Hid (Qc [] w w6):=Qb (((K6 (S:=w1.heap.size::(T3++T5)) (H9 (D5.out.mono (by simp))) c6x (fun x hx=>.inl hx))).mono (fun x hx=>.inr (by have:=hne x hx;omega)))
    have hU3:Hid (∀x,x∈U3->w.heap.size+4<=x/\x<w6.heap.size):=Qb (fun x hx=>⟨by rcases hU x hx with h|h;(have:=lo3.out x h;omega);((try simp at h)<;>omega),pb6.lt3 x hx⟩)
    have hU5:Hid (∀x,x∈T5->w.heap.size+4<=x/\x<w6.heap.size):=Qb (fun x hx=>⟨(lo5.out x hx).1,pb6.lt5 x hx⟩)
    obtain⟨B3,b3,B5,b5,own6,p0,p1,p2,p3,p4,p5⟩:=pb6.own
    have OW6:=Qb own6
    rw [HL.out] at p5
    clear own6 pb6 hU c6x hne
    go_wp2_with fail
    go_region
    all_goals
     go_wp2_with fail
     refine bodyPost_ret (v:=.tuple #[.agg #[.string r.1.core.kind,.bool r.1.core.on,.bool r.1.core.broken,.slice B3 r.1.core.cells.length b3,.int .i64 r.1.core.count,.slice B5 p.layers.length b5],.agg #[.int .i64 r.2.code,.int .i64 r.2.value,.string r.2.text,.int .i64 r.2.want,.int .i64 r.2.had]]) (by simp only [results,Tryz.results147];go_simp) rfl ?_
     exact⟨B3,b3,B5,b5,by rw [HL.out],Ue.newL ((OW6.out).keep (T:=[w.heap.size+1+1,w.heap.size+1+1+1]) C6 (fun x hx=>by have:=hU3.out x hx;simp;omega) (fun x hx=>by have:=hU5.out x hx;simp;omega)) (fun x hx=>by have:=hU3.out x hx;omega) (fun x hx=>by have:=hU5.out x hx;omega) (H9 D6.out)⟩
   ·have OF:=Qb (fun W=>(Xp (Qq p p.layers.length) (ZR x.method) W).mono (QZ.neg n3))
    clear ip r3 r5 hs
    go_enter Tryz.func147,Tryz.ntmps147
    go_wp2_with fail
    refine(CP.out _ C6).mono ?_
    rintro e w1 ⟨A4,c4,A6,c6,rfl,n1⟩
    obtain⟨T3,T5,own1,lo30,lo50,c1⟩:=n1.own
    have s1:=c1.size
    have v1:w.heap.size+4<=w1.heap.size:=by(try simp at s1)<;>omega
    obtain⟨ya1,za1,xa1,yb1,zb1,xb1,yc1,zc1,xc1,yd1,zd1,xd1, -⟩:=c1.low 4 (w.heap.size) (fun x hx=>by simp at hx)
    clear s1
    have D1:Hid (Qc [] w w1):=Qb (H0 C6 c1)
    have lo3:Hid (∀x,x∈T3->w.heap.size+4<=x/\x<w1.heap.size):=Qb (fun x hx=>⟨by have:=lo30 x hx;(try simp at this)<;>omega,own1.h3.lt x hx⟩)
    have lo5:Hid (∀x,x∈T5->w.heap.size+4<=x/\x<w1.heap.size):=Qb (fun x hx=>⟨by have:=lo50 x hx;(try simp at this)<;>omega,own1.h5.lt x hx⟩)
    have OW1:=Qb own1
    clear own1 lo30 lo50 n1 c1
    go_wp2_with fail
    refine(IP.out _ (H9 D1.out)).mono ?_
    rintro e w2 ⟨rfl,c2⟩
    have s2:=c2.size
    have v2:w1.heap.size+1<=w2.heap.size:=by(try simp at s2)<;>omega
    obtain⟨ya2,za2,xa2,yb2,zb2,xb2,yc2,zc2,xc2,yd2,zd2,xd2, -⟩:=c2.low 4 (w.heap.size) (fun x hx=>by simp at hx)
    have yq2:=c2.ce w1.heap.size
    have zq2:=c2.fe w1.heap.size
    have xq2:w1.heap.size<w2.heap.size:=by omega
    clear s2
    have D2:Hid (Qc [] w w2):=Qb (H0 (H9 D1.out) c2)
    have OW2:=Qb ((OW1.out.kz C6).kz c2)
    clear c2 OW1
    go_wp2_with fail
    refine(IX.out _).mono ?_
    rintro e w3 ⟨rfl,c3x⟩
    have c3:=c3x
    clear c3x
    have s3:=c3.size
    have v3:w2.heap.size<=w3.heap.size:=by(try simp at s3)<;>omega
    obtain⟨ya3,za3,xa3,yb3,zb3,xb3,yc3,zc3,xc3,yd3,zd3,xd3, -⟩:=c3.low 4 (w.heap.size) (fun x hx=>by simp at hx)
    have yq3:=c3.ce w1.heap.size
    have zq3:=c3.fe w1.heap.size
    have xq3:w1.heap.size<w3.heap.size:=by omega
    clear s3
    have D3:Hid (Qc [] w w3):=Qb (H0 (H9 D2.out) c3)
    have OW3:=Qb ((OW2.out.kz C6).kz c3)
    clear c3 OW2
    go_wp2_with fail
    refine(FO.out _ (H9 D3.out)).mono ?_
    rintro e w4 ⟨rfl,c4⟩
    have s4:=c4.size
    have v4:w3.heap.size<=w4.heap.size:=by(try simp at s4)<;>omega
    obtain⟨ya4,za4,xa4,yb4,zb4,xb4,yc4,zc4,xc4,yd4,zd4,xd4, -⟩:=c4.low 4 (w.heap.size) (fun x hx=>by simp at hx)
    have yq4:=c4.ce w1.heap.size
    have zq4:=c4.fe w1.heap.size
    have xq4:w1.heap.size<w4.heap.size:=by omega
    clear s4
    have D4:Hid (Qc [] w w4):=Qb (H0 (H9 D3.out) c4)
    have OW4:=Qb ((OW3.out.kz C6).kz c4)
    clear c4 OW3
    go_wp2_with fail
    refine(WT.out _).mono ?_
    rintro e w5 ⟨rfl,c5y⟩
    have c5:=c5y
    clear c5y
    have s5:=c5.size
    have v5:w4.heap.size<=w5.heap.size:=by(try simp at s5)<;>omega
    obtain⟨ya5,za5,xa5,yb5,zb5,xb5,yc5,zc5,xc5,yd5,zd5,xd5, -⟩:=c5.low 4 (w.heap.size) (fun x hx=>by simp at hx)
    have yq5:=c5.ce w1.heap.size
    have zq5:=c5.fe w1.heap.size
    have xq5:w1.heap.size<w5.heap.size:=by omega
    clear s5
    have D5:Hid (Qc [] w w5):=Qb (H0 (H9 D4.out) c5)
    have OW5:=Qb ((OW4.out.kz C6).kz c5)
    clear c5 OW4
    go_wp2_with fail
    refine(OF.out _).mono ?_
    rintro e w5b ⟨rfl,hw5b⟩
    obtain rfl:=hw5b.symm
    go_wp2_with fail
    refine bodyPost_ret (v:=.tuple #[.agg #[.string p.core.kind,.bool p.core.on,.bool p.core.broken,.slice A4 p.core.cells.length c4,.int .i64 p.core.count,.slice A6 p.layers.length c6],.agg #[.int .i64 1,.int .i64 0,.string ⟨#[]⟩,.int .i64 (ZR x.method),.int .i64 (Qq p p.layers.length)]]) (by simp only [results,Tryz.results147];go_simp) rfl ?_
    rw [xu n1p n2 n3]
    exact⟨A4,c4,A6,c6,rfl,Ue.newL ((OW5.out).keep (T:=[w.heap.size+1+1,w.heap.size+1+1+1]) C6 (fun x hx=>by have:=lo3.out x hx;simp;omega) (fun x hx=>by have:=lo5.out x hx;simp;omega)) (fun x hx=>by have:=lo3.out x hx;omega) (fun x hx=>by have:=lo5.out x hx;omega) (H9 D5.out)⟩
  ·have IX:=Qb (fun W=>(QU x W hk).mono (R4 n2))
   clear ip r3 r5 hs
   go_enter Tryz.func147,Tryz.ntmps147
   go_wp2_with fail
   refine(CP.out _ C6).mono ?_
   rintro e w1 ⟨A4,c4,A6,c6,rfl,n1⟩
   obtain⟨T3,T5,own1,lo30,lo50,c1⟩:=n1.own
   have s1:=c1.size
   have v1:w.heap.size+4<=w1.heap.size:=by(try simp at s1)<;>omega
   obtain⟨ya1,za1,xa1,yb1,zb1,xb1,yc1,zc1,xc1,yd1,zd1,xd1, -⟩:=c1.low 4 (w.heap.size) (fun x hx=>by simp at hx)
   clear s1
   have D1:Hid (Qc [] w w1):=Qb (H0 C6 c1)
   have lo3:Hid (∀x,x∈T3->w.heap.size+4<=x/\x<w1.heap.size):=Qb (fun x hx=>⟨by have:=lo30 x hx;(try simp at this)<;>omega,own1.h3.lt x hx⟩)
   have lo5:Hid (∀x,x∈T5->w.heap.size+4<=x/\x<w1.heap.size):=Qb (fun x hx=>⟨by have:=lo50 x hx;(try simp at this)<;>omega,own1.h5.lt x hx⟩)
   have OW1:=Qb own1
   clear own1 lo30 lo50 n1 c1
   go_wp2_with fail
   refine(IP.out _ (H9 D1.out)).mono ?_
   rintro e w2 ⟨rfl,c2⟩
   have s2:=c2.size
   have v2:w1.heap.size+1<=w2.heap.size:=by(try simp at s2)<;>omega
   obtain⟨ya2,za2,xa2,yb2,zb2,xb2,yc2,zc2,xc2,yd2,zd2,xd2, -⟩:=c2.low 4 (w.heap.size) (fun x hx=>by simp at hx)
   have yq2:=c2.ce w1.heap.size
   have zq2:=c2.fe w1.heap.size
   have xq2:w1.heap.size<w2.heap.size:=by omega
   clear s2
   have D2:Hid (Qc [] w w2):=Qb (H0 (H9 D1.out) c2)
   have OW2:=Qb ((OW1.out.kz C6).kz c2)
   clear c2 OW1
   go_wp2_with fail
   refine(IX.out _).mono ?_
   rintro e w3 ⟨rfl,c3x⟩
   have c3:=c3x
   clear c3x
   have s3:=c3.size
   have v3:w2.heap.size<=w3.heap.size:=by(try simp at s3)<;>omega
   obtain⟨ya3,za3,xa3,yb3,zb3,xb3,yc3,zc3,xc3,yd3,zd3,xd3, -⟩:=c3.low 4 (w.heap.size) (fun x hx=>by simp at hx)
   have yq3:=c3.ce w1.heap.size
   have zq3:=c3.fe w1.heap.size
   have xq3:w1.heap.size<w3.heap.size:=by omega
   clear s3
   have D3:Hid (Qc [] w w3):=Qb (H0 (H9 D2.out) c3)
   have OW3:=Qb ((OW2.out.kz C6).kz c3)
   clear c3 OW2
   go_wp2_with fail
   refine bodyPost_ret (v:=.tuple #[.agg #[.string p.core.kind,.bool p.core.on,.bool p.core.broken,.slice A4 p.core.cells.length c4,.int .i64 p.core.count,.slice A6 p.layers.length c6],.agg #[.int .i64 7,.int .i64 0,.string ⟨#[]⟩,.int .i64 0,.int .i64 0]]) (by simp only [results,Tryz.results147];go_simp) rfl ?_
   rw [qp (.inr n2)]
   exact⟨A4,c4,A6,c6,rfl,Ue.newL ((OW3.out).keep (T:=[w.heap.size+1+1,w.heap.size+1+1+1]) C6 (fun x hx=>by have:=lo3.out x hx;simp;omega) (fun x hx=>by have:=lo5.out x hx;simp;omega)) (fun x hx=>by have:=lo3.out x hx;omega) (fun x hx=>by have:=lo5.out x hx;omega) (H9 D3.out)⟩
 ·have IP:=Qb (fun W (hW:Qc [] w W)=>(ip W hW).mono (R4 n1p))
  clear ip r3 r5 hs
  go_enter Tryz.func147,Tryz.ntmps147
  go_wp2_with fail
  refine(CP.out _ C6).mono ?_
  rintro e w1 ⟨A4,c4,A6,c6,rfl,n1⟩
  obtain⟨T3,T5,own1,lo30,lo50,c1⟩:=n1.own
  have s1:=c1.size
  have v1:w.heap.size+4<=w1.heap.size:=by(try simp at s1)<;>omega
  obtain⟨ya1,za1,xa1,yb1,zb1,xb1,yc1,zc1,xc1,yd1,zd1,xd1, -⟩:=c1.low 4 (w.heap.size) (fun x hx=>by simp at hx)
  clear s1
  have D1:Hid (Qc [] w w1):=Qb (H0 C6 c1)
  have lo3:Hid (∀x,x∈T3->w.heap.size+4<=x/\x<w1.heap.size):=Qb (fun x hx=>⟨by have:=lo30 x hx;(try simp at this)<;>omega,own1.h3.lt x hx⟩)
  have lo5:Hid (∀x,x∈T5->w.heap.size+4<=x/\x<w1.heap.size):=Qb (fun x hx=>⟨by have:=lo50 x hx;(try simp at this)<;>omega,own1.h5.lt x hx⟩)
  have OW1:=Qb own1
  clear own1 lo30 lo50 n1 c1
  go_wp2_with fail
  refine(IP.out _ (H9 D1.out)).mono ?_
  rintro e w2 ⟨rfl,c2⟩
  have s2:=c2.size
  have v2:w1.heap.size+1<=w2.heap.size:=by(try simp at s2)<;>omega
  obtain⟨ya2,za2,xa2,yb2,zb2,xb2,yc2,zc2,xc2,yd2,zd2,xd2, -⟩:=c2.low 4 (w.heap.size) (fun x hx=>by simp at hx)
  have yq2:=c2.ce w1.heap.size
  have zq2:=c2.fe w1.heap.size
  have xq2:w1.heap.size<w2.heap.size:=by omega
  clear s2
  have D2:Hid (Qc [] w w2):=Qb (H0 (H9 D1.out) c2)
  have OW2:=Qb ((OW1.out.kz C6).kz c2)
  clear c2 OW1
  go_wp2_with fail
  refine bodyPost_ret (v:=.tuple #[.agg #[.string p.core.kind,.bool p.core.on,.bool p.core.broken,.slice A4 p.core.cells.length c4,.int .i64 p.core.count,.slice A6 p.layers.length c6],.agg #[.int .i64 7,.int .i64 0,.string ⟨#[]⟩,.int .i64 0,.int .i64 0]]) (by simp only [results,Tryz.results147];go_simp) rfl ?_
  rw [qp (.inl n1p)]
  exact⟨A4,c4,A6,c6,rfl,Ue.newL ((OW2.out).keep (T:=[w.heap.size+1+1,w.heap.size+1+1+1]) C6 (fun x hx=>by have:=lo3.out x hx;simp;omega) (fun x hx=>by have:=lo5.out x hx;simp;omega)) (fun x hx=>by have:=lo3.out x hx;omega) (fun x hx=>by have:=lo5.out x hx;omega) (H9 D2.out)⟩
theorem xD (p:Qe) (u3 u5:Value) (B:Nat) (w:World) (r3:Rd w B (cells p.core.cells) u3) (r5:Rd w B (layers p.layers) u5) (hB:B<=w.heap.size) (hl:p.layers.length<=1048576) (hcl:p.core.cells.length<=1048576) (hs:∀c∈p.core.cells,c.key.size<=1048576):
  Calls Tryz.prog 146 #[.agg #[.string p.core.kind,.bool p.core.on,.bool p.core.broken,u3,.int .i64 p.core.count,u5]] w (QgR (Yn p) w):=by
 obtain⟨A3,c3,rfl,_,_,_⟩:=QX r3
 obtain⟨A5,c5,rfl,h0,h1,_⟩:=Xb r5
 unfold maxLen at h1
 have CP:=Qb (fun W (hW:Qc [] w W)=>VP p _ _ B W hl hcl (r3.cz hW hB) (r5.cz hW hB) (by have:=hW.size;omega))
 have ip:=fun W (hW:Qc [] w W)=>Vf p _ _ B W (r3.cz hW hB) (r5.cz hW hB) (by have:=hW.size;omega) hl hcl hs
 by_cases n1p:Qn p
 ·have IP:=Qb (fun W (hW:Qc [] w W)=>(ip W hW).mono (O3 n1p))
  by_cases n2:p.layers.length=0
  ·have HB:Hid (¬Qn p∨p.layers.length=0):=Qb (.inr n2)
   have i0:((p.layers.length:Int)==0)=true:=by rw [beq_iff_eq];omega
   clear ip r3 r5 hs n2
   go_enter Tryz.func146,Tryz.ntmps146
   go_wp2_with fail
   refine(CP.out _ C6).mono ?_
   rintro e w1 ⟨A4,c4,A6,c6,rfl,n1⟩
   obtain⟨T3,T5,own1,lo30,lo50,c1⟩:=n1.own
   have s1:=c1.size
   have v1:w.heap.size+2<=w1.heap.size:=by(try simp at s1)<;>omega
   obtain⟨ya1,za1,xa1,yc1,zc1,xc1, -⟩:=c1.low 2 (w.heap.size) (fun x hx=>by simp at hx)
   clear s1
   have D1:Hid (Qc [] w w1):=Qb (H0 C6 c1)
   have lo3:Hid (∀x,x∈T3->w.heap.size+2<=x/\x<w1.heap.size):=Qb (fun x hx=>⟨by have:=lo30 x hx;(try simp at this)<;>omega,own1.h3.lt x hx⟩)
   have lo5:Hid (∀x,x∈T5->w.heap.size+2<=x/\x<w1.heap.size):=Qb (fun x hx=>⟨by have:=lo50 x hx;(try simp at this)<;>omega,own1.h5.lt x hx⟩)
   have OW1:=Qb own1
   clear own1 lo30 lo50 n1 c1
   go_wp2_with fail
   refine(IP.out _ (H9 D1.out)).mono ?_
   rintro e w2 ⟨rfl,c2⟩
   have s2:=c2.size
   have v2:w1.heap.size+1<=w2.heap.size:=by(try simp at s2)<;>omega
   obtain⟨ya2,za2,xa2,yc2,zc2,xc2, -⟩:=c2.low 2 (w.heap.size) (fun x hx=>by simp at hx)
   have yq2:=c2.ce w1.heap.size
   have zq2:=c2.fe w1.heap.size
   have xq2:w1.heap.size<w2.heap.size:=by omega
   clear s2
   have D2:Hid (Qc [] w w2):=Qb (H0 (H9 D1.out) c2)
   have OW2:=Qb ((OW1.out.kz C6).kz c2)
   clear c2 OW1
   go_wp2_with fail
   refine bodyPost_ret (v:=.tuple #[.agg #[.string p.core.kind,.bool p.core.on,.bool p.core.broken,.slice A4 p.core.cells.length c4,.int .i64 p.core.count,.slice A6 p.layers.length c6],.bool false]) (by simp only [results,Tryz.results146];go_simp) rfl ?_
   rw [yU HB.out]
   exact⟨A4,c4,A6,c6,rfl,Ue.newL ((OW2.out).keep (T:=[w.heap.size+1]) C6 (fun x hx=>by have:=lo3.out x hx;simp;omega) (fun x hx=>by have:=lo5.out x hx;simp;omega)) (fun x hx=>by have:=lo3.out x hx;omega) (fun x hx=>by have:=lo5.out x hx;omega) (H9 D2.out)⟩
  ·have HD:=Qb (kI n1p n2)
   have i0:((p.layers.length:Int)==0)=false:=by rw [beq_eq_false_iff_ne];omega
   have i1:(1:Int)<=(p.layers.length:Int):=by omega
   have i2:(p.layers.length:Int)<=1000:=by have:=n1p.2.1;omega
   have i3:0<p.layers.length:=by omega
   clear ip r3 r5 hs n2
   go_enter Tryz.func146,Tryz.ntmps146
   go_wp2_with fail
   refine(CP.out _ C6).mono ?_
   rintro e w1 ⟨A4,c4,A6,c6,rfl,n1⟩
   obtain⟨T3,T5,own1,lo30,lo50,c1⟩:=n1.own
   have s1:=c1.size
   have v1:w.heap.size+2<=w1.heap.size:=by(try simp at s1)<;>omega
   obtain⟨ya1,za1,xa1,yc1,zc1,xc1, -⟩:=c1.low 2 (w.heap.size) (fun x hx=>by simp at hx)
   clear s1
   have D1:Hid (Qc [] w w1):=Qb (H0 C6 c1)
   have lo3:Hid (∀x,x∈T3->w.heap.size+2<=x/\x<w1.heap.size):=Qb (fun x hx=>⟨by have:=lo30 x hx;(try simp at this)<;>omega,own1.h3.lt x hx⟩)
   have lo5:Hid (∀x,x∈T5->w.heap.size+2<=x/\x<w1.heap.size):=Qb (fun x hx=>⟨by have:=lo50 x hx;(try simp at this)<;>omega,own1.h5.lt x hx⟩)
   have OW1:=Qb own1
   clear own1 lo30 lo50 n1 c1
   go_wp2_with fail
   refine(IP.out _ (H9 D1.out)).mono ?_
   rintro e w2 ⟨rfl,c2⟩
   have s2:=c2.size
   have v2:w1.heap.size+1<=w2.heap.size:=by(try simp at s2)<;>omega
   obtain⟨ya2,za2,xa2,yc2,zc2,xc2, -⟩:=c2.low 2 (w.heap.size) (fun x hx=>by simp at hx)
   have yq2:=c2.ce w1.heap.size
   have zq2:=c2.fe w1.heap.size
   have xq2:w1.heap.size<w2.heap.size:=by omega
   clear s2
   have D2:Hid (Qc [] w w2):=Qb (H0 (H9 D1.out) c2)
   have OW2:=Qb ((OW1.out.kz C6).kz c2)
   clear c2 OW1
   obtain⟨g,hA6,hg5,hgl,hgc,hgm⟩:=OW2.out.block i3
   unfold maxLen at hgm
   subst hA6
   have j1:(p.layers.length:Int)<=(c6:Int):=by omega
   go_wp2_with fail
   skip
   refine bodyPost_ret (v:=.tuple #[.agg #[.string p.core.kind,.bool p.core.on,.bool p.core.broken,.slice A4 p.core.cells.length c4,.int .i64 p.core.count,.slice (some ⟨g,0,none⟩) (p.layers.length-1) c6],.bool true]) (by simp only [results,Tryz.results146];go_simp) rfl ?_
   rw [HD.out]
   have hlen:(p.layers.take (p.layers.length-1)).length=p.layers.length-1:=by simp
   exact⟨A4,c4,some ⟨g,0,none⟩,c6,by dsimp only;rw [hlen],Ue.newL ((OW2.out.less (k:=p.layers.length-1) (by omega)).keep (T:=[w.heap.size+1,w1.heap.size]) C6 (fun x hx=>by have:=lo3.out x hx;simp;omega) (fun x hx=>by have:=lo5.out x hx;simp;omega)) (fun x hx=>by have:=lo3.out x hx;omega) (fun x hx=>by have:=lo5.out x hx;omega) (H9 D2.out)⟩
 ·have IP:=Qb (fun W (hW:Qc [] w W)=>(ip W hW).mono (R4 n1p))
  have HB:Hid (¬Qn p∨p.layers.length=0):=Qb (.inl n1p)
  clear ip r3 r5 hs n1p
  go_enter Tryz.func146,Tryz.ntmps146
  go_wp2_with fail
  refine(CP.out _ C6).mono ?_
  rintro e w1 ⟨A4,c4,A6,c6,rfl,n1⟩
  obtain⟨T3,T5,own1,lo30,lo50,c1⟩:=n1.own
  have s1:=c1.size
  have v1:w.heap.size+2<=w1.heap.size:=by(try simp at s1)<;>omega
  obtain⟨ya1,za1,xa1,yc1,zc1,xc1, -⟩:=c1.low 2 (w.heap.size) (fun x hx=>by simp at hx)
  clear s1
  have D1:Hid (Qc [] w w1):=Qb (H0 C6 c1)
  have lo3:Hid (∀x,x∈T3->w.heap.size+2<=x/\x<w1.heap.size):=Qb (fun x hx=>⟨by have:=lo30 x hx;(try simp at this)<;>omega,own1.h3.lt x hx⟩)
  have lo5:Hid (∀x,x∈T5->w.heap.size+2<=x/\x<w1.heap.size):=Qb (fun x hx=>⟨by have:=lo50 x hx;(try simp at this)<;>omega,own1.h5.lt x hx⟩)
  have OW1:=Qb own1
  clear own1 lo30 lo50 n1 c1
  go_wp2_with fail
  refine(IP.out _ (H9 D1.out)).mono ?_
  rintro e w2 ⟨rfl,c2⟩
  have s2:=c2.size
  have v2:w1.heap.size+1<=w2.heap.size:=by(try simp at s2)<;>omega
  obtain⟨ya2,za2,xa2,yc2,zc2,xc2, -⟩:=c2.low 2 (w.heap.size) (fun x hx=>by simp at hx)
  have yq2:=c2.ce w1.heap.size
  have zq2:=c2.fe w1.heap.size
  have xq2:w1.heap.size<w2.heap.size:=by omega
  clear s2
  have D2:Hid (Qc [] w w2):=Qb (H0 (H9 D1.out) c2)
  have OW2:=Qb ((OW1.out.kz C6).kz c2)
  clear c2 OW1
  go_wp2_with fail
  refine bodyPost_ret (v:=.tuple #[.agg #[.string p.core.kind,.bool p.core.on,.bool p.core.broken,.slice A4 p.core.cells.length c4,.int .i64 p.core.count,.slice A6 p.layers.length c6],.bool false]) (by simp only [results,Tryz.results146];go_simp) rfl ?_
  rw [yU HB.out]
  exact⟨A4,c4,A6,c6,rfl,Ue.newL ((OW2.out).keep (T:=[w.heap.size+1]) C6 (fun x hx=>by have:=lo3.out x hx;simp;omega) (fun x hx=>by have:=lo5.out x hx;simp;omega)) (fun x hx=>by have:=lo3.out x hx;omega) (fun x hx=>by have:=lo5.out x hx;omega) (H9 D2.out)⟩
end Go.Proofs.YtjeadhmkghnkkaaGreatDoor
