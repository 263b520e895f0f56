/- CallPart of the program. Conditions: as stated. -/
import Derived.Test.YtlnkgcdeljhjcaaGreatDoorThrus
import Derived.Test.YtlnkgcdeljhjcaaGreatDoorIsActs
set_option maxRecDepth 100000
set_option maxHeartbeats 8000000
namespace Go.Proofs.YtlnkgcdeljhjcaaGreatDoor
open Go.RowKit
theorem UX (p:Qh) (x:QQ) (u3 u5:Value) (B:Nat) (w:World) (r3:Rd w B (cells p.core.cells) u3) (r5:Rd w B (layers p.layers) u5) (hB:B<=w.heap.size) (hl:p.layers.length<=1048576) (hcl:p.core.cells.length<=1048576) (hs:∀c∈p.core.cells,c.key.size<=1048576) (ht:x.text.size<=1048575) (hk:x.key.size<=1048576) (hE:Km w):
  Calls Tryz.prog 166 #[.agg #[.string p.core.kind,.bool p.core.on,.bool p.core.broken,u3,.int .i64 p.core.count,u5],.agg #[.string x.method,.string x.key,.int .i64 x.value,.string x.text]] w (jk (QC p x) w):=by
 obtain⟨A3,c3,rfl,_,_,_⟩:=Za r3
 obtain⟨A5,c5,rfl,h0,h1,_⟩:=Xa r5
 unfold maxLen at h1
 have CP:=Qd (fun W (hW:Qb [] w W)=>Va p _ _ B W hl hcl (r3.cz hW hB) (r5.cz hW hB) (by have:=hW.size;omega))
 have FO:=Qd (fun W (hW:Qb [] w W)=>Y5 p (.slice A3 p.core.cells.length c3) _ B W (r5.cz hW hB) (by have:=hW.size;omega))
 have ip:=fun W (hW:Qb [] w W)=>WK p _ _ B W (r3.cz hW hB) (r5.cz hW hB) (by have:=hW.size;omega) hl hcl hs
 by_cases n1p:Qp p
 ·have IP:=Qd (fun W (hW:Qb [] w W)=>(ip W hW).mono (Qg.pos n1p))
  by_cases n2:QZ x
  ·have IX:=Qd (fun W=>(Q2 x W hk).mono (Qg.pos n2))
   have WT:=Qd (fun W=>yE x.method W)
   by_cases n3:ZN (Qs p p.layers.length) (ZQ x.method)
   ·have OF:=Qd (fun W=>(Xq (Qs p p.layers.length) (ZQ x.method) W).mono (Zm.pos n3))
    have okx:Zu p.layers.length p x:=⟨n1p,Nat.le_refl _,n2,n3⟩
    have EB:=Qd (YE.of hE)
    have TH:=Qd (fun W g S3 S5 (hW:Zi W g p S3 S5) (hE:YE w.heap.size W) (hB:w.heap.size<=W.heap.size) (hS:∀y∈g::(S3++S5),w.heap.size<=y)=>zT p.layers.length p x g w.heap.size S3 S5 W hW okx ht hk hE hB hS)
    rw [vX n1p n2 n3]
    have hlen:(XC p.layers.length p x).1.layers.length=p.layers.length:=(XE _ _ _ okx).2.len
    obtain⟨r,hr⟩:∃r,r=XC p.layers.length p x:=⟨_,rfl⟩
    rw [<-hr] at TH hlen ⊢
    have HL:=Qd hlen
    have i1:(p.layers.length:Int)<=1000:=by have:=n1p.2.1;omega
    have R3:=Qd r3
    clear ip r3 r5 hs hr hlen okx n1p n2 n3 ht hk hl hcl hE
    go_enter Tryz.func166,Tryz.ntmps166
    go_wp2_with fail
    refine(CP.out _ Qb.now).mono ?_
    rintro e w1 ⟨A4,c4,A6,c6,rfl,n1⟩
    obtain⟨T3,T5,own1,lo30,lo50,c1⟩:=n1.own
    have s1:=c1.size
    have v1:w.heap.size+4<=w1.heap.size:=by(try simp at s1)<;>omega
    obtain⟨ya1,za1,xa1,yb1,zb1,xb1,yc1,zc1,xc1,yd1,zd1,xd1, -⟩:=c1.low 4 (w.heap.size) (fun x hx=>by simp at hx)
    clear s1
    have D1:Hid (Qb [] w w1):=Qd (Qb.tz Qb.now c1)
    have lo3:Hid (∀x,x∈T3->w.heap.size+4<=x/\x<w1.heap.size):=Qd (fun x hx=>⟨by have:=lo30 x hx;(try simp at this)<;>omega,own1.h3.lt x hx⟩)
    have lo5:Hid (∀x,x∈T5->w.heap.size+4<=x/\x<w1.heap.size):=Qd (fun x hx=>⟨by have:=lo50 x hx;(try simp at this)<;>omega,own1.h5.lt x hx⟩)
    have OW1:=Qd own1
    clear own1 lo30 lo50 n1 c1
    go_wp2_with fail
    refine(IP.out _ (Qb.to D1.out)).mono ?_
    rintro e w2 ⟨rfl,c2⟩
    have s2:=c2.size
    have v2:w1.heap.size+1<=w2.heap.size:=by(try simp at s2)<;>omega
    obtain⟨ya2,za2,xa2,yb2,zb2,xb2,yc2,zc2,xc2,yd2,zd2,xd2, -⟩:=c2.low 4 (w.heap.size) (fun x hx=>by simp at hx)
    have yq2:=c2.ce w1.heap.size
    have zq2:=c2.fe w1.heap.size
    have xq2:w1.heap.size<w2.heap.size:=by omega
    clear s2
    have D2:Hid (Qb [] w w2):=Qd (Qb.tz (Qb.to D1.out) c2)
    have OW2:=Qd ((OW1.out.kz Qb.now).kz c2)
    clear c2 OW1
    go_wp2_with fail
    refine(IX.out _).mono ?_
    rintro e w3 ⟨rfl,c3x⟩
    have c3:=c3x
    clear c3x
    have s3:=c3.size
    have v3:w2.heap.size<=w3.heap.size:=by(try simp at s3)<;>omega
    obtain⟨ya3,za3,xa3,yb3,zb3,xb3,yc3,zc3,xc3,yd3,zd3,xd3, -⟩:=c3.low 4 (w.heap.size) (fun x hx=>by simp at hx)
    have yq3:=c3.ce w1.heap.size
    have zq3:=c3.fe w1.heap.size
    have xq3:w1.heap.size<w3.heap.size:=by omega
    clear s3
    have D3:Hid (Qb [] w w3):=Qd (Qb.tz (Qb.to D2.out) c3)
    have OW3:=Qd ((OW2.out.kz Qb.now).kz c3)
    clear c3 OW2
    go_wp2_with fail
    refine(FO.out _ (Qb.to D3.out)).mono ?_
    rintro e w4 ⟨rfl,c4⟩
    have s4:=c4.size
    have v4:w3.heap.size<=w4.heap.size:=by(try simp at s4)<;>omega
    obtain⟨ya4,za4,xa4,yb4,zb4,xb4,yc4,zc4,xc4,yd4,zd4,xd4, -⟩:=c4.low 4 (w.heap.size) (fun x hx=>by simp at hx)
    have yq4:=c4.ce w1.heap.size
    have zq4:=c4.fe w1.heap.size
    have xq4:w1.heap.size<w4.heap.size:=by omega
    clear s4
    have D4:Hid (Qb [] w w4):=Qd (Qb.tz (Qb.to D3.out) c4)
    have OW4:=Qd ((OW3.out.kz Qb.now).kz c4)
    clear c4 OW3
    go_wp2_with fail
    refine(WT.out _).mono ?_
    rintro e w5 ⟨rfl,c5y⟩
    have c5:=c5y
    clear c5y
    have s5:=c5.size
    have v5:w4.heap.size<=w5.heap.size:=by(try simp at s5)<;>omega
    obtain⟨ya5,za5,xa5,yb5,zb5,xb5,yc5,zc5,xc5,yd5,zd5,xd5, -⟩:=c5.low 4 (w.heap.size) (fun x hx=>by simp at hx)
    have yq5:=c5.ce w1.heap.size
    have zq5:=c5.fe w1.heap.size
    have xq5:w1.heap.size<w5.heap.size:=by omega
    clear s5
    have D5:Hid (Qb [] w w5):=Qd (Qb.tz (Qb.to D4.out) c5)
    have OW5:=Qd ((OW4.out.kz Qb.now).kz c5)
    clear c5 OW4
    go_wp2_with fail
    refine(OF.out _).mono ?_
    rintro e w5b ⟨rfl,hw5b⟩
    obtain rfl:=hw5b.symm
    go_wp2_with fail
    refine(TH.out _ w1.heap.size T3 T5 ?_ (EB.out.keep (S:=[]) (Qb.to D5.out) (by simp) (Nat.le_refl _)) (by(try simp)<;>omega) (fun y hy=>by
     rcases List.mem_cons.1 hy with rfl|hy2
     ·omega
     ·rcases List.mem_append.1 hy2 with h|h
      ·have:=lo3.out y h;omega
      ·have:=lo5.out y h;omega)).mono ?_
    ·exact(OW5.out.kz Qb.now).pbox (by go_simp) (by go_simp) (by go_simp) (by go_simp) (by go_simp) (by go_simp) (fun o ho=>by go_simp) (fun h=>by have:=lo3.out _ h;omega) (fun h=>by have:=lo5.out _ h;omega)
    rintro e w6 ⟨U3,rfl,pb6,hU,c6x⟩
    have hne:∀y,y∈w1.heap.size::(T3++T5)->w.heap.size+4<=y:=fun y hy=>by
     rcases List.mem_cons.1 hy with rfl|hy2
     ·omega
     ·rcases List.mem_append.1 hy2 with h|h
      ·have:=lo3.out y h;omega
      ·have:=lo5.out y h;omega
    have s6:=c6x.size
    have v6:w5.heap.size<=w6.heap.size:=by(try simp at s6)<;>omega
    obtain⟨-, -,xa6, -, -,xb6,yc6,zc6,xc6,yd6,zd6,xd6, -⟩:=c6x.low 4 (w.heap.size) (fun x hx=>by have:=hne _ hx;(try simp at this)<;>omega)
    have xq6:w1.heap.size<w6.heap.size:=by omega
    clear s6
    have D6:Hid (Qb [] w w6):=Qd (((Qb.trans (S:=w1.heap.size::(T3++T5)) (Qb.to (D5.out.mono (by simp))) c6x (fun x hx=>.inl hx))).mono (fun x hx=>.inr (by have:=hne x hx;omega)))
    have hU3:Hid (∀x,x∈U3->w.heap.size+4<=x/\x<w6.heap.size):=Qd (fun x hx=>⟨by rcases hU x hx with h|h;(have:=lo3.out x h;omega);((try simp at h)<;>omega),pb6.lt3 x hx⟩)
    have hU5:Hid (∀x,x∈T5->w.heap.size+4<=x/\x<w6.heap.size):=Qd (fun x hx=>⟨(lo5.out x hx).1,pb6.lt5 x hx⟩)
    obtain⟨B3,b3,B5,b5,own6,p0,p1,p2,p3,p4,p5⟩:=pb6.own
    have OW6:=Qd own6
    rw [HL.out] at p5
    clear own6 pb6 hU c6x hne
    go_wp2_with fail
    go_region
    all_goals
     go_wp2_with fail
     refine bodyPost_ret (v:=.tuple #[.agg #[.string r.1.core.kind,.bool r.1.core.on,.bool r.1.core.broken,.slice B3 r.1.core.cells.length b3,.int .i64 r.1.core.count,.slice B5 p.layers.length b5],.agg #[.int .i64 r.2.code,.int .i64 r.2.value,.string r.2.text,.int .i64 r.2.want,.int .i64 r.2.had]]) (by simp only [results,Tryz.results166];go_simp) rfl ?_
     exact⟨B3,b3,B5,b5,by rw [HL.out],VC.newL ((OW6.out).keep (T:=[w.heap.size+1+1,w.heap.size+1+1+1]) Qb.now (fun x hx=>by have:=hU3.out x hx;simp;omega) (fun x hx=>by have:=hU5.out x hx;simp;omega)) (fun x hx=>by have:=hU3.out x hx;omega) (fun x hx=>by have:=hU5.out x hx;omega) (Qb.to D6.out)⟩
   ·have OF:=Qd (fun W=>(Xq (Qs p p.layers.length) (ZQ x.method) W).mono (Zm.neg n3))
    clear ip r3 r5 hs
    go_enter Tryz.func166,Tryz.ntmps166
    go_wp2_with fail
    refine(CP.out _ Qb.now).mono ?_
    rintro e w1 ⟨A4,c4,A6,c6,rfl,n1⟩
    obtain⟨T3,T5,own1,lo30,lo50,c1⟩:=n1.own
    have s1:=c1.size
    have v1:w.heap.size+4<=w1.heap.size:=by(try simp at s1)<;>omega
    obtain⟨ya1,za1,xa1,yb1,zb1,xb1,yc1,zc1,xc1,yd1,zd1,xd1, -⟩:=c1.low 4 (w.heap.size) (fun x hx=>by simp at hx)
    clear s1
    have D1:Hid (Qb [] w w1):=Qd (Qb.tz Qb.now c1)
    have lo3:Hid (∀x,x∈T3->w.heap.size+4<=x/\x<w1.heap.size):=Qd (fun x hx=>⟨by have:=lo30 x hx;(try simp at this)<;>omega,own1.h3.lt x hx⟩)
    have lo5:Hid (∀x,x∈T5->w.heap.size+4<=x/\x<w1.heap.size):=Qd (fun x hx=>⟨by have:=lo50 x hx;(try simp at this)<;>omega,own1.h5.lt x hx⟩)
    have OW1:=Qd own1
    clear own1 lo30 lo50 n1 c1
    go_wp2_with fail
    refine(IP.out _ (Qb.to D1.out)).mono ?_
    rintro e w2 ⟨rfl,c2⟩
    have s2:=c2.size
    have v2:w1.heap.size+1<=w2.heap.size:=by(try simp at s2)<;>omega
    obtain⟨ya2,za2,xa2,yb2,zb2,xb2,yc2,zc2,xc2,yd2,zd2,xd2, -⟩:=c2.low 4 (w.heap.size) (fun x hx=>by simp at hx)
    have yq2:=c2.ce w1.heap.size
    have zq2:=c2.fe w1.heap.size
    have xq2:w1.heap.size<w2.heap.size:=by omega
    clear s2
    have D2:Hid (Qb [] w w2):=Qd (Qb.tz (Qb.to D1.out) c2)
    have OW2:=Qd ((OW1.out.kz Qb.now).kz c2)
    clear c2 OW1
    go_wp2_with fail
    refine(IX.out _).mono ?_
    rintro e w3 ⟨rfl,c3x⟩
    have c3:=c3x
    clear c3x
    have s3:=c3.size
    have v3:w2.heap.size<=w3.heap.size:=by(try simp at s3)<;>omega
    obtain⟨ya3,za3,xa3,yb3,zb3,xb3,yc3,zc3,xc3,yd3,zd3,xd3, -⟩:=c3.low 4 (w.heap.size) (fun x hx=>by simp at hx)
    have yq3:=c3.ce w1.heap.size
    have zq3:=c3.fe w1.heap.size
    have xq3:w1.heap.size<w3.heap.size:=by omega
    clear s3
    have D3:Hid (Qb [] w w3):=Qd (Qb.tz (Qb.to D2.out) c3)
    have OW3:=Qd ((OW2.out.kz Qb.now).kz c3)
    clear c3 OW2
    go_wp2_with fail
    refine(FO.out _ (Qb.to D3.out)).mono ?_
    rintro e w4 ⟨rfl,c4⟩
    have s4:=c4.size
    have v4:w3.heap.size<=w4.heap.size:=by(try simp at s4)<;>omega
    obtain⟨ya4,za4,xa4,yb4,zb4,xb4,yc4,zc4,xc4,yd4,zd4,xd4, -⟩:=c4.low 4 (w.heap.size) (fun x hx=>by simp at hx)
    have yq4:=c4.ce w1.heap.size
    have zq4:=c4.fe w1.heap.size
    have xq4:w1.heap.size<w4.heap.size:=by omega
    clear s4
    have D4:Hid (Qb [] w w4):=Qd (Qb.tz (Qb.to D3.out) c4)
    have OW4:=Qd ((OW3.out.kz Qb.now).kz c4)
    clear c4 OW3
    go_wp2_with fail
    refine(WT.out _).mono ?_
    rintro e w5 ⟨rfl,c5y⟩
    have c5:=c5y
    clear c5y
    have s5:=c5.size
    have v5:w4.heap.size<=w5.heap.size:=by(try simp at s5)<;>omega
    obtain⟨ya5,za5,xa5,yb5,zb5,xb5,yc5,zc5,xc5,yd5,zd5,xd5, -⟩:=c5.low 4 (w.heap.size) (fun x hx=>by simp at hx)
    have yq5:=c5.ce w1.heap.size
    have zq5:=c5.fe w1.heap.size
    have xq5:w1.heap.size<w5.heap.size:=by omega
    clear s5
    have D5:Hid (Qb [] w w5):=Qd (Qb.tz (Qb.to D4.out) c5)
    have OW5:=Qd ((OW4.out.kz Qb.now).kz c5)
    clear c5 OW4
    go_wp2_with fail
    refine(OF.out _).mono ?_
    rintro e w5b ⟨rfl,hw5b⟩
    obtain rfl:=hw5b.symm
    go_wp2_with fail
    refine bodyPost_ret (v:=.tuple #[.agg #[.string p.core.kind,.bool p.core.on,.bool p.core.broken,.slice A4 p.core.cells.length c4,.int .i64 p.core.count,.slice A6 p.layers.length c6],.agg #[.int .i64 1,.int .i64 0,.string ⟨#[]⟩,.int .i64 (ZQ x.method),.int .i64 (Qs p p.layers.length)]]) (by simp only [results,Tryz.results166];go_simp) rfl ?_
    rw [yA n1p n2 n3]
    exact⟨A4,c4,A6,c6,rfl,VC.newL ((OW5.out).keep (T:=[w.heap.size+1+1,w.heap.size+1+1+1]) Qb.now (fun x hx=>by have:=lo3.out x hx;simp;omega) (fun x hx=>by have:=lo5.out x hx;simp;omega)) (fun x hx=>by have:=lo3.out x hx;omega) (fun x hx=>by have:=lo5.out x hx;omega) (Qb.to D5.out)⟩
  ·have IX:=Qd (fun W=>(Q2 x W hk).mono (Qg.neg n2))
   clear ip r3 r5 hs
   go_enter Tryz.func166,Tryz.ntmps166
   go_wp2_with fail
   refine(CP.out _ Qb.now).mono ?_
   rintro e w1 ⟨A4,c4,A6,c6,rfl,n1⟩
   obtain⟨T3,T5,own1,lo30,lo50,c1⟩:=n1.own
   have s1:=c1.size
   have v1:w.heap.size+4<=w1.heap.size:=by(try simp at s1)<;>omega
   obtain⟨ya1,za1,xa1,yb1,zb1,xb1,yc1,zc1,xc1,yd1,zd1,xd1, -⟩:=c1.low 4 (w.heap.size) (fun x hx=>by simp at hx)
   clear s1
   have D1:Hid (Qb [] w w1):=Qd (Qb.tz Qb.now c1)
   have lo3:Hid (∀x,x∈T3->w.heap.size+4<=x/\x<w1.heap.size):=Qd (fun x hx=>⟨by have:=lo30 x hx;(try simp at this)<;>omega,own1.h3.lt x hx⟩)
   have lo5:Hid (∀x,x∈T5->w.heap.size+4<=x/\x<w1.heap.size):=Qd (fun x hx=>⟨by have:=lo50 x hx;(try simp at this)<;>omega,own1.h5.lt x hx⟩)
   have OW1:=Qd own1
   clear own1 lo30 lo50 n1 c1
   go_wp2_with fail
   refine(IP.out _ (Qb.to D1.out)).mono ?_
   rintro e w2 ⟨rfl,c2⟩
   have s2:=c2.size
   have v2:w1.heap.size+1<=w2.heap.size:=by(try simp at s2)<;>omega
   obtain⟨ya2,za2,xa2,yb2,zb2,xb2,yc2,zc2,xc2,yd2,zd2,xd2, -⟩:=c2.low 4 (w.heap.size) (fun x hx=>by simp at hx)
   have yq2:=c2.ce w1.heap.size
   have zq2:=c2.fe w1.heap.size
   have xq2:w1.heap.size<w2.heap.size:=by omega
   clear s2
   have D2:Hid (Qb [] w w2):=Qd (Qb.tz (Qb.to D1.out) c2)
   have OW2:=Qd ((OW1.out.kz Qb.now).kz c2)
   clear c2 OW1
   go_wp2_with fail
   refine(IX.out _).mono ?_
   rintro e w3 ⟨rfl,c3x⟩
   have c3:=c3x
   clear c3x
   have s3:=c3.size
   have v3:w2.heap.size<=w3.heap.size:=by(try simp at s3)<;>omega
   obtain⟨ya3,za3,xa3,yb3,zb3,xb3,yc3,zc3,xc3,yd3,zd3,xd3, -⟩:=c3.low 4 (w.heap.size) (fun x hx=>by simp at hx)
   have yq3:=c3.ce w1.heap.size
   have zq3:=c3.fe w1.heap.size
   have xq3:w1.heap.size<w3.heap.size:=by omega
   clear s3
   have D3:Hid (Qb [] w w3):=Qd (Qb.tz (Qb.to D2.out) c3)
   have OW3:=Qd ((OW2.out.kz Qb.now).kz c3)
   clear c3 OW2
   go_wp2_with fail
   refine bodyPost_ret (v:=.tuple #[.agg #[.string p.core.kind,.bool p.core.on,.bool p.core.broken,.slice A4 p.core.cells.length c4,.int .i64 p.core.count,.slice A6 p.layers.length c6],.agg #[.int .i64 7,.int .i64 0,.string ⟨#[]⟩,.int .i64 0,.int .i64 0]]) (by simp only [results,Tryz.results166];go_simp) rfl ?_
   rw [Gj (.inr n2)]
   exact⟨A4,c4,A6,c6,rfl,VC.newL ((OW3.out).keep (T:=[w.heap.size+1+1,w.heap.size+1+1+1]) Qb.now (fun x hx=>by have:=lo3.out x hx;simp;omega) (fun x hx=>by have:=lo5.out x hx;simp;omega)) (fun x hx=>by have:=lo3.out x hx;omega) (fun x hx=>by have:=lo5.out x hx;omega) (Qb.to D3.out)⟩
 ·have IP:=Qd (fun W (hW:Qb [] w W)=>(ip W hW).mono (Qg.neg n1p))
  clear ip r3 r5 hs
  go_enter Tryz.func166,Tryz.ntmps166
  go_wp2_with fail
  refine(CP.out _ Qb.now).mono ?_
  rintro e w1 ⟨A4,c4,A6,c6,rfl,n1⟩
  obtain⟨T3,T5,own1,lo30,lo50,c1⟩:=n1.own
  have s1:=c1.size
  have v1:w.heap.size+4<=w1.heap.size:=by(try simp at s1)<;>omega
  obtain⟨ya1,za1,xa1,yb1,zb1,xb1,yc1,zc1,xc1,yd1,zd1,xd1, -⟩:=c1.low 4 (w.heap.size) (fun x hx=>by simp at hx)
  clear s1
  have D1:Hid (Qb [] w w1):=Qd (Qb.tz Qb.now c1)
  have lo3:Hid (∀x,x∈T3->w.heap.size+4<=x/\x<w1.heap.size):=Qd (fun x hx=>⟨by have:=lo30 x hx;(try simp at this)<;>omega,own1.h3.lt x hx⟩)
  have lo5:Hid (∀x,x∈T5->w.heap.size+4<=x/\x<w1.heap.size):=Qd (fun x hx=>⟨by have:=lo50 x hx;(try simp at this)<;>omega,own1.h5.lt x hx⟩)
  have OW1:=Qd own1
  clear own1 lo30 lo50 n1 c1
  go_wp2_with fail
  refine(IP.out _ (Qb.to D1.out)).mono ?_
  rintro e w2 ⟨rfl,c2⟩
  have s2:=c2.size
  have v2:w1.heap.size+1<=w2.heap.size:=by(try simp at s2)<;>omega
  obtain⟨ya2,za2,xa2,yb2,zb2,xb2,yc2,zc2,xc2,yd2,zd2,xd2, -⟩:=c2.low 4 (w.heap.size) (fun x hx=>by simp at hx)
  have yq2:=c2.ce w1.heap.size
  have zq2:=c2.fe w1.heap.size
  have xq2:w1.heap.size<w2.heap.size:=by omega
  clear s2
  have D2:Hid (Qb [] w w2):=Qd (Qb.tz (Qb.to D1.out) c2)
  have OW2:=Qd ((OW1.out.kz Qb.now).kz c2)
  clear c2 OW1
  go_wp2_with fail
  refine bodyPost_ret (v:=.tuple #[.agg #[.string p.core.kind,.bool p.core.on,.bool p.core.broken,.slice A4 p.core.cells.length c4,.int .i64 p.core.count,.slice A6 p.layers.length c6],.agg #[.int .i64 7,.int .i64 0,.string ⟨#[]⟩,.int .i64 0,.int .i64 0]]) (by simp only [results,Tryz.results166];go_simp) rfl ?_
  rw [Gj (.inl n1p)]
  exact⟨A4,c4,A6,c6,rfl,VC.newL ((OW2.out).keep (T:=[w.heap.size+1+1,w.heap.size+1+1+1]) Qb.now (fun x hx=>by have:=lo3.out x hx;simp;omega) (fun x hx=>by have:=lo5.out x hx;simp;omega)) (fun x hx=>by have:=lo3.out x hx;omega) (fun x hx=>by have:=lo5.out x hx;omega) (Qb.to D2.out)⟩
theorem yr (p:Qh) (u3 u5:Value) (B:Nat) (w:World) (r3:Rd w B (cells p.core.cells) u3) (r5:Rd w B (layers p.layers) u5) (hB:B<=w.heap.size) (hl:p.layers.length<=1048576) (hcl:p.core.cells.length<=1048576) (hs:∀c∈p.core.cells,c.key.size<=1048576):
  Calls Tryz.prog 165 #[.agg #[.string p.core.kind,.bool p.core.on,.bool p.core.broken,u3,.int .i64 p.core.count,u5]] w (QhJ (Yi p) w):=by
 obtain⟨A3,c3,rfl,_,_,_⟩:=Za r3
 obtain⟨A5,c5,rfl,h0,h1,_⟩:=Xa r5
 unfold maxLen at h1
 have CP:=Qd (fun W (hW:Qb [] w W)=>Va p _ _ B W hl hcl (r3.cz hW hB) (r5.cz hW hB) (by have:=hW.size;omega))
 have ip:=fun W (hW:Qb [] w W)=>WK p _ _ B W (r3.cz hW hB) (r5.cz hW hB) (by have:=hW.size;omega) hl hcl hs
 by_cases n1p:Qp p
 ·have IP:=Qd (fun W (hW:Qb [] w W)=>(ip W hW).mono (Qg.pos n1p))
  by_cases n2:p.layers.length=0
  ·have HB:Hid (¬Qp p∨p.layers.length=0):=Qd (.inr n2)
   have i0:((p.layers.length:Int)==0)=true:=by rw [beq_iff_eq];omega
   clear ip r3 r5 hs n2
   go_enter Tryz.func165,Tryz.ntmps165
   go_wp2_with fail
   refine(CP.out _ Qb.now).mono ?_
   rintro e w1 ⟨A4,c4,A6,c6,rfl,n1⟩
   obtain⟨T3,T5,own1,lo30,lo50,c1⟩:=n1.own
   have s1:=c1.size
   have v1:w.heap.size+2<=w1.heap.size:=by(try simp at s1)<;>omega
   obtain⟨ya1,za1,xa1,yc1,zc1,xc1, -⟩:=c1.low 2 (w.heap.size) (fun x hx=>by simp at hx)
   clear s1
   have D1:Hid (Qb [] w w1):=Qd (Qb.tz Qb.now c1)
   have lo3:Hid (∀x,x∈T3->w.heap.size+2<=x/\x<w1.heap.size):=Qd (fun x hx=>⟨by have:=lo30 x hx;(try simp at this)<;>omega,own1.h3.lt x hx⟩)
   have lo5:Hid (∀x,x∈T5->w.heap.size+2<=x/\x<w1.heap.size):=Qd (fun x hx=>⟨by have:=lo50 x hx;(try simp at this)<;>omega,own1.h5.lt x hx⟩)
   have OW1:=Qd own1
   clear own1 lo30 lo50 n1 c1
   go_wp2_with fail
   refine(IP.out _ (Qb.to D1.out)).mono ?_
   rintro e w2 ⟨rfl,c2⟩
   have s2:=c2.size
   have v2:w1.heap.size+1<=w2.heap.size:=by(try simp at s2)<;>omega
   obtain⟨ya2,za2,xa2,yc2,zc2,xc2, -⟩:=c2.low 2 (w.heap.size) (fun x hx=>by simp at hx)
   have yq2:=c2.ce w1.heap.size
   have zq2:=c2.fe w1.heap.size
   have xq2:w1.heap.size<w2.heap.size:=by omega
   clear s2
   have D2:Hid (Qb [] w w2):=Qd (Qb.tz (Qb.to D1.out) c2)
   have OW2:=Qd ((OW1.out.kz Qb.now).kz c2)
   clear c2 OW1
   go_wp2_with fail
   refine bodyPost_ret (v:=.tuple #[.agg #[.string p.core.kind,.bool p.core.on,.bool p.core.broken,.slice A4 p.core.cells.length c4,.int .i64 p.core.count,.slice A6 p.layers.length c6],.bool false]) (by simp only [results,Tryz.results165];go_simp) rfl ?_
   rw [yj HB.out]
   exact⟨A4,c4,A6,c6,rfl,VC.newL ((OW2.out).keep (T:=[w.heap.size+1]) Qb.now (fun x hx=>by have:=lo3.out x hx;simp;omega) (fun x hx=>by have:=lo5.out x hx;simp;omega)) (fun x hx=>by have:=lo3.out x hx;omega) (fun x hx=>by have:=lo5.out x hx;omega) (Qb.to D2.out)⟩
  ·have HD:=Qd (jl n1p n2)
   have i0:((p.layers.length:Int)==0)=false:=by rw [beq_eq_false_iff_ne];omega
   have i1:(1:Int)<=(p.layers.length:Int):=by omega
   have i2:(p.layers.length:Int)<=1000:=by have:=n1p.2.1;omega
   have i3:0<p.layers.length:=by omega
   clear ip r3 r5 hs n2
   go_enter Tryz.func165,Tryz.ntmps165
   go_wp2_with fail
   refine(CP.out _ Qb.now).mono ?_
   rintro e w1 ⟨A4,c4,A6,c6,rfl,n1⟩
   obtain⟨T3,T5,own1,lo30,lo50,c1⟩:=n1.own
   have s1:=c1.size
   have v1:w.heap.size+2<=w1.heap.size:=by(try simp at s1)<;>omega
   obtain⟨ya1,za1,xa1,yc1,zc1,xc1, -⟩:=c1.low 2 (w.heap.size) (fun x hx=>by simp at hx)
   clear s1
   have D1:Hid (Qb [] w w1):=Qd (Qb.tz Qb.now c1)
   have lo3:Hid (∀x,x∈T3->w.heap.size+2<=x/\x<w1.heap.size):=Qd (fun x hx=>⟨by have:=lo30 x hx;(try simp at this)<;>omega,own1.h3.lt x hx⟩)
   have lo5:Hid (∀x,x∈T5->w.heap.size+2<=x/\x<w1.heap.size):=Qd (fun x hx=>⟨by have:=lo50 x hx;(try simp at this)<;>omega,own1.h5.lt x hx⟩)
   have OW1:=Qd own1
   clear own1 lo30 lo50 n1 c1
   go_wp2_with fail
   refine(IP.out _ (Qb.to D1.out)).mono ?_
   rintro e w2 ⟨rfl,c2⟩
   have s2:=c2.size
   have v2:w1.heap.size+1<=w2.heap.size:=by(try simp at s2)<;>omega
   obtain⟨ya2,za2,xa2,yc2,zc2,xc2, -⟩:=c2.low 2 (w.heap.size) (fun x hx=>by simp at hx)
   have yq2:=c2.ce w1.heap.size
   have zq2:=c2.fe w1.heap.size
   have xq2:w1.heap.size<w2.heap.size:=by omega
   clear s2
   have D2:Hid (Qb [] w w2):=Qd (Qb.tz (Qb.to D1.out) c2)
   have OW2:=Qd ((OW1.out.kz Qb.now).kz c2)
   clear c2 OW1
   obtain⟨g,hA6,hg5,hgl,hgc,hgm⟩:=OW2.out.block i3
   unfold maxLen at hgm
   subst hA6
   have j1:(p.layers.length:Int)<=(c6:Int):=by omega
   go_wp2_with fail
   skip
   refine bodyPost_ret (v:=.tuple #[.agg #[.string p.core.kind,.bool p.core.on,.bool p.core.broken,.slice A4 p.core.cells.length c4,.int .i64 p.core.count,.slice (some ⟨g,0,none⟩) (p.layers.length-1) c6],.bool true]) (by simp only [results,Tryz.results165];go_simp) rfl ?_
   rw [HD.out]
   have hlen:(p.layers.take (p.layers.length-1)).length=p.layers.length-1:=by simp
   exact⟨A4,c4,some ⟨g,0,none⟩,c6,by dsimp only;rw [hlen],VC.newL ((OW2.out.less (k:=p.layers.length-1) (by omega)).keep (T:=[w.heap.size+1,w1.heap.size]) Qb.now (fun x hx=>by have:=lo3.out x hx;simp;omega) (fun x hx=>by have:=lo5.out x hx;simp;omega)) (fun x hx=>by have:=lo3.out x hx;omega) (fun x hx=>by have:=lo5.out x hx;omega) (Qb.to D2.out)⟩
 ·have IP:=Qd (fun W (hW:Qb [] w W)=>(ip W hW).mono (Qg.neg n1p))
  have HB:Hid (¬Qp p∨p.layers.length=0):=Qd (.inl n1p)
  clear ip r3 r5 hs n1p
  go_enter Tryz.func165,Tryz.ntmps165
  go_wp2_with fail
  refine(CP.out _ Qb.now).mono ?_
  rintro e w1 ⟨A4,c4,A6,c6,rfl,n1⟩
  obtain⟨T3,T5,own1,lo30,lo50,c1⟩:=n1.own
  have s1:=c1.size
  have v1:w.heap.size+2<=w1.heap.size:=by(try simp at s1)<;>omega
  obtain⟨ya1,za1,xa1,yc1,zc1,xc1, -⟩:=c1.low 2 (w.heap.size) (fun x hx=>by simp at hx)
  clear s1
  have D1:Hid (Qb [] w w1):=Qd (Qb.tz Qb.now c1)
  have lo3:Hid (∀x,x∈T3->w.heap.size+2<=x/\x<w1.heap.size):=Qd (fun x hx=>⟨by have:=lo30 x hx;(try simp at this)<;>omega,own1.h3.lt x hx⟩)
  have lo5:Hid (∀x,x∈T5->w.heap.size+2<=x/\x<w1.heap.size):=Qd (fun x hx=>⟨by have:=lo50 x hx;(try simp at this)<;>omega,own1.h5.lt x hx⟩)
  have OW1:=Qd own1
  clear own1 lo30 lo50 n1 c1
  go_wp2_with fail
  refine(IP.out _ (Qb.to D1.out)).mono ?_
  rintro e w2 ⟨rfl,c2⟩
  have s2:=c2.size
  have v2:w1.heap.size+1<=w2.heap.size:=by(try simp at s2)<;>omega
  obtain⟨ya2,za2,xa2,yc2,zc2,xc2, -⟩:=c2.low 2 (w.heap.size) (fun x hx=>by simp at hx)
  have yq2:=c2.ce w1.heap.size
  have zq2:=c2.fe w1.heap.size
  have xq2:w1.heap.size<w2.heap.size:=by omega
  clear s2
  have D2:Hid (Qb [] w w2):=Qd (Qb.tz (Qb.to D1.out) c2)
  have OW2:=Qd ((OW1.out.kz Qb.now).kz c2)
  clear c2 OW1
  go_wp2_with fail
  refine bodyPost_ret (v:=.tuple #[.agg #[.string p.core.kind,.bool p.core.on,.bool p.core.broken,.slice A4 p.core.cells.length c4,.int .i64 p.core.count,.slice A6 p.layers.length c6],.bool false]) (by simp only [results,Tryz.results165];go_simp) rfl ?_
  rw [yj HB.out]
  exact⟨A4,c4,A6,c6,rfl,VC.newL ((OW2.out).keep (T:=[w.heap.size+1]) Qb.now (fun x hx=>by have:=lo3.out x hx;simp;omega) (fun x hx=>by have:=lo5.out x hx;simp;omega)) (fun x hx=>by have:=lo3.out x hx;omega) (fun x hx=>by have:=lo5.out x hx;omega) (Qb.to D2.out)⟩
end Go.Proofs.YtlnkgcdeljhjcaaGreatDoor
