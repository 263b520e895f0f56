/- CallPart of the reference. Conditions: the call has bounds. Written by a program. -/
import Derived.Test.YtjigcplpkhpgnaaGreatDoorBoxes
import Derived.Test.YtjigcplpkhpgnaaGreatDoorL4Dos
import Derived.Test.YtjigcplpkhpgnaaGreatDoorCallR
import Derived.Deep.RegionHeld3
set_option maxRecDepth 100000
set_option maxHeartbeats 8000000
namespace Go.Proofs.YtjigcplpkhpgnaaGreatDoor
open Go.RowKit
theorem Chg.any {S:List Nat} {w W:World} (h:Chg S w W:=by(repeat(first|(refine Hid.out ?_;with_reducible assumption)|with_reducible exact Chg.refl _ _|with_reducible refine Chg.drew ?_|with_reducible refine Chg.drewN ?_ _|with_reducible refine Chg.alloc ?_ _|with_reducible refine Chg.setCell ?_ (by first|(refine .inl ?_;simp;done)|(refine .inl ?_;assumption)|(refine .inl (List.mem_cons_of_mem _ ?_);assumption)|(refine .inl (List.mem_cons_of_mem _ (Hid.out ?_));assumption)|(refine .inr ?_;simp<;>omega)) _));done):Chg S w W:=h
theorem callPart_spec_any (p:PartT) (x:CallT) (u3 u5:Value) (B:Nat) (w:World) (r3:Rd w B (cells p.core.cells) u3) (r5:Rd w B (layers p.layers) u5) (hB:B<=w.heap.size) (hl:p.layers.length<=1048576) (hcl:p.core.cells.length<=1048576) (hs:∀c∈p.core.cells,c.key.size<=1048576) (ht:x.text.size<=1048575) (hk:x.key.size<=1048576):
  Calls Tryz.prog 75 #[.agg #[.string p.core.kind,.bool p.core.on,.bool p.core.broken,u3,.int .i64 p.core.count,u5],.agg #[.string x.method,.string x.key,.int .i64 x.value,.string x.text]] w (PartRep (callPartT p x) w):=by
 obtain⟨A3,c3,rfl,_,_,_⟩:=cells_row r3
 obtain⟨A5,c5,rfl,h0,h1,_⟩:=layers_row r5
 unfold maxLen at h1
 have CP:=hid (fun W (hW:Chg [] w W)=>l4Copy_any p _ _ B W hl hcl (r3.chg0 hW hB) (r5.chg0 hW hB) (by have:=hW.size;omega))
 have FO:=hid (fun W (hW:Chg [] w W)=>faceOf_spec_any p (.slice A3 p.core.cells.length c3) _ B W (r5.chg0 hW hB) (by have:=hW.size;omega))
 have ip:=fun W (hW:Chg [] w W)=>isPart_spec_any p _ _ B W (r3.chg0 hW hB) (r5.chg0 hW hB) (by have:=hW.size;omega) hl hcl hs
 by_cases n1p:PartOk p
 ·have IP:=hid (fun W (hW:Chg [] w W)=>(ip W hW).mono (BoolPost.pos n1p))
  by_cases n2:CallOk x
  ·have IX:=hid (fun W=>(isCall_spec_any x W hk).mono (BoolPost.pos n2))
   have WT:=hid (fun W=>wantOf_spec_is x.method W)
   by_cases n3:Offer (faceAt p p.layers.length) (wantT x.method)
   ·have OF:=hid (fun W=>(offers_spec_any (faceAt p p.layers.length) (wantT x.method) W).mono (BoolIs.pos n3))
    have okx:ThrOk p.layers.length p x:=⟨n1p,Nat.le_refl _,n2,n3⟩
    have hlen:(thr p.layers.length p x).1.layers.length=p.layers.length:=(thr_ok _ _ _ okx).2.len
    have DO:=hid (fun W A3 c3 A5 c5 S3 S5 (hW:POwn W p p.layers.length A3 c3 A5 c5 S3 S5)=>l4Do_any p.layers.length p x p.layers.length A3 c3 A5 c5 S3 S5 W hW okx ht hk)
    rw [callPartT_thr n1p n2 n3]
    obtain⟨r,hr⟩:∃r,r=thr p.layers.length p x:=⟨_,rfl⟩
    rw [<-hr] at DO hlen ⊢
    have HL:=hid hlen
    have i1:(p.layers.length:Int)<=1000:=by have:=n1p.2.1;omega
    clear ip r3 r5 hs hr hlen okx n1p n2 n3 ht hk hl hcl
    go_enter Tryz.func75,Tryz.ntmps75
    go_wp2_with fail
    refine(CP.out _ Chg.now).mono ?_
    rintro e w1 ⟨A4,c4,A6,c6,rfl,n1⟩
    obtain⟨T3,T5,own1,lo30,lo50,c1⟩:=n1.own
    have s1:=c1.size
    have v1:w.heap.size+4<=w1.heap.size:=by(try simp at s1)<;>omega
    obtain⟨ya1,za1,xa1,yb1,zb1,xb1,yc1,zc1,xc1,yd1,zd1,xd1, -⟩:=c1.low 4 (w.heap.size) (fun x hx=>by simp at hx)
    clear s1
    have D1:Hid (Chg [] w w1):=hid (Chg.trans0 Chg.now c1)
    have lo3:Hid (∀x,x∈T3->w.heap.size+4<=x/\x<w1.heap.size):=hid (fun x hx=>⟨by have:=lo30 x hx;(try simp at this)<;>omega,own1.h3.lt x hx⟩)
    have lo5:Hid (∀x,x∈T5->w.heap.size+4<=x/\x<w1.heap.size):=hid (fun x hx=>⟨by have:=lo50 x hx;(try simp at this)<;>omega,own1.h5.lt x hx⟩)
    have OW1:=hid own1
    clear own1 lo30 lo50 n1 c1
    go_wp2_with fail
    refine(IP.out _ (Chg.to D1.out)).mono ?_
    rintro e w2 ⟨rfl,c2⟩
    have s2:=c2.size
    have v2:w1.heap.size+1<=w2.heap.size:=by(try simp at s2)<;>omega
    obtain⟨ya2,za2,xa2,yb2,zb2,xb2,yc2,zc2,xc2,yd2,zd2,xd2, -⟩:=c2.low 4 (w.heap.size) (fun x hx=>by simp at hx)
    have yq2:=c2.ce w1.heap.size
    have zq2:=c2.fe w1.heap.size
    have xq2:w1.heap.size<w2.heap.size:=by omega
    clear s2
    have D2:Hid (Chg [] w w2):=hid (Chg.trans0 (Chg.to D1.out) c2)
    have OW2:=hid ((OW1.out.keep0 Chg.now).keep0 c2)
    clear c2 OW1
    go_wp2_with fail
    refine(IX.out _).mono ?_
    rintro e w3 ⟨rfl,c3x⟩
    have c3:=c3x
    clear c3x
    have s3:=c3.size
    have v3:w2.heap.size<=w3.heap.size:=by(try simp at s3)<;>omega
    obtain⟨ya3,za3,xa3,yb3,zb3,xb3,yc3,zc3,xc3,yd3,zd3,xd3, -⟩:=c3.low 4 (w.heap.size) (fun x hx=>by simp at hx)
    have yq3:=c3.ce w1.heap.size
    have zq3:=c3.fe w1.heap.size
    have xq3:w1.heap.size<w3.heap.size:=by omega
    clear s3
    have D3:Hid (Chg [] w w3):=hid (Chg.trans0 (Chg.to D2.out) c3)
    have OW3:=hid ((OW2.out.keep0 Chg.now).keep0 c3)
    clear c3 OW2
    go_wp2_with fail
    go_region_held3 (fun w'=>w'.cell? ⟨w.heap.size,0,none⟩=some (.string p.core.kind)/\w'.cell? ⟨w.heap.size,1,none⟩=some (.bool p.core.on)/\w'.cell? ⟨w.heap.size,2,none⟩=some (.bool p.core.broken)/\w'.cell? ⟨w.heap.size,3,none⟩=some (.slice A3 p.core.cells.length c3)/\w'.cell? ⟨w.heap.size,4,none⟩=some (.int .i64 p.core.count)/\w'.cell? ⟨w.heap.size,5,none⟩=some (.slice A5 p.layers.length c5)/\w'.cell? ⟨w.heap.size+1,0,none⟩=some (.string x.method)) (((refine⟨?_,?_,?_,?_,?_,?_,?_⟩)<;>(first|(go_keep;done)|(go_simp;done)|(simp [*];done)))) (first|(go_simp;go_at_call 76;(with_reducible refine(FO.out _ Chg.any).mono ?_);rintro e wf ⟨rfl,cf⟩;(have sf:=cf.size);(have vf:w1.heap.size+1<=wf.heap.size:=by(try simp at sf)<;>omega);(have yaf:=cf.ce w.heap.size);(have zaf:=cf.fe w.heap.size);(have xaf:w.heap.size<wf.heap.size:=by omega);(have ybf:=cf.ce (w.heap.size+1));(have zbf:=cf.fe (w.heap.size+1));(have xbf:w.heap.size+1<wf.heap.size:=by omega);(have ycf:=cf.ce (w.heap.size+1+1));(have zcf:=cf.fe (w.heap.size+1+1));(have xcf:w.heap.size+1+1<wf.heap.size:=by omega);(have ydf:=cf.ce (w.heap.size+1+1+1));(have zdf:=cf.fe (w.heap.size+1+1+1));(have xdf:w.heap.size+1+1+1<wf.heap.size:=by omega);(have yqf:=cf.ce w1.heap.size);(have zqf:=cf.fe w1.heap.size);(have xqf:w1.heap.size<wf.heap.size:=by omega);(have Df:Hid (Chg [] w wf):=hid (Chg.trans0 Chg.any cf));(have OWf:Hid (POwn wf p p.layers.length A4 c4 A6 c6 T3 T5):=hid (POwn.keep0 (by first|exact OWj.out.keep0 Chg.now|exact OWi.out.keep0 Chg.now|exact OWh.out.keep0 Chg.now|exact OWg.out.keep0 Chg.now|exact OWf.out.keep0 Chg.now|exact OW3.out.keep0 Chg.now) cf));clear sf cf;simp only [])|(go_simp;go_at_call 103;(with_reducible refine(WT.out _).mono ?_);rintro e wg ⟨rfl,cg⟩;(have sg:=cg.size);(have vg:w1.heap.size+1<=wg.heap.size:=by(try simp at sg)<;>omega);(have yag:=cg.ce w.heap.size);(have zag:=cg.fe w.heap.size);(have xag:w.heap.size<wg.heap.size:=by omega);(have ybg:=cg.ce (w.heap.size+1));(have zbg:=cg.fe (w.heap.size+1));(have xbg:w.heap.size+1<wg.heap.size:=by omega);(have ycg:=cg.ce (w.heap.size+1+1));(have zcg:=cg.fe (w.heap.size+1+1));(have xcg:w.heap.size+1+1<wg.heap.size:=by omega);(have ydg:=cg.ce (w.heap.size+1+1+1));(have zdg:=cg.fe (w.heap.size+1+1+1));(have xdg:w.heap.size+1+1+1<wg.heap.size:=by omega);(have yqg:=cg.ce w1.heap.size);(have zqg:=cg.fe w1.heap.size);(have xqg:w1.heap.size<wg.heap.size:=by omega);(have Dg:Hid (Chg [] w wg):=hid (Chg.trans0 Chg.any cg));(have OWg:Hid (POwn wg p p.layers.length A4 c4 A6 c6 T3 T5):=hid (POwn.keep0 (by first|exact OWj.out.keep0 Chg.now|exact OWi.out.keep0 Chg.now|exact OWh.out.keep0 Chg.now|exact OWg.out.keep0 Chg.now|exact OWf.out.keep0 Chg.now|exact OW3.out.keep0 Chg.now) cg));clear sg cg;simp only [])|(go_simp;go_at_call 65;(with_reducible refine(OF.out _).mono ?_);rintro e wo ⟨rfl,hwo⟩;obtain rfl:=hwo.symm;simp only [])|fail)
    all_goals
     go_wp2_with fail
     refine(DO.out _ _ _ _ _ _ _ (by first|exact OWg.out.keep0 Chg.now|exact OWf.out.keep0 Chg.now)).mono ?_
     rintro e w6 ⟨B3,b3,U3,rfl,own6,hU,c6⟩
     have s6:=c6.size
     have v6:w1.heap.size+1<=w6.heap.size:=by(try simp at s6)<;>omega
     obtain⟨-, -,xa6, -, -,xb6,yc6,zc6,xc6,yd6,zd6,xd6, -⟩:=c6.low 4 (w.heap.size) (fun x hx=>by have:=lo5.out _ hx;(try simp at this)<;>omega)
     have xq6:w1.heap.size<w6.heap.size:=by omega
     clear s6
     have D6:Hid (Chg [] w w6):=hid ((Chg.trans (S:=T5) (by first|exact Chg.mono (S:=[]) Chg.any (by simp)) c6 (fun x hx=>.inl hx)).mono (fun x hx=>.inr (by have:=lo5.out x hx;omega)))
     have hU3:Hid (∀x,x∈U3->w.heap.size+4<=x/\x<w6.heap.size):=hid (fun x hx=>⟨by rcases hU x hx with h|h;(have:=lo3.out x h;omega);((try simp at h)<;>omega),own6.h3.lt x hx⟩)
     have hU5:Hid (∀x,x∈T5->w.heap.size+4<=x/\x<w6.heap.size):=hid (fun x hx=>⟨(lo5.out x hx).1,own6.h5.lt x hx⟩)
     have OW6:=hid own6
     clear own6 hU c6
     go_wp2_with fail
     refine bodyPost_ret (v:=.tuple #[.agg #[.string r.1.core.kind,.bool r.1.core.on,.bool r.1.core.broken,.slice B3 r.1.core.cells.length b3,.int .i64 r.1.core.count,.slice A6 p.layers.length c6],.agg #[.int .i64 r.2.code,.int .i64 r.2.value,.string r.2.text,.int .i64 r.2.want,.int .i64 r.2.had]]) (by simp only [results,Tryz.results75];go_simp) rfl ?_
     exact⟨B3,b3,A6,c6,by rw [HL.out],POwn.newL ((OW6.out).keep (T:=[w.heap.size+1+1,w.heap.size+1+1+1]) Chg.now (fun x hx=>by have:=hU3.out x hx;simp;omega) (fun x hx=>by have:=hU5.out x hx;simp;omega)) (fun x hx=>by have:=hU3.out x hx;omega) (fun x hx=>by have:=hU5.out x hx;omega) (Chg.to D6.out)⟩
   ·have OF:=hid (fun W=>(offers_spec_any (faceAt p p.layers.length) (wantT x.method) W).mono (BoolIs.neg n3))
    clear ip r3 r5 hs
    go_enter Tryz.func75,Tryz.ntmps75
    go_wp2_with fail
    refine(CP.out _ Chg.now).mono ?_
    rintro e w1 ⟨A4,c4,A6,c6,rfl,n1⟩
    obtain⟨T3,T5,own1,lo30,lo50,c1⟩:=n1.own
    have s1:=c1.size
    have v1:w.heap.size+4<=w1.heap.size:=by(try simp at s1)<;>omega
    obtain⟨ya1,za1,xa1,yb1,zb1,xb1,yc1,zc1,xc1,yd1,zd1,xd1, -⟩:=c1.low 4 (w.heap.size) (fun x hx=>by simp at hx)
    clear s1
    have D1:Hid (Chg [] w w1):=hid (Chg.trans0 Chg.now c1)
    have lo3:Hid (∀x,x∈T3->w.heap.size+4<=x/\x<w1.heap.size):=hid (fun x hx=>⟨by have:=lo30 x hx;(try simp at this)<;>omega,own1.h3.lt x hx⟩)
    have lo5:Hid (∀x,x∈T5->w.heap.size+4<=x/\x<w1.heap.size):=hid (fun x hx=>⟨by have:=lo50 x hx;(try simp at this)<;>omega,own1.h5.lt x hx⟩)
    have OW1:=hid own1
    clear own1 lo30 lo50 n1 c1
    go_wp2_with fail
    refine(IP.out _ (Chg.to D1.out)).mono ?_
    rintro e w2 ⟨rfl,c2⟩
    have s2:=c2.size
    have v2:w1.heap.size+1<=w2.heap.size:=by(try simp at s2)<;>omega
    obtain⟨ya2,za2,xa2,yb2,zb2,xb2,yc2,zc2,xc2,yd2,zd2,xd2, -⟩:=c2.low 4 (w.heap.size) (fun x hx=>by simp at hx)
    have yq2:=c2.ce w1.heap.size
    have zq2:=c2.fe w1.heap.size
    have xq2:w1.heap.size<w2.heap.size:=by omega
    clear s2
    have D2:Hid (Chg [] w w2):=hid (Chg.trans0 (Chg.to D1.out) c2)
    have OW2:=hid ((OW1.out.keep0 Chg.now).keep0 c2)
    clear c2 OW1
    go_wp2_with fail
    refine(IX.out _).mono ?_
    rintro e w3 ⟨rfl,c3x⟩
    have c3:=c3x
    clear c3x
    have s3:=c3.size
    have v3:w2.heap.size<=w3.heap.size:=by(try simp at s3)<;>omega
    obtain⟨ya3,za3,xa3,yb3,zb3,xb3,yc3,zc3,xc3,yd3,zd3,xd3, -⟩:=c3.low 4 (w.heap.size) (fun x hx=>by simp at hx)
    have yq3:=c3.ce w1.heap.size
    have zq3:=c3.fe w1.heap.size
    have xq3:w1.heap.size<w3.heap.size:=by omega
    clear s3
    have D3:Hid (Chg [] w w3):=hid (Chg.trans0 (Chg.to D2.out) c3)
    have OW3:=hid ((OW2.out.keep0 Chg.now).keep0 c3)
    clear c3 OW2
    go_wp2_with fail
    go_region_held3 (fun w'=>w'.cell? ⟨w.heap.size,0,none⟩=some (.string p.core.kind)/\w'.cell? ⟨w.heap.size,1,none⟩=some (.bool p.core.on)/\w'.cell? ⟨w.heap.size,2,none⟩=some (.bool p.core.broken)/\w'.cell? ⟨w.heap.size,3,none⟩=some (.slice A3 p.core.cells.length c3)/\w'.cell? ⟨w.heap.size,4,none⟩=some (.int .i64 p.core.count)/\w'.cell? ⟨w.heap.size,5,none⟩=some (.slice A5 p.layers.length c5)/\w'.cell? ⟨w.heap.size+1,0,none⟩=some (.string x.method)) (((refine⟨?_,?_,?_,?_,?_,?_,?_⟩)<;>(first|(go_keep;done)|(go_simp;done)|(simp [*];done)))) (first|(go_simp;go_at_call 76;(with_reducible refine(FO.out _ Chg.any).mono ?_);rintro e wf ⟨rfl,cf⟩;(have sf:=cf.size);(have vf:w1.heap.size+1<=wf.heap.size:=by(try simp at sf)<;>omega);(have yaf:=cf.ce w.heap.size);(have zaf:=cf.fe w.heap.size);(have xaf:w.heap.size<wf.heap.size:=by omega);(have ybf:=cf.ce (w.heap.size+1));(have zbf:=cf.fe (w.heap.size+1));(have xbf:w.heap.size+1<wf.heap.size:=by omega);(have ycf:=cf.ce (w.heap.size+1+1));(have zcf:=cf.fe (w.heap.size+1+1));(have xcf:w.heap.size+1+1<wf.heap.size:=by omega);(have ydf:=cf.ce (w.heap.size+1+1+1));(have zdf:=cf.fe (w.heap.size+1+1+1));(have xdf:w.heap.size+1+1+1<wf.heap.size:=by omega);(have yqf:=cf.ce w1.heap.size);(have zqf:=cf.fe w1.heap.size);(have xqf:w1.heap.size<wf.heap.size:=by omega);(have Df:Hid (Chg [] w wf):=hid (Chg.trans0 Chg.any cf));(have OWf:Hid (POwn wf p p.layers.length A4 c4 A6 c6 T3 T5):=hid (POwn.keep0 (by first|exact OWj.out.keep0 Chg.now|exact OWi.out.keep0 Chg.now|exact OWh.out.keep0 Chg.now|exact OWg.out.keep0 Chg.now|exact OWf.out.keep0 Chg.now|exact OW3.out.keep0 Chg.now) cf));clear sf cf;simp only [])|(go_simp;go_at_call 103;(with_reducible refine(WT.out _).mono ?_);rintro e wg ⟨rfl,cg⟩;(have sg:=cg.size);(have vg:w1.heap.size+1<=wg.heap.size:=by(try simp at sg)<;>omega);(have yag:=cg.ce w.heap.size);(have zag:=cg.fe w.heap.size);(have xag:w.heap.size<wg.heap.size:=by omega);(have ybg:=cg.ce (w.heap.size+1));(have zbg:=cg.fe (w.heap.size+1));(have xbg:w.heap.size+1<wg.heap.size:=by omega);(have ycg:=cg.ce (w.heap.size+1+1));(have zcg:=cg.fe (w.heap.size+1+1));(have xcg:w.heap.size+1+1<wg.heap.size:=by omega);(have ydg:=cg.ce (w.heap.size+1+1+1));(have zdg:=cg.fe (w.heap.size+1+1+1));(have xdg:w.heap.size+1+1+1<wg.heap.size:=by omega);(have yqg:=cg.ce w1.heap.size);(have zqg:=cg.fe w1.heap.size);(have xqg:w1.heap.size<wg.heap.size:=by omega);(have Dg:Hid (Chg [] w wg):=hid (Chg.trans0 Chg.any cg));(have OWg:Hid (POwn wg p p.layers.length A4 c4 A6 c6 T3 T5):=hid (POwn.keep0 (by first|exact OWj.out.keep0 Chg.now|exact OWi.out.keep0 Chg.now|exact OWh.out.keep0 Chg.now|exact OWg.out.keep0 Chg.now|exact OWf.out.keep0 Chg.now|exact OW3.out.keep0 Chg.now) cg));clear sg cg;simp only [])|(go_simp;go_at_call 65;(with_reducible refine(OF.out _).mono ?_);rintro e wo ⟨rfl,hwo⟩;obtain rfl:=hwo.symm;simp only [])|fail)
    all_goals
     go_wp2_with fail
     go_region_held3 (fun w'=>w'.cell? ⟨w.heap.size,0,none⟩=some (.string p.core.kind)/\w'.cell? ⟨w.heap.size,1,none⟩=some (.bool p.core.on)/\w'.cell? ⟨w.heap.size,2,none⟩=some (.bool p.core.broken)/\w'.cell? ⟨w.heap.size,3,none⟩=some (.slice A3 p.core.cells.length c3)/\w'.cell? ⟨w.heap.size,4,none⟩=some (.int .i64 p.core.count)/\w'.cell? ⟨w.heap.size,5,none⟩=some (.slice A5 p.layers.length c5)/\w'.cell? ⟨w.heap.size+1,0,none⟩=some (.string x.method)/\w'.cell? ⟨w1.heap.size,0,none⟩=some (.string p.core.kind)/\w'.cell? ⟨w1.heap.size,1,none⟩=some (.bool p.core.on)/\w'.cell? ⟨w1.heap.size,2,none⟩=some (.bool p.core.broken)/\w'.cell? ⟨w1.heap.size,3,none⟩=some (.slice A4 p.core.cells.length c4)/\w'.cell? ⟨w1.heap.size,4,none⟩=some (.int .i64 p.core.count)/\w'.cell? ⟨w1.heap.size,5,none⟩=some (.slice A6 p.layers.length c6)) (((refine⟨?_,?_,?_,?_,?_,?_,?_,?_,?_,?_,?_,?_,?_⟩)<;>(first|(go_keep;done)|(go_simp;done)|(simp [*];done)))) (first|(go_simp;go_at_call 76;(with_reducible refine(FO.out _ Chg.any).mono ?_);rintro e wh ⟨rfl,ch⟩;(have sh:=ch.size);(have vh:w1.heap.size+1<=wh.heap.size:=by(try simp at sh)<;>omega);(have yah:=ch.ce w.heap.size);(have zah:=ch.fe w.heap.size);(have xah:w.heap.size<wh.heap.size:=by omega);(have ybh:=ch.ce (w.heap.size+1));(have zbh:=ch.fe (w.heap.size+1));(have xbh:w.heap.size+1<wh.heap.size:=by omega);(have ych:=ch.ce (w.heap.size+1+1));(have zch:=ch.fe (w.heap.size+1+1));(have xch:w.heap.size+1+1<wh.heap.size:=by omega);(have ydh:=ch.ce (w.heap.size+1+1+1));(have zdh:=ch.fe (w.heap.size+1+1+1));(have xdh:w.heap.size+1+1+1<wh.heap.size:=by omega);(have yqh:=ch.ce w1.heap.size);(have zqh:=ch.fe w1.heap.size);(have xqh:w1.heap.size<wh.heap.size:=by omega);(have Dh:Hid (Chg [] w wh):=hid (Chg.trans0 Chg.any ch));(have OWh:Hid (POwn wh p p.layers.length A4 c4 A6 c6 T3 T5):=hid (POwn.keep0 (by first|exact OWj.out.keep0 Chg.now|exact OWi.out.keep0 Chg.now|exact OWh.out.keep0 Chg.now|exact OWg.out.keep0 Chg.now|exact OWf.out.keep0 Chg.now|exact OW3.out.keep0 Chg.now) ch));clear sh ch;simp only [])|(go_simp;go_at_call 103;(with_reducible refine(WT.out _).mono ?_);rintro e wi ⟨rfl,ci⟩;(have si:=ci.size);(have vi:w1.heap.size+1<=wi.heap.size:=by(try simp at si)<;>omega);(have yai:=ci.ce w.heap.size);(have zai:=ci.fe w.heap.size);(have xai:w.heap.size<wi.heap.size:=by omega);(have ybi:=ci.ce (w.heap.size+1));(have zbi:=ci.fe (w.heap.size+1));(have xbi:w.heap.size+1<wi.heap.size:=by omega);(have yci:=ci.ce (w.heap.size+1+1));(have zci:=ci.fe (w.heap.size+1+1));(have xci:w.heap.size+1+1<wi.heap.size:=by omega);(have ydi:=ci.ce (w.heap.size+1+1+1));(have zdi:=ci.fe (w.heap.size+1+1+1));(have xdi:w.heap.size+1+1+1<wi.heap.size:=by omega);(have yqi:=ci.ce w1.heap.size);(have zqi:=ci.fe w1.heap.size);(have xqi:w1.heap.size<wi.heap.size:=by omega);(have Di:Hid (Chg [] w wi):=hid (Chg.trans0 Chg.any ci));(have OWi:Hid (POwn wi p p.layers.length A4 c4 A6 c6 T3 T5):=hid (POwn.keep0 (by first|exact OWj.out.keep0 Chg.now|exact OWi.out.keep0 Chg.now|exact OWh.out.keep0 Chg.now|exact OWg.out.keep0 Chg.now|exact OWf.out.keep0 Chg.now|exact OW3.out.keep0 Chg.now) ci));clear si ci;simp only [])|fail)
     all_goals
      go_wp2_with fail
      refine bodyPost_ret (v:=.tuple #[.agg #[.string p.core.kind,.bool p.core.on,.bool p.core.broken,.slice A4 p.core.cells.length c4,.int .i64 p.core.count,.slice A6 p.layers.length c6],.agg #[.int .i64 1,.int .i64 0,.string ⟨#[]⟩,.int .i64 (wantT x.method),.int .i64 (faceAt p p.layers.length)]]) (by simp only [results,Tryz.results75];go_simp) rfl ?_
      rw [callPartT_lacks n1p n2 n3]
      refine⟨A4,c4,A6,c6,rfl,POwn.newL (L:=p.layers.length) (S3:=T3) (S5:=T5) ?_ (fun x hx=>by have:=lo3.out x hx;omega) (fun x hx=>by have:=lo5.out x hx;omega) Chg.any⟩
      first|(refine POwn.keep (T:=[w.heap.size+1+1,w.heap.size+1+1+1]) OWi.out ?_ (fun x hx=>by have:=lo3.out x hx;simp;omega) (fun x hx=>by have:=lo5.out x hx;simp;omega);focus ((repeat(first|with_reducible exact Chg.refl _ _|with_reducible refine Chg.drew ?_|with_reducible refine Chg.drewN ?_ _|with_reducible refine Chg.alloc ?_ _|with_reducible refine Chg.setCell ?_ (by first|(refine .inl ?_;simp;done)|(refine .inr ?_;simp<;>omega)) _));done))|(refine POwn.keep (T:=[w.heap.size+1+1,w.heap.size+1+1+1]) OWh.out ?_ (fun x hx=>by have:=lo3.out x hx;simp;omega) (fun x hx=>by have:=lo5.out x hx;simp;omega);focus ((repeat(first|with_reducible exact Chg.refl _ _|with_reducible refine Chg.drew ?_|with_reducible refine Chg.drewN ?_ _|with_reducible refine Chg.alloc ?_ _|with_reducible refine Chg.setCell ?_ (by first|(refine .inl ?_;simp;done)|(refine .inr ?_;simp<;>omega)) _));done))
  ·have IX:=hid (fun W=>(isCall_spec_any x W hk).mono (BoolPost.neg n2))
   clear ip r3 r5 hs
   go_enter Tryz.func75,Tryz.ntmps75
   go_wp2_with fail
   refine(CP.out _ Chg.now).mono ?_
   rintro e w1 ⟨A4,c4,A6,c6,rfl,n1⟩
   obtain⟨T3,T5,own1,lo30,lo50,c1⟩:=n1.own
   have s1:=c1.size
   have v1:w.heap.size+4<=w1.heap.size:=by(try simp at s1)<;>omega
   obtain⟨ya1,za1,xa1,yb1,zb1,xb1,yc1,zc1,xc1,yd1,zd1,xd1, -⟩:=c1.low 4 (w.heap.size) (fun x hx=>by simp at hx)
   clear s1
   have D1:Hid (Chg [] w w1):=hid (Chg.trans0 Chg.now c1)
   have lo3:Hid (∀x,x∈T3->w.heap.size+4<=x/\x<w1.heap.size):=hid (fun x hx=>⟨by have:=lo30 x hx;(try simp at this)<;>omega,own1.h3.lt x hx⟩)
   have lo5:Hid (∀x,x∈T5->w.heap.size+4<=x/\x<w1.heap.size):=hid (fun x hx=>⟨by have:=lo50 x hx;(try simp at this)<;>omega,own1.h5.lt x hx⟩)
   have OW1:=hid own1
   clear own1 lo30 lo50 n1 c1
   go_wp2_with fail
   refine(IP.out _ (Chg.to D1.out)).mono ?_
   rintro e w2 ⟨rfl,c2⟩
   have s2:=c2.size
   have v2:w1.heap.size+1<=w2.heap.size:=by(try simp at s2)<;>omega
   obtain⟨ya2,za2,xa2,yb2,zb2,xb2,yc2,zc2,xc2,yd2,zd2,xd2, -⟩:=c2.low 4 (w.heap.size) (fun x hx=>by simp at hx)
   have yq2:=c2.ce w1.heap.size
   have zq2:=c2.fe w1.heap.size
   have xq2:w1.heap.size<w2.heap.size:=by omega
   clear s2
   have D2:Hid (Chg [] w w2):=hid (Chg.trans0 (Chg.to D1.out) c2)
   have OW2:=hid ((OW1.out.keep0 Chg.now).keep0 c2)
   clear c2 OW1
   go_wp2_with fail
   refine(IX.out _).mono ?_
   rintro e w3 ⟨rfl,c3x⟩
   have c3:=c3x
   clear c3x
   have s3:=c3.size
   have v3:w2.heap.size<=w3.heap.size:=by(try simp at s3)<;>omega
   obtain⟨ya3,za3,xa3,yb3,zb3,xb3,yc3,zc3,xc3,yd3,zd3,xd3, -⟩:=c3.low 4 (w.heap.size) (fun x hx=>by simp at hx)
   have yq3:=c3.ce w1.heap.size
   have zq3:=c3.fe w1.heap.size
   have xq3:w1.heap.size<w3.heap.size:=by omega
   clear s3
   have D3:Hid (Chg [] w w3):=hid (Chg.trans0 (Chg.to D2.out) c3)
   have OW3:=hid ((OW2.out.keep0 Chg.now).keep0 c3)
   clear c3 OW2
   go_wp2_with fail
   refine bodyPost_ret (v:=.tuple #[.agg #[.string p.core.kind,.bool p.core.on,.bool p.core.broken,.slice A4 p.core.cells.length c4,.int .i64 p.core.count,.slice A6 p.layers.length c6],.agg #[.int .i64 7,.int .i64 0,.string ⟨#[]⟩,.int .i64 0,.int .i64 0]]) (by simp only [results,Tryz.results75];go_simp) rfl ?_
   rw [callPartT_bad (.inr n2)]
   refine⟨A4,c4,A6,c6,rfl,POwn.newL (L:=p.layers.length) (S3:=T3) (S5:=T5) ?_ (fun x hx=>by have:=lo3.out x hx;omega) (fun x hx=>by have:=lo5.out x hx;omega) (Chg.to D3.out)⟩
   first|(refine POwn.keep (T:=[w.heap.size+1+1,w.heap.size+1+1+1]) OW3.out ?_ (fun x hx=>by have:=lo3.out x hx;simp;omega) (fun x hx=>by have:=lo5.out x hx;simp;omega);focus ((repeat(first|with_reducible exact Chg.refl _ _|with_reducible refine Chg.drew ?_|with_reducible refine Chg.drewN ?_ _|with_reducible refine Chg.alloc ?_ _|with_reducible refine Chg.setCell ?_ (by first|(refine .inl ?_;simp;done)|(refine .inr ?_;simp<;>omega)) _));done))
 ·have IP:=hid (fun W (hW:Chg [] w W)=>(ip W hW).mono (BoolPost.neg n1p))
  clear ip r3 r5 hs
  go_enter Tryz.func75,Tryz.ntmps75
  go_wp2_with fail
  refine(CP.out _ Chg.now).mono ?_
  rintro e w1 ⟨A4,c4,A6,c6,rfl,n1⟩
  obtain⟨T3,T5,own1,lo30,lo50,c1⟩:=n1.own
  have s1:=c1.size
  have v1:w.heap.size+4<=w1.heap.size:=by(try simp at s1)<;>omega
  obtain⟨ya1,za1,xa1,yb1,zb1,xb1,yc1,zc1,xc1,yd1,zd1,xd1, -⟩:=c1.low 4 (w.heap.size) (fun x hx=>by simp at hx)
  clear s1
  have D1:Hid (Chg [] w w1):=hid (Chg.trans0 Chg.now c1)
  have lo3:Hid (∀x,x∈T3->w.heap.size+4<=x/\x<w1.heap.size):=hid (fun x hx=>⟨by have:=lo30 x hx;(try simp at this)<;>omega,own1.h3.lt x hx⟩)
  have lo5:Hid (∀x,x∈T5->w.heap.size+4<=x/\x<w1.heap.size):=hid (fun x hx=>⟨by have:=lo50 x hx;(try simp at this)<;>omega,own1.h5.lt x hx⟩)
  have OW1:=hid own1
  clear own1 lo30 lo50 n1 c1
  go_wp2_with fail
  refine(IP.out _ (Chg.to D1.out)).mono ?_
  rintro e w2 ⟨rfl,c2⟩
  have s2:=c2.size
  have v2:w1.heap.size+1<=w2.heap.size:=by(try simp at s2)<;>omega
  obtain⟨ya2,za2,xa2,yb2,zb2,xb2,yc2,zc2,xc2,yd2,zd2,xd2, -⟩:=c2.low 4 (w.heap.size) (fun x hx=>by simp at hx)
  have yq2:=c2.ce w1.heap.size
  have zq2:=c2.fe w1.heap.size
  have xq2:w1.heap.size<w2.heap.size:=by omega
  clear s2
  have D2:Hid (Chg [] w w2):=hid (Chg.trans0 (Chg.to D1.out) c2)
  have OW2:=hid ((OW1.out.keep0 Chg.now).keep0 c2)
  clear c2 OW1
  go_wp2_with fail
  refine bodyPost_ret (v:=.tuple #[.agg #[.string p.core.kind,.bool p.core.on,.bool p.core.broken,.slice A4 p.core.cells.length c4,.int .i64 p.core.count,.slice A6 p.layers.length c6],.agg #[.int .i64 7,.int .i64 0,.string ⟨#[]⟩,.int .i64 0,.int .i64 0]]) (by simp only [results,Tryz.results75];go_simp) rfl ?_
  rw [callPartT_bad (.inl n1p)]
  refine⟨A4,c4,A6,c6,rfl,POwn.newL (L:=p.layers.length) (S3:=T3) (S5:=T5) ?_ (fun x hx=>by have:=lo3.out x hx;omega) (fun x hx=>by have:=lo5.out x hx;omega) (Chg.to D2.out)⟩
  first|(refine POwn.keep (T:=[w.heap.size+1+1,w.heap.size+1+1+1]) OW2.out ?_ (fun x hx=>by have:=lo3.out x hx;simp;omega) (fun x hx=>by have:=lo5.out x hx;simp;omega);focus ((repeat(first|with_reducible exact Chg.refl _ _|with_reducible refine Chg.drew ?_|with_reducible refine Chg.drewN ?_ _|with_reducible refine Chg.alloc ?_ _|with_reducible refine Chg.setCell ?_ (by first|(refine .inl ?_;simp;done)|(refine .inr ?_;simp<;>omega)) _));done))
end Go.Proofs.YtjigcplpkhpgnaaGreatDoor
