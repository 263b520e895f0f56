/- through of the program. Conditions: as stated. -/
import Derived.Test.YtfjhdnjlhjimeaaGreatDoorLnP
set_option maxRecDepth 100000
set_option maxHeartbeats 8000000
namespace Go.Proofs.YtfjhdnjlhjimeaaGreatDoor
open Go.RowKit
def YO (B:Nat) (w:World):Prop:=∀W,Below B w W->KP W
theorem YO.env {B:Nat} {w:World} (h:YO B w):KP w:=h w (Below.refl _ _)
theorem YO.of {w:World} (h:KP w):YO w.heap.size w:=fun _ hb=>h.keep (Qc.of_below hb [])
theorem YO.keep {B:Nat} {w W:World} {S:List Nat} (h:YO B w) (hc:Qc S w W) (hS:∀x,x∈S->B<=x) (hB:B<=w.heap.size):YO B W:=fun V hb=>h V ((hc.below hS hB).trans hb)
def Kp (g:Nat) (r:Qe×Uw) (S3 S5:List Nat) (w:World) (e:Ending) (w':World):Prop:=
 ∃S3',e= .returned (.agg #[.int .i64 r.2.code,.int .i64 r.2.value,.string r.2.text,.int .i64 r.2.want,.int .i64 r.2.had])/\Zf w' g r.1 S3' S5/\(∀x,x∈S3'->x∈S3∨w.heap.size<=x)/\Qc (g::(S3++S5)) w w'
def Gq (n:Nat):Prop:=∀(p:Qe) (x:QL) (g B:Nat) (S3 S5:List Nat) (w:World),Zf w g p S3 S5->Zr n p x->x.text.size<=1048575->x.key.size<=1048576->YO B w->B<=w.heap.size->(∀y∈g::(S3++S5),B<=y)->
  Calls Tryz.prog 180 #[.pointer (some ⟨g,0,none⟩),.int .i64 (n:Int),.agg #[.string x.method,.string x.key,.int .i64 x.value,.string x.text]] w (Kp g (XG n p x) S3 S5 w)
theorem Zf.head {w:World} {g:Nat} {p:Qe} {S3 S5:List Nat} (h:Zf w g p S3 S5) (hL:0<p.layers.length):∃gl S',S5=gl::S':=by
 obtain⟨A3,k3,A5,k5,_,_,_,_,_,_,_,h5⟩:=h.ex
 unfold layers at h5
 rcases h5.cases_ with ⟨_,h0,_⟩|⟨gl,cap,S',_,_,_,e,_⟩
 ·omega
 ·exact⟨gl,S',e⟩
theorem Zf.lay {w:World} {g gl:Nat} {p:Qe} {S3 S':List Nat} (h:Zf w g p S3 (gl::S')) {n:Nat} (hn:n<p.layers.length):
  ∃c5,w.cell? ⟨g,5,none⟩=some (.slice (some ⟨gl,0,none⟩) p.layers.length c5)/\p.layers.length<=c5/\c5<=maxLen/\w.cell? ⟨gl,n * 2,none⟩=some (.string (Zh p n).name)/\w.cell? ⟨gl,n * 2+1,none⟩=some (.int .i64 (Zh p n).count)/\w.frozen? ⟨gl,n * 2+1,none⟩=false/\gl<w.heap.size/\¬g=gl:=by
 obtain⟨A3,k3,A5,k5,_,_,_,_,_,q5,_,h5⟩:=h.ex
 have hc:=h5
 unfold layers at hc
 rcases hc.cases_ with ⟨_,h0,_⟩|⟨gl',cap,S2,e,h1,h2,e2,h4,_⟩
 ·omega
 ·simp only [Value.slice.injEq,true_and] at e
  obtain⟨rfl,rfl⟩:=e
  obtain⟨rfl,rfl⟩:=List.cons.inj e2
  have hl:Ue w p p.layers.length none 0 (some ⟨gl,0,none⟩) k5 [] (gl::S')->True:=fun _=>trivial
  rw [ZJ hn]
  have hf:=(h5.layerVal hn 0).2.1
  obtain⟨A,cap',e',_,_,hrow⟩:=Xb h5.rd
  simp only [Value.slice.injEq,true_and] at e'
  obtain⟨e1,e2⟩:=e'
  subst e1 e2
  obtain⟨b,off,e3,hb,q0,q1⟩:=Wg hrow n hn
  simp only [O7,Addr.mk.injEq] at e3
  obtain⟨rfl,rfl,_⟩:=e3
  rw [J3] at q0 q1
  exact⟨k5,q5,h1,h2,q0,q1,hf,h4,fun e=>h.g5 (by rw [e];simp)⟩
theorem Zf.up {w:World} {g gl:Nat} {p:Qe} {S3 S':List Nat} (h:Zf w g p S3 (gl::S')) {n:Nat} (hn:n<p.layers.length):
  Zf (w.setCell ⟨gl,n * 2+1,none⟩ (.int .i64 (qX (Zh p n).count))) g (YP p n) S3 (gl::S'):=by
 have hl:=h.lt
 have hne:¬g=gl:=fun e=>h.g5 (by rw [e];simp)
 have hc:Qc [gl] w (w.setCell ⟨gl,n * 2+1,none⟩ (.int .i64 (qX (Zh p n).count))):=(B0 [gl] w).setCell (.inl (by simp)) _
 obtain⟨A3,k3,A5,k5,q0,q1,q2,q3,q4,q5,h3,h5⟩:=h.ex
 have hA:=h5
 unfold layers at hA
 rcases hA.cases_ with ⟨_,h0,_⟩|⟨gl',cap,S2,e,_,_,e2,_,_⟩
 ·omega
 simp only [Value.slice.injEq,true_and] at e
 obtain⟨rfl,rfl⟩:=e
 obtain⟨rfl,rfl⟩:=List.cons.inj e2
 have hk:=(h5.layerVal hn (qX (Zh p n).count)).1
 have eb:=Kx hn
 have el:(YP p n).layers.length=p.layers.length:=(UG hn).len
 have ec:=fun o=>hc.cell (p:=⟨g,o,none⟩) hl (by simp;exact hne)
 refine⟨⟨A3,k3,some ⟨gl,0,none⟩,k5,?_⟩,fun o ho=>(hc.frozen (p:=⟨g,o,none⟩) hl (by simp;exact hne)).trans (h.fr o ho),h.g3,h.g5,h.ds⟩
 rw [el]
 have ecore:(YP p n).core=p.core:=rfl
 rw [ecore]
 refine⟨(ec 0).trans q0,(ec 1).trans q1,(ec 2).trans q2,(ec 3).trans q3,(ec 4).trans q4,(ec 5).trans q5,h3.keep hc (fun x hx hx2=>by simp at hx2;subst hx2;exact h.ds x hx (by simp)),?_⟩
 rw [ZJ hn] at hk ⊢
 rw [eb]
 have:(p.layers.set n ⟨p.layers[n].name,qX p.layers[n].count⟩).length=p.layers.length:=by simp
 exact hk
theorem Gl (n:Nat) (IH:Gq n) (p:Qe) (m:ByteArray) (g B:Nat) (S3 S5:List Nat) (w:World) (bp bk:Nat) (h:Zf w g p S3 S5) (hok:Zr n p (only m)) (hE:YO B w) (hB:B<=w.heap.size) (hS:∀y∈g::(S3++S5),B<=y)
  (hp:w.cell? ⟨bp,0,none⟩=some (.pointer (some ⟨g,0,none⟩))) (hn:w.cell? ⟨bk,0,none⟩=some (.int .i64 ((n:Int)+1))):
  Calls Tryz.prog 204 #[.string m,.pointer (some ⟨bp,0,none⟩),.pointer (some ⟨bk,0,none⟩)] w (Kp g (XG n p (only m)) S3 S5 w):=by
 have b0:bp<w.heap.size:=Qk hp
 have b1:bk<w.heap.size:=Qk hn
 have n1:(n:Int)<=1000:=by have:=hok.le;have:=hok.part.2.1;omega
 have DO:=Qb (fun W (hc:Qc [] w W)=>IH p (only m) g B S3 S5 W (h.kz hc) hok (show(0:Nat)<=1048575 by decide) (show(0:Nat)<=1048576 by decide) (hE.keep hc (by simp) hB) (by have:=hc.size;omega) hS)
 have lt0:Hid (∀y,y∈g::(S3++S5)->y<w.heap.size):=Qb (fun y hy=>by
  rcases C7.1 hy with rfl|hy
  ·exact h.lt
  ·rcases F4.1 hy with hy|hy
   ·exact h.lt3 y hy
   ·exact h.lt5 y hy)
 obtain⟨r,hr⟩:∃r,r=XG n p (only m):=⟨_,rfl⟩
 rw [<-hr] at DO ⊢
 clear h hok hE hB hS hr IH
 go_enter Tryz.func204,Tryz.ntmps204
 go_wp2_with fail
 refine(DO.out _ C6).mono ?_
 rintro e w1 ⟨T1,rfl,pb1,hD1,c1⟩
 have s1:=c1.size
 have y1:=c1.ce w.heap.size (hn:=fun hx=>by have:=lt0.out _ hx;(try simp at this)<;>omega)
 have z1:=c1.fe w.heap.size (hn:=fun hx=>by have:=lt0.out _ hx;(try simp at this)<;>omega)
 have x1:w.heap.size<w1.heap.size:=by simp at s1;omega
 have hT:Hid (∀x,x∈T1->x∈S3∨w.heap.size+1<=x):=Qb (fun x hx=>(hD1 x hx).imp id (fun h=>by(try simp at h)<;>omega))
 have D1:Hid (Qc (g::(S3++S5)) w w1):=Qb (K6 (S:=g::(S3++S5)) C6 c1 (fun x hx=>.inl hx))
 have PB1:=Qb pb1
 clear pb1 hD1 c1 s1
 go_wp2_with fail
 refine bodyPost_ret (v:=.agg #[.int .i64 r.2.code,.int .i64 r.2.value,.string r.2.text,.int .i64 r.2.want,.int .i64 r.2.had]) (by simp only [results,Tryz.results204];go_simp) rfl ?_
 exact⟨T1,rfl,PB1.out.keep (T:=[w.heap.size]) C6 (by have:=lt0.out g (by simp);simp;omega) (fun x hx=>by
  rcases hT.out x hx with h|h
  ·have:=lt0.out x (by simp [h]);simp;omega
  ·simp;omega) (fun x hx=>by have:=lt0.out x (by simp [hx]);simp;omega),fun x hx=>(hT.out x hx).imp id (fun h=>by omega),(H9 D1.out)⟩
theorem zj (n:Nat) (IH:Gq n) (p:Qe) (key:ByteArray) (value:Int) (text:ByteArray) (g B:Nat) (S3 S5:List Nat) (w:World) (h:Zf w g p S3 S5) (hok:Zr (n+1) p ⟨QQ,key,value,text⟩) (ht:text.size<=1048575) (hk:key.size<=1048576) (hE:YO B w) (hB:B<=w.heap.size) (hS:∀y∈g::(S3++S5),B<=y) (e:(Zh p n).name=Zk):
  Calls Tryz.prog 180 #[.pointer (some ⟨g,0,none⟩),.int .i64 ((n+1:Nat):Int),.agg #[.string QQ,.string key,.int .i64 value,.string text]] w (Kp g (p,Qf 0 (Zh p n).count 0 0) S3 S5 w):=by
 have hb:=And.intro ht (And.intro hk (And.intro IH (And.intro hE (And.intro hB hS))))
 have hnL:n<p.layers.length:=hok.le
 obtain⟨gl,S5',rfl⟩:=h.head (by omega)
 obtain⟨c5,q5,hLc,hcm,q0,q1,qf,hgl,hggl⟩:=h.lay hnL
 unfold maxLen at hcm
 rw [e] at q0
 have hg:=h.lt
 have l3:=Qb h.lt3
 have al0:Hid (∀x,x∈g::(S3++(gl::S5'))->x<w.heap.size/\B<=x):=Qb (fun x hx=>⟨by
  rcases C7.1 hx with rfl|hx2
  ·exact hg
  ·rcases F4.1 hx2 with hx3|hx3
   ·exact h.lt3 x hx3
   ·exact h.lt5 x hx3,hS x hx⟩)
 obtain⟨u0,u1,u2,u3,u4,u5⟩:=uU
 obtain⟨t0,t1,t2,t3,t4,t5,t6,t7,t8⟩:=xW
 have hnL3:p.layers.length<=3:=hok.part.2.1
 obtain⟨L,hL⟩:∃L,L=p.layers.length:=⟨_,rfl⟩
 have HL:=Qb hL
 rw [<-hL] at q5 hLc hnL hnL3
 clear hL
 have i0:(0:Int)<=(n:Int):=by omega
 have i1:(n:Int)<(L:Int):=by omega
 have i2:(L:Int)<=9223372036854775807:=by omega
 have i3:IntKind.i64.wrap (n:Int)=(n:Int):=Zd (by omega) (by omega)
 have i4:((n:Int)+1==0)=false:=by simp;omega
 have g0:g<w.heap.size+1:=by omega
 have g1:g<w.heap.size+1+1:=by omega
 have g2:g<w.heap.size+1+1+1:=by omega
 have g3:g<w.heap.size+1+1+1+1:=by omega
 have k0:gl<w.heap.size+1:=by omega
 have k1:gl<w.heap.size+1+1:=by omega
 have k2:gl<w.heap.size+1+1+1:=by omega
 have k3:gl<w.heap.size+1+1+1+1:=by omega
 have hmf:∀(fn:Fn) (first cap:Array Value) (w:World),(Instr.makeFunc fn first cap).run Tryz.prog w= .ok (.func fn first cap) w:=fun _ _ _ _=>rfl
 have hnum:ZK (Zh p n).count:=by
  obtain⟨_,_,_,hx,_⟩:=hok.part.2.2 n (by have:=HL.out;omega)
  rw [ZJ (by have:=HL.out;omega)]
  exact hx
 have H:=Qb h
 have HN:=Qb hnum
 have E:=Qb e
 have EB:=Qb hE
 have BS:=Qb hB
 clear h hok hnum e hb ht hk IH hE hB hS
 go_enter Tryz.func180,Tryz.ntmps180
 go_wp2_with fail
 go_quiet (fail)
 go_wp2_with fail
 refine bodyPost_ret (v:=.agg #[.int .i64 0,.int .i64 (Zh p n).count,.string ⟨#[]⟩,.int .i64 0,.int .i64 0]) (by simp only [results,Tryz.results180];go_simp) rfl ?_
 exact⟨S3,rfl,H.out.kz C6,fun x hx=>.inl hx,j6 (S:=[]) C6 (by simp)⟩
theorem yI (n:Nat) (IH:Gq n) (p:Qe) (key:ByteArray) (value:Int) (text:ByteArray) (g B:Nat) (S3 S5:List Nat) (w:World) (h:Zf w g p S3 S5) (hok:Zr (n+1) p ⟨Zu,key,value,text⟩) (ht:text.size<=1048575) (hk:key.size<=1048576) (hE:YO B w) (hB:B<=w.heap.size) (hS:∀y∈g::(S3++S5),B<=y) (e:(Zh p n).name=XD):
  Calls Tryz.prog 180 #[.pointer (some ⟨g,0,none⟩),.int .i64 ((n+1:Nat):Int),.agg #[.string Zu,.string key,.int .i64 value,.string text]] w (Kp g (p,Qf 6 0 0 0) S3 S5 w):=by
 have hb:=And.intro ht (And.intro hk (And.intro IH (And.intro hE (And.intro hB hS))))
 have hnL:n<p.layers.length:=hok.le
 obtain⟨gl,S5',rfl⟩:=h.head (by omega)
 obtain⟨c5,q5,hLc,hcm,q0,q1,qf,hgl,hggl⟩:=h.lay hnL
 unfold maxLen at hcm
 rw [e] at q0
 have hg:=h.lt
 have l3:=Qb h.lt3
 have al0:Hid (∀x,x∈g::(S3++(gl::S5'))->x<w.heap.size/\B<=x):=Qb (fun x hx=>⟨by
  rcases C7.1 hx with rfl|hx2
  ·exact hg
  ·rcases F4.1 hx2 with hx3|hx3
   ·exact h.lt3 x hx3
   ·exact h.lt5 x hx3,hS x hx⟩)
 obtain⟨u0,u1,u2,u3,u4,u5⟩:=Qat
 obtain⟨t0,t1,t2,t3,t4,t5,t6,t7,t8⟩:=QeV
 have hnL3:p.layers.length<=3:=hok.part.2.1
 obtain⟨L,hL⟩:∃L,L=p.layers.length:=⟨_,rfl⟩
 have HL:=Qb hL
 rw [<-hL] at q5 hLc hnL hnL3
 clear hL
 have i0:(0:Int)<=(n:Int):=by omega
 have i1:(n:Int)<(L:Int):=by omega
 have i2:(L:Int)<=9223372036854775807:=by omega
 have i3:IntKind.i64.wrap (n:Int)=(n:Int):=Zd (by omega) (by omega)
 have i4:((n:Int)+1==0)=false:=by simp;omega
 have g0:g<w.heap.size+1:=by omega
 have g1:g<w.heap.size+1+1:=by omega
 have g2:g<w.heap.size+1+1+1:=by omega
 have g3:g<w.heap.size+1+1+1+1:=by omega
 have k0:gl<w.heap.size+1:=by omega
 have k1:gl<w.heap.size+1+1:=by omega
 have k2:gl<w.heap.size+1+1+1:=by omega
 have k3:gl<w.heap.size+1+1+1+1:=by omega
 have hmf:∀(fn:Fn) (first cap:Array Value) (w:World),(Instr.makeFunc fn first cap).run Tryz.prog w= .ok (.func fn first cap) w:=fun _ _ _ _=>rfl
 have hnum:ZK (Zh p n).count:=by
  obtain⟨_,_,_,hx,_⟩:=hok.part.2.2 n (by have:=HL.out;omega)
  rw [ZJ (by have:=HL.out;omega)]
  exact hx
 have H:=Qb h
 have HN:=Qb hnum
 have E:=Qb e
 have EB:=Qb hE
 have BS:=Qb hB
 clear h hok hnum e hb ht hk IH hE hB hS
 go_enter Tryz.func180,Tryz.ntmps180
 go_wp2_with fail
 go_quiet (fail)
 go_wp2_with fail
 refine bodyPost_ret (v:=.agg #[.int .i64 6,.int .i64 0,.string ⟨#[]⟩,.int .i64 0,.int .i64 0]) (by simp only [results,Tryz.results180];go_simp) rfl ?_
 exact⟨S3,rfl,H.out.kz C6,fun x hx=>.inl hx,j6 (S:=[]) C6 (by simp)⟩
theorem Xm (n:Nat) (IH:Gq n) (p:Qe) (mt nm:ByteArray) (hpc:QgV nm mt) (key:ByteArray) (value:Int) (text:ByteArray) (g B:Nat) (S3 S5:List Nat) (w:World) (h:Zf w g p S3 S5) (hok:Zr (n+1) p ⟨mt,key,value,text⟩) (ht:text.size<=1048575) (hk:key.size<=1048576) (hE:YO B w) (hB:B<=w.heap.size) (hS:∀y∈g::(S3++S5),B<=y) (e:(Zh p n).name=nm) (okx:Zr n p ⟨mt,key,value,text⟩):
  Calls Tryz.prog 180 #[.pointer (some ⟨g,0,none⟩),.int .i64 ((n+1:Nat):Int),.agg #[.string mt,.string key,.int .i64 value,.string text]] w (Kp g (XG n p ⟨mt,key,value,text⟩) S3 S5 w):=by
 rcases hpc with hpc|hpc|hpc|hpc|hpc|hpc|hpc
 all_goals
  have hb:=And.intro ht (And.intro hk (And.intro IH (And.intro hE (And.intro hB hS))))
  have hnL:n<p.layers.length:=hok.le
  obtain⟨gl,S5',rfl⟩:=h.head (by omega)
  obtain⟨c5,q5,hLc,hcm,q0,q1,qf,hgl,hggl⟩:=h.lay hnL
  unfold maxLen at hcm
  rw [e] at q0
  have hg:=h.lt
  have l3:=Qb h.lt3
  have al0:Hid (∀x,x∈g::(S3++(gl::S5'))->x<w.heap.size/\B<=x):=Qb (fun x hx=>⟨by
   rcases C7.1 hx with rfl|hx2
   ·exact hg
   ·rcases F4.1 hx2 with hx3|hx3
    ·exact h.lt3 x hx3
    ·exact h.lt5 x hx3,hS x hx⟩)
  obtain⟨u0,u1,u2,u3,u4,u5⟩:=hpc.1
  obtain⟨t2,t3,t4,t5,t8⟩:=hpc.2
  clear hpc
  have hnL3:p.layers.length<=3:=hok.part.2.1
  obtain⟨L,hL⟩:∃L,L=p.layers.length:=⟨_,rfl⟩
  have HL:=Qb hL
  rw [<-hL] at q5 hLc hnL hnL3
  clear hL
  have i0:(0:Int)<=(n:Int):=by omega
  have i1:(n:Int)<(L:Int):=by omega
  have i2:(L:Int)<=9223372036854775807:=by omega
  have i3:IntKind.i64.wrap (n:Int)=(n:Int):=Zd (by omega) (by omega)
  have i4:((n:Int)+1==0)=false:=by simp;omega
  have g0:g<w.heap.size+1:=by omega
  have g1:g<w.heap.size+1+1:=by omega
  have g2:g<w.heap.size+1+1+1:=by omega
  have g3:g<w.heap.size+1+1+1+1:=by omega
  have k0:gl<w.heap.size+1:=by omega
  have k1:gl<w.heap.size+1+1:=by omega
  have k2:gl<w.heap.size+1+1+1:=by omega
  have k3:gl<w.heap.size+1+1+1+1:=by omega
  have hmf:∀(fn:Fn) (first cap:Array Value) (w:World),(Instr.makeFunc fn first cap).run Tryz.prog w= .ok (.func fn first cap) w:=fun _ _ _ _=>rfl
  have hnum:ZK (Zh p n).count:=by
   obtain⟨_,_,_,hx,_⟩:=hok.part.2.2 n (by have:=HL.out;omega)
   rw [ZJ (by have:=HL.out;omega)]
   exact hx
  obtain⟨r1,hr1⟩:∃r,r=XG n p ⟨mt,key,value,text⟩:=⟨_,rfl⟩
  have DO1:=Qb (fun W S3 (hW:Zf W g p S3 (gl::S5')) (hE:YO B W) (hB:B<=W.heap.size) (hS:∀y∈g::(S3++(gl::S5')),B<=y)=>IH p ⟨mt,key,value,text⟩ g B S3 _ W hW okx (by first|exact ht|decide|(show(0:Nat)<=1048575;decide)) (by first|exact hk|decide|(show(0:Nat)<=1048576;decide)) hE hB hS)
  rw [<-hr1] at DO1
  have OK1:=(show Qn r1.1/\YV n p r1.1 from by rw [hr1];exact XF n _ _ okx)
  have LEN1:=Qb (show r1.1.layers.length=L from by rw [OK1.2.len,HL.out])
  rw [<-hr1]
  clear OK1 okx
  have H:=Qb h
  have HN:=Qb hnum
  have E:=Qb e
  have EB:=Qb hE
  have BS:=Qb hB
  clear hr1 h hok hnum e hb ht hk IH hE hB hS
  go_enter Tryz.func180,Tryz.ntmps180
  go_wp2_with fail
  go_quiet (fail)
  go_wp2_with fail
  refine(DO1.out _ _ (H.out.kz C6) (EB.out.keep (S:=(g::(S3++(gl::S5')))) C6 (fun x hx=>(al0.out x hx).2) BS.out) (by have:=BS.out;simp;omega) (fun y hy=>by have:=al0.out y hy;have:=BS.out;omega)).mono ?_
  rintro e w1 ⟨T1,rfl,pb1,hD1,c1⟩
  have s1:=c1.size
  have v1:w.heap.size+4<=w1.heap.size:=by(try simp at s1)<;>omega
  obtain⟨-, -,xa1, -, -,xb1, -, -,xc1,yd1,zd1,xd1, -⟩:=c1.low 4 (w.heap.size) (fun x hx=>by have:=al0.out _ hx;(try simp at this)<;>omega)
  have al1:Hid (∀x,x∈g::(T1++(gl::S5'))->(x<w.heap.size/\B<=x)∨(w.heap.size+4<=x/\x<w1.heap.size)):=Qb (fun x hx=>by
   rcases C7.1 hx with rfl|hx2
   ·have:=al0.out x (by simp);omega
   ·rcases F4.1 hx2 with hx3|hx3
    ·have:=pb1.lt3 x hx3
     rcases hD1 x hx3 with h|h
     ·have:=al0.out x (by simp [h]);omega
     ·(try simp at h)<;>omega
    ·have:=al0.out x (by simp at hx3 ⊢;simp [hx3]);omega)
  have hT1:Hid (∀x,x∈T1->x∈S3∨w.heap.size<=x):=Qb (fun x hx=>by rcases hD1 x hx with h|h;(exact .inl h);(exact .inr (by(try simp at h)<;>omega)))
  have D1:Hid (Qc (g::(S3++(gl::S5'))) w w1):=Qb (K6 (S:=(g::(S3++(gl::S5')))) C6 c1 (fun x hx=>.inl hx))
  obtain⟨d1c,_,_,_,n10,n11,nf1,_,_⟩:=pb1.lay (n:=n) (by rw [LEN1.out];omega)
  have PB1:=Qb pb1
  have hg1:g<w1.heap.size:=by omega
  have hl1:gl<w1.heap.size:=by omega
  have hg1a:g<w1.heap.size+1:=by omega
  have hl1a:gl<w1.heap.size+1:=by omega
  have hne1:¬gl=w1.heap.size:=by omega
  clear pb1 hD1 c1 s1
  go_wp2_with fail
  refine bodyPost_ret (v:=.agg #[.int .i64 r1.2.code,.int .i64 r1.2.value,.string r1.2.text,.int .i64 r1.2.want,.int .i64 r1.2.had]) (by simp only [results,Tryz.results180];go_simp) rfl ?_
  exact⟨T1,rfl,(PB1.out).keep (T:=[w.heap.size+1+1+1]) C6 (by have:=al0.out g (by simp);simp;omega) (fun x hx=>by have:=al1.out x (by simp [hx]);simp;omega) (fun x hx=>by have:=al1.out x (by simp at hx ⊢;simp [hx]);simp;omega),hT1.out,(H9 D1.out)⟩
theorem Kb (n:Nat) (IH:Gq n) (p:Qe) (mt:ByteArray) (hkc:QaW mt) (key:ByteArray) (value:Int) (text:ByteArray) (g B:Nat) (S3 S5:List Nat) (w:World) (h:Zf w g p S3 S5) (hok:Zr (n+1) p ⟨mt,key,value,text⟩) (ht:text.size<=1048575) (hk:key.size<=1048576) (hE:YO B w) (hB:B<=w.heap.size) (hS:∀y∈g::(S3++S5),B<=y) (e:(Zh p n).name=Zk) (okx:Zr n p ⟨mt,key,value,text⟩):
  Calls Tryz.prog 180 #[.pointer (some ⟨g,0,none⟩),.int .i64 ((n+1:Nat):Int),.agg #[.string mt,.string key,.int .i64 value,.string text]] w (Kp g (YP (XG n p ⟨mt,key,value,text⟩).1 n,(XG n p ⟨mt,key,value,text⟩).2) S3 S5 w):=by
 rcases hkc with hkc|hkc
 all_goals
  have hb:=And.intro ht (And.intro hk (And.intro IH (And.intro hE (And.intro hB hS))))
  have hnL:n<p.layers.length:=hok.le
  obtain⟨gl,S5',rfl⟩:=h.head (by omega)
  obtain⟨c5,q5,hLc,hcm,q0,q1,qf,hgl,hggl⟩:=h.lay hnL
  unfold maxLen at hcm
  rw [e] at q0
  have hg:=h.lt
  have l3:=Qb h.lt3
  have al0:Hid (∀x,x∈g::(S3++(gl::S5'))->x<w.heap.size/\B<=x):=Qb (fun x hx=>⟨by
   rcases C7.1 hx with rfl|hx2
   ·exact hg
   ·rcases F4.1 hx2 with hx3|hx3
    ·exact h.lt3 x hx3
    ·exact h.lt5 x hx3,hS x hx⟩)
  obtain⟨u0,u1,u2,u3,u4,u5⟩:=uU
  obtain⟨t2,t3,t4,t5,t8⟩:=hkc
  have hnL3:p.layers.length<=3:=hok.part.2.1
  obtain⟨L,hL⟩:∃L,L=p.layers.length:=⟨_,rfl⟩
  have HL:=Qb hL
  rw [<-hL] at q5 hLc hnL hnL3
  clear hL
  have i0:(0:Int)<=(n:Int):=by omega
  have i1:(n:Int)<(L:Int):=by omega
  have i2:(L:Int)<=9223372036854775807:=by omega
  have i3:IntKind.i64.wrap (n:Int)=(n:Int):=Zd (by omega) (by omega)
  have i4:((n:Int)+1==0)=false:=by simp;omega
  have g0:g<w.heap.size+1:=by omega
  have g1:g<w.heap.size+1+1:=by omega
  have g2:g<w.heap.size+1+1+1:=by omega
  have g3:g<w.heap.size+1+1+1+1:=by omega
  have k0:gl<w.heap.size+1:=by omega
  have k1:gl<w.heap.size+1+1:=by omega
  have k2:gl<w.heap.size+1+1+1:=by omega
  have k3:gl<w.heap.size+1+1+1+1:=by omega
  have hmf:∀(fn:Fn) (first cap:Array Value) (w:World),(Instr.makeFunc fn first cap).run Tryz.prog w= .ok (.func fn first cap) w:=fun _ _ _ _=>rfl
  have hnum:ZK (Zh p n).count:=by
   obtain⟨_,_,_,hx,_⟩:=hok.part.2.2 n (by have:=HL.out;omega)
   rw [ZJ (by have:=HL.out;omega)]
   exact hx
  obtain⟨r1,hr1⟩:∃r,r=XG n p ⟨mt,key,value,text⟩:=⟨_,rfl⟩
  have DO1:=Qb (fun W S3 (hW:Zf W g p S3 (gl::S5')) (hE:YO B W) (hB:B<=W.heap.size) (hS:∀y∈g::(S3++(gl::S5')),B<=y)=>IH p ⟨mt,key,value,text⟩ g B S3 _ W hW okx (by first|exact ht|decide|(show(0:Nat)<=1048575;decide)) (by first|exact hk|decide|(show(0:Nat)<=1048576;decide)) hE hB hS)
  rw [<-hr1] at DO1
  have OK1:=(show Qn r1.1/\YV n p r1.1 from by rw [hr1];exact XF n _ _ okx)
  have LEN1:=Qb (show r1.1.layers.length=L from by rw [OK1.2.len,HL.out])
  have hn1:ZK (Zh r1.1 n).count:=by
   obtain⟨_,_,_,hx,_⟩:=OK1.1.2.2 n (by rw [OK1.2.len];have:=HL.out;omega)
   rw [ZJ (by rw [OK1.2.len];have:=HL.out;omega)]
   exact hx
  have CU:=Qb (fun W=>ZE (Zh r1.1 n).count W hn1)
  rw [<-hr1]
  clear OK1 okx hn1
  have H:=Qb h
  have HN:=Qb hnum
  have E:=Qb e
  have EB:=Qb hE
  have BS:=Qb hB
  clear hr1 h hok hnum e hb ht hk IH hE hB hS
  go_enter Tryz.func180,Tryz.ntmps180
  go_wp2_with fail
  go_quiet (fail)
  go_wp2_with fail
  refine(DO1.out _ _ (H.out.kz C6) (EB.out.keep (S:=(g::(S3++(gl::S5')))) C6 (fun x hx=>(al0.out x hx).2) BS.out) (by have:=BS.out;simp;omega) (fun y hy=>by have:=al0.out y hy;have:=BS.out;omega)).mono ?_
  rintro e w1 ⟨T1,rfl,pb1,hD1,c1⟩
  have s1:=c1.size
  have v1:w.heap.size+4<=w1.heap.size:=by(try simp at s1)<;>omega
  obtain⟨-, -,xa1, -, -,xb1, -, -,xc1,yd1,zd1,xd1, -⟩:=c1.low 4 (w.heap.size) (fun x hx=>by have:=al0.out _ hx;(try simp at this)<;>omega)
  have al1:Hid (∀x,x∈g::(T1++(gl::S5'))->(x<w.heap.size/\B<=x)∨(w.heap.size+4<=x/\x<w1.heap.size)):=Qb (fun x hx=>by
   rcases C7.1 hx with rfl|hx2
   ·have:=al0.out x (by simp);omega
   ·rcases F4.1 hx2 with hx3|hx3
    ·have:=pb1.lt3 x hx3
     rcases hD1 x hx3 with h|h
     ·have:=al0.out x (by simp [h]);omega
     ·(try simp at h)<;>omega
    ·have:=al0.out x (by simp at hx3 ⊢;simp [hx3]);omega)
  have hT1:Hid (∀x,x∈T1->x∈S3∨w.heap.size<=x):=Qb (fun x hx=>by rcases hD1 x hx with h|h;(exact .inl h);(exact .inr (by(try simp at h)<;>omega)))
  have D1:Hid (Qc (g::(S3++(gl::S5'))) w w1):=Qb (K6 (S:=(g::(S3++(gl::S5')))) C6 c1 (fun x hx=>.inl hx))
  obtain⟨d1c,_,_,_,n10,n11,nf1,_,_⟩:=pb1.lay (n:=n) (by rw [LEN1.out];omega)
  have PB1:=Qb pb1
  have hg1:g<w1.heap.size:=by omega
  have hl1:gl<w1.heap.size:=by omega
  have hg1a:g<w1.heap.size+1:=by omega
  have hl1a:gl<w1.heap.size+1:=by omega
  have hne1:¬gl=w1.heap.size:=by omega
  clear pb1 hD1 c1 s1
  go_wp2_with fail
  refine(CU.out _).mono ?_
  rintro e w1c ⟨rfl,hw1c⟩
  subst hw1c
  go_wp2_with fail
  refine bodyPost_ret (v:=.agg #[.int .i64 r1.2.code,.int .i64 r1.2.value,.string r1.2.text,.int .i64 r1.2.want,.int .i64 r1.2.had]) (by simp only [results,Tryz.results180];go_simp) rfl ?_
  exact⟨T1,rfl,(Zf.up (w:=w1) PB1.out (by rw [LEN1.out];omega)).keep (T:=[w.heap.size+1+1+1]) C6 (by have:=al0.out g (by simp);simp;omega) (fun x hx=>by have:=al1.out x (by simp [hx]);simp;omega) (fun x hx=>by have:=al1.out x (by simp at hx ⊢;simp [hx]);simp;omega),hT1.out,(H9 D1.out)⟩
theorem Ke (n:Nat) (IH:Gq n) (p:Qe) (mt:ByteArray) (hkc:QaW mt) (key:ByteArray) (value:Int) (text:ByteArray) (g B:Nat) (S3 S5:List Nat) (w:World) (h:Zf w g p S3 S5) (hok:Zr (n+1) p ⟨mt,key,value,text⟩) (ht:text.size<=1048575) (hk:key.size<=1048576) (hE:YO B w) (hB:B<=w.heap.size) (hS:∀y∈g::(S3++S5),B<=y) (e:(Zh p n).name=YA) (okx:Zr n p ⟨mt,key,value,text⟩) (ok2:Zr n p (only Qw)) (hc:(XG n p ⟨mt,key,value,text⟩).2.code=2):
  Calls Tryz.prog 180 #[.pointer (some ⟨g,0,none⟩),.int .i64 ((n+1:Nat):Int),.agg #[.string mt,.string key,.int .i64 value,.string text]] w (Kp g (XG n (XG n (XG n p ⟨mt,key,value,text⟩).1 (only Qw)).1 ⟨mt,key,value,text⟩) S3 S5 w):=by
 rcases hkc with hkc|hkc
 all_goals
  have hb:=And.intro ht (And.intro hk (And.intro IH (And.intro hE (And.intro hB hS))))
  have hnL:n<p.layers.length:=hok.le
  obtain⟨gl,S5',rfl⟩:=h.head (by omega)
  obtain⟨c5,q5,hLc,hcm,q0,q1,qf,hgl,hggl⟩:=h.lay hnL
  unfold maxLen at hcm
  rw [e] at q0
  have hg:=h.lt
  have l3:=Qb h.lt3
  have al0:Hid (∀x,x∈g::(S3++(gl::S5'))->x<w.heap.size/\B<=x):=Qb (fun x hx=>⟨by
   rcases C7.1 hx with rfl|hx2
   ·exact hg
   ·rcases F4.1 hx2 with hx3|hx3
    ·exact h.lt3 x hx3
    ·exact h.lt5 x hx3,hS x hx⟩)
  obtain⟨u0,u1,u2,u3,u4,u5⟩:=xN
  obtain⟨t2,t3,t4,t5,t8⟩:=hkc
  have hnL3:p.layers.length<=3:=hok.part.2.1
  obtain⟨L,hL⟩:∃L,L=p.layers.length:=⟨_,rfl⟩
  have HL:=Qb hL
  rw [<-hL] at q5 hLc hnL hnL3
  clear hL
  have i0:(0:Int)<=(n:Int):=by omega
  have i1:(n:Int)<(L:Int):=by omega
  have i2:(L:Int)<=9223372036854775807:=by omega
  have i3:IntKind.i64.wrap (n:Int)=(n:Int):=Zd (by omega) (by omega)
  have i4:((n:Int)+1==0)=false:=by simp;omega
  have g0:g<w.heap.size+1:=by omega
  have g1:g<w.heap.size+1+1:=by omega
  have g2:g<w.heap.size+1+1+1:=by omega
  have g3:g<w.heap.size+1+1+1+1:=by omega
  have k0:gl<w.heap.size+1:=by omega
  have k1:gl<w.heap.size+1+1:=by omega
  have k2:gl<w.heap.size+1+1+1:=by omega
  have k3:gl<w.heap.size+1+1+1+1:=by omega
  have hmf:∀(fn:Fn) (first cap:Array Value) (w:World),(Instr.makeFunc fn first cap).run Tryz.prog w= .ok (.func fn first cap) w:=fun _ _ _ _=>rfl
  have hnum:ZK (Zh p n).count:=by
   obtain⟨_,_,_,hx,_⟩:=hok.part.2.2 n (by have:=HL.out;omega)
   rw [ZJ (by have:=HL.out;omega)]
   exact hx
  obtain⟨r1,hr1⟩:∃r,r=XG n p ⟨mt,key,value,text⟩:=⟨_,rfl⟩
  have DO1:=Qb (fun W S3 (hW:Zf W g p S3 (gl::S5')) (hE:YO B W) (hB:B<=W.heap.size) (hS:∀y∈g::(S3++(gl::S5')),B<=y)=>IH p ⟨mt,key,value,text⟩ g B S3 _ W hW okx (by first|exact ht|decide|(show(0:Nat)<=1048575;decide)) (by first|exact hk|decide|(show(0:Nat)<=1048576;decide)) hE hB hS)
  rw [<-hr1] at DO1
  have OK1:=(show Qn r1.1/\YV n p r1.1 from by rw [hr1];exact XF n _ _ okx)
  have LEN1:=Qb (show r1.1.layers.length=L from by rw [OK1.2.len,HL.out])
  obtain⟨r2,hr2⟩:∃r,r=XG n r1.1 (only Qw):=⟨_,rfl⟩
  have DO2:=Qb (fun W S3 (hW:Zf W g r1.1 S3 (gl::S5')) (hE:YO B W) (hB:B<=W.heap.size) (hS:∀y∈g::(S3++(gl::S5')),B<=y) (hp:W.cell? ⟨w.heap.size,0,none⟩=some (.pointer (some ⟨g,0,none⟩))) (hn:W.cell? ⟨w.heap.size+1,0,none⟩=some (.int .i64 ((n:Int)+1)))=>Gl n IH r1.1 Qw g B S3 _ W _ _ hW (ok2.to OK1.2 OK1.1) hE hB hS hp hn)
  rw [<-hr2] at DO2
  have OK2:=(show Qn r2.1/\YV n r1.1 r2.1 from by rw [hr2];exact XF n _ _ (ok2.to OK1.2 OK1.1))
  have LEN2:=Qb (show r2.1.layers.length=L from by rw [OK2.2.len,OK1.2.len,HL.out])
  obtain⟨r3,hr3⟩:∃r,r=XG n r2.1 ⟨mt,key,value,text⟩:=⟨_,rfl⟩
  have DO3:=Qb (fun W S3 (hW:Zf W g r2.1 S3 (gl::S5')) (hE:YO B W) (hB:B<=W.heap.size) (hS:∀y∈g::(S3++(gl::S5')),B<=y)=>IH r2.1 ⟨mt,key,value,text⟩ g B S3 _ W hW (okx.to (OK1.2.trans OK2.2) OK2.1) (by first|exact ht|decide|(show(0:Nat)<=1048575;decide)) (by first|exact hk|decide|(show(0:Nat)<=1048576;decide)) hE hB hS)
  rw [<-hr3] at DO3
  have OK3:=(show Qn r3.1/\YV n r2.1 r3.1 from by rw [hr3];exact XF n _ _ (okx.to (OK1.2.trans OK2.2) OK2.1))
  have LEN3:=Qb (show r3.1.layers.length=L from by rw [OK3.2.len,OK2.2.len,OK1.2.len,HL.out])
  have hc1:(r1.2.code==2)=true:=by rw [hr1];simpa using hc
  rw [<-hr1, <-hr2, <-hr3]
  clear OK1 OK2 OK3 okx ok2
  have H:=Qb h
  have HN:=Qb hnum
  have E:=Qb e
  have EB:=Qb hE
  have BS:=Qb hB
  clear hr3 hr2 hr1 hc h hok hnum e hb ht hk IH hE hB hS
  go_enter Tryz.func180,Tryz.ntmps180
  go_wp2_with fail
  go_quiet (fail)
  go_wp2_with fail
  refine(DO1.out _ _ (H.out.kz C6) (EB.out.keep (S:=(g::(S3++(gl::S5')))) C6 (fun x hx=>(al0.out x hx).2) BS.out) (by have:=BS.out;simp;omega) (fun y hy=>by have:=al0.out y hy;have:=BS.out;omega)).mono ?_
  rintro e w1 ⟨T1,rfl,pb1,hD1,c1⟩
  have s1:=c1.size
  have v1:w.heap.size+4<=w1.heap.size:=by(try simp at s1)<;>omega
  obtain⟨ya1,za1,xa1,yb1,zb1,xb1,yc1,zc1,xc1,yd1,zd1,xd1, -⟩:=c1.low 4 (w.heap.size) (fun x hx=>by have:=al0.out _ hx;(try simp at this)<;>omega)
  have al1:Hid (∀x,x∈g::(T1++(gl::S5'))->(x<w.heap.size/\B<=x)∨(w.heap.size+4<=x/\x<w1.heap.size)):=Qb (fun x hx=>by
   rcases C7.1 hx with rfl|hx2
   ·have:=al0.out x (by simp);omega
   ·rcases F4.1 hx2 with hx3|hx3
    ·have:=pb1.lt3 x hx3
     rcases hD1 x hx3 with h|h
     ·have:=al0.out x (by simp [h]);omega
     ·(try simp at h)<;>omega
    ·have:=al0.out x (by simp at hx3 ⊢;simp [hx3]);omega)
  have hT1:Hid (∀x,x∈T1->x∈S3∨w.heap.size<=x):=Qb (fun x hx=>by rcases hD1 x hx with h|h;(exact .inl h);(exact .inr (by(try simp at h)<;>omega)))
  have D1:Hid (Qc (g::(S3++(gl::S5'))) w w1):=Qb (K6 (S:=(g::(S3++(gl::S5')))) C6 c1 (fun x hx=>.inl hx))
  obtain⟨d1c,_,_,_,n10,n11,nf1,_,_⟩:=pb1.lay (n:=n) (by rw [LEN1.out];omega)
  have PB1:=Qb pb1
  have hg1:g<w1.heap.size:=by omega
  have hl1:gl<w1.heap.size:=by omega
  have hg1a:g<w1.heap.size+1:=by omega
  have hl1a:gl<w1.heap.size+1:=by omega
  have hne1:¬gl=w1.heap.size:=by omega
  clear pb1 hD1 c1 s1
  go_wp2_with fail
  refine(DO2.out _ _ (PB1.out.kz C6) (EB.out.keep (S:=(g::(S3++(gl::S5')))) (H9 D1.out) (fun x hx=>(al0.out x hx).2) BS.out) (by have:=BS.out;simp;omega) (fun y hy=>by have:=al1.out y hy;have:=BS.out;omega) (by go_simp) (by go_simp)).mono ?_
  rintro e w2 ⟨T2,rfl,pb2,hD2,c2⟩
  have s2:=c2.size
  have v2:w1.heap.size+1<=w2.heap.size:=by(try simp at s2)<;>omega
  obtain⟨ya2,za2,xa2,yb2,zb2,xb2,yc2,zc2,xc2,yd2,zd2,xd2, -⟩:=c2.low 4 (w.heap.size) (fun x hx=>by have:=al1.out _ hx;(try simp at this)<;>omega)
  obtain⟨yq2,zq2,xq2, -⟩:=c2.low 1 (w1.heap.size) (fun x hx=>by have:=al1.out _ hx;(try simp at this)<;>omega)
  have al2:Hid (∀x,x∈g::(T2++(gl::S5'))->(x<w.heap.size/\B<=x)∨(w.heap.size+4<=x/\x<w1.heap.size)∨(w1.heap.size+1<=x/\x<w2.heap.size)):=Qb (fun x hx=>by
   rcases C7.1 hx with rfl|hx2
   ·have:=al0.out x (by simp);omega
   ·rcases F4.1 hx2 with hx3|hx3
    ·have:=pb2.lt3 x hx3
     rcases hD2 x hx3 with h|h
     ·have:=al1.out x (by simp [h]);omega
     ·(try simp at h)<;>omega
    ·have:=al0.out x (by simp at hx3 ⊢;simp [hx3]);omega)
  have hT2:Hid (∀x,x∈T2->x∈S3∨w.heap.size<=x):=Qb (fun x hx=>by rcases hD2 x hx with h|h;(exact hT1.out x h);(exact .inr (by(try simp at h)<;>omega)))
  have D2:Hid (Qc (g::(S3++(gl::S5'))) w w2):=Qb (K6 (S:=(g::(S3++(gl::S5')))) (H9 D1.out) c2 (fun x hx=>by
   rcases C7.1 hx with rfl|hx2
   ·exact .inl (by simp)
   ·rcases F4.1 hx2 with hx3|hx3
    ·exact(hT1.out x hx3).imp (fun h=>by simp [h]) id
    ·exact .inl (by simp at hx3 ⊢;simp [hx3])))
  obtain⟨d2c,_,_,_,n20,n21,nf2,_,_⟩:=pb2.lay (n:=n) (by rw [LEN2.out];omega)
  have PB2:=Qb pb2
  have hg2:g<w2.heap.size:=by omega
  have hl2:gl<w2.heap.size:=by omega
  have hg2a:g<w2.heap.size+1:=by omega
  have hl2a:gl<w2.heap.size+1:=by omega
  have hne2:¬gl=w2.heap.size:=by omega
  clear pb2 hD2 c2 s2
  go_wp2_with fail
  refine(DO3.out _ _ (PB2.out.kz C6) (EB.out.keep (S:=(g::(S3++(gl::S5')))) (H9 D2.out) (fun x hx=>(al0.out x hx).2) BS.out) (by have:=BS.out;simp;omega) (fun y hy=>by have:=al2.out y hy;have:=BS.out;omega)).mono ?_
  rintro e w3 ⟨T3,rfl,pb3,hD3,c3⟩
  have s3:=c3.size
  have v3:w2.heap.size<=w3.heap.size:=by(try simp at s3)<;>omega
  obtain⟨-, -,xa3, -, -,xb3, -, -,xc3,yd3,zd3,xd3, -⟩:=c3.low 4 (w.heap.size) (fun x hx=>by have:=al2.out _ hx;(try simp at this)<;>omega)
  obtain⟨yq3,zq3,xq3, -⟩:=c3.low 1 (w1.heap.size) (fun x hx=>by have:=al2.out _ hx;(try simp at this)<;>omega)
  have al3:Hid (∀x,x∈g::(T3++(gl::S5'))->(x<w.heap.size/\B<=x)∨(w.heap.size+4<=x/\x<w1.heap.size)∨(w1.heap.size+1<=x/\x<w2.heap.size)∨(w2.heap.size<=x/\x<w3.heap.size)):=Qb (fun x hx=>by
   rcases C7.1 hx with rfl|hx2
   ·have:=al0.out x (by simp);omega
   ·rcases F4.1 hx2 with hx3|hx3
    ·have:=pb3.lt3 x hx3
     rcases hD3 x hx3 with h|h
     ·have:=al2.out x (by simp [h]);omega
     ·(try simp at h)<;>omega
    ·have:=al0.out x (by simp at hx3 ⊢;simp [hx3]);omega)
  have hT3:Hid (∀x,x∈T3->x∈S3∨w.heap.size<=x):=Qb (fun x hx=>by rcases hD3 x hx with h|h;(exact hT2.out x h);(exact .inr (by(try simp at h)<;>omega)))
  have D3:Hid (Qc (g::(S3++(gl::S5'))) w w3):=Qb (K6 (S:=(g::(S3++(gl::S5')))) (H9 D2.out) c3 (fun x hx=>by
   rcases C7.1 hx with rfl|hx2
   ·exact .inl (by simp)
   ·rcases F4.1 hx2 with hx3|hx3
    ·exact(hT2.out x hx3).imp (fun h=>by simp [h]) id
    ·exact .inl (by simp at hx3 ⊢;simp [hx3])))
  obtain⟨d3c,_,_,_,n30,n31,nf3,_,_⟩:=pb3.lay (n:=n) (by rw [LEN3.out];omega)
  have PB3:=Qb pb3
  have hg3:g<w3.heap.size:=by omega
  have hl3:gl<w3.heap.size:=by omega
  have hg3a:g<w3.heap.size+1:=by omega
  have hl3a:gl<w3.heap.size+1:=by omega
  have hne3:¬gl=w3.heap.size:=by omega
  clear pb3 hD3 c3 s3
  go_wp2_with fail
  refine bodyPost_ret (v:=.agg #[.int .i64 r3.2.code,.int .i64 r3.2.value,.string r3.2.text,.int .i64 r3.2.want,.int .i64 r3.2.had]) (by simp only [results,Tryz.results180];go_simp) rfl ?_
  exact⟨T3,rfl,(PB3.out).keep (T:=[w.heap.size+1+1+1,w1.heap.size]) C6 (by have:=al0.out g (by simp);simp;omega) (fun x hx=>by have:=al3.out x (by simp [hx]);simp;omega) (fun x hx=>by have:=al3.out x (by simp at hx ⊢;simp [hx]);simp;omega),hT3.out,(H9 D3.out)⟩
theorem KU (n:Nat) (IH:Gq n) (p:Qe) (mt:ByteArray) (hkc:QaW mt) (key:ByteArray) (value:Int) (text:ByteArray) (g B:Nat) (S3 S5:List Nat) (w:World) (h:Zf w g p S3 S5) (hok:Zr (n+1) p ⟨mt,key,value,text⟩) (ht:text.size<=1048575) (hk:key.size<=1048576) (hE:YO B w) (hB:B<=w.heap.size) (hS:∀y∈g::(S3++S5),B<=y) (e:(Zh p n).name=YA) (okx:Zr n p ⟨mt,key,value,text⟩) (_ok2:Zr n p (only Qw)) (hc:¬(XG n p ⟨mt,key,value,text⟩).2.code=2):
  Calls Tryz.prog 180 #[.pointer (some ⟨g,0,none⟩),.int .i64 ((n+1:Nat):Int),.agg #[.string mt,.string key,.int .i64 value,.string text]] w (Kp g (XG n p ⟨mt,key,value,text⟩) S3 S5 w):=by
 rcases hkc with hkc|hkc
 all_goals
  have hb:=And.intro ht (And.intro hk (And.intro IH (And.intro hE (And.intro hB hS))))
  have hnL:n<p.layers.length:=hok.le
  obtain⟨gl,S5',rfl⟩:=h.head (by omega)
  obtain⟨c5,q5,hLc,hcm,q0,q1,qf,hgl,hggl⟩:=h.lay hnL
  unfold maxLen at hcm
  rw [e] at q0
  have hg:=h.lt
  have l3:=Qb h.lt3
  have al0:Hid (∀x,x∈g::(S3++(gl::S5'))->x<w.heap.size/\B<=x):=Qb (fun x hx=>⟨by
   rcases C7.1 hx with rfl|hx2
   ·exact hg
   ·rcases F4.1 hx2 with hx3|hx3
    ·exact h.lt3 x hx3
    ·exact h.lt5 x hx3,hS x hx⟩)
  obtain⟨u0,u1,u2,u3,u4,u5⟩:=xN
  obtain⟨t2,t3,t4,t5,t8⟩:=hkc
  have hnL3:p.layers.length<=3:=hok.part.2.1
  obtain⟨L,hL⟩:∃L,L=p.layers.length:=⟨_,rfl⟩
  have HL:=Qb hL
  rw [<-hL] at q5 hLc hnL hnL3
  clear hL
  have i0:(0:Int)<=(n:Int):=by omega
  have i1:(n:Int)<(L:Int):=by omega
  have i2:(L:Int)<=9223372036854775807:=by omega
  have i3:IntKind.i64.wrap (n:Int)=(n:Int):=Zd (by omega) (by omega)
  have i4:((n:Int)+1==0)=false:=by simp;omega
  have g0:g<w.heap.size+1:=by omega
  have g1:g<w.heap.size+1+1:=by omega
  have g2:g<w.heap.size+1+1+1:=by omega
  have g3:g<w.heap.size+1+1+1+1:=by omega
  have k0:gl<w.heap.size+1:=by omega
  have k1:gl<w.heap.size+1+1:=by omega
  have k2:gl<w.heap.size+1+1+1:=by omega
  have k3:gl<w.heap.size+1+1+1+1:=by omega
  have hmf:∀(fn:Fn) (first cap:Array Value) (w:World),(Instr.makeFunc fn first cap).run Tryz.prog w= .ok (.func fn first cap) w:=fun _ _ _ _=>rfl
  have hnum:ZK (Zh p n).count:=by
   obtain⟨_,_,_,hx,_⟩:=hok.part.2.2 n (by have:=HL.out;omega)
   rw [ZJ (by have:=HL.out;omega)]
   exact hx
  obtain⟨r1,hr1⟩:∃r,r=XG n p ⟨mt,key,value,text⟩:=⟨_,rfl⟩
  have DO1:=Qb (fun W S3 (hW:Zf W g p S3 (gl::S5')) (hE:YO B W) (hB:B<=W.heap.size) (hS:∀y∈g::(S3++(gl::S5')),B<=y)=>IH p ⟨mt,key,value,text⟩ g B S3 _ W hW okx (by first|exact ht|decide|(show(0:Nat)<=1048575;decide)) (by first|exact hk|decide|(show(0:Nat)<=1048576;decide)) hE hB hS)
  rw [<-hr1] at DO1
  have OK1:=(show Qn r1.1/\YV n p r1.1 from by rw [hr1];exact XF n _ _ okx)
  have LEN1:=Qb (show r1.1.layers.length=L from by rw [OK1.2.len,HL.out])
  have hc1:(r1.2.code==2)=false:=by rw [hr1];simpa using hc
  rw [<-hr1]
  clear OK1 okx
  have H:=Qb h
  have HN:=Qb hnum
  have E:=Qb e
  have EB:=Qb hE
  have BS:=Qb hB
  clear hr1 hc h hok hnum e hb ht hk IH hE hB hS
  go_enter Tryz.func180,Tryz.ntmps180
  go_wp2_with fail
  go_quiet (fail)
  go_wp2_with fail
  refine(DO1.out _ _ (H.out.kz C6) (EB.out.keep (S:=(g::(S3++(gl::S5')))) C6 (fun x hx=>(al0.out x hx).2) BS.out) (by have:=BS.out;simp;omega) (fun y hy=>by have:=al0.out y hy;have:=BS.out;omega)).mono ?_
  rintro e w1 ⟨T1,rfl,pb1,hD1,c1⟩
  have s1:=c1.size
  have v1:w.heap.size+4<=w1.heap.size:=by(try simp at s1)<;>omega
  obtain⟨-, -,xa1, -, -,xb1, -, -,xc1,yd1,zd1,xd1, -⟩:=c1.low 4 (w.heap.size) (fun x hx=>by have:=al0.out _ hx;(try simp at this)<;>omega)
  have al1:Hid (∀x,x∈g::(T1++(gl::S5'))->(x<w.heap.size/\B<=x)∨(w.heap.size+4<=x/\x<w1.heap.size)):=Qb (fun x hx=>by
   rcases C7.1 hx with rfl|hx2
   ·have:=al0.out x (by simp);omega
   ·rcases F4.1 hx2 with hx3|hx3
    ·have:=pb1.lt3 x hx3
     rcases hD1 x hx3 with h|h
     ·have:=al0.out x (by simp [h]);omega
     ·(try simp at h)<;>omega
    ·have:=al0.out x (by simp at hx3 ⊢;simp [hx3]);omega)
  have hT1:Hid (∀x,x∈T1->x∈S3∨w.heap.size<=x):=Qb (fun x hx=>by rcases hD1 x hx with h|h;(exact .inl h);(exact .inr (by(try simp at h)<;>omega)))
  have D1:Hid (Qc (g::(S3++(gl::S5'))) w w1):=Qb (K6 (S:=(g::(S3++(gl::S5')))) C6 c1 (fun x hx=>.inl hx))
  obtain⟨d1c,_,_,_,n10,n11,nf1,_,_⟩:=pb1.lay (n:=n) (by rw [LEN1.out];omega)
  have PB1:=Qb pb1
  have hg1:g<w1.heap.size:=by omega
  have hl1:gl<w1.heap.size:=by omega
  have hg1a:g<w1.heap.size+1:=by omega
  have hl1a:gl<w1.heap.size+1:=by omega
  have hne1:¬gl=w1.heap.size:=by omega
  clear pb1 hD1 c1 s1
  go_wp2_with fail
  refine bodyPost_ret (v:=.agg #[.int .i64 r1.2.code,.int .i64 r1.2.value,.string r1.2.text,.int .i64 r1.2.want,.int .i64 r1.2.had]) (by simp only [results,Tryz.results180];go_simp) rfl ?_
  exact⟨T1,rfl,(PB1.out).keep (T:=[w.heap.size+1+1+1]) C6 (by have:=al0.out g (by simp);simp;omega) (fun x hx=>by have:=al1.out x (by simp [hx]);simp;omega) (fun x hx=>by have:=al1.out x (by simp at hx ⊢;simp [hx]);simp;omega),hT1.out,(H9 D1.out)⟩
theorem zC (n:Nat) (IH:Gq n) (p:Qe) (key:ByteArray) (value:Int) (text:ByteArray) (g B:Nat) (S3 S5:List Nat) (w:World) (h:Zf w g p S3 S5) (hok:Zr (n+1) p ⟨Xk,key,value,text⟩) (ht:text.size<=1048575) (hk:key.size<=1048576) (hE:YO B w) (hB:B<=w.heap.size) (hS:∀y∈g::(S3++S5),B<=y) (e:(Zh p n).name=Xs) (okx:Zr n p (only QR)) (ok2:Zr n p (only Qw)):
  Calls Tryz.prog 180 #[.pointer (some ⟨g,0,none⟩),.int .i64 ((n+1:Nat):Int),.agg #[.string Xk,.string key,.int .i64 value,.string text]] w (Kp g (XG n (XG n p (only QR)).1 (only Qw)) S3 S5 w):=by
 have hb:=And.intro ht (And.intro hk (And.intro IH (And.intro hE (And.intro hB hS))))
 have hnL:n<p.layers.length:=hok.le
 obtain⟨gl,S5',rfl⟩:=h.head (by omega)
 obtain⟨c5,q5,hLc,hcm,q0,q1,qf,hgl,hggl⟩:=h.lay hnL
 unfold maxLen at hcm
 rw [e] at q0
 have hg:=h.lt
 have l3:=Qb h.lt3
 have al0:Hid (∀x,x∈g::(S3++(gl::S5'))->x<w.heap.size/\B<=x):=Qb (fun x hx=>⟨by
  rcases C7.1 hx with rfl|hx2
  ·exact hg
  ·rcases F4.1 hx2 with hx3|hx3
   ·exact h.lt3 x hx3
   ·exact h.lt5 x hx3,hS x hx⟩)
 obtain⟨u0,u1,u2,u3,u4,u5⟩:=vP
 obtain⟨t0,t1,t2,t3,t4,t5,t6,t7,t8⟩:=QcN
 have hnL3:p.layers.length<=3:=hok.part.2.1
 obtain⟨L,hL⟩:∃L,L=p.layers.length:=⟨_,rfl⟩
 have HL:=Qb hL
 rw [<-hL] at q5 hLc hnL hnL3
 clear hL
 have i0:(0:Int)<=(n:Int):=by omega
 have i1:(n:Int)<(L:Int):=by omega
 have i2:(L:Int)<=9223372036854775807:=by omega
 have i3:IntKind.i64.wrap (n:Int)=(n:Int):=Zd (by omega) (by omega)
 have i4:((n:Int)+1==0)=false:=by simp;omega
 have g0:g<w.heap.size+1:=by omega
 have g1:g<w.heap.size+1+1:=by omega
 have g2:g<w.heap.size+1+1+1:=by omega
 have g3:g<w.heap.size+1+1+1+1:=by omega
 have k0:gl<w.heap.size+1:=by omega
 have k1:gl<w.heap.size+1+1:=by omega
 have k2:gl<w.heap.size+1+1+1:=by omega
 have k3:gl<w.heap.size+1+1+1+1:=by omega
 have hmf:∀(fn:Fn) (first cap:Array Value) (w:World),(Instr.makeFunc fn first cap).run Tryz.prog w= .ok (.func fn first cap) w:=fun _ _ _ _=>rfl
 have hnum:ZK (Zh p n).count:=by
  obtain⟨_,_,_,hx,_⟩:=hok.part.2.2 n (by have:=HL.out;omega)
  rw [ZJ (by have:=HL.out;omega)]
  exact hx
 obtain⟨r1,hr1⟩:∃r,r=XG n p (only QR):=⟨_,rfl⟩
 have DO1:=Qb (fun W S3 (hW:Zf W g p S3 (gl::S5')) (hE:YO B W) (hB:B<=W.heap.size) (hS:∀y∈g::(S3++(gl::S5')),B<=y) (hp:W.cell? ⟨w.heap.size,0,none⟩=some (.pointer (some ⟨g,0,none⟩))) (hn:W.cell? ⟨w.heap.size+1,0,none⟩=some (.int .i64 ((n:Int)+1)))=>Gl n IH p QR g B S3 _ W _ _ hW okx hE hB hS hp hn)
 rw [<-hr1] at DO1
 have OK1:=(show Qn r1.1/\YV n p r1.1 from by rw [hr1];exact XF n _ _ okx)
 have LEN1:=Qb (show r1.1.layers.length=L from by rw [OK1.2.len,HL.out])
 obtain⟨r2,hr2⟩:∃r,r=XG n r1.1 (only Qw):=⟨_,rfl⟩
 have DO2:=Qb (fun W S3 (hW:Zf W g r1.1 S3 (gl::S5')) (hE:YO B W) (hB:B<=W.heap.size) (hS:∀y∈g::(S3++(gl::S5')),B<=y) (hp:W.cell? ⟨w.heap.size,0,none⟩=some (.pointer (some ⟨g,0,none⟩))) (hn:W.cell? ⟨w.heap.size+1,0,none⟩=some (.int .i64 ((n:Int)+1)))=>Gl n IH r1.1 Qw g B S3 _ W _ _ hW (ok2.to OK1.2 OK1.1) hE hB hS hp hn)
 rw [<-hr2] at DO2
 have OK2:=(show Qn r2.1/\YV n r1.1 r2.1 from by rw [hr2];exact XF n _ _ (ok2.to OK1.2 OK1.1))
 have LEN2:=Qb (show r2.1.layers.length=L from by rw [OK2.2.len,OK1.2.len,HL.out])
 rw [<-hr1, <-hr2]
 clear OK1 OK2 okx ok2
 have H:=Qb h
 have HN:=Qb hnum
 have E:=Qb e
 have EB:=Qb hE
 have BS:=Qb hB
 clear hr2 hr1 h hok hnum e hb ht hk IH hE hB hS
 go_enter Tryz.func180,Tryz.ntmps180
 go_wp2_with fail
 go_quiet (fail)
 go_wp2_with fail
 refine(DO1.out _ _ (H.out.kz C6) (EB.out.keep (S:=(g::(S3++(gl::S5')))) C6 (fun x hx=>(al0.out x hx).2) BS.out) (by have:=BS.out;simp;omega) (fun y hy=>by have:=al0.out y hy;have:=BS.out;omega) (by go_simp) (by go_simp)).mono ?_
 rintro e w1 ⟨T1,rfl,pb1,hD1,c1⟩
 have s1:=c1.size
 have v1:w.heap.size+4<=w1.heap.size:=by(try simp at s1)<;>omega
 obtain⟨ya1,za1,xa1,yb1,zb1,xb1, -, -,xc1,yd1,zd1,xd1, -⟩:=c1.low 4 (w.heap.size) (fun x hx=>by have:=al0.out _ hx;(try simp at this)<;>omega)
 have al1:Hid (∀x,x∈g::(T1++(gl::S5'))->(x<w.heap.size/\B<=x)∨(w.heap.size+4<=x/\x<w1.heap.size)):=Qb (fun x hx=>by
  rcases C7.1 hx with rfl|hx2
  ·have:=al0.out x (by simp);omega
  ·rcases F4.1 hx2 with hx3|hx3
   ·have:=pb1.lt3 x hx3
    rcases hD1 x hx3 with h|h
    ·have:=al0.out x (by simp [h]);omega
    ·(try simp at h)<;>omega
   ·have:=al0.out x (by simp at hx3 ⊢;simp [hx3]);omega)
 have hT1:Hid (∀x,x∈T1->x∈S3∨w.heap.size<=x):=Qb (fun x hx=>by rcases hD1 x hx with h|h;(exact .inl h);(exact .inr (by(try simp at h)<;>omega)))
 have D1:Hid (Qc (g::(S3++(gl::S5'))) w w1):=Qb (K6 (S:=(g::(S3++(gl::S5')))) C6 c1 (fun x hx=>.inl hx))
 obtain⟨d1c,_,_,_,n10,n11,nf1,_,_⟩:=pb1.lay (n:=n) (by rw [LEN1.out];omega)
 have PB1:=Qb pb1
 have hg1:g<w1.heap.size:=by omega
 have hl1:gl<w1.heap.size:=by omega
 have hg1a:g<w1.heap.size+1:=by omega
 have hl1a:gl<w1.heap.size+1:=by omega
 have hne1:¬gl=w1.heap.size:=by omega
 clear pb1 hD1 c1 s1
 go_wp2_with fail
 refine(DO2.out _ _ (PB1.out.kz C6) (EB.out.keep (S:=(g::(S3++(gl::S5')))) (H9 D1.out) (fun x hx=>(al0.out x hx).2) BS.out) (by have:=BS.out;simp;omega) (fun y hy=>by have:=al1.out y hy;have:=BS.out;omega) (by go_simp) (by go_simp)).mono ?_
 rintro e w2 ⟨T2,rfl,pb2,hD2,c2⟩
 have s2:=c2.size
 have v2:w1.heap.size<=w2.heap.size:=by(try simp at s2)<;>omega
 obtain⟨-, -,xa2, -, -,xb2, -, -,xc2,yd2,zd2,xd2, -⟩:=c2.low 4 (w.heap.size) (fun x hx=>by have:=al1.out _ hx;(try simp at this)<;>omega)
 have al2:Hid (∀x,x∈g::(T2++(gl::S5'))->(x<w.heap.size/\B<=x)∨(w.heap.size+4<=x/\x<w1.heap.size)∨(w1.heap.size<=x/\x<w2.heap.size)):=Qb (fun x hx=>by
  rcases C7.1 hx with rfl|hx2
  ·have:=al0.out x (by simp);omega
  ·rcases F4.1 hx2 with hx3|hx3
   ·have:=pb2.lt3 x hx3
    rcases hD2 x hx3 with h|h
    ·have:=al1.out x (by simp [h]);omega
    ·(try simp at h)<;>omega
   ·have:=al0.out x (by simp at hx3 ⊢;simp [hx3]);omega)
 have hT2:Hid (∀x,x∈T2->x∈S3∨w.heap.size<=x):=Qb (fun x hx=>by rcases hD2 x hx with h|h;(exact hT1.out x h);(exact .inr (by(try simp at h)<;>omega)))
 have D2:Hid (Qc (g::(S3++(gl::S5'))) w w2):=Qb (K6 (S:=(g::(S3++(gl::S5')))) (H9 D1.out) c2 (fun x hx=>by
  rcases C7.1 hx with rfl|hx2
  ·exact .inl (by simp)
  ·rcases F4.1 hx2 with hx3|hx3
   ·exact(hT1.out x hx3).imp (fun h=>by simp [h]) id
   ·exact .inl (by simp at hx3 ⊢;simp [hx3])))
 obtain⟨d2c,_,_,_,n20,n21,nf2,_,_⟩:=pb2.lay (n:=n) (by rw [LEN2.out];omega)
 have PB2:=Qb pb2
 have hg2:g<w2.heap.size:=by omega
 have hl2:gl<w2.heap.size:=by omega
 have hg2a:g<w2.heap.size+1:=by omega
 have hl2a:gl<w2.heap.size+1:=by omega
 have hne2:¬gl=w2.heap.size:=by omega
 clear pb2 hD2 c2 s2
 go_wp2_with fail
 refine bodyPost_ret (v:=.agg #[.int .i64 r2.2.code,.int .i64 r2.2.value,.string r2.2.text,.int .i64 r2.2.want,.int .i64 r2.2.had]) (by simp only [results,Tryz.results180];go_simp) rfl ?_
 exact⟨T2,rfl,(PB2.out).keep (T:=[w.heap.size+1+1+1]) C6 (by have:=al0.out g (by simp);simp;omega) (fun x hx=>by have:=al2.out x (by simp [hx]);simp;omega) (fun x hx=>by have:=al2.out x (by simp at hx ⊢;simp [hx]);simp;omega),hT2.out,(H9 D2.out)⟩
theorem qN (n:Nat) (IH:Gq n) (p:Qe) (key:ByteArray) (value:Int) (text:ByteArray) (g B:Nat) (S3 S5:List Nat) (w:World) (h:Zf w g p S3 S5) (hok:Zr (n+1) p ⟨QQ,key,value,text⟩) (ht:text.size<=1048575) (hk:key.size<=1048576) (hE:YO B w) (hB:B<=w.heap.size) (hS:∀y∈g::(S3++S5),B<=y) (e:(Zh p n).name=XU) (okx:Zr n p ⟨QQ,key,value,text⟩) (hc:(XG n p ⟨QQ,key,value,text⟩).2.code=0) (hv0:0<=(XG n p ⟨QQ,key,value,text⟩).2.value/\(XG n p ⟨QQ,key,value,text⟩).2.value<=999):
  Calls Tryz.prog 180 #[.pointer (some ⟨g,0,none⟩),.int .i64 ((n+1:Nat):Int),.agg #[.string QQ,.string key,.int .i64 value,.string text]] w (Kp g ((XG n p ⟨QQ,key,value,text⟩).1, { (XG n p ⟨QQ,key,value,text⟩).2 with value:=min (2 * (XG n p ⟨QQ,key,value,text⟩).2.value) 999}) S3 S5 w):=by
 have hb:=And.intro ht (And.intro hk (And.intro IH (And.intro hE (And.intro hB hS))))
 have hnL:n<p.layers.length:=hok.le
 obtain⟨gl,S5',rfl⟩:=h.head (by omega)
 obtain⟨c5,q5,hLc,hcm,q0,q1,qf,hgl,hggl⟩:=h.lay hnL
 unfold maxLen at hcm
 rw [e] at q0
 have hg:=h.lt
 have l3:=Qb h.lt3
 have al0:Hid (∀x,x∈g::(S3++(gl::S5'))->x<w.heap.size/\B<=x):=Qb (fun x hx=>⟨by
  rcases C7.1 hx with rfl|hx2
  ·exact hg
  ·rcases F4.1 hx2 with hx3|hx3
   ·exact h.lt3 x hx3
   ·exact h.lt5 x hx3,hS x hx⟩)
 obtain⟨u0,u1,u2,u3,u4,u5⟩:=Qa3
 obtain⟨t0,t1,t2,t3,t4,t5,t6,t7,t8⟩:=xW
 have hnL3:p.layers.length<=3:=hok.part.2.1
 obtain⟨L,hL⟩:∃L,L=p.layers.length:=⟨_,rfl⟩
 have HL:=Qb hL
 rw [<-hL] at q5 hLc hnL hnL3
 clear hL
 have i0:(0:Int)<=(n:Int):=by omega
 have i1:(n:Int)<(L:Int):=by omega
 have i2:(L:Int)<=9223372036854775807:=by omega
 have i3:IntKind.i64.wrap (n:Int)=(n:Int):=Zd (by omega) (by omega)
 have i4:((n:Int)+1==0)=false:=by simp;omega
 have g0:g<w.heap.size+1:=by omega
 have g1:g<w.heap.size+1+1:=by omega
 have g2:g<w.heap.size+1+1+1:=by omega
 have g3:g<w.heap.size+1+1+1+1:=by omega
 have k0:gl<w.heap.size+1:=by omega
 have k1:gl<w.heap.size+1+1:=by omega
 have k2:gl<w.heap.size+1+1+1:=by omega
 have k3:gl<w.heap.size+1+1+1+1:=by omega
 have hmf:∀(fn:Fn) (first cap:Array Value) (w:World),(Instr.makeFunc fn first cap).run Tryz.prog w= .ok (.func fn first cap) w:=fun _ _ _ _=>rfl
 have hnum:ZK (Zh p n).count:=by
  obtain⟨_,_,_,hx,_⟩:=hok.part.2.2 n (by have:=HL.out;omega)
  rw [ZJ (by have:=HL.out;omega)]
  exact hx
 obtain⟨r1,hr1⟩:∃r,r=XG n p ⟨QQ,key,value,text⟩:=⟨_,rfl⟩
 have DO1:=Qb (fun W S3 (hW:Zf W g p S3 (gl::S5')) (hE:YO B W) (hB:B<=W.heap.size) (hS:∀y∈g::(S3++(gl::S5')),B<=y)=>IH p ⟨QQ,key,value,text⟩ g B S3 _ W hW okx (by first|exact ht|decide|(show(0:Nat)<=1048575;decide)) (by first|exact hk|decide|(show(0:Nat)<=1048576;decide)) hE hB hS)
 rw [<-hr1] at DO1
 have OK1:=(show Qn r1.1/\YV n p r1.1 from by rw [hr1];exact XF n _ _ okx)
 have LEN1:=Qb (show r1.1.layers.length=L from by rw [OK1.2.len,HL.out])
 have hc1:(r1.2.code==0)=true:=by rw [hr1];simpa using hc
 have hv:0<=r1.2.value/\r1.2.value<=999:=by rw [hr1];exact hv0
 obtain⟨hv1,hv2⟩:=hv
 rw [<-hr1]
 clear OK1 okx
 have H:=Qb h
 have HN:=Qb hnum
 have E:=Qb e
 have EB:=Qb hE
 have BS:=Qb hB
 clear hr1 hc hv0 h hok hnum e hb ht hk IH hE hB hS
 go_enter Tryz.func180,Tryz.ntmps180
 go_wp2_with fail
 go_quiet (fail)
 go_wp2_with fail
 refine(DO1.out _ _ (H.out.kz C6) (EB.out.keep (S:=(g::(S3++(gl::S5')))) C6 (fun x hx=>(al0.out x hx).2) BS.out) (by have:=BS.out;simp;omega) (fun y hy=>by have:=al0.out y hy;have:=BS.out;omega)).mono ?_
 rintro e w1 ⟨T1,rfl,pb1,hD1,c1⟩
 have s1:=c1.size
 have v1:w.heap.size+4<=w1.heap.size:=by(try simp at s1)<;>omega
 obtain⟨-, -,xa1, -, -,xb1, -, -,xc1,yd1,zd1,xd1, -⟩:=c1.low 4 (w.heap.size) (fun x hx=>by have:=al0.out _ hx;(try simp at this)<;>omega)
 have al1:Hid (∀x,x∈g::(T1++(gl::S5'))->(x<w.heap.size/\B<=x)∨(w.heap.size+4<=x/\x<w1.heap.size)):=Qb (fun x hx=>by
  rcases C7.1 hx with rfl|hx2
  ·have:=al0.out x (by simp);omega
  ·rcases F4.1 hx2 with hx3|hx3
   ·have:=pb1.lt3 x hx3
    rcases hD1 x hx3 with h|h
    ·have:=al0.out x (by simp [h]);omega
    ·(try simp at h)<;>omega
   ·have:=al0.out x (by simp at hx3 ⊢;simp [hx3]);omega)
 have hT1:Hid (∀x,x∈T1->x∈S3∨w.heap.size<=x):=Qb (fun x hx=>by rcases hD1 x hx with h|h;(exact .inl h);(exact .inr (by(try simp at h)<;>omega)))
 have D1:Hid (Qc (g::(S3++(gl::S5'))) w w1):=Qb (K6 (S:=(g::(S3++(gl::S5')))) C6 c1 (fun x hx=>.inl hx))
 obtain⟨d1c,_,_,_,n10,n11,nf1,_,_⟩:=pb1.lay (n:=n) (by rw [LEN1.out];omega)
 have PB1:=Qb pb1
 have hg1:g<w1.heap.size:=by omega
 have hl1:gl<w1.heap.size:=by omega
 have hg1a:g<w1.heap.size+1:=by omega
 have hl1a:gl<w1.heap.size+1:=by omega
 have hne1:¬gl=w1.heap.size:=by omega
 clear pb1 hD1 c1 s1
 go_wp2_with fail
 refine bodyPost_ret (v:=.agg #[.int .i64 r1.2.code,.int .i64 (min (2 * r1.2.value) 999),.string r1.2.text,.int .i64 r1.2.want,.int .i64 r1.2.had]) (by simp only [results,Tryz.results180];go_simp) rfl ?_
 exact⟨T1,rfl,(PB1.out).keep (T:=[w.heap.size+1+1+1]) C6 (by have:=al0.out g (by simp);simp;omega) (fun x hx=>by have:=al1.out x (by simp [hx]);simp;omega) (fun x hx=>by have:=al1.out x (by simp at hx ⊢;simp [hx]);simp;omega),hT1.out,(H9 D1.out)⟩
theorem zI (n:Nat) (IH:Gq n) (p:Qe) (key:ByteArray) (value:Int) (text:ByteArray) (g B:Nat) (S3 S5:List Nat) (w:World) (h:Zf w g p S3 S5) (hok:Zr (n+1) p ⟨QQ,key,value,text⟩) (ht:text.size<=1048575) (hk:key.size<=1048576) (hE:YO B w) (hB:B<=w.heap.size) (hS:∀y∈g::(S3++S5),B<=y) (e:(Zh p n).name=XU) (okx:Zr n p ⟨QQ,key,value,text⟩) (hc:¬(XG n p ⟨QQ,key,value,text⟩).2.code=0):
  Calls Tryz.prog 180 #[.pointer (some ⟨g,0,none⟩),.int .i64 ((n+1:Nat):Int),.agg #[.string QQ,.string key,.int .i64 value,.string text]] w (Kp g (XG n p ⟨QQ,key,value,text⟩) S3 S5 w):=by
 have hb:=And.intro ht (And.intro hk (And.intro IH (And.intro hE (And.intro hB hS))))
 have hnL:n<p.layers.length:=hok.le
 obtain⟨gl,S5',rfl⟩:=h.head (by omega)
 obtain⟨c5,q5,hLc,hcm,q0,q1,qf,hgl,hggl⟩:=h.lay hnL
 unfold maxLen at hcm
 rw [e] at q0
 have hg:=h.lt
 have l3:=Qb h.lt3
 have al0:Hid (∀x,x∈g::(S3++(gl::S5'))->x<w.heap.size/\B<=x):=Qb (fun x hx=>⟨by
  rcases C7.1 hx with rfl|hx2
  ·exact hg
  ·rcases F4.1 hx2 with hx3|hx3
   ·exact h.lt3 x hx3
   ·exact h.lt5 x hx3,hS x hx⟩)
 obtain⟨u0,u1,u2,u3,u4,u5⟩:=Qa3
 obtain⟨t0,t1,t2,t3,t4,t5,t6,t7,t8⟩:=xW
 have hnL3:p.layers.length<=3:=hok.part.2.1
 obtain⟨L,hL⟩:∃L,L=p.layers.length:=⟨_,rfl⟩
 have HL:=Qb hL
 rw [<-hL] at q5 hLc hnL hnL3
 clear hL
 have i0:(0:Int)<=(n:Int):=by omega
 have i1:(n:Int)<(L:Int):=by omega
 have i2:(L:Int)<=9223372036854775807:=by omega
 have i3:IntKind.i64.wrap (n:Int)=(n:Int):=Zd (by omega) (by omega)
 have i4:((n:Int)+1==0)=false:=by simp;omega
 have g0:g<w.heap.size+1:=by omega
 have g1:g<w.heap.size+1+1:=by omega
 have g2:g<w.heap.size+1+1+1:=by omega
 have g3:g<w.heap.size+1+1+1+1:=by omega
 have k0:gl<w.heap.size+1:=by omega
 have k1:gl<w.heap.size+1+1:=by omega
 have k2:gl<w.heap.size+1+1+1:=by omega
 have k3:gl<w.heap.size+1+1+1+1:=by omega
 have hmf:∀(fn:Fn) (first cap:Array Value) (w:World),(Instr.makeFunc fn first cap).run Tryz.prog w= .ok (.func fn first cap) w:=fun _ _ _ _=>rfl
 have hnum:ZK (Zh p n).count:=by
  obtain⟨_,_,_,hx,_⟩:=hok.part.2.2 n (by have:=HL.out;omega)
  rw [ZJ (by have:=HL.out;omega)]
  exact hx
 obtain⟨r1,hr1⟩:∃r,r=XG n p ⟨QQ,key,value,text⟩:=⟨_,rfl⟩
 have DO1:=Qb (fun W S3 (hW:Zf W g p S3 (gl::S5')) (hE:YO B W) (hB:B<=W.heap.size) (hS:∀y∈g::(S3++(gl::S5')),B<=y)=>IH p ⟨QQ,key,value,text⟩ g B S3 _ W hW okx (by first|exact ht|decide|(show(0:Nat)<=1048575;decide)) (by first|exact hk|decide|(show(0:Nat)<=1048576;decide)) hE hB hS)
 rw [<-hr1] at DO1
 have OK1:=(show Qn r1.1/\YV n p r1.1 from by rw [hr1];exact XF n _ _ okx)
 have LEN1:=Qb (show r1.1.layers.length=L from by rw [OK1.2.len,HL.out])
 have hc1:(r1.2.code==0)=false:=by rw [hr1];simpa using hc
 rw [<-hr1]
 clear OK1 okx
 have H:=Qb h
 have HN:=Qb hnum
 have E:=Qb e
 have EB:=Qb hE
 have BS:=Qb hB
 clear hr1 hc h hok hnum e hb ht hk IH hE hB hS
 go_enter Tryz.func180,Tryz.ntmps180
 go_wp2_with fail
 go_quiet (fail)
 go_wp2_with fail
 refine(DO1.out _ _ (H.out.kz C6) (EB.out.keep (S:=(g::(S3++(gl::S5')))) C6 (fun x hx=>(al0.out x hx).2) BS.out) (by have:=BS.out;simp;omega) (fun y hy=>by have:=al0.out y hy;have:=BS.out;omega)).mono ?_
 rintro e w1 ⟨T1,rfl,pb1,hD1,c1⟩
 have s1:=c1.size
 have v1:w.heap.size+4<=w1.heap.size:=by(try simp at s1)<;>omega
 obtain⟨-, -,xa1, -, -,xb1, -, -,xc1,yd1,zd1,xd1, -⟩:=c1.low 4 (w.heap.size) (fun x hx=>by have:=al0.out _ hx;(try simp at this)<;>omega)
 have al1:Hid (∀x,x∈g::(T1++(gl::S5'))->(x<w.heap.size/\B<=x)∨(w.heap.size+4<=x/\x<w1.heap.size)):=Qb (fun x hx=>by
  rcases C7.1 hx with rfl|hx2
  ·have:=al0.out x (by simp);omega
  ·rcases F4.1 hx2 with hx3|hx3
   ·have:=pb1.lt3 x hx3
    rcases hD1 x hx3 with h|h
    ·have:=al0.out x (by simp [h]);omega
    ·(try simp at h)<;>omega
   ·have:=al0.out x (by simp at hx3 ⊢;simp [hx3]);omega)
 have hT1:Hid (∀x,x∈T1->x∈S3∨w.heap.size<=x):=Qb (fun x hx=>by rcases hD1 x hx with h|h;(exact .inl h);(exact .inr (by(try simp at h)<;>omega)))
 have D1:Hid (Qc (g::(S3++(gl::S5'))) w w1):=Qb (K6 (S:=(g::(S3++(gl::S5')))) C6 c1 (fun x hx=>.inl hx))
 obtain⟨d1c,_,_,_,n10,n11,nf1,_,_⟩:=pb1.lay (n:=n) (by rw [LEN1.out];omega)
 have PB1:=Qb pb1
 have hg1:g<w1.heap.size:=by omega
 have hl1:gl<w1.heap.size:=by omega
 have hg1a:g<w1.heap.size+1:=by omega
 have hl1a:gl<w1.heap.size+1:=by omega
 have hne1:¬gl=w1.heap.size:=by omega
 clear pb1 hD1 c1 s1
 go_wp2_with fail
 refine bodyPost_ret (v:=.agg #[.int .i64 r1.2.code,.int .i64 r1.2.value,.string r1.2.text,.int .i64 r1.2.want,.int .i64 r1.2.had]) (by simp only [results,Tryz.results180];go_simp) rfl ?_
 exact⟨T1,rfl,(PB1.out).keep (T:=[w.heap.size+1+1+1]) C6 (by have:=al0.out g (by simp);simp;omega) (fun x hx=>by have:=al1.out x (by simp [hx]);simp;omega) (fun x hx=>by have:=al1.out x (by simp at hx ⊢;simp [hx]);simp;omega),hT1.out,(H9 D1.out)⟩
theorem qL (n:Nat) (IH:Gq n) (p:Qe) (key:ByteArray) (value:Int) (text:ByteArray) (g B:Nat) (S3 S5:List Nat) (w:World) (h:Zf w g p S3 S5) (hok:Zr (n+1) p ⟨QV,key,value,text⟩) (ht:text.size<=1048575) (hk:key.size<=1048576) (hE:YO B w) (hB:B<=w.heap.size) (hS:∀y∈g::(S3++S5),B<=y) (e:(Zh p n).name=ZW) (hc:value=0) (ok2:Zr n p (only QR)):
  Calls Tryz.prog 180 #[.pointer (some ⟨g,0,none⟩),.int .i64 ((n+1:Nat):Int),.agg #[.string QV,.string key,.int .i64 value,.string text]] w (Kp g (XG n (YP p n) (only QR)) S3 S5 w):=by
 have hb:=And.intro ht (And.intro hk (And.intro IH (And.intro hE (And.intro hB hS))))
 have hnL:n<p.layers.length:=hok.le
 obtain⟨gl,S5',rfl⟩:=h.head (by omega)
 obtain⟨c5,q5,hLc,hcm,q0,q1,qf,hgl,hggl⟩:=h.lay hnL
 unfold maxLen at hcm
 rw [e] at q0
 have hg:=h.lt
 have l3:=Qb h.lt3
 have al0:Hid (∀x,x∈g::(S3++(gl::S5'))->x<w.heap.size/\B<=x):=Qb (fun x hx=>⟨by
  rcases C7.1 hx with rfl|hx2
  ·exact hg
  ·rcases F4.1 hx2 with hx3|hx3
   ·exact h.lt3 x hx3
   ·exact h.lt5 x hx3,hS x hx⟩)
 obtain⟨u0,u1,u2,u3,u4,u5⟩:=JU
 obtain⟨t0,t1,t2,t3,t4,t5,t6,t7,t8⟩:=xT
 have hnL3:p.layers.length<=3:=hok.part.2.1
 obtain⟨L,hL⟩:∃L,L=p.layers.length:=⟨_,rfl⟩
 have HL:=Qb hL
 rw [<-hL] at q5 hLc hnL hnL3
 clear hL
 have i0:(0:Int)<=(n:Int):=by omega
 have i1:(n:Int)<(L:Int):=by omega
 have i2:(L:Int)<=9223372036854775807:=by omega
 have i3:IntKind.i64.wrap (n:Int)=(n:Int):=Zd (by omega) (by omega)
 have i4:((n:Int)+1==0)=false:=by simp;omega
 have g0:g<w.heap.size+1:=by omega
 have g1:g<w.heap.size+1+1:=by omega
 have g2:g<w.heap.size+1+1+1:=by omega
 have g3:g<w.heap.size+1+1+1+1:=by omega
 have k0:gl<w.heap.size+1:=by omega
 have k1:gl<w.heap.size+1+1:=by omega
 have k2:gl<w.heap.size+1+1+1:=by omega
 have k3:gl<w.heap.size+1+1+1+1:=by omega
 have hmf:∀(fn:Fn) (first cap:Array Value) (w:World),(Instr.makeFunc fn first cap).run Tryz.prog w= .ok (.func fn first cap) w:=fun _ _ _ _=>rfl
 have hnum:ZK (Zh p n).count:=by
  obtain⟨_,_,_,hx,_⟩:=hok.part.2.2 n (by have:=HL.out;omega)
  rw [ZJ (by have:=HL.out;omega)]
  exact hx
 have CU:=Qb (fun W=>ZE (Zh p n).count W hnum)
 have hbs:=UG (p:=p) (n:=n) (by have:=HL.out;omega)
 have hbl:(Zh (YP p n) n).count=qX (Zh p n).count:=by
  rw [ZJ (by rw [hbs.len];have:=HL.out;omega),ZJ (by have:=HL.out;omega)]
  simp only [Kx (show n<p.layers.length by have:=HL.out;omega),T4,if_true]
 subst hc
 have okb:Zr n (YP p n) (only QR):=by
  have hb2:=zU (YV.refl n p) hok.part (by have:=HL.out;omega) (.inr (by rw [ZJ (by have:=HL.out;omega)] at e;exact e))
  exact ok2.to hb2.2 hb2.1
 obtain⟨r1,hr1⟩:∃r,r=XG n (YP p n) (only QR):=⟨_,rfl⟩
 have DO1:=Qb (fun W S3 (hW:Zf W g (YP p n) S3 (gl::S5')) (hE:YO B W) (hB:B<=W.heap.size) (hS:∀y∈g::(S3++(gl::S5')),B<=y) (hp:W.cell? ⟨w.heap.size,0,none⟩=some (.pointer (some ⟨g,0,none⟩))) (hn:W.cell? ⟨w.heap.size+1,0,none⟩=some (.int .i64 ((n:Int)+1)))=>Gl n IH (YP p n) QR g B S3 _ W _ _ hW okb hE hB hS hp hn)
 rw [<-hr1] at DO1
 have OK1:=(show Qn r1.1/\YV n (YP p n) r1.1 from by rw [hr1];exact XF n _ _ okb)
 have LEN1:=Qb (show r1.1.layers.length=L from by rw [OK1.2.len,hbs.len,HL.out])
 rw [<-hr1]
 clear hbs hbl OK1 okb ok2
 have H:=Qb h
 have HN:=Qb hnum
 have E:=Qb e
 have EB:=Qb hE
 have BS:=Qb hB
 clear hr1 h hok hnum e hb ht hk IH hE hB hS
 go_enter Tryz.func180,Tryz.ntmps180
 go_wp2_with fail
 go_quiet (fail)
 go_wp2_with fail
 refine(CU.out _).mono ?_
 rintro e w1c ⟨rfl,hw1c⟩
 subst hw1c
 go_wp2_with fail
 have UPW:∀W,Qc [] w W->Zf (W.setCell ⟨gl,n * 2+1,none⟩ (.int .i64 (qX (Zh p n).count))) g (YP p n) S3 (gl::S5'):=fun W hW=>Zf.up (H.out.kz hW) (by have:=HL.out;omega)
 refine(DO1.out _ _ (?_) (EB.out.keep (S:=(g::(S3++(gl::S5')))) C6 (fun x hx=>(al0.out x hx).2) BS.out) (by have:=BS.out;simp;omega) (fun y hy=>by have:=al0.out y hy;have:=BS.out;omega) (by go_simp) (by go_simp)).mono ?_
 ·refine Zf.keep (T:=[w.heap.size]) (UPW ?_ ?_) ?_ (by have:=al0.out g (by simp);simp;omega) (fun x hx=>by have:=al0.out x (by simp [hx]);simp;omega) (fun x hx=>by have:=al0.out x (by simp at hx ⊢;simp [hx]);simp;omega)
  rotate_left 2
  ·(repeat(first|with_reducible refine i6 ?_|with_reducible refine a7 ?_ _|with_reducible refine U4 ?_ _|(with_reducible refine Q8 ?_ (Or.inl ?_) _;rotate_left;focus (simp;done))|with_reducible exact B0 _ _))
  ·repeat(first|with_reducible exact B0 _ _|with_reducible refine i6 ?_|with_reducible refine a7 ?_ _|with_reducible refine U4 ?_ _|with_reducible refine Q8 ?_ (.inr (by simp<;>omega)) _)
 rintro e w1 ⟨T1,rfl,pb1,hD1,c1⟩
 have s1:=c1.size
 have v1:w.heap.size+4<=w1.heap.size:=by(try simp at s1)<;>omega
 obtain⟨-, -,xa1, -, -,xb1, -, -,xc1,yd1,zd1,xd1, -⟩:=c1.low 4 (w.heap.size) (fun x hx=>by have:=al0.out _ hx;(try simp at this)<;>omega)
 have al1:Hid (∀x,x∈g::(T1++(gl::S5'))->(x<w.heap.size/\B<=x)∨(w.heap.size+4<=x/\x<w1.heap.size)):=Qb (fun x hx=>by
  rcases C7.1 hx with rfl|hx2
  ·have:=al0.out x (by simp);omega
  ·rcases F4.1 hx2 with hx3|hx3
   ·have:=pb1.lt3 x hx3
    rcases hD1 x hx3 with h|h
    ·have:=al0.out x (by simp [h]);omega
    ·(try simp at h)<;>omega
   ·have:=al0.out x (by simp at hx3 ⊢;simp [hx3]);omega)
 have hT1:Hid (∀x,x∈T1->x∈S3∨w.heap.size<=x):=Qb (fun x hx=>by rcases hD1 x hx with h|h;(exact .inl h);(exact .inr (by(try simp at h)<;>omega)))
 have D1:Hid (Qc (g::(S3++(gl::S5'))) w w1):=Qb (K6 (S:=(g::(S3++(gl::S5')))) C6 c1 (fun x hx=>.inl hx))
 obtain⟨d1c,_,_,_,n10,n11,nf1,_,_⟩:=pb1.lay (n:=n) (by rw [LEN1.out];omega)
 have PB1:=Qb pb1
 have hg1:g<w1.heap.size:=by omega
 have hl1:gl<w1.heap.size:=by omega
 have hg1a:g<w1.heap.size+1:=by omega
 have hl1a:gl<w1.heap.size+1:=by omega
 have hne1:¬gl=w1.heap.size:=by omega
 clear pb1 hD1 c1 s1
 go_wp2_with fail
 refine bodyPost_ret (v:=.agg #[.int .i64 r1.2.code,.int .i64 r1.2.value,.string r1.2.text,.int .i64 r1.2.want,.int .i64 r1.2.had]) (by simp only [results,Tryz.results180];go_simp) rfl ?_
 exact⟨T1,rfl,(PB1.out).keep (T:=[w.heap.size+1+1+1]) C6 (by have:=al0.out g (by simp);simp;omega) (fun x hx=>by have:=al1.out x (by simp [hx]);simp;omega) (fun x hx=>by have:=al1.out x (by simp at hx ⊢;simp [hx]);simp;omega),hT1.out,(H9 D1.out)⟩
theorem qJ (n:Nat) (IH:Gq n) (p:Qe) (key:ByteArray) (value:Int) (text:ByteArray) (g B:Nat) (S3 S5:List Nat) (w:World) (h:Zf w g p S3 S5) (hok:Zr (n+1) p ⟨QV,key,value,text⟩) (ht:text.size<=1048575) (hk:key.size<=1048576) (hE:YO B w) (hB:B<=w.heap.size) (hS:∀y∈g::(S3++S5),B<=y) (e:(Zh p n).name=ZW) (hc:value=1) (ok2:Zr n p (only Qw)):
  Calls Tryz.prog 180 #[.pointer (some ⟨g,0,none⟩),.int .i64 ((n+1:Nat):Int),.agg #[.string QV,.string key,.int .i64 value,.string text]] w (Kp g (XG n (YP p n) (only Qw)) S3 S5 w):=by
 have hb:=And.intro ht (And.intro hk (And.intro IH (And.intro hE (And.intro hB hS))))
 have hnL:n<p.layers.length:=hok.le
 obtain⟨gl,S5',rfl⟩:=h.head (by omega)
 obtain⟨c5,q5,hLc,hcm,q0,q1,qf,hgl,hggl⟩:=h.lay hnL
 unfold maxLen at hcm
 rw [e] at q0
 have hg:=h.lt
 have l3:=Qb h.lt3
 have al0:Hid (∀x,x∈g::(S3++(gl::S5'))->x<w.heap.size/\B<=x):=Qb (fun x hx=>⟨by
  rcases C7.1 hx with rfl|hx2
  ·exact hg
  ·rcases F4.1 hx2 with hx3|hx3
   ·exact h.lt3 x hx3
   ·exact h.lt5 x hx3,hS x hx⟩)
 obtain⟨u0,u1,u2,u3,u4,u5⟩:=JU
 obtain⟨t0,t1,t2,t3,t4,t5,t6,t7,t8⟩:=xT
 have hnL3:p.layers.length<=3:=hok.part.2.1
 obtain⟨L,hL⟩:∃L,L=p.layers.length:=⟨_,rfl⟩
 have HL:=Qb hL
 rw [<-hL] at q5 hLc hnL hnL3
 clear hL
 have i0:(0:Int)<=(n:Int):=by omega
 have i1:(n:Int)<(L:Int):=by omega
 have i2:(L:Int)<=9223372036854775807:=by omega
 have i3:IntKind.i64.wrap (n:Int)=(n:Int):=Zd (by omega) (by omega)
 have i4:((n:Int)+1==0)=false:=by simp;omega
 have g0:g<w.heap.size+1:=by omega
 have g1:g<w.heap.size+1+1:=by omega
 have g2:g<w.heap.size+1+1+1:=by omega
 have g3:g<w.heap.size+1+1+1+1:=by omega
 have k0:gl<w.heap.size+1:=by omega
 have k1:gl<w.heap.size+1+1:=by omega
 have k2:gl<w.heap.size+1+1+1:=by omega
 have k3:gl<w.heap.size+1+1+1+1:=by omega
 have hmf:∀(fn:Fn) (first cap:Array Value) (w:World),(Instr.makeFunc fn first cap).run Tryz.prog w= .ok (.func fn first cap) w:=fun _ _ _ _=>rfl
 have hnum:ZK (Zh p n).count:=by
  obtain⟨_,_,_,hx,_⟩:=hok.part.2.2 n (by have:=HL.out;omega)
  rw [ZJ (by have:=HL.out;omega)]
  exact hx
 have CU:=Qb (fun W=>ZE (Zh p n).count W hnum)
 have hbs:=UG (p:=p) (n:=n) (by have:=HL.out;omega)
 have hbl:(Zh (YP p n) n).count=qX (Zh p n).count:=by
  rw [ZJ (by rw [hbs.len];have:=HL.out;omega),ZJ (by have:=HL.out;omega)]
  simp only [Kx (show n<p.layers.length by have:=HL.out;omega),T4,if_true]
 subst hc
 have okb:Zr n (YP p n) (only Qw):=by
  have hb2:=zU (YV.refl n p) hok.part (by have:=HL.out;omega) (.inr (by rw [ZJ (by have:=HL.out;omega)] at e;exact e))
  exact ok2.to hb2.2 hb2.1
 obtain⟨r1,hr1⟩:∃r,r=XG n (YP p n) (only Qw):=⟨_,rfl⟩
 have DO1:=Qb (fun W S3 (hW:Zf W g (YP p n) S3 (gl::S5')) (hE:YO B W) (hB:B<=W.heap.size) (hS:∀y∈g::(S3++(gl::S5')),B<=y) (hp:W.cell? ⟨w.heap.size,0,none⟩=some (.pointer (some ⟨g,0,none⟩))) (hn:W.cell? ⟨w.heap.size+1,0,none⟩=some (.int .i64 ((n:Int)+1)))=>Gl n IH (YP p n) Qw g B S3 _ W _ _ hW okb hE hB hS hp hn)
 rw [<-hr1] at DO1
 have OK1:=(show Qn r1.1/\YV n (YP p n) r1.1 from by rw [hr1];exact XF n _ _ okb)
 have LEN1:=Qb (show r1.1.layers.length=L from by rw [OK1.2.len,hbs.len,HL.out])
 rw [<-hr1]
 clear hbs hbl OK1 okb ok2
 have H:=Qb h
 have HN:=Qb hnum
 have E:=Qb e
 have EB:=Qb hE
 have BS:=Qb hB
 clear hr1 h hok hnum e hb ht hk IH hE hB hS
 go_enter Tryz.func180,Tryz.ntmps180
 go_wp2_with fail
 go_quiet (fail)
 go_wp2_with fail
 refine(CU.out _).mono ?_
 rintro e w1c ⟨rfl,hw1c⟩
 subst hw1c
 go_wp2_with fail
 have UPW:∀W,Qc [] w W->Zf (W.setCell ⟨gl,n * 2+1,none⟩ (.int .i64 (qX (Zh p n).count))) g (YP p n) S3 (gl::S5'):=fun W hW=>Zf.up (H.out.kz hW) (by have:=HL.out;omega)
 refine(DO1.out _ _ (?_) (EB.out.keep (S:=(g::(S3++(gl::S5')))) C6 (fun x hx=>(al0.out x hx).2) BS.out) (by have:=BS.out;simp;omega) (fun y hy=>by have:=al0.out y hy;have:=BS.out;omega) (by go_simp) (by go_simp)).mono ?_
 ·refine Zf.keep (T:=[w.heap.size]) (UPW ?_ ?_) ?_ (by have:=al0.out g (by simp);simp;omega) (fun x hx=>by have:=al0.out x (by simp [hx]);simp;omega) (fun x hx=>by have:=al0.out x (by simp at hx ⊢;simp [hx]);simp;omega)
  rotate_left 2
  ·(repeat(first|with_reducible refine i6 ?_|with_reducible refine a7 ?_ _|with_reducible refine U4 ?_ _|(with_reducible refine Q8 ?_ (Or.inl ?_) _;rotate_left;focus (simp;done))|with_reducible exact B0 _ _))
  ·repeat(first|with_reducible exact B0 _ _|with_reducible refine i6 ?_|with_reducible refine a7 ?_ _|with_reducible refine U4 ?_ _|with_reducible refine Q8 ?_ (.inr (by simp<;>omega)) _)
 rintro e w1 ⟨T1,rfl,pb1,hD1,c1⟩
 have s1:=c1.size
 have v1:w.heap.size+4<=w1.heap.size:=by(try simp at s1)<;>omega
 obtain⟨-, -,xa1, -, -,xb1, -, -,xc1,yd1,zd1,xd1, -⟩:=c1.low 4 (w.heap.size) (fun x hx=>by have:=al0.out _ hx;(try simp at this)<;>omega)
 have al1:Hid (∀x,x∈g::(T1++(gl::S5'))->(x<w.heap.size/\B<=x)∨(w.heap.size+4<=x/\x<w1.heap.size)):=Qb (fun x hx=>by
  rcases C7.1 hx with rfl|hx2
  ·have:=al0.out x (by simp);omega
  ·rcases F4.1 hx2 with hx3|hx3
   ·have:=pb1.lt3 x hx3
    rcases hD1 x hx3 with h|h
    ·have:=al0.out x (by simp [h]);omega
    ·(try simp at h)<;>omega
   ·have:=al0.out x (by simp at hx3 ⊢;simp [hx3]);omega)
 have hT1:Hid (∀x,x∈T1->x∈S3∨w.heap.size<=x):=Qb (fun x hx=>by rcases hD1 x hx with h|h;(exact .inl h);(exact .inr (by(try simp at h)<;>omega)))
 have D1:Hid (Qc (g::(S3++(gl::S5'))) w w1):=Qb (K6 (S:=(g::(S3++(gl::S5')))) C6 c1 (fun x hx=>.inl hx))
 obtain⟨d1c,_,_,_,n10,n11,nf1,_,_⟩:=pb1.lay (n:=n) (by rw [LEN1.out];omega)
 have PB1:=Qb pb1
 have hg1:g<w1.heap.size:=by omega
 have hl1:gl<w1.heap.size:=by omega
 have hg1a:g<w1.heap.size+1:=by omega
 have hl1a:gl<w1.heap.size+1:=by omega
 have hne1:¬gl=w1.heap.size:=by omega
 clear pb1 hD1 c1 s1
 go_wp2_with fail
 refine bodyPost_ret (v:=.agg #[.int .i64 r1.2.code,.int .i64 r1.2.value,.string r1.2.text,.int .i64 r1.2.want,.int .i64 r1.2.had]) (by simp only [results,Tryz.results180];go_simp) rfl ?_
 exact⟨T1,rfl,(PB1.out).keep (T:=[w.heap.size+1+1+1]) C6 (by have:=al0.out g (by simp);simp;omega) (fun x hx=>by have:=al1.out x (by simp [hx]);simp;omega) (fun x hx=>by have:=al1.out x (by simp at hx ⊢;simp [hx]);simp;omega),hT1.out,(H9 D1.out)⟩
theorem qC (n:Nat) (IH:Gq n) (p:Qe) (key:ByteArray) (value:Int) (text:ByteArray) (g B:Nat) (S3 S5:List Nat) (w:World) (h:Zf w g p S3 S5) (hok:Zr (n+1) p ⟨QV,key,value,text⟩) (ht:text.size<=1048575) (hk:key.size<=1048576) (hE:YO B w) (hB:B<=w.heap.size) (hS:∀y∈g::(S3++S5),B<=y) (e:(Zh p n).name=ZW) (hc:value>1):
  Calls Tryz.prog 180 #[.pointer (some ⟨g,0,none⟩),.int .i64 ((n+1:Nat):Int),.agg #[.string QV,.string key,.int .i64 value,.string text]] w (Kp g (YP p n,Qf 0 (Zh (YP p n) n).count 0 0) S3 S5 w):=by
 have hb:=And.intro ht (And.intro hk (And.intro IH (And.intro hE (And.intro hB hS))))
 have hnL:n<p.layers.length:=hok.le
 obtain⟨gl,S5',rfl⟩:=h.head (by omega)
 obtain⟨c5,q5,hLc,hcm,q0,q1,qf,hgl,hggl⟩:=h.lay hnL
 unfold maxLen at hcm
 rw [e] at q0
 have hg:=h.lt
 have l3:=Qb h.lt3
 have al0:Hid (∀x,x∈g::(S3++(gl::S5'))->x<w.heap.size/\B<=x):=Qb (fun x hx=>⟨by
  rcases C7.1 hx with rfl|hx2
  ·exact hg
  ·rcases F4.1 hx2 with hx3|hx3
   ·exact h.lt3 x hx3
   ·exact h.lt5 x hx3,hS x hx⟩)
 obtain⟨u0,u1,u2,u3,u4,u5⟩:=JU
 obtain⟨t0,t1,t2,t3,t4,t5,t6,t7,t8⟩:=xT
 have hnL3:p.layers.length<=3:=hok.part.2.1
 obtain⟨L,hL⟩:∃L,L=p.layers.length:=⟨_,rfl⟩
 have HL:=Qb hL
 rw [<-hL] at q5 hLc hnL hnL3
 clear hL
 have i0:(0:Int)<=(n:Int):=by omega
 have i1:(n:Int)<(L:Int):=by omega
 have i2:(L:Int)<=9223372036854775807:=by omega
 have i3:IntKind.i64.wrap (n:Int)=(n:Int):=Zd (by omega) (by omega)
 have i4:((n:Int)+1==0)=false:=by simp;omega
 have g0:g<w.heap.size+1:=by omega
 have g1:g<w.heap.size+1+1:=by omega
 have g2:g<w.heap.size+1+1+1:=by omega
 have g3:g<w.heap.size+1+1+1+1:=by omega
 have k0:gl<w.heap.size+1:=by omega
 have k1:gl<w.heap.size+1+1:=by omega
 have k2:gl<w.heap.size+1+1+1:=by omega
 have k3:gl<w.heap.size+1+1+1+1:=by omega
 have hmf:∀(fn:Fn) (first cap:Array Value) (w:World),(Instr.makeFunc fn first cap).run Tryz.prog w= .ok (.func fn first cap) w:=fun _ _ _ _=>rfl
 have hnum:ZK (Zh p n).count:=by
  obtain⟨_,_,_,hx,_⟩:=hok.part.2.2 n (by have:=HL.out;omega)
  rw [ZJ (by have:=HL.out;omega)]
  exact hx
 have CU:=Qb (fun W=>ZE (Zh p n).count W hnum)
 have hbs:=UG (p:=p) (n:=n) (by have:=HL.out;omega)
 have hbl:(Zh (YP p n) n).count=qX (Zh p n).count:=by
  rw [ZJ (by rw [hbs.len];have:=HL.out;omega),ZJ (by have:=HL.out;omega)]
  simp only [Kx (show n<p.layers.length by have:=HL.out;omega),T4,if_true]
 have hv0:(value==0)=false:=by simp;omega
 have hv1:(value==1)=false:=by simp;omega
 have HB:=Qb hbl
 clear hbs hbl
 have H:=Qb h
 have HN:=Qb hnum
 have E:=Qb e
 have EB:=Qb hE
 have BS:=Qb hB
 clear hc h hok hnum e hb ht hk IH hE hB hS
 go_enter Tryz.func180,Tryz.ntmps180
 go_wp2_with fail
 go_quiet (fail)
 go_wp2_with fail
 refine(CU.out _).mono ?_
 rintro e w1c ⟨rfl,hw1c⟩
 subst hw1c
 go_wp2_with fail
 have UPW:∀W,Qc [] w W->Zf (W.setCell ⟨gl,n * 2+1,none⟩ (.int .i64 (qX (Zh p n).count))) g (YP p n) S3 (gl::S5'):=fun W hW=>Zf.up (H.out.kz hW) (by have:=HL.out;omega)
 refine bodyPost_ret (v:=.agg #[.int .i64 0,.int .i64 (qX (Zh p n).count),.string ⟨#[]⟩,.int .i64 0,.int .i64 0]) (by simp only [results,Tryz.results180];go_simp) rfl ?_
 refine⟨S3,by simp only [HB.out];rfl,?_,fun x hx=>.inl hx,C6⟩
 refine Zf.keep (T:=[w.heap.size+1+1+1]) (UPW ?_ ?_) ?_ (by have:=al0.out g (by simp);simp;omega) (fun x hx=>by have:=al0.out x (by simp [hx]);simp;omega) (fun x hx=>by have:=al0.out x (by simp at hx ⊢;simp [hx]);simp;omega)
 rotate_left 2
 ·(repeat(first|with_reducible refine i6 ?_|with_reducible refine a7 ?_ _|with_reducible refine U4 ?_ _|(with_reducible refine Q8 ?_ (Or.inl ?_) _;rotate_left;focus (simp;done))|with_reducible exact B0 _ _))
 ·repeat(first|with_reducible exact B0 _ _|with_reducible refine i6 ?_|with_reducible refine a7 ?_ _|with_reducible refine U4 ?_ _|with_reducible refine Q8 ?_ (.inr (by simp<;>omega)) _)
theorem kH:Gq 0:=by
 intro p x g B S3 S5 w h hok ht hk hE hB hS
 have hg:=h.lt
 have DC:=Qb (fun W (hW:Qc [] w W)=>QeY g p x S3 S5 W (h.kz hW) hok.part.1 hok.call ht (hE.keep hW (by simp) hB).env)
 have lt0:Hid (∀y,y∈g::(S3++S5)->y<w.heap.size):=Qb (fun y hy=>by
  rcases C7.1 hy with rfl|hy
  ·exact h.lt
  ·rcases F4.1 hy with hy|hy
   ·exact h.lt3 y hy
   ·exact h.lt5 y hy)
 have lt1:Hid (∀y,y∈g::S3->y<w.heap.size):=Qb (fun y hy=>lt0.out y (by rcases C7.1 hy with rfl|h;(simp);(simp [h])))
 rw [XG]
 obtain⟨r,hr⟩:∃r,r=XJ p.core x:=⟨_,rfl⟩
 rw [<-hr] at DC ⊢
 clear h hok ht hk hE hB hS hr
 go_enter Tryz.func180,Tryz.ntmps180
 go_wp2_with fail
 go_region_law (first|(go_simp;go_at_call 203;(with_reducible refine(DC.out _ C6).mono ?_);rintro e w1 ⟨T1,he,pb1,c1,hD1⟩;unfold Zq at he;subst he;(have y1:=c1.ce (w.heap.size+1+1+1) (hn:=fun hx=>by have:=lt1.out _ hx;(try simp at this)<;>omega));(have z1:=c1.fe (w.heap.size+1+1+1) (hn:=fun hx=>by have:=lt1.out _ hx;(try simp at this)<;>omega));(have x1:w.heap.size+1+1+1<w1.heap.size:=by have:=c1.size;simp at this;omega);(have HH:=Qb (And.intro pb1 (And.intro c1 hD1)));clear pb1 c1 hD1;simp only [])|fail)
 all_goals
  go_wp2_with fail
  obtain⟨pb1,c1,hD1⟩:=HH.out
  have hT:Hid (∀x,x∈T1->x∈S3∨w.heap.size+4<=x):=Qb (fun x hx=>(hD1 x hx).imp id (fun h=>by(try simp at h)<;>omega))
  have D1:Hid (Qc (g::(S3++S5)) w w1):=Qb (K6 (S:=g::(S3++S5)) C6 c1 (fun x hx=>.inl (by simp at hx ⊢;rcases hx with h|h<;>simp [h])))
  refine bodyPost_ret (v:=.agg #[.int .i64 r.2.code,.int .i64 r.2.value,.string r.2.text,.int .i64 r.2.want,.int .i64 r.2.had]) (by simp only [results,Tryz.results180];go_simp) rfl ?_
  exact⟨T1,rfl,pb1.keep (T:=[w.heap.size+1+1+1]) C6 (by have:=lt0.out g (by simp);simp;omega) (fun x hx=>by
   rcases hT.out x hx with h|h
   ·have:=lt0.out x (by simp [h]);simp;omega
   ·simp;omega) (fun x hx=>by have:=lt0.out x (by simp [hx]);simp;omega),fun x hx=>(hT.out x hx).imp id (fun h=>by omega),(H9 D1.out)⟩
theorem jh (n:Nat) (IH:Gq n):Gq (n+1):=by
 intro p x g B S3 S5 w h hok ht hk hE hB hS
 have hn:n<p.layers.length:=hok.le
 have hl:=ZJ hn
 obtain⟨m,key,value,text⟩:=x
 cases kR hok hn with
 |countTell e m=>
  rw [<-hl] at e;simp only at m;subst m
  rw [KH e rfl]
  exact zj n IH p key value text g B S3 S5 w h hok ht hk hE hB hS e
 |countKeep e m h1=>
  rw [<-hl] at e
  rcases m with m|m<;>(simp only at m;subst m)
  ·rw [KJ e (.inl rfl)];exact Kb n IH p Zz yk key value text g B S3 S5 w h hok ht hk hE hB hS e h1
  ·rw [KJ e (.inr rfl)];exact Kb n IH p Zu yh key value text g B S3 S5 w h hok ht hk hE hB hS e h1
 | lazyKeep e m h1 h2=>
  rw [<-hl] at e
  rcases m with m|m<;>(simp only at m;subst m)
  ·rw [Jk e (.inl rfl)]
   by_cases hc:(XG n p ⟨Zz,key,value,text⟩).2.code=2
   ·rw [if_pos hc];exact Ke n IH p Zz yk key value text g B S3 S5 w h hok ht hk hE hB hS e h1 h2 hc
   ·rw [if_neg hc];exact KU n IH p Zz yk key value text g B S3 S5 w h hok ht hk hE hB hS e h1 h2 hc
  ·rw [Jk e (.inr rfl)]
   by_cases hc:(XG n p ⟨Zu,key,value,text⟩).2.code=2
   ·rw [if_pos hc];exact Ke n IH p Zu yh key value text g B S3 S5 w h hok ht hk hE hB hS e h1 h2 hc
   ·rw [if_neg hc];exact KU n IH p Zu yh key value text g B S3 S5 w h hok ht hk hE hB hS e h1 h2 hc
 |readsPut e m=>
  rw [<-hl] at e;simp only at m;subst m
  rw [zg e rfl]
  exact yI n IH p key value text g B S3 S5 w h hok ht hk hE hB hS e
 | hearsHear e m h1 h2=>
  rw [<-hl] at e;simp only at m;subst m
  have hv:0<=value:=by
   rcases hok.call.2.2 with h|h|h|h
   ·exact absurd h.1 (by simp only [xS,not_false_eq_true])
   ·exact absurd h.1 (by simp only [xS,not_false_eq_true])
   ·exact h.2.2.1
   ·exact absurd rfl h.2.2.1
  rw [qn e rfl]
  by_cases h0:value=0
  ·rw [if_pos h0];exact qL n IH p key value text g B S3 S5 w h hok ht hk hE hB hS e h0 h1
  by_cases h3:value=1
  ·rw [if_neg h0,if_pos h3];exact qJ n IH p key value text g B S3 S5 w h hok ht hk hE hB hS e h3 h2
  ·rw [if_neg h0,if_neg h3];exact qC n IH p key value text g B S3 S5 w h hok ht hk hE hB hS e (by omega)
 |healsHeal e m h1 h2=>
  rw [<-hl] at e;simp only at m;subst m
  rw [qr e rfl]
  exact zC n IH p key value text g B S3 S5 w h hok ht hk hE hB hS e h1 h2
 |twiceTell e m h1=>
  rw [<-hl] at e;simp only at m;subst m
  rw [KG e]
  by_cases hc:(XG n p ⟨QQ,key,value,text⟩).2.code=0
  ·rw [if_pos hc];exact qN n IH p key value text g B S3 S5 w h hok ht hk hE hB hS e h1 hc (Qaq n p _ h1 rfl)
  ·rw [if_neg hc];exact zI n IH p key value text g B S3 S5 w h hok ht hk hE hB hS e h1 hc
 | start e m h1=>
  rw [<-hl] at e
  rw [uP e m]
  rcases e with e|e|e|e
  ·rcases m with m|m<;>(simp only at m;subst m)
   ·exact Xm n IH p Qw WD (.inl ⟨Qcx,zN⟩) key value text g B S3 S5 w h hok ht hk hE hB hS e h1
   ·exact Xm n IH p QR WD (.inl ⟨Qcx,xV⟩) key value text g B S3 S5 w h hok ht hk hE hB hS e h1
  ·rcases m with m|m<;>(simp only at m;subst m)
   ·exact Xm n IH p Qw YA (.inr (.inr (.inr (.inl ⟨xN,zN⟩)))) key value text g B S3 S5 w h hok ht hk hE hB hS e h1
   ·exact Xm n IH p QR YA (.inr (.inr (.inr (.inl ⟨xN,xV⟩)))) key value text g B S3 S5 w h hok ht hk hE hB hS e h1
  ·rcases m with m|m<;>(simp only at m;subst m)
   ·exact Xm n IH p Qw ZW (.inr (.inr (.inr (.inr (.inl ⟨JU,zN⟩))))) key value text g B S3 S5 w h hok ht hk hE hB hS e h1
   ·exact Xm n IH p QR ZW (.inr (.inr (.inr (.inr (.inl ⟨JU,xV⟩))))) key value text g B S3 S5 w h hok ht hk hE hB hS e h1
  ·rcases m with m|m<;>(simp only at m;subst m)
   ·exact Xm n IH p Qw Xs (.inr (.inr (.inr (.inr (.inr (.inl ⟨vP,zN⟩)))))) key value text g B S3 S5 w h hok ht hk hE hB hS e h1
   ·exact Xm n IH p QR Xs (.inr (.inr (.inr (.inr (.inr (.inl ⟨vP,xV⟩)))))) key value text g B S3 S5 w h hok ht hk hE hB hS e h1
 |keep e m h1=>
  rw [<-hl] at e
  rw [jG e]
  rcases m with m|m<;>(simp only at m;subst m)
  ·exact Xm n IH p Zz Yc (.inr (.inl ⟨QaI,Qbg⟩)) key value text g B S3 S5 w h hok ht hk hE hB hS e h1
  ·exact Xm n IH p Zu Yc (.inr (.inr (.inl ⟨QaI,QeT⟩))) key value text g B S3 S5 w h hok ht hk hE hB hS e h1
 |readsGet e m h1=>
  rw [<-hl] at e;simp only at m;subst m
  rw [zk e rfl]
  exact Xm n IH p Zz XD (.inr (.inr (.inr (.inr (.inr (.inr ⟨Qat,Qbg⟩)))))) key value text g B S3 S5 w h hok ht hk hE hB hS e h1
theorem yS:∀n:Nat,Gq n
 |0=>kH
 |n+1=>jh n (yS n)
end Go.Proofs.YtfjhdnjlhjimeaaGreatDoor
