/- A part in a box of its own. Conditions: as stated. -/
import Derived.Test.YtfjhdnjlhjimeaaGreatDoorPlains
namespace Go.Proofs.YtfjhdnjlhjimeaaGreatDoor
open Go.RowKit

structure Zf (w:World) (g:Nat) (p:Qe) (S3 S5:List Nat):Prop where
 ex:∃A3 c3 A5 c5,w.cell? ⟨g,0,none⟩=some (.string p.core.kind)/\w.cell? ⟨g,1,none⟩=some (.bool p.core.on)/\w.cell? ⟨g,2,none⟩=some (.bool p.core.broken)/\
  w.cell? ⟨g,3,none⟩=some (.slice A3 p.core.cells.length c3)/\w.cell? ⟨g,4,none⟩=some (.int .i64 p.core.count)/\w.cell? ⟨g,5,none⟩=some (.slice A5 p.layers.length c5)/\
  Yp w (cells p.core.cells) (.slice A3 p.core.cells.length c3) S3/\Yp w (layers p.layers) (.slice A5 p.layers.length c5) S5
 fr:∀o:Nat,o<6->w.frozen? ⟨g,o,none⟩=false
 g3:g∉S3
 g5:g∉S5
 ds:∀x,x∈S3->x∉S5
theorem Zf.lt {w:World} {g:Nat} {p:Qe} {S3 S5:List Nat} (h:Zf w g p S3 S5):g<w.heap.size:=by
 obtain⟨_,_,_,_,q,_⟩:=h.ex
 exact Qk q
theorem Zf.lt3 {w:World} {g:Nat} {p:Qe} {S3 S5:List Nat} (h:Zf w g p S3 S5):∀x,x∈S3->x<w.heap.size:=by
 obtain⟨_,_,_,_,_,_,_,_,_,_,h3,_⟩:=h.ex
 exact h3.lt
theorem Zf.lt5 {w:World} {g:Nat} {p:Qe} {S3 S5:List Nat} (h:Zf w g p S3 S5):∀x,x∈S5->x<w.heap.size:=by
 obtain⟨_,_,_,_,_,_,_,_,_,_,_,h5⟩:=h.ex
 exact h5.lt
theorem Zf.keep {w w':World} {g:Nat} {p:Qe} {S3 S5 T:List Nat} (h:Zf w g p S3 S5) (hc:Qc T w w') (hg:g∉T) (h3:∀x,x∈S3->x∉T) (h5:∀x,x∈S5->x∉T):Zf w' g p S3 S5:=by
 have hl:=h.lt
 obtain⟨A3,c3,A5,c5,q0,q1,q2,q3,q4,q5,k3,k5⟩:=h.ex
 have e:=fun o=>hc.cell (p:=⟨g,o,none⟩) hl hg
 exact⟨⟨A3,c3,A5,c5,(e 0).trans q0,(e 1).trans q1,(e 2).trans q2,(e 3).trans q3,(e 4).trans q4,(e 5).trans q5,k3.keep hc h3,k5.keep hc h5⟩,fun o ho=>(hc.frozen (p:=⟨g,o,none⟩) hl hg).trans (h.fr o ho),h.g3,h.g5,h.ds⟩
theorem Zf.kz {w w':World} {g:Nat} {p:Qe} {S3 S5:List Nat} (h:Zf w g p S3 S5) (hc:Qc [] w w'):Zf w' g p S3 S5:=h.keep hc (by simp) (by simp) (by simp)
theorem Zf.wr {w w':World} {g:Nat} {p:Qe} {S3 S5:List Nat} (h:Zf w g p S3 S5) (hc:Qc [g] w w') (c:ZS) (hk:c.kind=p.core.kind) (hcells:c.cells=p.core.cells)
  (q0:w'.cell? ⟨g,0,none⟩=w.cell? ⟨g,0,none⟩) (q1:w'.cell? ⟨g,1,none⟩=some (.bool c.on)) (q2:w'.cell? ⟨g,2,none⟩=some (.bool c.broken)) (q3:w'.cell? ⟨g,3,none⟩=w.cell? ⟨g,3,none⟩) (q4:w'.cell? ⟨g,4,none⟩=some (.int .i64 c.count)) (q5:w'.cell? ⟨g,5,none⟩=w.cell? ⟨g,5,none⟩)
  (hf:∀o,w'.frozen? ⟨g,o,none⟩=w.frozen? ⟨g,o,none⟩):Zf w' g ⟨c,p.layers⟩ S3 S5:=by
 obtain⟨A3,c3,A5,c5,p0,p1,p2,p3,p4,p5,k3,k5⟩:=h.ex
 refine⟨⟨A3,c3,A5,c5,by rw [q0,p0, <-hk],q1,q2,?_,q4,q5.trans p5,?_,k5.keep hc (fun x hx hg=>?_)⟩,fun o ho=>(hf o).trans (h.fr o ho),h.g3,h.g5,h.ds⟩
 ·rw [q3,p3];show _=some (Value.slice A3 c.cells.length c3);rw [hcells]
 ·show Yp w' (cells c.cells) (.slice A3 c.cells.length c3) S3
  rw [hcells]
  exact k3.keep hc (fun x hx hg=>by simp at hg;subst hg;exact h.g3 hx)
 ·simp at hg;subst hg;exact h.g5 hx
def Zq (r:Uw):Value:=.agg #[.int .i64 r.code,.int .i64 r.value,.string r.text,.int .i64 r.want,.int .i64 r.had]
def Xa (g:Nat) (p:Qe) (r:ZS×Uw) (S3 S5:List Nat) (w:World) (e:Ending) (w':World):Prop:=
 ∃S3',e= .returned (Zq r.2)/\Zf w' g ⟨r.1,p.layers⟩ S3' S5/\Qc (g::S3) w w'/\∀x,x∈S3'->x∈S3∨w.heap.size<=x
theorem Xa.wr {w w':World} {g:Nat} {p:Qe} {S3 S5:List Nat} {r:ZS×Uw} {e:Ending} (h:Zf w g p S3 S5) (he:e= .returned (Zq r.2)) (hc:Qc [g] w w') (hk:r.1.kind=p.core.kind) (hcells:r.1.cells=p.core.cells)
  (q0:w'.cell? ⟨g,0,none⟩=w.cell? ⟨g,0,none⟩) (q1:w'.cell? ⟨g,1,none⟩=some (.bool r.1.on)) (q2:w'.cell? ⟨g,2,none⟩=some (.bool r.1.broken)) (q3:w'.cell? ⟨g,3,none⟩=w.cell? ⟨g,3,none⟩) (q4:w'.cell? ⟨g,4,none⟩=some (.int .i64 r.1.count)) (q5:w'.cell? ⟨g,5,none⟩=w.cell? ⟨g,5,none⟩)
  (hf:∀o,w'.frozen? ⟨g,o,none⟩=w.frozen? ⟨g,o,none⟩):Xa g p r S3 S5 w e w':=
 ⟨S3,he,h.wr hc r.1 hk hcells q0 q1 q2 q3 q4 q5 hf,hc.mono (fun x hx=>.inl (by simp at hx;simp [hx])),fun x hx=>.inl hx⟩
theorem Xa.same {w w':World} {g:Nat} {p:Qe} {S3 S5:List Nat} {r:ZS×Uw} {e:Ending} (h:Zf w g p S3 S5) (hr:r.1=p.core) (he:e= .returned (Zq r.2)) (hc:Qc [] w w'):Xa g p r S3 S5 w e w':=
 ⟨S3,he,by rw [hr];exact h.kz hc,hc.mono (by simp),fun x hx=>.inl hx⟩
theorem Xa.of {w w':World} {g:Nat} {p:Qe} {S3 S5 S3' T:List Nat} {r:ZS×Uw} {e:Ending} {A3:Option Addr} {c3:Nat} (h:Zf w g p S3 S5) (he:e= .returned (Zq r.2)) (hc:Qc T w w') (hT:∀x,x∈T->x=g∨x∈S3)
  (hS:∀x,x∈S3'->x∈S3∨w.heap.size<=x) (hk:r.1.kind=p.core.kind)
  (q0:w'.cell? ⟨g,0,none⟩=w.cell? ⟨g,0,none⟩) (q1:w'.cell? ⟨g,1,none⟩=some (.bool r.1.on)) (q2:w'.cell? ⟨g,2,none⟩=some (.bool r.1.broken)) (q3:w'.cell? ⟨g,3,none⟩=some (.slice A3 r.1.cells.length c3)) (q4:w'.cell? ⟨g,4,none⟩=some (.int .i64 r.1.count)) (q5:w'.cell? ⟨g,5,none⟩=w.cell? ⟨g,5,none⟩)
  (hf:∀o,w'.frozen? ⟨g,o,none⟩=w.frozen? ⟨g,o,none⟩) (h3:Yp w' (cells r.1.cells) (.slice A3 r.1.cells.length c3) S3'):Xa g p r S3 S5 w e w':=by
 have hl:=h.lt
 have l5:=h.lt5
 obtain⟨A3',c3',A5,c5,p0,p1,p2,p3,p4,p5,k3,k5⟩:=h.ex
 refine⟨S3',he,⟨⟨A3,c3,A5,c5,by rw [q0,p0, <-hk],q1,q2,q3,q4,q5.trans p5,h3,k5.keep hc (fun x hx hxT=>?_)⟩,fun o ho=>(hf o).trans (h.fr o ho),fun hg=>?_,h.g5,fun x hx hx5=>?_⟩,hc.mono (fun x hx=>.inl (by rcases hT x hx with rfl|hx<;>simp [*])),hS⟩
 ·rcases hT x hxT with rfl|h3
  ·exact h.g5 hx
  ·exact h.ds x h3 hx
 ·rcases hS g hg with h1|h1
  ·exact h.g3 h1
  ·omega
 ·rcases hS x hx with h1|h1
  ·exact h.ds x h1 hx5
  ·have:=l5 x hx5;omega
theorem GL {α:Type} {F:α->List QD} {c:Nat} (hF:∀a,(F a).length=c):∀(l:List α) (i j:Nat) (hi:i<l.length) (_hj:j<c) (a:α) (d:QD),F a=(F l[i]).set j d->(l.flatMap F).set (i * c+j) d=(l.set i a).flatMap F
 | [],i,j,hi,_,_,_,_=>by simp at hi
 |x::l,0,j,hi,hj,a,d,h=>by
  simp only [S6] at h
  rw [J6,C8,J6,Nat.zero_mul,J3,List.set_append_left _ _ (by rw [hF];exact hj),h]
 |x::l,i+1,j,hi,hj,a,d,h=>by
  simp only [List.getElem_cons_succ] at h
  rw [J6,C9,J6,List.set_append_right _ _ (by rw [hF,Y5];omega),hF,show(i+1) * c+j-c=i * c+j by rw [Y5];omega,GL hF l i j (by simpa using hi) hj a d h]
theorem Yp.cellVal {w:World} {cap b:Nat} {S:List Nat} {l:List QC} {i:Nat} (h:Yp w (cells l) (.slice (some ⟨b,0,none⟩) l.length cap) S) (hi:i<l.length) (v:Int):
  Yp (w.setCell ⟨b,i * 2+1,none⟩ (.int .i64 v)) (cells (l.set i ⟨l[i].key,v⟩)) (.slice (some ⟨b,0,none⟩) l.length cap) S/\w.frozen? ⟨b,i * 2+1,none⟩=false/\b∈S:=by
 have h0:Yp w (.s l.length (l.flatMap Vu)) (.slice (some ⟨b,0,none⟩) l.length cap) S:=h
 obtain⟨_,h2,h3,h4⟩:=h0.set_ (j:=i * 2+1) (x:=.int .i64 l[i].value) (by rw [Vk yE l i 1 hi (by omega)];rfl) (.int .i64 v)
 refine⟨?_,h2,h3⟩
 rw [GL yE l i 1 hi (by omega) ⟨l[i].key,v⟩ _ rfl] at h4
 unfold cells
 rw [Q1]
 exact h4
theorem Yp.layerVal {w:World} {cap b:Nat} {S:List Nat} {l:List ZZ} {i:Nat} (h:Yp w (layers l) (.slice (some ⟨b,0,none⟩) l.length cap) S) (hi:i<l.length) (v:Int):
  Yp (w.setCell ⟨b,i * 2+1,none⟩ (.int .i64 v)) (layers (l.set i ⟨l[i].name,v⟩)) (.slice (some ⟨b,0,none⟩) l.length cap) S/\w.frozen? ⟨b,i * 2+1,none⟩=false/\b∈S:=by
 have h0:Yp w (.s l.length (l.flatMap qH)) (.slice (some ⟨b,0,none⟩) l.length cap) S:=h
 obtain⟨_,h2,h3,h4⟩:=h0.set_ (j:=i * 2+1) (x:=.int .i64 l[i].count) (by rw [Vk qP l i 1 hi (by omega)];rfl) (.int .i64 v)
 refine⟨?_,h2,h3⟩
 rw [GL qP l i 1 hi (by omega) ⟨l[i].name,v⟩ _ rfl] at h4
 unfold layers
 rw [Q1]
 exact h4
theorem Xa.ret {g:Nat} {p:Qe} {r:ZS×Uw} {S3 S5:List Nat} {w w':World} {e:Ending} (h:Xa g p r S3 S5 w e w'):e= .returned (Zq r.2):=by
 obtain⟨_,he,_⟩:=h
 exact he
theorem Xa.chg {g:Nat} {p:Qe} {r:ZS×Uw} {S3 S5:List Nat} {w w':World} {e:Ending} (h:Xa g p r S3 S5 w e w'):Qc (g::S3) w w':=by
 obtain⟨_,_,_,hc,_⟩:=h
 exact hc
theorem Xa.ends {g t:Nat} {p:Qe} {r:ZS×Uw} {S3 S5:List Nat} {w w0 w1 w2:World} {e:Ending} (hb:Zf w g p S3 S5) (h:Xa g p r S3 S5 w0 e w1) (h0:Qc [] w w0) (hc:Qc [t] w1 w2) (ht:w.heap.size<=t) (ht0:t<w0.heap.size):Xa g p r S3 S5 w (.returned (Zq r.2)) w2:=by
 obtain⟨S3',_,k,c1,hS⟩:=h
 have hg:=hb.lt
 have h3:=hb.lt3
 have h5:=hb.lt5
 have e0:=h0.size
 refine⟨S3',rfl,k.keep hc (by simp;omega) (fun x hx=>?_) (fun x hx=>by have:=h5 x hx;simp;omega),(h0.ty c1).trans hc (fun x hx=>.inr (by simp at hx;omega)),fun x hx=>(hS x hx).imp id (fun h=>by omega)⟩
 rcases hS x hx with h|h
 ·have:=h3 x h;simp;omega
 ·simp;omega
theorem jR (l:List QC) (k:Nat):Zt l=Zt (l.take k)++Zt (l.drop k):=by
 unfold Zt
 rw [<-J0,T7]
theorem zB {w:World} {l:List QC} {A:Option Addr} {cap:Nat} (h:Rd w w.heap.size (cells l) (.slice A l.length cap)) (k:Nat):
  (∀W,Qc [] w W->Zt (l.take k)≠ [] ->∃b off,A=some ⟨b,off,none⟩/\∀j u,(Zt (l.take k))[j]?=some u->W.cell? ⟨b,off+j,none⟩=some u)/\
  (∀W,Qc [] w W->Zt (l.drop k)≠ [] ->∃b off,A=some ⟨b,off,none⟩/\∀j u,(Zt (l.drop k))[j]?=some u->W.cell? ⟨b,off+k * 2+j,none⟩=some u):=by
 rw [WI] at h
 obtain⟨A',cap',e,_,_,hx⟩:=h.plain
 cases e
 have hs:=jR l k
 constructor
 ·intro W hc hne
  obtain⟨b,off,rfl,hb,hy⟩:=hx (by rw [hs];simp [hne])
  exact⟨b,off,rfl,fun j u hj=>(hc.cell (p:=⟨b,off+j,none⟩) hb (by simp)).trans (hy j u (by rw [hs,List.getElem?_append_left (by rcases Y6 j (Zt (l.take k)).length with h|h;exact h;rw [L2 h] at hj;cases hj)];exact hj))⟩
 ·intro W hc hne
  obtain⟨b,off,rfl,hb,hy⟩:=hx (by rw [hs];simp [hne])
  refine⟨b,off,rfl,fun j u hj=>(hc.cell (p:=⟨b,off+k * 2+j,none⟩) hb (by simp)).trans ?_⟩
  rw [O4]
  refine hy (k * 2+j) u ?_
  have hk:k<=l.length:=by
   rcases Y6 k l.length with h|h
   ·omega
   ·exfalso;apply hne;rw [List.drop_of_length_le h];rfl
  have hl:(Zt (l.take k)).length=k * 2:=by rw [XR,J7,Nat.min_eq_left hk]
  rw [hs,List.getElem?_append_right (by omega),hl,Nat.add_sub_cancel_left]
  exact hj
structure Ue (w:World) (p:Qe) (L:Nat) (A3:Option Addr) (c3:Nat) (A5:Option Addr) (c5:Nat) (S3 S5:List Nat):Prop where
 len:p.layers.length=L
 h3:Yp w (cells p.core.cells) (.slice A3 p.core.cells.length c3) S3
 h5:Yp w (layers p.layers) (.slice A5 L c5) S5
 ds:∀x,x∈S3->x∉S5
theorem Ue.keep {w w':World} {p:Qe} {L:Nat} {A3:Option Addr} {c3:Nat} {A5:Option Addr} {c5:Nat} {S3 S5 T:List Nat} (h:Ue w p L A3 c3 A5 c5 S3 S5) (hc:Qc T w w') (k3:∀x,x∈S3->x∉T) (k5:∀x,x∈S5->x∉T):Ue w' p L A3 c3 A5 c5 S3 S5:=
 ⟨h.len,h.h3.keep hc k3,h.h5.keep hc k5,h.ds⟩
theorem Ue.kz {w w':World} {p:Qe} {L:Nat} {A3:Option Addr} {c3:Nat} {A5:Option Addr} {c5:Nat} {S3 S5:List Nat} (h:Ue w p L A3 c3 A5 c5 S3 S5) (hc:Qc [] w w'):Ue w' p L A3 c3 A5 c5 S3 S5:=h.keep hc (by simp) (by simp)
theorem Ue.block {w:World} {p:Qe} {L:Nat} {A3:Option Addr} {c3:Nat} {A5:Option Addr} {c5:Nat} {S3 S5:List Nat} (h:Ue w p L A3 c3 A5 c5 S3 S5) (hL:0<L):∃g,A5=some ⟨g,0,none⟩/\g∈S5/\g<w.heap.size/\L<=c5/\c5<=maxLen:=by
 obtain⟨_,_,h5,_⟩:=h
 unfold layers at h5
 have:=h5.cases_
 rcases h5.cases_ with ⟨e,h0,_⟩|⟨g,cap,S',e,h1,h2,h3,h4,_⟩
 ·simp only [Value.slice.injEq] at e;omega
 ·simp only [Value.slice.injEq] at e
  obtain⟨e1,e2,e3⟩:=e
  subst e1 e3
  exact⟨g,rfl,by rw [h3];simp,h4,by omega,h2⟩
theorem Ue.lay {w:World} {p:Qe} {L:Nat} {A3:Option Addr} {c3 g:Nat} {c5:Nat} {S3 S5:List Nat} (h:Ue w p L A3 c3 (some ⟨g,0,none⟩) c5 S3 S5) {n:Nat} (hn:n<L):
  w.cell? ⟨g,n * 2,none⟩=some (.string (Zh p n).name)/\w.cell? ⟨g,n * 2+1,none⟩=some (.int .i64 (Zh p n).count)/\w.frozen? ⟨g,n * 2+1,none⟩=false:=by
 obtain⟨hl,_,h5,_⟩:=h
 subst hl
 rw [ZJ hn]
 have hf:=(h5.layerVal hn 0).2.1
 obtain⟨A,cap,e,_,_,hrow⟩:=Xb h5.rd
 simp only [Value.slice.injEq,true_and] at e
 obtain⟨e1,e2⟩:=e
 subst e1 e2
 obtain⟨b,off,e,hb,q0,q1⟩:=Wg hrow n hn
 simp only [O7,Addr.mk.injEq] at e
 obtain⟨rfl,rfl,_⟩:=e
 rw [J3] at q0 q1
 exact⟨q0,q1,hf⟩
theorem YG.own {p:Qe} {w w1:World} {A3:Option Addr} {c3:Nat} {A5:Option Addr} {c5:Nat} (h:YG p w w1 (.slice A3 p.core.cells.length c3) (.slice A5 p.layers.length c5)):
  ∃S3 S5,Ue w1 p p.layers.length A3 c3 A5 c5 S3 S5/\(∀x,x∈S3->w.heap.size<=x)/\(∀x,x∈S5->w.heap.size<=x)/\Qc [] w w1:=by
 obtain⟨⟨S3,h3,hS⟩,hA⟩:=h
 obtain⟨h5,h6⟩:=hA.has
 refine⟨S3,_,⟨rfl,h3,?_,fun x hx=>(hS x hx).2⟩,fun x hx=>(hS x hx).1,h6,hA.chg⟩
 rw [Uy]
 exact h5
theorem Ue.newL {p:Qe} {w w1:World} {L:Nat} {A3:Option Addr} {c3:Nat} {A5:Option Addr} {c5:Nat} {S3 S5:List Nat} (h:Ue w1 p L A3 c3 A5 c5 S3 S5) (h3:∀x,x∈S3->w.heap.size<=x) (h5:∀x,x∈S5->w.heap.size<=x) (hc:Qc [] w w1):
  YW w w1 (WH p) [.string p.core.kind,.bool p.core.on,.bool p.core.broken,.slice A3 p.core.cells.length c3,.int .i64 p.core.count,.slice A5 p.layers.length c5]:=by
 obtain⟨hl,k3,k5,hd⟩:=h
 subst hl
 refine⟨S3++S5,?_,fun x hx=>(F4.1 hx).elim (h3 x) (h5 x),hc⟩
 rw [Gu]
 exact I2 (I2 (I2 (Zm.append (Zm.one k3) (I2 (x:=.int .i64 p.core.count) (Zm.one k5)) hd)))
theorem Yp.front {w:World} {us:List Value} {n m k g cap:Nat} {S:List Nat} (h:Yp w (.s n (us.map QD.v)) (.slice (some ⟨g,0,none⟩) n cap) S) (hm:m<=n) (hk:k<=us.length):Yp w (.s m ((us.take k).map QD.v)) (.slice (some ⟨g,0,none⟩) m cap) S:=by
 obtain⟨h,hn⟩:=h
 rw [Yb] at h
 rcases h with ⟨h0,_⟩|⟨g',cap',cur,e,xs,S',h1,h2,h3,hg,h4,h5,hl,rfl⟩
 ·simp at h0
 ·simp only [Value.slice.injEq,O7,Addr.mk.injEq] at h1
  obtain⟨⟨rfl,_⟩,_,rfl⟩:=h1
  have hS:=Qt.plain_nil hl
  subst hS
  have key:∀(us:List Value) (xs:List Value),Qt w (us.map QD.v) xs [] ->xs=us:=by
   intro us
   induction us with
   |nil=>intro xs h;rw [O2,Qt] at h;exact h.1
   |cons u us ih=>
    intro xs h
    rw [I9,Qt] at h
    obtain⟨u',us',S1,S2,rfl,e,h1,h2⟩:=h
    rw [Yb] at h1
    obtain⟨rfl,rfl⟩:=h1
    simp at e
    subst e
    rw [ih us' h2]
  have hx:=key us xs hl
  subst hx
  refine⟨?_,hn⟩
  rw [Yb]
  refine .inr ⟨g,cap,cur,e,xs.take k,[],rfl,G5 hm h2,h3,hg,?_,by simp,Qt.plain w _,rfl⟩
  have hl4:=congrArg List.length h4
  rw [J8,J7] at hl4
  rw [J8,J7, <-List.take_take]
  rw [J8] at h4
  rw [h4]
theorem kK (l:List ZZ) (k:Nat) (hk:k<=l.length):Yt (l.take k)=(Yt l).take (k * 2):=by
 induction l generalizing k with
 |nil=>simp [Yt]
 | cons x l ih=>
  cases k with
  |zero=>simp [Yt]
  |succ k=>
   have:=ih k (by simpa using hk)
   simp only [Yt,Y0,J6] at this ⊢
   rw [show(k+1) * 2=k * 2+2 by omega,this]
   simp
theorem Ue.less {p:Qe} {w:World} {L:Nat} {A3:Option Addr} {c3 g:Nat} {c5:Nat} {S3 S5:List Nat} (h:Ue w p L A3 c3 (some ⟨g,0,none⟩) c5 S3 S5) {k:Nat} (hk:k<=L):Ue w ⟨p.core,p.layers.take k⟩ k A3 c3 (some ⟨g,0,none⟩) c5 S3 S5:=by
 obtain⟨hl,k3,k5,hd⟩:=h
 subst hl
 refine⟨by simp;omega,k3,?_,hd⟩
 rw [Uy] at k5 ⊢
 rw [show((⟨p.core,p.layers.take k⟩:Qe)).layers=p.layers.take k from rfl,kK p.layers k hk,J7,Nat.min_eq_left hk]
 refine k5.front hk ?_
 have:∀l:List ZZ,(Yt l).length=l.length * 2:=by
  intro l
  induction l with
  |nil=>rfl
  |cons x l ih=>simp only [Yt,J6,I0,I1,U7] at ih ⊢;omega
 have:=this p.layers
 omega
theorem Ue.pbox {p:Qe} {w:World} {g L:Nat} {A3:Option Addr} {c3:Nat} {A5:Option Addr} {c5:Nat} {S3 S5:List Nat} (h:Ue w p L A3 c3 A5 c5 S3 S5) (q0:w.cell? ⟨g,0,none⟩=some (.string p.core.kind)) (q1:w.cell? ⟨g,1,none⟩=some (.bool p.core.on)) (q2:w.cell? ⟨g,2,none⟩=some (.bool p.core.broken))
  (q3:w.cell? ⟨g,3,none⟩=some (.slice A3 p.core.cells.length c3)) (q4:w.cell? ⟨g,4,none⟩=some (.int .i64 p.core.count)) (q5:w.cell? ⟨g,5,none⟩=some (.slice A5 L c5)) (hf:∀o:Nat,o<6->w.frozen? ⟨g,o,none⟩=false) (g3:g∉S3) (g5:g∉S5):Zf w g p S3 S5:=by
 obtain⟨hl,k3,k5,hd⟩:=h
 subst hl
 exact⟨⟨A3,c3,A5,c5,q0,q1,q2,q3,q4,q5,k3,k5⟩,hf,g3,g5,hd⟩
theorem Zf.own {p:Qe} {w:World} {g:Nat} {S3 S5:List Nat} (h:Zf w g p S3 S5):∃A3 c3 A5 c5,Ue w p p.layers.length A3 c3 A5 c5 S3 S5/\w.cell? ⟨g,0,none⟩=some (.string p.core.kind)/\w.cell? ⟨g,1,none⟩=some (.bool p.core.on)/\w.cell? ⟨g,2,none⟩=some (.bool p.core.broken)/\
  w.cell? ⟨g,3,none⟩=some (.slice A3 p.core.cells.length c3)/\w.cell? ⟨g,4,none⟩=some (.int .i64 p.core.count)/\w.cell? ⟨g,5,none⟩=some (.slice A5 p.layers.length c5):=by
 obtain⟨A3,c3,A5,c5,q0,q1,q2,q3,q4,q5,k3,k5⟩:=h.ex
 exact⟨A3,c3,A5,c5,⟨rfl,k3,k5,h.ds⟩,q0,q1,q2,q3,q4,q5⟩
theorem qp {p:Qe} {x:QL} (h:¬Qn p∨¬QS x):QB p x=(p,Qf 7 0 0 0):=by unfold QB;rw [if_pos h]
theorem xu {p:Qe} {x:QL} (h1:Qn p) (h2:QS x) (h3:¬ZL (Qq p p.layers.length) (ZR x.method)):QB p x=(p,Qf 1 0 (ZR x.method) (Qq p p.layers.length)):=by
 unfold QB;rw [if_neg (by intro h;rcases h with h|h;exact h h1;exact h h2),if_pos h3]
theorem vU {p:Qe} {x:QL} (h1:Qn p) (h2:QS x) (h3:ZL (Qq p p.layers.length) (ZR x.method)):QB p x=XG p.layers.length p x:=by
 unfold QB;rw [if_neg (by intro h;rcases h with h|h;exact h h1;exact h h2),if_neg (fun h=>h h3)]
theorem yU {p:Qe} (h:¬Qn p∨p.layers.length=0):Yn p=(p,false):=by unfold Yn;rw [if_pos h]
theorem kI {p:Qe} (h1:Qn p) (h2:¬p.layers.length=0):Yn p=(⟨p.core,p.layers.take (p.layers.length-1)⟩,true):=by
 unfold Yn;rw [if_neg (by intro h;rcases h with h|h;exact h h1;exact h2 h)]
def QgR (r:Qe×Bool) (w:World) (e:Ending) (w':World):Prop:=∃A3 c3 A5 c5,e= .returned (.tuple #[.agg #[.string r.1.core.kind,.bool r.1.core.on,.bool r.1.core.broken,.slice A3 r.1.core.cells.length c3,.int .i64 r.1.core.count,.slice A5 r.1.layers.length c5],.bool r.2])/\
 YW w w' (WH r.1) [.string r.1.core.kind,.bool r.1.core.on,.bool r.1.core.broken,.slice A3 r.1.core.cells.length c3,.int .i64 r.1.core.count,.slice A5 r.1.layers.length c5]
theorem R9:type_of% @Xa.same:=@Xa.same
end Go.Proofs.YtfjhdnjlhjimeaaGreatDoor
