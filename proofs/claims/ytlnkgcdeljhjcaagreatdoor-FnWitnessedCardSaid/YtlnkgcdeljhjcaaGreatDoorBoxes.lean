/- A part in a box of its own. Conditions: as stated. -/
import Derived.Test.YtlnkgcdeljhjcaaGreatDoorPlains
namespace Go.Proofs.YtlnkgcdeljhjcaaGreatDoor
open Go.RowKit

structure Zi (w:World) (g:Nat) (p:Qh) (S3 S5:List Nat):Prop where
 ex:∃A3 c3 A5 c5,w.cell? ⟨g,0,none⟩=some (.string p.core.kind)/\w.cell? ⟨g,1,none⟩=some (.bool p.core.on)/\w.cell? ⟨g,2,none⟩=some (.bool p.core.broken)/\
  w.cell? ⟨g,3,none⟩=some (.slice A3 p.core.cells.length c3)/\w.cell? ⟨g,4,none⟩=some (.int .i64 p.core.count)/\w.cell? ⟨g,5,none⟩=some (.slice A5 p.layers.length c5)/\
  Yk w (cells p.core.cells) (.slice A3 p.core.cells.length c3) S3/\Yk w (layers p.layers) (.slice A5 p.layers.length c5) S5
 fr:∀o:Nat,o<6->w.frozen? ⟨g,o,none⟩=false
 g3:g∉S3
 g5:g∉S5
 ds:∀x,x∈S3->x∉S5
theorem Zi.lt {w:World} {g:Nat} {p:Qh} {S3 S5:List Nat} (h:Zi w g p S3 S5):g<w.heap.size:=by
 obtain⟨_,_,_,_,q,_⟩:=h.ex
 exact Qn q
theorem Zi.lt3 {w:World} {g:Nat} {p:Qh} {S3 S5:List Nat} (h:Zi w g p S3 S5):∀x,x∈S3->x<w.heap.size:=by
 obtain⟨_,_,_,_,_,_,_,_,_,_,h3,_⟩:=h.ex
 exact h3.lt
theorem Zi.lt5 {w:World} {g:Nat} {p:Qh} {S3 S5:List Nat} (h:Zi w g p S3 S5):∀x,x∈S5->x<w.heap.size:=by
 obtain⟨_,_,_,_,_,_,_,_,_,_,_,h5⟩:=h.ex
 exact h5.lt
theorem Zi.keep {w w':World} {g:Nat} {p:Qh} {S3 S5 T:List Nat} (h:Zi w g p S3 S5) (hc:Qb T w w') (hg:g∉T) (h3:∀x,x∈S3->x∉T) (h5:∀x,x∈S5->x∉T):Zi w' g p S3 S5:=by
 have hl:=h.lt
 obtain⟨A3,c3,A5,c5,q0,q1,q2,q3,q4,q5,k3,k5⟩:=h.ex
 have e:=fun o=>hc.cell (p:=⟨g,o,none⟩) hl hg
 exact⟨⟨A3,c3,A5,c5,(e 0).trans q0,(e 1).trans q1,(e 2).trans q2,(e 3).trans q3,(e 4).trans q4,(e 5).trans q5,k3.keep hc h3,k5.keep hc h5⟩,fun o ho=>(hc.frozen (p:=⟨g,o,none⟩) hl hg).trans (h.fr o ho),h.g3,h.g5,h.ds⟩
theorem Zi.kz {w w':World} {g:Nat} {p:Qh} {S3 S5:List Nat} (h:Zi w g p S3 S5) (hc:Qb [] w w'):Zi w' g p S3 S5:=h.keep hc (by simp) (by simp) (by simp)
theorem Zi.wr {w w':World} {g:Nat} {p:Qh} {S3 S5:List Nat} (h:Zi w g p S3 S5) (hc:Qb [g] w w') (c:ZR) (hk:c.kind=p.core.kind) (hcells:c.cells=p.core.cells)
  (q0:w'.cell? ⟨g,0,none⟩=w.cell? ⟨g,0,none⟩) (q1:w'.cell? ⟨g,1,none⟩=some (.bool c.on)) (q2:w'.cell? ⟨g,2,none⟩=some (.bool c.broken)) (q3:w'.cell? ⟨g,3,none⟩=w.cell? ⟨g,3,none⟩) (q4:w'.cell? ⟨g,4,none⟩=some (.int .i64 c.count)) (q5:w'.cell? ⟨g,5,none⟩=w.cell? ⟨g,5,none⟩)
  (hf:∀o,w'.frozen? ⟨g,o,none⟩=w.frozen? ⟨g,o,none⟩):Zi w' g ⟨c,p.layers⟩ S3 S5:=by
 obtain⟨A3,c3,A5,c5,p0,p1,p2,p3,p4,p5,k3,k5⟩:=h.ex
 refine⟨⟨A3,c3,A5,c5,by rw [q0,p0, <-hk],q1,q2,?_,q4,q5.trans p5,?_,k5.keep hc (fun x hx hg=>?_)⟩,fun o ho=>(hf o).trans (h.fr o ho),h.g3,h.g5,h.ds⟩
 ·rw [q3,p3];show _=some (Value.slice A3 c.cells.length c3);rw [hcells]
 ·show Yk w' (cells c.cells) (.slice A3 c.cells.length c3) S3
  rw [hcells]
  exact k3.keep hc (fun x hx hg=>by simp at hg;subst hg;exact h.g3 hx)
 ·simp at hg;subst hg;exact h.g5 hx
def Zt (r:Ud):Value:=.agg #[.int .i64 r.code,.int .i64 r.value,.string r.text,.int .i64 r.want,.int .i64 r.had]
def Q9 (g:Nat) (p:Qh) (r:ZR×Ud) (S3 S5:List Nat) (w:World) (e:Ending) (w':World):Prop:=
 ∃S3',e= .returned (Zt r.2)/\Zi w' g ⟨r.1,p.layers⟩ S3' S5/\Qb (g::S3) w w'/\∀x,x∈S3'->x∈S3∨w.heap.size<=x
theorem Q9.wr {w w':World} {g:Nat} {p:Qh} {S3 S5:List Nat} {r:ZR×Ud} {e:Ending} (h:Zi w g p S3 S5) (he:e= .returned (Zt r.2)) (hc:Qb [g] w w') (hk:r.1.kind=p.core.kind) (hcells:r.1.cells=p.core.cells)
  (q0:w'.cell? ⟨g,0,none⟩=w.cell? ⟨g,0,none⟩) (q1:w'.cell? ⟨g,1,none⟩=some (.bool r.1.on)) (q2:w'.cell? ⟨g,2,none⟩=some (.bool r.1.broken)) (q3:w'.cell? ⟨g,3,none⟩=w.cell? ⟨g,3,none⟩) (q4:w'.cell? ⟨g,4,none⟩=some (.int .i64 r.1.count)) (q5:w'.cell? ⟨g,5,none⟩=w.cell? ⟨g,5,none⟩)
  (hf:∀o,w'.frozen? ⟨g,o,none⟩=w.frozen? ⟨g,o,none⟩):Q9 g p r S3 S5 w e w':=
 ⟨S3,he,h.wr hc r.1 hk hcells q0 q1 q2 q3 q4 q5 hf,hc.mono (fun x hx=>.inl (by simp at hx;simp [hx])),fun x hx=>.inl hx⟩
theorem Q9.same {w w':World} {g:Nat} {p:Qh} {S3 S5:List Nat} {r:ZR×Ud} {e:Ending} (h:Zi w g p S3 S5) (hr:r.1=p.core) (he:e= .returned (Zt r.2)) (hc:Qb [] w w'):Q9 g p r S3 S5 w e w':=
 ⟨S3,he,by rw [hr];exact h.kz hc,hc.mono (by simp),fun x hx=>.inl hx⟩
theorem Q9.of {w w':World} {g:Nat} {p:Qh} {S3 S5 S3' T:List Nat} {r:ZR×Ud} {e:Ending} {A3:Option Addr} {c3:Nat} (h:Zi w g p S3 S5) (he:e= .returned (Zt r.2)) (hc:Qb T w w') (hT:∀x,x∈T->x=g∨x∈S3)
  (hS:∀x,x∈S3'->x∈S3∨w.heap.size<=x) (hk:r.1.kind=p.core.kind)
  (q0:w'.cell? ⟨g,0,none⟩=w.cell? ⟨g,0,none⟩) (q1:w'.cell? ⟨g,1,none⟩=some (.bool r.1.on)) (q2:w'.cell? ⟨g,2,none⟩=some (.bool r.1.broken)) (q3:w'.cell? ⟨g,3,none⟩=some (.slice A3 r.1.cells.length c3)) (q4:w'.cell? ⟨g,4,none⟩=some (.int .i64 r.1.count)) (q5:w'.cell? ⟨g,5,none⟩=w.cell? ⟨g,5,none⟩)
  (hf:∀o,w'.frozen? ⟨g,o,none⟩=w.frozen? ⟨g,o,none⟩) (h3:Yk w' (cells r.1.cells) (.slice A3 r.1.cells.length c3) S3'):Q9 g p r S3 S5 w e w':=by
 have hl:=h.lt
 have l5:=h.lt5
 obtain⟨A3',c3',A5,c5,p0,p1,p2,p3,p4,p5,k3,k5⟩:=h.ex
 refine⟨S3',he,⟨⟨A3,c3,A5,c5,by rw [q0,p0, <-hk],q1,q2,q3,q4,q5.trans p5,h3,k5.keep hc (fun x hx hxT=>?_)⟩,fun o ho=>(hf o).trans (h.fr o ho),fun hg=>?_,h.g5,fun x hx hx5=>?_⟩,hc.mono (fun x hx=>.inl (by rcases hT x hx with rfl|hx<;>simp [*])),hS⟩
 ·rcases hT x hxT with rfl|h3
  ·exact h.g5 hx
  ·exact h.ds x h3 hx
 ·rcases hS g hg with h1|h1
  ·exact h.g3 h1
  ·omega
 ·rcases hS x hx with h1|h1
  ·exact h.ds x h1 hx5
  ·have:=l5 x hx5;omega
theorem Jj {α:Type} {F:α->List QK} {c:Nat} (hF:∀a,(F a).length=c):∀(l:List α) (i j:Nat) (hi:i<l.length) (_hj:j<c) (a:α) (d:QK),F a=(F l[i]).set j d->(l.flatMap F).set (i * c+j) d=(l.set i a).flatMap F
 | [],i,j,hi,_,_,_,_=>by simp at hi
 |x::l,0,j,hi,hj,a,d,h=>by
  simp only [List.getElem_cons_zero] at h
  rw [List.flatMap_cons,List.set_cons_zero,List.flatMap_cons,Nat.zero_mul,Nat.zero_add,List.set_append_left _ _ (by rw [hF];exact hj),h]
 |x::l,i+1,j,hi,hj,a,d,h=>by
  simp only [List.getElem_cons_succ] at h
  rw [List.flatMap_cons,List.set_cons_succ,List.flatMap_cons,List.set_append_right _ _ (by rw [hF,Nat.succ_mul];omega),hF,show(i+1) * c+j-c=i * c+j by rw [Nat.succ_mul];omega,Jj hF l i j (by simpa using hi) hj a d h]
theorem Yk.cellVal {w:World} {cap b:Nat} {S:List Nat} {l:List QD} {i:Nat} (h:Yk w (cells l) (.slice (some ⟨b,0,none⟩) l.length cap) S) (hi:i<l.length) (v:Int):
  Yk (w.setCell ⟨b,i * 2+1,none⟩ (.int .i64 v)) (cells (l.set i ⟨l[i].key,v⟩)) (.slice (some ⟨b,0,none⟩) l.length cap) S/\w.frozen? ⟨b,i * 2+1,none⟩=false/\b∈S:=by
 have h0:Yk w (.s l.length (l.flatMap WU)) (.slice (some ⟨b,0,none⟩) l.length cap) S:=h
 obtain⟨_,h2,h3,h4⟩:=h0.set_ (j:=i * 2+1) (x:=.int .i64 l[i].value) (by rw [WM qY l i 1 hi (by omega)];rfl) (.int .i64 v)
 refine⟨?_,h2,h3⟩
 rw [Jj qY l i 1 hi (by omega) ⟨l[i].key,v⟩ _ rfl] at h4
 unfold cells
 rw [List.length_set]
 exact h4
theorem Yk.layerVal {w:World} {cap b:Nat} {S:List Nat} {l:List ZW} {i:Nat} (h:Yk w (layers l) (.slice (some ⟨b,0,none⟩) l.length cap) S) (hi:i<l.length) (v:Int):
  Yk (w.setCell ⟨b,i * 2+1,none⟩ (.int .i64 v)) (layers (l.set i ⟨l[i].name,v⟩)) (.slice (some ⟨b,0,none⟩) l.length cap) S/\w.frozen? ⟨b,i * 2+1,none⟩=false/\b∈S:=by
 have h0:Yk w (.s l.length (l.flatMap GD)) (.slice (some ⟨b,0,none⟩) l.length cap) S:=h
 obtain⟨_,h2,h3,h4⟩:=h0.set_ (j:=i * 2+1) (x:=.int .i64 l[i].count) (by rw [WM Gv l i 1 hi (by omega)];rfl) (.int .i64 v)
 refine⟨?_,h2,h3⟩
 rw [Jj Gv l i 1 hi (by omega) ⟨l[i].name,v⟩ _ rfl] at h4
 unfold layers
 rw [List.length_set]
 exact h4
theorem Q9.ret {g:Nat} {p:Qh} {r:ZR×Ud} {S3 S5:List Nat} {w w':World} {e:Ending} (h:Q9 g p r S3 S5 w e w'):e= .returned (Zt r.2):=by
 obtain⟨_,he,_⟩:=h
 exact he
theorem Q9.chg {g:Nat} {p:Qh} {r:ZR×Ud} {S3 S5:List Nat} {w w':World} {e:Ending} (h:Q9 g p r S3 S5 w e w'):Qb (g::S3) w w':=by
 obtain⟨_,_,_,hc,_⟩:=h
 exact hc
theorem Q9.ends {g t:Nat} {p:Qh} {r:ZR×Ud} {S3 S5:List Nat} {w w0 w1 w2:World} {e:Ending} (hb:Zi w g p S3 S5) (h:Q9 g p r S3 S5 w0 e w1) (h0:Qb [] w w0) (hc:Qb [t] w1 w2) (ht:w.heap.size<=t) (ht0:t<w0.heap.size):Q9 g p r S3 S5 w (.returned (Zt r.2)) w2:=by
 obtain⟨S3',_,k,c1,hS⟩:=h
 have hg:=hb.lt
 have h3:=hb.lt3
 have h5:=hb.lt5
 have e0:=h0.size
 refine⟨S3',rfl,k.keep hc (by simp;omega) (fun x hx=>?_) (fun x hx=>by have:=h5 x hx;simp;omega),(h0.ty c1).trans hc (fun x hx=>.inr (by simp at hx;omega)),fun x hx=>(hS x hx).imp id (fun h=>by omega)⟩
 rcases hS x hx with h|h
 ·have:=h3 x h;simp;omega
 ·simp;omega
theorem QaW (l:List QD) (k:Nat):Zv l=Zv (l.take k)++Zv (l.drop k):=by
 unfold Zv
 rw [<-List.flatMap_append,List.take_append_drop]
theorem qt {w:World} {l:List QD} {A:Option Addr} {cap:Nat} (h:Rd w w.heap.size (cells l) (.slice A l.length cap)) (k:Nat):
  (∀W,Qb [] w W->Zv (l.take k)≠ [] ->∃b off,A=some ⟨b,off,none⟩/\∀j u,(Zv (l.take k))[j]?=some u->W.cell? ⟨b,off+j,none⟩=some u)/\
  (∀W,Qb [] w W->Zv (l.drop k)≠ [] ->∃b off,A=some ⟨b,off,none⟩/\∀j u,(Zv (l.drop k))[j]?=some u->W.cell? ⟨b,off+k * 2+j,none⟩=some u):=by
 rw [Wg] at h
 obtain⟨A',cap',e,_,_,hx⟩:=h.plain
 cases e
 have hs:=QaW l k
 constructor
 ·intro W hc hne
  obtain⟨b,off,rfl,hb,hy⟩:=hx (by rw [hs];simp [hne])
  exact⟨b,off,rfl,fun j u hj=>(hc.cell (p:=⟨b,off+j,none⟩) hb (by simp)).trans (hy j u (by rw [hs,List.getElem?_append_left (by rcases Nat.lt_or_ge j (Zv (l.take k)).length with h|h;exact h;rw [List.getElem?_eq_none h] at hj;cases hj)];exact hj))⟩
 ·intro W hc hne
  obtain⟨b,off,rfl,hb,hy⟩:=hx (by rw [hs];simp [hne])
  refine⟨b,off,rfl,fun j u hj=>(hc.cell (p:=⟨b,off+k * 2+j,none⟩) hb (by simp)).trans ?_⟩
  rw [Nat.add_assoc]
  refine hy (k * 2+j) u ?_
  have hk:k<=l.length:=by
   rcases Nat.lt_or_ge k l.length with h|h
   ·omega
   ·exfalso;apply hne;rw [List.drop_of_length_le h];rfl
  have hl:(Zv (l.take k)).length=k * 2:=by rw [XN,List.length_take,Nat.min_eq_left hk]
  rw [hs,List.getElem?_append_right (by omega),hl,Nat.add_sub_cancel_left]
  exact hj
structure VC (w:World) (p:Qh) (L:Nat) (A3:Option Addr) (c3:Nat) (A5:Option Addr) (c5:Nat) (S3 S5:List Nat):Prop where
 len:p.layers.length=L
 h3:Yk w (cells p.core.cells) (.slice A3 p.core.cells.length c3) S3
 h5:Yk w (layers p.layers) (.slice A5 L c5) S5
 ds:∀x,x∈S3->x∉S5
theorem VC.keep {w w':World} {p:Qh} {L:Nat} {A3:Option Addr} {c3:Nat} {A5:Option Addr} {c5:Nat} {S3 S5 T:List Nat} (h:VC w p L A3 c3 A5 c5 S3 S5) (hc:Qb T w w') (k3:∀x,x∈S3->x∉T) (k5:∀x,x∈S5->x∉T):VC w' p L A3 c3 A5 c5 S3 S5:=
 ⟨h.len,h.h3.keep hc k3,h.h5.keep hc k5,h.ds⟩
theorem VC.kz {w w':World} {p:Qh} {L:Nat} {A3:Option Addr} {c3:Nat} {A5:Option Addr} {c5:Nat} {S3 S5:List Nat} (h:VC w p L A3 c3 A5 c5 S3 S5) (hc:Qb [] w w'):VC w' p L A3 c3 A5 c5 S3 S5:=h.keep hc (by simp) (by simp)
theorem VC.block {w:World} {p:Qh} {L:Nat} {A3:Option Addr} {c3:Nat} {A5:Option Addr} {c5:Nat} {S3 S5:List Nat} (h:VC w p L A3 c3 A5 c5 S3 S5) (hL:0<L):∃g,A5=some ⟨g,0,none⟩/\g∈S5/\g<w.heap.size/\L<=c5/\c5<=maxLen:=by
 obtain⟨_,_,h5,_⟩:=h
 unfold layers at h5
 have:=h5.cases_
 rcases h5.cases_ with ⟨e,h0,_⟩|⟨g,cap,S',e,h1,h2,h3,h4,_⟩
 ·simp only [Value.slice.injEq] at e;omega
 ·simp only [Value.slice.injEq] at e
  obtain⟨e1,e2,e3⟩:=e
  subst e1 e3
  exact⟨g,rfl,by rw [h3];simp,h4,by omega,h2⟩
theorem VC.lay {w:World} {p:Qh} {L:Nat} {A3:Option Addr} {c3 g:Nat} {c5:Nat} {S3 S5:List Nat} (h:VC w p L A3 c3 (some ⟨g,0,none⟩) c5 S3 S5) {n:Nat} (hn:n<L):
  w.cell? ⟨g,n * 2,none⟩=some (.string (Zn p n).name)/\w.cell? ⟨g,n * 2+1,none⟩=some (.int .i64 (Zn p n).count)/\w.frozen? ⟨g,n * 2+1,none⟩=false:=by
 obtain⟨hl,_,h5,_⟩:=h
 subst hl
 rw [ZK hn]
 have hf:=(h5.layerVal hn 0).2.1
 obtain⟨A,cap,e,_,_,hrow⟩:=Xa h5.rd
 simp only [Value.slice.injEq,true_and] at e
 obtain⟨e1,e2⟩:=e
 subst e1 e2
 obtain⟨b,off,e,hb,q0,q1⟩:=YR hrow n hn
 simp only [Option.some.injEq,Addr.mk.injEq] at e
 obtain⟨rfl,rfl,_⟩:=e
 rw [Nat.zero_add] at q0 q1
 exact⟨q0,q1,hf⟩
theorem Yr.own {p:Qh} {w w1:World} {A3:Option Addr} {c3:Nat} {A5:Option Addr} {c5:Nat} (h:Yr p w w1 (.slice A3 p.core.cells.length c3) (.slice A5 p.layers.length c5)):
  ∃S3 S5,VC w1 p p.layers.length A3 c3 A5 c5 S3 S5/\(∀x,x∈S3->w.heap.size<=x)/\(∀x,x∈S5->w.heap.size<=x)/\Qb [] w w1:=by
 obtain⟨⟨S3,h3,hS⟩,hA⟩:=h
 obtain⟨h5,h6⟩:=hA.has
 refine⟨S3,_,⟨rfl,h3,?_,fun x hx=>(hS x hx).2⟩,fun x hx=>(hS x hx).1,h6,hA.chg⟩
 rw [Ue]
 exact h5
theorem VC.newL {p:Qh} {w w1:World} {L:Nat} {A3:Option Addr} {c3:Nat} {A5:Option Addr} {c5:Nat} {S3 S5:List Nat} (h:VC w1 p L A3 c3 A5 c5 S3 S5) (h3:∀x,x∈S3->w.heap.size<=x) (h5:∀x,x∈S5->w.heap.size<=x) (hc:Qb [] w w1):
  YJ w w1 (Wm p) [.string p.core.kind,.bool p.core.on,.bool p.core.broken,.slice A3 p.core.cells.length c3,.int .i64 p.core.count,.slice A5 p.layers.length c5]:=by
 obtain⟨hl,k3,k5,hd⟩:=h
 subst hl
 refine⟨S3++S5,?_,fun x hx=>(List.mem_append.1 hx).elim (h3 x) (h5 x),hc⟩
 rw [Jp]
 exact Qu.cons_v (Qu.cons_v (Qu.cons_v (Qu.append (Qu.one k3) (Qu.cons_v (x:=.int .i64 p.core.count) (Qu.one k5)) hd)))
theorem Yk.front {w:World} {us:List Value} {n m k g cap:Nat} {S:List Nat} (h:Yk w (.s n (us.map QK.v)) (.slice (some ⟨g,0,none⟩) n cap) S) (hm:m<=n) (hk:k<=us.length):Yk w (.s m ((us.take k).map QK.v)) (.slice (some ⟨g,0,none⟩) m cap) S:=by
 obtain⟨h,hn⟩:=h
 rw [Ye] at h
 rcases h with ⟨h0,_⟩|⟨g',cap',cur,e,xs,S',h1,h2,h3,hg,h4,h5,hl,rfl⟩
 ·simp at h0
 ·simp only [Value.slice.injEq,Option.some.injEq,Addr.mk.injEq] at h1
  obtain⟨⟨rfl,_⟩,_,rfl⟩:=h1
  have hS:=Qt.plain_nil hl
  subst hS
  have key:∀(us:List Value) (xs:List Value),Qt w (us.map QK.v) xs [] ->xs=us:=by
   intro us
   induction us with
   |nil=>intro xs h;rw [List.map_nil,Qt] at h;exact h.1
   |cons u us ih=>
    intro xs h
    rw [List.map_cons,Qt] at h
    obtain⟨u',us',S1,S2,rfl,e,h1,h2⟩:=h
    rw [Ye] at h1
    obtain⟨rfl,rfl⟩:=h1
    simp at e
    subst e
    rw [ih us' h2]
  have hx:=key us xs hl
  subst hx
  refine⟨?_,hn⟩
  rw [Ye]
  refine .inr ⟨g,cap,cur,e,xs.take k,[],rfl,Nat.le_trans hm h2,h3,hg,?_,by simp,Qt.plain w _,rfl⟩
  have hl4:=congrArg List.length h4
  rw [List.length_map,List.length_take] at hl4
  rw [List.length_map,List.length_take, <-List.take_take]
  rw [List.length_map] at h4
  rw [h4]
theorem jI (l:List ZW) (k:Nat) (hk:k<=l.length):Ym (l.take k)=(Ym l).take (k * 2):=by
 induction l generalizing k with
 |nil=>simp [Ym]
 | cons x l ih=>
  cases k with
  |zero=>simp [Ym]
  |succ k=>
   have:=ih k (by simpa using hk)
   simp only [Ym,List.take_succ_cons,List.flatMap_cons] at this ⊢
   rw [show(k+1) * 2=k * 2+2 by omega,this]
   simp
theorem VC.less {p:Qh} {w:World} {L:Nat} {A3:Option Addr} {c3 g:Nat} {c5:Nat} {S3 S5:List Nat} (h:VC w p L A3 c3 (some ⟨g,0,none⟩) c5 S3 S5) {k:Nat} (hk:k<=L):VC w ⟨p.core,p.layers.take k⟩ k A3 c3 (some ⟨g,0,none⟩) c5 S3 S5:=by
 obtain⟨hl,k3,k5,hd⟩:=h
 subst hl
 refine⟨by simp;omega,k3,?_,hd⟩
 rw [Ue] at k5 ⊢
 rw [show((⟨p.core,p.layers.take k⟩:Qh)).layers=p.layers.take k from rfl,jI p.layers k hk,List.length_take,Nat.min_eq_left hk]
 refine k5.front hk ?_
 have:∀l:List ZW,(Ym l).length=l.length * 2:=by
  intro l
  induction l with
  |nil=>rfl
  |cons x l ih=>simp only [Ym,List.flatMap_cons,List.length_append,List.length_cons,List.length_nil] at ih ⊢;omega
 have:=this p.layers
 omega
theorem VC.pbox {p:Qh} {w:World} {g L:Nat} {A3:Option Addr} {c3:Nat} {A5:Option Addr} {c5:Nat} {S3 S5:List Nat} (h:VC w p L A3 c3 A5 c5 S3 S5) (q0:w.cell? ⟨g,0,none⟩=some (.string p.core.kind)) (q1:w.cell? ⟨g,1,none⟩=some (.bool p.core.on)) (q2:w.cell? ⟨g,2,none⟩=some (.bool p.core.broken))
  (q3:w.cell? ⟨g,3,none⟩=some (.slice A3 p.core.cells.length c3)) (q4:w.cell? ⟨g,4,none⟩=some (.int .i64 p.core.count)) (q5:w.cell? ⟨g,5,none⟩=some (.slice A5 L c5)) (hf:∀o:Nat,o<6->w.frozen? ⟨g,o,none⟩=false) (g3:g∉S3) (g5:g∉S5):Zi w g p S3 S5:=by
 obtain⟨hl,k3,k5,hd⟩:=h
 subst hl
 exact⟨⟨A3,c3,A5,c5,q0,q1,q2,q3,q4,q5,k3,k5⟩,hf,g3,g5,hd⟩
theorem Zi.own {p:Qh} {w:World} {g:Nat} {S3 S5:List Nat} (h:Zi w g p S3 S5):∃A3 c3 A5 c5,VC w p p.layers.length A3 c3 A5 c5 S3 S5/\w.cell? ⟨g,0,none⟩=some (.string p.core.kind)/\w.cell? ⟨g,1,none⟩=some (.bool p.core.on)/\w.cell? ⟨g,2,none⟩=some (.bool p.core.broken)/\
  w.cell? ⟨g,3,none⟩=some (.slice A3 p.core.cells.length c3)/\w.cell? ⟨g,4,none⟩=some (.int .i64 p.core.count)/\w.cell? ⟨g,5,none⟩=some (.slice A5 p.layers.length c5):=by
 obtain⟨A3,c3,A5,c5,q0,q1,q2,q3,q4,q5,k3,k5⟩:=h.ex
 exact⟨A3,c3,A5,c5,⟨rfl,k3,k5,h.ds⟩,q0,q1,q2,q3,q4,q5⟩
theorem Gj {p:Qh} {x:QQ} (h:¬Qp p∨¬QZ x):QC p x=(p,Qj 7 0 0 0):=by unfold QC;rw [if_pos h]
theorem yA {p:Qh} {x:QQ} (h1:Qp p) (h2:QZ x) (h3:¬ZN (Qs p p.layers.length) (ZQ x.method)):QC p x=(p,Qj 1 0 (ZQ x.method) (Qs p p.layers.length)):=by
 unfold QC;rw [if_neg (by intro h;rcases h with h|h;exact h h1;exact h h2),if_pos h3]
theorem vX {p:Qh} {x:QQ} (h1:Qp p) (h2:QZ x) (h3:ZN (Qs p p.layers.length) (ZQ x.method)):QC p x=XC p.layers.length p x:=by
 unfold QC;rw [if_neg (by intro h;rcases h with h|h;exact h h1;exact h h2),if_neg (fun h=>h h3)]
theorem yj {p:Qh} (h:¬Qp p∨p.layers.length=0):Yi p=(p,false):=by unfold Yi;rw [if_pos h]
theorem jl {p:Qh} (h1:Qp p) (h2:¬p.layers.length=0):Yi p=(⟨p.core,p.layers.take (p.layers.length-1)⟩,true):=by
 unfold Yi;rw [if_neg (by intro h;rcases h with h|h;exact h h1;exact h2 h)]
def QhJ (r:Qh×Bool) (w:World) (e:Ending) (w':World):Prop:=∃A3 c3 A5 c5,e= .returned (.tuple #[.agg #[.string r.1.core.kind,.bool r.1.core.on,.bool r.1.core.broken,.slice A3 r.1.core.cells.length c3,.int .i64 r.1.core.count,.slice A5 r.1.layers.length c5],.bool r.2])/\
 YJ w w' (Wm r.1) [.string r.1.core.kind,.bool r.1.core.on,.bool r.1.core.broken,.slice A3 r.1.core.cells.length c3,.int .i64 r.1.core.count,.slice A5 r.1.layers.length c5]
end Go.Proofs.YtlnkgcdeljhjcaaGreatDoor
