/- MakePart of both packages. Conditions: as stated. -/
import Derived.Test.YtfjhdnjlhjimeaaGreatDoorWraps
import Derived.Test.YtfjhdnjlhjimeaaGreatDoorTexts
set_option maxRecDepth 100000
set_option maxHeartbeats 4000000
namespace Go.Proofs.YtfjhdnjlhjimeaaGreatDoor
open Go.RowKit
def Jw (W:World) (g:Nat) (vs:List Value):Prop:=∀j v,vs[j]?=some v->W.cell? ⟨g,j,none⟩=some v/\W.frozen? ⟨g,j,none⟩=false
theorem Jw.keep {W W':World} {g:Nat} {vs:List Value} {T:List Nat} (h:Jw W g vs) (hc:Qc T W W') (hg:g<W.heap.size) (hT:g∉T):Jw W' g vs:=
 fun j v hj=>⟨(hc.cell (p:=⟨g,j,none⟩) hg hT).trans (h j v hj).1,(hc.frozen (p:=⟨g,j,none⟩) hg hT).trans (h j v hj).2⟩
theorem Jw.new (w:World) (vs:List Value) (e:TypeId):Jw (w.alloc (.cells vs.toArray e)) w.heap.size vs:=by
 intro j v hj
 exact⟨Xd _ _ _ (by simpa using hj),by unfold World.frozen?;rw [heap_alloc_new];simp⟩
theorem Jw.newAt (w:World) (g:Nat) (vs:List Value) (e:TypeId) (hg:g=w.heap.size):Jw (w.alloc (.cells vs.toArray e)) g vs:=by subst hg;exact Jw.new w vs e
theorem Jw.set {W:World} {g:Nat} {vs:List Value} (h:Jw W g vs) (i:Nat) (v:Value) (hi:i<vs.length):Jw (W.setCell ⟨g,i,none⟩ v) g (vs.set i v):=by
 intro j u hj
 rw [O8] at hj
 obtain⟨h1,h2⟩:=h i _ (F8 hi)
 by_cases hij:i=j
 ·subst hij
  rw [if_pos rfl,if_pos hi] at hj
  cases hj
  exact⟨World.cell?_setCell_same _ _ _ h1,by rw [World.frozen?_setCell];exact h2⟩
 ·rw [if_neg hij] at hj
  exact⟨(World.cell?_setCell_other _ _ _ _ (by simp<;>omega)).trans (h j u hj).1,by rw [World.frozen?_setCell];exact(h j u hj).2⟩
theorem Qcv {p:Qe} {w:World} {a b c d s3 s5:Value} {S:List Nat} (h:Zm w (WH p) [a,b,c,s3,d,s5] S):Rd w w.heap.size (cells p.core.cells) s3/\Rd w w.heap.size (layers p.layers) s5:=by
 have h1:=h.1
 rw [Gu] at h1
 simp only [Qt] at h1
 obtain⟨u0,r0,_,_,e0,_,_,u1,r1,_,_,e1,_,_,u2,r2,_,_,e2,_,_,u3,r3,_,_,e3,_,o3,u4,r4,_,_,e4,_,_,u5,r5,_,_,e5,_,o5,_⟩:=h1
 cases e0;cases e1;cases e2;cases e3;cases e4;cases e5
 exact⟨Yb.rd _ _ _ o3,Yb.rd _ _ _ o5⟩
theorem KQ (T:List Nat) {w w':World} (hc:Qc T w w') (p:Qe) (h1:p.core.cells=[]) (h2:p.layers=[]):VU T w w' (WH p) [.string p.core.kind,.bool p.core.on,.bool p.core.broken,.slice none 0 0,.int .i64 p.core.count,.slice none 0 0]:=by
 have o:∀ {α:Type} (F:α->List QD),Yb w' (.s ([]:List α).length (([]:List α).flatMap F)) (.slice none 0 0) []:=fun F=>by simp [Yb]
 refine⟨[],⟨?_,O9⟩,by simp,hc⟩
 rw [Gu,h1,h2]
 have o1:Yb w' (cells []) (.slice none 0 0) []:=o Vu
 have o2:Yb w' (layers []) (.slice none 0 0) []:=o qH
 simp only [Qt]
 exact⟨_,_,[],[],rfl,rfl,by simp [Yb],_,_,[],[],rfl,rfl,by simp [Yb],_,_,[],[],rfl,rfl,by simp [Yb],_,_,[],[],rfl,rfl,o1,_,_,[],[],rfl,rfl,by simp [Yb],_,_,[],[],rfl,rfl,o2,rfl,rfl⟩
theorem VU.ends {w wq wr w2 w3:World} {T U:List Nat} {ds:List QD} {us:List Value} (h:VU T wq wr ds us) (h0:Qc [] w wq) (hT:∀x,x∈T->w.heap.size<=x) (h12:Qc [] wr w2) (hU:∀x,x∈U->w.heap.size<=x/\x<wq.heap.size) (hc:Qc U w2 w3):YW w w3 ds us:=by
 obtain⟨S,h1,h2,h3⟩:=h
 exact⟨S,(h1.keep h12 (by simp)).keep hc (fun x hx hxU=>by have:=h2 x hx;have:=(hU x hxU).2;omega),fun x hx=>G5 h0.size (h2 x hx),((h0.trans h3 (fun x hx=>.inr (hT x hx))).tz h12).trans hc (fun x hx=>.inr (hU x hx).1)⟩
theorem YW.fresh {wq wr w2 w3:World} {g:Nat} {ds:List QD} {us:List Value} (h:YW wr w2 ds us) (h0:Qc [g] wq wr) (hg:g<wr.heap.size) (hc:Qc [g] w2 w3):VU [g] wq w3 ds us:=by
 obtain⟨S,h1,h2,h3⟩:=h
 exact⟨S,h1.keep hc (fun x hx=>by have:=h2 x hx;simp;omega),fun x hx=>G5 h0.size (h2 x hx),(h0.tz h3).trans hc (fun x hx=>.inl hx)⟩
theorem jQ (p:Qe) (n:ByteArray):(QY p n).1.core=p.core:=by
 unfold QY
 split
 ·rfl
 ·split
  ·rfl
  ·split
   ·rfl
   ·split<;>rfl
theorem QbL (p:Qe) (n:ByteArray):(QY p n).1.layers.length<=p.layers.length+1:=by
 unfold QY
 split
 ·simp
 ·split
  ·simp
  ·split
   ·simp
   ·split<;>simp
theorem uw {p:Qe} {l:List ByteArray} {j:Nat} (hj:j<l.length) {q:Qe} {r:Uw} (hw:QY p l[j]=(q,r)) (hc:¬r.code=0):ZX p (l.drop j)=(Zb,r):=by
 rw [N6 hj,ZX,hw]
 simp only [hc,if_false]
theorem ur {p:Qe} {l:List ByteArray} {j:Nat} (hj:j<l.length) {q:Qe} {r:Uw} (hw:QY p l[j]=(q,r)) (hc:r.code=0):ZX p (l.drop j)=ZX q (l.drop (j+1)):=by
 rw [N6 hj,ZX,hw]
 simp only [hc,if_true]
theorem Gb {k:ByteArray} {r:List ByteArray} (h:Qo k=none):Ys (k::r)=(Zb,Qf 7 0 0 0):=by rw [Ys,h]
theorem Ko {k:ByteArray} {r:List ByteArray} {f:Int} (h:Qo k=some f):Ys (k::r)=ZX (Xu k) r:=by rw [Ys,h]
theorem zM (l:List ByteArray) (u:Value) (B:Nat) (w:World) (r:Rd w B (WB l) u) (hB:B<=w.heap.size) (hl:l.length<=1048576):
  Calls Tryz.prog 59 #[u] w (kE (Ys l) w):=by
 obtain⟨A,cap,rfl,h0,h1,hrow⟩:=YB r
 unfold maxLen at h1
 clear r
 have tt:w.heap.size<w.heap.size+1:=L4 _
 have tt2:w.heap.size<w.heap.size+1+1:=by omega
 cases l with
 |nil=>
  go_enter Tryz.func59,Tryz.ntmps59
  go_wp2_with fail
  refine bodyPost_ret (v:=.tuple #[.agg #[.string ⟨#[]⟩,.bool false,.bool false,.slice none 0 0,.int .i64 0,.slice none 0 0],.agg #[.int .i64 7,.int .i64 0,.string ⟨#[]⟩,.int .i64 0,.int .i64 0]]) (by simp only [results,Tryz.results59];go_simp) rfl ?_
  rw [Ys]
  refine⟨none,0,none,0,rfl,?_⟩
  exact(KQ [w.heap.size,w.heap.size+1] (p:=Zb) C6 rfl rfl).done (w:=w) (w0:=w) (by simp<;>omega) (B0 _ _)
 | cons k rest=>
  obtain⟨b,off,rfl,hb,q0⟩:=ZO hrow 0 (by simp)
  rw [L3] at q0
  simp only [S6] at q0
  simp only [I1] at hl h0
  have hlenI:(0:Int)<((rest.length:Int)+1):=by omega
  have hbw:b<w.heap.size:=by omega
  have hlen1:(1:Int)<=(rest.length:Int)+1:=by omega
  have hlen2:(rest.length:Int)+1<=(cap:Int):=by omega
  have hlen3:(1:Int)<=(cap:Int):=by omega
  have hlenN:((rest.length:Int)+1-1)=(rest.length:Int):=by omega
  cases hk:Qo k with
  |none=>
   have NP:=Qb (fun W=>JQ k hk W)
   have HK:=Qb (Gb (r:=rest) hk)
   clear hk
   go_enter Tryz.func59,Tryz.ntmps59
   go_wp2_with fail
   refine(NP.out _).mono ?_
   rintro e w1 ⟨rfl,c1⟩
   have E1:Qc [] w w1:=H0 C6 c1
   have t1:w.heap.size+1<w1.heap.size:=by have:=c1.size;simp at this;omega
   have t1a:w.heap.size<w1.heap.size:=by omega
   have a0:w1.cell? ⟨w.heap.size,0,none⟩=some (.string ⟨#[]⟩):=(c1.cell (p:=⟨w.heap.size,0,none⟩) (by simp<;>omega) (by simp)).trans (by go_simp)
   have a1:w1.cell? ⟨w.heap.size,1,none⟩=some (.bool false):=(c1.cell (p:=⟨w.heap.size,1,none⟩) (by simp<;>omega) (by simp)).trans (by go_simp)
   have a2:w1.cell? ⟨w.heap.size,2,none⟩=some (.bool false):=(c1.cell (p:=⟨w.heap.size,2,none⟩) (by simp<;>omega) (by simp)).trans (by go_simp)
   have a3:w1.cell? ⟨w.heap.size,3,none⟩=some (.slice none 0 0):=(c1.cell (p:=⟨w.heap.size,3,none⟩) (by simp<;>omega) (by simp)).trans (by go_simp)
   have a4:w1.cell? ⟨w.heap.size,4,none⟩=some (.int .i64 0):=(c1.cell (p:=⟨w.heap.size,4,none⟩) (by simp<;>omega) (by simp)).trans (by go_simp)
   have a5:w1.cell? ⟨w.heap.size,5,none⟩=some (.slice none 0 0):=(c1.cell (p:=⟨w.heap.size,5,none⟩) (by simp<;>omega) (by simp)).trans (by go_simp)
   have af0:w1.frozen? ⟨w.heap.size,0,none⟩=false:=(c1.frozen (p:=⟨w.heap.size,0,none⟩) (by simp<;>omega) (by simp)).trans (by go_simp)
   have af1:w1.frozen? ⟨w.heap.size,1,none⟩=false:=(c1.frozen (p:=⟨w.heap.size,1,none⟩) (by simp<;>omega) (by simp)).trans (by go_simp)
   have af2:w1.frozen? ⟨w.heap.size,2,none⟩=false:=(c1.frozen (p:=⟨w.heap.size,2,none⟩) (by simp<;>omega) (by simp)).trans (by go_simp)
   have af3:w1.frozen? ⟨w.heap.size,3,none⟩=false:=(c1.frozen (p:=⟨w.heap.size,3,none⟩) (by simp<;>omega) (by simp)).trans (by go_simp)
   have af4:w1.frozen? ⟨w.heap.size,4,none⟩=false:=(c1.frozen (p:=⟨w.heap.size,4,none⟩) (by simp<;>omega) (by simp)).trans (by go_simp)
   have af5:w1.frozen? ⟨w.heap.size,5,none⟩=false:=(c1.frozen (p:=⟨w.heap.size,5,none⟩) (by simp<;>omega) (by simp)).trans (by go_simp)
   have b0:w1.cell? ⟨w.heap.size+1,0,none⟩=some (.int .i64 0):=(c1.cell (p:=⟨w.heap.size+1,0,none⟩) (by simp<;>omega) (by simp)).trans (by go_simp)
   have b1:w1.cell? ⟨w.heap.size+1,1,none⟩=some (.int .i64 0):=(c1.cell (p:=⟨w.heap.size+1,1,none⟩) (by simp<;>omega) (by simp)).trans (by go_simp)
   have b2:w1.cell? ⟨w.heap.size+1,2,none⟩=some (.string ⟨#[]⟩):=(c1.cell (p:=⟨w.heap.size+1,2,none⟩) (by simp<;>omega) (by simp)).trans (by go_simp)
   have b3:w1.cell? ⟨w.heap.size+1,3,none⟩=some (.int .i64 0):=(c1.cell (p:=⟨w.heap.size+1,3,none⟩) (by simp<;>omega) (by simp)).trans (by go_simp)
   have b4:w1.cell? ⟨w.heap.size+1,4,none⟩=some (.int .i64 0):=(c1.cell (p:=⟨w.heap.size+1,4,none⟩) (by simp<;>omega) (by simp)).trans (by go_simp)
   have bf0:w1.frozen? ⟨w.heap.size+1,0,none⟩=false:=(c1.frozen (p:=⟨w.heap.size+1,0,none⟩) (by simp<;>omega) (by simp)).trans (by go_simp)
   have bf1:w1.frozen? ⟨w.heap.size+1,1,none⟩=false:=(c1.frozen (p:=⟨w.heap.size+1,1,none⟩) (by simp<;>omega) (by simp)).trans (by go_simp)
   have bf2:w1.frozen? ⟨w.heap.size+1,2,none⟩=false:=(c1.frozen (p:=⟨w.heap.size+1,2,none⟩) (by simp<;>omega) (by simp)).trans (by go_simp)
   have bf3:w1.frozen? ⟨w.heap.size+1,3,none⟩=false:=(c1.frozen (p:=⟨w.heap.size+1,3,none⟩) (by simp<;>omega) (by simp)).trans (by go_simp)
   have bf4:w1.frozen? ⟨w.heap.size+1,4,none⟩=false:=(c1.frozen (p:=⟨w.heap.size+1,4,none⟩) (by simp<;>omega) (by simp)).trans (by go_simp)
   go_wp2_with fail
   have E1m:Qc [w.heap.size,w.heap.size+1] w w1:=E1.mono (by simp)
   refine bodyPost_ret (v:=.tuple #[.agg #[.string ⟨#[]⟩,.bool false,.bool false,.slice none 0 0,.int .i64 0,.slice none 0 0],.agg #[.int .i64 7,.int .i64 0,.string ⟨#[]⟩,.int .i64 0,.int .i64 0]]) (by simp only [results,Tryz.results59];go_simp) rfl ?_
   rw [HK.out]
   refine⟨none,0,none,0,rfl,?_⟩
   exact(KQ [w.heap.size,w.heap.size+1] (p:=Zb) (H9 E1m) rfl rfl).done (w:=w) (w0:=w) (by simp<;>omega) (B0 _ _)
  | some f=>
   have NP:=Qb (fun W=>VW k hk W)
   have HK:=Qb (Ko (r:=rest) hk)
   clear hk
   go_enter Tryz.func59,Tryz.ntmps59
   go_wp2_with fail
   refine(NP.out _).mono ?_
   rintro e w1 ⟨rfl,c1⟩
   have E1:Qc [] w w1:=H0 C6 c1
   have t1:w.heap.size+1<w1.heap.size:=by have:=c1.size;simp at this;omega
   have t1a:w.heap.size<w1.heap.size:=by omega
   have bx0:Jw w1 (w.heap.size) [.string ⟨#[]⟩,.bool false,.bool false,.slice none 0 0,.int .i64 0,.slice none 0 0]:=((Jw.new w [.string ⟨#[]⟩,.bool false,.bool false,.slice none 0 0,.int .i64 0,.slice none 0 0] 97).keep (T:=[]) ((B0 _ _).alloc _) (by simp) (by simp)).keep c1 (by simp<;>omega) (by simp)
   have bx1:Jw w1 (w.heap.size+1) [.int .i64 0,.int .i64 0,.string ⟨#[]⟩,.int .i64 0,.int .i64 0]:=(Jw.newAt (w.alloc (.cells #[.string ⟨#[]⟩,.bool false,.bool false,.slice none 0 0,.int .i64 0,.slice none 0 0] 97)) (w.heap.size+1) [.int .i64 0,.int .i64 0,.string ⟨#[]⟩,.int .i64 0,.int .i64 0] 124 (by simp)).keep c1 (by simp<;>omega) (by simp)
   have Eq:Qc [] w (w1.alloc (.cells #[.string k,.bool false,.bool false,.slice none 0 0,.int .i64 0,.slice none 0 0] 97)):=E1.alloc _
   have BX0:=Qb (bx0.keep ((B0 [] w1).alloc (.cells #[.string k,.bool false,.bool false,.slice none 0 0,.int .i64 0,.slice none 0 0] 97)) t1a (by simp))
   have BX1:=Qb (bx1.keep ((B0 [] w1).alloc (.cells #[.string k,.bool false,.bool false,.slice none 0 0,.int .i64 0,.slice none 0 0] 97)) t1 (by simp))
   clear bx0 bx1 c1
   have hcore0:(Xu k).core=⟨k,false,false,[],0⟩:=rfl
   have NT0:=Qb (KQ [w1.heap.size] (w':=(w1.alloc (.cells #[.string k,.bool false,.bool false,.slice none 0 0,.int .i64 0,.slice none 0 0] 97))) (B0 [w1.heap.size] (w1.alloc (.cells #[.string k,.bool false,.bool false,.slice none 0 0,.int .i64 0,.slice none 0 0] 97))) (Xu k) rfl rfl)
   have BX4:=Qb (Jw.new w1 [.string k,.bool false,.bool false,.slice none 0 0,.int .i64 0,.slice none 0 0] 97)
   go_wp2_with fail
   all_goals
    go_loopw [29] (fun i wr=>∃(j:Nat) (p:Qe) (A4:Option Addr) (cap4:Nat) (A6:Option Addr) (cap6:Nat),j<=rest.length/\i= .int .i64 j/\Ys (k::rest)=ZX p (rest.drop j)/\p.core=⟨k,false,false,[],0⟩/\p.layers.length<=j/\Jw wr w1.heap.size [.string p.core.kind,.bool p.core.on,.bool p.core.broken,.slice A4 p.core.cells.length cap4,.int .i64 p.core.count,.slice A6 p.layers.length cap6] /\Jw wr w.heap.size [.string ⟨#[]⟩,.bool false,.bool false,.slice none 0 0,.int .i64 0,.slice none 0 0] /\Jw wr (w.heap.size+1) [.int .i64 0,.int .i64 0,.string ⟨#[]⟩,.int .i64 0,.int .i64 0] /\w1.heap.size<wr.heap.size/\VU [w1.heap.size] (w1.alloc (.cells #[.string k,.bool false,.bool false,.slice none 0 0,.int .i64 0,.slice none 0 0] 97)) wr (WH p) [.string p.core.kind,.bool p.core.on,.bool p.core.broken,.slice A4 p.core.cells.length cap4,.int .i64 p.core.count,.slice A6 p.layers.length cap6]) (fun i _=>rest.length-(intOf i).toNat)
    case atStart=>exact⟨0,Xu k,none,0,none,0,I3 _,rfl,HK.out,rfl,I3 _,BX4.out,BX0.out,BX1.out,by simp,NT0.out⟩
    case round=>
     obtain⟨j,p,A4,cap4,A6,cap6,hj,rfl,hfold,hcore,hlay,bx4,bx0,bx1,tq,hNT⟩:=hrel
     have hcl:p.core.cells=[]:=by rw [hcore]
     have ELo:Qc [] w wr:=hNT.elim fun S h=>Eq.trans h.2.2 (fun x hx=>.inr (by simp at hx;omega))
     have HF:=Qb hfold
     have HC:=Qb hcore
     have HT:=Qb hNT
     have BZ:=Qb bx0
     have BR:=Qb bx1
     have B4:=Qb bx4
     have t0:w.heap.size<wr.heap.size:=by omega
     have t0a:w.heap.size+1<wr.heap.size:=by omega
     have p0:wr.cell? ⟨w1.heap.size,0,none⟩=some (.string p.core.kind):=(bx4 0 _ rfl).1
     have pf0:wr.frozen? ⟨w1.heap.size,0,none⟩=false:=(bx4 0 _ rfl).2
     have p1:wr.cell? ⟨w1.heap.size,1,none⟩=some (.bool p.core.on):=(bx4 1 _ rfl).1
     have pf1:wr.frozen? ⟨w1.heap.size,1,none⟩=false:=(bx4 1 _ rfl).2
     have p2:wr.cell? ⟨w1.heap.size,2,none⟩=some (.bool p.core.broken):=(bx4 2 _ rfl).1
     have pf2:wr.frozen? ⟨w1.heap.size,2,none⟩=false:=(bx4 2 _ rfl).2
     have p3:wr.cell? ⟨w1.heap.size,3,none⟩=some (.slice A4 p.core.cells.length cap4):=(bx4 3 _ rfl).1
     have pf3:wr.frozen? ⟨w1.heap.size,3,none⟩=false:=(bx4 3 _ rfl).2
     have p4:wr.cell? ⟨w1.heap.size,4,none⟩=some (.int .i64 p.core.count):=(bx4 4 _ rfl).1
     have pf4:wr.frozen? ⟨w1.heap.size,4,none⟩=false:=(bx4 4 _ rfl).2
     have p5:wr.cell? ⟨w1.heap.size,5,none⟩=some (.slice A6 p.layers.length cap6):=(bx4 5 _ rfl).1
     have pf5:wr.frozen? ⟨w1.heap.size,5,none⟩=false:=(bx4 5 _ rfl).2
     clear hfold hcore hNT bx0 bx1 bx4 hcl
     by_cases hlt:j<rest.length
     ·try(exfalso;omega)
      all_goals
       obtain⟨b',off',e',hb',q1⟩:=ZO (hrow.cz ELo hB) (j+1) (by simp;omega)
       cases e'
       simp only [List.getElem_cons_succ] at q1
       have q2:wr.cell? ⟨b,off+1+j,none⟩=some (.string rest[j]):=by rw [show off+1+j=off+(j+1) by omega];exact q1
       obtain⟨q,rp,hq⟩:∃q rp,QY p rest[j]=(q,rp):=⟨_,_,rfl⟩
       have hqc:q.core=p.core:=by have:=jQ p rest[j];rw [hq] at this;exact this
       have hql:q.layers.length<=p.layers.length+1:=by have:=QbL p rest[j];rw [hq] at this;exact this
       have hr:=HT.out.elim (fun S h=>Qcv h.1)
       have wr1:=KD p rest[j] _ _ wr.heap.size wr hr.1 hr.2 (F0 _) (by omega) (by rw [HC.out];simp) (by rw [HC.out];simp)
       rw [hq] at wr1
       have WR:=Qb wr1
       have HQ:=Qb hq
       have HQC:=Qb hqc
       clear hr wr1 hq hqc
       go_wp2_with fail
       refine WR.out.mono ?_
       rintro e w2 ⟨A7,cap7,A8,cap8,rfl,hN⟩
       have c2:=hN.chg
       have HN2:=Qb hN
       clear hN
       have bz2:=BZ.out.keep c2 t0 (by simp)
       have br2:=BR.out.keep c2 t0a (by simp)
       have b42:=B4.out.keep c2 tq (by simp)
       have z0:w2.cell? ⟨w.heap.size,0,none⟩=some (.string ⟨#[]⟩):=(bz2 0 _ rfl).1
       have zf0:w2.frozen? ⟨w.heap.size,0,none⟩=false:=(bz2 0 _ rfl).2
       have z1:w2.cell? ⟨w.heap.size,1,none⟩=some (.bool false):=(bz2 1 _ rfl).1
       have zf1:w2.frozen? ⟨w.heap.size,1,none⟩=false:=(bz2 1 _ rfl).2
       have z2:w2.cell? ⟨w.heap.size,2,none⟩=some (.bool false):=(bz2 2 _ rfl).1
       have zf2:w2.frozen? ⟨w.heap.size,2,none⟩=false:=(bz2 2 _ rfl).2
       have z3:w2.cell? ⟨w.heap.size,3,none⟩=some (.slice none 0 0):=(bz2 3 _ rfl).1
       have zf3:w2.frozen? ⟨w.heap.size,3,none⟩=false:=(bz2 3 _ rfl).2
       have z4:w2.cell? ⟨w.heap.size,4,none⟩=some (.int .i64 0):=(bz2 4 _ rfl).1
       have zf4:w2.frozen? ⟨w.heap.size,4,none⟩=false:=(bz2 4 _ rfl).2
       have z5:w2.cell? ⟨w.heap.size,5,none⟩=some (.slice none 0 0):=(bz2 5 _ rfl).1
       have zf5:w2.frozen? ⟨w.heap.size,5,none⟩=false:=(bz2 5 _ rfl).2
       have y0:w2.cell? ⟨w.heap.size+1,0,none⟩=some (.int .i64 0):=(br2 0 _ rfl).1
       have yf0:w2.frozen? ⟨w.heap.size+1,0,none⟩=false:=(br2 0 _ rfl).2
       have y1:w2.cell? ⟨w.heap.size+1,1,none⟩=some (.int .i64 0):=(br2 1 _ rfl).1
       have yf1:w2.frozen? ⟨w.heap.size+1,1,none⟩=false:=(br2 1 _ rfl).2
       have y2:w2.cell? ⟨w.heap.size+1,2,none⟩=some (.string ⟨#[]⟩):=(br2 2 _ rfl).1
       have yf2:w2.frozen? ⟨w.heap.size+1,2,none⟩=false:=(br2 2 _ rfl).2
       have y3:w2.cell? ⟨w.heap.size+1,3,none⟩=some (.int .i64 0):=(br2 3 _ rfl).1
       have yf3:w2.frozen? ⟨w.heap.size+1,3,none⟩=false:=(br2 3 _ rfl).2
       have y4:w2.cell? ⟨w.heap.size+1,4,none⟩=some (.int .i64 0):=(br2 4 _ rfl).1
       have yf4:w2.frozen? ⟨w.heap.size+1,4,none⟩=false:=(br2 4 _ rfl).2
       have x0:w2.cell? ⟨w1.heap.size,0,none⟩=some (.string p.core.kind):=(b42 0 _ rfl).1
       have xf0:w2.frozen? ⟨w1.heap.size,0,none⟩=false:=(b42 0 _ rfl).2
       have x1:w2.cell? ⟨w1.heap.size,1,none⟩=some (.bool p.core.on):=(b42 1 _ rfl).1
       have xf1:w2.frozen? ⟨w1.heap.size,1,none⟩=false:=(b42 1 _ rfl).2
       have x2:w2.cell? ⟨w1.heap.size,2,none⟩=some (.bool p.core.broken):=(b42 2 _ rfl).1
       have xf2:w2.frozen? ⟨w1.heap.size,2,none⟩=false:=(b42 2 _ rfl).2
       have x3:w2.cell? ⟨w1.heap.size,3,none⟩=some (.slice A4 p.core.cells.length cap4):=(b42 3 _ rfl).1
       have xf3:w2.frozen? ⟨w1.heap.size,3,none⟩=false:=(b42 3 _ rfl).2
       have x4:w2.cell? ⟨w1.heap.size,4,none⟩=some (.int .i64 p.core.count):=(b42 4 _ rfl).1
       have xf4:w2.frozen? ⟨w1.heap.size,4,none⟩=false:=(b42 4 _ rfl).2
       have x5:w2.cell? ⟨w1.heap.size,5,none⟩=some (.slice A6 p.layers.length cap6):=(b42 5 _ rfl).1
       have xf5:w2.frozen? ⟨w1.heap.size,5,none⟩=false:=(b42 5 _ rfl).2
       have BZ2:=Qb bz2
       have BR2:=Qb br2
       have t2:w1.heap.size<w2.heap.size:=F6 tq c2.size
       have t2a:w.heap.size<w2.heap.size:=by omega
       have t2b:w.heap.size+1<w2.heap.size:=by omega
       have n1:w1.heap.size≠w.heap.size:=by omega
       have n2:w1.heap.size≠w.heap.size+1:=by omega
       have HC2:=Qb c2
       clear bz2 br2 b42 c2
       by_cases hcode:rp.code=0
       ·have hd:(rp.code !=0)=false:=by simp [hcode]
        have HCO:=Qb hcode
        clear hcode
        go_wp2_with fail
        go_roundw
        case rel=>
         refine⟨j+1,q,A7,cap7,A8,cap8,by omega,by go_num,HF.out.trans (ur hlt HQ.out HCO.out),HQC.out.trans HC.out,by omega,?_,BZ2.out.keep (T:=[w1.heap.size]) C6 t2a (by simp;omega),BR2.out.keep (T:=[w1.heap.size]) C6 t2b (by simp;omega),by simp [World.setCell];omega,HN2.out.fresh (HT.out.elim fun S h=>h.2.2) tq C6⟩
         have b42:=B4.out.keep HC2.out tq (by simp)
         exact((((((((b42.set 0 _ (by simp)).set 1 _ (by simp)).set 2 _ (by simp)).set 3 _ (by simp)).set 4 _ (by simp)).set 5 _ (by simp)).keep ((B0 [] _).alloc _) (by simp [World.setCell];omega) (by simp)).keep ((B0 [] _).alloc _) (by simp [World.setCell];omega) (by simp))
        case measure=>simp [intOf];omega
       ·have EL2:Qc [w.heap.size,w.heap.size+1] w w2:=(ELo.tz HC2.out).mono (by simp)
        have hd:(rp.code !=0)=true:=by simp [hcode]
        have HCO:=Qb hcode
        clear hcode
        go_wp2_with fail
        go_region
        all_goals
         go_wp2_with fail
         refine bodyPost_ret (v:=.tuple #[.agg #[.string ⟨#[]⟩,.bool false,.bool false,.slice none 0 0,.int .i64 0,.slice none 0 0],.agg #[.int .i64 rp.code,.int .i64 rp.value,.string rp.text,.int .i64 rp.want,.int .i64 rp.had]]) (by simp only [results,Tryz.results59];go_simp) rfl ?_
         rw [HF.out,uw hlt HQ.out HCO.out]
         refine⟨none,0,none,0,rfl,?_⟩
         exact(KQ [w.heap.size,w.heap.size+1] (p:=Zb) (H9 EL2) rfl rfl).done (w:=w) (w0:=w) (by simp<;>omega) (B0 _ _)
     ·obtain rfl:j=rest.length:=by omega
      have hr:=HT.out.elim (fun S h=>Qcv h.1)
      have FO:=Qb (fun W (hW:Qc [] wr W)=>Wl p (.slice A4 p.core.cells.length cap4) _ wr.heap.size W (hr.2.cz hW (F0 _)) hW.size)
      have bz2:=BZ.out
      have br2:=BR.out
      have z0:wr.cell? ⟨w.heap.size,0,none⟩=some (.string ⟨#[]⟩):=(bz2 0 _ rfl).1
      have zf0:wr.frozen? ⟨w.heap.size,0,none⟩=false:=(bz2 0 _ rfl).2
      have z1:wr.cell? ⟨w.heap.size,1,none⟩=some (.bool false):=(bz2 1 _ rfl).1
      have zf1:wr.frozen? ⟨w.heap.size,1,none⟩=false:=(bz2 1 _ rfl).2
      have z2:wr.cell? ⟨w.heap.size,2,none⟩=some (.bool false):=(bz2 2 _ rfl).1
      have zf2:wr.frozen? ⟨w.heap.size,2,none⟩=false:=(bz2 2 _ rfl).2
      have z3:wr.cell? ⟨w.heap.size,3,none⟩=some (.slice none 0 0):=(bz2 3 _ rfl).1
      have zf3:wr.frozen? ⟨w.heap.size,3,none⟩=false:=(bz2 3 _ rfl).2
      have z4:wr.cell? ⟨w.heap.size,4,none⟩=some (.int .i64 0):=(bz2 4 _ rfl).1
      have zf4:wr.frozen? ⟨w.heap.size,4,none⟩=false:=(bz2 4 _ rfl).2
      have z5:wr.cell? ⟨w.heap.size,5,none⟩=some (.slice none 0 0):=(bz2 5 _ rfl).1
      have zf5:wr.frozen? ⟨w.heap.size,5,none⟩=false:=(bz2 5 _ rfl).2
      have y0:wr.cell? ⟨w.heap.size+1,0,none⟩=some (.int .i64 0):=(br2 0 _ rfl).1
      have yf0:wr.frozen? ⟨w.heap.size+1,0,none⟩=false:=(br2 0 _ rfl).2
      have y1:wr.cell? ⟨w.heap.size+1,1,none⟩=some (.int .i64 0):=(br2 1 _ rfl).1
      have yf1:wr.frozen? ⟨w.heap.size+1,1,none⟩=false:=(br2 1 _ rfl).2
      have y2:wr.cell? ⟨w.heap.size+1,2,none⟩=some (.string ⟨#[]⟩):=(br2 2 _ rfl).1
      have yf2:wr.frozen? ⟨w.heap.size+1,2,none⟩=false:=(br2 2 _ rfl).2
      have y3:wr.cell? ⟨w.heap.size+1,3,none⟩=some (.int .i64 0):=(br2 3 _ rfl).1
      have yf3:wr.frozen? ⟨w.heap.size+1,3,none⟩=false:=(br2 3 _ rfl).2
      have y4:wr.cell? ⟨w.heap.size+1,4,none⟩=some (.int .i64 0):=(br2 4 _ rfl).1
      have yf4:wr.frozen? ⟨w.heap.size+1,4,none⟩=false:=(br2 4 _ rfl).2
      clear hr bz2 br2
      go_wp2_with fail
      all_goals
       go_region_law (first|(go_simp;go_at_call 86;(with_reducible refine(FO.out _ (by first|exact B0 _ _|exact(B0 _ _).drew|exact(B0 _ _).drew.drew)).mono ?_);rintro e w4 ⟨rfl,c4d⟩;have c4:Qc [] wr w4:=(by first|exact c4d|exact((B0 [] wr).drew).tz c4d|exact((B0 [] wr).drew.drew).tz c4d);have bz4:=BZ.out.keep c4 t0 (by simp);have br4:=BR.out.keep c4 t0a (by simp);have b44:=B4.out.keep c4 tq (by simp);have z40:w4.cell? ⟨w.heap.size,0,none⟩=some (.string ⟨#[]⟩):=(bz4 0 _ rfl).1;have z4f0:w4.frozen? ⟨w.heap.size,0,none⟩=false:=(bz4 0 _ rfl).2;have z41:w4.cell? ⟨w.heap.size,1,none⟩=some (.bool false):=(bz4 1 _ rfl).1;have z4f1:w4.frozen? ⟨w.heap.size,1,none⟩=false:=(bz4 1 _ rfl).2;have z42:w4.cell? ⟨w.heap.size,2,none⟩=some (.bool false):=(bz4 2 _ rfl).1;have z4f2:w4.frozen? ⟨w.heap.size,2,none⟩=false:=(bz4 2 _ rfl).2;have z43:w4.cell? ⟨w.heap.size,3,none⟩=some (.slice none 0 0):=(bz4 3 _ rfl).1;have z4f3:w4.frozen? ⟨w.heap.size,3,none⟩=false:=(bz4 3 _ rfl).2;have z44:w4.cell? ⟨w.heap.size,4,none⟩=some (.int .i64 0):=(bz4 4 _ rfl).1;have z4f4:w4.frozen? ⟨w.heap.size,4,none⟩=false:=(bz4 4 _ rfl).2;have z45:w4.cell? ⟨w.heap.size,5,none⟩=some (.slice none 0 0):=(bz4 5 _ rfl).1;have z4f5:w4.frozen? ⟨w.heap.size,5,none⟩=false:=(bz4 5 _ rfl).2;have y40:w4.cell? ⟨w.heap.size+1,0,none⟩=some (.int .i64 0):=(br4 0 _ rfl).1;have y4f0:w4.frozen? ⟨w.heap.size+1,0,none⟩=false:=(br4 0 _ rfl).2;have y41:w4.cell? ⟨w.heap.size+1,1,none⟩=some (.int .i64 0):=(br4 1 _ rfl).1;have y4f1:w4.frozen? ⟨w.heap.size+1,1,none⟩=false:=(br4 1 _ rfl).2;have y42:w4.cell? ⟨w.heap.size+1,2,none⟩=some (.string ⟨#[]⟩):=(br4 2 _ rfl).1;have y4f2:w4.frozen? ⟨w.heap.size+1,2,none⟩=false:=(br4 2 _ rfl).2;have y43:w4.cell? ⟨w.heap.size+1,3,none⟩=some (.int .i64 0):=(br4 3 _ rfl).1;have y4f3:w4.frozen? ⟨w.heap.size+1,3,none⟩=false:=(br4 3 _ rfl).2;have y44:w4.cell? ⟨w.heap.size+1,4,none⟩=some (.int .i64 0):=(br4 4 _ rfl).1;have y4f4:w4.frozen? ⟨w.heap.size+1,4,none⟩=false:=(br4 4 _ rfl).2;have x40:w4.cell? ⟨w1.heap.size,0,none⟩=some (.string p.core.kind):=(b44 0 _ rfl).1;have x4f0:w4.frozen? ⟨w1.heap.size,0,none⟩=false:=(b44 0 _ rfl).2;have x41:w4.cell? ⟨w1.heap.size,1,none⟩=some (.bool p.core.on):=(b44 1 _ rfl).1;have x4f1:w4.frozen? ⟨w1.heap.size,1,none⟩=false:=(b44 1 _ rfl).2;have x42:w4.cell? ⟨w1.heap.size,2,none⟩=some (.bool p.core.broken):=(b44 2 _ rfl).1;have x4f2:w4.frozen? ⟨w1.heap.size,2,none⟩=false:=(b44 2 _ rfl).2;have x43:w4.cell? ⟨w1.heap.size,3,none⟩=some (.slice A4 p.core.cells.length cap4):=(b44 3 _ rfl).1;have x4f3:w4.frozen? ⟨w1.heap.size,3,none⟩=false:=(b44 3 _ rfl).2;have x44:w4.cell? ⟨w1.heap.size,4,none⟩=some (.int .i64 p.core.count):=(b44 4 _ rfl).1;have x4f4:w4.frozen? ⟨w1.heap.size,4,none⟩=false:=(b44 4 _ rfl).2;have x45:w4.cell? ⟨w1.heap.size,5,none⟩=some (.slice A6 p.layers.length cap6):=(b44 5 _ rfl).1;have x4f5:w4.frozen? ⟨w1.heap.size,5,none⟩=false:=(b44 5 _ rfl).2;have C4:=Qb c4;have t4:w1.heap.size<w4.heap.size:=F6 tq c4.size;have t4a:w.heap.size<w4.heap.size:=(by omega);have t4b:w.heap.size+1<w4.heap.size:=(by omega);clear bz4 br4 b44;simp only [])|fail)
       all_goals
        go_wp2_with fail
        refine bodyPost_ret (v:=.tuple #[.agg #[.string p.core.kind,.bool p.core.on,.bool p.core.broken,.slice A4 p.core.cells.length cap4,.int .i64 p.core.count,.slice A6 p.layers.length cap6],.agg #[.int .i64 0,.int .i64 (Qq p p.layers.length),.string ⟨#[]⟩,.int .i64 0,.int .i64 0]]) (by simp only [results,Tryz.results59];go_simp) rfl ?_
        rw [HF.out,List.drop_length,ZX]
        refine⟨A4,cap4,A6,cap6,rfl,?_⟩
        exact VU.ends (w:=w) HT.out Eq (by simp;omega) C4.out (U:=[w.heap.size,w.heap.size+1]) (by simp<;>omega) C6
def Jv (l:List ByteArray):List QD:=[WB l]
def QaF (l:List (List ByteArray)):QD:=.s l.length (l.flatMap Jv)
theorem QbX (l:List ByteArray):(Jv l).length=1:=rfl
theorem Qdc {w:World} {B:Nat} {l:List (List ByteArray)} {u:Value} (h:Rd w B (QaF l) u):∃A cap,u= .slice A l.length cap/\l.length<=cap/\cap<=maxLen/\WC w B Jv 1 l A:=h.row QbX (by omega)
theorem Qam {w:World} {B:Nat} {l:List (List ByteArray)} {A:Option Addr} (h:WC w B Jv 1 l A) (k:Nat) (hk:k<l.length):∃b off u,A=some ⟨b,off,none⟩/\b<B/\w.cell? ⟨b,off+k,none⟩=some u/\Rd w B (WB l[k]) u:=by
 obtain⟨b,off,e,hb,hx⟩:=h k hk
 obtain⟨u,e0,d0⟩:=hx 0 _ rfl
 exact⟨b,off,u,e,hb,by simpa using e0,d0⟩
open Classical in
noncomputable def zv (l:List (List ByteArray)):List Ql×Bool:=if Gx l then(JB l,true) else([],false)
theorem vg {l:List (List ByteArray)} (h:Gx l):zv l=(JB l,true):=by unfold zv;rw [if_pos h]
theorem wv {l:List (List ByteArray)} (h:¬Gx l):zv l=([],false):=by unfold zv;rw [if_neg h]
def QdK (r:List Ql×Bool) (w:World) (e:Ending) (w':World):Prop:=∃A cap,e= .returned (.tuple #[.slice A r.1.length cap,.bool r.2])/\qt w w' (slots r.1) (.slice A r.1.length cap)
theorem Qbz:Wd []=some ⟨false,Zb⟩:=rfl
theorem Qbq {x:List ByteArray} {q:Qe} {rp:Uw} (h0:0<x.length) (hm:Ys x=(q,rp)) (hc:¬rp.code=0):Wd x=none:=by
 cases x with
 |nil=>simp at h0
 |cons k r=>rw [Wd,hm];simp only [hc,if_false]
theorem QaA {x:List ByteArray} {q:Qe} {rp:Uw} (h0:0<x.length) (hm:Ys x=(q,rp)) (hc:rp.code=0):Wd x=some ⟨true,q⟩:=by
 cases x with
 |nil=>simp at h0
 |cons k r=>rw [Wd,hm];simp only [hc,if_true]
theorem uR {l:List (List ByteArray)} {j:Nat} (hj:j<l.length) {s:Ql} (hs:Wd l[j]=some s):(JB (l.take (j+1))).flatMap Zj=(JB (l.take j)).flatMap Zj++Zj s:=by
 unfold JB
 rw [G6 hj,J2,J0]
 simp [hs]
theorem uD {l:List (List ByteArray)} {j:Nat} (hj:j<l.length) (h:∀(i:Nat) (hi:i<l.length),i<j->(Wd l[i]).isSome=true) {s:Ql} (hs:Wd l[j]=some s):∀(i:Nat) (hi:i<l.length),i<j+1->(Wd l[i]).isSome=true:=by
 intro i hi hij
 rcases I7.1 hij with h1|h1
 ·exact h i hi h1
 ·subst h1;rw [hs];rfl
theorem QdE {l:List (List ByteArray)} (h3:l.length=3) (h:∀(i:Nat) (hi:i<l.length),i<l.length->(Wd l[i]).isSome=true):Gx l:=
 ⟨h3,fun x hx=>by obtain⟨i,hi,rfl⟩:=List.mem_iff_getElem.1 hx;exact h i hi hi⟩
theorem Qbf {l:List (List ByteArray)} {j:Nat} (hj:j<l.length) (h:Wd l[j]=none):¬Gx l:=fun hf=>by
 have:=hf.2 _ (I4 hj)
 rw [h] at this
 cases this
theorem uH {w w':World} {f:Bool} {p:Qe} {us:List Value} (h:YW w w' (WH p) us):YW w w' (Zj ⟨f,p⟩) (.bool f::us):=h.cons_v
theorem Qdy {w w':World} (h:Qc [] w w'):YW w w' (WH Zb) [.string ⟨#[]⟩,.bool false,.bool false,.slice none 0 0,.int .i64 0,.slice none 0 0]:=
 (KQ [] h Zb rfl rfl).start (by simp)
theorem JF (w:World) (vs:Array Value) (e:TypeId) (g:Nat) (hg:g=w.heap.size) {k:Nat} {v:Value} (h:vs[k]?=some v):(w.alloc (.cells vs e)).cell? ⟨g,k,none⟩=some v:=by subst hg;exact Xd w vs e h
theorem km (f:Bool) (a:ByteArray) (b c:Bool) (A B:Option Addr) (n1 c1 n2 c2:Nat) (m:Int):∀u∈([.bool f,.string a,.bool b,.bool c,.slice A n1 c1,.int .i64 m,.slice B n2 c2]:List Value),u.oneCell'=true:=by
 intro u hu
 simp at hu
 rcases hu with rfl|rfl|rfl|rfl|rfl|rfl|rfl<;>rfl
theorem qM (l:List (List ByteArray)) (u:Value) (B:Nat) (w:World) (hl:l.length<=1048576) (hs:∀x∈l,x.length<=1048576) (r:Rd w B (QaF l) u) (hB:B<=w.heap.size):
  Calls Tryz.prog 30 #[u] w (QdK (zv l) w):=by
 obtain⟨A,cap,rfl,h0,h1,hrow⟩:=Qdc r
 unfold maxLen at h1
 clear r
 by_cases n3:l.length=3
 ·have hi3:((l.length:Int) !=3)=false:=by simp;omega
  have N3:=Qb n3
  clear n3
  go_enter Tryz.func30,Tryz.ntmps30
  go_wp2_with fail
  go_loopw [4,14] (fun v i wr=>∃(j:Nat) (A':Option Addr) (cap':Nat),j<=l.length/\i= .int .i64 j/\v= .slice A' j cap'/\Yo w wr 99 7 (.slice A' j cap') j ((JB (l.take j)).flatMap Zj)/\∀(i:Nat) (hi:i<l.length),i<j->(Wd l[i]).isSome=true) (fun _ i _=>l.length-(intOf i).toNat)
  case atStart=>exact⟨0,none,0,I3 _,rfl,rfl,S8 w _ _ (B0 _ _),fun i hi h=>absurd h (M4 _)⟩
  case round=>
   obtain⟨j,A',cap',hj,rfl,rfl,hh,HN⟩:=hrel
   have HN:=Qb HN
   have HA:=Qb hh
   have hcg:=hh.chg
   have hsz:=hcg.size
   clear hh
   by_cases hlt:j<l.length
   ·obtain⟨b,off,u1,rfl,hb,q0,r1⟩:=Qam (hrow.cz hcg hB) j hlt
    obtain⟨A1,cap1,rfl,_,_,_⟩:=YB r1
    have hx:=hs _ (I4 hlt)
    by_cases hz:l[j].length=0
    ·have hnil:l[j]=[]:=I6 hz
     have HS:=Qb (show Wd l[j]=some ⟨false,Zb⟩ by rw [hnil];rfl)
     have hzI:((l[j].length:Int)==0)=true:=by simp;omega
     clear hnil hz
     go_wp2_with (at_builtin;refine ZN rfl (.tmp 21) (.tmp 23) _ rfl 99 _ 7 88 Tryz.underlying39 GP rfl (by omega) HA.out (us:=[.bool false,.string ⟨#[]⟩,.bool false,.bool false,.slice none 0 0,.int .i64 0,.slice none 0 0]) (dsE:=Zj ⟨false,Zb⟩) (uH (Qdy ((B0 _ _).alloc _))) rfl (wr.heap.size) 1 rfl rfl (by intro i u hi;exact JF _ _ _ _ (by simp) (by simpa using hi)) (km _ _ _ _ _ _ _ _ _ _ _) (by omega) (by omega) ?_;intro A2 cap2 w5 hA2)
     go_roundw
     case rel=>exact⟨j+1,A2,cap2,by omega,by go_num,by go_num,by rw [uR hlt HS.out];exact hA2,uD hlt HN.out HS.out⟩
     case measure=>simp [intOf];omega
    ·have hzI:((l[j].length:Int)==0)=false:=beq_eq_false_iff_ne.2 (by omega)
     have hpos:0<l[j].length:=by omega
     obtain⟨q,rp,hq⟩:∃q rp,Ys l[j]=(q,rp):=⟨_,_,rfl⟩
     have mp:=zM l[j] _ B wr r1 (by omega) hx
     rw [hq] at mp
     have MP:=Qb mp
     have HQ:=Qb hq
     clear mp hq hz
     go_wp2_with fail
     refine MP.out.mono ?_
     rintro e w2 ⟨A7,cap7,A8,cap8,rfl,hN⟩
     have c2:=hN.chg
     have HN2:=Qb hN
     have t2:wr.heap.size<=w2.heap.size:=c2.size
     clear hN
     by_cases hcode:rp.code=0
     ·have hd:(rp.code !=0)=false:=by simp [hcode]
      have HS:=Qb (QaA hpos HQ.out hcode)
      clear hcode
      go_wp2_with (at_builtin;refine ZN rfl (.tmp 33) (.tmp 36) _ rfl 99 _ 7 88 Tryz.underlying39 GP rfl (by omega) HA.out (us:=[.bool true,.string q.core.kind,.bool q.core.on,.bool q.core.broken,.slice A7 q.core.cells.length cap7,.int .i64 q.core.count,.slice A8 q.layers.length cap8]) (dsE:=Zj ⟨true,q⟩) (uH (HN2.out.later (((B0 _ _).alloc _).alloc _ |>.alloc _))) rfl (w2.heap.size+1+1) 1 rfl rfl (by intro i u hi;exact JF _ _ _ _ (by simp) (by simpa using hi)) (km _ _ _ _ _ _ _ _ _ _ _) (by omega) (by omega) ?_;intro A2 cap2 w5 hA2)
      go_roundw
      case rel=>exact⟨j+1,A2,cap2,by omega,by go_num,by go_num,by rw [uR hlt HS.out];exact hA2,uD hlt HN.out HS.out⟩
      case measure=>simp [intOf];omega
     ·have hd:(rp.code !=0)=true:=by simp [hcode]
      have HS:=Qb (Qbf hlt (Qbq hpos HQ.out hcode))
      clear hcode
      go_wp2_with fail
      go_ret2
      rw [wv HS.out]
      exact⟨none,0,rfl,(S8 w 99 7 (((hcg.tz c2).alloc _).alloc _)).new⟩
   ·obtain rfl:j=l.length:=by omega
    have HA2:=HA.out
    rw [I8] at HA2
    go_wp2_with fail
    go_ret2
    rw [vg (QdE N3.out HN.out)]
    have hlen:(JB l).length=l.length:=by unfold JB;simp
    refine⟨A',cap',?_,?_⟩
    ·dsimp only
     rw [hlen]
     rfl
    ·dsimp only
     rw [hlen]
     have:=HA2.new
     unfold slots
     rw [hlen]
     exact this
 ·have hi3:((l.length:Int) !=3)=true:=by simp;omega
  go_enter Tryz.func30,Tryz.ntmps30
  go_wp2_with fail
  go_ret2
  rw [wv (fun h=>n3 h.1)]
  exact⟨none,0,rfl,(S8 w 99 7 (B0 _ _)).new⟩
def Um (s:ByteArray):List ByteArray:=if s.size=0 then [] else QG 32 s
theorem QcC (s:ByteArray):(Um s).length<=s.size+1:=by
 unfold Um
 split
 ·simp
 ·unfold QG
  rw [J8]
  have:=GO 32 s.data.toList []
  rw [Zl] at this
  exact this
def QaT (l:List ByteArray):Prop:=l.length=3/\∀(k:Nat) (h:k<l.length),l[k].size=0∨(Ys (Um l[k])).2.code=0
theorem QbZ {s:ByteArray} (h:(s.toList== [])=true):s.size=0:=by
 have h1:=beq_iff_eq.1 h
 rw [ByteArray.toList_eq] at h1
 rw [<-Zl,h1]
 rfl
theorem wM {s:ByteArray} (h:(s.toList== [])=false):¬s.size=0:=fun h0=>by
 rw [ByteArray.toList_eq,I6 ((Zl s).trans h0)] at h
 cases h
end Go.Proofs.YtfjhdnjlhjimeaaGreatDoor
