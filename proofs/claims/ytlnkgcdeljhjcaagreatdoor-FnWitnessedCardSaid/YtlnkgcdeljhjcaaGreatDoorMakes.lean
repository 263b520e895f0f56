/- MakePart of both packages. Conditions: as stated. -/
import Derived.Test.YtlnkgcdeljhjcaaGreatDoorWraps
import Derived.Test.YtlnkgcdeljhjcaaGreatDoorTexts
set_option maxRecDepth 100000
set_option maxHeartbeats 4000000
namespace Go.Proofs.YtlnkgcdeljhjcaaGreatDoor
open Go.RowKit
def Kz (W:World) (g:Nat) (vs:List Value):Prop:=∀j v,vs[j]?=some v->W.cell? ⟨g,j,none⟩=some v/\W.frozen? ⟨g,j,none⟩=false
theorem Kz.keep {W W':World} {g:Nat} {vs:List Value} {T:List Nat} (h:Kz W g vs) (hc:Qb T W W') (hg:g<W.heap.size) (hT:g∉T):Kz W' g vs:=
 fun j v hj=>⟨(hc.cell (p:=⟨g,j,none⟩) hg hT).trans (h j v hj).1,(hc.frozen (p:=⟨g,j,none⟩) hg hT).trans (h j v hj).2⟩
theorem Kz.new (w:World) (vs:List Value) (e:TypeId):Kz (w.alloc (.cells vs.toArray e)) w.heap.size vs:=by
 intro j v hj
 exact⟨Xj _ _ _ (by simpa using hj),by unfold World.frozen?;rw [heap_alloc_new];simp⟩
theorem Kz.newAt (w:World) (g:Nat) (vs:List Value) (e:TypeId) (hg:g=w.heap.size):Kz (w.alloc (.cells vs.toArray e)) g vs:=by subst hg;exact Kz.new w vs e
theorem Kz.set {W:World} {g:Nat} {vs:List Value} (h:Kz W g vs) (i:Nat) (v:Value) (hi:i<vs.length):Kz (W.setCell ⟨g,i,none⟩ v) g (vs.set i v):=by
 intro j u hj
 rw [List.getElem?_set] at hj
 obtain⟨h1,h2⟩:=h i _ (List.getElem?_eq_getElem hi)
 by_cases hij:i=j
 ·subst hij
  rw [if_pos rfl,if_pos hi] at hj
  cases hj
  exact⟨World.cell?_setCell_same _ _ _ h1,by rw [World.frozen?_setCell];exact h2⟩
 ·rw [if_neg hij] at hj
  exact⟨(World.cell?_setCell_other _ _ _ _ (by simp<;>omega)).trans (h j u hj).1,by rw [World.frozen?_setCell];exact(h j u hj).2⟩
theorem QdE {p:Qh} {w:World} {a b c d s3 s5:Value} {S:List Nat} (h:Qu w (Wm p) [a,b,c,s3,d,s5] S):Rd w w.heap.size (cells p.core.cells) s3/\Rd w w.heap.size (layers p.layers) s5:=by
 have h1:=h.1
 rw [Jp] at h1
 simp only [Qt] at h1
 obtain⟨u0,r0,_,_,e0,_,_,u1,r1,_,_,e1,_,_,u2,r2,_,_,e2,_,_,u3,r3,_,_,e3,_,o3,u4,r4,_,_,e4,_,_,u5,r5,_,_,e5,_,o5,_⟩:=h1
 cases e0;cases e1;cases e2;cases e3;cases e4;cases e5
 exact⟨Ye.rd _ _ _ o3,Ye.rd _ _ _ o5⟩
theorem Kk (T:List Nat) {w w':World} (hc:Qb T w w') (p:Qh) (h1:p.core.cells=[]) (h2:p.layers=[]):Vv T w w' (Wm p) [.string p.core.kind,.bool p.core.on,.bool p.core.broken,.slice none 0 0,.int .i64 p.core.count,.slice none 0 0]:=by
 have o:∀ {α:Type} (F:α->List QK),Ye w' (.s ([]:List α).length (([]:List α).flatMap F)) (.slice none 0 0) []:=fun F=>by simp [Ye]
 refine⟨[],⟨?_,List.nodup_nil⟩,by simp,hc⟩
 rw [Jp,h1,h2]
 have o1:Ye w' (cells []) (.slice none 0 0) []:=o WU
 have o2:Ye w' (layers []) (.slice none 0 0) []:=o GD
 simp only [Qt]
 exact⟨_,_,[],[],rfl,rfl,by simp [Ye],_,_,[],[],rfl,rfl,by simp [Ye],_,_,[],[],rfl,rfl,by simp [Ye],_,_,[],[],rfl,rfl,o1,_,_,[],[],rfl,rfl,by simp [Ye],_,_,[],[],rfl,rfl,o2,rfl,rfl⟩
theorem Vv.ends {w wq wr w2 w3:World} {T U:List Nat} {ds:List QK} {us:List Value} (h:Vv T wq wr ds us) (h0:Qb [] w wq) (hT:∀x,x∈T->w.heap.size<=x) (h12:Qb [] wr w2) (hU:∀x,x∈U->w.heap.size<=x/\x<wq.heap.size) (hc:Qb U w2 w3):YJ w w3 ds us:=by
 obtain⟨S,h1,h2,h3⟩:=h
 exact⟨S,(h1.keep h12 (by simp)).keep hc (fun x hx hxU=>by have:=h2 x hx;have:=(hU x hxU).2;omega),fun x hx=>Nat.le_trans h0.size (h2 x hx),((h0.trans h3 (fun x hx=>.inr (hT x hx))).tz h12).trans hc (fun x hx=>.inr (hU x hx).1)⟩
theorem YJ.fresh {wq wr w2 w3:World} {g:Nat} {ds:List QK} {us:List Value} (h:YJ wr w2 ds us) (h0:Qb [g] wq wr) (hg:g<wr.heap.size) (hc:Qb [g] w2 w3):Vv [g] wq w3 ds us:=by
 obtain⟨S,h1,h2,h3⟩:=h
 exact⟨S,h1.keep hc (fun x hx=>by have:=h2 x hx;simp;omega),fun x hx=>Nat.le_trans h0.size (h2 x hx),(h0.tz h3).trans hc (fun x hx=>.inl hx)⟩
theorem Qbz (p:Qh) (n:ByteArray):(Zg p n).1.core=p.core:=by
 unfold Zg
 split
 ·rfl
 ·split
  ·rfl
  ·split
   ·rfl
   ·split<;>rfl
theorem Qb8 (p:Qh) (n:ByteArray):(Zg p n).1.layers.length<=p.layers.length+1:=by
 unfold Zg
 split
 ·simp
 ·split
  ·simp
  ·split
   ·simp
   ·split<;>simp
theorem ua {p:Qh} {l:List ByteArray} {j:Nat} (hj:j<l.length) {q:Qh} {r:Ud} (hw:Zg p l[j]=(q,r)) (hc:¬r.code=0):ZT p (l.drop j)=(Zh,r):=by
 rw [List.drop_eq_getElem_cons hj,ZT,hw]
 simp only [hc,if_false]
theorem vF {p:Qh} {l:List ByteArray} {j:Nat} (hj:j<l.length) {q:Qh} {r:Ud} (hw:Zg p l[j]=(q,r)) (hc:r.code=0):ZT p (l.drop j)=ZT q (l.drop (j+1)):=by
 rw [List.drop_eq_getElem_cons hj,ZT,hw]
 simp only [hc,if_true]
theorem Jd {k:ByteArray} {r:List ByteArray} (h:Qq k=none):Yn (k::r)=(Zh,Qj 7 0 0 0):=by rw [Yn,h]
theorem UF {k:ByteArray} {r:List ByteArray} {f:Int} (h:Qq k=some f):Yn (k::r)=ZT (Xw k) r:=by rw [Yn,h]
theorem GU (l:List ByteArray) (u:Value) (B:Nat) (w:World) (r:Rd w B (Ws l) u) (hB:B<=w.heap.size) (hl:l.length<=1048576):
  Calls Tryz.prog 81 #[u] w (jk (Yn l) w):=by
 obtain⟨A,cap,rfl,h0,h1,hrow⟩:=Yu r
 unfold maxLen at h1
 clear r
 have tt:w.heap.size<w.heap.size+1:=Nat.lt_succ_self _
 have tt2:w.heap.size<w.heap.size+1+1:=by omega
 cases l with
 |nil=>
  go_enter Tryz.func81,Tryz.ntmps81
  go_wp2_with fail
  refine bodyPost_ret (v:=.tuple #[.agg #[.string ⟨#[]⟩,.bool false,.bool false,.slice none 0 0,.int .i64 0,.slice none 0 0],.agg #[.int .i64 7,.int .i64 0,.string ⟨#[]⟩,.int .i64 0,.int .i64 0]]) (by simp only [results,Tryz.results81];go_simp) rfl ?_
  rw [Yn]
  refine⟨none,0,none,0,rfl,?_⟩
  exact(Kk [w.heap.size,w.heap.size+1] (p:=Zh) Qb.now rfl rfl).done (w:=w) (w0:=w) (by simp<;>omega) (Qb.refl _ _)
 | cons k rest=>
  obtain⟨b,off,rfl,hb,q0⟩:=ZO hrow 0 (by simp)
  rw [Nat.add_zero] at q0
  simp only [List.getElem_cons_zero] at q0
  simp only [List.length_cons] at hl h0
  have hlenI:(0:Int)<((rest.length:Int)+1):=by omega
  have hbw:b<w.heap.size:=by omega
  have hlen1:(1:Int)<=(rest.length:Int)+1:=by omega
  have hlen2:(rest.length:Int)+1<=(cap:Int):=by omega
  have hlen3:(1:Int)<=(cap:Int):=by omega
  have hlenN:((rest.length:Int)+1-1)=(rest.length:Int):=by omega
  cases hk:Qq k with
  |none=>
   have NP:=Qd (fun W=>Jb k hk W)
   have HK:=Qd (Jd (r:=rest) hk)
   clear hk
   go_enter Tryz.func81,Tryz.ntmps81
   go_wp2_with fail
   refine(NP.out _).mono ?_
   rintro e w1 ⟨rfl,c1⟩
   have E1:Qb [] w w1:=Qb.tz Qb.now c1
   have t1:w.heap.size+1<w1.heap.size:=by have:=c1.size;simp at this;omega
   have t1a:w.heap.size<w1.heap.size:=by omega
   have a0:w1.cell? ⟨w.heap.size,0,none⟩=some (.string ⟨#[]⟩):=(c1.cell (p:=⟨w.heap.size,0,none⟩) (by simp<;>omega) (by simp)).trans (by go_simp)
   have a1:w1.cell? ⟨w.heap.size,1,none⟩=some (.bool false):=(c1.cell (p:=⟨w.heap.size,1,none⟩) (by simp<;>omega) (by simp)).trans (by go_simp)
   have a2:w1.cell? ⟨w.heap.size,2,none⟩=some (.bool false):=(c1.cell (p:=⟨w.heap.size,2,none⟩) (by simp<;>omega) (by simp)).trans (by go_simp)
   have a3:w1.cell? ⟨w.heap.size,3,none⟩=some (.slice none 0 0):=(c1.cell (p:=⟨w.heap.size,3,none⟩) (by simp<;>omega) (by simp)).trans (by go_simp)
   have a4:w1.cell? ⟨w.heap.size,4,none⟩=some (.int .i64 0):=(c1.cell (p:=⟨w.heap.size,4,none⟩) (by simp<;>omega) (by simp)).trans (by go_simp)
   have a5:w1.cell? ⟨w.heap.size,5,none⟩=some (.slice none 0 0):=(c1.cell (p:=⟨w.heap.size,5,none⟩) (by simp<;>omega) (by simp)).trans (by go_simp)
   have af0:w1.frozen? ⟨w.heap.size,0,none⟩=false:=(c1.frozen (p:=⟨w.heap.size,0,none⟩) (by simp<;>omega) (by simp)).trans (by go_simp)
   have af1:w1.frozen? ⟨w.heap.size,1,none⟩=false:=(c1.frozen (p:=⟨w.heap.size,1,none⟩) (by simp<;>omega) (by simp)).trans (by go_simp)
   have af2:w1.frozen? ⟨w.heap.size,2,none⟩=false:=(c1.frozen (p:=⟨w.heap.size,2,none⟩) (by simp<;>omega) (by simp)).trans (by go_simp)
   have af3:w1.frozen? ⟨w.heap.size,3,none⟩=false:=(c1.frozen (p:=⟨w.heap.size,3,none⟩) (by simp<;>omega) (by simp)).trans (by go_simp)
   have af4:w1.frozen? ⟨w.heap.size,4,none⟩=false:=(c1.frozen (p:=⟨w.heap.size,4,none⟩) (by simp<;>omega) (by simp)).trans (by go_simp)
   have af5:w1.frozen? ⟨w.heap.size,5,none⟩=false:=(c1.frozen (p:=⟨w.heap.size,5,none⟩) (by simp<;>omega) (by simp)).trans (by go_simp)
   have b0:w1.cell? ⟨w.heap.size+1,0,none⟩=some (.int .i64 0):=(c1.cell (p:=⟨w.heap.size+1,0,none⟩) (by simp<;>omega) (by simp)).trans (by go_simp)
   have b1:w1.cell? ⟨w.heap.size+1,1,none⟩=some (.int .i64 0):=(c1.cell (p:=⟨w.heap.size+1,1,none⟩) (by simp<;>omega) (by simp)).trans (by go_simp)
   have b2:w1.cell? ⟨w.heap.size+1,2,none⟩=some (.string ⟨#[]⟩):=(c1.cell (p:=⟨w.heap.size+1,2,none⟩) (by simp<;>omega) (by simp)).trans (by go_simp)
   have b3:w1.cell? ⟨w.heap.size+1,3,none⟩=some (.int .i64 0):=(c1.cell (p:=⟨w.heap.size+1,3,none⟩) (by simp<;>omega) (by simp)).trans (by go_simp)
   have b4:w1.cell? ⟨w.heap.size+1,4,none⟩=some (.int .i64 0):=(c1.cell (p:=⟨w.heap.size+1,4,none⟩) (by simp<;>omega) (by simp)).trans (by go_simp)
   have bf0:w1.frozen? ⟨w.heap.size+1,0,none⟩=false:=(c1.frozen (p:=⟨w.heap.size+1,0,none⟩) (by simp<;>omega) (by simp)).trans (by go_simp)
   have bf1:w1.frozen? ⟨w.heap.size+1,1,none⟩=false:=(c1.frozen (p:=⟨w.heap.size+1,1,none⟩) (by simp<;>omega) (by simp)).trans (by go_simp)
   have bf2:w1.frozen? ⟨w.heap.size+1,2,none⟩=false:=(c1.frozen (p:=⟨w.heap.size+1,2,none⟩) (by simp<;>omega) (by simp)).trans (by go_simp)
   have bf3:w1.frozen? ⟨w.heap.size+1,3,none⟩=false:=(c1.frozen (p:=⟨w.heap.size+1,3,none⟩) (by simp<;>omega) (by simp)).trans (by go_simp)
   have bf4:w1.frozen? ⟨w.heap.size+1,4,none⟩=false:=(c1.frozen (p:=⟨w.heap.size+1,4,none⟩) (by simp<;>omega) (by simp)).trans (by go_simp)
   go_wp2_with fail
   have E1m:Qb [w.heap.size,w.heap.size+1] w w1:=E1.mono (by simp)
   refine bodyPost_ret (v:=.tuple #[.agg #[.string ⟨#[]⟩,.bool false,.bool false,.slice none 0 0,.int .i64 0,.slice none 0 0],.agg #[.int .i64 7,.int .i64 0,.string ⟨#[]⟩,.int .i64 0,.int .i64 0]]) (by simp only [results,Tryz.results81];go_simp) rfl ?_
   rw [HK.out]
   refine⟨none,0,none,0,rfl,?_⟩
   exact(Kk [w.heap.size,w.heap.size+1] (p:=Zh) (Qb.to E1m) rfl rfl).done (w:=w) (w0:=w) (by simp<;>omega) (Qb.refl _ _)
  | some f=>
   have NP:=Qd (fun W=>Vy k hk W)
   have HK:=Qd (UF (r:=rest) hk)
   clear hk
   go_enter Tryz.func81,Tryz.ntmps81
   go_wp2_with fail
   refine(NP.out _).mono ?_
   rintro e w1 ⟨rfl,c1⟩
   have E1:Qb [] w w1:=Qb.tz Qb.now c1
   have t1:w.heap.size+1<w1.heap.size:=by have:=c1.size;simp at this;omega
   have t1a:w.heap.size<w1.heap.size:=by omega
   have bx0:Kz w1 (w.heap.size) [.string ⟨#[]⟩,.bool false,.bool false,.slice none 0 0,.int .i64 0,.slice none 0 0]:=((Kz.new w [.string ⟨#[]⟩,.bool false,.bool false,.slice none 0 0,.int .i64 0,.slice none 0 0] 97).keep (T:=[]) ((Qb.refl _ _).alloc _) (by simp) (by simp)).keep c1 (by simp<;>omega) (by simp)
   have bx1:Kz w1 (w.heap.size+1) [.int .i64 0,.int .i64 0,.string ⟨#[]⟩,.int .i64 0,.int .i64 0]:=(Kz.newAt (w.alloc (.cells #[.string ⟨#[]⟩,.bool false,.bool false,.slice none 0 0,.int .i64 0,.slice none 0 0] 97)) (w.heap.size+1) [.int .i64 0,.int .i64 0,.string ⟨#[]⟩,.int .i64 0,.int .i64 0] 131 (by simp)).keep c1 (by simp<;>omega) (by simp)
   have Eq:Qb [] w (w1.alloc (.cells #[.string k,.bool false,.bool false,.slice none 0 0,.int .i64 0,.slice none 0 0] 97)):=E1.alloc _
   have BX0:=Qd (bx0.keep ((Qb.refl [] w1).alloc (.cells #[.string k,.bool false,.bool false,.slice none 0 0,.int .i64 0,.slice none 0 0] 97)) t1a (by simp))
   have BX1:=Qd (bx1.keep ((Qb.refl [] w1).alloc (.cells #[.string k,.bool false,.bool false,.slice none 0 0,.int .i64 0,.slice none 0 0] 97)) t1 (by simp))
   clear bx0 bx1 c1
   have hcore0:(Xw k).core=⟨k,false,false,[],0⟩:=rfl
   have NT0:=Qd (Kk [w1.heap.size] (w':=(w1.alloc (.cells #[.string k,.bool false,.bool false,.slice none 0 0,.int .i64 0,.slice none 0 0] 97))) (Qb.refl [w1.heap.size] (w1.alloc (.cells #[.string k,.bool false,.bool false,.slice none 0 0,.int .i64 0,.slice none 0 0] 97))) (Xw k) rfl rfl)
   have BX4:=Qd (Kz.new w1 [.string k,.bool false,.bool false,.slice none 0 0,.int .i64 0,.slice none 0 0] 97)
   go_wp2_with fail
   all_goals
    go_loopw [29] (fun i wr=>∃(j:Nat) (p:Qh) (A4:Option Addr) (cap4:Nat) (A6:Option Addr) (cap6:Nat),j<=rest.length/\i= .int .i64 j/\Yn (k::rest)=ZT p (rest.drop j)/\p.core=⟨k,false,false,[],0⟩/\p.layers.length<=j/\Kz wr w1.heap.size [.string p.core.kind,.bool p.core.on,.bool p.core.broken,.slice A4 p.core.cells.length cap4,.int .i64 p.core.count,.slice A6 p.layers.length cap6] /\Kz wr w.heap.size [.string ⟨#[]⟩,.bool false,.bool false,.slice none 0 0,.int .i64 0,.slice none 0 0] /\Kz wr (w.heap.size+1) [.int .i64 0,.int .i64 0,.string ⟨#[]⟩,.int .i64 0,.int .i64 0] /\w1.heap.size<wr.heap.size/\Vv [w1.heap.size] (w1.alloc (.cells #[.string k,.bool false,.bool false,.slice none 0 0,.int .i64 0,.slice none 0 0] 97)) wr (Wm p) [.string p.core.kind,.bool p.core.on,.bool p.core.broken,.slice A4 p.core.cells.length cap4,.int .i64 p.core.count,.slice A6 p.layers.length cap6]) (fun i _=>rest.length-(intOf i).toNat)
    case atStart=>exact⟨0,Xw k,none,0,none,0,Nat.zero_le _,rfl,HK.out,rfl,Nat.zero_le _,BX4.out,BX0.out,BX1.out,by simp,NT0.out⟩
    case round=>
     obtain⟨j,p,A4,cap4,A6,cap6,hj,rfl,hfold,hcore,hlay,bx4,bx0,bx1,tq,hNT⟩:=hrel
     have hcl:p.core.cells=[]:=by rw [hcore]
     have ELo:Qb [] w wr:=hNT.elim fun S h=>Eq.trans h.2.2 (fun x hx=>.inr (by simp at hx;omega))
     have HF:=Qd hfold
     have HC:=Qd hcore
     have HT:=Qd hNT
     have BZ:=Qd bx0
     have BR:=Qd bx1
     have B4:=Qd bx4
     have t0:w.heap.size<wr.heap.size:=by omega
     have t0a:w.heap.size+1<wr.heap.size:=by omega
     have p0:wr.cell? ⟨w1.heap.size,0,none⟩=some (.string p.core.kind):=(bx4 0 _ rfl).1
     have pf0:wr.frozen? ⟨w1.heap.size,0,none⟩=false:=(bx4 0 _ rfl).2
     have p1:wr.cell? ⟨w1.heap.size,1,none⟩=some (.bool p.core.on):=(bx4 1 _ rfl).1
     have pf1:wr.frozen? ⟨w1.heap.size,1,none⟩=false:=(bx4 1 _ rfl).2
     have p2:wr.cell? ⟨w1.heap.size,2,none⟩=some (.bool p.core.broken):=(bx4 2 _ rfl).1
     have pf2:wr.frozen? ⟨w1.heap.size,2,none⟩=false:=(bx4 2 _ rfl).2
     have p3:wr.cell? ⟨w1.heap.size,3,none⟩=some (.slice A4 p.core.cells.length cap4):=(bx4 3 _ rfl).1
     have pf3:wr.frozen? ⟨w1.heap.size,3,none⟩=false:=(bx4 3 _ rfl).2
     have p4:wr.cell? ⟨w1.heap.size,4,none⟩=some (.int .i64 p.core.count):=(bx4 4 _ rfl).1
     have pf4:wr.frozen? ⟨w1.heap.size,4,none⟩=false:=(bx4 4 _ rfl).2
     have p5:wr.cell? ⟨w1.heap.size,5,none⟩=some (.slice A6 p.layers.length cap6):=(bx4 5 _ rfl).1
     have pf5:wr.frozen? ⟨w1.heap.size,5,none⟩=false:=(bx4 5 _ rfl).2
     clear hfold hcore hNT bx0 bx1 bx4 hcl
     by_cases hlt:j<rest.length
     ·try(exfalso;omega)
      all_goals
       obtain⟨b',off',e',hb',q1⟩:=ZO (hrow.cz ELo hB) (j+1) (by simp;omega)
       cases e'
       simp only [List.getElem_cons_succ] at q1
       have q2:wr.cell? ⟨b,off+1+j,none⟩=some (.string rest[j]):=by rw [show off+1+j=off+(j+1) by omega];exact q1
       obtain⟨q,rp,hq⟩:∃q rp,Zg p rest[j]=(q,rp):=⟨_,_,rfl⟩
       have hqc:q.core=p.core:=by have:=Qbz p rest[j];rw [hq] at this;exact this
       have hql:q.layers.length<=p.layers.length+1:=by have:=Qb8 p rest[j];rw [hq] at this;exact this
       have hr:=HT.out.elim (fun S h=>QdE h.1)
       have wr1:=U4 p rest[j] _ _ wr.heap.size wr hr.1 hr.2 (Nat.le_refl _) (by omega) (by rw [HC.out];simp) (by rw [HC.out];simp)
       rw [hq] at wr1
       have WR:=Qd wr1
       have HQ:=Qd hq
       have HQC:=Qd hqc
       clear hr wr1 hq hqc
       go_wp2_with fail
       refine WR.out.mono ?_
       rintro e w2 ⟨A7,cap7,A8,cap8,rfl,hN⟩
       have c2:=hN.chg
       have HN2:=Qd hN
       clear hN
       have bz2:=BZ.out.keep c2 t0 (by simp)
       have br2:=BR.out.keep c2 t0a (by simp)
       have b42:=B4.out.keep c2 tq (by simp)
       have z0:w2.cell? ⟨w.heap.size,0,none⟩=some (.string ⟨#[]⟩):=(bz2 0 _ rfl).1
       have zf0:w2.frozen? ⟨w.heap.size,0,none⟩=false:=(bz2 0 _ rfl).2
       have z1:w2.cell? ⟨w.heap.size,1,none⟩=some (.bool false):=(bz2 1 _ rfl).1
       have zf1:w2.frozen? ⟨w.heap.size,1,none⟩=false:=(bz2 1 _ rfl).2
       have z2:w2.cell? ⟨w.heap.size,2,none⟩=some (.bool false):=(bz2 2 _ rfl).1
       have zf2:w2.frozen? ⟨w.heap.size,2,none⟩=false:=(bz2 2 _ rfl).2
       have z3:w2.cell? ⟨w.heap.size,3,none⟩=some (.slice none 0 0):=(bz2 3 _ rfl).1
       have zf3:w2.frozen? ⟨w.heap.size,3,none⟩=false:=(bz2 3 _ rfl).2
       have z4:w2.cell? ⟨w.heap.size,4,none⟩=some (.int .i64 0):=(bz2 4 _ rfl).1
       have zf4:w2.frozen? ⟨w.heap.size,4,none⟩=false:=(bz2 4 _ rfl).2
       have z5:w2.cell? ⟨w.heap.size,5,none⟩=some (.slice none 0 0):=(bz2 5 _ rfl).1
       have zf5:w2.frozen? ⟨w.heap.size,5,none⟩=false:=(bz2 5 _ rfl).2
       have y0:w2.cell? ⟨w.heap.size+1,0,none⟩=some (.int .i64 0):=(br2 0 _ rfl).1
       have yf0:w2.frozen? ⟨w.heap.size+1,0,none⟩=false:=(br2 0 _ rfl).2
       have y1:w2.cell? ⟨w.heap.size+1,1,none⟩=some (.int .i64 0):=(br2 1 _ rfl).1
       have yf1:w2.frozen? ⟨w.heap.size+1,1,none⟩=false:=(br2 1 _ rfl).2
       have y2:w2.cell? ⟨w.heap.size+1,2,none⟩=some (.string ⟨#[]⟩):=(br2 2 _ rfl).1
       have yf2:w2.frozen? ⟨w.heap.size+1,2,none⟩=false:=(br2 2 _ rfl).2
       have y3:w2.cell? ⟨w.heap.size+1,3,none⟩=some (.int .i64 0):=(br2 3 _ rfl).1
       have yf3:w2.frozen? ⟨w.heap.size+1,3,none⟩=false:=(br2 3 _ rfl).2
       have y4:w2.cell? ⟨w.heap.size+1,4,none⟩=some (.int .i64 0):=(br2 4 _ rfl).1
       have yf4:w2.frozen? ⟨w.heap.size+1,4,none⟩=false:=(br2 4 _ rfl).2
       have x0:w2.cell? ⟨w1.heap.size,0,none⟩=some (.string p.core.kind):=(b42 0 _ rfl).1
       have xf0:w2.frozen? ⟨w1.heap.size,0,none⟩=false:=(b42 0 _ rfl).2
       have x1:w2.cell? ⟨w1.heap.size,1,none⟩=some (.bool p.core.on):=(b42 1 _ rfl).1
       have xf1:w2.frozen? ⟨w1.heap.size,1,none⟩=false:=(b42 1 _ rfl).2
       have x2:w2.cell? ⟨w1.heap.size,2,none⟩=some (.bool p.core.broken):=(b42 2 _ rfl).1
       have xf2:w2.frozen? ⟨w1.heap.size,2,none⟩=false:=(b42 2 _ rfl).2
       have x3:w2.cell? ⟨w1.heap.size,3,none⟩=some (.slice A4 p.core.cells.length cap4):=(b42 3 _ rfl).1
       have xf3:w2.frozen? ⟨w1.heap.size,3,none⟩=false:=(b42 3 _ rfl).2
       have x4:w2.cell? ⟨w1.heap.size,4,none⟩=some (.int .i64 p.core.count):=(b42 4 _ rfl).1
       have xf4:w2.frozen? ⟨w1.heap.size,4,none⟩=false:=(b42 4 _ rfl).2
       have x5:w2.cell? ⟨w1.heap.size,5,none⟩=some (.slice A6 p.layers.length cap6):=(b42 5 _ rfl).1
       have xf5:w2.frozen? ⟨w1.heap.size,5,none⟩=false:=(b42 5 _ rfl).2
       have BZ2:=Qd bz2
       have BR2:=Qd br2
       have t2:w1.heap.size<w2.heap.size:=Nat.lt_of_lt_of_le tq c2.size
       have t2a:w.heap.size<w2.heap.size:=by omega
       have t2b:w.heap.size+1<w2.heap.size:=by omega
       have n1:w1.heap.size≠w.heap.size:=by omega
       have n2:w1.heap.size≠w.heap.size+1:=by omega
       have HC2:=Qd c2
       clear bz2 br2 b42 c2
       by_cases hcode:rp.code=0
       ·have hd:(rp.code !=0)=false:=by simp [hcode]
        have HCO:=Qd hcode
        clear hcode
        go_wp2_with fail
        go_roundw
        case rel=>
         refine⟨j+1,q,A7,cap7,A8,cap8,by omega,by go_num,HF.out.trans (vF hlt HQ.out HCO.out),HQC.out.trans HC.out,by omega,?_,BZ2.out.keep (T:=[w1.heap.size]) Qb.now t2a (by simp;omega),BR2.out.keep (T:=[w1.heap.size]) Qb.now t2b (by simp;omega),by simp [World.setCell];omega,HN2.out.fresh (HT.out.elim fun S h=>h.2.2) tq Qb.now⟩
         have b42:=B4.out.keep HC2.out tq (by simp)
         exact((((((((b42.set 0 _ (by simp)).set 1 _ (by simp)).set 2 _ (by simp)).set 3 _ (by simp)).set 4 _ (by simp)).set 5 _ (by simp)).keep ((Qb.refl [] _).alloc _) (by simp [World.setCell];omega) (by simp)).keep ((Qb.refl [] _).alloc _) (by simp [World.setCell];omega) (by simp))
        case measure=>simp [intOf];omega
       ·have EL2:Qb [w.heap.size,w.heap.size+1] w w2:=(ELo.tz HC2.out).mono (by simp)
        have hd:(rp.code !=0)=true:=by simp [hcode]
        have HCO:=Qd hcode
        clear hcode
        go_wp2_with fail
        go_region
        all_goals
         go_wp2_with fail
         refine bodyPost_ret (v:=.tuple #[.agg #[.string ⟨#[]⟩,.bool false,.bool false,.slice none 0 0,.int .i64 0,.slice none 0 0],.agg #[.int .i64 rp.code,.int .i64 rp.value,.string rp.text,.int .i64 rp.want,.int .i64 rp.had]]) (by simp only [results,Tryz.results81];go_simp) rfl ?_
         rw [HF.out,ua hlt HQ.out HCO.out]
         refine⟨none,0,none,0,rfl,?_⟩
         exact(Kk [w.heap.size,w.heap.size+1] (p:=Zh) (Qb.to EL2) rfl rfl).done (w:=w) (w0:=w) (by simp<;>omega) (Qb.refl _ _)
     ·obtain rfl:j=rest.length:=by omega
      have hr:=HT.out.elim (fun S h=>QdE h.1)
      have FO:=Qd (fun W (hW:Qb [] wr W)=>Y5 p (.slice A4 p.core.cells.length cap4) _ wr.heap.size W (hr.2.cz hW (Nat.le_refl _)) hW.size)
      have bz2:=BZ.out
      have br2:=BR.out
      have z0:wr.cell? ⟨w.heap.size,0,none⟩=some (.string ⟨#[]⟩):=(bz2 0 _ rfl).1
      have zf0:wr.frozen? ⟨w.heap.size,0,none⟩=false:=(bz2 0 _ rfl).2
      have z1:wr.cell? ⟨w.heap.size,1,none⟩=some (.bool false):=(bz2 1 _ rfl).1
      have zf1:wr.frozen? ⟨w.heap.size,1,none⟩=false:=(bz2 1 _ rfl).2
      have z2:wr.cell? ⟨w.heap.size,2,none⟩=some (.bool false):=(bz2 2 _ rfl).1
      have zf2:wr.frozen? ⟨w.heap.size,2,none⟩=false:=(bz2 2 _ rfl).2
      have z3:wr.cell? ⟨w.heap.size,3,none⟩=some (.slice none 0 0):=(bz2 3 _ rfl).1
      have zf3:wr.frozen? ⟨w.heap.size,3,none⟩=false:=(bz2 3 _ rfl).2
      have z4:wr.cell? ⟨w.heap.size,4,none⟩=some (.int .i64 0):=(bz2 4 _ rfl).1
      have zf4:wr.frozen? ⟨w.heap.size,4,none⟩=false:=(bz2 4 _ rfl).2
      have z5:wr.cell? ⟨w.heap.size,5,none⟩=some (.slice none 0 0):=(bz2 5 _ rfl).1
      have zf5:wr.frozen? ⟨w.heap.size,5,none⟩=false:=(bz2 5 _ rfl).2
      have y0:wr.cell? ⟨w.heap.size+1,0,none⟩=some (.int .i64 0):=(br2 0 _ rfl).1
      have yf0:wr.frozen? ⟨w.heap.size+1,0,none⟩=false:=(br2 0 _ rfl).2
      have y1:wr.cell? ⟨w.heap.size+1,1,none⟩=some (.int .i64 0):=(br2 1 _ rfl).1
      have yf1:wr.frozen? ⟨w.heap.size+1,1,none⟩=false:=(br2 1 _ rfl).2
      have y2:wr.cell? ⟨w.heap.size+1,2,none⟩=some (.string ⟨#[]⟩):=(br2 2 _ rfl).1
      have yf2:wr.frozen? ⟨w.heap.size+1,2,none⟩=false:=(br2 2 _ rfl).2
      have y3:wr.cell? ⟨w.heap.size+1,3,none⟩=some (.int .i64 0):=(br2 3 _ rfl).1
      have yf3:wr.frozen? ⟨w.heap.size+1,3,none⟩=false:=(br2 3 _ rfl).2
      have y4:wr.cell? ⟨w.heap.size+1,4,none⟩=some (.int .i64 0):=(br2 4 _ rfl).1
      have yf4:wr.frozen? ⟨w.heap.size+1,4,none⟩=false:=(br2 4 _ rfl).2
      clear hr bz2 br2
      go_wp2_with fail
      all_goals
       go_region_law (first|(go_simp;go_at_call 134;(with_reducible refine(FO.out _ (by first|exact Qb.refl _ _|exact(Qb.refl _ _).drew|exact(Qb.refl _ _).drew.drew)).mono ?_);rintro e w4 ⟨rfl,c4d⟩;have c4:Qb [] wr w4:=(by first|exact c4d|exact((Qb.refl [] wr).drew).tz c4d|exact((Qb.refl [] wr).drew.drew).tz c4d);have bz4:=BZ.out.keep c4 t0 (by simp);have br4:=BR.out.keep c4 t0a (by simp);have b44:=B4.out.keep c4 tq (by simp);have z40:w4.cell? ⟨w.heap.size,0,none⟩=some (.string ⟨#[]⟩):=(bz4 0 _ rfl).1;have z4f0:w4.frozen? ⟨w.heap.size,0,none⟩=false:=(bz4 0 _ rfl).2;have z41:w4.cell? ⟨w.heap.size,1,none⟩=some (.bool false):=(bz4 1 _ rfl).1;have z4f1:w4.frozen? ⟨w.heap.size,1,none⟩=false:=(bz4 1 _ rfl).2;have z42:w4.cell? ⟨w.heap.size,2,none⟩=some (.bool false):=(bz4 2 _ rfl).1;have z4f2:w4.frozen? ⟨w.heap.size,2,none⟩=false:=(bz4 2 _ rfl).2;have z43:w4.cell? ⟨w.heap.size,3,none⟩=some (.slice none 0 0):=(bz4 3 _ rfl).1;have z4f3:w4.frozen? ⟨w.heap.size,3,none⟩=false:=(bz4 3 _ rfl).2;have z44:w4.cell? ⟨w.heap.size,4,none⟩=some (.int .i64 0):=(bz4 4 _ rfl).1;have z4f4:w4.frozen? ⟨w.heap.size,4,none⟩=false:=(bz4 4 _ rfl).2;have z45:w4.cell? ⟨w.heap.size,5,none⟩=some (.slice none 0 0):=(bz4 5 _ rfl).1;have z4f5:w4.frozen? ⟨w.heap.size,5,none⟩=false:=(bz4 5 _ rfl).2;have y40:w4.cell? ⟨w.heap.size+1,0,none⟩=some (.int .i64 0):=(br4 0 _ rfl).1;have y4f0:w4.frozen? ⟨w.heap.size+1,0,none⟩=false:=(br4 0 _ rfl).2;have y41:w4.cell? ⟨w.heap.size+1,1,none⟩=some (.int .i64 0):=(br4 1 _ rfl).1;have y4f1:w4.frozen? ⟨w.heap.size+1,1,none⟩=false:=(br4 1 _ rfl).2;have y42:w4.cell? ⟨w.heap.size+1,2,none⟩=some (.string ⟨#[]⟩):=(br4 2 _ rfl).1;have y4f2:w4.frozen? ⟨w.heap.size+1,2,none⟩=false:=(br4 2 _ rfl).2;have y43:w4.cell? ⟨w.heap.size+1,3,none⟩=some (.int .i64 0):=(br4 3 _ rfl).1;have y4f3:w4.frozen? ⟨w.heap.size+1,3,none⟩=false:=(br4 3 _ rfl).2;have y44:w4.cell? ⟨w.heap.size+1,4,none⟩=some (.int .i64 0):=(br4 4 _ rfl).1;have y4f4:w4.frozen? ⟨w.heap.size+1,4,none⟩=false:=(br4 4 _ rfl).2;have x40:w4.cell? ⟨w1.heap.size,0,none⟩=some (.string p.core.kind):=(b44 0 _ rfl).1;have x4f0:w4.frozen? ⟨w1.heap.size,0,none⟩=false:=(b44 0 _ rfl).2;have x41:w4.cell? ⟨w1.heap.size,1,none⟩=some (.bool p.core.on):=(b44 1 _ rfl).1;have x4f1:w4.frozen? ⟨w1.heap.size,1,none⟩=false:=(b44 1 _ rfl).2;have x42:w4.cell? ⟨w1.heap.size,2,none⟩=some (.bool p.core.broken):=(b44 2 _ rfl).1;have x4f2:w4.frozen? ⟨w1.heap.size,2,none⟩=false:=(b44 2 _ rfl).2;have x43:w4.cell? ⟨w1.heap.size,3,none⟩=some (.slice A4 p.core.cells.length cap4):=(b44 3 _ rfl).1;have x4f3:w4.frozen? ⟨w1.heap.size,3,none⟩=false:=(b44 3 _ rfl).2;have x44:w4.cell? ⟨w1.heap.size,4,none⟩=some (.int .i64 p.core.count):=(b44 4 _ rfl).1;have x4f4:w4.frozen? ⟨w1.heap.size,4,none⟩=false:=(b44 4 _ rfl).2;have x45:w4.cell? ⟨w1.heap.size,5,none⟩=some (.slice A6 p.layers.length cap6):=(b44 5 _ rfl).1;have x4f5:w4.frozen? ⟨w1.heap.size,5,none⟩=false:=(b44 5 _ rfl).2;have C4:=Qd c4;have t4:w1.heap.size<w4.heap.size:=Nat.lt_of_lt_of_le tq c4.size;have t4a:w.heap.size<w4.heap.size:=(by omega);have t4b:w.heap.size+1<w4.heap.size:=(by omega);clear bz4 br4 b44;simp only [])|fail)
       all_goals
        go_wp2_with fail
        refine bodyPost_ret (v:=.tuple #[.agg #[.string p.core.kind,.bool p.core.on,.bool p.core.broken,.slice A4 p.core.cells.length cap4,.int .i64 p.core.count,.slice A6 p.layers.length cap6],.agg #[.int .i64 0,.int .i64 (Qs p p.layers.length),.string ⟨#[]⟩,.int .i64 0,.int .i64 0]]) (by simp only [results,Tryz.results81];go_simp) rfl ?_
        rw [HF.out,List.drop_length,ZT]
        refine⟨A4,cap4,A6,cap6,rfl,?_⟩
        exact Vv.ends (w:=w) HT.out Eq (by simp;omega) C4.out (U:=[w.heap.size,w.heap.size+1]) (by simp<;>omega) Qb.now
def Kv (l:List ByteArray):List QK:=[Ws l]
def Qa1 (l:List (List ByteArray)):QK:=.s l.length (l.flatMap Kv)
theorem QcY (l:List ByteArray):(Kv l).length=1:=rfl
theorem Qeg {w:World} {B:Nat} {l:List (List ByteArray)} {u:Value} (h:Rd w B (Qa1 l) u):∃A cap,u= .slice A l.length cap/\l.length<=cap/\cap<=maxLen/\Wd w B Kv 1 l A:=h.row QcY (by omega)
theorem QaO {w:World} {B:Nat} {l:List (List ByteArray)} {A:Option Addr} (h:Wd w B Kv 1 l A) (k:Nat) (hk:k<l.length):∃b off u,A=some ⟨b,off,none⟩/\b<B/\w.cell? ⟨b,off+k,none⟩=some u/\Rd w B (Ws l[k]) u:=by
 obtain⟨b,off,e,hb,hx⟩:=h k hk
 obtain⟨u,e0,d0⟩:=hx 0 _ rfl
 exact⟨b,off,u,e,hb,by simpa using e0,d0⟩
open Classical in
noncomputable def qr (l:List (List ByteArray)):List Qm×Bool:=if JJ l then(Kt l,true) else([],false)
theorem wD {l:List (List ByteArray)} (h:JJ l):qr l=(Kt l,true):=by unfold qr;rw [if_pos h]
theorem wZ {l:List (List ByteArray)} (h:¬JJ l):qr l=([],false):=by unfold qr;rw [if_neg h]
def Qd2 (r:List Qm×Bool) (w:World) (e:Ending) (w':World):Prop:=∃A cap,e= .returned (.tuple #[.slice A r.1.length cap,.bool r.2])/\Gd w w' (slots r.1) (.slice A r.1.length cap)
theorem Qb3:YU []=some ⟨false,Zh⟩:=rfl
theorem QbN {x:List ByteArray} {q:Qh} {rp:Ud} (h0:0<x.length) (hm:Yn x=(q,rp)) (hc:¬rp.code=0):YU x=none:=by
 cases x with
 |nil=>simp at h0
 |cons k r=>rw [YU,hm];simp only [hc,if_false]
theorem Qa7 {x:List ByteArray} {q:Qh} {rp:Ud} (h0:0<x.length) (hm:Yn x=(q,rp)) (hc:rp.code=0):YU x=some ⟨true,q⟩:=by
 cases x with
 |nil=>simp at h0
 |cons k r=>rw [YU,hm];simp only [hc,if_true]
theorem kg {l:List (List ByteArray)} {j:Nat} (hj:j<l.length) {s:Qm} (hs:YU l[j]=some s):(Kt (l.take (j+1))).flatMap Zo=(Kt (l.take j)).flatMap Zo++Zo s:=by
 unfold Kt
 rw [List.take_succ_eq_append_getElem hj,List.map_append,List.flatMap_append]
 simp [hs]
theorem ka {l:List (List ByteArray)} {j:Nat} (hj:j<l.length) (h:∀(i:Nat) (hi:i<l.length),i<j->(YU l[i]).isSome=true) {s:Qm} (hs:YU l[j]=some s):∀(i:Nat) (hi:i<l.length),i<j+1->(YU l[i]).isSome=true:=by
 intro i hi hij
 rcases Nat.lt_succ_iff_lt_or_eq.1 hij with h1|h1
 ·exact h i hi h1
 ·subst h1;rw [hs];rfl
theorem QdS {l:List (List ByteArray)} (h3:l.length=3) (h:∀(i:Nat) (hi:i<l.length),i<l.length->(YU l[i]).isSome=true):JJ l:=
 ⟨h3,fun x hx=>by obtain⟨i,hi,rfl⟩:=List.mem_iff_getElem.1 hx;exact h i hi hi⟩
theorem QbQ {l:List (List ByteArray)} {j:Nat} (hj:j<l.length) (h:YU l[j]=none):¬JJ l:=fun hf=>by
 have:=hf.2 _ (List.getElem_mem hj)
 rw [h] at this
 cases this
theorem ki {w w':World} {f:Bool} {p:Qh} {us:List Value} (h:YJ w w' (Wm p) us):YJ w w' (Zo ⟨f,p⟩) (.bool f::us):=h.cons_v
theorem Qeo {w w':World} (h:Qb [] w w'):YJ w w' (Wm Zh) [.string ⟨#[]⟩,.bool false,.bool false,.slice none 0 0,.int .i64 0,.slice none 0 0]:=
 (Kk [] h Zh rfl rfl).start (by simp)
theorem KJ (w:World) (vs:Array Value) (e:TypeId) (g:Nat) (hg:g=w.heap.size) {k:Nat} {v:Value} (h:vs[k]?=some v):(w.alloc (.cells vs e)).cell? ⟨g,k,none⟩=some v:=by subst hg;exact Xj w vs e h
theorem uf (f:Bool) (a:ByteArray) (b c:Bool) (A B:Option Addr) (n1 c1 n2 c2:Nat) (m:Int):∀u∈([.bool f,.string a,.bool b,.bool c,.slice A n1 c1,.int .i64 m,.slice B n2 c2]:List Value),u.oneCell'=true:=by
 intro u hu
 simp at hu
 rcases hu with rfl|rfl|rfl|rfl|rfl|rfl|rfl<;>rfl
theorem GR (l:List (List ByteArray)) (u:Value) (B:Nat) (w:World) (hl:l.length<=1048576) (hs:∀x∈l,x.length<=1048576) (r:Rd w B (Qa1 l) u) (hB:B<=w.heap.size):
  Calls Tryz.prog 55 #[u] w (Qd2 (qr l) w):=by
 obtain⟨A,cap,rfl,h0,h1,hrow⟩:=Qeg r
 unfold maxLen at h1
 clear r
 by_cases n3:l.length=3
 ·have hi3:((l.length:Int) !=3)=false:=by simp;omega
  have N3:=Qd n3
  clear n3
  go_enter Tryz.func55,Tryz.ntmps55
  go_wp2_with fail
  go_loopw [4,14] (fun v i wr=>∃(j:Nat) (A':Option Addr) (cap':Nat),j<=l.length/\i= .int .i64 j/\v= .slice A' j cap'/\XG w wr 99 7 (.slice A' j cap') j ((Kt (l.take j)).flatMap Zo)/\∀(i:Nat) (hi:i<l.length),i<j->(YU l[i]).isSome=true) (fun _ i _=>l.length-(intOf i).toNat)
  case atStart=>exact⟨0,none,0,Nat.zero_le _,rfl,rfl,XG.nil w _ _ (Qb.refl _ _),fun i hi h=>absurd h (Nat.not_lt_zero _)⟩
  case round=>
   obtain⟨j,A',cap',hj,rfl,rfl,hh,HN⟩:=hrel
   have HN:=Qd HN
   have HA:=Qd hh
   have hcg:=hh.chg
   have hsz:=hcg.size
   clear hh
   by_cases hlt:j<l.length
   ·obtain⟨b,off,u1,rfl,hb,q0,r1⟩:=QaO (hrow.cz hcg hB) j hlt
    obtain⟨A1,cap1,rfl,_,_,_⟩:=Yu r1
    have hx:=hs _ (List.getElem_mem hlt)
    by_cases hz:l[j].length=0
    ·have hnil:l[j]=[]:=List.eq_nil_of_length_eq_zero hz
     have HS:=Qd (show YU l[j]=some ⟨false,Zh⟩ by rw [hnil];rfl)
     have hzI:((l[j].length:Int)==0)=true:=by simp;omega
     clear hnil hz
     go_wp2_with (at_builtin;refine Xm rfl (.tmp 21) (.tmp 23) _ rfl 99 _ 7 88 Tryz.underlying33 J2 rfl (by omega) HA.out (us:=[.bool false,.string ⟨#[]⟩,.bool false,.bool false,.slice none 0 0,.int .i64 0,.slice none 0 0]) (dsE:=Zo ⟨false,Zh⟩) (ki (Qeo ((Qb.refl _ _).alloc _))) rfl (wr.heap.size) 1 rfl rfl (by intro i u hi;exact KJ _ _ _ _ (by simp) (by simpa using hi)) (uf _ _ _ _ _ _ _ _ _ _ _) (by omega) (by omega) ?_;intro A2 cap2 w5 hA2)
     go_roundw
     case rel=>exact⟨j+1,A2,cap2,by omega,by go_num,by go_num,by rw [kg hlt HS.out];exact hA2,ka hlt HN.out HS.out⟩
     case measure=>simp [intOf];omega
    ·have hzI:((l[j].length:Int)==0)=false:=beq_eq_false_iff_ne.2 (by omega)
     have hpos:0<l[j].length:=by omega
     obtain⟨q,rp,hq⟩:∃q rp,Yn l[j]=(q,rp):=⟨_,_,rfl⟩
     have mp:=GU l[j] _ B wr r1 (by omega) hx
     rw [hq] at mp
     have MP:=Qd mp
     have HQ:=Qd hq
     clear mp hq hz
     go_wp2_with fail
     refine MP.out.mono ?_
     rintro e w2 ⟨A7,cap7,A8,cap8,rfl,hN⟩
     have c2:=hN.chg
     have HN2:=Qd hN
     have t2:wr.heap.size<=w2.heap.size:=c2.size
     clear hN
     by_cases hcode:rp.code=0
     ·have hd:(rp.code !=0)=false:=by simp [hcode]
      have HS:=Qd (Qa7 hpos HQ.out hcode)
      clear hcode
      go_wp2_with (at_builtin;refine Xm rfl (.tmp 33) (.tmp 36) _ rfl 99 _ 7 88 Tryz.underlying33 J2 rfl (by omega) HA.out (us:=[.bool true,.string q.core.kind,.bool q.core.on,.bool q.core.broken,.slice A7 q.core.cells.length cap7,.int .i64 q.core.count,.slice A8 q.layers.length cap8]) (dsE:=Zo ⟨true,q⟩) (ki (HN2.out.later (((Qb.refl _ _).alloc _).alloc _ |>.alloc _))) rfl (w2.heap.size+1+1) 1 rfl rfl (by intro i u hi;exact KJ _ _ _ _ (by simp) (by simpa using hi)) (uf _ _ _ _ _ _ _ _ _ _ _) (by omega) (by omega) ?_;intro A2 cap2 w5 hA2)
      go_roundw
      case rel=>exact⟨j+1,A2,cap2,by omega,by go_num,by go_num,by rw [kg hlt HS.out];exact hA2,ka hlt HN.out HS.out⟩
      case measure=>simp [intOf];omega
     ·have hd:(rp.code !=0)=true:=by simp [hcode]
      have HS:=Qd (QbQ hlt (QbN hpos HQ.out hcode))
      clear hcode
      go_wp2_with fail
      go_ret2
      rw [wZ HS.out]
      exact⟨none,0,rfl,(XG.nil w 99 7 (((hcg.tz c2).alloc _).alloc _)).new⟩
   ·obtain rfl:j=l.length:=by omega
    have HA2:=HA.out
    rw [List.take_length] at HA2
    go_wp2_with fail
    go_ret2
    rw [wD (QdS N3.out HN.out)]
    have hlen:(Kt l).length=l.length:=by unfold Kt;simp
    refine⟨A',cap',?_,?_⟩
    ·dsimp only
     rw [hlen]
     rfl
    ·dsimp only
     rw [hlen]
     have:=HA2.new
     unfold slots
     rw [hlen]
     exact this
 ·have hi3:((l.length:Int) !=3)=true:=by simp;omega
  go_enter Tryz.func55,Tryz.ntmps55
  go_wp2_with fail
  go_ret2
  rw [wZ (fun h=>n3 h.1)]
  exact⟨none,0,rfl,(XG.nil w 99 7 (Qb.refl _ _)).new⟩
def VO (s:ByteArray):List ByteArray:=if s.size=0 then [] else QM 32 s
theorem Qdx (s:ByteArray):(VO s).length<=s.size+1:=by
 unfold VO
 split
 ·simp
 ·unfold QM
  rw [List.length_map]
  have:=JV 32 s.data.toList []
  rw [Zr] at this
  exact this
def Qab (l:List ByteArray):Prop:=l.length=3/\∀(k:Nat) (h:k<l.length),l[k].size=0∨(Yn (VO l[k])).2.code=0
theorem QbM {s:ByteArray} (h:(s.toList== [])=true):s.size=0:=by
 have h1:=beq_iff_eq.1 h
 rw [ByteArray.toList_eq] at h1
 rw [<-Zr,h1]
 rfl
theorem xO {s:ByteArray} (h:(s.toList== [])=false):¬s.size=0:=fun h0=>by
 rw [ByteArray.toList_eq,List.eq_nil_of_length_eq_zero ((Zr s).trans h0)] at h
 cases h
end Go.Proofs.YtlnkgcdeljhjcaaGreatDoor
