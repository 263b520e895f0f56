/- MakePart of both packages. Written by a program. / FillSlots of both packages. Written by a program. / FillSlots of the reference. Written by a program. / Plain Lean: the recipe of a shape, and which texts are shapes. Conditions: none. / Recipes of shapes, of the reference: l9Recipe, RecipeFace, IsShapes. -/
import Derived.Test.YtdlkbomojjmnlaaGreatDoorWraps
import Derived.Test.YtdlkbomojjmnlaaGreatDoorTexts
set_option maxRecDepth 100000
set_option maxHeartbeats 4000000
namespace Go.Proofs.YtdlkbomojjmnlaaGreatDoor
open Go.RowKit
/-- A block that holds values, and may be written. -/
def BoxM (W:World) (g:Nat) (vs:List Value):Prop:=∀j v,vs[j]?=some v->W.cell? ⟨g,j,none⟩=some v/\W.frozen? ⟨g,j,none⟩=false
theorem BoxM.keep {W W':World} {g:Nat} {vs:List Value} {T:List Nat} (h:BoxM W g vs) (hc:Chg T W W') (hg:g<W.heap.size) (hT:g∉T):BoxM W' g vs:=
 fun j v hj=>⟨(hc.cell (p:=⟨g,j,none⟩) hg hT).trans (h j v hj).1,(hc.frozen (p:=⟨g,j,none⟩) hg hT).trans (h j v hj).2⟩
theorem BoxM.new (w:World) (vs:List Value) (e:TypeId):BoxM (w.alloc (.cells vs.toArray e)) w.heap.size vs:=by
 intro j v hj
 exact⟨cell_lit _ _ _ (by simpa using hj),by unfold World.frozen?;rw [heap_alloc_new];simp⟩
theorem BoxM.newAt (w:World) (g:Nat) (vs:List Value) (e:TypeId) (hg:g=w.heap.size):BoxM (w.alloc (.cells vs.toArray e)) g vs:=by subst hg;exact BoxM.new w vs e
theorem BoxM.set {W:World} {g:Nat} {vs:List Value} (h:BoxM W g vs) (i:Nat) (v:Value) (hi:i<vs.length):BoxM (W.setCell ⟨g,i,none⟩ v) g (vs.set i v):=by
 intro j u hj
 rw [List.getElem?_set] at hj
 obtain⟨h1,h2⟩:=h i _ (List.getElem?_eq_getElem hi)
 by_cases hij:i=j
 ·subst hij
  rw [if_pos rfl,if_pos hi] at hj
  cases hj
  exact⟨World.cell?_setCell_same _ _ _ h1,by rw [World.frozen?_setCell];exact h2⟩
 ·rw [if_neg hij] at hj
  exact⟨(World.cell?_setCell_other _ _ _ _ (by simp<;>omega)).trans (h j u hj).1,by rw [World.frozen?_setCell];exact(h j u hj).2⟩
theorem part_rd {p:PartT} {w:World} {a b c d s3 s5:Value} {S:List Nat} (h:HasL w (partF p) [a,b,c,s3,d,s5] S):Rd w w.heap.size (cells p.core.cells) s3/\Rd w w.heap.size (layers p.layers) s5:=by
 have h1:=h.1
 rw [partF_eq] at h1
 simp only [OwnL] at h1
 obtain⟨u0,r0,_,_,e0,_,_,u1,r1,_,_,e1,_,_,u2,r2,_,_,e2,_,_,u3,r3,_,_,e3,_,o3,u4,r4,_,_,e4,_,_,u5,r5,_,_,e5,_,o5,_⟩:=h1
 cases e0;cases e1;cases e2;cases e3;cases e4;cases e5
 exact⟨Own.rd _ _ _ o3,Own.rd _ _ _ o5⟩
theorem newT_bare (T:List Nat) {w w':World} (hc:Chg T w w') (p:PartT) (h1:p.core.cells=[]) (h2:p.layers=[]):NewT T w w' (partF p) [.string p.core.kind,.bool p.core.on,.bool p.core.broken,.slice none 0 0,.int .i64 p.core.count,.slice none 0 0]:=by
 have o:∀ {α:Type} (F:α->List Dat),Own w' (.s ([]:List α).length (([]:List α).flatMap F)) (.slice none 0 0) []:=fun F=>by simp [Own]
 refine⟨[],⟨?_,List.nodup_nil⟩,by simp,hc⟩
 rw [partF_eq,h1,h2]
 have o1:Own w' (cells []) (.slice none 0 0) []:=o cellF
 have o2:Own w' (layers []) (.slice none 0 0) []:=o layerF
 simp only [OwnL]
 exact⟨_,_,[],[],rfl,rfl,by simp [Own],_,_,[],[],rfl,rfl,by simp [Own],_,_,[],[],rfl,rfl,by simp [Own],_,_,[],[],rfl,rfl,o1,_,_,[],[],rfl,rfl,by simp [Own],_,_,[],[],rfl,rfl,o2,rfl,rfl⟩
theorem NewT.ends {w wq wr w2 w3:World} {T U:List Nat} {ds:List Dat} {us:List Value} (h:NewT T wq wr ds us) (h0:Chg [] w wq) (hT:∀x,x∈T->w.heap.size<=x) (h12:Chg [] wr w2) (hU:∀x,x∈U->w.heap.size<=x/\x<wq.heap.size) (hc:Chg U w2 w3):NewL w w3 ds us:=by
 obtain⟨S,h1,h2,h3⟩:=h
 exact⟨S,(h1.keep h12 (by simp)).keep hc (fun x hx hxU=>by have:=h2 x hx;have:=(hU x hxU).2;omega),fun x hx=>Nat.le_trans h0.size (h2 x hx),((h0.trans h3 (fun x hx=>.inr (hT x hx))).trans0 h12).trans hc (fun x hx=>.inr (hU x hx).1)⟩
theorem NewL.fresh {wq wr w2 w3:World} {g:Nat} {ds:List Dat} {us:List Value} (h:NewL wr w2 ds us) (h0:Chg [g] wq wr) (hg:g<wr.heap.size) (hc:Chg [g] w2 w3):NewT [g] wq w3 ds us:=by
 obtain⟨S,h1,h2,h3⟩:=h
 exact⟨S,h1.keep hc (fun x hx=>by have:=h2 x hx;simp;omega),fun x hx=>Nat.le_trans h0.size (h2 x hx),(h0.trans0 h3).trans hc (fun x hx=>.inl hx)⟩
theorem wrapOf_core (p:PartT) (n:ByteArray):(wrapOf p n).1.core=p.core:=by
 unfold wrapOf
 split
 ·rfl
 ·split
  ·rfl
  ·split
   ·rfl
   ·split<;>rfl
theorem wrapOf_len (p:PartT) (n:ByteArray):(wrapOf p n).1.layers.length<=p.layers.length+1:=by
 unfold wrapOf
 split
 ·simp
 ·split
  ·simp
  ·split
   ·simp
   ·split<;>simp
theorem makeFold_stop {p:PartT} {l:List ByteArray} {j:Nat} (hj:j<l.length) {q:PartT} {r:RepT} (hw:wrapOf p l[j]=(q,r)) (hc:¬r.code=0):makeFold p (l.drop j)=(zeroPart,r):=by
 rw [List.drop_eq_getElem_cons hj,makeFold,hw]
 simp only [hc,if_false]
theorem makeFold_step {p:PartT} {l:List ByteArray} {j:Nat} (hj:j<l.length) {q:PartT} {r:RepT} (hw:wrapOf p l[j]=(q,r)) (hc:r.code=0):makeFold p (l.drop j)=makeFold q (l.drop (j+1)):=by
 rw [List.drop_eq_getElem_cons hj,makeFold,hw]
 simp only [hc,if_true]
theorem makeOf_none {k:ByteArray} {r:List ByteArray} (h:kindOf k=none):makeOf (k::r)=(zeroPart,repOf 7 0 0 0):=by rw [makeOf,h]
theorem makeOf_some {k:ByteArray} {r:List ByteArray} {f:Int} (h:kindOf k=some f):makeOf (k::r)=makeFold (newPart k) r:=by rw [makeOf,h]
theorem makePart_impl_any (l:List ByteArray) (u:Value) (B:Nat) (w:World) (r:Rd w B (strs l) u) (hB:B<=w.heap.size) (hl:l.length<=1048576):
  Calls Tryz.prog 56 #[u] w (PartRep (makeOf l) w):=by
 obtain⟨A,cap,rfl,h0,h1,hrow⟩:=strs_row r
 unfold maxLen at h1
 clear r
 have tt:w.heap.size<w.heap.size+1:=Nat.lt_succ_self _
 have tt2:w.heap.size<w.heap.size+1+1:=by omega
 cases l with
 |nil=>
  go_enter Tryz.func56,Tryz.ntmps56
  go_wp2_with fail
  refine bodyPost_ret (v:=.tuple #[.agg #[.string ⟨#[]⟩,.bool false,.bool false,.slice none 0 0,.int .i64 0,.slice none 0 0],.agg #[.int .i64 7,.int .i64 0,.string ⟨#[]⟩,.int .i64 0,.int .i64 0]]) (by simp only [results,Tryz.results56];go_simp) rfl ?_
  rw [makeOf]
  refine⟨none,0,none,0,rfl,?_⟩
  exact(newT_bare [w.heap.size,w.heap.size+1] (p:=zeroPart) Chg.now rfl rfl).done (w:=w) (w0:=w) (by simp<;>omega) (Chg.refl _ _)
 | cons k rest=>
  obtain⟨b,off,rfl,hb,q0⟩:=strs_cells hrow 0 (by simp)
  rw [Nat.add_zero] at q0
  simp only [List.getElem_cons_zero] at q0
  simp only [List.length_cons] at hl h0
  have hlenI:(0:Int)<((rest.length:Int)+1):=by omega
  have hbw:b<w.heap.size:=by omega
  have hlen1:(1:Int)<=(rest.length:Int)+1:=by omega
  have hlen2:(rest.length:Int)+1<=(cap:Int):=by omega
  have hlen3:(1:Int)<=(cap:Int):=by omega
  have hlenN:((rest.length:Int)+1-1)=(rest.length:Int):=by omega
  cases hk:kindOf k with
  |none=>
   have NP:=hid (fun W=>newPart_impl_none_any k hk W)
   have HK:=hid (makeOf_none (r:=rest) hk)
   clear hk
   go_enter Tryz.func56,Tryz.ntmps56
   go_wp2_with fail
   refine(NP.out _).mono ?_
   rintro e w1 ⟨rfl,c1⟩
   have E1:Chg [] w w1:=Chg.trans0 Chg.now c1
   have t1:w.heap.size+1<w1.heap.size:=by have:=c1.size;simp at this;omega
   have t1a:w.heap.size<w1.heap.size:=by omega
   have a0:w1.cell? ⟨w.heap.size,0,none⟩=some (.string ⟨#[]⟩):=(c1.cell (p:=⟨w.heap.size,0,none⟩) (by simp<;>omega) (by simp)).trans (by go_simp)
   have a1:w1.cell? ⟨w.heap.size,1,none⟩=some (.bool false):=(c1.cell (p:=⟨w.heap.size,1,none⟩) (by simp<;>omega) (by simp)).trans (by go_simp)
   have a2:w1.cell? ⟨w.heap.size,2,none⟩=some (.bool false):=(c1.cell (p:=⟨w.heap.size,2,none⟩) (by simp<;>omega) (by simp)).trans (by go_simp)
   have a3:w1.cell? ⟨w.heap.size,3,none⟩=some (.slice none 0 0):=(c1.cell (p:=⟨w.heap.size,3,none⟩) (by simp<;>omega) (by simp)).trans (by go_simp)
   have a4:w1.cell? ⟨w.heap.size,4,none⟩=some (.int .i64 0):=(c1.cell (p:=⟨w.heap.size,4,none⟩) (by simp<;>omega) (by simp)).trans (by go_simp)
   have a5:w1.cell? ⟨w.heap.size,5,none⟩=some (.slice none 0 0):=(c1.cell (p:=⟨w.heap.size,5,none⟩) (by simp<;>omega) (by simp)).trans (by go_simp)
   have af0:w1.frozen? ⟨w.heap.size,0,none⟩=false:=(c1.frozen (p:=⟨w.heap.size,0,none⟩) (by simp<;>omega) (by simp)).trans (by go_simp)
   have af1:w1.frozen? ⟨w.heap.size,1,none⟩=false:=(c1.frozen (p:=⟨w.heap.size,1,none⟩) (by simp<;>omega) (by simp)).trans (by go_simp)
   have af2:w1.frozen? ⟨w.heap.size,2,none⟩=false:=(c1.frozen (p:=⟨w.heap.size,2,none⟩) (by simp<;>omega) (by simp)).trans (by go_simp)
   have af3:w1.frozen? ⟨w.heap.size,3,none⟩=false:=(c1.frozen (p:=⟨w.heap.size,3,none⟩) (by simp<;>omega) (by simp)).trans (by go_simp)
   have af4:w1.frozen? ⟨w.heap.size,4,none⟩=false:=(c1.frozen (p:=⟨w.heap.size,4,none⟩) (by simp<;>omega) (by simp)).trans (by go_simp)
   have af5:w1.frozen? ⟨w.heap.size,5,none⟩=false:=(c1.frozen (p:=⟨w.heap.size,5,none⟩) (by simp<;>omega) (by simp)).trans (by go_simp)
   have b0:w1.cell? ⟨w.heap.size+1,0,none⟩=some (.int .i64 0):=(c1.cell (p:=⟨w.heap.size+1,0,none⟩) (by simp<;>omega) (by simp)).trans (by go_simp)
   have b1:w1.cell? ⟨w.heap.size+1,1,none⟩=some (.int .i64 0):=(c1.cell (p:=⟨w.heap.size+1,1,none⟩) (by simp<;>omega) (by simp)).trans (by go_simp)
   have b2:w1.cell? ⟨w.heap.size+1,2,none⟩=some (.string ⟨#[]⟩):=(c1.cell (p:=⟨w.heap.size+1,2,none⟩) (by simp<;>omega) (by simp)).trans (by go_simp)
   have b3:w1.cell? ⟨w.heap.size+1,3,none⟩=some (.int .i64 0):=(c1.cell (p:=⟨w.heap.size+1,3,none⟩) (by simp<;>omega) (by simp)).trans (by go_simp)
   have b4:w1.cell? ⟨w.heap.size+1,4,none⟩=some (.int .i64 0):=(c1.cell (p:=⟨w.heap.size+1,4,none⟩) (by simp<;>omega) (by simp)).trans (by go_simp)
   have bf0:w1.frozen? ⟨w.heap.size+1,0,none⟩=false:=(c1.frozen (p:=⟨w.heap.size+1,0,none⟩) (by simp<;>omega) (by simp)).trans (by go_simp)
   have bf1:w1.frozen? ⟨w.heap.size+1,1,none⟩=false:=(c1.frozen (p:=⟨w.heap.size+1,1,none⟩) (by simp<;>omega) (by simp)).trans (by go_simp)
   have bf2:w1.frozen? ⟨w.heap.size+1,2,none⟩=false:=(c1.frozen (p:=⟨w.heap.size+1,2,none⟩) (by simp<;>omega) (by simp)).trans (by go_simp)
   have bf3:w1.frozen? ⟨w.heap.size+1,3,none⟩=false:=(c1.frozen (p:=⟨w.heap.size+1,3,none⟩) (by simp<;>omega) (by simp)).trans (by go_simp)
   have bf4:w1.frozen? ⟨w.heap.size+1,4,none⟩=false:=(c1.frozen (p:=⟨w.heap.size+1,4,none⟩) (by simp<;>omega) (by simp)).trans (by go_simp)
   go_wp2_with fail
   have E1m:Chg [w.heap.size,w.heap.size+1] w w1:=E1.mono (by simp)
   refine bodyPost_ret (v:=.tuple #[.agg #[.string ⟨#[]⟩,.bool false,.bool false,.slice none 0 0,.int .i64 0,.slice none 0 0],.agg #[.int .i64 7,.int .i64 0,.string ⟨#[]⟩,.int .i64 0,.int .i64 0]]) (by simp only [results,Tryz.results56];go_simp) rfl ?_
   rw [HK.out]
   refine⟨none,0,none,0,rfl,?_⟩
   exact(newT_bare [w.heap.size,w.heap.size+1] (p:=zeroPart) (Chg.to E1m) rfl rfl).done (w:=w) (w0:=w) (by simp<;>omega) (Chg.refl _ _)
  | some f=>
   have NP:=hid (fun W=>newPart_impl_some_any k hk W)
   have HK:=hid (makeOf_some (r:=rest) hk)
   clear hk
   go_enter Tryz.func56,Tryz.ntmps56
   go_wp2_with fail
   refine(NP.out _).mono ?_
   rintro e w1 ⟨rfl,c1⟩
   have E1:Chg [] w w1:=Chg.trans0 Chg.now c1
   have t1:w.heap.size+1<w1.heap.size:=by have:=c1.size;simp at this;omega
   have t1a:w.heap.size<w1.heap.size:=by omega
   have bx0:BoxM w1 (w.heap.size) [.string ⟨#[]⟩,.bool false,.bool false,.slice none 0 0,.int .i64 0,.slice none 0 0]:=((BoxM.new w [.string ⟨#[]⟩,.bool false,.bool false,.slice none 0 0,.int .i64 0,.slice none 0 0] 50).keep (T:=[]) ((Chg.refl _ _).alloc _) (by simp) (by simp)).keep c1 (by simp<;>omega) (by simp)
   have bx1:BoxM w1 (w.heap.size+1) [.int .i64 0,.int .i64 0,.string ⟨#[]⟩,.int .i64 0,.int .i64 0]:=(BoxM.newAt (w.alloc (.cells #[.string ⟨#[]⟩,.bool false,.bool false,.slice none 0 0,.int .i64 0,.slice none 0 0] 50)) (w.heap.size+1) [.int .i64 0,.int .i64 0,.string ⟨#[]⟩,.int .i64 0,.int .i64 0] 93 (by simp)).keep c1 (by simp<;>omega) (by simp)
   have Eq:Chg [] w (w1.alloc (.cells #[.string k,.bool false,.bool false,.slice none 0 0,.int .i64 0,.slice none 0 0] 50)):=E1.alloc _
   have BX0:=hid (bx0.keep ((Chg.refl [] w1).alloc (.cells #[.string k,.bool false,.bool false,.slice none 0 0,.int .i64 0,.slice none 0 0] 50)) t1a (by simp))
   have BX1:=hid (bx1.keep ((Chg.refl [] w1).alloc (.cells #[.string k,.bool false,.bool false,.slice none 0 0,.int .i64 0,.slice none 0 0] 50)) t1 (by simp))
   clear bx0 bx1 c1
   have hcore0:(newPart k).core=⟨k,false,false,[],0⟩:=rfl
   have NT0:=hid (newT_bare [w1.heap.size] (w':=(w1.alloc (.cells #[.string k,.bool false,.bool false,.slice none 0 0,.int .i64 0,.slice none 0 0] 50))) (Chg.refl [w1.heap.size] (w1.alloc (.cells #[.string k,.bool false,.bool false,.slice none 0 0,.int .i64 0,.slice none 0 0] 50))) (newPart k) rfl rfl)
   have BX4:=hid (BoxM.new w1 [.string k,.bool false,.bool false,.slice none 0 0,.int .i64 0,.slice none 0 0] 50)
   go_wp2_with fail
   all_goals
    go_loopw [29] (fun i wr=>∃(j:Nat) (p:PartT) (A4:Option Addr) (cap4:Nat) (A6:Option Addr) (cap6:Nat),j<=rest.length/\i= .int .i64 j/\makeOf (k::rest)=makeFold p (rest.drop j)/\p.core=⟨k,false,false,[],0⟩/\p.layers.length<=j/\BoxM wr w1.heap.size [.string p.core.kind,.bool p.core.on,.bool p.core.broken,.slice A4 p.core.cells.length cap4,.int .i64 p.core.count,.slice A6 p.layers.length cap6] /\BoxM wr w.heap.size [.string ⟨#[]⟩,.bool false,.bool false,.slice none 0 0,.int .i64 0,.slice none 0 0] /\BoxM wr (w.heap.size+1) [.int .i64 0,.int .i64 0,.string ⟨#[]⟩,.int .i64 0,.int .i64 0] /\w1.heap.size<wr.heap.size/\NewT [w1.heap.size] (w1.alloc (.cells #[.string k,.bool false,.bool false,.slice none 0 0,.int .i64 0,.slice none 0 0] 50)) wr (partF p) [.string p.core.kind,.bool p.core.on,.bool p.core.broken,.slice A4 p.core.cells.length cap4,.int .i64 p.core.count,.slice A6 p.layers.length cap6]) (fun i _=>rest.length-(intOf i).toNat)
    case atStart=>exact⟨0,newPart k,none,0,none,0,Nat.zero_le _,rfl,HK.out,rfl,Nat.zero_le _,BX4.out,BX0.out,BX1.out,by simp,NT0.out⟩
    case round=>
     obtain⟨j,p,A4,cap4,A6,cap6,hj,rfl,hfold,hcore,hlay,bx4,bx0,bx1,tq,hNT⟩:=hrel
     have hcl:p.core.cells=[]:=by rw [hcore]
     have ELo:Chg [] w wr:=hNT.elim fun S h=>Eq.trans h.2.2 (fun x hx=>.inr (by simp at hx;omega))
     have HF:=hid hfold
     have HC:=hid hcore
     have HT:=hid hNT
     have BZ:=hid bx0
     have BR:=hid bx1
     have B4:=hid bx4
     have t0:w.heap.size<wr.heap.size:=by omega
     have t0a:w.heap.size+1<wr.heap.size:=by omega
     have p0:wr.cell? ⟨w1.heap.size,0,none⟩=some (.string p.core.kind):=(bx4 0 _ rfl).1
     have pf0:wr.frozen? ⟨w1.heap.size,0,none⟩=false:=(bx4 0 _ rfl).2
     have p1:wr.cell? ⟨w1.heap.size,1,none⟩=some (.bool p.core.on):=(bx4 1 _ rfl).1
     have pf1:wr.frozen? ⟨w1.heap.size,1,none⟩=false:=(bx4 1 _ rfl).2
     have p2:wr.cell? ⟨w1.heap.size,2,none⟩=some (.bool p.core.broken):=(bx4 2 _ rfl).1
     have pf2:wr.frozen? ⟨w1.heap.size,2,none⟩=false:=(bx4 2 _ rfl).2
     have p3:wr.cell? ⟨w1.heap.size,3,none⟩=some (.slice A4 p.core.cells.length cap4):=(bx4 3 _ rfl).1
     have pf3:wr.frozen? ⟨w1.heap.size,3,none⟩=false:=(bx4 3 _ rfl).2
     have p4:wr.cell? ⟨w1.heap.size,4,none⟩=some (.int .i64 p.core.count):=(bx4 4 _ rfl).1
     have pf4:wr.frozen? ⟨w1.heap.size,4,none⟩=false:=(bx4 4 _ rfl).2
     have p5:wr.cell? ⟨w1.heap.size,5,none⟩=some (.slice A6 p.layers.length cap6):=(bx4 5 _ rfl).1
     have pf5:wr.frozen? ⟨w1.heap.size,5,none⟩=false:=(bx4 5 _ rfl).2
     clear hfold hcore hNT bx0 bx1 bx4 hcl
     by_cases hlt:j<rest.length
     ·try(exfalso;omega)
      all_goals
       obtain⟨b',off',e',hb',q1⟩:=strs_cells (hrow.chg0 ELo hB) (j+1) (by simp;omega)
       cases e'
       simp only [List.getElem_cons_succ] at q1
       have q2:wr.cell? ⟨b,off+1+j,none⟩=some (.string rest[j]):=by rw [show off+1+j=off+(j+1) by omega];exact q1
       obtain⟨q,rp,hq⟩:∃q rp,wrapOf p rest[j]=(q,rp):=⟨_,_,rfl⟩
       have hqc:q.core=p.core:=by have:=wrapOf_core p rest[j];rw [hq] at this;exact this
       have hql:q.layers.length<=p.layers.length+1:=by have:=wrapOf_len p rest[j];rw [hq] at this;exact this
       have hr:=HT.out.elim (fun S h=>part_rd h.1)
       have wr1:=wrap_impl_any p rest[j] _ _ wr.heap.size wr hr.1 hr.2 (Nat.le_refl _) (by omega) (by rw [HC.out];simp) (by rw [HC.out];simp)
       rw [hq] at wr1
       have WR:=hid wr1
       have HQ:=hid hq
       have HQC:=hid hqc
       clear hr wr1 hq hqc
       go_wp2_with fail
       refine WR.out.mono ?_
       rintro e w2 ⟨A7,cap7,A8,cap8,rfl,hN⟩
       have c2:=hN.chg
       have HN2:=hid hN
       clear hN
       have bz2:=BZ.out.keep c2 t0 (by simp)
       have br2:=BR.out.keep c2 t0a (by simp)
       have b42:=B4.out.keep c2 tq (by simp)
       have z0:w2.cell? ⟨w.heap.size,0,none⟩=some (.string ⟨#[]⟩):=(bz2 0 _ rfl).1
       have zf0:w2.frozen? ⟨w.heap.size,0,none⟩=false:=(bz2 0 _ rfl).2
       have z1:w2.cell? ⟨w.heap.size,1,none⟩=some (.bool false):=(bz2 1 _ rfl).1
       have zf1:w2.frozen? ⟨w.heap.size,1,none⟩=false:=(bz2 1 _ rfl).2
       have z2:w2.cell? ⟨w.heap.size,2,none⟩=some (.bool false):=(bz2 2 _ rfl).1
       have zf2:w2.frozen? ⟨w.heap.size,2,none⟩=false:=(bz2 2 _ rfl).2
       have z3:w2.cell? ⟨w.heap.size,3,none⟩=some (.slice none 0 0):=(bz2 3 _ rfl).1
       have zf3:w2.frozen? ⟨w.heap.size,3,none⟩=false:=(bz2 3 _ rfl).2
       have z4:w2.cell? ⟨w.heap.size,4,none⟩=some (.int .i64 0):=(bz2 4 _ rfl).1
       have zf4:w2.frozen? ⟨w.heap.size,4,none⟩=false:=(bz2 4 _ rfl).2
       have z5:w2.cell? ⟨w.heap.size,5,none⟩=some (.slice none 0 0):=(bz2 5 _ rfl).1
       have zf5:w2.frozen? ⟨w.heap.size,5,none⟩=false:=(bz2 5 _ rfl).2
       have y0:w2.cell? ⟨w.heap.size+1,0,none⟩=some (.int .i64 0):=(br2 0 _ rfl).1
       have yf0:w2.frozen? ⟨w.heap.size+1,0,none⟩=false:=(br2 0 _ rfl).2
       have y1:w2.cell? ⟨w.heap.size+1,1,none⟩=some (.int .i64 0):=(br2 1 _ rfl).1
       have yf1:w2.frozen? ⟨w.heap.size+1,1,none⟩=false:=(br2 1 _ rfl).2
       have y2:w2.cell? ⟨w.heap.size+1,2,none⟩=some (.string ⟨#[]⟩):=(br2 2 _ rfl).1
       have yf2:w2.frozen? ⟨w.heap.size+1,2,none⟩=false:=(br2 2 _ rfl).2
       have y3:w2.cell? ⟨w.heap.size+1,3,none⟩=some (.int .i64 0):=(br2 3 _ rfl).1
       have yf3:w2.frozen? ⟨w.heap.size+1,3,none⟩=false:=(br2 3 _ rfl).2
       have y4:w2.cell? ⟨w.heap.size+1,4,none⟩=some (.int .i64 0):=(br2 4 _ rfl).1
       have yf4:w2.frozen? ⟨w.heap.size+1,4,none⟩=false:=(br2 4 _ rfl).2
       have x0:w2.cell? ⟨w1.heap.size,0,none⟩=some (.string p.core.kind):=(b42 0 _ rfl).1
       have xf0:w2.frozen? ⟨w1.heap.size,0,none⟩=false:=(b42 0 _ rfl).2
       have x1:w2.cell? ⟨w1.heap.size,1,none⟩=some (.bool p.core.on):=(b42 1 _ rfl).1
       have xf1:w2.frozen? ⟨w1.heap.size,1,none⟩=false:=(b42 1 _ rfl).2
       have x2:w2.cell? ⟨w1.heap.size,2,none⟩=some (.bool p.core.broken):=(b42 2 _ rfl).1
       have xf2:w2.frozen? ⟨w1.heap.size,2,none⟩=false:=(b42 2 _ rfl).2
       have x3:w2.cell? ⟨w1.heap.size,3,none⟩=some (.slice A4 p.core.cells.length cap4):=(b42 3 _ rfl).1
       have xf3:w2.frozen? ⟨w1.heap.size,3,none⟩=false:=(b42 3 _ rfl).2
       have x4:w2.cell? ⟨w1.heap.size,4,none⟩=some (.int .i64 p.core.count):=(b42 4 _ rfl).1
       have xf4:w2.frozen? ⟨w1.heap.size,4,none⟩=false:=(b42 4 _ rfl).2
       have x5:w2.cell? ⟨w1.heap.size,5,none⟩=some (.slice A6 p.layers.length cap6):=(b42 5 _ rfl).1
       have xf5:w2.frozen? ⟨w1.heap.size,5,none⟩=false:=(b42 5 _ rfl).2
       have BZ2:=hid bz2
       have BR2:=hid br2
       have t2:w1.heap.size<w2.heap.size:=Nat.lt_of_lt_of_le tq c2.size
       have t2a:w.heap.size<w2.heap.size:=by omega
       have t2b:w.heap.size+1<w2.heap.size:=by omega
       have n1:w1.heap.size≠w.heap.size:=by omega
       have n2:w1.heap.size≠w.heap.size+1:=by omega
       have HC2:=hid c2
       clear bz2 br2 b42 c2
       by_cases hcode:rp.code=0
       ·have hd:(rp.code !=0)=false:=by simp [hcode]
        have HCO:=hid hcode
        clear hcode
        go_wp2_with fail
        go_roundw
        case rel=>
         refine⟨j+1,q,A7,cap7,A8,cap8,by omega,by go_num,HF.out.trans (makeFold_step hlt HQ.out HCO.out),HQC.out.trans HC.out,by omega,?_,BZ2.out.keep (T:=[w1.heap.size]) Chg.now t2a (by simp;omega),BR2.out.keep (T:=[w1.heap.size]) Chg.now t2b (by simp;omega),by simp [World.setCell];omega,HN2.out.fresh (HT.out.elim fun S h=>h.2.2) tq Chg.now⟩
         have b42:=B4.out.keep HC2.out tq (by simp)
         exact((((((((b42.set 0 _ (by simp)).set 1 _ (by simp)).set 2 _ (by simp)).set 3 _ (by simp)).set 4 _ (by simp)).set 5 _ (by simp)).keep ((Chg.refl [] _).alloc _) (by simp [World.setCell];omega) (by simp)).keep ((Chg.refl [] _).alloc _) (by simp [World.setCell];omega) (by simp))
        case measure=>simp [intOf];omega
       ·have EL2:Chg [w.heap.size,w.heap.size+1] w w2:=(ELo.trans0 HC2.out).mono (by simp)
        have hd:(rp.code !=0)=true:=by simp [hcode]
        have HCO:=hid hcode
        clear hcode
        go_wp2_with fail
        go_region
        all_goals
         go_wp2_with fail
         refine bodyPost_ret (v:=.tuple #[.agg #[.string ⟨#[]⟩,.bool false,.bool false,.slice none 0 0,.int .i64 0,.slice none 0 0],.agg #[.int .i64 rp.code,.int .i64 rp.value,.string rp.text,.int .i64 rp.want,.int .i64 rp.had]]) (by simp only [results,Tryz.results56];go_simp) rfl ?_
         rw [HF.out,makeFold_stop hlt HQ.out HCO.out]
         refine⟨none,0,none,0,rfl,?_⟩
         exact(newT_bare [w.heap.size,w.heap.size+1] (p:=zeroPart) (Chg.to EL2) rfl rfl).done (w:=w) (w0:=w) (by simp<;>omega) (Chg.refl _ _)
     ·obtain rfl:j=rest.length:=by omega
      have hr:=HT.out.elim (fun S h=>part_rd h.1)
      have FO:=hid (fun W (hW:Chg [] wr W)=>faceOf_impl_any p (.slice A4 p.core.cells.length cap4) _ wr.heap.size W (hr.2.chg0 hW (Nat.le_refl _)) hW.size)
      have bz2:=BZ.out
      have br2:=BR.out
      have z0:wr.cell? ⟨w.heap.size,0,none⟩=some (.string ⟨#[]⟩):=(bz2 0 _ rfl).1
      have zf0:wr.frozen? ⟨w.heap.size,0,none⟩=false:=(bz2 0 _ rfl).2
      have z1:wr.cell? ⟨w.heap.size,1,none⟩=some (.bool false):=(bz2 1 _ rfl).1
      have zf1:wr.frozen? ⟨w.heap.size,1,none⟩=false:=(bz2 1 _ rfl).2
      have z2:wr.cell? ⟨w.heap.size,2,none⟩=some (.bool false):=(bz2 2 _ rfl).1
      have zf2:wr.frozen? ⟨w.heap.size,2,none⟩=false:=(bz2 2 _ rfl).2
      have z3:wr.cell? ⟨w.heap.size,3,none⟩=some (.slice none 0 0):=(bz2 3 _ rfl).1
      have zf3:wr.frozen? ⟨w.heap.size,3,none⟩=false:=(bz2 3 _ rfl).2
      have z4:wr.cell? ⟨w.heap.size,4,none⟩=some (.int .i64 0):=(bz2 4 _ rfl).1
      have zf4:wr.frozen? ⟨w.heap.size,4,none⟩=false:=(bz2 4 _ rfl).2
      have z5:wr.cell? ⟨w.heap.size,5,none⟩=some (.slice none 0 0):=(bz2 5 _ rfl).1
      have zf5:wr.frozen? ⟨w.heap.size,5,none⟩=false:=(bz2 5 _ rfl).2
      have y0:wr.cell? ⟨w.heap.size+1,0,none⟩=some (.int .i64 0):=(br2 0 _ rfl).1
      have yf0:wr.frozen? ⟨w.heap.size+1,0,none⟩=false:=(br2 0 _ rfl).2
      have y1:wr.cell? ⟨w.heap.size+1,1,none⟩=some (.int .i64 0):=(br2 1 _ rfl).1
      have yf1:wr.frozen? ⟨w.heap.size+1,1,none⟩=false:=(br2 1 _ rfl).2
      have y2:wr.cell? ⟨w.heap.size+1,2,none⟩=some (.string ⟨#[]⟩):=(br2 2 _ rfl).1
      have yf2:wr.frozen? ⟨w.heap.size+1,2,none⟩=false:=(br2 2 _ rfl).2
      have y3:wr.cell? ⟨w.heap.size+1,3,none⟩=some (.int .i64 0):=(br2 3 _ rfl).1
      have yf3:wr.frozen? ⟨w.heap.size+1,3,none⟩=false:=(br2 3 _ rfl).2
      have y4:wr.cell? ⟨w.heap.size+1,4,none⟩=some (.int .i64 0):=(br2 4 _ rfl).1
      have yf4:wr.frozen? ⟨w.heap.size+1,4,none⟩=false:=(br2 4 _ rfl).2
      clear hr bz2 br2
      go_wp2_with fail
      all_goals
       go_region_law (first|(go_simp;go_at_call 19;(with_reducible refine(FO.out _ (by first|exact Chg.refl _ _|exact(Chg.refl _ _).drew|exact(Chg.refl _ _).drew.drew)).mono ?_);rintro e w4 ⟨rfl,c4d⟩;have c4:Chg [] wr w4:=(by first|exact c4d|exact((Chg.refl [] wr).drew).trans0 c4d|exact((Chg.refl [] wr).drew.drew).trans0 c4d);have bz4:=BZ.out.keep c4 t0 (by simp);have br4:=BR.out.keep c4 t0a (by simp);have b44:=B4.out.keep c4 tq (by simp);have z40:w4.cell? ⟨w.heap.size,0,none⟩=some (.string ⟨#[]⟩):=(bz4 0 _ rfl).1;have z4f0:w4.frozen? ⟨w.heap.size,0,none⟩=false:=(bz4 0 _ rfl).2;have z41:w4.cell? ⟨w.heap.size,1,none⟩=some (.bool false):=(bz4 1 _ rfl).1;have z4f1:w4.frozen? ⟨w.heap.size,1,none⟩=false:=(bz4 1 _ rfl).2;have z42:w4.cell? ⟨w.heap.size,2,none⟩=some (.bool false):=(bz4 2 _ rfl).1;have z4f2:w4.frozen? ⟨w.heap.size,2,none⟩=false:=(bz4 2 _ rfl).2;have z43:w4.cell? ⟨w.heap.size,3,none⟩=some (.slice none 0 0):=(bz4 3 _ rfl).1;have z4f3:w4.frozen? ⟨w.heap.size,3,none⟩=false:=(bz4 3 _ rfl).2;have z44:w4.cell? ⟨w.heap.size,4,none⟩=some (.int .i64 0):=(bz4 4 _ rfl).1;have z4f4:w4.frozen? ⟨w.heap.size,4,none⟩=false:=(bz4 4 _ rfl).2;have z45:w4.cell? ⟨w.heap.size,5,none⟩=some (.slice none 0 0):=(bz4 5 _ rfl).1;have z4f5:w4.frozen? ⟨w.heap.size,5,none⟩=false:=(bz4 5 _ rfl).2;have y40:w4.cell? ⟨w.heap.size+1,0,none⟩=some (.int .i64 0):=(br4 0 _ rfl).1;have y4f0:w4.frozen? ⟨w.heap.size+1,0,none⟩=false:=(br4 0 _ rfl).2;have y41:w4.cell? ⟨w.heap.size+1,1,none⟩=some (.int .i64 0):=(br4 1 _ rfl).1;have y4f1:w4.frozen? ⟨w.heap.size+1,1,none⟩=false:=(br4 1 _ rfl).2;have y42:w4.cell? ⟨w.heap.size+1,2,none⟩=some (.string ⟨#[]⟩):=(br4 2 _ rfl).1;have y4f2:w4.frozen? ⟨w.heap.size+1,2,none⟩=false:=(br4 2 _ rfl).2;have y43:w4.cell? ⟨w.heap.size+1,3,none⟩=some (.int .i64 0):=(br4 3 _ rfl).1;have y4f3:w4.frozen? ⟨w.heap.size+1,3,none⟩=false:=(br4 3 _ rfl).2;have y44:w4.cell? ⟨w.heap.size+1,4,none⟩=some (.int .i64 0):=(br4 4 _ rfl).1;have y4f4:w4.frozen? ⟨w.heap.size+1,4,none⟩=false:=(br4 4 _ rfl).2;have x40:w4.cell? ⟨w1.heap.size,0,none⟩=some (.string p.core.kind):=(b44 0 _ rfl).1;have x4f0:w4.frozen? ⟨w1.heap.size,0,none⟩=false:=(b44 0 _ rfl).2;have x41:w4.cell? ⟨w1.heap.size,1,none⟩=some (.bool p.core.on):=(b44 1 _ rfl).1;have x4f1:w4.frozen? ⟨w1.heap.size,1,none⟩=false:=(b44 1 _ rfl).2;have x42:w4.cell? ⟨w1.heap.size,2,none⟩=some (.bool p.core.broken):=(b44 2 _ rfl).1;have x4f2:w4.frozen? ⟨w1.heap.size,2,none⟩=false:=(b44 2 _ rfl).2;have x43:w4.cell? ⟨w1.heap.size,3,none⟩=some (.slice A4 p.core.cells.length cap4):=(b44 3 _ rfl).1;have x4f3:w4.frozen? ⟨w1.heap.size,3,none⟩=false:=(b44 3 _ rfl).2;have x44:w4.cell? ⟨w1.heap.size,4,none⟩=some (.int .i64 p.core.count):=(b44 4 _ rfl).1;have x4f4:w4.frozen? ⟨w1.heap.size,4,none⟩=false:=(b44 4 _ rfl).2;have x45:w4.cell? ⟨w1.heap.size,5,none⟩=some (.slice A6 p.layers.length cap6):=(b44 5 _ rfl).1;have x4f5:w4.frozen? ⟨w1.heap.size,5,none⟩=false:=(b44 5 _ rfl).2;have C4:=hid c4;have t4:w1.heap.size<w4.heap.size:=Nat.lt_of_lt_of_le tq c4.size;have t4a:w.heap.size<w4.heap.size:=(by omega);have t4b:w.heap.size+1<w4.heap.size:=(by omega);clear bz4 br4 b44;simp only [])|fail)
       all_goals
        go_wp2_with fail
        refine bodyPost_ret (v:=.tuple #[.agg #[.string p.core.kind,.bool p.core.on,.bool p.core.broken,.slice A4 p.core.cells.length cap4,.int .i64 p.core.count,.slice A6 p.layers.length cap6],.agg #[.int .i64 0,.int .i64 (faceAt p p.layers.length),.string ⟨#[]⟩,.int .i64 0,.int .i64 0]]) (by simp only [results,Tryz.results56];go_simp) rfl ?_
        rw [HF.out,List.drop_length,makeFold]
        refine⟨A4,cap4,A6,cap6,rfl,?_⟩
        exact NewT.ends (w:=w) HT.out Eq (by simp;omega) C4.out (U:=[w.heap.size,w.heap.size+1]) (by simp<;>omega) Chg.now
theorem makePart_spec_any (l:List ByteArray) (u:Value) (B:Nat) (w:World) (r:Rd w B (strs l) u) (hB:B<=w.heap.size) (hl:l.length<=1048576):
  Calls Tryz.prog 72 #[u] w (PartRep (makeOf l) w):=by
 obtain⟨A,cap,rfl,h0,h1,hrow⟩:=strs_row r
 unfold maxLen at h1
 clear r
 have tt:w.heap.size<w.heap.size+1:=Nat.lt_succ_self _
 have tt2:w.heap.size<w.heap.size+1+1:=by omega
 cases l with
 |nil=>
  go_enter Tryz.func72,Tryz.ntmps72
  go_wp2_with fail
  refine bodyPost_ret (v:=.tuple #[.agg #[.string ⟨#[]⟩,.bool false,.bool false,.slice none 0 0,.int .i64 0,.slice none 0 0],.agg #[.int .i64 7,.int .i64 0,.string ⟨#[]⟩,.int .i64 0,.int .i64 0]]) (by simp only [results,Tryz.results72];go_simp) rfl ?_
  rw [makeOf]
  refine⟨none,0,none,0,rfl,?_⟩
  exact(newT_bare [w.heap.size,w.heap.size+1] (p:=zeroPart) Chg.now rfl rfl).done (w:=w) (w0:=w) (by simp<;>omega) (Chg.refl _ _)
 | cons k rest=>
  obtain⟨b,off,rfl,hb,q0⟩:=strs_cells hrow 0 (by simp)
  rw [Nat.add_zero] at q0
  simp only [List.getElem_cons_zero] at q0
  simp only [List.length_cons] at hl h0
  have hlenI:(0:Int)<((rest.length:Int)+1):=by omega
  have hbw:b<w.heap.size:=by omega
  have hlen1:(1:Int)<=(rest.length:Int)+1:=by omega
  have hlen2:(rest.length:Int)+1<=(cap:Int):=by omega
  have hlen3:(1:Int)<=(cap:Int):=by omega
  have hlenN:((rest.length:Int)+1-1)=(rest.length:Int):=by omega
  cases hk:kindOf k with
  |none=>
   have NP:=hid (fun W=>newPart_spec_none_any k hk W)
   have HK:=hid (makeOf_none (r:=rest) hk)
   clear hk
   go_enter Tryz.func72,Tryz.ntmps72
   go_wp2_with fail
   refine(NP.out _).mono ?_
   rintro e w1 ⟨rfl,c1⟩
   have E1:Chg [] w w1:=Chg.trans0 Chg.now c1
   have t1:w.heap.size+1<w1.heap.size:=by have:=c1.size;simp at this;omega
   have t1a:w.heap.size<w1.heap.size:=by omega
   have a0:w1.cell? ⟨w.heap.size,0,none⟩=some (.string ⟨#[]⟩):=(c1.cell (p:=⟨w.heap.size,0,none⟩) (by simp<;>omega) (by simp)).trans (by go_simp)
   have a1:w1.cell? ⟨w.heap.size,1,none⟩=some (.bool false):=(c1.cell (p:=⟨w.heap.size,1,none⟩) (by simp<;>omega) (by simp)).trans (by go_simp)
   have a2:w1.cell? ⟨w.heap.size,2,none⟩=some (.bool false):=(c1.cell (p:=⟨w.heap.size,2,none⟩) (by simp<;>omega) (by simp)).trans (by go_simp)
   have a3:w1.cell? ⟨w.heap.size,3,none⟩=some (.slice none 0 0):=(c1.cell (p:=⟨w.heap.size,3,none⟩) (by simp<;>omega) (by simp)).trans (by go_simp)
   have a4:w1.cell? ⟨w.heap.size,4,none⟩=some (.int .i64 0):=(c1.cell (p:=⟨w.heap.size,4,none⟩) (by simp<;>omega) (by simp)).trans (by go_simp)
   have a5:w1.cell? ⟨w.heap.size,5,none⟩=some (.slice none 0 0):=(c1.cell (p:=⟨w.heap.size,5,none⟩) (by simp<;>omega) (by simp)).trans (by go_simp)
   have af0:w1.frozen? ⟨w.heap.size,0,none⟩=false:=(c1.frozen (p:=⟨w.heap.size,0,none⟩) (by simp<;>omega) (by simp)).trans (by go_simp)
   have af1:w1.frozen? ⟨w.heap.size,1,none⟩=false:=(c1.frozen (p:=⟨w.heap.size,1,none⟩) (by simp<;>omega) (by simp)).trans (by go_simp)
   have af2:w1.frozen? ⟨w.heap.size,2,none⟩=false:=(c1.frozen (p:=⟨w.heap.size,2,none⟩) (by simp<;>omega) (by simp)).trans (by go_simp)
   have af3:w1.frozen? ⟨w.heap.size,3,none⟩=false:=(c1.frozen (p:=⟨w.heap.size,3,none⟩) (by simp<;>omega) (by simp)).trans (by go_simp)
   have af4:w1.frozen? ⟨w.heap.size,4,none⟩=false:=(c1.frozen (p:=⟨w.heap.size,4,none⟩) (by simp<;>omega) (by simp)).trans (by go_simp)
   have af5:w1.frozen? ⟨w.heap.size,5,none⟩=false:=(c1.frozen (p:=⟨w.heap.size,5,none⟩) (by simp<;>omega) (by simp)).trans (by go_simp)
   have b0:w1.cell? ⟨w.heap.size+1,0,none⟩=some (.int .i64 0):=(c1.cell (p:=⟨w.heap.size+1,0,none⟩) (by simp<;>omega) (by simp)).trans (by go_simp)
   have b1:w1.cell? ⟨w.heap.size+1,1,none⟩=some (.int .i64 0):=(c1.cell (p:=⟨w.heap.size+1,1,none⟩) (by simp<;>omega) (by simp)).trans (by go_simp)
   have b2:w1.cell? ⟨w.heap.size+1,2,none⟩=some (.string ⟨#[]⟩):=(c1.cell (p:=⟨w.heap.size+1,2,none⟩) (by simp<;>omega) (by simp)).trans (by go_simp)
   have b3:w1.cell? ⟨w.heap.size+1,3,none⟩=some (.int .i64 0):=(c1.cell (p:=⟨w.heap.size+1,3,none⟩) (by simp<;>omega) (by simp)).trans (by go_simp)
   have b4:w1.cell? ⟨w.heap.size+1,4,none⟩=some (.int .i64 0):=(c1.cell (p:=⟨w.heap.size+1,4,none⟩) (by simp<;>omega) (by simp)).trans (by go_simp)
   have bf0:w1.frozen? ⟨w.heap.size+1,0,none⟩=false:=(c1.frozen (p:=⟨w.heap.size+1,0,none⟩) (by simp<;>omega) (by simp)).trans (by go_simp)
   have bf1:w1.frozen? ⟨w.heap.size+1,1,none⟩=false:=(c1.frozen (p:=⟨w.heap.size+1,1,none⟩) (by simp<;>omega) (by simp)).trans (by go_simp)
   have bf2:w1.frozen? ⟨w.heap.size+1,2,none⟩=false:=(c1.frozen (p:=⟨w.heap.size+1,2,none⟩) (by simp<;>omega) (by simp)).trans (by go_simp)
   have bf3:w1.frozen? ⟨w.heap.size+1,3,none⟩=false:=(c1.frozen (p:=⟨w.heap.size+1,3,none⟩) (by simp<;>omega) (by simp)).trans (by go_simp)
   have bf4:w1.frozen? ⟨w.heap.size+1,4,none⟩=false:=(c1.frozen (p:=⟨w.heap.size+1,4,none⟩) (by simp<;>omega) (by simp)).trans (by go_simp)
   go_wp2_with fail
   have E1m:Chg [w.heap.size,w.heap.size+1] w w1:=E1.mono (by simp)
   refine bodyPost_ret (v:=.tuple #[.agg #[.string ⟨#[]⟩,.bool false,.bool false,.slice none 0 0,.int .i64 0,.slice none 0 0],.agg #[.int .i64 7,.int .i64 0,.string ⟨#[]⟩,.int .i64 0,.int .i64 0]]) (by simp only [results,Tryz.results72];go_simp) rfl ?_
   rw [HK.out]
   refine⟨none,0,none,0,rfl,?_⟩
   exact(newT_bare [w.heap.size,w.heap.size+1] (p:=zeroPart) (Chg.to E1m) rfl rfl).done (w:=w) (w0:=w) (by simp<;>omega) (Chg.refl _ _)
  | some f=>
   have NP:=hid (fun W=>newPart_spec_some_any k hk W)
   have HK:=hid (makeOf_some (r:=rest) hk)
   clear hk
   go_enter Tryz.func72,Tryz.ntmps72
   go_wp2_with fail
   refine(NP.out _).mono ?_
   rintro e w1 ⟨rfl,c1⟩
   have E1:Chg [] w w1:=Chg.trans0 Chg.now c1
   have t1:w.heap.size+1<w1.heap.size:=by have:=c1.size;simp at this;omega
   have t1a:w.heap.size<w1.heap.size:=by omega
   have bx0:BoxM w1 (w.heap.size) [.string ⟨#[]⟩,.bool false,.bool false,.slice none 0 0,.int .i64 0,.slice none 0 0]:=((BoxM.new w [.string ⟨#[]⟩,.bool false,.bool false,.slice none 0 0,.int .i64 0,.slice none 0 0] 50).keep (T:=[]) ((Chg.refl _ _).alloc _) (by simp) (by simp)).keep c1 (by simp<;>omega) (by simp)
   have bx1:BoxM w1 (w.heap.size+1) [.int .i64 0,.int .i64 0,.string ⟨#[]⟩,.int .i64 0,.int .i64 0]:=(BoxM.newAt (w.alloc (.cells #[.string ⟨#[]⟩,.bool false,.bool false,.slice none 0 0,.int .i64 0,.slice none 0 0] 50)) (w.heap.size+1) [.int .i64 0,.int .i64 0,.string ⟨#[]⟩,.int .i64 0,.int .i64 0] 93 (by simp)).keep c1 (by simp<;>omega) (by simp)
   have Eq:Chg [] w (w1.alloc (.cells #[.string k,.bool false,.bool false,.slice none 0 0,.int .i64 0,.slice none 0 0] 50)):=E1.alloc _
   have BX0:=hid (bx0.keep ((Chg.refl [] w1).alloc (.cells #[.string k,.bool false,.bool false,.slice none 0 0,.int .i64 0,.slice none 0 0] 50)) t1a (by simp))
   have BX1:=hid (bx1.keep ((Chg.refl [] w1).alloc (.cells #[.string k,.bool false,.bool false,.slice none 0 0,.int .i64 0,.slice none 0 0] 50)) t1 (by simp))
   clear bx0 bx1 c1
   have hcore0:(newPart k).core=⟨k,false,false,[],0⟩:=rfl
   have NT0:=hid (newT_bare [w1.heap.size] (w':=(w1.alloc (.cells #[.string k,.bool false,.bool false,.slice none 0 0,.int .i64 0,.slice none 0 0] 50))) (Chg.refl [w1.heap.size] (w1.alloc (.cells #[.string k,.bool false,.bool false,.slice none 0 0,.int .i64 0,.slice none 0 0] 50))) (newPart k) rfl rfl)
   have BX4:=hid (BoxM.new w1 [.string k,.bool false,.bool false,.slice none 0 0,.int .i64 0,.slice none 0 0] 50)
   go_wp2_with fail
   all_goals
    go_loopw [29] (fun i wr=>∃(j:Nat) (p:PartT) (A4:Option Addr) (cap4:Nat) (A6:Option Addr) (cap6:Nat),j<=rest.length/\i= .int .i64 j/\makeOf (k::rest)=makeFold p (rest.drop j)/\p.core=⟨k,false,false,[],0⟩/\p.layers.length<=j/\BoxM wr w1.heap.size [.string p.core.kind,.bool p.core.on,.bool p.core.broken,.slice A4 p.core.cells.length cap4,.int .i64 p.core.count,.slice A6 p.layers.length cap6] /\BoxM wr w.heap.size [.string ⟨#[]⟩,.bool false,.bool false,.slice none 0 0,.int .i64 0,.slice none 0 0] /\BoxM wr (w.heap.size+1) [.int .i64 0,.int .i64 0,.string ⟨#[]⟩,.int .i64 0,.int .i64 0] /\w1.heap.size<wr.heap.size/\NewT [w1.heap.size] (w1.alloc (.cells #[.string k,.bool false,.bool false,.slice none 0 0,.int .i64 0,.slice none 0 0] 50)) wr (partF p) [.string p.core.kind,.bool p.core.on,.bool p.core.broken,.slice A4 p.core.cells.length cap4,.int .i64 p.core.count,.slice A6 p.layers.length cap6]) (fun i _=>rest.length-(intOf i).toNat)
    case atStart=>exact⟨0,newPart k,none,0,none,0,Nat.zero_le _,rfl,HK.out,rfl,Nat.zero_le _,BX4.out,BX0.out,BX1.out,by simp,NT0.out⟩
    case round=>
     obtain⟨j,p,A4,cap4,A6,cap6,hj,rfl,hfold,hcore,hlay,bx4,bx0,bx1,tq,hNT⟩:=hrel
     have hcl:p.core.cells=[]:=by rw [hcore]
     have ELo:Chg [] w wr:=hNT.elim fun S h=>Eq.trans h.2.2 (fun x hx=>.inr (by simp at hx;omega))
     have HF:=hid hfold
     have HC:=hid hcore
     have HT:=hid hNT
     have BZ:=hid bx0
     have BR:=hid bx1
     have B4:=hid bx4
     have t0:w.heap.size<wr.heap.size:=by omega
     have t0a:w.heap.size+1<wr.heap.size:=by omega
     have p0:wr.cell? ⟨w1.heap.size,0,none⟩=some (.string p.core.kind):=(bx4 0 _ rfl).1
     have pf0:wr.frozen? ⟨w1.heap.size,0,none⟩=false:=(bx4 0 _ rfl).2
     have p1:wr.cell? ⟨w1.heap.size,1,none⟩=some (.bool p.core.on):=(bx4 1 _ rfl).1
     have pf1:wr.frozen? ⟨w1.heap.size,1,none⟩=false:=(bx4 1 _ rfl).2
     have p2:wr.cell? ⟨w1.heap.size,2,none⟩=some (.bool p.core.broken):=(bx4 2 _ rfl).1
     have pf2:wr.frozen? ⟨w1.heap.size,2,none⟩=false:=(bx4 2 _ rfl).2
     have p3:wr.cell? ⟨w1.heap.size,3,none⟩=some (.slice A4 p.core.cells.length cap4):=(bx4 3 _ rfl).1
     have pf3:wr.frozen? ⟨w1.heap.size,3,none⟩=false:=(bx4 3 _ rfl).2
     have p4:wr.cell? ⟨w1.heap.size,4,none⟩=some (.int .i64 p.core.count):=(bx4 4 _ rfl).1
     have pf4:wr.frozen? ⟨w1.heap.size,4,none⟩=false:=(bx4 4 _ rfl).2
     have p5:wr.cell? ⟨w1.heap.size,5,none⟩=some (.slice A6 p.layers.length cap6):=(bx4 5 _ rfl).1
     have pf5:wr.frozen? ⟨w1.heap.size,5,none⟩=false:=(bx4 5 _ rfl).2
     clear hfold hcore hNT bx0 bx1 bx4 hcl
     by_cases hlt:j<rest.length
     ·try(exfalso;omega)
      all_goals
       obtain⟨b',off',e',hb',q1⟩:=strs_cells (hrow.chg0 ELo hB) (j+1) (by simp;omega)
       cases e'
       simp only [List.getElem_cons_succ] at q1
       have q2:wr.cell? ⟨b,off+1+j,none⟩=some (.string rest[j]):=by rw [show off+1+j=off+(j+1) by omega];exact q1
       obtain⟨q,rp,hq⟩:∃q rp,wrapOf p rest[j]=(q,rp):=⟨_,_,rfl⟩
       have hqc:q.core=p.core:=by have:=wrapOf_core p rest[j];rw [hq] at this;exact this
       have hql:q.layers.length<=p.layers.length+1:=by have:=wrapOf_len p rest[j];rw [hq] at this;exact this
       have hr:=HT.out.elim (fun S h=>part_rd h.1)
       have wr1:=wrap_spec_any p rest[j] _ _ wr.heap.size wr hr.1 hr.2 (Nat.le_refl _) (by omega) (by rw [HC.out];simp) (by rw [HC.out];simp)
       rw [hq] at wr1
       have WR:=hid wr1
       have HQ:=hid hq
       have HQC:=hid hqc
       clear hr wr1 hq hqc
       go_wp2_with fail
       refine WR.out.mono ?_
       rintro e w2 ⟨A7,cap7,A8,cap8,rfl,hN⟩
       have c2:=hN.chg
       have HN2:=hid hN
       clear hN
       have bz2:=BZ.out.keep c2 t0 (by simp)
       have br2:=BR.out.keep c2 t0a (by simp)
       have b42:=B4.out.keep c2 tq (by simp)
       have z0:w2.cell? ⟨w.heap.size,0,none⟩=some (.string ⟨#[]⟩):=(bz2 0 _ rfl).1
       have zf0:w2.frozen? ⟨w.heap.size,0,none⟩=false:=(bz2 0 _ rfl).2
       have z1:w2.cell? ⟨w.heap.size,1,none⟩=some (.bool false):=(bz2 1 _ rfl).1
       have zf1:w2.frozen? ⟨w.heap.size,1,none⟩=false:=(bz2 1 _ rfl).2
       have z2:w2.cell? ⟨w.heap.size,2,none⟩=some (.bool false):=(bz2 2 _ rfl).1
       have zf2:w2.frozen? ⟨w.heap.size,2,none⟩=false:=(bz2 2 _ rfl).2
       have z3:w2.cell? ⟨w.heap.size,3,none⟩=some (.slice none 0 0):=(bz2 3 _ rfl).1
       have zf3:w2.frozen? ⟨w.heap.size,3,none⟩=false:=(bz2 3 _ rfl).2
       have z4:w2.cell? ⟨w.heap.size,4,none⟩=some (.int .i64 0):=(bz2 4 _ rfl).1
       have zf4:w2.frozen? ⟨w.heap.size,4,none⟩=false:=(bz2 4 _ rfl).2
       have z5:w2.cell? ⟨w.heap.size,5,none⟩=some (.slice none 0 0):=(bz2 5 _ rfl).1
       have zf5:w2.frozen? ⟨w.heap.size,5,none⟩=false:=(bz2 5 _ rfl).2
       have y0:w2.cell? ⟨w.heap.size+1,0,none⟩=some (.int .i64 0):=(br2 0 _ rfl).1
       have yf0:w2.frozen? ⟨w.heap.size+1,0,none⟩=false:=(br2 0 _ rfl).2
       have y1:w2.cell? ⟨w.heap.size+1,1,none⟩=some (.int .i64 0):=(br2 1 _ rfl).1
       have yf1:w2.frozen? ⟨w.heap.size+1,1,none⟩=false:=(br2 1 _ rfl).2
       have y2:w2.cell? ⟨w.heap.size+1,2,none⟩=some (.string ⟨#[]⟩):=(br2 2 _ rfl).1
       have yf2:w2.frozen? ⟨w.heap.size+1,2,none⟩=false:=(br2 2 _ rfl).2
       have y3:w2.cell? ⟨w.heap.size+1,3,none⟩=some (.int .i64 0):=(br2 3 _ rfl).1
       have yf3:w2.frozen? ⟨w.heap.size+1,3,none⟩=false:=(br2 3 _ rfl).2
       have y4:w2.cell? ⟨w.heap.size+1,4,none⟩=some (.int .i64 0):=(br2 4 _ rfl).1
       have yf4:w2.frozen? ⟨w.heap.size+1,4,none⟩=false:=(br2 4 _ rfl).2
       have x0:w2.cell? ⟨w1.heap.size,0,none⟩=some (.string p.core.kind):=(b42 0 _ rfl).1
       have xf0:w2.frozen? ⟨w1.heap.size,0,none⟩=false:=(b42 0 _ rfl).2
       have x1:w2.cell? ⟨w1.heap.size,1,none⟩=some (.bool p.core.on):=(b42 1 _ rfl).1
       have xf1:w2.frozen? ⟨w1.heap.size,1,none⟩=false:=(b42 1 _ rfl).2
       have x2:w2.cell? ⟨w1.heap.size,2,none⟩=some (.bool p.core.broken):=(b42 2 _ rfl).1
       have xf2:w2.frozen? ⟨w1.heap.size,2,none⟩=false:=(b42 2 _ rfl).2
       have x3:w2.cell? ⟨w1.heap.size,3,none⟩=some (.slice A4 p.core.cells.length cap4):=(b42 3 _ rfl).1
       have xf3:w2.frozen? ⟨w1.heap.size,3,none⟩=false:=(b42 3 _ rfl).2
       have x4:w2.cell? ⟨w1.heap.size,4,none⟩=some (.int .i64 p.core.count):=(b42 4 _ rfl).1
       have xf4:w2.frozen? ⟨w1.heap.size,4,none⟩=false:=(b42 4 _ rfl).2
       have x5:w2.cell? ⟨w1.heap.size,5,none⟩=some (.slice A6 p.layers.length cap6):=(b42 5 _ rfl).1
       have xf5:w2.frozen? ⟨w1.heap.size,5,none⟩=false:=(b42 5 _ rfl).2
       have BZ2:=hid bz2
       have BR2:=hid br2
       have t2:w1.heap.size<w2.heap.size:=Nat.lt_of_lt_of_le tq c2.size
       have t2a:w.heap.size<w2.heap.size:=by omega
       have t2b:w.heap.size+1<w2.heap.size:=by omega
       have n1:w1.heap.size≠w.heap.size:=by omega
       have n2:w1.heap.size≠w.heap.size+1:=by omega
       have HC2:=hid c2
       clear bz2 br2 b42 c2
       by_cases hcode:rp.code=0
       ·have hd:(rp.code !=0)=false:=by simp [hcode]
        have HCO:=hid hcode
        clear hcode
        go_wp2_with fail
        go_roundw
        case rel=>
         refine⟨j+1,q,A7,cap7,A8,cap8,by omega,by go_num,HF.out.trans (makeFold_step hlt HQ.out HCO.out),HQC.out.trans HC.out,by omega,?_,BZ2.out.keep (T:=[w1.heap.size]) Chg.now t2a (by simp;omega),BR2.out.keep (T:=[w1.heap.size]) Chg.now t2b (by simp;omega),by simp [World.setCell];omega,HN2.out.fresh (HT.out.elim fun S h=>h.2.2) tq Chg.now⟩
         have b42:=B4.out.keep HC2.out tq (by simp)
         exact((((((((b42.set 0 _ (by simp)).set 1 _ (by simp)).set 2 _ (by simp)).set 3 _ (by simp)).set 4 _ (by simp)).set 5 _ (by simp)).keep ((Chg.refl [] _).alloc _) (by simp [World.setCell];omega) (by simp)).keep ((Chg.refl [] _).alloc _) (by simp [World.setCell];omega) (by simp))
        case measure=>simp [intOf];omega
       ·have EL2:Chg [w.heap.size,w.heap.size+1] w w2:=(ELo.trans0 HC2.out).mono (by simp)
        have hd:(rp.code !=0)=true:=by simp [hcode]
        have HCO:=hid hcode
        clear hcode
        go_wp2_with fail
        go_region
        all_goals
         go_wp2_with fail
         refine bodyPost_ret (v:=.tuple #[.agg #[.string ⟨#[]⟩,.bool false,.bool false,.slice none 0 0,.int .i64 0,.slice none 0 0],.agg #[.int .i64 rp.code,.int .i64 rp.value,.string rp.text,.int .i64 rp.want,.int .i64 rp.had]]) (by simp only [results,Tryz.results72];go_simp) rfl ?_
         rw [HF.out,makeFold_stop hlt HQ.out HCO.out]
         refine⟨none,0,none,0,rfl,?_⟩
         exact(newT_bare [w.heap.size,w.heap.size+1] (p:=zeroPart) (Chg.to EL2) rfl rfl).done (w:=w) (w0:=w) (by simp<;>omega) (Chg.refl _ _)
     ·obtain rfl:j=rest.length:=by omega
      have hr:=HT.out.elim (fun S h=>part_rd h.1)
      have FO:=hid (fun W (hW:Chg [] wr W)=>faceOf_spec_any p (.slice A4 p.core.cells.length cap4) _ wr.heap.size W (hr.2.chg0 hW (Nat.le_refl _)) hW.size)
      have bz2:=BZ.out
      have br2:=BR.out
      have z0:wr.cell? ⟨w.heap.size,0,none⟩=some (.string ⟨#[]⟩):=(bz2 0 _ rfl).1
      have zf0:wr.frozen? ⟨w.heap.size,0,none⟩=false:=(bz2 0 _ rfl).2
      have z1:wr.cell? ⟨w.heap.size,1,none⟩=some (.bool false):=(bz2 1 _ rfl).1
      have zf1:wr.frozen? ⟨w.heap.size,1,none⟩=false:=(bz2 1 _ rfl).2
      have z2:wr.cell? ⟨w.heap.size,2,none⟩=some (.bool false):=(bz2 2 _ rfl).1
      have zf2:wr.frozen? ⟨w.heap.size,2,none⟩=false:=(bz2 2 _ rfl).2
      have z3:wr.cell? ⟨w.heap.size,3,none⟩=some (.slice none 0 0):=(bz2 3 _ rfl).1
      have zf3:wr.frozen? ⟨w.heap.size,3,none⟩=false:=(bz2 3 _ rfl).2
      have z4:wr.cell? ⟨w.heap.size,4,none⟩=some (.int .i64 0):=(bz2 4 _ rfl).1
      have zf4:wr.frozen? ⟨w.heap.size,4,none⟩=false:=(bz2 4 _ rfl).2
      have z5:wr.cell? ⟨w.heap.size,5,none⟩=some (.slice none 0 0):=(bz2 5 _ rfl).1
      have zf5:wr.frozen? ⟨w.heap.size,5,none⟩=false:=(bz2 5 _ rfl).2
      have y0:wr.cell? ⟨w.heap.size+1,0,none⟩=some (.int .i64 0):=(br2 0 _ rfl).1
      have yf0:wr.frozen? ⟨w.heap.size+1,0,none⟩=false:=(br2 0 _ rfl).2
      have y1:wr.cell? ⟨w.heap.size+1,1,none⟩=some (.int .i64 0):=(br2 1 _ rfl).1
      have yf1:wr.frozen? ⟨w.heap.size+1,1,none⟩=false:=(br2 1 _ rfl).2
      have y2:wr.cell? ⟨w.heap.size+1,2,none⟩=some (.string ⟨#[]⟩):=(br2 2 _ rfl).1
      have yf2:wr.frozen? ⟨w.heap.size+1,2,none⟩=false:=(br2 2 _ rfl).2
      have y3:wr.cell? ⟨w.heap.size+1,3,none⟩=some (.int .i64 0):=(br2 3 _ rfl).1
      have yf3:wr.frozen? ⟨w.heap.size+1,3,none⟩=false:=(br2 3 _ rfl).2
      have y4:wr.cell? ⟨w.heap.size+1,4,none⟩=some (.int .i64 0):=(br2 4 _ rfl).1
      have yf4:wr.frozen? ⟨w.heap.size+1,4,none⟩=false:=(br2 4 _ rfl).2
      clear hr bz2 br2
      go_wp2_with fail
      all_goals
       go_region_law (first|(go_simp;go_at_call 77;(with_reducible refine(FO.out _ (by first|exact Chg.refl _ _|exact(Chg.refl _ _).drew|exact(Chg.refl _ _).drew.drew)).mono ?_);rintro e w4 ⟨rfl,c4d⟩;have c4:Chg [] wr w4:=(by first|exact c4d|exact((Chg.refl [] wr).drew).trans0 c4d|exact((Chg.refl [] wr).drew.drew).trans0 c4d);have bz4:=BZ.out.keep c4 t0 (by simp);have br4:=BR.out.keep c4 t0a (by simp);have b44:=B4.out.keep c4 tq (by simp);have z40:w4.cell? ⟨w.heap.size,0,none⟩=some (.string ⟨#[]⟩):=(bz4 0 _ rfl).1;have z4f0:w4.frozen? ⟨w.heap.size,0,none⟩=false:=(bz4 0 _ rfl).2;have z41:w4.cell? ⟨w.heap.size,1,none⟩=some (.bool false):=(bz4 1 _ rfl).1;have z4f1:w4.frozen? ⟨w.heap.size,1,none⟩=false:=(bz4 1 _ rfl).2;have z42:w4.cell? ⟨w.heap.size,2,none⟩=some (.bool false):=(bz4 2 _ rfl).1;have z4f2:w4.frozen? ⟨w.heap.size,2,none⟩=false:=(bz4 2 _ rfl).2;have z43:w4.cell? ⟨w.heap.size,3,none⟩=some (.slice none 0 0):=(bz4 3 _ rfl).1;have z4f3:w4.frozen? ⟨w.heap.size,3,none⟩=false:=(bz4 3 _ rfl).2;have z44:w4.cell? ⟨w.heap.size,4,none⟩=some (.int .i64 0):=(bz4 4 _ rfl).1;have z4f4:w4.frozen? ⟨w.heap.size,4,none⟩=false:=(bz4 4 _ rfl).2;have z45:w4.cell? ⟨w.heap.size,5,none⟩=some (.slice none 0 0):=(bz4 5 _ rfl).1;have z4f5:w4.frozen? ⟨w.heap.size,5,none⟩=false:=(bz4 5 _ rfl).2;have y40:w4.cell? ⟨w.heap.size+1,0,none⟩=some (.int .i64 0):=(br4 0 _ rfl).1;have y4f0:w4.frozen? ⟨w.heap.size+1,0,none⟩=false:=(br4 0 _ rfl).2;have y41:w4.cell? ⟨w.heap.size+1,1,none⟩=some (.int .i64 0):=(br4 1 _ rfl).1;have y4f1:w4.frozen? ⟨w.heap.size+1,1,none⟩=false:=(br4 1 _ rfl).2;have y42:w4.cell? ⟨w.heap.size+1,2,none⟩=some (.string ⟨#[]⟩):=(br4 2 _ rfl).1;have y4f2:w4.frozen? ⟨w.heap.size+1,2,none⟩=false:=(br4 2 _ rfl).2;have y43:w4.cell? ⟨w.heap.size+1,3,none⟩=some (.int .i64 0):=(br4 3 _ rfl).1;have y4f3:w4.frozen? ⟨w.heap.size+1,3,none⟩=false:=(br4 3 _ rfl).2;have y44:w4.cell? ⟨w.heap.size+1,4,none⟩=some (.int .i64 0):=(br4 4 _ rfl).1;have y4f4:w4.frozen? ⟨w.heap.size+1,4,none⟩=false:=(br4 4 _ rfl).2;have x40:w4.cell? ⟨w1.heap.size,0,none⟩=some (.string p.core.kind):=(b44 0 _ rfl).1;have x4f0:w4.frozen? ⟨w1.heap.size,0,none⟩=false:=(b44 0 _ rfl).2;have x41:w4.cell? ⟨w1.heap.size,1,none⟩=some (.bool p.core.on):=(b44 1 _ rfl).1;have x4f1:w4.frozen? ⟨w1.heap.size,1,none⟩=false:=(b44 1 _ rfl).2;have x42:w4.cell? ⟨w1.heap.size,2,none⟩=some (.bool p.core.broken):=(b44 2 _ rfl).1;have x4f2:w4.frozen? ⟨w1.heap.size,2,none⟩=false:=(b44 2 _ rfl).2;have x43:w4.cell? ⟨w1.heap.size,3,none⟩=some (.slice A4 p.core.cells.length cap4):=(b44 3 _ rfl).1;have x4f3:w4.frozen? ⟨w1.heap.size,3,none⟩=false:=(b44 3 _ rfl).2;have x44:w4.cell? ⟨w1.heap.size,4,none⟩=some (.int .i64 p.core.count):=(b44 4 _ rfl).1;have x4f4:w4.frozen? ⟨w1.heap.size,4,none⟩=false:=(b44 4 _ rfl).2;have x45:w4.cell? ⟨w1.heap.size,5,none⟩=some (.slice A6 p.layers.length cap6):=(b44 5 _ rfl).1;have x4f5:w4.frozen? ⟨w1.heap.size,5,none⟩=false:=(b44 5 _ rfl).2;have C4:=hid c4;have t4:w1.heap.size<w4.heap.size:=Nat.lt_of_lt_of_le tq c4.size;have t4a:w.heap.size<w4.heap.size:=(by omega);have t4b:w.heap.size+1<w4.heap.size:=(by omega);clear bz4 br4 b44;simp only [])|fail)
       all_goals
        go_wp2_with fail
        refine bodyPost_ret (v:=.tuple #[.agg #[.string p.core.kind,.bool p.core.on,.bool p.core.broken,.slice A4 p.core.cells.length cap4,.int .i64 p.core.count,.slice A6 p.layers.length cap6],.agg #[.int .i64 0,.int .i64 (faceAt p p.layers.length),.string ⟨#[]⟩,.int .i64 0,.int .i64 0]]) (by simp only [results,Tryz.results72];go_simp) rfl ?_
        rw [HF.out,List.drop_length,makeFold]
        refine⟨A4,cap4,A6,cap6,rfl,?_⟩
        exact NewT.ends (w:=w) HT.out Eq (by simp;omega) C4.out (U:=[w.heap.size,w.heap.size+1]) (by simp<;>omega) Chg.now
def strssC (l:List ByteArray):List Dat:=[strs l]
def strss (l:List (List ByteArray)):Dat:=.s l.length (l.flatMap strssC)
theorem strssC_len (l:List ByteArray):(strssC l).length=1:=rfl
theorem strss_row {w:World} {B:Nat} {l:List (List ByteArray)} {u:Value} (h:Rd w B (strss l) u):∃A cap,u= .slice A l.length cap/\l.length<=cap/\cap<=maxLen/\RowAt w B strssC 1 l A:=h.row strssC_len (by omega)
theorem strss_cells {w:World} {B:Nat} {l:List (List ByteArray)} {A:Option Addr} (h:RowAt w B strssC 1 l A) (k:Nat) (hk:k<l.length):∃b off u,A=some ⟨b,off,none⟩/\b<B/\w.cell? ⟨b,off+k,none⟩=some u/\Rd w B (strs l[k]) u:=by
 obtain⟨b,off,e,hb,hx⟩:=h k hk
 obtain⟨u,e0,d0⟩:=hx 0 _ rfl
 exact⟨b,off,u,e,hb,by simpa using e0,d0⟩
open Classical in
noncomputable def fillRes (l:List (List ByteArray)):List SlotT×Bool:=if FillOk l then(fillSl l,true) else([],false)
theorem fillRes_ok {l:List (List ByteArray)} (h:FillOk l):fillRes l=(fillSl l,true):=by unfold fillRes;rw [if_pos h]
theorem fillRes_no {l:List (List ByteArray)} (h:¬FillOk l):fillRes l=([],false):=by unfold fillRes;rw [if_neg h]
def FillGives (r:List SlotT×Bool) (w:World) (e:Ending) (w':World):Prop:=∃A cap,e= .returned (.tuple #[.slice A r.1.length cap,.bool r.2])/\New w w' (slots r.1) (.slice A r.1.length cap)
theorem slotOf_bad {x:List ByteArray} {q:PartT} {rp:RepT} (h0:0<x.length) (hm:makeOf x=(q,rp)) (hc:¬rp.code=0):slotOf x=none:=by
 cases x with
 |nil=>simp at h0
 |cons k r=>rw [slotOf,hm];simp only [hc,if_false]
theorem slotOf_good {x:List ByteArray} {q:PartT} {rp:RepT} (h0:0<x.length) (hm:makeOf x=(q,rp)) (hc:rp.code=0):slotOf x=some ⟨true,q⟩:=by
 cases x with
 |nil=>simp at h0
 |cons k r=>rw [slotOf,hm];simp only [hc,if_true]
theorem fill_next {l:List (List ByteArray)} {j:Nat} (hj:j<l.length) {s:SlotT} (hs:slotOf l[j]=some s):(fillSl (l.take (j+1))).flatMap slotF=(fillSl (l.take j)).flatMap slotF++slotF s:=by
 unfold fillSl
 rw [List.take_succ_eq_append_getElem hj,List.map_append,List.flatMap_append]
 simp [hs]
theorem some_next {l:List (List ByteArray)} {j:Nat} (hj:j<l.length) (h:∀(i:Nat) (hi:i<l.length),i<j->(slotOf l[i]).isSome=true) {s:SlotT} (hs:slotOf l[j]=some s):∀(i:Nat) (hi:i<l.length),i<j+1->(slotOf l[i]).isSome=true:=by
 intro i hi hij
 rcases Nat.lt_succ_iff_lt_or_eq.1 hij with h1|h1
 ·exact h i hi h1
 ·subst h1;rw [hs];rfl
theorem fillOk_of {l:List (List ByteArray)} (h3:l.length=3) (h:∀(i:Nat) (hi:i<l.length),i<l.length->(slotOf l[i]).isSome=true):FillOk l:=
 ⟨h3,fun x hx=>by obtain⟨i,hi,rfl⟩:=List.mem_iff_getElem.1 hx;exact h i hi hi⟩
theorem fillOk_not {l:List (List ByteArray)} {j:Nat} (hj:j<l.length) (h:slotOf l[j]=none):¬FillOk l:=fun hf=>by
 have:=hf.2 _ (List.getElem_mem hj)
 rw [h] at this
 cases this
theorem newL_slot {w w':World} {f:Bool} {p:PartT} {us:List Value} (h:NewL w w' (partF p) us):NewL w w' (slotF ⟨f,p⟩) (.bool f::us):=h.cons_v
theorem newL_zero {w w':World} (h:Chg [] w w'):NewL w w' (partF zeroPart) [.string ⟨#[]⟩,.bool false,.bool false,.slice none 0 0,.int .i64 0,.slice none 0 0]:=
 (newT_bare [] h zeroPart rfl rfl).start (by simp)
theorem cell_litAt (w:World) (vs:Array Value) (e:TypeId) (g:Nat) (hg:g=w.heap.size) {k:Nat} {v:Value} (h:vs[k]?=some v):(w.alloc (.cells vs e)).cell? ⟨g,k,none⟩=some v:=by subst hg;exact cell_lit w vs e h
theorem seven_one (f:Bool) (a:ByteArray) (b c:Bool) (A B:Option Addr) (n1 c1 n2 c2:Nat) (m:Int):∀u∈([.bool f,.string a,.bool b,.bool c,.slice A n1 c1,.int .i64 m,.slice B n2 c2]:List Value),u.oneCell'=true:=by
 intro u hu
 simp at hu
 rcases hu with rfl|rfl|rfl|rfl|rfl|rfl|rfl<;>rfl
theorem fillSlots_impl_any (l:List (List ByteArray)) (u:Value) (B:Nat) (w:World) (hl:l.length<=1048576) (hs:∀x∈l,x.length<=1048576) (r:Rd w B (strss l) u) (hB:B<=w.heap.size):
  Calls Tryz.prog 22 #[u] w (FillGives (fillRes l) w):=by
 obtain⟨A,cap,rfl,h0,h1,hrow⟩:=strss_row r
 unfold maxLen at h1
 clear r
 by_cases n3:l.length=3
 ·have hi3:((l.length:Int) !=3)=false:=by simp;omega
  have N3:=hid n3
  clear n3
  go_enter Tryz.func22,Tryz.ntmps22
  go_wp2_with fail
  go_loopw [4,14] (fun v i wr=>∃(j:Nat) (A':Option Addr) (cap':Nat),j<=l.length/\i= .int .i64 j/\v= .slice A' j cap'/\App w wr 52 7 (.slice A' j cap') j ((fillSl (l.take j)).flatMap slotF)/\∀(i:Nat) (hi:i<l.length),i<j->(slotOf l[i]).isSome=true) (fun _ i _=>l.length-(intOf i).toNat)
  case atStart=>exact⟨0,none,0,Nat.zero_le _,rfl,rfl,App.nil w _ _ (Chg.refl _ _),fun i hi h=>absurd h (Nat.not_lt_zero _)⟩
  case round=>
   obtain⟨j,A',cap',hj,rfl,rfl,hh,HN⟩:=hrel
   have HN:=hid HN
   have HA:=hid hh
   have hcg:=hh.chg
   have hsz:=hcg.size
   clear hh
   by_cases hlt:j<l.length
   ·obtain⟨b,off,u1,rfl,hb,q0,r1⟩:=strss_cells (hrow.chg0 hcg hB) j hlt
    obtain⟨A1,cap1,rfl,_,_,_⟩:=strs_row r1
    have hx:=hs _ (List.getElem_mem hlt)
    by_cases hz:l[j].length=0
    ·have hnil:l[j]=[]:=List.eq_nil_of_length_eq_zero hz
     have HS:=hid (show slotOf l[j]=some ⟨false,zeroPart⟩ by rw [hnil];rfl)
     have hzI:((l[j].length:Int)==0)=true:=by simp;omega
     clear hnil hz
     go_wp2_with (at_builtin;refine wpList_app rfl (.tmp 21) (.tmp 23) _ rfl 52 _ 7 88 Tryz.underlying26 slot_info rfl (by omega) HA.out (us:=[.bool false,.string ⟨#[]⟩,.bool false,.bool false,.slice none 0 0,.int .i64 0,.slice none 0 0]) (dsE:=slotF ⟨false,zeroPart⟩) (newL_slot (newL_zero ((Chg.refl _ _).alloc _))) rfl (wr.heap.size) 1 rfl rfl (by intro i u hi;exact cell_litAt _ _ _ _ (by simp) (by simpa using hi)) (seven_one _ _ _ _ _ _ _ _ _ _ _) (by omega) (by omega) ?_;intro A2 cap2 w5 hA2)
     go_roundw
     case rel=>exact⟨j+1,A2,cap2,by omega,by go_num,by go_num,by rw [fill_next hlt HS.out];exact hA2,some_next hlt HN.out HS.out⟩
     case measure=>simp [intOf];omega
    ·have hzI:((l[j].length:Int)==0)=false:=beq_eq_false_iff_ne.2 (by omega)
     have hpos:0<l[j].length:=by omega
     obtain⟨q,rp,hq⟩:∃q rp,makeOf l[j]=(q,rp):=⟨_,_,rfl⟩
     have mp:=makePart_impl_any l[j] _ B wr r1 (by omega) hx
     rw [hq] at mp
     have MP:=hid mp
     have HQ:=hid hq
     clear mp hq hz
     go_wp2_with fail
     refine MP.out.mono ?_
     rintro e w2 ⟨A7,cap7,A8,cap8,rfl,hN⟩
     have c2:=hN.chg
     have HN2:=hid hN
     have t2:wr.heap.size<=w2.heap.size:=c2.size
     clear hN
     by_cases hcode:rp.code=0
     ·have hd:(rp.code !=0)=false:=by simp [hcode]
      have HS:=hid (slotOf_good hpos HQ.out hcode)
      clear hcode
      go_wp2_with (at_builtin;refine wpList_app rfl (.tmp 33) (.tmp 36) _ rfl 52 _ 7 88 Tryz.underlying26 slot_info rfl (by omega) HA.out (us:=[.bool true,.string q.core.kind,.bool q.core.on,.bool q.core.broken,.slice A7 q.core.cells.length cap7,.int .i64 q.core.count,.slice A8 q.layers.length cap8]) (dsE:=slotF ⟨true,q⟩) (newL_slot (HN2.out.later (((Chg.refl _ _).alloc _).alloc _ |>.alloc _))) rfl (w2.heap.size+1+1) 1 rfl rfl (by intro i u hi;exact cell_litAt _ _ _ _ (by simp) (by simpa using hi)) (seven_one _ _ _ _ _ _ _ _ _ _ _) (by omega) (by omega) ?_;intro A2 cap2 w5 hA2)
      go_roundw
      case rel=>exact⟨j+1,A2,cap2,by omega,by go_num,by go_num,by rw [fill_next hlt HS.out];exact hA2,some_next hlt HN.out HS.out⟩
      case measure=>simp [intOf];omega
     ·have hd:(rp.code !=0)=true:=by simp [hcode]
      have HS:=hid (fillOk_not hlt (slotOf_bad hpos HQ.out hcode))
      clear hcode
      go_wp2_with fail
      go_ret2
      rw [fillRes_no HS.out]
      exact⟨none,0,rfl,(App.nil w 52 7 (((hcg.trans0 c2).alloc _).alloc _)).new⟩
   ·obtain rfl:j=l.length:=by omega
    have HA2:=HA.out
    rw [List.take_length] at HA2
    go_wp2_with fail
    go_ret2
    rw [fillRes_ok (fillOk_of N3.out HN.out)]
    have hlen:(fillSl l).length=l.length:=by unfold fillSl;simp
    refine⟨A',cap',?_,?_⟩
    ·dsimp only
     rw [hlen]
     rfl
    ·dsimp only
     rw [hlen]
     have:=HA2.new
     unfold slots
     rw [hlen]
     exact this
 ·have hi3:((l.length:Int) !=3)=true:=by simp;omega
  go_enter Tryz.func22,Tryz.ntmps22
  go_wp2_with fail
  go_ret2
  rw [fillRes_no (fun h=>n3 h.1)]
  exact⟨none,0,rfl,(App.nil w 52 7 (Chg.refl _ _)).new⟩
theorem fillSlots_spec_any (l:List (List ByteArray)) (u:Value) (B:Nat) (w:World) (hl:l.length<=1048576) (hs:∀x∈l,x.length<=1048576) (r:Rd w B (strss l) u) (hB:B<=w.heap.size):
  Calls Tryz.prog 39 #[u] w (FillGives (fillRes l) w):=by
 obtain⟨A,cap,rfl,h0,h1,hrow⟩:=strss_row r
 unfold maxLen at h1
 clear r
 go_enter Tryz.func39,Tryz.ntmps39
 go_wp2_with fail
 go_loopw [4,12] (fun v i wr=>∃(j:Nat) (A':Option Addr) (cap':Nat),j<=l.length/\i= .int .i64 j/\v= .slice A' j cap'/\App w wr 52 7 (.slice A' j cap') j ((fillSl (l.take j)).flatMap slotF)/\∀(i:Nat) (hi:i<l.length),i<j->(slotOf l[i]).isSome=true) (fun _ i _=>l.length-(intOf i).toNat)
 case atStart=>exact⟨0,_,0,Nat.zero_le _,rfl,rfl,App.empty w 52 7 (Chg.refl _ _),fun i hi h=>absurd h (Nat.not_lt_zero _)⟩
 case round=>
  obtain⟨j,A',cap',hj,rfl,rfl,hh,HN⟩:=hrel
  have HN:=hid HN
  have HA:=hid hh
  have hcg:=hh.chg
  have hsz:=hcg.size
  clear hh
  by_cases hlt:j<l.length
  ·obtain⟨b,off,u1,rfl,hb,q0,r1⟩:=strss_cells (hrow.chg0 hcg hB) j hlt
   obtain⟨A1,cap1,rfl,_,_,_⟩:=strs_row r1
   have hx:=hs _ (List.getElem_mem hlt)
   obtain⟨q,rp,hq⟩:∃q rp,makeOf l[j]=(q,rp):=⟨_,_,rfl⟩
   have mp:=makePart_spec_any l[j] _ B wr r1 (by omega) hx
   rw [hq] at mp
   have MP:=hid mp
   have HQ:=hid hq
   clear mp hq
   by_cases hz:l[j].length=0
   ·have hnil:l[j]=[]:=List.eq_nil_of_length_eq_zero hz
    have HS:=hid (show slotOf l[j]=some ⟨false,q⟩ by have:=HQ.out;rw [hnil] at this ⊢;rw [makeOf] at this;cases this;rfl)
    have HZ:=hid hz
    clear hnil hz
    go_wp2_with fail
    refine MP.out.mono ?_
    rintro e w2 ⟨A7,cap7,A8,cap8,rfl,hN⟩
    have HN2:=hid hN
    clear hN
    obtain⟨n,hn⟩:∃n,n=l[j].length:=⟨_,rfl⟩
    have hn0:n=0:=hn.trans HZ.out
    rw [<-hn]
    clear hn
    subst hn0
    go_wp2_with (at_builtin;refine wpList_app rfl (.tmp 30) (.tmp 36) _ rfl 52 _ 7 88 Tryz.underlying26 slot_info rfl (by omega) HA.out (us:=[.bool false,.string q.core.kind,.bool q.core.on,.bool q.core.broken,.slice A7 q.core.cells.length cap7,.int .i64 q.core.count,.slice A8 q.layers.length cap8]) (dsE:=slotF ⟨false,q⟩) (newL_slot (HN2.out.later (((Chg.refl _ _).alloc _).alloc _ |>.alloc _))) rfl (w2.heap.size+1+1) 1 rfl rfl (by intro i u hi;exact cell_litAt _ _ _ _ (by simp) (by simpa using hi)) (seven_one _ _ _ _ _ _ _ _ _ _ _) (by omega) (by omega) ?_;intro A2 cap2 w5 hA2)
    go_roundw
    case rel=>exact⟨j+1,A2,cap2,by omega,by go_num,by go_num,by rw [fill_next hlt HS.out];exact hA2,some_next hlt HN.out HS.out⟩
    case measure=>simp [intOf];omega
   ·have hzI:(0:Int)<(l[j].length:Int):=by omega
    have hpos:0<l[j].length:=by omega
    clear hz
    go_wp2_with fail
    refine MP.out.mono ?_
    rintro e w2 ⟨A7,cap7,A8,cap8,rfl,hN⟩
    have c2:=hN.chg
    have HN2:=hid hN
    clear hN
    by_cases hcode:rp.code=0
    ·have hd:(rp.code !=0)=false:=by simp [hcode]
     have HS:=hid (slotOf_good hpos HQ.out hcode)
     clear hcode
     go_wp2_with (at_builtin;refine wpList_app rfl (.tmp 30) (.tmp 36) _ rfl 52 _ 7 88 Tryz.underlying26 slot_info rfl (by omega) HA.out (us:=[.bool true,.string q.core.kind,.bool q.core.on,.bool q.core.broken,.slice A7 q.core.cells.length cap7,.int .i64 q.core.count,.slice A8 q.layers.length cap8]) (dsE:=slotF ⟨true,q⟩) (newL_slot (HN2.out.later (((Chg.refl _ _).alloc _).alloc _ |>.alloc _))) rfl (w2.heap.size+1+1) 1 rfl rfl (by intro i u hi;exact cell_litAt _ _ _ _ (by simp) (by simpa using hi)) (seven_one _ _ _ _ _ _ _ _ _ _ _) (by omega) (by omega) ?_;intro A2 cap2 w5 hA2)
     go_roundw
     case rel=>exact⟨j+1,A2,cap2,by omega,by go_num,by go_num,by rw [fill_next hlt HS.out];exact hA2,some_next hlt HN.out HS.out⟩
     case measure=>simp [intOf];omega
    ·have hd:(rp.code !=0)=true:=by simp [hcode]
     have HS:=hid (fillOk_not hlt (slotOf_bad hpos HQ.out hcode))
     clear hcode
     go_wp2_with fail
     go_ret2
     rw [fillRes_no HS.out]
     exact⟨_,0,rfl,(App.emptyAt w 52 7 _ (((hcg.trans0 c2).alloc _).alloc _) (by simp)).new⟩
  ·obtain rfl:j=l.length:=by omega
   have HA2:=HA.out
   rw [List.take_length] at HA2
   by_cases n3:l.length=3
   ·have hi3:((l.length:Int) !=3)=false:=by simp;omega
    have N3:=hid n3
    clear n3
    go_wp2_with fail
    go_ret2
    rw [fillRes_ok (fillOk_of N3.out HN.out)]
    have hlen:(fillSl l).length=l.length:=by unfold fillSl;simp
    refine⟨A',cap',?_,?_⟩
    ·dsimp only
     rw [hlen]
     rfl
    ·dsimp only
     rw [hlen]
     have:=HA2.new
     unfold slots
     rw [hlen]
     exact this
   ·have hi3:((l.length:Int) !=3)=true:=by simp;omega
    go_wp2_with fail
    go_ret2
    rw [fillRes_no (fun h=>n3 h.1)]
    exact⟨_,0,rfl,(App.emptyAt w 52 7 _ hcg rfl).new⟩
/-- The recipe of a shape. -/
def rcp (s:ByteArray):List ByteArray:=if s.size=0 then [] else splitS 32 s
open Classical in
noncomputable def faceRes (l:List ByteArray):Int×Bool:=if(makeOf l).2.code=0 then((makeOf l).2.value,true) else(0,false)
theorem recipeFace_spec_any (l:List ByteArray) (u:Value) (B:Nat) (w:World) (r:Rd w B (strs l) u) (hB:B<=w.heap.size) (hl:l.length<=1048576):
  Calls Tryz.prog 109 #[u] w (fun e w'=>e= .returned (.tuple #[.int .i64 (faceRes l).1,.bool (faceRes l).2])/\Chg [] w w'):=by
 obtain⟨q,rp,hq⟩:∃q rp,makeOf l=(q,rp):=⟨_,_,rfl⟩
 have mp:=makePart_spec_any l u B w r hB hl
 obtain⟨A,cap,rfl,_,_,_⟩:=strs_row r
 rw [hq] at mp
 have MP:=hid mp
 clear mp
 by_cases hcode:rp.code=0
 ·have hd:(rp.code !=0)=false:=by simp [hcode]
  have hf:faceRes l=(rp.value,true):=by unfold faceRes;rw [hq];simp only [hcode,if_true]
  rw [hf]
  clear hcode hq hf
  go_enter Tryz.func109,Tryz.ntmps109
  go_wp2_with fail
  refine MP.out.mono ?_
  rintro e w2 ⟨A7,cap7,A8,cap8,rfl,hN⟩
  have c2:=hN.chg
  clear hN
  go_wp2_with fail
  go_ret2
  exact⟨rfl,(c2.alloc _).alloc _⟩
 ·have hd:(rp.code !=0)=true:=by simp [hcode]
  have hf:faceRes l=(0,false):=by unfold faceRes;rw [hq];simp only [hcode,if_false]
  rw [hf]
  clear hcode hq hf
  go_enter Tryz.func109,Tryz.ntmps109
  go_wp2_with fail
  refine MP.out.mono ?_
  rintro e w2 ⟨A7,cap7,A8,cap8,rfl,hN⟩
  have c2:=hN.chg
  clear hN
  go_wp2_with fail
  go_ret2
  exact⟨rfl,(c2.alloc _).alloc _⟩
end Go.Proofs.YtdlkbomojjmnlaaGreatDoor
