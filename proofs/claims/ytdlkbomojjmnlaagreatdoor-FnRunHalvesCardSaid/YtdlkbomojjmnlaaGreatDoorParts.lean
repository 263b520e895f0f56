/- IsCore of both packages. / The face of a part below a layer, IsPart, of both packages. Written by a program. / IsSlots of both packages. Written by a program. -/
import Derived.Test.YtdlkbomojjmnlaaGreatDoorNames
set_option maxRecDepth 100000
set_option maxHeartbeats 4000000
namespace Go.Proofs.YtdlkbomojjmnlaaGreatDoor
open Go.RowKit

def CoreOk (p:CoreT):Prop:=∃f,kindOf p.kind=some f/\CellsOk p.cells/\(0<p.cells.length->has f 1=true)/\IsNum p.count/\¬(p.on=true/\p.broken=true)/\(has f 0=true∨(p.on=false/\p.broken=false))
theorem look_mem {α:Type} {s:List UInt8} {x:α}:∀ {l:List (List UInt8×α)},look s l=some x->∃n,(n,x)∈l
 | [],h=>by simp [look] at h
 | (n,y)::r,h=>by
  rw [look] at h
  split at h
  ·cases h;exact⟨n,by simp⟩
  ·obtain⟨m,hm⟩:=look_mem h
   exact⟨m,by simp [hm]⟩
theorem kindOf_face {s:ByteArray} {f:Int} (h:kindOf s=some f):IsF f:=by
 obtain⟨n,hn⟩:=look_mem h
 have:∀y∈kinds,IsF y.2:=by unfold IsF;decide
 exact this _ hn
theorem and2_bits:∀f:Fin 64,(bits .and .i64 ((f.1:Nat):Int) 2==0)=!(has ((f.1:Nat):Int) 1):=by decide+kernel
theorem and1_bits:∀f:Fin 64,(bits .and .i64 ((f.1:Nat):Int) 1==1)=has ((f.1:Nat):Int) 0:=by decide+kernel
theorem and2 {f:Int} (h:IsF f):(bits .and .i64 f 2==0)=!(has f 1):=by
 obtain⟨h0,h1⟩:=h
 have:=and2_bits ⟨f.toNat,by omega⟩
 simpa only [Int.toNat_of_nonneg h0] using this
theorem and1 {f:Int} (h:IsF f):(bits .and .i64 f 1==1)=has f 0:=by
 obtain⟨h0,h1⟩:=h
 have:=and1_bits ⟨f.toNat,by omega⟩
 simpa only [Int.toNat_of_nonneg h0] using this
theorem coreOk_none {p:CoreT} (h:kindOf p.kind=none):¬CoreOk p:=by
 rintro⟨f,hf,_⟩
 rw [h] at hf
 cases hf
theorem coreOk_some {p:CoreT} {f:Int} (h:kindOf p.kind=some f):CoreOk p↔(CellsOk p.cells/\(0<p.cells.length->has f 1=true)/\IsNum p.count/\¬(p.on=true/\p.broken=true)/\(has f 0=true∨(p.on=false/\p.broken=false))):=by
 constructor
 ·rintro⟨g,hg,r⟩
  rw [h] at hg
  cases hg
  exact r
 ·exact fun r=>⟨f,h,r⟩
theorem OptIs.some_ {o:Option Int} {f:Int} {w:World} (h:o=some f) (e:Ending) (w':World) (hb:OptIs o w e w'):e= .returned (.tuple #[.int .i64 f,.bool true])/\w'=w:=by subst h;exact hb
theorem OptIs.none_ {o:Option Int} {w:World} (h:o=none) (e:Ending) (w':World) (hb:OptIs o w e w'):e= .returned (.tuple #[.int .i64 0,.bool false])/\w'=w:=by subst h;exact hb
theorem OptPost.some_ {o:Option Int} {f:Int} {w:World} (h:o=some f) (e:Ending) (w':World) (hb:OptPost o w e w'):e= .returned (.tuple #[.int .i64 f,.bool true])/\Chg [] w w':=by subst h;exact hb
theorem OptPost.none_ {o:Option Int} {w:World} (h:o=none) (e:Ending) (w':World) (hb:OptPost o w e w'):e= .returned (.tuple #[.int .i64 0,.bool false])/\Chg [] w w':=by subst h;exact hb
theorem BoolIs.eq_ {p:Prop} {w:World} (b:Bool) (h:p=(b=true)) (e:Ending) (w':World) (hb:BoolIs p w e w'):e= .returned (.bool b)/\w'=w:=by
 obtain⟨t,rfl,ht,c⟩:=hb
 refine⟨?_,c⟩
 subst h
 cases t<;>cases b<;>simp_all

theorem isCore_impl_any (p:CoreT) (u3:Value) (B:Nat) (w:World) (r:Rd w B (cells p.cells) u3) (hB:B<=w.heap.size) (hl:p.cells.length<=1048576) (hs:∀c∈p.cells,c.key.size<=1048576):
  Calls Tryz.prog 85 #[.agg #[.string p.kind,.bool p.on,.bool p.broken,u3,.int .i64 p.count]] w (BoolPost (CoreOk p) w):=by
 obtain⟨A,cap,rfl,h0,h1,hrow⟩:=cells_row r
 unfold maxLen at h1
 have tt:w.heap.size<w.heap.size+1:=Nat.lt_succ_self _
 cases hk:kindOf p.kind with
 |none=>
  have KF:=hid (fun W=>(kindFace_impl_any p.kind W).mono (OptIs.none_ hk))
  have CA:=hid (coreOk_none hk)
  clear hk
  go_enter Tryz.func85,Tryz.ntmps85
  go_wp2_with fail
  refine(KF.out _).mono ?_
  rintro e w1 ⟨rfl,rfl⟩
  go_wp2_with fail
  go_ret
  exact⟨_,rfl,⟨fun h=>by simp at h,fun h=>(CA.out h).elim⟩,(Chg.refl _ _).alloc _⟩
 | some f=>
  have KF:=hid (fun W=>(kindFace_impl_any p.kind W).mono (OptIs.some_ hk))
  have hf:=kindOf_face hk
  have hb1:=and1 hf
  have hb2:=and2 hf
  have IFF:=hid (coreOk_some hk)
  clear hk hf
  by_cases n1:CellsOk p.cells
  ·have CC:=hid (fun W (hW:Chg [] w W)=>(isCells_impl_any p.cells _ B W (r.chg0 hW hB) (by have:=hW.size;omega) hl hs).mono (BoolPost.pos n1))
   have N1:=hid n1
   clear n1
   go_enter Tryz.func85,Tryz.ntmps85
   go_wp2_with fail
   refine(KF.out _).mono ?_
   rintro e w1 ⟨rfl,rfl⟩
   go_wp2_with fail
   refine(CC.out _ ((Chg.refl _ _).alloc _)).mono ?_
   rintro e w2 ⟨rfl,c2⟩
   have x1:w2.cell? ⟨w.heap.size,1,none⟩=some (.bool p.on):=(c2.cell (p:=⟨w.heap.size,1,none⟩) (by simp) (by simp)).trans (by go_simp)
   have x2:w2.cell? ⟨w.heap.size,2,none⟩=some (.bool p.broken):=(c2.cell (p:=⟨w.heap.size,2,none⟩) (by simp) (by simp)).trans (by go_simp)
   have x3:w2.cell? ⟨w.heap.size,3,none⟩=some (.slice A p.cells.length cap):=(c2.cell (p:=⟨w.heap.size,3,none⟩) (by simp) (by simp)).trans (by go_simp)
   have x4:w2.cell? ⟨w.heap.size,4,none⟩=some (.int .i64 p.count):=(c2.cell (p:=⟨w.heap.size,4,none⟩) (by simp) (by simp)).trans (by go_simp)
   have E:Chg [] w w2:=((Chg.refl _ _).alloc _).trans0 c2
   by_cases n0:0<p.cells.length
   ·cases hH:has f 1
    ·have CA:Hid (¬CoreOk p):=hid (fun h=>by have:=(IFF.out.1 h).2.1 n0;rw [hH] at this;cases this)
     simp only [hH] at hb2
     go_wp2_with fail
     go_ret
     exact⟨_,rfl,⟨fun h=>by simp at h,fun h=>(CA.out h).elim⟩,E⟩
    ·simp only [hH] at hb2
     by_cases n2:IsNum p.count
     ·have NU:=hid (fun W=>(isNumber_any p.count W).mono (BoolIs.pos n2))
      have N2:=hid n2
      clear n2
      go_wp2_with fail
      refine(NU.out _).mono ?_
      rintro e w3 ⟨rfl,rfl⟩
      cases hO:p.on<;>cases hR:p.broken<;>cases hF:has f 0
      all_goals
       simp only [hO,hR,hF] at x1 x2 hb1
       go_wp2_with fail
       go_ret
       refine⟨_,rfl,?_,E⟩
       rw [IFF.out]
       simp [N1.out,N2.out,hO,hR,hF,n0,hH]

     ·have NU:=hid (fun W=>(isNumber_any p.count W).mono (BoolIs.neg n2))
      have CA:Hid (¬CoreOk p):=hid (fun h=>n2 (IFF.out.1 h).2.2.1)
      clear n2
      go_wp2_with fail
      refine(NU.out _).mono ?_
      rintro e w3 ⟨rfl,rfl⟩
      go_wp2_with fail
      go_ret
      exact⟨_,rfl,⟨fun h=>by simp at h,fun h=>(CA.out h).elim⟩,E⟩

   ·have hH:(p.cells.length:Int)=0:=by omega
    have hz:p.cells.length=0:=by omega
    by_cases n2:IsNum p.count
    ·have NU:=hid (fun W=>(isNumber_any p.count W).mono (BoolIs.pos n2))
     have N2:=hid n2
     clear n2
     go_wp2_with fail
     refine(NU.out _).mono ?_
     rintro e w3 ⟨rfl,rfl⟩
     cases hO:p.on<;>cases hR:p.broken<;>cases hF:has f 0
     all_goals
      simp only [hO,hR,hF] at x1 x2 hb1
      go_wp2_with fail
      go_ret
      refine⟨_,rfl,?_,E⟩
      rw [IFF.out]
      simp [N1.out,N2.out,hO,hR,hF,hz]

    ·have NU:=hid (fun W=>(isNumber_any p.count W).mono (BoolIs.neg n2))
     have CA:Hid (¬CoreOk p):=hid (fun h=>n2 (IFF.out.1 h).2.2.1)
     clear n2
     go_wp2_with fail
     refine(NU.out _).mono ?_
     rintro e w3 ⟨rfl,rfl⟩
     go_wp2_with fail
     go_ret
     exact⟨_,rfl,⟨fun h=>by simp at h,fun h=>(CA.out h).elim⟩,E⟩

  ·have CC:=hid (fun W (hW:Chg [] w W)=>(isCells_impl_any p.cells _ B W (r.chg0 hW hB) (by have:=hW.size;omega) hl hs).mono (BoolPost.neg n1))
   have CA:Hid (¬CoreOk p):=hid (fun h=>n1 (IFF.out.1 h).1)
   clear n1
   go_enter Tryz.func85,Tryz.ntmps85
   go_wp2_with fail
   refine(KF.out _).mono ?_
   rintro e w1 ⟨rfl,rfl⟩
   go_wp2_with fail
   refine(CC.out _ ((Chg.refl _ _).alloc _)).mono ?_
   rintro e w2 ⟨rfl,c2⟩
   go_wp2_with fail
   go_ret
   exact⟨_,rfl,⟨fun h=>by simp at h,fun h=>(CA.out h).elim⟩,((Chg.refl _ _).alloc _).trans0 c2⟩
theorem isCore_spec_any (p:CoreT) (u3:Value) (B:Nat) (w:World) (r:Rd w B (cells p.cells) u3) (hB:B<=w.heap.size) (hl:p.cells.length<=1048576) (hs:∀c∈p.cells,c.key.size<=1048576):
  Calls Tryz.prog 164 #[.agg #[.string p.kind,.bool p.on,.bool p.broken,u3,.int .i64 p.count]] w (BoolPost (CoreOk p) w):=by
 obtain⟨A,cap,rfl,h0,h1,hrow⟩:=cells_row r
 unfold maxLen at h1
 have tt:w.heap.size<w.heap.size+1:=Nat.lt_succ_self _
 cases hk:kindOf p.kind with
 |none=>
  have KF:=hid (fun W=>(kindFace_spec_any p.kind W).mono (OptPost.none_ hk))
  have L0:=hid (fun W=>(l2Has_any 0 0 W (by unfold IsF;omega) (by omega)).mono (BoolIs.neg (by decide)))
  have CA:=hid (coreOk_none hk)
  clear hk
  go_enter Tryz.func164,Tryz.ntmps164
  go_wp2_with fail
  refine(KF.out _).mono ?_
  rintro e w1 ⟨rfl,c1⟩
  go_wp2_with fail
  refine(L0.out _).mono ?_
  rintro e w2 ⟨rfl,rfl⟩
  go_wp2_with fail
  go_ret
  exact⟨_,rfl,⟨fun h=>by simp at h,fun h=>(CA.out h).elim⟩,((Chg.refl _ _).alloc _).trans0 c1⟩
 | some f=>
  have KF:=hid (fun W=>(kindFace_spec_any p.kind W).mono (OptPost.some_ hk))
  have hf:=kindOf_face hk
  have L0:Hid (∀W,Calls Tryz.prog 113 #[.int .i64 f,.int .i64 0] W fun e w'=>e= .returned (.bool (has f 0))/\w'=W):=hid (fun W=>(l2Has_any f 0 W hf (by omega)).mono (BoolIs.eq_ (has f 0) rfl))
  have L1:Hid (∀W,Calls Tryz.prog 113 #[.int .i64 f,.int .i64 1] W fun e w'=>e= .returned (.bool (has f 1))/\w'=W):=hid (fun W=>(l2Has_any f 1 W hf (by omega)).mono (BoolIs.eq_ (has f 1) rfl))
  have IFF:=hid (coreOk_some hk)
  clear hk hf
  by_cases n1:CellsOk p.cells
  ·have CC:=hid (fun W (hW:Chg [] w W)=>(isCells_spec_any p.cells _ B W (r.chg0 hW hB) (by have:=hW.size;omega) hl hs).mono (BoolPost.pos n1))
   have N1:=hid n1
   clear n1
   go_enter Tryz.func164,Tryz.ntmps164
   go_wp2_with fail
   refine(KF.out _).mono ?_
   rintro e w1 ⟨rfl,c1⟩
   have w1x1:w1.cell? ⟨w.heap.size,1,none⟩=some (.bool p.on):=(c1.cell (p:=⟨w.heap.size,1,none⟩) (by simp) (by simp)).trans (by go_simp)
   have w1x2:w1.cell? ⟨w.heap.size,2,none⟩=some (.bool p.broken):=(c1.cell (p:=⟨w.heap.size,2,none⟩) (by simp) (by simp)).trans (by go_simp)
   have w1x3:w1.cell? ⟨w.heap.size,3,none⟩=some (.slice A p.cells.length cap):=(c1.cell (p:=⟨w.heap.size,3,none⟩) (by simp) (by simp)).trans (by go_simp)
   have w1x4:w1.cell? ⟨w.heap.size,4,none⟩=some (.int .i64 p.count):=(c1.cell (p:=⟨w.heap.size,4,none⟩) (by simp) (by simp)).trans (by go_simp)
   have tw:w.heap.size<w1.heap.size:=by have:=c1.size;simp at this;omega
   have E1:Chg [] w w1:=((Chg.refl _ _).alloc _).trans0 c1
   go_wp2_with fail
   refine(L0.out _).mono ?_
   rintro e w2 ⟨rfl,rfl⟩
   go_wp2_with fail
   refine(CC.out _ E1).mono ?_
   rintro e w3 ⟨rfl,c3⟩
   have w3x1:w3.cell? ⟨w.heap.size,1,none⟩=some (.bool p.on):=(c3.cell (p:=⟨w.heap.size,1,none⟩) tw (by simp)).trans (w1x1)
   have w3x2:w3.cell? ⟨w.heap.size,2,none⟩=some (.bool p.broken):=(c3.cell (p:=⟨w.heap.size,2,none⟩) tw (by simp)).trans (w1x2)
   have w3x3:w3.cell? ⟨w.heap.size,3,none⟩=some (.slice A p.cells.length cap):=(c3.cell (p:=⟨w.heap.size,3,none⟩) tw (by simp)).trans (w1x3)
   have w3x4:w3.cell? ⟨w.heap.size,4,none⟩=some (.int .i64 p.count):=(c3.cell (p:=⟨w.heap.size,4,none⟩) tw (by simp)).trans (w1x4)
   by_cases n0:0<p.cells.length
   ·cases hH:has f 1
    ·have CA:Hid (¬CoreOk p):=hid (fun h=>by have:=(IFF.out.1 h).2.1 n0;rw [hH] at this;cases this)
     simp only [hH] at L1
     go_wp2_with fail
     refine(L1.out _).mono ?_
     rintro e w4 ⟨rfl,rfl⟩
     go_wp2_with fail
     go_ret
     exact⟨_,rfl,⟨fun h=>by simp at h,fun h=>(CA.out h).elim⟩,E1.trans0 c3⟩
    ·simp only [hH] at L1
     go_wp2_with fail
     refine(L1.out _).mono ?_
     rintro e w4 ⟨rfl,rfl⟩
     by_cases n2:IsNum p.count
     ·have v1:0<=p.count:=n2.1
      have v2:p.count<=999:=n2.2
      have N2:=hid n2
      clear n2
      have hh0:has f 0=has f 0:=rfl
      cases hO:p.on<;>cases hR:p.broken<;>cases hF:has f 0
      all_goals
       simp only [hO,hR,hF] at w3x1 w3x2 hh0
       go_wp2_with fail
       go_ret
       refine⟨_,rfl,?_,E1.trans0 c3⟩
       rw [IFF.out]
       simp [N1.out,N2.out,hO,hR,hF,n0,hH]

     ·have CA:Hid (¬CoreOk p):=hid (fun h=>n2 (IFF.out.1 h).2.2.1)
      have v1:¬(0<=p.count/\p.count<=999):=n2
      clear n2
      by_cases v2:p.count<0
      ·clear v1
       go_wp2_with fail
       go_ret
       exact⟨_,rfl,⟨fun h=>by simp at h,fun h=>(CA.out h).elim⟩,E1.trans0 c3⟩
      ·have v3:0<=p.count:=by omega
       have v4:999<p.count:=by omega
       clear v1 v2
       go_wp2_with fail
       go_ret
       exact⟨_,rfl,⟨fun h=>by simp at h,fun h=>(CA.out h).elim⟩,E1.trans0 c3⟩

   ·have hH:(p.cells.length:Int)=0:=by omega
    have hz:p.cells.length=0:=by omega
    by_cases n2:IsNum p.count
    ·have v1:0<=p.count:=n2.1
     have v2:p.count<=999:=n2.2
     have N2:=hid n2
     clear n2
     have hh0:has f 0=has f 0:=rfl
     cases hO:p.on<;>cases hR:p.broken<;>cases hF:has f 0
     all_goals
      simp only [hO,hR,hF] at w3x1 w3x2 hh0
      go_wp2_with fail
      go_ret
      refine⟨_,rfl,?_,E1.trans0 c3⟩
      rw [IFF.out]
      simp [N1.out,N2.out,hO,hR,hF,hz]

    ·have CA:Hid (¬CoreOk p):=hid (fun h=>n2 (IFF.out.1 h).2.2.1)
     have v1:¬(0<=p.count/\p.count<=999):=n2
     clear n2
     by_cases v2:p.count<0
     ·clear v1
      go_wp2_with fail
      go_ret
      exact⟨_,rfl,⟨fun h=>by simp at h,fun h=>(CA.out h).elim⟩,E1.trans0 c3⟩
     ·have v3:0<=p.count:=by omega
      have v4:999<p.count:=by omega
      clear v1 v2
      go_wp2_with fail
      go_ret
      exact⟨_,rfl,⟨fun h=>by simp at h,fun h=>(CA.out h).elim⟩,E1.trans0 c3⟩

  ·have CC:=hid (fun W (hW:Chg [] w W)=>(isCells_spec_any p.cells _ B W (r.chg0 hW hB) (by have:=hW.size;omega) hl hs).mono (BoolPost.neg n1))
   have CA:Hid (¬CoreOk p):=hid (fun h=>n1 (IFF.out.1 h).1)
   clear n1
   go_enter Tryz.func164,Tryz.ntmps164
   go_wp2_with fail
   refine(KF.out _).mono ?_
   rintro e w1 ⟨rfl,c1⟩
   have w1x1:w1.cell? ⟨w.heap.size,1,none⟩=some (.bool p.on):=(c1.cell (p:=⟨w.heap.size,1,none⟩) (by simp) (by simp)).trans (by go_simp)
   have w1x2:w1.cell? ⟨w.heap.size,2,none⟩=some (.bool p.broken):=(c1.cell (p:=⟨w.heap.size,2,none⟩) (by simp) (by simp)).trans (by go_simp)
   have w1x3:w1.cell? ⟨w.heap.size,3,none⟩=some (.slice A p.cells.length cap):=(c1.cell (p:=⟨w.heap.size,3,none⟩) (by simp) (by simp)).trans (by go_simp)
   have w1x4:w1.cell? ⟨w.heap.size,4,none⟩=some (.int .i64 p.count):=(c1.cell (p:=⟨w.heap.size,4,none⟩) (by simp) (by simp)).trans (by go_simp)
   have tw:w.heap.size<w1.heap.size:=by have:=c1.size;simp at this;omega
   have E1:Chg [] w w1:=((Chg.refl _ _).alloc _).trans0 c1
   go_wp2_with fail
   refine(L0.out _).mono ?_
   rintro e w2 ⟨rfl,rfl⟩
   go_wp2_with fail
   refine(CC.out _ E1).mono ?_
   rintro e w3 ⟨rfl,c3⟩
   go_wp2_with fail
   go_ret
   exact⟨_,rfl,⟨fun h=>by simp at h,fun h=>(CA.out h).elim⟩,E1.trans0 c3⟩

/-- The face of a part without the layers from k on. -/
def faceAt (p:PartT) (k:Nat):Int:=if k=0 then(kindOf p.core.kind).getD 0 else((p.layers[k-1]?.bind fun x=>layerOf x.name).getD (0,0)).2
theorem faceAt_zero (p:PartT):faceAt p 0=(kindOf p.core.kind).getD 0:=rfl
theorem faceAt_pos (p:PartT) (k:Nat) (h0:0<k) (h:k-1<p.layers.length):faceAt p k=((layerOf p.layers[k-1].name).getD (0,0)).2:=by
 unfold faceAt
 rw [if_neg (by omega),List.getElem?_eq_getElem h]
 rfl
def IntPost (n:Int) (w:World) (e:Ending) (w':World):Prop:=e= .returned (.int .i64 n)/\Chg [] w w'
def LayerAt (p:PartT) (k:Nat) (h:k<p.layers.length):Prop:=∃x,layerOf p.layers[k].name=some x/\Offer (faceAt p k) x.1/\IsNum p.layers[k].count/\(p.layers[k].count=0∨p.layers[k].name.toList=[99,111,117,110,116,115] ∨p.layers[k].name.toList=[104,101,97,114,115])
def PartOk (p:PartT):Prop:=CoreOk p.core/\p.layers.length<=3/\∀(k:Nat) (h:k<p.layers.length),LayerAt p k h
theorem layerAt_none {p:PartT} {k:Nat} {h:k<p.layers.length} (hx:layerOf p.layers[k].name=none):¬LayerAt p k h:=by
 rintro⟨x,hf,_⟩
 rw [hx] at hf
 cases hf
theorem layerAt_some {p:PartT} {k:Nat} {h:k<p.layers.length} {x:Int×Int} (hx:layerOf p.layers[k].name=some x):LayerAt p k h↔(Offer (faceAt p k) x.1/\IsNum p.layers[k].count/\(p.layers[k].count=0∨p.layers[k].name.toList=[99,111,117,110,116,115] ∨p.layers[k].name.toList=[104,101,97,114,115])):=by
 constructor
 ·rintro⟨g,hg,r⟩
  rw [hx] at hg
  cases hg
  exact r
 ·exact fun r=>⟨x,hx,r⟩
theorem Opt2Is.some_ {o:Option (Int×Int)} {f:Int×Int} {w:World} (h:o=some f) (e:Ending) (w':World) (hb:Opt2Is o w e w'):e= .returned (.tuple #[.int .i64 f.1,.int .i64 f.2,.bool true])/\w'=w:=by subst h;exact hb
theorem Opt2Is.none_ {o:Option (Int×Int)} {w:World} (h:o=none) (e:Ending) (w':World) (hb:Opt2Is o w e w'):e= .returned (.tuple #[.int .i64 0,.int .i64 0,.bool false])/\w'=w:=by subst h;exact hb
theorem OptPost.map1_some {o:Option (Int×Int)} {f:Int×Int} {w:World} (h:o=some f) (e:Ending) (w':World) (hb:OptPost (o.map (·.1)) w e w'):e= .returned (.tuple #[.int .i64 f.1,.bool true])/\Chg [] w w':=by subst h;exact hb
theorem OptPost.map1_none {o:Option (Int×Int)} {w:World} (h:o=none) (e:Ending) (w':World) (hb:OptPost (o.map (·.1)) w e w'):e= .returned (.tuple #[.int .i64 0,.bool false])/\Chg [] w w':=by subst h;exact hb
/-- A block that holds a part. -/
def PartBox (W:World) (g:Nat) (a0 a1 a2 a3 a4 a5:Value):Prop:=W.cell? ⟨g,0,none⟩=some a0/\W.cell? ⟨g,1,none⟩=some a1/\W.cell? ⟨g,2,none⟩=some a2/\W.cell? ⟨g,3,none⟩=some a3/\W.cell? ⟨g,4,none⟩=some a4/\W.cell? ⟨g,5,none⟩=some a5
theorem PartBox.keep {W W':World} {g:Nat} {a0 a1 a2 a3 a4 a5:Value} (h:PartBox W g a0 a1 a2 a3 a4 a5) (hc:Chg [] W W') (hg:g<W.heap.size):PartBox W' g a0 a1 a2 a3 a4 a5:=by
 obtain⟨h0,h1,h2,h3,h4,h5⟩:=h
 exact⟨(hc.cell (p:=⟨g,0,none⟩) hg (by simp)).trans h0,(hc.cell (p:=⟨g,1,none⟩) hg (by simp)).trans h1,(hc.cell (p:=⟨g,2,none⟩) hg (by simp)).trans h2,(hc.cell (p:=⟨g,3,none⟩) hg (by simp)).trans h3,(hc.cell (p:=⟨g,4,none⟩) hg (by simp)).trans h4,(hc.cell (p:=⟨g,5,none⟩) hg (by simp)).trans h5⟩
theorem PartBox.new (w:World) (e:TypeId) (a0 a1 a2 a3 a4 a5:Value):PartBox (w.alloc (.cells #[a0,a1,a2,a3,a4,a5] e)) w.heap.size a0 a1 a2 a3 a4 a5:=
 ⟨cell_lit _ _ _ rfl,cell_lit _ _ _ rfl,cell_lit _ _ _ rfl,cell_lit _ _ _ rfl,cell_lit _ _ _ rfl,cell_lit _ _ _ rfl⟩
theorem faceBelow_any (p:PartT) (k:Nat) (u3 u5:Value) (B:Nat) (w:World) (r5:Rd w B (layers p.layers) u5) (hB:B<=w.heap.size) (hk:k<=p.layers.length):
  Calls Tryz.prog 54 #[.agg #[.string p.core.kind,.bool p.core.on,.bool p.core.broken,u3,.int .i64 p.core.count,u5],.int .i64 k] w (IntPost (faceAt p k) w):=by
 obtain⟨A,cap,rfl,h0,h1,hrow⟩:=layers_row r5
 unfold maxLen at h1
 clear r5
 have tt:w.heap.size<w.heap.size+1:=Nat.lt_succ_self _
 by_cases hk0:k=0
 ·subst hk0
  go_enter Tryz.func54,Tryz.ntmps54
  go_wp2_with fail
  refine(kindFace_impl_any p.core.kind _).mono ?_
  rintro e w1 ⟨rfl,rfl⟩
  go_wp2_with fail
  go_ret
  exact⟨rfl,(Chg.refl _ _).alloc _⟩
 ·have hk1:((k:Int)==0)=false:=by simp;omega
  have hlt:k-1<p.layers.length:=by omega
  obtain⟨b,off,rfl,hb,q0,q1⟩:=layers_cells hrow (k-1) hlt
  have hbw:b<w.heap.size:=by omega
  have hne:b≠w.heap.size:=by omega
  have hi0:(0:Int)<=(k:Int) -1:=by omega
  have hi1:(k:Int) -1<(p.layers.length:Int):=by omega
  have hkN:((k:Int) -1).toNat=k-1:=by omega
  have hkz:(k:Int)≠0:=by omega
  go_enter Tryz.func54,Tryz.ntmps54
  go_wp2_with fail
  refine(layerFaces_impl_any p.layers[k-1].name _).mono ?_
  rintro e w1 ⟨rfl,rfl⟩
  go_wp2_with fail
  go_ret
  refine⟨?_,(Chg.refl _ _).alloc _⟩
  rw [faceAt_pos p k (by omega) hlt]
  exact rfl
theorem l4Face_any (p:PartT) (k:Nat) (u3 u5:Value) (B:Nat) (w:World) (r5:Rd w B (layers p.layers) u5) (hB:B<=w.heap.size) (hk:k<=p.layers.length):
  Calls Tryz.prog 121 #[.agg #[.string p.core.kind,.bool p.core.on,.bool p.core.broken,u3,.int .i64 p.core.count,u5],.int .i64 k] w (IntPost (faceAt p k) w):=by
 obtain⟨A,cap,rfl,h0,h1,hrow⟩:=layers_row r5
 unfold maxLen at h1
 clear r5
 have tt:w.heap.size<w.heap.size+1:=Nat.lt_succ_self _
 by_cases hk0:k=0
 ·subst hk0
  go_enter Tryz.func121,Tryz.ntmps121
  go_wp2_with fail
  refine(kindFace_spec_any p.core.kind _).mono ?_
  rintro e w1 ⟨rfl,c1⟩
  go_wp2_with fail
  go_ret
  exact⟨rfl,((Chg.refl _ _).alloc _).trans0 c1⟩
 ·have hk1:((k:Int)==0)=false:=by simp;omega
  have hlt:k-1<p.layers.length:=by omega
  obtain⟨b,off,rfl,hb,q0,q1⟩:=layers_cells hrow (k-1) hlt
  have hbw:b<w.heap.size:=by omega
  have hne:b≠w.heap.size:=by omega
  have hi0:(0:Int)<=(k:Int) -1:=by omega
  have hi1:(k:Int) -1<(p.layers.length:Int):=by omega
  have hkN:((k:Int) -1).toNat=k-1:=by omega
  have hkz:(k:Int)≠0:=by omega
  go_enter Tryz.func121,Tryz.ntmps121
  go_wp2_with fail
  refine(l4Row_any p.layers[k-1].name _).mono ?_
  rintro e w1 ⟨rfl,c1⟩
  go_wp2_with fail
  go_ret
  refine⟨?_,((Chg.refl _ _).alloc _).trans0 c1⟩
  rw [faceAt_pos p k (by omega) hlt]
  exact rfl
theorem isPart_impl_any (p:PartT) (u3 u5:Value) (B:Nat) (w:World) (r3:Rd w B (cells p.core.cells) u3) (r5:Rd w B (layers p.layers) u5) (hB:B<=w.heap.size) (hl:p.layers.length<=1048576) (hcl:p.core.cells.length<=1048576) (hs:∀c∈p.core.cells,c.key.size<=1048576):
  Calls Tryz.prog 52 #[.agg #[.string p.core.kind,.bool p.core.on,.bool p.core.broken,u3,.int .i64 p.core.count,u5]] w (BoolPost (PartOk p) w):=by
 obtain⟨A3,cap3,rfl,_,_,_⟩:=cells_row r3
 obtain⟨A,cap,rfl,h0,h1,hrow⟩:=layers_row r5
 unfold maxLen at h1
 have tt:w.heap.size<w.heap.size+1:=Nat.lt_succ_self _
 have icore:=fun W (hW:Chg [] w W)=>isCore_impl_any p.core _ B W (r3.chg0 hW hB) (by have:=hW.size;omega) hcl hs
 by_cases n1:CoreOk p.core
 ·have IC:=hid (fun W (hW:Chg [] w W)=>(icore W hW).mono (BoolPost.pos n1))
  have N1:=hid n1
  clear n1 icore
  go_enter Tryz.func52,Tryz.ntmps52
  go_wp2_with fail
  refine(IC.out _ ((Chg.refl _ _).alloc _)).mono ?_
  rintro e w1 ⟨rfl,c1⟩
  have hbox:PartBox w1 w.heap.size (.string p.core.kind) (.bool p.core.on) (.bool p.core.broken) (.slice A3 p.core.cells.length cap3) (.int .i64 p.core.count) (.slice A p.layers.length cap):=(PartBox.new w _ _ _ _ _ _ _).keep c1 (by simp)
  have E1:Chg [] w w1:=((Chg.refl _ _).alloc _).trans0 c1
  have tw:w.heap.size<w1.heap.size:=by have:=c1.size;simp at this;omega
  obtain⟨x0,x1,x2,x3,x4,x5⟩:=hbox
  by_cases n3:p.layers.length<=3
  ·have hd3:¬((3:Int)<(p.layers.length:Int)):=by omega
   go_wp2_with fail
   go_loopw [21] (fun i wr=>∃k:Nat,k<=p.layers.length/\i= .int .i64 k/\(∀(j:Nat) (h:j<p.layers.length),j<k->LayerAt p j h)/\Chg [] w wr/\w.heap.size<wr.heap.size/\PartBox wr w.heap.size (.string p.core.kind) (.bool p.core.on) (.bool p.core.broken) (.slice A3 p.core.cells.length cap3) (.int .i64 p.core.count) (.slice A p.layers.length cap)) (fun i _=>p.layers.length-(intOf i).toNat)
   case atStart=>exact⟨0,Nat.zero_le _,rfl,fun j h h0=>absurd h0 (Nat.not_lt_zero _),E1,tw,x0,x1,x2,x3,x4,x5⟩
   case round=>
    clear x0 x1 x2 x3 x4 x5
    obtain⟨k,hk,rfl,HN,hc,tw',hbox⟩:=hrel
    have HN:=hid HN
    have HB:=hid hbox
    obtain⟨x0,x1,x2,x3,x4,x5⟩:=hbox
    by_cases hlt:k<p.layers.length
    ·obtain⟨b,off,rfl,hb,q0,q1⟩:=layers_cells (hrow.chg0 hc hB) k hlt
     have hsz:=hc.size
     have hbw:b<wr.heap.size:=by omega
     have ttr:wr.heap.size<wr.heap.size+1:=Nat.lt_succ_self _
     cases hx:layerOf p.layers[k].name with
     |none=>
      have LF:=hid (fun W=>(layerFaces_impl_any p.layers[k].name W).mono (Opt2Is.none_ hx))
      have CA:=hid (layerAt_none (h:=hlt) hx)
      clear hx
      go_wp2_with fail
      refine(LF.out _).mono ?_
      rintro e w2 ⟨rfl,rfl⟩
      go_wp2_with fail
      go_ret
      exact⟨_,rfl,⟨fun h=>by simp at h,fun h=>(CA.out (h.2.2 k hlt)).elim⟩,(hc.alloc _)⟩
     | some x=>
      have LF:=hid (fun W=>(layerFaces_impl_any p.layers[k].name W).mono (Opt2Is.some_ hx))
      have FB:=hid (fun W (hW:Chg [] wr W)=>faceBelow_any p k (.slice A3 p.core.cells.length cap3) _ B W (r5.chg0 (hc.trans0 hW) hB) (by have:=(hc.trans0 hW).size;omega) hk)
      have IFF:=hid (layerAt_some (h:=hlt) hx)
      clear hx
      by_cases n4:Offer (faceAt p k) x.1
      ·have OF:=hid (fun W=>(offers_impl_any (faceAt p k) x.1 W).mono (BoolIs.pos n4))
       have N4:=hid n4
       clear n4
       by_cases n5:IsNum p.layers[k].count
       ·have NU:=hid (fun W=>(isNumber_any p.layers[k].count W).mono (BoolIs.pos n5))
        have N5:=hid n5
        clear n5
        by_cases n6:p.layers[k].count=0
        ·have CA:Hid (LayerAt p k hlt):=hid (IFF.out.2 ⟨N4.out,N5.out,.inl n6⟩)
         simp only [n6] at q1 NU
         clear n6
         go_wp2_with fail
         refine(LF.out _).mono ?_
         rintro e w2 ⟨rfl,rfl⟩
         go_wp2_with fail
         refine(FB.out _ ((Chg.refl _ _).alloc _)).mono ?_
         rintro e w3 ⟨rfl,c2⟩
         have y0:w3.cell? ⟨wr.heap.size,0,none⟩=some (.string p.layers[k].name):=(c2.cell (p:=⟨wr.heap.size,0,none⟩) (by simp) (by simp)).trans (by go_simp)
         have y1:w3.cell? ⟨wr.heap.size,1,none⟩=some (.int .i64 0):=(c2.cell (p:=⟨wr.heap.size,1,none⟩) (by simp) (by simp)).trans (by go_simp)
         go_wp2_with fail
         refine(OF.out _).mono ?_
         rintro e w4 ⟨rfl,rfl⟩
         go_wp2_with fail
         refine(NU.out _).mono ?_
         rintro e w5 ⟨rfl,rfl⟩
         go_wp2_with fail
         go_roundw
         case rel=>exact⟨k+1,by omega,by go_num,fun j h hj=>(Nat.lt_succ_iff_lt_or_eq.1 hj).elim (HN.out j h) (fun e=>by subst e;exact CA.out),((hc.alloc _).trans0 c2),Nat.lt_of_lt_of_le tw' ((((Chg.refl [] _).alloc _).trans0 c2)).size,HB.out.keep ((((Chg.refl [] _).alloc _).trans0 c2)) tw'⟩
         case measure=>simp [intOf];omega
        ·cases hC:(p.layers[k].name.toList== [99,111,117,110,116,115])
         ·cases hH:(p.layers[k].name.toList== [104,101,97,114,115])
          ·have CA:Hid (¬LayerAt p k hlt):=hid (fun h=>by rcases(IFF.out.1 h).2.2 with h|h|h;exact n6 h;(rw [h] at hC;simp at hC);(rw [h] at hH;simp at hH))
           go_wp2_with fail
           refine(LF.out _).mono ?_
           rintro e w2 ⟨rfl,rfl⟩
           go_wp2_with fail
           refine(FB.out _ ((Chg.refl _ _).alloc _)).mono ?_
           rintro e w3 ⟨rfl,c2⟩
           have y0:w3.cell? ⟨wr.heap.size,0,none⟩=some (.string p.layers[k].name):=(c2.cell (p:=⟨wr.heap.size,0,none⟩) (by simp) (by simp)).trans (by go_simp)
           have y1:w3.cell? ⟨wr.heap.size,1,none⟩=some (.int .i64 p.layers[k].count):=(c2.cell (p:=⟨wr.heap.size,1,none⟩) (by simp) (by simp)).trans (by go_simp)
           go_wp2_with fail
           refine(OF.out _).mono ?_
           rintro e w4 ⟨rfl,rfl⟩
           go_wp2_with fail
           refine(NU.out _).mono ?_
           rintro e w5 ⟨rfl,rfl⟩
           go_wp2_with fail
           go_ret
           exact⟨_,rfl,⟨fun h=>by simp at h,fun h=>(CA.out (h.2.2 k hlt)).elim⟩,((hc.alloc _).trans0 c2)⟩
          ·have CA:Hid (LayerAt p k hlt):=hid (IFF.out.2 ⟨N4.out,N5.out,.inr (.inr (by simpa using hH))⟩)
           go_wp2_with fail
           refine(LF.out _).mono ?_
           rintro e w2 ⟨rfl,rfl⟩
           go_wp2_with fail
           refine(FB.out _ ((Chg.refl _ _).alloc _)).mono ?_
           rintro e w3 ⟨rfl,c2⟩
           have y0:w3.cell? ⟨wr.heap.size,0,none⟩=some (.string p.layers[k].name):=(c2.cell (p:=⟨wr.heap.size,0,none⟩) (by simp) (by simp)).trans (by go_simp)
           have y1:w3.cell? ⟨wr.heap.size,1,none⟩=some (.int .i64 p.layers[k].count):=(c2.cell (p:=⟨wr.heap.size,1,none⟩) (by simp) (by simp)).trans (by go_simp)
           go_wp2_with fail
           refine(OF.out _).mono ?_
           rintro e w4 ⟨rfl,rfl⟩
           go_wp2_with fail
           refine(NU.out _).mono ?_
           rintro e w5 ⟨rfl,rfl⟩
           go_wp2_with fail
           go_roundw
           case rel=>exact⟨k+1,by omega,by go_num,fun j h hj=>(Nat.lt_succ_iff_lt_or_eq.1 hj).elim (HN.out j h) (fun e=>by subst e;exact CA.out),((hc.alloc _).trans0 c2),Nat.lt_of_lt_of_le tw' ((((Chg.refl [] _).alloc _).trans0 c2)).size,HB.out.keep ((((Chg.refl [] _).alloc _).trans0 c2)) tw'⟩
           case measure=>simp [intOf];omega
         ·have CA:Hid (LayerAt p k hlt):=hid (IFF.out.2 ⟨N4.out,N5.out,.inr (.inl (by simpa using hC))⟩)
          go_wp2_with fail
          refine(LF.out _).mono ?_
          rintro e w2 ⟨rfl,rfl⟩
          go_wp2_with fail
          refine(FB.out _ ((Chg.refl _ _).alloc _)).mono ?_
          rintro e w3 ⟨rfl,c2⟩
          have y0:w3.cell? ⟨wr.heap.size,0,none⟩=some (.string p.layers[k].name):=(c2.cell (p:=⟨wr.heap.size,0,none⟩) (by simp) (by simp)).trans (by go_simp)
          have y1:w3.cell? ⟨wr.heap.size,1,none⟩=some (.int .i64 p.layers[k].count):=(c2.cell (p:=⟨wr.heap.size,1,none⟩) (by simp) (by simp)).trans (by go_simp)
          go_wp2_with fail
          refine(OF.out _).mono ?_
          rintro e w4 ⟨rfl,rfl⟩
          go_wp2_with fail
          refine(NU.out _).mono ?_
          rintro e w5 ⟨rfl,rfl⟩
          go_wp2_with fail
          go_roundw
          case rel=>exact⟨k+1,by omega,by go_num,fun j h hj=>(Nat.lt_succ_iff_lt_or_eq.1 hj).elim (HN.out j h) (fun e=>by subst e;exact CA.out),((hc.alloc _).trans0 c2),Nat.lt_of_lt_of_le tw' ((((Chg.refl [] _).alloc _).trans0 c2)).size,HB.out.keep ((((Chg.refl [] _).alloc _).trans0 c2)) tw'⟩
          case measure=>simp [intOf];omega
       ·have NU:=hid (fun W=>(isNumber_any p.layers[k].count W).mono (BoolIs.neg n5))
        have CA:Hid (¬LayerAt p k hlt):=hid (fun h=>n5 (IFF.out.1 h).2.1)
        clear n5
        go_wp2_with fail
        refine(LF.out _).mono ?_
        rintro e w2 ⟨rfl,rfl⟩
        go_wp2_with fail
        refine(FB.out _ ((Chg.refl _ _).alloc _)).mono ?_
        rintro e w3 ⟨rfl,c2⟩
        have y0:w3.cell? ⟨wr.heap.size,0,none⟩=some (.string p.layers[k].name):=(c2.cell (p:=⟨wr.heap.size,0,none⟩) (by simp) (by simp)).trans (by go_simp)
        have y1:w3.cell? ⟨wr.heap.size,1,none⟩=some (.int .i64 p.layers[k].count):=(c2.cell (p:=⟨wr.heap.size,1,none⟩) (by simp) (by simp)).trans (by go_simp)
        go_wp2_with fail
        refine(OF.out _).mono ?_
        rintro e w4 ⟨rfl,rfl⟩
        go_wp2_with fail
        refine(NU.out _).mono ?_
        rintro e w5 ⟨rfl,rfl⟩
        go_wp2_with fail
        go_ret
        exact⟨_,rfl,⟨fun h=>by simp at h,fun h=>(CA.out (h.2.2 k hlt)).elim⟩,((hc.alloc _).trans0 c2)⟩
      ·have OF:=hid (fun W=>(offers_impl_any (faceAt p k) x.1 W).mono (BoolIs.neg n4))
       have CA:Hid (¬LayerAt p k hlt):=hid (fun h=>n4 (IFF.out.1 h).1)
       clear n4
       go_wp2_with fail
       refine(LF.out _).mono ?_
       rintro e w2 ⟨rfl,rfl⟩
       go_wp2_with fail
       refine(FB.out _ ((Chg.refl _ _).alloc _)).mono ?_
       rintro e w3 ⟨rfl,c2⟩
       have y0:w3.cell? ⟨wr.heap.size,0,none⟩=some (.string p.layers[k].name):=(c2.cell (p:=⟨wr.heap.size,0,none⟩) (by simp) (by simp)).trans (by go_simp)
       have y1:w3.cell? ⟨wr.heap.size,1,none⟩=some (.int .i64 p.layers[k].count):=(c2.cell (p:=⟨wr.heap.size,1,none⟩) (by simp) (by simp)).trans (by go_simp)
       go_wp2_with fail
       refine(OF.out _).mono ?_
       rintro e w4 ⟨rfl,rfl⟩
       go_wp2_with fail
       go_ret
       exact⟨_,rfl,⟨fun h=>by simp at h,fun h=>(CA.out (h.2.2 k hlt)).elim⟩,((hc.alloc _).trans0 c2)⟩
    ·obtain rfl:k=p.layers.length:=by omega
     go_wp2_with fail
     go_ret
     exact⟨_,rfl,⟨fun _=>⟨N1.out,n3,fun i h=>HN.out i h h⟩,fun _=>rfl⟩,hc⟩
  ·have hd3:(3:Int)<(p.layers.length:Int):=by omega
   have CA:Hid (¬PartOk p):=hid (fun h=>n3 h.2.1)
   go_wp2_with fail
   go_ret
   exact⟨_,rfl,⟨fun h=>by simp at h,fun h=>(CA.out h).elim⟩,E1⟩
 ·have IC:=hid (fun W (hW:Chg [] w W)=>(icore W hW).mono (BoolPost.neg n1))
  have CA:Hid (¬PartOk p):=hid (fun h=>n1 h.1)
  clear n1 icore
  go_enter Tryz.func52,Tryz.ntmps52
  go_wp2_with fail
  refine(IC.out _ ((Chg.refl _ _).alloc _)).mono ?_
  rintro e w1 ⟨rfl,c1⟩
  go_wp2_with fail
  go_ret
  exact⟨_,rfl,⟨fun h=>by simp at h,fun h=>(CA.out h).elim⟩,((Chg.refl _ _).alloc _).trans0 c1⟩
theorem isPart_spec_any (p:PartT) (u3 u5:Value) (B:Nat) (w:World) (r3:Rd w B (cells p.core.cells) u3) (r5:Rd w B (layers p.layers) u5) (hB:B<=w.heap.size) (hl:p.layers.length<=1048576) (hcl:p.core.cells.length<=1048576) (hs:∀c∈p.core.cells,c.key.size<=1048576):
  Calls Tryz.prog 117 #[.agg #[.string p.core.kind,.bool p.core.on,.bool p.core.broken,u3,.int .i64 p.core.count,u5]] w (BoolPost (PartOk p) w):=by
 obtain⟨A3,cap3,rfl,_,_,_⟩:=cells_row r3
 obtain⟨A,cap,rfl,h0,h1,hrow⟩:=layers_row r5
 unfold maxLen at h1
 have tt:w.heap.size<w.heap.size+1:=Nat.lt_succ_self _
 have icore:=fun W (hW:Chg [] w W)=>isCore_spec_any p.core _ B W (r3.chg0 hW hB) (by have:=hW.size;omega) hcl hs
 by_cases n1:CoreOk p.core
 ·have IC:=hid (fun W (hW:Chg [] w W)=>(icore W hW).mono (BoolPost.pos n1))
  have N1:=hid n1
  clear n1 icore
  go_enter Tryz.func117,Tryz.ntmps117
  go_wp2_with fail
  refine(IC.out _ ((Chg.refl _ _).alloc _)).mono ?_
  rintro e w1 ⟨rfl,c1⟩
  have hbox:PartBox w1 w.heap.size (.string p.core.kind) (.bool p.core.on) (.bool p.core.broken) (.slice A3 p.core.cells.length cap3) (.int .i64 p.core.count) (.slice A p.layers.length cap):=(PartBox.new w _ _ _ _ _ _ _).keep c1 (by simp)
  have E1:Chg [] w w1:=((Chg.refl _ _).alloc _).trans0 c1
  have tw:w.heap.size<w1.heap.size:=by have:=c1.size;simp at this;omega
  obtain⟨x0,x1,x2,x3,x4,x5⟩:=hbox
  by_cases n3:p.layers.length<=3
  ·have hd3:¬((3:Int)<(p.layers.length:Int)):=by omega
   go_wp2_with fail
   go_loopw [21] (fun i wr=>∃k:Nat,k<=p.layers.length/\i= .int .i64 k/\(∀(j:Nat) (h:j<p.layers.length),j<k->LayerAt p j h)/\Chg [] w wr/\w.heap.size<wr.heap.size/\PartBox wr w.heap.size (.string p.core.kind) (.bool p.core.on) (.bool p.core.broken) (.slice A3 p.core.cells.length cap3) (.int .i64 p.core.count) (.slice A p.layers.length cap)) (fun i _=>p.layers.length-(intOf i).toNat)
   case atStart=>exact⟨0,Nat.zero_le _,rfl,fun j h h0=>absurd h0 (Nat.not_lt_zero _),E1,tw,x0,x1,x2,x3,x4,x5⟩
   case round=>
    clear x0 x1 x2 x3 x4 x5
    obtain⟨k,hk,rfl,HN,hc,tw',hbox⟩:=hrel
    have HN:=hid HN
    have HB:=hid hbox
    obtain⟨x0,x1,x2,x3,x4,x5⟩:=hbox
    by_cases hlt:k<p.layers.length
    ·obtain⟨b,off,rfl,hb,q0,q1⟩:=layers_cells (hrow.chg0 hc hB) k hlt
     have hsz:=hc.size
     have hbw:b<wr.heap.size:=by omega
     have ttr:wr.heap.size<wr.heap.size+1:=Nat.lt_succ_self _
     cases hx:layerOf p.layers[k].name with
     | none=>
      have LF:=hid (fun W=>(layerNeeds_spec_any p.layers[k].name W).mono (OptPost.map1_none hx))
      have CA:=hid (layerAt_none (h:=hlt) hx)
      clear hx
      go_wp2_with fail
      refine(LF.out _).mono ?_
      rintro e w2 ⟨rfl,c2⟩
      have y0:w2.cell? ⟨wr.heap.size,0,none⟩=some (.string p.layers[k].name):=(c2.cell (p:=⟨wr.heap.size,0,none⟩) (by simp) (by simp)).trans (by go_simp)
      have y1:w2.cell? ⟨wr.heap.size,1,none⟩=some (.int .i64 p.layers[k].count):=(c2.cell (p:=⟨wr.heap.size,1,none⟩) (by simp) (by simp)).trans (by go_simp)
      have tr2:wr.heap.size<w2.heap.size:=by have:=c2.size;simp at this;omega
      go_wp2_with fail
      all_goals
       go_ret
       exact⟨_,rfl,⟨fun h=>by simp at h,fun h=>(CA.out (h.2.2 k hlt)).elim⟩,((hc.alloc _).trans0 c2)⟩
     | some x=>
      have LF:=hid (fun W=>(layerNeeds_spec_any p.layers[k].name W).mono (OptPost.map1_some hx))
      have FB:=hid (fun W (hW:Chg [] wr W)=>l4Face_any p k (.slice A3 p.core.cells.length cap3) _ B W (r5.chg0 (hc.trans0 hW) hB) (by have:=(hc.trans0 hW).size;omega) hk)
      have IFF:=hid (layerAt_some (h:=hlt) hx)
      clear hx
      by_cases n4:Offer (faceAt p k) x.1
      ·have OF:=hid (fun W=>(offers_spec_any (faceAt p k) x.1 W).mono (BoolIs.pos n4))
       have N4:=hid n4
       clear n4
       by_cases n5:IsNum p.layers[k].count
       ·have v1:0<=p.layers[k].count:=n5.1
        have v2:p.layers[k].count<=999:=n5.2
        have N5:=hid n5
        clear n5
        by_cases n6:p.layers[k].count=0
        ·have CA:Hid (LayerAt p k hlt):=hid (IFF.out.2 ⟨N4.out,N5.out,.inl n6⟩)
         simp only [n6] at q1
         clear n6
         cases hC:(p.layers[k].name.toList== [99,111,117,110,116,115])
         ·cases hH:(p.layers[k].name.toList== [104,101,97,114,115])
          ·go_wp2_with fail
           refine(LF.out _).mono ?_
           rintro e w2 ⟨rfl,c2⟩
           have y0:w2.cell? ⟨wr.heap.size,0,none⟩=some (.string p.layers[k].name):=(c2.cell (p:=⟨wr.heap.size,0,none⟩) (by simp) (by simp)).trans (by go_simp)
           have y1:w2.cell? ⟨wr.heap.size,1,none⟩=some (.int .i64 0):=(c2.cell (p:=⟨wr.heap.size,1,none⟩) (by simp) (by simp)).trans (by go_simp)
           have tr2:wr.heap.size<w2.heap.size:=by have:=c2.size;simp at this;omega
           have hbox2:=(HB.out.keep ((Chg.refl [] wr).alloc (.cells #[.string p.layers[k].name,.int .i64 0] 91)) tw').keep c2 (by simp;omega)
           obtain⟨z0,z1,z2,z3,z4,z5⟩:=hbox2
           clear x0 x1 x2 x3 x4 x5
           go_wp2_with fail
           refine(FB.out _ (((Chg.refl _ _).alloc _).trans0 c2)).mono ?_
           rintro e w3 ⟨rfl,c3⟩
           have y2:w3.cell? ⟨wr.heap.size,1,none⟩=some (.int .i64 0):=(c3.cell (p:=⟨wr.heap.size,1,none⟩) tr2 (by simp)).trans y1
           go_wp2_with fail
           refine(OF.out _).mono ?_
           rintro e w4 ⟨rfl,rfl⟩
           go_wp2_with fail
           go_roundw
           case rel=>exact⟨k+1,by omega,by go_num,fun j h hj=>(Nat.lt_succ_iff_lt_or_eq.1 hj).elim (HN.out j h) (fun e=>by subst e;exact CA.out),(((hc.alloc _).trans0 c2).trans0 c3),Nat.lt_of_lt_of_le tw' (((((Chg.refl [] _).alloc _).trans0 c2).trans0 c3)).size,HB.out.keep (((((Chg.refl [] _).alloc _).trans0 c2).trans0 c3)) tw'⟩
           case measure=>simp [intOf];omega
          ·go_wp2_with fail
           refine(LF.out _).mono ?_
           rintro e w2 ⟨rfl,c2⟩
           have y0:w2.cell? ⟨wr.heap.size,0,none⟩=some (.string p.layers[k].name):=(c2.cell (p:=⟨wr.heap.size,0,none⟩) (by simp) (by simp)).trans (by go_simp)
           have y1:w2.cell? ⟨wr.heap.size,1,none⟩=some (.int .i64 0):=(c2.cell (p:=⟨wr.heap.size,1,none⟩) (by simp) (by simp)).trans (by go_simp)
           have tr2:wr.heap.size<w2.heap.size:=by have:=c2.size;simp at this;omega
           have hbox2:=(HB.out.keep ((Chg.refl [] wr).alloc (.cells #[.string p.layers[k].name,.int .i64 0] 91)) tw').keep c2 (by simp;omega)
           obtain⟨z0,z1,z2,z3,z4,z5⟩:=hbox2
           clear x0 x1 x2 x3 x4 x5
           go_wp2_with fail
           refine(FB.out _ (((Chg.refl _ _).alloc _).trans0 c2)).mono ?_
           rintro e w3 ⟨rfl,c3⟩
           have y2:w3.cell? ⟨wr.heap.size,1,none⟩=some (.int .i64 0):=(c3.cell (p:=⟨wr.heap.size,1,none⟩) tr2 (by simp)).trans y1
           go_wp2_with fail
           refine(OF.out _).mono ?_
           rintro e w4 ⟨rfl,rfl⟩
           go_wp2_with fail
           go_roundw
           case rel=>exact⟨k+1,by omega,by go_num,fun j h hj=>(Nat.lt_succ_iff_lt_or_eq.1 hj).elim (HN.out j h) (fun e=>by subst e;exact CA.out),(((hc.alloc _).trans0 c2).trans0 c3),Nat.lt_of_lt_of_le tw' (((((Chg.refl [] _).alloc _).trans0 c2).trans0 c3)).size,HB.out.keep (((((Chg.refl [] _).alloc _).trans0 c2).trans0 c3)) tw'⟩
           case measure=>simp [intOf];omega
         ·go_wp2_with fail
          refine(LF.out _).mono ?_
          rintro e w2 ⟨rfl,c2⟩
          have y0:w2.cell? ⟨wr.heap.size,0,none⟩=some (.string p.layers[k].name):=(c2.cell (p:=⟨wr.heap.size,0,none⟩) (by simp) (by simp)).trans (by go_simp)
          have y1:w2.cell? ⟨wr.heap.size,1,none⟩=some (.int .i64 0):=(c2.cell (p:=⟨wr.heap.size,1,none⟩) (by simp) (by simp)).trans (by go_simp)
          have tr2:wr.heap.size<w2.heap.size:=by have:=c2.size;simp at this;omega
          have hbox2:=(HB.out.keep ((Chg.refl [] wr).alloc (.cells #[.string p.layers[k].name,.int .i64 0] 91)) tw').keep c2 (by simp;omega)
          obtain⟨z0,z1,z2,z3,z4,z5⟩:=hbox2
          clear x0 x1 x2 x3 x4 x5
          go_wp2_with fail
          refine(FB.out _ (((Chg.refl _ _).alloc _).trans0 c2)).mono ?_
          rintro e w3 ⟨rfl,c3⟩
          have y2:w3.cell? ⟨wr.heap.size,1,none⟩=some (.int .i64 0):=(c3.cell (p:=⟨wr.heap.size,1,none⟩) tr2 (by simp)).trans y1
          go_wp2_with fail
          refine(OF.out _).mono ?_
          rintro e w4 ⟨rfl,rfl⟩
          go_wp2_with fail
          go_roundw
          case rel=>exact⟨k+1,by omega,by go_num,fun j h hj=>(Nat.lt_succ_iff_lt_or_eq.1 hj).elim (HN.out j h) (fun e=>by subst e;exact CA.out),(((hc.alloc _).trans0 c2).trans0 c3),Nat.lt_of_lt_of_le tw' (((((Chg.refl [] _).alloc _).trans0 c2).trans0 c3)).size,HB.out.keep (((((Chg.refl [] _).alloc _).trans0 c2).trans0 c3)) tw'⟩
          case measure=>simp [intOf];omega
        ·have v3:0<p.layers[k].count:=by omega
         cases hC:(p.layers[k].name.toList== [99,111,117,110,116,115])
         ·cases hH:(p.layers[k].name.toList== [104,101,97,114,115])
          ·have CA:Hid (¬LayerAt p k hlt):=hid (fun h=>by rcases(IFF.out.1 h).2.2 with h|h|h;exact n6 h;(rw [h] at hC;simp at hC);(rw [h] at hH;simp at hH))
           go_wp2_with fail
           refine(LF.out _).mono ?_
           rintro e w2 ⟨rfl,c2⟩
           have y0:w2.cell? ⟨wr.heap.size,0,none⟩=some (.string p.layers[k].name):=(c2.cell (p:=⟨wr.heap.size,0,none⟩) (by simp) (by simp)).trans (by go_simp)
           have y1:w2.cell? ⟨wr.heap.size,1,none⟩=some (.int .i64 p.layers[k].count):=(c2.cell (p:=⟨wr.heap.size,1,none⟩) (by simp) (by simp)).trans (by go_simp)
           have tr2:wr.heap.size<w2.heap.size:=by have:=c2.size;simp at this;omega
           have hbox2:=(HB.out.keep ((Chg.refl [] wr).alloc (.cells #[.string p.layers[k].name,.int .i64 p.layers[k].count] 91)) tw').keep c2 (by simp;omega)
           obtain⟨z0,z1,z2,z3,z4,z5⟩:=hbox2
           clear x0 x1 x2 x3 x4 x5
           go_wp2_with fail
           refine(FB.out _ (((Chg.refl _ _).alloc _).trans0 c2)).mono ?_
           rintro e w3 ⟨rfl,c3⟩
           have y2:w3.cell? ⟨wr.heap.size,1,none⟩=some (.int .i64 p.layers[k].count):=(c3.cell (p:=⟨wr.heap.size,1,none⟩) tr2 (by simp)).trans y1
           go_wp2_with fail
           refine(OF.out _).mono ?_
           rintro e w4 ⟨rfl,rfl⟩
           go_wp2_with fail
           go_ret
           exact⟨_,rfl,⟨fun h=>by simp at h,fun h=>(CA.out (h.2.2 k hlt)).elim⟩,(((hc.alloc _).trans0 c2).trans0 c3)⟩
          ·have CA:Hid (LayerAt p k hlt):=hid (IFF.out.2 ⟨N4.out,N5.out,.inr (.inr (by simpa using hH))⟩)
           go_wp2_with fail
           refine(LF.out _).mono ?_
           rintro e w2 ⟨rfl,c2⟩
           have y0:w2.cell? ⟨wr.heap.size,0,none⟩=some (.string p.layers[k].name):=(c2.cell (p:=⟨wr.heap.size,0,none⟩) (by simp) (by simp)).trans (by go_simp)
           have y1:w2.cell? ⟨wr.heap.size,1,none⟩=some (.int .i64 p.layers[k].count):=(c2.cell (p:=⟨wr.heap.size,1,none⟩) (by simp) (by simp)).trans (by go_simp)
           have tr2:wr.heap.size<w2.heap.size:=by have:=c2.size;simp at this;omega
           have hbox2:=(HB.out.keep ((Chg.refl [] wr).alloc (.cells #[.string p.layers[k].name,.int .i64 p.layers[k].count] 91)) tw').keep c2 (by simp;omega)
           obtain⟨z0,z1,z2,z3,z4,z5⟩:=hbox2
           clear x0 x1 x2 x3 x4 x5
           go_wp2_with fail
           refine(FB.out _ (((Chg.refl _ _).alloc _).trans0 c2)).mono ?_
           rintro e w3 ⟨rfl,c3⟩
           have y2:w3.cell? ⟨wr.heap.size,1,none⟩=some (.int .i64 p.layers[k].count):=(c3.cell (p:=⟨wr.heap.size,1,none⟩) tr2 (by simp)).trans y1
           go_wp2_with fail
           refine(OF.out _).mono ?_
           rintro e w4 ⟨rfl,rfl⟩
           go_wp2_with fail
           go_roundw
           case rel=>exact⟨k+1,by omega,by go_num,fun j h hj=>(Nat.lt_succ_iff_lt_or_eq.1 hj).elim (HN.out j h) (fun e=>by subst e;exact CA.out),(((hc.alloc _).trans0 c2).trans0 c3),Nat.lt_of_lt_of_le tw' (((((Chg.refl [] _).alloc _).trans0 c2).trans0 c3)).size,HB.out.keep (((((Chg.refl [] _).alloc _).trans0 c2).trans0 c3)) tw'⟩
           case measure=>simp [intOf];omega
         ·have CA:Hid (LayerAt p k hlt):=hid (IFF.out.2 ⟨N4.out,N5.out,.inr (.inl (by simpa using hC))⟩)
          go_wp2_with fail
          refine(LF.out _).mono ?_
          rintro e w2 ⟨rfl,c2⟩
          have y0:w2.cell? ⟨wr.heap.size,0,none⟩=some (.string p.layers[k].name):=(c2.cell (p:=⟨wr.heap.size,0,none⟩) (by simp) (by simp)).trans (by go_simp)
          have y1:w2.cell? ⟨wr.heap.size,1,none⟩=some (.int .i64 p.layers[k].count):=(c2.cell (p:=⟨wr.heap.size,1,none⟩) (by simp) (by simp)).trans (by go_simp)
          have tr2:wr.heap.size<w2.heap.size:=by have:=c2.size;simp at this;omega
          have hbox2:=(HB.out.keep ((Chg.refl [] wr).alloc (.cells #[.string p.layers[k].name,.int .i64 p.layers[k].count] 91)) tw').keep c2 (by simp;omega)
          obtain⟨z0,z1,z2,z3,z4,z5⟩:=hbox2
          clear x0 x1 x2 x3 x4 x5
          go_wp2_with fail
          refine(FB.out _ (((Chg.refl _ _).alloc _).trans0 c2)).mono ?_
          rintro e w3 ⟨rfl,c3⟩
          have y2:w3.cell? ⟨wr.heap.size,1,none⟩=some (.int .i64 p.layers[k].count):=(c3.cell (p:=⟨wr.heap.size,1,none⟩) tr2 (by simp)).trans y1
          go_wp2_with fail
          refine(OF.out _).mono ?_
          rintro e w4 ⟨rfl,rfl⟩
          go_wp2_with fail
          go_roundw
          case rel=>exact⟨k+1,by omega,by go_num,fun j h hj=>(Nat.lt_succ_iff_lt_or_eq.1 hj).elim (HN.out j h) (fun e=>by subst e;exact CA.out),(((hc.alloc _).trans0 c2).trans0 c3),Nat.lt_of_lt_of_le tw' (((((Chg.refl [] _).alloc _).trans0 c2).trans0 c3)).size,HB.out.keep (((((Chg.refl [] _).alloc _).trans0 c2).trans0 c3)) tw'⟩
          case measure=>simp [intOf];omega
       ·have CA:Hid (¬LayerAt p k hlt):=hid (fun h=>n5 (IFF.out.1 h).2.1)
        have v1:¬(0<=p.layers[k].count/\p.layers[k].count<=999):=n5
        clear n5
        by_cases v2:p.layers[k].count<0
        ·clear v1
         cases hC:(p.layers[k].name.toList== [99,111,117,110,116,115])
         ·cases hH:(p.layers[k].name.toList== [104,101,97,114,115])
          ·go_wp2_with fail
           refine(LF.out _).mono ?_
           rintro e w2 ⟨rfl,c2⟩
           have y0:w2.cell? ⟨wr.heap.size,0,none⟩=some (.string p.layers[k].name):=(c2.cell (p:=⟨wr.heap.size,0,none⟩) (by simp) (by simp)).trans (by go_simp)
           have y1:w2.cell? ⟨wr.heap.size,1,none⟩=some (.int .i64 p.layers[k].count):=(c2.cell (p:=⟨wr.heap.size,1,none⟩) (by simp) (by simp)).trans (by go_simp)
           have tr2:wr.heap.size<w2.heap.size:=by have:=c2.size;simp at this;omega
           have hbox2:=(HB.out.keep ((Chg.refl [] wr).alloc (.cells #[.string p.layers[k].name,.int .i64 p.layers[k].count] 91)) tw').keep c2 (by simp;omega)
           obtain⟨z0,z1,z2,z3,z4,z5⟩:=hbox2
           clear x0 x1 x2 x3 x4 x5
           go_wp2_with fail
           refine(FB.out _ (((Chg.refl _ _).alloc _).trans0 c2)).mono ?_
           rintro e w3 ⟨rfl,c3⟩
           have y2:w3.cell? ⟨wr.heap.size,1,none⟩=some (.int .i64 p.layers[k].count):=(c3.cell (p:=⟨wr.heap.size,1,none⟩) tr2 (by simp)).trans y1
           go_wp2_with fail
           refine(OF.out _).mono ?_
           rintro e w4 ⟨rfl,rfl⟩
           go_wp2_with fail
           go_ret
           exact⟨_,rfl,⟨fun h=>by simp at h,fun h=>(CA.out (h.2.2 k hlt)).elim⟩,(((hc.alloc _).trans0 c2).trans0 c3)⟩
          ·go_wp2_with fail
           refine(LF.out _).mono ?_
           rintro e w2 ⟨rfl,c2⟩
           have y0:w2.cell? ⟨wr.heap.size,0,none⟩=some (.string p.layers[k].name):=(c2.cell (p:=⟨wr.heap.size,0,none⟩) (by simp) (by simp)).trans (by go_simp)
           have y1:w2.cell? ⟨wr.heap.size,1,none⟩=some (.int .i64 p.layers[k].count):=(c2.cell (p:=⟨wr.heap.size,1,none⟩) (by simp) (by simp)).trans (by go_simp)
           have tr2:wr.heap.size<w2.heap.size:=by have:=c2.size;simp at this;omega
           have hbox2:=(HB.out.keep ((Chg.refl [] wr).alloc (.cells #[.string p.layers[k].name,.int .i64 p.layers[k].count] 91)) tw').keep c2 (by simp;omega)
           obtain⟨z0,z1,z2,z3,z4,z5⟩:=hbox2
           clear x0 x1 x2 x3 x4 x5
           go_wp2_with fail
           refine(FB.out _ (((Chg.refl _ _).alloc _).trans0 c2)).mono ?_
           rintro e w3 ⟨rfl,c3⟩
           have y2:w3.cell? ⟨wr.heap.size,1,none⟩=some (.int .i64 p.layers[k].count):=(c3.cell (p:=⟨wr.heap.size,1,none⟩) tr2 (by simp)).trans y1
           go_wp2_with fail
           refine(OF.out _).mono ?_
           rintro e w4 ⟨rfl,rfl⟩
           go_wp2_with fail
           go_ret
           exact⟨_,rfl,⟨fun h=>by simp at h,fun h=>(CA.out (h.2.2 k hlt)).elim⟩,(((hc.alloc _).trans0 c2).trans0 c3)⟩
         ·go_wp2_with fail
          refine(LF.out _).mono ?_
          rintro e w2 ⟨rfl,c2⟩
          have y0:w2.cell? ⟨wr.heap.size,0,none⟩=some (.string p.layers[k].name):=(c2.cell (p:=⟨wr.heap.size,0,none⟩) (by simp) (by simp)).trans (by go_simp)
          have y1:w2.cell? ⟨wr.heap.size,1,none⟩=some (.int .i64 p.layers[k].count):=(c2.cell (p:=⟨wr.heap.size,1,none⟩) (by simp) (by simp)).trans (by go_simp)
          have tr2:wr.heap.size<w2.heap.size:=by have:=c2.size;simp at this;omega
          have hbox2:=(HB.out.keep ((Chg.refl [] wr).alloc (.cells #[.string p.layers[k].name,.int .i64 p.layers[k].count] 91)) tw').keep c2 (by simp;omega)
          obtain⟨z0,z1,z2,z3,z4,z5⟩:=hbox2
          clear x0 x1 x2 x3 x4 x5
          go_wp2_with fail
          refine(FB.out _ (((Chg.refl _ _).alloc _).trans0 c2)).mono ?_
          rintro e w3 ⟨rfl,c3⟩
          have y2:w3.cell? ⟨wr.heap.size,1,none⟩=some (.int .i64 p.layers[k].count):=(c3.cell (p:=⟨wr.heap.size,1,none⟩) tr2 (by simp)).trans y1
          go_wp2_with fail
          refine(OF.out _).mono ?_
          rintro e w4 ⟨rfl,rfl⟩
          go_wp2_with fail
          go_ret
          exact⟨_,rfl,⟨fun h=>by simp at h,fun h=>(CA.out (h.2.2 k hlt)).elim⟩,(((hc.alloc _).trans0 c2).trans0 c3)⟩
        ·have v3:0<=p.layers[k].count:=by omega
         have v4:999<p.layers[k].count:=by omega
         clear v1 v2
         cases hC:(p.layers[k].name.toList== [99,111,117,110,116,115])
         ·cases hH:(p.layers[k].name.toList== [104,101,97,114,115])
          ·go_wp2_with fail
           refine(LF.out _).mono ?_
           rintro e w2 ⟨rfl,c2⟩
           have y0:w2.cell? ⟨wr.heap.size,0,none⟩=some (.string p.layers[k].name):=(c2.cell (p:=⟨wr.heap.size,0,none⟩) (by simp) (by simp)).trans (by go_simp)
           have y1:w2.cell? ⟨wr.heap.size,1,none⟩=some (.int .i64 p.layers[k].count):=(c2.cell (p:=⟨wr.heap.size,1,none⟩) (by simp) (by simp)).trans (by go_simp)
           have tr2:wr.heap.size<w2.heap.size:=by have:=c2.size;simp at this;omega
           have hbox2:=(HB.out.keep ((Chg.refl [] wr).alloc (.cells #[.string p.layers[k].name,.int .i64 p.layers[k].count] 91)) tw').keep c2 (by simp;omega)
           obtain⟨z0,z1,z2,z3,z4,z5⟩:=hbox2
           clear x0 x1 x2 x3 x4 x5
           go_wp2_with fail
           refine(FB.out _ (((Chg.refl _ _).alloc _).trans0 c2)).mono ?_
           rintro e w3 ⟨rfl,c3⟩
           have y2:w3.cell? ⟨wr.heap.size,1,none⟩=some (.int .i64 p.layers[k].count):=(c3.cell (p:=⟨wr.heap.size,1,none⟩) tr2 (by simp)).trans y1
           go_wp2_with fail
           refine(OF.out _).mono ?_
           rintro e w4 ⟨rfl,rfl⟩
           go_wp2_with fail
           go_ret
           exact⟨_,rfl,⟨fun h=>by simp at h,fun h=>(CA.out (h.2.2 k hlt)).elim⟩,(((hc.alloc _).trans0 c2).trans0 c3)⟩
          ·go_wp2_with fail
           refine(LF.out _).mono ?_
           rintro e w2 ⟨rfl,c2⟩
           have y0:w2.cell? ⟨wr.heap.size,0,none⟩=some (.string p.layers[k].name):=(c2.cell (p:=⟨wr.heap.size,0,none⟩) (by simp) (by simp)).trans (by go_simp)
           have y1:w2.cell? ⟨wr.heap.size,1,none⟩=some (.int .i64 p.layers[k].count):=(c2.cell (p:=⟨wr.heap.size,1,none⟩) (by simp) (by simp)).trans (by go_simp)
           have tr2:wr.heap.size<w2.heap.size:=by have:=c2.size;simp at this;omega
           have hbox2:=(HB.out.keep ((Chg.refl [] wr).alloc (.cells #[.string p.layers[k].name,.int .i64 p.layers[k].count] 91)) tw').keep c2 (by simp;omega)
           obtain⟨z0,z1,z2,z3,z4,z5⟩:=hbox2
           clear x0 x1 x2 x3 x4 x5
           go_wp2_with fail
           refine(FB.out _ (((Chg.refl _ _).alloc _).trans0 c2)).mono ?_
           rintro e w3 ⟨rfl,c3⟩
           have y2:w3.cell? ⟨wr.heap.size,1,none⟩=some (.int .i64 p.layers[k].count):=(c3.cell (p:=⟨wr.heap.size,1,none⟩) tr2 (by simp)).trans y1
           go_wp2_with fail
           refine(OF.out _).mono ?_
           rintro e w4 ⟨rfl,rfl⟩
           go_wp2_with fail
           go_ret
           exact⟨_,rfl,⟨fun h=>by simp at h,fun h=>(CA.out (h.2.2 k hlt)).elim⟩,(((hc.alloc _).trans0 c2).trans0 c3)⟩
         ·go_wp2_with fail
          refine(LF.out _).mono ?_
          rintro e w2 ⟨rfl,c2⟩
          have y0:w2.cell? ⟨wr.heap.size,0,none⟩=some (.string p.layers[k].name):=(c2.cell (p:=⟨wr.heap.size,0,none⟩) (by simp) (by simp)).trans (by go_simp)
          have y1:w2.cell? ⟨wr.heap.size,1,none⟩=some (.int .i64 p.layers[k].count):=(c2.cell (p:=⟨wr.heap.size,1,none⟩) (by simp) (by simp)).trans (by go_simp)
          have tr2:wr.heap.size<w2.heap.size:=by have:=c2.size;simp at this;omega
          have hbox2:=(HB.out.keep ((Chg.refl [] wr).alloc (.cells #[.string p.layers[k].name,.int .i64 p.layers[k].count] 91)) tw').keep c2 (by simp;omega)
          obtain⟨z0,z1,z2,z3,z4,z5⟩:=hbox2
          clear x0 x1 x2 x3 x4 x5
          go_wp2_with fail
          refine(FB.out _ (((Chg.refl _ _).alloc _).trans0 c2)).mono ?_
          rintro e w3 ⟨rfl,c3⟩
          have y2:w3.cell? ⟨wr.heap.size,1,none⟩=some (.int .i64 p.layers[k].count):=(c3.cell (p:=⟨wr.heap.size,1,none⟩) tr2 (by simp)).trans y1
          go_wp2_with fail
          refine(OF.out _).mono ?_
          rintro e w4 ⟨rfl,rfl⟩
          go_wp2_with fail
          go_ret
          exact⟨_,rfl,⟨fun h=>by simp at h,fun h=>(CA.out (h.2.2 k hlt)).elim⟩,(((hc.alloc _).trans0 c2).trans0 c3)⟩
      ·have OF:=hid (fun W=>(offers_spec_any (faceAt p k) x.1 W).mono (BoolIs.neg n4))
       have CA:Hid (¬LayerAt p k hlt):=hid (fun h=>n4 (IFF.out.1 h).1)
       clear n4
       cases hC:(p.layers[k].name.toList== [99,111,117,110,116,115])
       ·cases hH:(p.layers[k].name.toList== [104,101,97,114,115])
        ·go_wp2_with fail
         refine(LF.out _).mono ?_
         rintro e w2 ⟨rfl,c2⟩
         have y0:w2.cell? ⟨wr.heap.size,0,none⟩=some (.string p.layers[k].name):=(c2.cell (p:=⟨wr.heap.size,0,none⟩) (by simp) (by simp)).trans (by go_simp)
         have y1:w2.cell? ⟨wr.heap.size,1,none⟩=some (.int .i64 p.layers[k].count):=(c2.cell (p:=⟨wr.heap.size,1,none⟩) (by simp) (by simp)).trans (by go_simp)
         have tr2:wr.heap.size<w2.heap.size:=by have:=c2.size;simp at this;omega
         have hbox2:=(HB.out.keep ((Chg.refl [] wr).alloc (.cells #[.string p.layers[k].name,.int .i64 p.layers[k].count] 91)) tw').keep c2 (by simp;omega)
         obtain⟨z0,z1,z2,z3,z4,z5⟩:=hbox2
         clear x0 x1 x2 x3 x4 x5
         go_wp2_with fail
         refine(FB.out _ (((Chg.refl _ _).alloc _).trans0 c2)).mono ?_
         rintro e w3 ⟨rfl,c3⟩
         have y2:w3.cell? ⟨wr.heap.size,1,none⟩=some (.int .i64 p.layers[k].count):=(c3.cell (p:=⟨wr.heap.size,1,none⟩) tr2 (by simp)).trans y1
         go_wp2_with fail
         refine(OF.out _).mono ?_
         rintro e w4 ⟨rfl,rfl⟩
         go_wp2_with fail
         go_ret
         exact⟨_,rfl,⟨fun h=>by simp at h,fun h=>(CA.out (h.2.2 k hlt)).elim⟩,(((hc.alloc _).trans0 c2).trans0 c3)⟩
        ·go_wp2_with fail
         refine(LF.out _).mono ?_
         rintro e w2 ⟨rfl,c2⟩
         have y0:w2.cell? ⟨wr.heap.size,0,none⟩=some (.string p.layers[k].name):=(c2.cell (p:=⟨wr.heap.size,0,none⟩) (by simp) (by simp)).trans (by go_simp)
         have y1:w2.cell? ⟨wr.heap.size,1,none⟩=some (.int .i64 p.layers[k].count):=(c2.cell (p:=⟨wr.heap.size,1,none⟩) (by simp) (by simp)).trans (by go_simp)
         have tr2:wr.heap.size<w2.heap.size:=by have:=c2.size;simp at this;omega
         have hbox2:=(HB.out.keep ((Chg.refl [] wr).alloc (.cells #[.string p.layers[k].name,.int .i64 p.layers[k].count] 91)) tw').keep c2 (by simp;omega)
         obtain⟨z0,z1,z2,z3,z4,z5⟩:=hbox2
         clear x0 x1 x2 x3 x4 x5
         go_wp2_with fail
         refine(FB.out _ (((Chg.refl _ _).alloc _).trans0 c2)).mono ?_
         rintro e w3 ⟨rfl,c3⟩
         have y2:w3.cell? ⟨wr.heap.size,1,none⟩=some (.int .i64 p.layers[k].count):=(c3.cell (p:=⟨wr.heap.size,1,none⟩) tr2 (by simp)).trans y1
         go_wp2_with fail
         refine(OF.out _).mono ?_
         rintro e w4 ⟨rfl,rfl⟩
         go_wp2_with fail
         go_ret
         exact⟨_,rfl,⟨fun h=>by simp at h,fun h=>(CA.out (h.2.2 k hlt)).elim⟩,(((hc.alloc _).trans0 c2).trans0 c3)⟩
       ·go_wp2_with fail
        refine(LF.out _).mono ?_
        rintro e w2 ⟨rfl,c2⟩
        have y0:w2.cell? ⟨wr.heap.size,0,none⟩=some (.string p.layers[k].name):=(c2.cell (p:=⟨wr.heap.size,0,none⟩) (by simp) (by simp)).trans (by go_simp)
        have y1:w2.cell? ⟨wr.heap.size,1,none⟩=some (.int .i64 p.layers[k].count):=(c2.cell (p:=⟨wr.heap.size,1,none⟩) (by simp) (by simp)).trans (by go_simp)
        have tr2:wr.heap.size<w2.heap.size:=by have:=c2.size;simp at this;omega
        have hbox2:=(HB.out.keep ((Chg.refl [] wr).alloc (.cells #[.string p.layers[k].name,.int .i64 p.layers[k].count] 91)) tw').keep c2 (by simp;omega)
        obtain⟨z0,z1,z2,z3,z4,z5⟩:=hbox2
        clear x0 x1 x2 x3 x4 x5
        go_wp2_with fail
        refine(FB.out _ (((Chg.refl _ _).alloc _).trans0 c2)).mono ?_
        rintro e w3 ⟨rfl,c3⟩
        have y2:w3.cell? ⟨wr.heap.size,1,none⟩=some (.int .i64 p.layers[k].count):=(c3.cell (p:=⟨wr.heap.size,1,none⟩) tr2 (by simp)).trans y1
        go_wp2_with fail
        refine(OF.out _).mono ?_
        rintro e w4 ⟨rfl,rfl⟩
        go_wp2_with fail
        go_ret
        exact⟨_,rfl,⟨fun h=>by simp at h,fun h=>(CA.out (h.2.2 k hlt)).elim⟩,(((hc.alloc _).trans0 c2).trans0 c3)⟩
    ·obtain rfl:k=p.layers.length:=by omega
     go_wp2_with fail
     go_ret
     exact⟨_,rfl,⟨fun _=>⟨N1.out,n3,fun i h=>HN.out i h h⟩,fun _=>rfl⟩,hc⟩
  ·have hd3:(3:Int)<(p.layers.length:Int):=by omega
   have CA:Hid (¬PartOk p):=hid (fun h=>n3 h.2.1)
   go_wp2_with fail
   go_ret
   exact⟨_,rfl,⟨fun h=>by simp at h,fun h=>(CA.out h).elim⟩,E1⟩
 ·have IC:=hid (fun W (hW:Chg [] w W)=>(icore W hW).mono (BoolPost.neg n1))
  have CA:Hid (¬PartOk p):=hid (fun h=>n1 h.1)
  clear n1 icore
  go_enter Tryz.func117,Tryz.ntmps117
  go_wp2_with fail
  refine(IC.out _ ((Chg.refl _ _).alloc _)).mono ?_
  rintro e w1 ⟨rfl,c1⟩
  go_wp2_with fail
  go_ret
  exact⟨_,rfl,⟨fun h=>by simp at h,fun h=>(CA.out h).elim⟩,((Chg.refl _ _).alloc _).trans0 c1⟩
def zeroPart:PartT:=⟨⟨⟨#[]⟩,false,false,[],0⟩,[]⟩
theorem zeroPart_cells (W:World):Rd W W.heap.size (cells zeroPart.core.cells) (.slice none 0 0):=by
 show Rd W W.heap.size (.s 0 []) _
 rw [Rd]
 exact⟨none,0,rfl,Nat.le_refl _,by simp [maxLen],.inl rfl⟩
theorem zeroPart_layers (W:World):Rd W W.heap.size (layers zeroPart.layers) (.slice none 0 0):=by
 show Rd W W.heap.size (.s 0 []) _
 rw [Rd]
 exact⟨none,0,rfl,Nat.le_refl _,by simp [maxLen],.inl rfl⟩
def SlotOk (s:SlotT):Prop:=(s.full=true->PartOk s.part)/\(s.full=false->s.part=zeroPart)
def SlotsOk (l:List SlotT):Prop:=l.length=3/\∀(k:Nat) (h:k<l.length),SlotOk l[k]
def SlotSmall (s:SlotT):Prop:=s.part.core.cells.length<=1048576/\s.part.layers.length<=1048576/\∀c∈s.part.core.cells,c.key.size<=1048576
theorem slotOk_off {s:SlotT} (h:s.full=false) (h1:s.part=zeroPart):SlotOk s:=⟨fun e=>(by rw [h] at e;cases e),fun _=>h1⟩
theorem slotOk_on {s:SlotT} (h:s.full=true) (h1:PartOk s.part):SlotOk s:=⟨fun _=>h1,fun e=>(by rw [h] at e;cases e)⟩
theorem slotOk_off_not {s:SlotT} (h:s.full=false) (h1:¬s.part=zeroPart):¬SlotOk s:=fun hs=>h1 (hs.2 h)
theorem slotOk_on_not {s:SlotT} (h:s.full=true) (h1:¬PartOk s.part):¬SlotOk s:=fun hs=>h1 (hs.1 h)
theorem isSlots_impl_any (l:List SlotT) (u:Value) (B:Nat) (w:World) (r:Rd w B (slots l) u) (hB:B<=w.heap.size) (hs:∀s∈l,SlotSmall s):
  Calls Tryz.prog 17 #[u] w (BoolPost (SlotsOk l) w):=by
 obtain⟨A,cap,rfl,h0,h1,hrow⟩:=slots_row r
 unfold maxLen at h1
 clear r
 by_cases n3:l.length=3
 ·have hi3:((l.length:Int) !=3)=false:=by simp;omega
  have N3:=hid n3
  clear n3
  go_enter Tryz.func17,Tryz.ntmps17
  go_wp2_with fail
  go_loopw [10] (fun i wr=>∃k:Nat,k<=l.length/\i= .int .i64 k/\(∀(j:Nat) (h:j<l.length),j<k->SlotOk l[j])/\Chg [] w wr) (fun i _=>l.length-(intOf i).toNat)
  case atStart=>exact⟨0,Nat.zero_le _,rfl,fun j h h0=>absurd h0 (Nat.not_lt_zero _),Chg.refl _ _⟩
  case round=>
   obtain⟨k,hk,rfl,HN,hc⟩:=hrel
   have HN:=hid HN
   by_cases hlt:k<l.length
   ·obtain⟨b,off,u4,u6,rfl,hb,q0,q1,q2,q3,q4,q5,q6,r4,r6⟩:=slots_cells (hrow.chg0 hc hB) k hlt
    obtain⟨A4,cap4,rfl,_,_,_⟩:=cells_row r4
    obtain⟨A6,cap6,rfl,_,_,_⟩:=layers_row r6
    have ttr:wr.heap.size<wr.heap.size+1:=Nat.lt_succ_self _
    have hBr:B<=wr.heap.size:=by have:=hc.size;omega
    have hbw:b<wr.heap.size:=by omega
    have hsm:=hid (hs _ (List.getElem_mem hlt))
    cases hf:l[k].full
    ·simp only [hf] at q0
     have SP:=fun W (hW:Chg [] wr W)=>samePart_impl_any l[k].part zeroPart _ _ _ _ B W.heap.size W (r4.chg0 hW hBr) (r6.chg0 hW hBr) (zeroPart_cells W) (zeroPart_layers W) (by have:=hW.size;omega) (Nat.le_refl _)
     by_cases n1:l[k].part=zeroPart
     ·have SP2:=hid (fun W (hW:Chg [] wr W)=>(SP W hW).mono (BoolPost.pos n1))
      have CA:Hid (SlotOk l[k]):=hid (slotOk_off hf n1)
      clear n1 SP
      go_wp2_with fail
      refine(SP2.out _ ((Chg.refl _ _).alloc _)).mono ?_
      rintro e w2 ⟨rfl,c2⟩
      go_wp2_with fail
      go_roundw
      case rel=>exact⟨k+1,by omega,by go_num,fun j h hj=>(Nat.lt_succ_iff_lt_or_eq.1 hj).elim (HN.out j h) (fun e=>by subst e;exact CA.out),((hc.alloc _).trans0 c2)⟩
      case measure=>simp [intOf];omega
     ·have SP2:=hid (fun W (hW:Chg [] wr W)=>(SP W hW).mono (BoolPost.neg n1))
      have CA:Hid (¬SlotOk l[k]):=hid (slotOk_off_not hf n1)
      clear n1 SP
      go_wp2_with fail
      refine(SP2.out _ ((Chg.refl _ _).alloc _)).mono ?_
      rintro e w2 ⟨rfl,c2⟩
      go_wp2_with fail
      go_ret
      exact⟨_,rfl,⟨fun h=>by simp at h,fun h=>(CA.out (h.2 k hlt)).elim⟩,((hc.alloc _).trans0 c2)⟩
    ·simp only [hf] at q0
     have SP:=fun W (hW:Chg [] wr W)=>isPart_impl_any l[k].part _ _ B W (r4.chg0 hW hBr) (r6.chg0 hW hBr) (by have:=hW.size;omega) hsm.out.2.1 hsm.out.1 hsm.out.2.2
     by_cases n1:PartOk l[k].part
     ·have SP2:=hid (fun W (hW:Chg [] wr W)=>(SP W hW).mono (BoolPost.pos n1))
      have CA:Hid (SlotOk l[k]):=hid (slotOk_on hf n1)
      clear n1 SP
      go_wp2_with fail
      refine(SP2.out _ ((Chg.refl _ _).alloc _)).mono ?_
      rintro e w2 ⟨rfl,c2⟩
      have x0:w2.cell? ⟨wr.heap.size,0,none⟩=some (.bool true):=(c2.cell (p:=⟨wr.heap.size,0,none⟩) (by simp) (by simp)).trans (by go_simp)
      go_wp2_with fail
      go_roundw
      case rel=>exact⟨k+1,by omega,by go_num,fun j h hj=>(Nat.lt_succ_iff_lt_or_eq.1 hj).elim (HN.out j h) (fun e=>by subst e;exact CA.out),((hc.alloc _).trans0 c2)⟩
      case measure=>simp [intOf];omega
     ·have SP2:=hid (fun W (hW:Chg [] wr W)=>(SP W hW).mono (BoolPost.neg n1))
      have CA:Hid (¬SlotOk l[k]):=hid (slotOk_on_not hf n1)
      clear n1 SP
      go_wp2_with fail
      refine(SP2.out _ ((Chg.refl _ _).alloc _)).mono ?_
      rintro e w2 ⟨rfl,c2⟩
      go_wp2_with fail
      go_ret
      exact⟨_,rfl,⟨fun h=>by simp at h,fun h=>(CA.out (h.2 k hlt)).elim⟩,((hc.alloc _).trans0 c2)⟩
   ·obtain rfl:k=l.length:=by omega
    go_wp2_with fail
    go_ret
    exact⟨_,rfl,⟨fun _=>⟨N3.out,fun i h=>HN.out i h h⟩,fun _=>rfl⟩,hc⟩
 ·have hi3:((l.length:Int) !=3)=true:=by simp;omega
  go_enter Tryz.func17,Tryz.ntmps17
  go_wp2_with fail
  go_ret
  exact⟨_,rfl,⟨fun h=>by simp at h,fun h=>(n3 h.1).elim⟩,Chg.refl _ _⟩
end Go.Proofs.YtdlkbomojjmnlaaGreatDoor
