/- IsCore of both packages. Conditions: as stated. -/
import Derived.Test.YtlnkgcdeljhjcaaGreatDoorNames
set_option maxRecDepth 100000
set_option maxHeartbeats 4000000
namespace Go.Proofs.YtlnkgcdeljhjcaaGreatDoor
open Go.RowKit

def XI (p:ZR):Prop:=∃f,Qq p.kind=some f/\Zy p.cells/\(0<p.cells.length->has f 1=true)/\ZM p.count/\¬(p.on=true/\p.broken=true)/\(has f 0=true∨(p.on=false/\p.broken=false))
theorem Jy {α:Type} {s:List UInt8} {x:α}:∀ {l:List (List UInt8×α)},look s l=some x->∃n,(n,x)∈l
 | [],h=>by simp [look] at h
 | (n,y)::r,h=>by
  rw [look] at h
  split at h
  ·cases h;exact⟨n,by simp⟩
  ·obtain⟨m,hm⟩:=Jy h
   exact⟨m,by simp [hm]⟩
theorem UE {s:ByteArray} {f:Int} (h:Qq s=some f):zV f:=by
 obtain⟨n,hn⟩:=Jy h
 have:∀y∈kinds,zV y.2:=by unfold zV;decide
 exact this _ hn
theorem qd {s:ByteArray} {x:Int×Int} (h:Qk s=some x):zV x.1/\zV x.2:=by
 obtain⟨n,hn⟩:=Jy h
 have:∀y∈Yh,zV y.2.1/\zV y.2.2:=by unfold zV;decide
 exact this _ hn
theorem Qd7:∀f:Fin 64,(bits .and .i64 ((f.1:Nat):Int) 2==0)=!(has ((f.1:Nat):Int) 1):=by decide+kernel
theorem Qd0:∀f:Fin 64,(bits .and .i64 ((f.1:Nat):Int) 1==1)=has ((f.1:Nat):Int) 0:=by decide+kernel
theorem QhZ {f:Int} (h:zV f):(bits .and .i64 f 2==0)=!(has f 1):=by
 obtain⟨h0,h1⟩:=h
 have:=Qd7 ⟨f.toNat,by omega⟩
 simpa only [Int.toNat_of_nonneg h0] using this
theorem Qhb {f:Int} (h:zV f):(bits .and .i64 f 1==1)=has f 0:=by
 obtain⟨h0,h1⟩:=h
 have:=Qd0 ⟨f.toNat,by omega⟩
 simpa only [Int.toNat_of_nonneg h0] using this
theorem QaU {p:ZR} (h:Qq p.kind=none):¬XI p:=by
 rintro⟨f,hf,_⟩
 rw [h] at hf
 cases hf
theorem Qbl {p:ZR} {f:Int} (h:Qq p.kind=some f):XI p↔(Zy p.cells/\(0<p.cells.length->has f 1=true)/\ZM p.count/\¬(p.on=true/\p.broken=true)/\(has f 0=true∨(p.on=false/\p.broken=false))):=by
 constructor
 ·rintro⟨g,hg,r⟩
  rw [h] at hg
  cases hg
  exact r
 ·exact fun r=>⟨f,h,r⟩
theorem Wv.some_ {o:Option Int} {f:Int} {w:World} (h:o=some f) (e:Ending) (w':World) (hb:Wv o w e w'):e= .returned (.tuple #[.int .i64 f,.bool true])/\w'=w:=by subst h;exact hb
theorem Wv.none_ {o:Option Int} {w:World} (h:o=none) (e:Ending) (w':World) (hb:Wv o w e w'):e= .returned (.tuple #[.int .i64 0,.bool false])/\w'=w:=by subst h;exact hb
theorem Xv.some_ {o:Option Int} {f:Int} {w:World} (h:o=some f) (e:Ending) (w':World) (hb:Xv o w e w'):e= .returned (.tuple #[.int .i64 f,.bool true])/\Qb [] w w':=by subst h;exact hb
theorem yt (p:ZR) (u3:Value) (B:Nat) (w:World) (r:Rd w B (cells p.cells) u3) (hB:B<=w.heap.size) (hl:p.cells.length<=1048576) (hs:∀c∈p.cells,c.key.size<=1048576):
  Calls Tryz.prog 99 #[.agg #[.string p.kind,.bool p.on,.bool p.broken,u3,.int .i64 p.count]] w (Qg (XI p) w):=by
 obtain⟨A,cap,rfl,h0,h1,hrow⟩:=Za r
 unfold maxLen at h1
 have tt:w.heap.size<w.heap.size+1:=Nat.lt_succ_self _
 cases hk:Qq p.kind with
 |none=>
  have KF:=Qd (fun W=>(ZP p.kind W).mono (Wv.none_ hk))
  have CA:=Qd (QaU hk)
  clear hk
  go_enter Tryz.func99,Tryz.ntmps99
  go_wp2_with fail
  refine(KF.out _).mono ?_
  rintro e w1 ⟨rfl,rfl⟩
  go_wp2_with fail
  go_ret
  exact⟨_,rfl,⟨fun h=>by simp at h,fun h=>(CA.out h).elim⟩,(Qb.refl _ _).alloc _⟩
 | some f=>
  have KF:=Qd (fun W=>(ZP p.kind W).mono (Wv.some_ hk))
  have hf:=UE hk
  have hb1:=Qhb hf
  have hb2:=QhZ hf
  have IFF:=Qd (Qbl hk)
  clear hk hf
  by_cases n1:Zy p.cells
  ·have CC:=Qd (fun W (hW:Qb [] w W)=>(YI p.cells _ B W (r.cz hW hB) (by have:=hW.size;omega) hl hs).mono (Qg.pos n1))
   have N1:=Qd n1
   clear n1
   go_enter Tryz.func99,Tryz.ntmps99
   go_wp2_with fail
   refine(KF.out _).mono ?_
   rintro e w1 ⟨rfl,rfl⟩
   go_wp2_with fail
   refine(CC.out _ ((Qb.refl _ _).alloc _)).mono ?_
   rintro e w2 ⟨rfl,c2⟩
   have x1:w2.cell? ⟨w.heap.size,1,none⟩=some (.bool p.on):=(c2.cell (p:=⟨w.heap.size,1,none⟩) (by simp) (by simp)).trans (by go_simp)
   have x2:w2.cell? ⟨w.heap.size,2,none⟩=some (.bool p.broken):=(c2.cell (p:=⟨w.heap.size,2,none⟩) (by simp) (by simp)).trans (by go_simp)
   have x3:w2.cell? ⟨w.heap.size,3,none⟩=some (.slice A p.cells.length cap):=(c2.cell (p:=⟨w.heap.size,3,none⟩) (by simp) (by simp)).trans (by go_simp)
   have x4:w2.cell? ⟨w.heap.size,4,none⟩=some (.int .i64 p.count):=(c2.cell (p:=⟨w.heap.size,4,none⟩) (by simp) (by simp)).trans (by go_simp)
   have E:Qb [] w w2:=((Qb.refl _ _).alloc _).tz c2
   by_cases n0:0<p.cells.length
   ·cases hH:has f 1
    ·have CA:Hid (¬XI p):=Qd (fun h=>by have:=(IFF.out.1 h).2.1 n0;rw [hH] at this;cases this)
     simp only [hH] at hb2
     go_wp2_with fail
     go_ret
     exact⟨_,rfl,⟨fun h=>by simp at h,fun h=>(CA.out h).elim⟩,E⟩
    ·simp only [hH] at hb2
     by_cases n2:ZM p.count
     ·have NU:=Qd (fun W=>(XZ p.count W).mono (Zm.pos n2))
      have N2:=Qd n2
      clear n2
      go_wp2_with fail
      refine(NU.out _).mono ?_
      rintro e w3 ⟨rfl,rfl⟩
      cases hO:p.on<;>cases hR:p.broken<;>cases hF:has f 0
      all_goals
       simp only [hO,hR,hF] at x1 x2 hb1
       go_wp2_with fail
       go_ret
       refine⟨_,rfl,?_,E⟩
       rw [IFF.out]
       simp [N1.out,N2.out,hO,hR,hF,n0,hH]

     ·have NU:=Qd (fun W=>(XZ p.count W).mono (Zm.neg n2))
      have CA:Hid (¬XI p):=Qd (fun h=>n2 (IFF.out.1 h).2.2.1)
      clear n2
      go_wp2_with fail
      refine(NU.out _).mono ?_
      rintro e w3 ⟨rfl,rfl⟩
      go_wp2_with fail
      go_ret
      exact⟨_,rfl,⟨fun h=>by simp at h,fun h=>(CA.out h).elim⟩,E⟩

   ·have hH:(p.cells.length:Int)=0:=by omega
    have hz:p.cells.length=0:=by omega
    by_cases n2:ZM p.count
    ·have NU:=Qd (fun W=>(XZ p.count W).mono (Zm.pos n2))
     have N2:=Qd n2
     clear n2
     go_wp2_with fail
     refine(NU.out _).mono ?_
     rintro e w3 ⟨rfl,rfl⟩
     cases hO:p.on<;>cases hR:p.broken<;>cases hF:has f 0
     all_goals
      simp only [hO,hR,hF] at x1 x2 hb1
      go_wp2_with fail
      go_ret
      refine⟨_,rfl,?_,E⟩
      rw [IFF.out]
      simp [N1.out,N2.out,hO,hR,hF,hz]

    ·have NU:=Qd (fun W=>(XZ p.count W).mono (Zm.neg n2))
     have CA:Hid (¬XI p):=Qd (fun h=>n2 (IFF.out.1 h).2.2.1)
     clear n2
     go_wp2_with fail
     refine(NU.out _).mono ?_
     rintro e w3 ⟨rfl,rfl⟩
     go_wp2_with fail
     go_ret
     exact⟨_,rfl,⟨fun h=>by simp at h,fun h=>(CA.out h).elim⟩,E⟩

  ·have CC:=Qd (fun W (hW:Qb [] w W)=>(YI p.cells _ B W (r.cz hW hB) (by have:=hW.size;omega) hl hs).mono (Qg.neg n1))
   have CA:Hid (¬XI p):=Qd (fun h=>n1 (IFF.out.1 h).1)
   clear n1
   go_enter Tryz.func99,Tryz.ntmps99
   go_wp2_with fail
   refine(KF.out _).mono ?_
   rintro e w1 ⟨rfl,rfl⟩
   go_wp2_with fail
   refine(CC.out _ ((Qb.refl _ _).alloc _)).mono ?_
   rintro e w2 ⟨rfl,c2⟩
   go_wp2_with fail
   go_ret
   exact⟨_,rfl,⟨fun h=>by simp at h,fun h=>(CA.out h).elim⟩,((Qb.refl _ _).alloc _).tz c2⟩
def Qs (p:Qh) (k:Nat):Int:=if k=0 then(Qq p.core.kind).getD 0 else((p.layers[k-1]?.bind fun x=>Qk x.name).getD (0,0)).2
theorem Uz (p:Qh):Qs p 0=(Qq p.core.kind).getD 0:=rfl
theorem YV (p:Qh) (k:Nat) (h0:0<k) (h:k-1<p.layers.length):Qs p k=((Qk p.layers[k-1].name).getD (0,0)).2:=by
 unfold Qs
 rw [if_neg (by omega),List.getElem?_eq_getElem h]
 rfl
def yQ (n:Int) (w:World) (e:Ending) (w':World):Prop:=e= .returned (.int .i64 n)/\Qb [] w w'
def WI (p:Qh) (k:Nat) (h:k<p.layers.length):Prop:=∃x,Qk p.layers[k].name=some x/\ZN (Qs p k) x.1/\ZM p.layers[k].count/\(p.layers[k].count=0∨p.layers[k].name.toList=[99,111,117,110,116,115] ∨p.layers[k].name.toList=[104,101,97,114,115])
def Qp (p:Qh):Prop:=XI p.core/\p.layers.length<=3/\∀(k:Nat) (h:k<p.layers.length),WI p k h
theorem jn {p:Qh} {k:Nat} {h:k<p.layers.length} (hx:Qk p.layers[k].name=none):¬WI p k h:=by
 rintro⟨x,hf,_⟩
 rw [hx] at hf
 cases hf
theorem kV {p:Qh} {k:Nat} {h:k<p.layers.length} {x:Int×Int} (hx:Qk p.layers[k].name=some x):WI p k h↔(ZN (Qs p k) x.1/\ZM p.layers[k].count/\(p.layers[k].count=0∨p.layers[k].name.toList=[99,111,117,110,116,115] ∨p.layers[k].name.toList=[104,101,97,114,115])):=by
 constructor
 ·rintro⟨g,hg,r⟩
  rw [hx] at hg
  cases hg
  exact r
 ·exact fun r=>⟨x,hx,r⟩
theorem YS.some_ {o:Option (Int×Int)} {f:Int×Int} {w:World} (h:o=some f) (e:Ending) (w':World) (hb:YS o w e w'):e= .returned (.tuple #[.int .i64 f.1,.int .i64 f.2,.bool true])/\w'=w:=by subst h;exact hb
theorem YS.none_ {o:Option (Int×Int)} {w:World} (h:o=none) (e:Ending) (w':World) (hb:YS o w e w'):e= .returned (.tuple #[.int .i64 0,.int .i64 0,.bool false])/\w'=w:=by subst h;exact hb
def UV (W:World) (g:Nat) (a0 a1 a2 a3 a4 a5:Value):Prop:=W.cell? ⟨g,0,none⟩=some a0/\W.cell? ⟨g,1,none⟩=some a1/\W.cell? ⟨g,2,none⟩=some a2/\W.cell? ⟨g,3,none⟩=some a3/\W.cell? ⟨g,4,none⟩=some a4/\W.cell? ⟨g,5,none⟩=some a5
theorem UV.keep {W W':World} {g:Nat} {a0 a1 a2 a3 a4 a5:Value} (h:UV W g a0 a1 a2 a3 a4 a5) (hc:Qb [] W W') (hg:g<W.heap.size):UV W' g a0 a1 a2 a3 a4 a5:=by
 obtain⟨h0,h1,h2,h3,h4,h5⟩:=h
 exact⟨(hc.cell (p:=⟨g,0,none⟩) hg (by simp)).trans h0,(hc.cell (p:=⟨g,1,none⟩) hg (by simp)).trans h1,(hc.cell (p:=⟨g,2,none⟩) hg (by simp)).trans h2,(hc.cell (p:=⟨g,3,none⟩) hg (by simp)).trans h3,(hc.cell (p:=⟨g,4,none⟩) hg (by simp)).trans h4,(hc.cell (p:=⟨g,5,none⟩) hg (by simp)).trans h5⟩
theorem UV.new (w:World) (e:TypeId) (a0 a1 a2 a3 a4 a5:Value):UV (w.alloc (.cells #[a0,a1,a2,a3,a4,a5] e)) w.heap.size a0 a1 a2 a3 a4 a5:=
 ⟨Xj _ _ _ rfl,Xj _ _ _ rfl,Xj _ _ _ rfl,Xj _ _ _ rfl,Xj _ _ _ rfl,Xj _ _ _ rfl⟩
theorem J8 (p:Qh) (k:Nat) (u3 u5:Value) (B:Nat) (w:World) (r5:Rd w B (layers p.layers) u5) (hB:B<=w.heap.size) (hk:k<=p.layers.length):
  Calls Tryz.prog 102 #[.agg #[.string p.core.kind,.bool p.core.on,.bool p.core.broken,u3,.int .i64 p.core.count,u5],.int .i64 k] w (yQ (Qs p k) w):=by
 obtain⟨A,cap,rfl,h0,h1,hrow⟩:=Xa r5
 unfold maxLen at h1
 clear r5
 have tt:w.heap.size<w.heap.size+1:=Nat.lt_succ_self _
 by_cases hk0:k=0
 ·subst hk0
  go_enter Tryz.func102,Tryz.ntmps102
  go_wp2_with fail
  refine(ZP p.core.kind _).mono ?_
  rintro e w1 ⟨rfl,rfl⟩
  go_wp2_with fail
  go_ret
  exact⟨rfl,(Qb.refl _ _).alloc _⟩
 ·have hk1:((k:Int)==0)=false:=by simp;omega
  have hlt:k-1<p.layers.length:=by omega
  obtain⟨b,off,rfl,hb,q0,q1⟩:=YR hrow (k-1) hlt
  have hbw:b<w.heap.size:=by omega
  have hne:b≠w.heap.size:=by omega
  have hi0:(0:Int)<=(k:Int) -1:=by omega
  have hi1:(k:Int) -1<(p.layers.length:Int):=by omega
  have hkN:((k:Int) -1).toNat=k-1:=by omega
  have hkz:(k:Int)≠0:=by omega
  go_enter Tryz.func102,Tryz.ntmps102
  go_wp2_with fail
  refine(XY p.layers[k-1].name _).mono ?_
  rintro e w1 ⟨rfl,rfl⟩
  go_wp2_with fail
  go_ret
  refine⟨?_,(Qb.refl _ _).alloc _⟩
  rw [YV p k (by omega) hlt]
  exact rfl
theorem WK (p:Qh) (u3 u5:Value) (B:Nat) (w:World) (r3:Rd w B (cells p.core.cells) u3) (r5:Rd w B (layers p.layers) u5) (hB:B<=w.heap.size) (hl:p.layers.length<=1048576) (hcl:p.core.cells.length<=1048576) (hs:∀c∈p.core.cells,c.key.size<=1048576):
  Calls Tryz.prog 66 #[.agg #[.string p.core.kind,.bool p.core.on,.bool p.core.broken,u3,.int .i64 p.core.count,u5]] w (Qg (Qp p) w):=by
 obtain⟨A3,cap3,rfl,_,_,_⟩:=Za r3
 obtain⟨A,cap,rfl,h0,h1,hrow⟩:=Xa r5
 unfold maxLen at h1
 have tt:w.heap.size<w.heap.size+1:=Nat.lt_succ_self _
 have icore:=fun W (hW:Qb [] w W)=>yt p.core _ B W (r3.cz hW hB) (by have:=hW.size;omega) hcl hs
 by_cases n1:XI p.core
 ·have IC:=Qd (fun W (hW:Qb [] w W)=>(icore W hW).mono (Qg.pos n1))
  have N1:=Qd n1
  clear n1 icore
  go_enter Tryz.func66,Tryz.ntmps66
  go_wp2_with fail
  refine(IC.out _ ((Qb.refl _ _).alloc _)).mono ?_
  rintro e w1 ⟨rfl,c1⟩
  have hbox:UV w1 w.heap.size (.string p.core.kind) (.bool p.core.on) (.bool p.core.broken) (.slice A3 p.core.cells.length cap3) (.int .i64 p.core.count) (.slice A p.layers.length cap):=(UV.new w _ _ _ _ _ _ _).keep c1 (by simp)
  have E1:Qb [] w w1:=((Qb.refl _ _).alloc _).tz c1
  have tw:w.heap.size<w1.heap.size:=by have:=c1.size;simp at this;omega
  obtain⟨x0,x1,x2,x3,x4,x5⟩:=hbox
  by_cases n3:p.layers.length<=3
  ·have hd3:¬((3:Int)<(p.layers.length:Int)):=by omega
   go_wp2_with fail
   go_loopw [21] (fun i wr=>∃k:Nat,k<=p.layers.length/\i= .int .i64 k/\(∀(j:Nat) (h:j<p.layers.length),j<k->WI p j h)/\Qb [] w wr/\w.heap.size<wr.heap.size/\UV wr w.heap.size (.string p.core.kind) (.bool p.core.on) (.bool p.core.broken) (.slice A3 p.core.cells.length cap3) (.int .i64 p.core.count) (.slice A p.layers.length cap)) (fun i _=>p.layers.length-(intOf i).toNat)
   case atStart=>exact⟨0,Nat.zero_le _,rfl,fun j h h0=>absurd h0 (Nat.not_lt_zero _),E1,tw,x0,x1,x2,x3,x4,x5⟩
   case round=>
    clear x0 x1 x2 x3 x4 x5
    obtain⟨k,hk,rfl,HN,hc,tw',hbox⟩:=hrel
    have HN:=Qd HN
    have HB:=Qd hbox
    obtain⟨x0,x1,x2,x3,x4,x5⟩:=hbox
    by_cases hlt:k<p.layers.length
    ·obtain⟨b,off,rfl,hb,q0,q1⟩:=YR (hrow.cz hc hB) k hlt
     have hsz:=hc.size
     have hbw:b<wr.heap.size:=by omega
     have ttr:wr.heap.size<wr.heap.size+1:=Nat.lt_succ_self _
     cases hx:Qk p.layers[k].name with
     |none=>
      have LF:=Qd (fun W=>(XY p.layers[k].name W).mono (YS.none_ hx))
      have CA:=Qd (jn (h:=hlt) hx)
      clear hx
      go_wp2_with fail
      refine(LF.out _).mono ?_
      rintro e w2 ⟨rfl,rfl⟩
      go_wp2_with fail
      go_ret
      exact⟨_,rfl,⟨fun h=>by simp at h,fun h=>(CA.out (h.2.2 k hlt)).elim⟩,(hc.alloc _)⟩
     | some x=>
      have LF:=Qd (fun W=>(XY p.layers[k].name W).mono (YS.some_ hx))
      have FB:=Qd (fun W (hW:Qb [] wr W)=>J8 p k (.slice A3 p.core.cells.length cap3) _ B W (r5.cz (hc.tz hW) hB) (by have:=(hc.tz hW).size;omega) hk)
      have IFF:=Qd (kV (h:=hlt) hx)
      clear hx
      by_cases n4:ZN (Qs p k) x.1
      ·have OF:=Qd (fun W=>(Xq (Qs p k) x.1 W).mono (Zm.pos n4))
       have N4:=Qd n4
       clear n4
       by_cases n5:ZM p.layers[k].count
       ·have NU:=Qd (fun W=>(XZ p.layers[k].count W).mono (Zm.pos n5))
        have N5:=Qd n5
        clear n5
        by_cases n6:p.layers[k].count=0
        ·have CA:Hid (WI p k hlt):=Qd (IFF.out.2 ⟨N4.out,N5.out,.inl n6⟩)
         simp only [n6] at q1 NU
         clear n6
         go_wp2_with fail
         refine(LF.out _).mono ?_
         rintro e w2 ⟨rfl,rfl⟩
         go_wp2_with fail
         refine(FB.out _ ((Qb.refl _ _).alloc _)).mono ?_
         rintro e w3 ⟨rfl,c2⟩
         have y0:w3.cell? ⟨wr.heap.size,0,none⟩=some (.string p.layers[k].name):=(c2.cell (p:=⟨wr.heap.size,0,none⟩) (by simp) (by simp)).trans (by go_simp)
         have y1:w3.cell? ⟨wr.heap.size,1,none⟩=some (.int .i64 0):=(c2.cell (p:=⟨wr.heap.size,1,none⟩) (by simp) (by simp)).trans (by go_simp)
         go_wp2_with fail
         refine(OF.out _).mono ?_
         rintro e w4 ⟨rfl,rfl⟩
         go_wp2_with fail
         refine(NU.out _).mono ?_
         rintro e w5 ⟨rfl,rfl⟩
         go_wp2_with fail
         go_roundw
         case rel=>exact⟨k+1,by omega,by go_num,fun j h hj=>(Nat.lt_succ_iff_lt_or_eq.1 hj).elim (HN.out j h) (fun e=>by subst e;exact CA.out),((hc.alloc _).tz c2),Nat.lt_of_lt_of_le tw' ((((Qb.refl [] _).alloc _).tz c2)).size,HB.out.keep ((((Qb.refl [] _).alloc _).tz c2)) tw'⟩
         case measure=>simp [intOf];omega
        ·cases hC:(p.layers[k].name.toList== [99,111,117,110,116,115])
         ·cases hH:(p.layers[k].name.toList== [104,101,97,114,115])
          ·have CA:Hid (¬WI p k hlt):=Qd (fun h=>by rcases(IFF.out.1 h).2.2 with h|h|h;exact n6 h;(rw [h] at hC;simp at hC);(rw [h] at hH;simp at hH))
           go_wp2_with fail
           refine(LF.out _).mono ?_
           rintro e w2 ⟨rfl,rfl⟩
           go_wp2_with fail
           refine(FB.out _ ((Qb.refl _ _).alloc _)).mono ?_
           rintro e w3 ⟨rfl,c2⟩
           have y0:w3.cell? ⟨wr.heap.size,0,none⟩=some (.string p.layers[k].name):=(c2.cell (p:=⟨wr.heap.size,0,none⟩) (by simp) (by simp)).trans (by go_simp)
           have y1:w3.cell? ⟨wr.heap.size,1,none⟩=some (.int .i64 p.layers[k].count):=(c2.cell (p:=⟨wr.heap.size,1,none⟩) (by simp) (by simp)).trans (by go_simp)
           go_wp2_with fail
           refine(OF.out _).mono ?_
           rintro e w4 ⟨rfl,rfl⟩
           go_wp2_with fail
           refine(NU.out _).mono ?_
           rintro e w5 ⟨rfl,rfl⟩
           go_wp2_with fail
           go_ret
           exact⟨_,rfl,⟨fun h=>by simp at h,fun h=>(CA.out (h.2.2 k hlt)).elim⟩,((hc.alloc _).tz c2)⟩
          ·have CA:Hid (WI p k hlt):=Qd (IFF.out.2 ⟨N4.out,N5.out,.inr (.inr (by simpa using hH))⟩)
           go_wp2_with fail
           refine(LF.out _).mono ?_
           rintro e w2 ⟨rfl,rfl⟩
           go_wp2_with fail
           refine(FB.out _ ((Qb.refl _ _).alloc _)).mono ?_
           rintro e w3 ⟨rfl,c2⟩
           have y0:w3.cell? ⟨wr.heap.size,0,none⟩=some (.string p.layers[k].name):=(c2.cell (p:=⟨wr.heap.size,0,none⟩) (by simp) (by simp)).trans (by go_simp)
           have y1:w3.cell? ⟨wr.heap.size,1,none⟩=some (.int .i64 p.layers[k].count):=(c2.cell (p:=⟨wr.heap.size,1,none⟩) (by simp) (by simp)).trans (by go_simp)
           go_wp2_with fail
           refine(OF.out _).mono ?_
           rintro e w4 ⟨rfl,rfl⟩
           go_wp2_with fail
           refine(NU.out _).mono ?_
           rintro e w5 ⟨rfl,rfl⟩
           go_wp2_with fail
           go_roundw
           case rel=>exact⟨k+1,by omega,by go_num,fun j h hj=>(Nat.lt_succ_iff_lt_or_eq.1 hj).elim (HN.out j h) (fun e=>by subst e;exact CA.out),((hc.alloc _).tz c2),Nat.lt_of_lt_of_le tw' ((((Qb.refl [] _).alloc _).tz c2)).size,HB.out.keep ((((Qb.refl [] _).alloc _).tz c2)) tw'⟩
           case measure=>simp [intOf];omega
         ·have CA:Hid (WI p k hlt):=Qd (IFF.out.2 ⟨N4.out,N5.out,.inr (.inl (by simpa using hC))⟩)
          go_wp2_with fail
          refine(LF.out _).mono ?_
          rintro e w2 ⟨rfl,rfl⟩
          go_wp2_with fail
          refine(FB.out _ ((Qb.refl _ _).alloc _)).mono ?_
          rintro e w3 ⟨rfl,c2⟩
          have y0:w3.cell? ⟨wr.heap.size,0,none⟩=some (.string p.layers[k].name):=(c2.cell (p:=⟨wr.heap.size,0,none⟩) (by simp) (by simp)).trans (by go_simp)
          have y1:w3.cell? ⟨wr.heap.size,1,none⟩=some (.int .i64 p.layers[k].count):=(c2.cell (p:=⟨wr.heap.size,1,none⟩) (by simp) (by simp)).trans (by go_simp)
          go_wp2_with fail
          refine(OF.out _).mono ?_
          rintro e w4 ⟨rfl,rfl⟩
          go_wp2_with fail
          refine(NU.out _).mono ?_
          rintro e w5 ⟨rfl,rfl⟩
          go_wp2_with fail
          go_roundw
          case rel=>exact⟨k+1,by omega,by go_num,fun j h hj=>(Nat.lt_succ_iff_lt_or_eq.1 hj).elim (HN.out j h) (fun e=>by subst e;exact CA.out),((hc.alloc _).tz c2),Nat.lt_of_lt_of_le tw' ((((Qb.refl [] _).alloc _).tz c2)).size,HB.out.keep ((((Qb.refl [] _).alloc _).tz c2)) tw'⟩
          case measure=>simp [intOf];omega
       ·have NU:=Qd (fun W=>(XZ p.layers[k].count W).mono (Zm.neg n5))
        have CA:Hid (¬WI p k hlt):=Qd (fun h=>n5 (IFF.out.1 h).2.1)
        clear n5
        go_wp2_with fail
        refine(LF.out _).mono ?_
        rintro e w2 ⟨rfl,rfl⟩
        go_wp2_with fail
        refine(FB.out _ ((Qb.refl _ _).alloc _)).mono ?_
        rintro e w3 ⟨rfl,c2⟩
        have y0:w3.cell? ⟨wr.heap.size,0,none⟩=some (.string p.layers[k].name):=(c2.cell (p:=⟨wr.heap.size,0,none⟩) (by simp) (by simp)).trans (by go_simp)
        have y1:w3.cell? ⟨wr.heap.size,1,none⟩=some (.int .i64 p.layers[k].count):=(c2.cell (p:=⟨wr.heap.size,1,none⟩) (by simp) (by simp)).trans (by go_simp)
        go_wp2_with fail
        refine(OF.out _).mono ?_
        rintro e w4 ⟨rfl,rfl⟩
        go_wp2_with fail
        refine(NU.out _).mono ?_
        rintro e w5 ⟨rfl,rfl⟩
        go_wp2_with fail
        go_ret
        exact⟨_,rfl,⟨fun h=>by simp at h,fun h=>(CA.out (h.2.2 k hlt)).elim⟩,((hc.alloc _).tz c2)⟩
      ·have OF:=Qd (fun W=>(Xq (Qs p k) x.1 W).mono (Zm.neg n4))
       have CA:Hid (¬WI p k hlt):=Qd (fun h=>n4 (IFF.out.1 h).1)
       clear n4
       go_wp2_with fail
       refine(LF.out _).mono ?_
       rintro e w2 ⟨rfl,rfl⟩
       go_wp2_with fail
       refine(FB.out _ ((Qb.refl _ _).alloc _)).mono ?_
       rintro e w3 ⟨rfl,c2⟩
       have y0:w3.cell? ⟨wr.heap.size,0,none⟩=some (.string p.layers[k].name):=(c2.cell (p:=⟨wr.heap.size,0,none⟩) (by simp) (by simp)).trans (by go_simp)
       have y1:w3.cell? ⟨wr.heap.size,1,none⟩=some (.int .i64 p.layers[k].count):=(c2.cell (p:=⟨wr.heap.size,1,none⟩) (by simp) (by simp)).trans (by go_simp)
       go_wp2_with fail
       refine(OF.out _).mono ?_
       rintro e w4 ⟨rfl,rfl⟩
       go_wp2_with fail
       go_ret
       exact⟨_,rfl,⟨fun h=>by simp at h,fun h=>(CA.out (h.2.2 k hlt)).elim⟩,((hc.alloc _).tz c2)⟩
    ·obtain rfl:k=p.layers.length:=by omega
     go_wp2_with fail
     go_ret
     exact⟨_,rfl,⟨fun _=>⟨N1.out,n3,fun i h=>HN.out i h h⟩,fun _=>rfl⟩,hc⟩
  ·have hd3:(3:Int)<(p.layers.length:Int):=by omega
   have CA:Hid (¬Qp p):=Qd (fun h=>n3 h.2.1)
   go_wp2_with fail
   go_ret
   exact⟨_,rfl,⟨fun h=>by simp at h,fun h=>(CA.out h).elim⟩,E1⟩
 ·have IC:=Qd (fun W (hW:Qb [] w W)=>(icore W hW).mono (Qg.neg n1))
  have CA:Hid (¬Qp p):=Qd (fun h=>n1 h.1)
  clear n1 icore
  go_enter Tryz.func66,Tryz.ntmps66
  go_wp2_with fail
  refine(IC.out _ ((Qb.refl _ _).alloc _)).mono ?_
  rintro e w1 ⟨rfl,c1⟩
  go_wp2_with fail
  go_ret
  exact⟨_,rfl,⟨fun h=>by simp at h,fun h=>(CA.out h).elim⟩,((Qb.refl _ _).alloc _).tz c1⟩
def Zh:Qh:=⟨⟨⟨#[]⟩,false,false,[],0⟩,[]⟩
theorem wn (W:World):Rd W W.heap.size (cells Zh.core.cells) (.slice none 0 0):=by
 show Rd W W.heap.size (.s 0 []) _
 rw [Rd]
 exact⟨none,0,rfl,Nat.le_refl _,by simp [maxLen],.inl rfl⟩
theorem yz (W:World):Rd W W.heap.size (layers Zh.layers) (.slice none 0 0):=by
 show Rd W W.heap.size (.s 0 []) _
 rw [Rd]
 exact⟨none,0,rfl,Nat.le_refl _,by simp [maxLen],.inl rfl⟩
def Wb (s:Qm):Prop:=(s.full=true->Qp s.part)/\(s.full=false->s.part=Zh)
def QN (l:List Qm):Prop:=l.length=3/\∀(k:Nat) (h:k<l.length),Wb l[k]
def Uh (s:Qm):Prop:=s.part.core.cells.length<=1048576/\s.part.layers.length<=1048576/\∀c∈s.part.core.cells,c.key.size<=1048576
theorem xu {s:Qm} (h:s.full=false) (h1:s.part=Zh):Wb s:=⟨fun e=>(by rw [h] at e;cases e),fun _=>h1⟩
theorem JQ {s:Qm} (h:s.full=true) (h1:Qp s.part):Wb s:=⟨fun _=>h1,fun e=>(by rw [h] at e;cases e)⟩
theorem xL {s:Qm} (h:s.full=false) (h1:¬s.part=Zh):¬Wb s:=fun hs=>h1 (hs.2 h)
theorem vN {s:Qm} (h:s.full=true) (h1:¬Qp s.part):¬Wb s:=fun hs=>h1 (hs.1 h)
theorem zn (l:List Qm) (u:Value) (B:Nat) (w:World) (r:Rd w B (slots l) u) (hB:B<=w.heap.size) (hs:∀s∈l,Uh s):
  Calls Tryz.prog 37 #[u] w (Qg (QN l) w):=by
 obtain⟨A,cap,rfl,h0,h1,hrow⟩:=Ki r
 unfold maxLen at h1
 clear r
 by_cases n3:l.length=3
 ·have hi3:((l.length:Int) !=3)=false:=by simp;omega
  have N3:=Qd n3
  clear n3
  go_enter Tryz.func37,Tryz.ntmps37
  go_wp2_with fail
  go_loopw [10] (fun i wr=>∃k:Nat,k<=l.length/\i= .int .i64 k/\(∀(j:Nat) (h:j<l.length),j<k->Wb l[j])/\Qb [] w wr) (fun i _=>l.length-(intOf i).toNat)
  case atStart=>exact⟨0,Nat.zero_le _,rfl,fun j h h0=>absurd h0 (Nat.not_lt_zero _),Qb.refl _ _⟩
  case round=>
   obtain⟨k,hk,rfl,HN,hc⟩:=hrel
   have HN:=Qd HN
   by_cases hlt:k<l.length
   ·obtain⟨b,off,u4,u6,rfl,hb,q0,q1,q2,q3,q4,q5,q6,r4,r6⟩:=UR (hrow.cz hc hB) k hlt
    obtain⟨A4,cap4,rfl,_,_,_⟩:=Za r4
    obtain⟨A6,cap6,rfl,_,_,_⟩:=Xa r6
    have ttr:wr.heap.size<wr.heap.size+1:=Nat.lt_succ_self _
    have hBr:B<=wr.heap.size:=by have:=hc.size;omega
    have hbw:b<wr.heap.size:=by omega
    have hsm:=Qd (hs _ (List.getElem_mem hlt))
    cases hf:l[k].full
    ·simp only [hf] at q0
     have SP:=fun W (hW:Qb [] wr W)=>GV l[k].part Zh _ _ _ _ B W.heap.size W (r4.cz hW hBr) (r6.cz hW hBr) (wn W) (yz W) (by have:=hW.size;omega) (Nat.le_refl _)
     by_cases n1:l[k].part=Zh
     ·have SP2:=Qd (fun W (hW:Qb [] wr W)=>(SP W hW).mono (Qg.pos n1))
      have CA:Hid (Wb l[k]):=Qd (xu hf n1)
      clear n1 SP
      go_wp2_with fail
      refine(SP2.out _ ((Qb.refl _ _).alloc _)).mono ?_
      rintro e w2 ⟨rfl,c2⟩
      go_wp2_with fail
      go_roundw
      case rel=>exact⟨k+1,by omega,by go_num,fun j h hj=>(Nat.lt_succ_iff_lt_or_eq.1 hj).elim (HN.out j h) (fun e=>by subst e;exact CA.out),((hc.alloc _).tz c2)⟩
      case measure=>simp [intOf];omega
     ·have SP2:=Qd (fun W (hW:Qb [] wr W)=>(SP W hW).mono (Qg.neg n1))
      have CA:Hid (¬Wb l[k]):=Qd (xL hf n1)
      clear n1 SP
      go_wp2_with fail
      refine(SP2.out _ ((Qb.refl _ _).alloc _)).mono ?_
      rintro e w2 ⟨rfl,c2⟩
      go_wp2_with fail
      go_ret
      exact⟨_,rfl,⟨fun h=>by simp at h,fun h=>(CA.out (h.2 k hlt)).elim⟩,((hc.alloc _).tz c2)⟩
    ·simp only [hf] at q0
     have SP:=fun W (hW:Qb [] wr W)=>WK l[k].part _ _ B W (r4.cz hW hBr) (r6.cz hW hBr) (by have:=hW.size;omega) hsm.out.2.1 hsm.out.1 hsm.out.2.2
     by_cases n1:Qp l[k].part
     ·have SP2:=Qd (fun W (hW:Qb [] wr W)=>(SP W hW).mono (Qg.pos n1))
      have CA:Hid (Wb l[k]):=Qd (JQ hf n1)
      clear n1 SP
      go_wp2_with fail
      refine(SP2.out _ ((Qb.refl _ _).alloc _)).mono ?_
      rintro e w2 ⟨rfl,c2⟩
      have x0:w2.cell? ⟨wr.heap.size,0,none⟩=some (.bool true):=(c2.cell (p:=⟨wr.heap.size,0,none⟩) (by simp) (by simp)).trans (by go_simp)
      go_wp2_with fail
      go_roundw
      case rel=>exact⟨k+1,by omega,by go_num,fun j h hj=>(Nat.lt_succ_iff_lt_or_eq.1 hj).elim (HN.out j h) (fun e=>by subst e;exact CA.out),((hc.alloc _).tz c2)⟩
      case measure=>simp [intOf];omega
     ·have SP2:=Qd (fun W (hW:Qb [] wr W)=>(SP W hW).mono (Qg.neg n1))
      have CA:Hid (¬Wb l[k]):=Qd (vN hf n1)
      clear n1 SP
      go_wp2_with fail
      refine(SP2.out _ ((Qb.refl _ _).alloc _)).mono ?_
      rintro e w2 ⟨rfl,c2⟩
      go_wp2_with fail
      go_ret
      exact⟨_,rfl,⟨fun h=>by simp at h,fun h=>(CA.out (h.2 k hlt)).elim⟩,((hc.alloc _).tz c2)⟩
   ·obtain rfl:k=l.length:=by omega
    go_wp2_with fail
    go_ret
    exact⟨_,rfl,⟨fun _=>⟨N3.out,fun i h=>HN.out i h h⟩,fun _=>rfl⟩,hc⟩
 ·have hi3:((l.length:Int) !=3)=true:=by simp;omega
  go_enter Tryz.func37,Tryz.ntmps37
  go_wp2_with fail
  go_ret
  exact⟨_,rfl,⟨fun h=>by simp at h,fun h=>(n3 h.1).elim⟩,Qb.refl _ _⟩
end Go.Proofs.YtlnkgcdeljhjcaaGreatDoor
