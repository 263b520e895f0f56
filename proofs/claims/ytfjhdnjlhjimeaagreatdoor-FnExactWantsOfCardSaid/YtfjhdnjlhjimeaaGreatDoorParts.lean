/- IsCore of both packages. Conditions: as stated. -/
import Derived.Test.YtfjhdnjlhjimeaaGreatDoorNames
set_option maxRecDepth 100000
set_option maxHeartbeats 4000000
namespace Go.Proofs.YtfjhdnjlhjimeaaGreatDoor
open Go.RowKit

def XO (p:ZS):Prop:=∃f,Qo p.kind=some f/\ZA p.cells/\(0<p.cells.length->has f 1=true)/\ZK p.count/\¬(p.on=true/\p.broken=true)/\(has f 0=true∨(p.on=false/\p.broken=false))
theorem Gk {α:Type} {s:List UInt8} {x:α}:∀ {l:List (List UInt8×α)},look s l=some x->∃n,(n,x)∈l
 | [],h=>by simp [look] at h
 | (n,y)::r,h=>by
  rw [look] at h
  split at h
  ·cases h;exact⟨n,by simp⟩
  ·obtain⟨m,hm⟩:=Gk h
   exact⟨m,by simp [hm]⟩
theorem Kq {s:ByteArray} {f:Int} (h:Qo s=some f):ql f:=by
 obtain⟨n,hn⟩:=Gk h
 have:∀y∈kinds,ql y.2:=by unfold ql;decide
 exact this _ hn
theorem zQ {s:ByteArray} {x:Int×Int} (h:Qj s=some x):ql x.1/\ql x.2:=by
 obtain⟨n,hn⟩:=Gk h
 have:∀y∈Yk,ql y.2.1/\ql y.2.2:=by unfold ql;decide
 exact this _ hn
theorem QdV:∀f:Fin 64,(bits .and .i64 ((f.1:Nat):Int) 2==0)=!(has ((f.1:Nat):Int) 1):=by decide+kernel
theorem Qdt:∀f:Fin 64,(bits .and .i64 ((f.1:Nat):Int) 1==1)=has ((f.1:Nat):Int) 0:=by decide+kernel
theorem Qhe {f:Int} (h:ql f):(bits .and .i64 f 2==0)=!(has f 1):=by
 obtain⟨h0,h1⟩:=h
 have:=QdV ⟨f.toNat,by omega⟩
 simpa only [Y4 h0] using this
theorem Qgr {f:Int} (h:ql f):(bits .and .i64 f 1==1)=has f 0:=by
 obtain⟨h0,h1⟩:=h
 have:=Qdt ⟨f.toNat,by omega⟩
 simpa only [Y4 h0] using this
theorem QaK {p:ZS} (h:Qo p.kind=none):¬XO p:=by
 rintro⟨f,hf,_⟩
 rw [h] at hf
 cases hf
theorem QaZ {p:ZS} {f:Int} (h:Qo p.kind=some f):XO p↔(ZA p.cells/\(0<p.cells.length->has f 1=true)/\ZK p.count/\¬(p.on=true/\p.broken=true)/\(has f 0=true∨(p.on=false/\p.broken=false))):=by
 constructor
 ·rintro⟨g,hg,r⟩
  rw [h] at hg
  cases hg
  exact r
 ·exact fun r=>⟨f,h,r⟩
theorem WZ.some_ {o:Option Int} {f:Int} {w:World} (h:o=some f) (e:Ending) (w':World) (hb:WZ o w e w'):e= .returned (.tuple #[.int .i64 f,.bool true])/\w'=w:=by subst h;exact hb
theorem WZ.none_ {o:Option Int} {w:World} (h:o=none) (e:Ending) (w':World) (hb:WZ o w e w'):e= .returned (.tuple #[.int .i64 0,.bool false])/\w'=w:=by subst h;exact hb
theorem WU.some_ {o:Option Int} {f:Int} {w:World} (h:o=some f) (e:Ending) (w':World) (hb:WU o w e w'):e= .returned (.tuple #[.int .i64 f,.bool true])/\Qc [] w w':=by subst h;exact hb
theorem xy (p:ZS) (u3:Value) (B:Nat) (w:World) (r:Rd w B (cells p.cells) u3) (hB:B<=w.heap.size) (hl:p.cells.length<=1048576) (hs:∀c∈p.cells,c.key.size<=1048576):
  Calls Tryz.prog 107 #[.agg #[.string p.kind,.bool p.on,.bool p.broken,u3,.int .i64 p.count]] w (Qg (XO p) w):=by
 obtain⟨A,cap,rfl,h0,h1,hrow⟩:=QX r
 unfold maxLen at h1
 have tt:w.heap.size<w.heap.size+1:=L4 _
 cases hk:Qo p.kind with
 |none=>
  have KF:=Qb (fun W=>(ZT p.kind W).mono (WZ.none_ hk))
  have CA:=Qb (QaK hk)
  clear hk
  go_enter Tryz.func107,Tryz.ntmps107
  go_wp2_with fail
  refine(KF.out _).mono ?_
  rintro e w1 ⟨rfl,rfl⟩
  go_wp2_with fail
  go_ret
  exact⟨_,rfl,⟨fun h=>by simp at h,fun h=>(CA.out h).elim⟩,(B0 _ _).alloc _⟩
 | some f=>
  have KF:=Qb (fun W=>(ZT p.kind W).mono (WZ.some_ hk))
  have hf:=Kq hk
  have hb1:=Qgr hf
  have hb2:=Qhe hf
  have IFF:=Qb (QaZ hk)
  clear hk hf
  by_cases n1:ZA p.cells
  ·have CC:=Qb (fun W (hW:Qc [] w W)=>(YU p.cells _ B W (r.cz hW hB) (by have:=hW.size;omega) hl hs).mono (O3 n1))
   have N1:=Qb n1
   clear n1
   go_enter Tryz.func107,Tryz.ntmps107
   go_wp2_with fail
   refine(KF.out _).mono ?_
   rintro e w1 ⟨rfl,rfl⟩
   go_wp2_with fail
   refine(CC.out _ ((B0 _ _).alloc _)).mono ?_
   rintro e w2 ⟨rfl,c2⟩
   have x1:w2.cell? ⟨w.heap.size,1,none⟩=some (.bool p.on):=(c2.cell (p:=⟨w.heap.size,1,none⟩) (by simp) (by simp)).trans (by go_simp)
   have x2:w2.cell? ⟨w.heap.size,2,none⟩=some (.bool p.broken):=(c2.cell (p:=⟨w.heap.size,2,none⟩) (by simp) (by simp)).trans (by go_simp)
   have x3:w2.cell? ⟨w.heap.size,3,none⟩=some (.slice A p.cells.length cap):=(c2.cell (p:=⟨w.heap.size,3,none⟩) (by simp) (by simp)).trans (by go_simp)
   have x4:w2.cell? ⟨w.heap.size,4,none⟩=some (.int .i64 p.count):=(c2.cell (p:=⟨w.heap.size,4,none⟩) (by simp) (by simp)).trans (by go_simp)
   have E:Qc [] w w2:=((B0 _ _).alloc _).tz c2
   by_cases n0:0<p.cells.length
   ·cases hH:has f 1
    ·have CA:Hid (¬XO p):=Qb (fun h=>by have:=(IFF.out.1 h).2.1 n0;rw [hH] at this;cases this)
     simp only [hH] at hb2
     go_wp2_with fail
     go_ret
     exact⟨_,rfl,⟨fun h=>by simp at h,fun h=>(CA.out h).elim⟩,E⟩
    ·simp only [hH] at hb2
     by_cases n2:ZK p.count
     ·have NU:=Qb (fun W=>(Ye p.count W).mono (QZ.pos n2))
      have N2:=Qb n2
      clear n2
      go_wp2_with fail
      refine(NU.out _).mono ?_
      rintro e w3 ⟨rfl,rfl⟩
      cases hO:p.on<;>cases hR:p.broken<;>cases hF:has f 0
      all_goals
       simp only [hO,hR,hF] at x1 x2 hb1
       go_wp2_with fail
       go_ret
       refine⟨_,rfl,?_,E⟩
       rw [IFF.out]
       simp [N1.out,N2.out,hO,hR,hF,n0,hH]

     ·have NU:=Qb (fun W=>(Ye p.count W).mono (QZ.neg n2))
      have CA:Hid (¬XO p):=Qb (fun h=>n2 (IFF.out.1 h).2.2.1)
      clear n2
      go_wp2_with fail
      refine(NU.out _).mono ?_
      rintro e w3 ⟨rfl,rfl⟩
      go_wp2_with fail
      go_ret
      exact⟨_,rfl,⟨fun h=>by simp at h,fun h=>(CA.out h).elim⟩,E⟩

   ·have hH:(p.cells.length:Int)=0:=by omega
    have hz:p.cells.length=0:=by omega
    by_cases n2:ZK p.count
    ·have NU:=Qb (fun W=>(Ye p.count W).mono (QZ.pos n2))
     have N2:=Qb n2
     clear n2
     go_wp2_with fail
     refine(NU.out _).mono ?_
     rintro e w3 ⟨rfl,rfl⟩
     cases hO:p.on<;>cases hR:p.broken<;>cases hF:has f 0
     all_goals
      simp only [hO,hR,hF] at x1 x2 hb1
      go_wp2_with fail
      go_ret
      refine⟨_,rfl,?_,E⟩
      rw [IFF.out]
      simp [N1.out,N2.out,hO,hR,hF,hz]

    ·have NU:=Qb (fun W=>(Ye p.count W).mono (QZ.neg n2))
     have CA:Hid (¬XO p):=Qb (fun h=>n2 (IFF.out.1 h).2.2.1)
     clear n2
     go_wp2_with fail
     refine(NU.out _).mono ?_
     rintro e w3 ⟨rfl,rfl⟩
     go_wp2_with fail
     go_ret
     exact⟨_,rfl,⟨fun h=>by simp at h,fun h=>(CA.out h).elim⟩,E⟩

  ·have CC:=Qb (fun W (hW:Qc [] w W)=>(YU p.cells _ B W (r.cz hW hB) (by have:=hW.size;omega) hl hs).mono (R4 n1))
   have CA:Hid (¬XO p):=Qb (fun h=>n1 (IFF.out.1 h).1)
   clear n1
   go_enter Tryz.func107,Tryz.ntmps107
   go_wp2_with fail
   refine(KF.out _).mono ?_
   rintro e w1 ⟨rfl,rfl⟩
   go_wp2_with fail
   refine(CC.out _ ((B0 _ _).alloc _)).mono ?_
   rintro e w2 ⟨rfl,c2⟩
   go_wp2_with fail
   go_ret
   exact⟨_,rfl,⟨fun h=>by simp at h,fun h=>(CA.out h).elim⟩,((B0 _ _).alloc _).tz c2⟩
def Qq (p:Qe) (k:Nat):Int:=if k=0 then(Qo p.core.kind).getD 0 else((p.layers[k-1]?.bind fun x=>Qj x.name).getD (0,0)).2
theorem Kr (p:Qe):Qq p 0=(Qo p.core.kind).getD 0:=rfl
theorem Wb (p:Qe) (k:Nat) (h0:0<k) (h:k-1<p.layers.length):Qq p k=((Qj p.layers[k-1].name).getD (0,0)).2:=by
 unfold Qq
 rw [if_neg (by omega),F8 h]
 rfl
def xY (n:Int) (w:World) (e:Ending) (w':World):Prop:=e= .returned (.int .i64 n)/\Qc [] w w'
def Ve (p:Qe) (k:Nat) (h:k<p.layers.length):Prop:=∃x,Qj p.layers[k].name=some x/\ZL (Qq p k) x.1/\ZK p.layers[k].count/\(p.layers[k].count=0∨p.layers[k].name.toList=[99,111,117,110,116,115] ∨p.layers[k].name.toList=[104,101,97,114,115])
def Qn (p:Qe):Prop:=XO p.core/\p.layers.length<=3/\∀(k:Nat) (h:k<p.layers.length),Ve p k h
theorem kO {p:Qe} {k:Nat} {h:k<p.layers.length} (hx:Qj p.layers[k].name=none):¬Ve p k h:=by
 rintro⟨x,hf,_⟩
 rw [hx] at hf
 cases hf
theorem jw {p:Qe} {k:Nat} {h:k<p.layers.length} {x:Int×Int} (hx:Qj p.layers[k].name=some x):Ve p k h↔(ZL (Qq p k) x.1/\ZK p.layers[k].count/\(p.layers[k].count=0∨p.layers[k].name.toList=[99,111,117,110,116,115] ∨p.layers[k].name.toList=[104,101,97,114,115])):=by
 constructor
 ·rintro⟨g,hg,r⟩
  rw [hx] at hg
  cases hg
  exact r
 ·exact fun r=>⟨x,hx,r⟩
theorem We.some_ {o:Option (Int×Int)} {f:Int×Int} {w:World} (h:o=some f) (e:Ending) (w':World) (hb:We o w e w'):e= .returned (.tuple #[.int .i64 f.1,.int .i64 f.2,.bool true])/\w'=w:=by subst h;exact hb
theorem We.none_ {o:Option (Int×Int)} {w:World} (h:o=none) (e:Ending) (w':World) (hb:We o w e w'):e= .returned (.tuple #[.int .i64 0,.int .i64 0,.bool false])/\w'=w:=by subst h;exact hb
def Kc (W:World) (g:Nat) (a0 a1 a2 a3 a4 a5:Value):Prop:=W.cell? ⟨g,0,none⟩=some a0/\W.cell? ⟨g,1,none⟩=some a1/\W.cell? ⟨g,2,none⟩=some a2/\W.cell? ⟨g,3,none⟩=some a3/\W.cell? ⟨g,4,none⟩=some a4/\W.cell? ⟨g,5,none⟩=some a5
theorem Kc.keep {W W':World} {g:Nat} {a0 a1 a2 a3 a4 a5:Value} (h:Kc W g a0 a1 a2 a3 a4 a5) (hc:Qc [] W W') (hg:g<W.heap.size):Kc W' g a0 a1 a2 a3 a4 a5:=by
 obtain⟨h0,h1,h2,h3,h4,h5⟩:=h
 exact⟨(hc.cell (p:=⟨g,0,none⟩) hg (by simp)).trans h0,(hc.cell (p:=⟨g,1,none⟩) hg (by simp)).trans h1,(hc.cell (p:=⟨g,2,none⟩) hg (by simp)).trans h2,(hc.cell (p:=⟨g,3,none⟩) hg (by simp)).trans h3,(hc.cell (p:=⟨g,4,none⟩) hg (by simp)).trans h4,(hc.cell (p:=⟨g,5,none⟩) hg (by simp)).trans h5⟩
theorem Kc.new (w:World) (e:TypeId) (a0 a1 a2 a3 a4 a5:Value):Kc (w.alloc (.cells #[a0,a1,a2,a3,a4,a5] e)) w.heap.size a0 a1 a2 a3 a4 a5:=
 ⟨Xd _ _ _ rfl,Xd _ _ _ rfl,Xd _ _ _ rfl,Xd _ _ _ rfl,Xd _ _ _ rfl,Xd _ _ _ rfl⟩
theorem qj (p:Qe) (k:Nat) (u3 u5:Value) (B:Nat) (w:World) (r5:Rd w B (layers p.layers) u5) (hB:B<=w.heap.size) (hk:k<=p.layers.length):
  Calls Tryz.prog 108 #[.agg #[.string p.core.kind,.bool p.core.on,.bool p.core.broken,u3,.int .i64 p.core.count,u5],.int .i64 k] w (xY (Qq p k) w):=by
 obtain⟨A,cap,rfl,h0,h1,hrow⟩:=Xb r5
 unfold maxLen at h1
 clear r5
 have tt:w.heap.size<w.heap.size+1:=L4 _
 by_cases hk0:k=0
 ·subst hk0
  go_enter Tryz.func108,Tryz.ntmps108
  go_wp2_with fail
  refine(ZT p.core.kind _).mono ?_
  rintro e w1 ⟨rfl,rfl⟩
  go_wp2_with fail
  go_ret
  exact⟨rfl,(B0 _ _).alloc _⟩
 ·have hk1:((k:Int)==0)=false:=by simp;omega
  have hlt:k-1<p.layers.length:=by omega
  obtain⟨b,off,rfl,hb,q0,q1⟩:=Wg hrow (k-1) hlt
  have hbw:b<w.heap.size:=by omega
  have hne:b≠w.heap.size:=by omega
  have hi0:(0:Int)<=(k:Int) -1:=by omega
  have hi1:(k:Int) -1<(p.layers.length:Int):=by omega
  have hkN:((k:Int) -1).toNat=k-1:=by omega
  have hkz:(k:Int)≠0:=by omega
  go_enter Tryz.func108,Tryz.ntmps108
  go_wp2_with fail
  refine(Ya p.layers[k-1].name _).mono ?_
  rintro e w1 ⟨rfl,rfl⟩
  go_wp2_with fail
  go_ret
  refine⟨?_,(B0 _ _).alloc _⟩
  rw [Wb p k (by omega) hlt]
  exact rfl
theorem Vf (p:Qe) (u3 u5:Value) (B:Nat) (w:World) (r3:Rd w B (cells p.core.cells) u3) (r5:Rd w B (layers p.layers) u5) (hB:B<=w.heap.size) (hl:p.layers.length<=1048576) (hcl:p.core.cells.length<=1048576) (hs:∀c∈p.core.cells,c.key.size<=1048576):
  Calls Tryz.prog 71 #[.agg #[.string p.core.kind,.bool p.core.on,.bool p.core.broken,u3,.int .i64 p.core.count,u5]] w (Qg (Qn p) w):=by
 obtain⟨A3,cap3,rfl,_,_,_⟩:=QX r3
 obtain⟨A,cap,rfl,h0,h1,hrow⟩:=Xb r5
 unfold maxLen at h1
 have tt:w.heap.size<w.heap.size+1:=L4 _
 have icore:=fun W (hW:Qc [] w W)=>xy p.core _ B W (r3.cz hW hB) (by have:=hW.size;omega) hcl hs
 by_cases n1:XO p.core
 ·have IC:=Qb (fun W (hW:Qc [] w W)=>(icore W hW).mono (O3 n1))
  have N1:=Qb n1
  clear n1 icore
  go_enter Tryz.func71,Tryz.ntmps71
  go_wp2_with fail
  refine(IC.out _ ((B0 _ _).alloc _)).mono ?_
  rintro e w1 ⟨rfl,c1⟩
  have hbox:Kc w1 w.heap.size (.string p.core.kind) (.bool p.core.on) (.bool p.core.broken) (.slice A3 p.core.cells.length cap3) (.int .i64 p.core.count) (.slice A p.layers.length cap):=(Kc.new w _ _ _ _ _ _ _).keep c1 (by simp)
  have E1:Qc [] w w1:=((B0 _ _).alloc _).tz c1
  have tw:w.heap.size<w1.heap.size:=by have:=c1.size;simp at this;omega
  obtain⟨x0,x1,x2,x3,x4,x5⟩:=hbox
  by_cases n3:p.layers.length<=3
  ·have hd3:¬((3:Int)<(p.layers.length:Int)):=by omega
   go_wp2_with fail
   go_loopw [21] (fun i wr=>∃k:Nat,k<=p.layers.length/\i= .int .i64 k/\(∀(j:Nat) (h:j<p.layers.length),j<k->Ve p j h)/\Qc [] w wr/\w.heap.size<wr.heap.size/\Kc wr w.heap.size (.string p.core.kind) (.bool p.core.on) (.bool p.core.broken) (.slice A3 p.core.cells.length cap3) (.int .i64 p.core.count) (.slice A p.layers.length cap)) (fun i _=>p.layers.length-(intOf i).toNat)
   case atStart=>exact⟨0,I3 _,rfl,fun j h h0=>absurd h0 (M4 _),E1,tw,x0,x1,x2,x3,x4,x5⟩
   case round=>
    clear x0 x1 x2 x3 x4 x5
    obtain⟨k,hk,rfl,HN,hc,tw',hbox⟩:=hrel
    have HN:=Qb HN
    have HB:=Qb hbox
    obtain⟨x0,x1,x2,x3,x4,x5⟩:=hbox
    by_cases hlt:k<p.layers.length
    ·obtain⟨b,off,rfl,hb,q0,q1⟩:=Wg (hrow.cz hc hB) k hlt
     have hsz:=hc.size
     have hbw:b<wr.heap.size:=by omega
     have ttr:wr.heap.size<wr.heap.size+1:=L4 _
     cases hx:Qj p.layers[k].name with
     |none=>
      have LF:=Qb (fun W=>(Ya p.layers[k].name W).mono (We.none_ hx))
      have CA:=Qb (kO (h:=hlt) hx)
      clear hx
      go_wp2_with fail
      refine(LF.out _).mono ?_
      rintro e w2 ⟨rfl,rfl⟩
      go_wp2_with fail
      go_ret
      exact⟨_,rfl,⟨fun h=>by simp at h,fun h=>(CA.out (h.2.2 k hlt)).elim⟩,(hc.alloc _)⟩
     | some x=>
      have LF:=Qb (fun W=>(Ya p.layers[k].name W).mono (We.some_ hx))
      have FB:=Qb (fun W (hW:Qc [] wr W)=>qj p k (.slice A3 p.core.cells.length cap3) _ B W (r5.cz (hc.tz hW) hB) (by have:=(hc.tz hW).size;omega) hk)
      have IFF:=Qb (jw (h:=hlt) hx)
      clear hx
      by_cases n4:ZL (Qq p k) x.1
      ·have OF:=Qb (fun W=>(Xp (Qq p k) x.1 W).mono (QZ.pos n4))
       have N4:=Qb n4
       clear n4
       by_cases n5:ZK p.layers[k].count
       ·have NU:=Qb (fun W=>(Ye p.layers[k].count W).mono (QZ.pos n5))
        have N5:=Qb n5
        clear n5
        by_cases n6:p.layers[k].count=0
        ·have CA:Hid (Ve p k hlt):=Qb (IFF.out.2 ⟨N4.out,N5.out,.inl n6⟩)
         simp only [n6] at q1 NU
         clear n6
         go_wp2_with fail
         refine(LF.out _).mono ?_
         rintro e w2 ⟨rfl,rfl⟩
         go_wp2_with fail
         refine(FB.out _ ((B0 _ _).alloc _)).mono ?_
         rintro e w3 ⟨rfl,c2⟩
         have y0:w3.cell? ⟨wr.heap.size,0,none⟩=some (.string p.layers[k].name):=(c2.cell (p:=⟨wr.heap.size,0,none⟩) (by simp) (by simp)).trans (by go_simp)
         have y1:w3.cell? ⟨wr.heap.size,1,none⟩=some (.int .i64 0):=(c2.cell (p:=⟨wr.heap.size,1,none⟩) (by simp) (by simp)).trans (by go_simp)
         go_wp2_with fail
         refine(OF.out _).mono ?_
         rintro e w4 ⟨rfl,rfl⟩
         go_wp2_with fail
         refine(NU.out _).mono ?_
         rintro e w5 ⟨rfl,rfl⟩
         go_wp2_with fail
         go_roundw
         case rel=>exact⟨k+1,by omega,by go_num,fun j h hj=>(I7.1 hj).elim (HN.out j h) (fun e=>by subst e;exact CA.out),((hc.alloc _).tz c2),F6 tw' ((((B0 [] _).alloc _).tz c2)).size,HB.out.keep ((((B0 [] _).alloc _).tz c2)) tw'⟩
         case measure=>simp [intOf];omega
        ·cases hC:(p.layers[k].name.toList== [99,111,117,110,116,115])
         ·cases hH:(p.layers[k].name.toList== [104,101,97,114,115])
          ·have CA:Hid (¬Ve p k hlt):=Qb (fun h=>by rcases(IFF.out.1 h).2.2 with h|h|h;exact n6 h;(rw [h] at hC;simp at hC);(rw [h] at hH;simp at hH))
           go_wp2_with fail
           refine(LF.out _).mono ?_
           rintro e w2 ⟨rfl,rfl⟩
           go_wp2_with fail
           refine(FB.out _ ((B0 _ _).alloc _)).mono ?_
           rintro e w3 ⟨rfl,c2⟩
           have y0:w3.cell? ⟨wr.heap.size,0,none⟩=some (.string p.layers[k].name):=(c2.cell (p:=⟨wr.heap.size,0,none⟩) (by simp) (by simp)).trans (by go_simp)
           have y1:w3.cell? ⟨wr.heap.size,1,none⟩=some (.int .i64 p.layers[k].count):=(c2.cell (p:=⟨wr.heap.size,1,none⟩) (by simp) (by simp)).trans (by go_simp)
           go_wp2_with fail
           refine(OF.out _).mono ?_
           rintro e w4 ⟨rfl,rfl⟩
           go_wp2_with fail
           refine(NU.out _).mono ?_
           rintro e w5 ⟨rfl,rfl⟩
           go_wp2_with fail
           go_ret
           exact⟨_,rfl,⟨fun h=>by simp at h,fun h=>(CA.out (h.2.2 k hlt)).elim⟩,((hc.alloc _).tz c2)⟩
          ·have CA:Hid (Ve p k hlt):=Qb (IFF.out.2 ⟨N4.out,N5.out,.inr (.inr (by simpa using hH))⟩)
           go_wp2_with fail
           refine(LF.out _).mono ?_
           rintro e w2 ⟨rfl,rfl⟩
           go_wp2_with fail
           refine(FB.out _ ((B0 _ _).alloc _)).mono ?_
           rintro e w3 ⟨rfl,c2⟩
           have y0:w3.cell? ⟨wr.heap.size,0,none⟩=some (.string p.layers[k].name):=(c2.cell (p:=⟨wr.heap.size,0,none⟩) (by simp) (by simp)).trans (by go_simp)
           have y1:w3.cell? ⟨wr.heap.size,1,none⟩=some (.int .i64 p.layers[k].count):=(c2.cell (p:=⟨wr.heap.size,1,none⟩) (by simp) (by simp)).trans (by go_simp)
           go_wp2_with fail
           refine(OF.out _).mono ?_
           rintro e w4 ⟨rfl,rfl⟩
           go_wp2_with fail
           refine(NU.out _).mono ?_
           rintro e w5 ⟨rfl,rfl⟩
           go_wp2_with fail
           go_roundw
           case rel=>exact⟨k+1,by omega,by go_num,fun j h hj=>(I7.1 hj).elim (HN.out j h) (fun e=>by subst e;exact CA.out),((hc.alloc _).tz c2),F6 tw' ((((B0 [] _).alloc _).tz c2)).size,HB.out.keep ((((B0 [] _).alloc _).tz c2)) tw'⟩
           case measure=>simp [intOf];omega
         ·have CA:Hid (Ve p k hlt):=Qb (IFF.out.2 ⟨N4.out,N5.out,.inr (.inl (by simpa using hC))⟩)
          go_wp2_with fail
          refine(LF.out _).mono ?_
          rintro e w2 ⟨rfl,rfl⟩
          go_wp2_with fail
          refine(FB.out _ ((B0 _ _).alloc _)).mono ?_
          rintro e w3 ⟨rfl,c2⟩
          have y0:w3.cell? ⟨wr.heap.size,0,none⟩=some (.string p.layers[k].name):=(c2.cell (p:=⟨wr.heap.size,0,none⟩) (by simp) (by simp)).trans (by go_simp)
          have y1:w3.cell? ⟨wr.heap.size,1,none⟩=some (.int .i64 p.layers[k].count):=(c2.cell (p:=⟨wr.heap.size,1,none⟩) (by simp) (by simp)).trans (by go_simp)
          go_wp2_with fail
          refine(OF.out _).mono ?_
          rintro e w4 ⟨rfl,rfl⟩
          go_wp2_with fail
          refine(NU.out _).mono ?_
          rintro e w5 ⟨rfl,rfl⟩
          go_wp2_with fail
          go_roundw
          case rel=>exact⟨k+1,by omega,by go_num,fun j h hj=>(I7.1 hj).elim (HN.out j h) (fun e=>by subst e;exact CA.out),((hc.alloc _).tz c2),F6 tw' ((((B0 [] _).alloc _).tz c2)).size,HB.out.keep ((((B0 [] _).alloc _).tz c2)) tw'⟩
          case measure=>simp [intOf];omega
       ·have NU:=Qb (fun W=>(Ye p.layers[k].count W).mono (QZ.neg n5))
        have CA:Hid (¬Ve p k hlt):=Qb (fun h=>n5 (IFF.out.1 h).2.1)
        clear n5
        go_wp2_with fail
        refine(LF.out _).mono ?_
        rintro e w2 ⟨rfl,rfl⟩
        go_wp2_with fail
        refine(FB.out _ ((B0 _ _).alloc _)).mono ?_
        rintro e w3 ⟨rfl,c2⟩
        have y0:w3.cell? ⟨wr.heap.size,0,none⟩=some (.string p.layers[k].name):=(c2.cell (p:=⟨wr.heap.size,0,none⟩) (by simp) (by simp)).trans (by go_simp)
        have y1:w3.cell? ⟨wr.heap.size,1,none⟩=some (.int .i64 p.layers[k].count):=(c2.cell (p:=⟨wr.heap.size,1,none⟩) (by simp) (by simp)).trans (by go_simp)
        go_wp2_with fail
        refine(OF.out _).mono ?_
        rintro e w4 ⟨rfl,rfl⟩
        go_wp2_with fail
        refine(NU.out _).mono ?_
        rintro e w5 ⟨rfl,rfl⟩
        go_wp2_with fail
        go_ret
        exact⟨_,rfl,⟨fun h=>by simp at h,fun h=>(CA.out (h.2.2 k hlt)).elim⟩,((hc.alloc _).tz c2)⟩
      ·have OF:=Qb (fun W=>(Xp (Qq p k) x.1 W).mono (QZ.neg n4))
       have CA:Hid (¬Ve p k hlt):=Qb (fun h=>n4 (IFF.out.1 h).1)
       clear n4
       go_wp2_with fail
       refine(LF.out _).mono ?_
       rintro e w2 ⟨rfl,rfl⟩
       go_wp2_with fail
       refine(FB.out _ ((B0 _ _).alloc _)).mono ?_
       rintro e w3 ⟨rfl,c2⟩
       have y0:w3.cell? ⟨wr.heap.size,0,none⟩=some (.string p.layers[k].name):=(c2.cell (p:=⟨wr.heap.size,0,none⟩) (by simp) (by simp)).trans (by go_simp)
       have y1:w3.cell? ⟨wr.heap.size,1,none⟩=some (.int .i64 p.layers[k].count):=(c2.cell (p:=⟨wr.heap.size,1,none⟩) (by simp) (by simp)).trans (by go_simp)
       go_wp2_with fail
       refine(OF.out _).mono ?_
       rintro e w4 ⟨rfl,rfl⟩
       go_wp2_with fail
       go_ret
       exact⟨_,rfl,⟨fun h=>by simp at h,fun h=>(CA.out (h.2.2 k hlt)).elim⟩,((hc.alloc _).tz c2)⟩
    ·obtain rfl:k=p.layers.length:=by omega
     go_wp2_with fail
     go_ret
     exact⟨_,rfl,⟨fun _=>⟨N1.out,n3,fun i h=>HN.out i h h⟩,fun _=>rfl⟩,hc⟩
  ·have hd3:(3:Int)<(p.layers.length:Int):=by omega
   have CA:Hid (¬Qn p):=Qb (fun h=>n3 h.2.1)
   go_wp2_with fail
   go_ret
   exact⟨_,rfl,⟨fun h=>by simp at h,fun h=>(CA.out h).elim⟩,E1⟩
 ·have IC:=Qb (fun W (hW:Qc [] w W)=>(icore W hW).mono (R4 n1))
  have CA:Hid (¬Qn p):=Qb (fun h=>n1 h.1)
  clear n1 icore
  go_enter Tryz.func71,Tryz.ntmps71
  go_wp2_with fail
  refine(IC.out _ ((B0 _ _).alloc _)).mono ?_
  rintro e w1 ⟨rfl,c1⟩
  go_wp2_with fail
  go_ret
  exact⟨_,rfl,⟨fun h=>by simp at h,fun h=>(CA.out h).elim⟩,((B0 _ _).alloc _).tz c1⟩
def Zb:Qe:=⟨⟨⟨#[]⟩,false,false,[],0⟩,[]⟩
theorem wV (W:World):Rd W W.heap.size (cells Zb.core.cells) (.slice none 0 0):=by
 show Rd W W.heap.size (.s 0 []) _
 rw [Rd]
 exact⟨none,0,rfl,F0 _,by simp [maxLen],.inl rfl⟩
theorem xA (W:World):Rd W W.heap.size (layers Zb.layers) (.slice none 0 0):=by
 show Rd W W.heap.size (.s 0 []) _
 rw [Rd]
 exact⟨none,0,rfl,F0 _,by simp [maxLen],.inl rfl⟩
def Ww (s:Ql):Prop:=(s.full=true->Qn s.part)/\(s.full=false->s.part=Zb)
def QH (l:List Ql):Prop:=l.length=3/\∀(k:Nat) (h:k<l.length),Ww l[k]
def UF (s:Ql):Prop:=s.part.core.cells.length<=1048576/\s.part.layers.length<=1048576/\∀c∈s.part.core.cells,c.key.size<=1048576
theorem vf {s:Ql} (h:s.full=false) (h1:s.part=Zb):Ww s:=⟨fun e=>(by rw [h] at e;cases e),fun _=>h1⟩
theorem GU {s:Ql} (h:s.full=true) (h1:Qn s.part):Ww s:=⟨fun _=>h1,fun e=>(by rw [h] at e;cases e)⟩
theorem vm {s:Ql} (h:s.full=false) (h1:¬s.part=Zb):¬Ww s:=fun hs=>h1 (hs.2 h)
theorem uf {s:Ql} (h:s.full=true) (h1:¬Qn s.part):¬Ww s:=fun hs=>h1 (hs.1 h)
theorem yo (l:List Ql) (u:Value) (B:Nat) (w:World) (r:Rd w B (slots l) u) (hB:B<=w.heap.size) (hs:∀s∈l,UF s):
  Calls Tryz.prog 44 #[u] w (Qg (QH l) w):=by
 obtain⟨A,cap,rfl,h0,h1,hrow⟩:=Ja r
 unfold maxLen at h1
 clear r
 by_cases n3:l.length=3
 ·have hi3:((l.length:Int) !=3)=false:=by simp;omega
  have N3:=Qb n3
  clear n3
  go_enter Tryz.func44,Tryz.ntmps44
  go_wp2_with fail
  go_loopw [10] (fun i wr=>∃k:Nat,k<=l.length/\i= .int .i64 k/\(∀(j:Nat) (h:j<l.length),j<k->Ww l[j])/\Qc [] w wr) (fun i _=>l.length-(intOf i).toNat)
  case atStart=>exact⟨0,I3 _,rfl,fun j h h0=>absurd h0 (M4 _),B0 _ _⟩
  case round=>
   obtain⟨k,hk,rfl,HN,hc⟩:=hrel
   have HN:=Qb HN
   by_cases hlt:k<l.length
   ·obtain⟨b,off,u4,u6,rfl,hb,q0,q1,q2,q3,q4,q5,q6,r4,r6⟩:=Kw (hrow.cz hc hB) k hlt
    obtain⟨A4,cap4,rfl,_,_,_⟩:=QX r4
    obtain⟨A6,cap6,rfl,_,_,_⟩:=Xb r6
    have ttr:wr.heap.size<wr.heap.size+1:=L4 _
    have hBr:B<=wr.heap.size:=by have:=hc.size;omega
    have hbw:b<wr.heap.size:=by omega
    have hsm:=Qb (hs _ (I4 hlt))
    cases hf:l[k].full
    ·simp only [hf] at q0
     have SP:=fun W (hW:Qc [] wr W)=>zh l[k].part Zb _ _ _ _ B W.heap.size W (r4.cz hW hBr) (r6.cz hW hBr) (wV W) (xA W) (by have:=hW.size;omega) (F0 _)
     by_cases n1:l[k].part=Zb
     ·have SP2:=Qb (fun W (hW:Qc [] wr W)=>(SP W hW).mono (O3 n1))
      have CA:Hid (Ww l[k]):=Qb (vf hf n1)
      clear n1 SP
      go_wp2_with fail
      refine(SP2.out _ ((B0 _ _).alloc _)).mono ?_
      rintro e w2 ⟨rfl,c2⟩
      go_wp2_with fail
      go_roundw
      case rel=>exact⟨k+1,by omega,by go_num,fun j h hj=>(I7.1 hj).elim (HN.out j h) (fun e=>by subst e;exact CA.out),((hc.alloc _).tz c2)⟩
      case measure=>simp [intOf];omega
     ·have SP2:=Qb (fun W (hW:Qc [] wr W)=>(SP W hW).mono (R4 n1))
      have CA:Hid (¬Ww l[k]):=Qb (vm hf n1)
      clear n1 SP
      go_wp2_with fail
      refine(SP2.out _ ((B0 _ _).alloc _)).mono ?_
      rintro e w2 ⟨rfl,c2⟩
      go_wp2_with fail
      go_ret
      exact⟨_,rfl,⟨fun h=>by simp at h,fun h=>(CA.out (h.2 k hlt)).elim⟩,((hc.alloc _).tz c2)⟩
    ·simp only [hf] at q0
     have SP:=fun W (hW:Qc [] wr W)=>Vf l[k].part _ _ B W (r4.cz hW hBr) (r6.cz hW hBr) (by have:=hW.size;omega) hsm.out.2.1 hsm.out.1 hsm.out.2.2
     by_cases n1:Qn l[k].part
     ·have SP2:=Qb (fun W (hW:Qc [] wr W)=>(SP W hW).mono (O3 n1))
      have CA:Hid (Ww l[k]):=Qb (GU hf n1)
      clear n1 SP
      go_wp2_with fail
      refine(SP2.out _ ((B0 _ _).alloc _)).mono ?_
      rintro e w2 ⟨rfl,c2⟩
      have x0:w2.cell? ⟨wr.heap.size,0,none⟩=some (.bool true):=(c2.cell (p:=⟨wr.heap.size,0,none⟩) (by simp) (by simp)).trans (by go_simp)
      go_wp2_with fail
      go_roundw
      case rel=>exact⟨k+1,by omega,by go_num,fun j h hj=>(I7.1 hj).elim (HN.out j h) (fun e=>by subst e;exact CA.out),((hc.alloc _).tz c2)⟩
      case measure=>simp [intOf];omega
     ·have SP2:=Qb (fun W (hW:Qc [] wr W)=>(SP W hW).mono (R4 n1))
      have CA:Hid (¬Ww l[k]):=Qb (uf hf n1)
      clear n1 SP
      go_wp2_with fail
      refine(SP2.out _ ((B0 _ _).alloc _)).mono ?_
      rintro e w2 ⟨rfl,c2⟩
      go_wp2_with fail
      go_ret
      exact⟨_,rfl,⟨fun h=>by simp at h,fun h=>(CA.out (h.2 k hlt)).elim⟩,((hc.alloc _).tz c2)⟩
   ·obtain rfl:k=l.length:=by omega
    go_wp2_with fail
    go_ret
    exact⟨_,rfl,⟨fun _=>⟨N3.out,fun i h=>HN.out i h h⟩,fun _=>rfl⟩,hc⟩
 ·have hi3:((l.length:Int) !=3)=true:=by simp;omega
  go_enter Tryz.func44,Tryz.ntmps44
  go_wp2_with fail
  go_ret
  exact⟨_,rfl,⟨fun h=>by simp at h,fun h=>(n3 h.1).elim⟩,B0 _ _⟩
end Go.Proofs.YtfjhdnjlhjimeaaGreatDoor
