/- IsPlan of the program. Conditions: as stated. -/
import Derived.Test.YtfjhdnjlhjimeaaGreatDoorIsActP
import Derived.Test.YtfjhdnjlhjimeaaGreatDoorWraps
import Derived.BigRegion
set_option maxRecDepth 100000
set_option maxHeartbeats 4000000
namespace Go.Proofs.YtfjhdnjlhjimeaaGreatDoor
open Go.RowKit

theorem Yv (l:List Qa) (u:Value) (B:Nat) (w:World) (hE:KP w) (hW:Qi l<=1048576) (hr:Rd w B (QA l) u) (hB:B<=w.heap.size):
  Calls Tryz.prog 12 #[u] w (Qg (Xn l) w):=by
 have PS:=Qb (zP l u B w hW hr hB)
 have PD:=Qb (fun W (hc:Qc [] w W)=>qR l u B W hW (hr.cz hc hB) (G5 hB hc.size))
 have PA:=Qb (fun W (hc:Qc [] w W)=>vu l u B W (hE.keep hc) hW (hr.cz hc hB) (G5 hB hc.size))
 obtain⟨A,cap,rfl,_,_,_⟩:=Qr hr
 clear hr hW hE
 go_enter Tryz.func12,Tryz.ntmps12
 go_wp2_with fail
 refine PS.out.mono ?_
 rintro e w1 ⟨rfl,c1⟩
 by_cases h1:Qd l<=14
 ·go_wp2_with fail
  refine(PD.out _ c1).mono ?_
  rintro e w2 ⟨rfl,c2⟩
  by_cases h2:Qv l<=3
  ·go_wp2_with fail
   refine(PA.out _ (c1.tz c2)).mono ?_
   rintro e w3 ⟨t,rfl,ht,c3⟩
   have HT:=Qb ht
   clear ht
   go_wp2_with fail
   all_goals(go_ret;exact Qg.of (by unfold Xn;have:=HT.out;simp [h1,h2,this]) ((c1.tz c2).tz c3))
  ·go_wp2_with fail
   go_ret
   exact Qg.of ⟨fun h=>by simp at h,fun h=>absurd h.2.1 h2⟩ (c1.tz c2)
 ·go_wp2_with fail
  go_ret
  exact Qg.of ⟨fun h=>by simp at h,fun h=>absurd h.1 h1⟩ c1
theorem YG.newL {p:Qe} {w w1:World} {A3:Option Addr} {c3:Nat} {A5:Option Addr} {c5:Nat} (h:YG p w w1 (.slice A3 p.core.cells.length c3) (.slice A5 p.layers.length c5)):
  YW w w1 (WH p) [.string p.core.kind,.bool p.core.on,.bool p.core.broken,.slice A3 p.core.cells.length c3,.int .i64 p.core.count,.slice A5 p.layers.length c5]:=by
 obtain⟨⟨S3,h3,hS⟩,hA⟩:=h
 exact yC h3 (fun x hx=>(hS x hx).1) hA (fun x hx=>(hS x hx).2)
theorem Qb3 {w w':World} {f:Bool} {p:Qe} {us:List Value} (h:YW w w' (WH p) us):YW w w' (Zj ⟨f,p⟩) (.bool f::us):=h.cons_v
theorem Qc1 (w:World) (vs:Array Value) (e:TypeId) (g:Nat) (hg:g=w.heap.size) (j:Nat) (u:Value) (h:vs.toList[j]?=some u):(w.alloc (.cells vs e)).cell? ((⟨g,0,none⟩:Addr).add j)=some u:=by
 have hadd:(⟨g,0,none⟩:Addr).add j=⟨g,j,none⟩:=by unfold Addr.add;split<;>simp_all
 rw [hadd]
 subst hg
 exact Xd w vs e (by simpa using h)
theorem Qa9 (f:Bool) (a:ByteArray) (b c:Bool) (A B:Option Addr) (n1 c1 n2 c2:Nat) (m:Int):∀u∈([.bool f,.string a,.bool b,.bool c,.slice A n1 c1,.int .i64 m,.slice B n2 c2]:List Value),u.oneCell'=true:=by
 intro u hu
 simp at hu
 rcases hu with rfl|rfl|rfl|rfl|rfl|rfl|rfl<;>rfl
theorem vX (l:List Ql) (u:Value) (B:Nat) (w:World) (hl:l.length<=1048576) (sm:∀s∈l,UF s) (r:Rd w B (slots l) u) (hB:B<=w.heap.size):
  Calls Tryz.prog 45 #[u] w (KW (slots l) w):=by
 obtain⟨A,cap,rfl,h0,h1,hrow⟩:=Ja r
 unfold maxLen at h1
 clear r
 go_enter Tryz.func45,Tryz.ntmps45
 go_wp2_with fail
 go_loopw [3,8] (fun v i wr=>∃(j:Nat) (A':Option Addr) (cap':Nat),j<=l.length/\i= .int .i64 j/\v= .slice A' j cap'/\Yo w wr 99 7 (.slice A' j cap') j ((l.take j).flatMap Zj)) (fun _ i _=>l.length-(intOf i).toNat)
 case atStart=>exact⟨0,none,0,I3 _,rfl,rfl,S8 w _ _ (B0 _ _)⟩
 case round=>
  obtain⟨j,A',cap',hj,rfl,rfl,hh⟩:=hrel
  have HA:=Qb hh
  have hcg:=hh.chg
  have hsz:=hcg.size
  clear hh
  by_cases hlt:j<l.length
  ·obtain⟨b,off,u4,u6,rfl,hb,q0,q1,q2,q3,q4,q5,q6,r4,r6⟩:=Kw (hrow.cz hcg hB) j hlt
   obtain⟨A4,cap4,rfl,_,_,_⟩:=QX r4
   obtain⟨A6,cap6,rfl,_,_,_⟩:=Xb r6
   obtain⟨sm2,sm1,_⟩:=sm _ (I4 hlt)
   have hlt2:(j:Int)<(l.length:Int):=by omega
   have CP:=Qb (fun W (hW:Qc [] wr W)=>VP l[j].part _ _ B W sm1 sm2 (r4.cz hW (by omega)) (r6.cz hW (by omega)) (by have:=hW.size;omega))
   have hnx:Hid ((l.take (j+1)).flatMap Zj=(l.take j).flatMap Zj++Zj l[j]):=Qb (by rw [G6 hlt,J0,J6,List.flatMap_nil,List.append_nil])
   have hbw:b<wr.heap.size:=by omega
   clear r4 r6 sm1 sm2 hcg
   go_wp2_with fail
   go_region_law (first|(go_simp;go_at_call 72;(with_reducible refine(CP.out _ C6).mono ?_);rintro e w2 ⟨P3,f3,P5,f5,rfl,n1⟩;(have n2:=n1.newL);(have c2:=n2.chg);(have s2:=c2.size);(have v2:wr.heap.size+1<=w2.heap.size:=by(try simp at s2)<;>omega);(have yn2:=c2.ce wr.heap.size);(have HN2:=Qb (n2.sooner (show Qc [] wr _ from C6)));clear c2 n1 n2 s2;simp only [])|(refine Zv rfl (.tmp 12) (.tmp 19) _ rfl rfl rfl (zd _ _ 99 _ 7 88 Tryz.underlying39 GP rfl (by omega) HA.out (us:=[.bool l[j].full,.string l[j].part.core.kind,.bool l[j].part.core.on,.bool l[j].part.core.broken,.slice P3 l[j].part.core.cells.length f3,.int .i64 l[j].part.core.count,.slice P5 l[j].part.layers.length f5]) (dsE:=Zj l[j]) (Qb3 (HN2.out.later C6)) ⟨w2.heap.size,0,none⟩ 1 1 rfl (fun i u hi=>Qc1 _ _ _ _ (by simp) i u hi) (Qa9 _ _ _ _ _ _ _ _ _ _ _) (by omega) (by omega)) ?_;rintro A2 cap2 w5 ⟨hA2,_,_⟩;simp only [])|fail)
   all_goals
    go_wp2_with fail
    go_roundw
    case rel=>exact⟨j+1,A2,cap2,by omega,by go_num,by go_num,by rw [hnx.out];exact hA2⟩
    case measure=>simp [intOf];omega
  ·obtain rfl:j=l.length:=by omega
   have HA2:=HA.out
   rw [I8] at HA2
   go_wp2_with fail
   go_ret
   exact⟨_,rfl,HA2.new⟩
end Go.Proofs.YtfjhdnjlhjimeaaGreatDoor
