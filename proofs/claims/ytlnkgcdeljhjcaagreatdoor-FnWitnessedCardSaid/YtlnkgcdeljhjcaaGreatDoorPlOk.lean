/- IsPlan of the program. Conditions: as stated. -/
import Derived.Test.YtlnkgcdeljhjcaaGreatDoorIsActP
import Derived.Test.YtlnkgcdeljhjcaaGreatDoorWraps
import Derived.BigRegion
set_option maxRecDepth 100000
set_option maxHeartbeats 4000000
namespace Go.Proofs.YtlnkgcdeljhjcaaGreatDoor
open Go.RowKit

theorem WL (l:List Qa) (u:Value) (B:Nat) (w:World) (hE:Km w) (hW:Ql l<=1048576) (hr:Rd w B (QH l) u) (hB:B<=w.heap.size):
  Calls Tryz.prog 18 #[u] w (Qg (X0 l) w):=by
 have PS:=Qd (qC l u B w hW hr hB)
 have PD:=Qd (fun W (hc:Qb [] w W)=>GK l u B W hW (hr.cz hc hB) (Nat.le_trans hB hc.size))
 have PA:=Qd (fun W (hc:Qb [] w W)=>ww l u B W (hE.keep hc) hW (hr.cz hc hB) (Nat.le_trans hB hc.size))
 obtain⟨A,cap,rfl,_,_,_⟩:=Qw hr
 clear hr hW hE
 go_enter Tryz.func18,Tryz.ntmps18
 go_wp2_with fail
 refine PS.out.mono ?_
 rintro e w1 ⟨rfl,c1⟩
 by_cases h1:Qe l<=14
 ·go_wp2_with fail
  refine(PD.out _ c1).mono ?_
  rintro e w2 ⟨rfl,c2⟩
  by_cases h2:Qx l<=3
  ·go_wp2_with fail
   refine(PA.out _ (c1.tz c2)).mono ?_
   rintro e w3 ⟨t,rfl,ht,c3⟩
   have HT:=Qd ht
   clear ht
   go_wp2_with fail
   all_goals(go_ret;exact Qg.of (by unfold X0;have:=HT.out;simp [h1,h2,this]) ((c1.tz c2).tz c3))
  ·go_wp2_with fail
   go_ret
   exact Qg.of ⟨fun h=>by simp at h,fun h=>absurd h.2.1 h2⟩ (c1.tz c2)
 ·go_wp2_with fail
  go_ret
  exact Qg.of ⟨fun h=>by simp at h,fun h=>absurd h.1 h1⟩ c1
theorem Yr.newL {p:Qh} {w w1:World} {A3:Option Addr} {c3:Nat} {A5:Option Addr} {c5:Nat} (h:Yr p w w1 (.slice A3 p.core.cells.length c3) (.slice A5 p.layers.length c5)):
  YJ w w1 (Wm p) [.string p.core.kind,.bool p.core.on,.bool p.core.broken,.slice A3 p.core.cells.length c3,.int .i64 p.core.count,.slice A5 p.layers.length c5]:=by
 obtain⟨⟨S3,h3,hS⟩,hA⟩:=h
 exact qL h3 (fun x hx=>(hS x hx).1) hA (fun x hx=>(hS x hx).2)
theorem Qdb {w w':World} {f:Bool} {p:Qh} {us:List Value} (h:YJ w w' (Wm p) us):YJ w w' (Zo ⟨f,p⟩) (.bool f::us):=h.cons_v
theorem Qew (w:World) (vs:Array Value) (e:TypeId) (g:Nat) (hg:g=w.heap.size) (j:Nat) (u:Value) (h:vs.toList[j]?=some u):(w.alloc (.cells vs e)).cell? ((⟨g,0,none⟩:Addr).add j)=some u:=by
 have hadd:(⟨g,0,none⟩:Addr).add j=⟨g,j,none⟩:=by unfold Addr.add;split<;>simp_all
 rw [hadd]
 subst hg
 exact Xj w vs e (by simpa using h)
theorem Qcx (f:Bool) (a:ByteArray) (b c:Bool) (A B:Option Addr) (n1 c1 n2 c2:Nat) (m:Int):∀u∈([.bool f,.string a,.bool b,.bool c,.slice A n1 c1,.int .i64 m,.slice B n2 c2]:List Value),u.oneCell'=true:=by
 intro u hu
 simp at hu
 rcases hu with rfl|rfl|rfl|rfl|rfl|rfl|rfl<;>rfl
theorem vB (l:List Qm) (u:Value) (B:Nat) (w:World) (hl:l.length<=1048576) (sm:∀s∈l,Uh s) (r:Rd w B (slots l) u) (hB:B<=w.heap.size):
  Calls Tryz.prog 38 #[u] w (Kl (slots l) w):=by
 obtain⟨A,cap,rfl,h0,h1,hrow⟩:=Ki r
 unfold maxLen at h1
 clear r
 go_enter Tryz.func38,Tryz.ntmps38
 go_wp2_with fail
 go_loopw [3,8] (fun v i wr=>∃(j:Nat) (A':Option Addr) (cap':Nat),j<=l.length/\i= .int .i64 j/\v= .slice A' j cap'/\XG w wr 99 7 (.slice A' j cap') j ((l.take j).flatMap Zo)) (fun _ i _=>l.length-(intOf i).toNat)
 case atStart=>exact⟨0,none,0,Nat.zero_le _,rfl,rfl,XG.nil w _ _ (Qb.refl _ _)⟩
 case round=>
  obtain⟨j,A',cap',hj,rfl,rfl,hh⟩:=hrel
  have HA:=Qd hh
  have hcg:=hh.chg
  have hsz:=hcg.size
  clear hh
  by_cases hlt:j<l.length
  ·obtain⟨b,off,u4,u6,rfl,hb,q0,q1,q2,q3,q4,q5,q6,r4,r6⟩:=UR (hrow.cz hcg hB) j hlt
   obtain⟨A4,cap4,rfl,_,_,_⟩:=Za r4
   obtain⟨A6,cap6,rfl,_,_,_⟩:=Xa r6
   obtain⟨sm2,sm1,_⟩:=sm _ (List.getElem_mem hlt)
   have hlt2:(j:Int)<(l.length:Int):=by omega
   have CP:=Qd (fun W (hW:Qb [] wr W)=>Va l[j].part _ _ B W sm1 sm2 (r4.cz hW (by omega)) (r6.cz hW (by omega)) (by have:=hW.size;omega))
   have hnx:Hid ((l.take (j+1)).flatMap Zo=(l.take j).flatMap Zo++Zo l[j]):=Qd (by rw [List.take_succ_eq_append_getElem hlt,List.flatMap_append,List.flatMap_cons,List.flatMap_nil,List.append_nil])
   have hbw:b<wr.heap.size:=by omega
   clear r4 r6 sm1 sm2 hcg
   go_wp2_with fail
   go_region_law (first|(go_simp;go_at_call 67;(with_reducible refine(CP.out _ Qb.now).mono ?_);rintro e w2 ⟨P3,f3,P5,f5,rfl,n1⟩;(have n2:=n1.newL);(have c2:=n2.chg);(have s2:=c2.size);(have v2:wr.heap.size+1<=w2.heap.size:=by(try simp at s2)<;>omega);(have yn2:=c2.ce wr.heap.size);(have HN2:=Qd (n2.sooner (show Qb [] wr _ from Qb.now)));clear c2 n1 n2 s2;simp only [])|(refine Zx rfl (.tmp 12) (.tmp 19) _ rfl rfl rfl (qh _ _ 99 _ 7 88 Tryz.underlying33 J2 rfl (by omega) HA.out (us:=[.bool l[j].full,.string l[j].part.core.kind,.bool l[j].part.core.on,.bool l[j].part.core.broken,.slice P3 l[j].part.core.cells.length f3,.int .i64 l[j].part.core.count,.slice P5 l[j].part.layers.length f5]) (dsE:=Zo l[j]) (Qdb (HN2.out.later Qb.now)) ⟨w2.heap.size,0,none⟩ 1 1 rfl (fun i u hi=>Qew _ _ _ _ (by simp) i u hi) (Qcx _ _ _ _ _ _ _ _ _ _ _) (by omega) (by omega)) ?_;rintro A2 cap2 w5 ⟨hA2,_,_⟩;simp only [])|fail)
   all_goals
    go_wp2_with fail
    go_roundw
    case rel=>exact⟨j+1,A2,cap2,by omega,by go_num,by go_num,by rw [hnx.out];exact hA2⟩
    case measure=>simp [intOf];omega
  ·obtain rfl:j=l.length:=by omega
   have HA2:=HA.out
   rw [List.take_length] at HA2
   go_wp2_with fail
   go_ret
   exact⟨_,rfl,HA2.new⟩
end Go.Proofs.YtlnkgcdeljhjcaaGreatDoor
