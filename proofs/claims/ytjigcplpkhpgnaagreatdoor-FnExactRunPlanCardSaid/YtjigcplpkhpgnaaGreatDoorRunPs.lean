/- Copies of slots, of both packages. Conditions: none. Written by a program. / IsPlan of both packages. Conditions: for the program's, the library's variables stand. / RunPlan of the program: what it answers. Conditions: bounds on sizes; the library's variables stand. Written by a program. / RunPlan of the reference: what it answers. Conditions: bounds on sizes. Written by a program. -/
import Derived.Test.YtjigcplpkhpgnaaGreatDoorWraps
import Derived.Test.YtjigcplpkhpgnaaGreatDoorParts
import Derived.BigRegion
import Derived.Deep.RegionLaw
import Derived.Test.YtjigcplpkhpgnaaGreatDoorIsActP
import Derived.Test.YtjigcplpkhpgnaaGreatDoorIsActs
import Derived.Test.YtjigcplpkhpgnaaGreatDoorListI
import Derived.Test.YtjigcplpkhpgnaaGreatDoorDoS
set_option maxRecDepth 100000
set_option maxHeartbeats 8000000
namespace Go.Proofs.YtjigcplpkhpgnaaGreatDoor
open Go.RowKit

theorem PartNew.newL {p:PartT} {w w1:World} {A3:Option Addr} {c3:Nat} {A5:Option Addr} {c5:Nat} (h:PartNew p w w1 (.slice A3 p.core.cells.length c3) (.slice A5 p.layers.length c5)):
  NewL w w1 (partF p) [.string p.core.kind,.bool p.core.on,.bool p.core.broken,.slice A3 p.core.cells.length c3,.int .i64 p.core.count,.slice A5 p.layers.length c5]:=by
 obtain⟨⟨S3,h3,hS⟩,hA⟩:=h
 exact part_newL h3 (fun x hx=>(hS x hx).1) hA (fun x hx=>(hS x hx).2)
theorem newL_slotC {w w':World} {f:Bool} {p:PartT} {us:List Value} (h:NewL w w' (partF p) us):NewL w w' (slotF ⟨f,p⟩) (.bool f::us):=h.cons_v
theorem cell_litC (w:World) (vs:Array Value) (e:TypeId) (g:Nat) (hg:g=w.heap.size) (j:Nat) (u:Value) (h:vs.toList[j]?=some u):(w.alloc (.cells vs e)).cell? ((⟨g,0,none⟩:Addr).add j)=some u:=by
 have hadd:(⟨g,0,none⟩:Addr).add j=⟨g,j,none⟩:=by unfold Addr.add;split<;>simp_all
 rw [hadd]
 subst hg
 exact cell_lit w vs e (by simpa using h)
theorem seven_oneC (f:Bool) (a:ByteArray) (b c:Bool) (A B:Option Addr) (n1 c1 n2 c2:Nat) (m:Int):∀u∈([.bool f,.string a,.bool b,.bool c,.slice A n1 c1,.int .i64 m,.slice B n2 c2]:List Value),u.oneCell'=true:=by
 intro u hu
 simp at hu
 rcases hu with rfl|rfl|rfl|rfl|rfl|rfl|rfl<;>rfl
theorem copySlots_any (l:List SlotT) (u:Value) (B:Nat) (w:World) (hl:l.length<=1048576) (sm:∀s∈l,SlotSmall s) (r:Rd w B (slots l) u) (hB:B<=w.heap.size):
  Calls Tryz.prog 30 #[u] w (Gives (slots l) w):=by
 obtain⟨A,cap,rfl,h0,h1,hrow⟩:=slots_row r
 unfold maxLen at h1
 clear r
 go_enter Tryz.func30,Tryz.ntmps30
 go_wp2_with fail
 go_loopw [3,8] (fun v i wr=>∃(j:Nat) (A':Option Addr) (cap':Nat),j<=l.length/\i= .int .i64 j/\v= .slice A' j cap'/\App w wr 71 7 (.slice A' j cap') j ((l.take j).flatMap slotF)) (fun _ i _=>l.length-(intOf i).toNat)
 case atStart=>exact⟨0,none,0,Nat.zero_le _,rfl,rfl,App.nil w _ _ (Chg.refl _ _)⟩
 case round=>
  obtain⟨j,A',cap',hj,rfl,rfl,hh⟩:=hrel
  have HA:=hid hh
  have hcg:=hh.chg
  have hsz:=hcg.size
  clear hh
  by_cases hlt:j<l.length
  ·obtain⟨b,off,u4,u6,rfl,hb,q0,q1,q2,q3,q4,q5,q6,r4,r6⟩:=slots_cells (hrow.chg0 hcg hB) j hlt
   obtain⟨A4,cap4,rfl,_,_,_⟩:=cells_row r4
   obtain⟨A6,cap6,rfl,_,_,_⟩:=layers_row r6
   obtain⟨sm2,sm1,_⟩:=sm _ (List.getElem_mem hlt)
   have hlt2:(j:Int)<(l.length:Int):=by omega
   have CP:=hid (fun W (hW:Chg [] wr W)=>copyPart_any l[j].part _ _ B W sm1 sm2 (r4.chg0 hW (by omega)) (r6.chg0 hW (by omega)) (by have:=hW.size;omega))
   have hnx:Hid ((l.take (j+1)).flatMap slotF=(l.take j).flatMap slotF++slotF l[j]):=hid (by rw [List.take_succ_eq_append_getElem hlt,List.flatMap_append,List.flatMap_cons,List.flatMap_nil,List.append_nil])
   have hbw:b<wr.heap.size:=by omega
   clear r4 r6 sm1 sm2 hcg
   go_wp2_with fail
   go_region_law (first|(go_simp;go_at_call 57;(with_reducible refine(CP.out _ Chg.now).mono ?_);rintro e w2 ⟨P3,f3,P5,f5,rfl,n1⟩;(have n2:=n1.newL);(have c2:=n2.chg);(have s2:=c2.size);(have v2:wr.heap.size+1<=w2.heap.size:=by(try simp at s2)<;>omega);(have yn2:=c2.ce wr.heap.size);(have HN2:=hid (n2.sooner (show Chg [] wr _ from Chg.now)));clear c2 n1 n2 s2;simp only [])|(refine step_appN rfl (.tmp 12) (.tmp 19) _ rfl rfl rfl (run_appM _ _ 71 _ 7 88 Tryz.underlying29 slot_info rfl (by omega) HA.out (us:=[.bool l[j].full,.string l[j].part.core.kind,.bool l[j].part.core.on,.bool l[j].part.core.broken,.slice P3 l[j].part.core.cells.length f3,.int .i64 l[j].part.core.count,.slice P5 l[j].part.layers.length f5]) (dsE:=slotF l[j]) (newL_slotC (HN2.out.later Chg.now)) ⟨w2.heap.size,0,none⟩ 1 1 rfl (fun i u hi=>cell_litC _ _ _ _ (by simp) i u hi) (seven_oneC _ _ _ _ _ _ _ _ _ _ _) (by omega) (by omega)) ?_;rintro A2 cap2 w5 ⟨hA2,_,_⟩;simp only [])|fail)
   all_goals
    go_wp2_with fail
    go_roundw
    case rel=>exact⟨j+1,A2,cap2,by omega,by go_num,by go_num,by rw [hnx.out];exact hA2⟩
    case measure=>simp [intOf];omega
  ·obtain rfl:j=l.length:=by omega
   have HA2:=HA.out
   rw [List.take_length] at HA2
   go_wp2_with fail
   go_ret
   exact⟨_,rfl,HA2.new⟩
theorem l8Slots_any (l:List SlotT) (u:Value) (B:Nat) (w:World) (hl:l.length<=1048576) (sm:∀s∈l,SlotSmall s) (r:Rd w B (slots l) u) (hB:B<=w.heap.size):
  Calls Tryz.prog 23 #[u] w (Gives (slots l) w):=by
 obtain⟨A,cap,rfl,h0,h1,hrow⟩:=slots_row r
 unfold maxLen at h1
 clear r
 go_enter Tryz.func23,Tryz.ntmps23
 go_wp2_with fail
 go_loopw [3,9] (fun v i wr=>∃(j:Nat) (A':Option Addr) (cap':Nat),j<=l.length/\i= .int .i64 j/\v= .slice A' j cap'/\App w wr 71 7 (.slice A' j cap') j ((l.take j).flatMap slotF)) (fun _ i _=>l.length-(intOf i).toNat)
 case atStart=>exact⟨0,some ⟨w.heap.size,0,none⟩,0,Nat.zero_le _,rfl,rfl,App.empty w _ _ (Chg.refl _ _)⟩
 case round=>
  obtain⟨j,A',cap',hj,rfl,rfl,hh⟩:=hrel
  have HA:=hid hh
  have hcg:=hh.chg
  have hsz:=hcg.size
  clear hh
  by_cases hlt:j<l.length
  ·obtain⟨b,off,u4,u6,rfl,hb,q0,q1,q2,q3,q4,q5,q6,r4,r6⟩:=slots_cells (hrow.chg0 hcg hB) j hlt
   obtain⟨A4,cap4,rfl,_,_,_⟩:=cells_row r4
   obtain⟨A6,cap6,rfl,_,_,_⟩:=layers_row r6
   obtain⟨sm2,sm1,_⟩:=sm _ (List.getElem_mem hlt)
   have hlt2:(j:Int)<(l.length:Int):=by omega
   have CP:=hid (fun W (hW:Chg [] wr W)=>l4Copy_any l[j].part _ _ B W sm1 sm2 (r4.chg0 hW (by omega)) (r6.chg0 hW (by omega)) (by have:=hW.size;omega))
   have hnx:Hid ((l.take (j+1)).flatMap slotF=(l.take j).flatMap slotF++slotF l[j]):=hid (by rw [List.take_succ_eq_append_getElem hlt,List.flatMap_append,List.flatMap_cons,List.flatMap_nil,List.append_nil])
   have hbw:b<wr.heap.size:=by omega
   clear r4 r6 sm1 sm2 hcg
   go_wp2_with fail
   go_region_law (first|(go_simp;go_at_call 46;(with_reducible refine(CP.out _ Chg.now).mono ?_);rintro e w2 ⟨P3,f3,P5,f5,rfl,n1⟩;(have n2:=n1.newL);(have c2:=n2.chg);(have s2:=c2.size);(have v2:wr.heap.size+1<=w2.heap.size:=by(try simp at s2)<;>omega);(have yn2:=c2.ce wr.heap.size);(have HN2:=hid (n2.sooner (show Chg [] wr _ from Chg.now)));clear c2 n1 n2 s2;simp only [])|(refine step_appN rfl (.tmp 13) (.tmp 20) _ rfl rfl rfl (run_appM _ _ 71 _ 7 88 Tryz.underlying29 slot_info rfl (by omega) HA.out (us:=[.bool l[j].full,.string l[j].part.core.kind,.bool l[j].part.core.on,.bool l[j].part.core.broken,.slice P3 l[j].part.core.cells.length f3,.int .i64 l[j].part.core.count,.slice P5 l[j].part.layers.length f5]) (dsE:=slotF l[j]) (newL_slotC (HN2.out.later Chg.now)) ⟨w2.heap.size,0,none⟩ 1 1 rfl (fun i u hi=>cell_litC _ _ _ _ (by simp) i u hi) (seven_oneC _ _ _ _ _ _ _ _ _ _ _) (by omega) (by omega)) ?_;rintro A2 cap2 w5 ⟨hA2,_,_⟩;simp only [])|fail)
   all_goals
    go_wp2_with fail
    go_roundw
    case rel=>exact⟨j+1,A2,cap2,by omega,by go_num,by go_num,by rw [hnx.out];exact hA2⟩
    case measure=>simp [intOf];omega
  ·obtain rfl:j=l.length:=by omega
   have HA2:=HA.out
   rw [List.take_length] at HA2
   go_wp2_with fail
   go_ret
   exact⟨_,rfl,HA2.new⟩
theorem isPlan_spec_law (l:List ActionT) (u:Value) (B:Nat) (w:World) (hW:actionsW l<=1048576) (hr:Rd w B (actions l) u) (hB:B<=w.heap.size):
  Calls Tryz.prog 22 #[u] w (BoolPost (PlanOk l) w):=by
 have PS:=hid (planSize_spec_law l u B w hW hr hB)
 have PD:=hid (fun W (hc:Chg [] w W)=>planDepth_spec_law l u B W hW (hr.chg0 hc hB) (Nat.le_trans hB hc.size))
 have PA:=hid (fun W (hc:Chg [] w W)=>l8All_any l u B W hW (hr.chg0 hc hB) (Nat.le_trans hB hc.size))
 obtain⟨A,cap,rfl,_,_,_⟩:=actions_row hr
 clear hr hW
 go_enter Tryz.func22,Tryz.ntmps22
 go_wp2_with fail
 refine PS.out.mono ?_
 rintro e w1 ⟨rfl,c1⟩
 by_cases h1:sizeL l<=14
 ·go_wp2_with fail
  refine(PD.out _ c1).mono ?_
  rintro e w2 ⟨rfl,c2⟩
  by_cases h2:depthL l<=3
  ·go_wp2_with fail
   refine(PA.out _ (c1.trans0 c2)).mono ?_
   rintro e w3 ⟨t,rfl,ht,c3⟩
   have HT:=hid ht
   clear ht
   go_wp2_with fail
   all_goals(go_ret;exact BoolPost.of (by unfold PlanOk;have:=HT.out;simp [h1,h2,this]) ((c1.trans0 c2).trans0 c3))
  ·go_wp2_with fail
   go_ret
   exact BoolPost.of ⟨fun h=>by simp at h,fun h=>absurd h.2.1 h2⟩ (c1.trans0 c2)
 ·go_wp2_with fail
  go_ret
  exact BoolPost.of ⟨fun h=>by simp at h,fun h=>absurd h.1 h1⟩ c1
theorem isPlan_impl_any (l:List ActionT) (u:Value) (B:Nat) (w:World) (hE:Env w) (hW:actionsW l<=1048576) (hr:Rd w B (actions l) u) (hB:B<=w.heap.size):
  Calls Tryz.prog 29 #[u] w (BoolPost (PlanOk l) w):=by
 have PS:=hid (planSize_impl_law l u B w hW hr hB)
 have PD:=hid (fun W (hc:Chg [] w W)=>planDepth_impl_law l u B W hW (hr.chg0 hc hB) (Nat.le_trans hB hc.size))
 have PA:=hid (fun W (hc:Chg [] w W)=>areActions_any l u B W (hE.keep hc) hW (hr.chg0 hc hB) (Nat.le_trans hB hc.size))
 obtain⟨A,cap,rfl,_,_,_⟩:=actions_row hr
 clear hr hW hE
 go_enter Tryz.func29,Tryz.ntmps29
 go_wp2_with fail
 refine PS.out.mono ?_
 rintro e w1 ⟨rfl,c1⟩
 by_cases h1:sizeL l<=14
 ·go_wp2_with fail
  refine(PD.out _ c1).mono ?_
  rintro e w2 ⟨rfl,c2⟩
  by_cases h2:depthL l<=3
  ·go_wp2_with fail
   refine(PA.out _ (c1.trans0 c2)).mono ?_
   rintro e w3 ⟨t,rfl,ht,c3⟩
   have HT:=hid ht
   clear ht
   go_wp2_with fail
   all_goals(go_ret;exact BoolPost.of (by unfold PlanOk;have:=HT.out;simp [h1,h2,this]) ((c1.trans0 c2).trans0 c3))
  ·go_wp2_with fail
   go_ret
   exact BoolPost.of ⟨fun h=>by simp at h,fun h=>absurd h.2.1 h2⟩ (c1.trans0 c2)
 ·go_wp2_with fail
  go_ret
  exact BoolPost.of ⟨fun h=>by simp at h,fun h=>absurd h.1 h1⟩ c1
/-- An end, slots of one's own, a number. -/
def RunGives (r:EndT×List SlotT×Int) (w:World) (e:Ending) (w':World):Prop:=∃A cap,e= .returned (.tuple #[.agg #[.int .i64 r.1.code,.int .i64 r.1.place,.int .i64 r.1.want,.int .i64 r.1.had],.slice A r.2.1.length cap,.int .i64 r.2.2])/\New w w' (slots r.2.1) (.slice A r.2.1.length cap)
theorem runT_ok {l:List SlotT} {p:List ActionT} {input:List Int} (h1:SlotsOk l) (h2:PlanOk p):runT l p input=((runL input p 0 ⟨l,0⟩).2,(runL input p 0 ⟨l,0⟩).1.slots,(runL input p 0 ⟨l,0⟩).1.taken):=by unfold runT;rw [if_pos ⟨h1,h2⟩]
theorem runT_no {l:List SlotT} {p:List ActionT} {input:List Int} (h:¬SlotsOk l∨¬PlanOk p):runT l p input=(⟨3,0,0,0⟩,l,0):=by unfold runT;rw [if_neg (by intro k;rcases h with h|h;exact h k.1;exact h k.2)]
/-- Three slots of one's own. -/
theorem slots3 {l:List SlotT} (h3:l.length=3) {w:World} {e:Ending} {w':World} (h:Gives (slots l) w e w'):∃g cap S,e= .returned (.slice (some ⟨g,0,none⟩) 3 cap)/\Has w' (slots l) (.slice (some ⟨g,0,none⟩) 3 cap) S/\(∀x,x∈S->w.heap.size<=x)/\Chg [] w w':=by
 obtain⟨A,cap,rfl,S,h1,h2,h4⟩:=h.sl
 obtain⟨g,rfl,_⟩:=h1.own (by omega)
 unfold slots
 rw [h3] at h1 ⊢
 exact⟨g,cap,S,rfl,h1,h2,h4⟩
theorem runPlan_impl_any (l:List SlotT) (m:List ActionT) (input:List Int) (us um ui:Value) (B:Nat) (w:World) (hl:l.length<=1048576) (sm:∀s∈l,SlotSmall s) (hW:actionsW m<=1048576) (rs:Rd w B (slots l) us) (rm:Rd w B (actions m) um) (ri:Rd w B (ints input) ui) (hB:B<=w.heap.size) (hE:Env w):
  Calls Tryz.prog 10 #[us,um,ui] w (RunGives (runT l m input) w):=by
 obtain⟨As,cs,rfl,_,_,_⟩:=slots_row rs
 obtain⟨Am,cm,rfl,_,_,_⟩:=actions_row rm
 obtain⟨Ai,ci,rfl,_,_,_⟩:=ints_row ri
 have isl:=fun W (hW:Chg [] w W)=>isSlots_impl_any l _ B W (rs.chg0 hW hB) (Nat.le_trans hB hW.size) sm
 have CP:=hid (fun W (hW:Chg [] w W)=>copySlots_any l _ B W hl sm (rs.chg0 hW hB) (Nat.le_trans hB hW.size))
 have ipl:=fun W (hW2:Chg [] w W)=>isPlan_impl_any m _ B W (hE.keep hW2) hW (rm.chg0 hW2 hB) (Nat.le_trans hB hW2.size)
 by_cases n1:SlotsOk l
 ·have IS:=hid (fun W hW=>(isl W hW).mono (BoolPost.pos n1))
  by_cases n2:PlanOk m
  ·have IP:=hid (fun W hW=>(ipl W hW).mono (BoolPost.pos n2))
   have h3:l.length=3:=n1.1
   have CP3:=hid (fun W (hW:Chg [] w W)=>(CP.out W hW).mono (fun _ _ h=>slots3 h3 h))
   have EB:=hid (EnvB.of hE)
   have hcost:=plan_cost n2
   have LI:=hid (fun r g cap S W (h1:RB W r g cap (.slice Ai input.length ci) l 0 S) (hW0:Chg [] w W) (hE0:EnvB w.heap.size W) (hS:∀y,y∈r::S->w.heap.size<=y)=>
    list_any m (.slice Am m.length cm) 0 r g cap (.slice Ai input.length ci) input l 0 S W w.heap.size n2.2.2 hW n1 h1 ((rm.chg0 hW0 hB).mono hB) ⟨hE0,hW0.size,(ri.chg0 hW0 hB).mono hB⟩ hS (Int.le_refl _) (by have:=n2.1;omega) (Int.le_refl _) (by omega))
   rw [runT_ok n1 n2]
   obtain⟨q,hq⟩:∃q,q=runL input m 0 ⟨l,0⟩:=⟨_,rfl⟩
   rw [<-hq] at LI ⊢
   have HL3:=hid h3
   clear h3 isl ipl rs rm ri hE hcost hq n1 n2 CP sm
   go_enter Tryz.func10,Tryz.ntmps10
   go_wp2_with fail
   refine(IS.out _ Chg.now).mono ?_
   rintro e w1 ⟨rfl,c1⟩
   have s1:=c1.size
   have v1:w.heap.size+1<=w1.heap.size:=by(try simp at s1)<;>omega
   have yc1:=c1.ce w.heap.size
   have zc1:=c1.fe w.heap.size
   have xc1:w.heap.size<w1.heap.size:=by omega
   clear s1
   have D1:Hid (Chg [] w w1):=hid (Chg.trans0 Chg.now c1)
   clear c1
   go_wp2_with fail
   refine(IP.out _ (Chg.to D1.out)).mono ?_
   rintro e w2 ⟨rfl,c2⟩
   have s2:=c2.size
   have v2:w1.heap.size<=w2.heap.size:=by(try simp at s2)<;>omega
   have yc2:=c2.ce w.heap.size
   have zc2:=c2.fe w.heap.size
   have xc2:w.heap.size<w2.heap.size:=by omega
   clear s2
   have D2:Hid (Chg [] w w2):=hid (Chg.trans0 (Chg.to D1.out) c2)
   clear c2
   go_wp2_with fail
   refine(CP3.out _ (Chg.to D2.out)).mono ?_
   rintro e w3 ⟨g,cap,S,rfl,hS,lS,c3⟩
   have s3:=c3.size
   have v3:w2.heap.size<=w3.heap.size:=by(try simp at s3)<;>omega
   have yc3:=c3.ce w.heap.size
   have zc3:=c3.fe w.heap.size
   have xc3:w.heap.size<w3.heap.size:=by omega
   clear s3
   have D3:Hid (Chg [] w w3):=hid (Chg.trans0 (Chg.to D2.out) c3)
   have lo3:Hid (∀x,x∈S->w.heap.size+1<=x/\x<w3.heap.size):=hid (fun x hx=>⟨by have:=lS x hx;(try simp at this)<;>omega,hS.lt x hx⟩)
   have HS:=hid hS
   clear hS lS c3
   go_wp2_with fail
   refine(LI.out w3.heap.size g cap S _ ?_ (Chg.to D3.out) (EB.out.keep (S:=[]) (Chg.to D3.out) (by simp) (Nat.le_refl _)) (fun y hy=>by
    rcases List.mem_cons.1 hy with rfl|hy
    ·omega
    ·have:=lo3.out y hy;omega)).mono ?_
   ·exact⟨by go_simp,by go_simp,by go_simp,by go_simp,HS.out.keep0 Chg.now,HL3.out,fun h=>by have:=lo3.out _ h;omega⟩
   rintro e w4 ⟨S4,rfl,rb4,hS4,c4⟩
   have s4:=c4.size
   have v4:w3.heap.size+1<=w4.heap.size:=by(try simp at s4)<;>omega
   have yc4:=c4.ce w.heap.size (hn:=fun hx=>by
    rcases List.mem_cons.1 hx with h|h
    ·(try simp at h)<;>omega
    ·have:=lo3.out _ h;(try simp at this)<;>omega)
   have zc4:=c4.fe w.heap.size (hn:=fun hx=>by
    rcases List.mem_cons.1 hx with h|h
    ·(try simp at h)<;>omega
    ·have:=lo3.out _ h;(try simp at this)<;>omega)
   have xc4:w.heap.size<w4.heap.size:=by omega
   clear s4
   have lo4:Hid (∀x,x∈S4->w.heap.size+1<=x):=hid (fun x hx=>by rcases hS4 x hx with h|h;(have:=lo3.out x h;omega);((try simp at h)<;>omega))
   have D4:Hid (Chg [] w w4):=hid ((Chg.trans (S:=w3.heap.size::S) (Chg.mono (S:=[]) (Chg.to D3.out) (by simp)) c4 (fun x hx=>.inl hx)).mono (fun x hx=>.inr (by
    rcases List.mem_cons.1 hx with rfl|h
    ·omega
    ·have:=lo3.out x h;omega)))
   obtain⟨b0,b1,b2,bf2,bs,bl,br⟩:=rb4
   have hr4:w3.heap.size<w4.heap.size:=lt_of_cell b0
   have HS4:=hid bs
   have ec0:w4.cell? ⟨w.heap.size,0,none⟩=some (.int .i64 0):=(yc4 0).trans (by go_simp)
   have ec1:w4.cell? ⟨w.heap.size,1,none⟩=some (.int .i64 0):=(yc4 1).trans (by go_simp)
   have ec2:w4.cell? ⟨w.heap.size,2,none⟩=some (.int .i64 0):=(yc4 2).trans (by go_simp)
   have ec3:w4.cell? ⟨w.heap.size,3,none⟩=some (.int .i64 0):=(yc4 3).trans (by go_simp)
   clear yc4 hS4 c4 bs br
   have u4:w.heap.size<w4.heap.size+1:=by omega
   have u5:w3.heap.size<w4.heap.size+1:=by omega
   go_wp2_with fail
   go_region
   all_goals
    go_wp2_with fail
    refine bodyPost_ret (v:=.tuple #[.agg #[.int .i64 q.2.code,.int .i64 q.2.place,.int .i64 q.2.want,.int .i64 q.2.had],.slice (some ⟨g,0,none⟩) 3 cap,.int .i64 q.1.taken]) (by simp only [results,Tryz.results10];go_simp) rfl ?_
    exact⟨some ⟨g,0,none⟩,cap,by dsimp only;rw [bl],S4,by dsimp only;rw [bl];exact HS4.out.keep (S0:=[w.heap.size]) Chg.now (fun x hx=>by have:=lo4.out x hx;simp;omega),fun x hx=>by have:=lo4.out x hx;omega,(Chg.to D4.out)⟩
  ·have IP:=hid (fun W hW=>(ipl W hW).mono (BoolPost.neg n2))
   clear isl ipl rs rm ri hE sm
   go_enter Tryz.func10,Tryz.ntmps10
   go_wp2_with fail
   refine(IS.out _ Chg.now).mono ?_
   rintro e w1 ⟨rfl,c1⟩
   have s1:=c1.size
   have v1:w.heap.size+1<=w1.heap.size:=by(try simp at s1)<;>omega
   have yc1:=c1.ce w.heap.size
   have zc1:=c1.fe w.heap.size
   have xc1:w.heap.size<w1.heap.size:=by omega
   clear s1
   have D1:Hid (Chg [] w w1):=hid (Chg.trans0 Chg.now c1)
   clear c1
   go_wp2_with fail
   refine(IP.out _ (Chg.to D1.out)).mono ?_
   rintro e w2 ⟨rfl,c2⟩
   have s2:=c2.size
   have v2:w1.heap.size<=w2.heap.size:=by(try simp at s2)<;>omega
   have yc2:=c2.ce w.heap.size
   have zc2:=c2.fe w.heap.size
   have xc2:w.heap.size<w2.heap.size:=by omega
   clear s2
   have D2:Hid (Chg [] w w2):=hid (Chg.trans0 (Chg.to D1.out) c2)
   clear c2
   go_wp2_with fail
   refine(CP.out _ (Chg.to D2.out)).mono ?_
   rintro e w5 hG
   obtain⟨A5,cap5,rfl,n5⟩:=hG.sl
   have c5:=n5.chg
   have s5:=c5.size
   have v5:w2.heap.size<=w5.heap.size:=by(try simp at s5)<;>omega
   have yc5:=c5.ce w.heap.size
   have zc5:=c5.fe w.heap.size
   have xc5:w.heap.size<w5.heap.size:=by omega
   clear s5
   skip
   obtain⟨S5,h5,l5,_⟩:=n5
   have H5:=hid h5
   have L5:=hid l5
   have D5:Hid (Chg [] w w5):=hid (Chg.trans0 (Chg.to D2.out) c5)
   clear h5 l5 c5 hG
   have ec0:w5.cell? ⟨w.heap.size,0,none⟩=some (.int .i64 0):=(yc5 0).trans (by go_simp)
   have ec1:w5.cell? ⟨w.heap.size,1,none⟩=some (.int .i64 0):=(yc5 1).trans (by go_simp)
   have ec2:w5.cell? ⟨w.heap.size,2,none⟩=some (.int .i64 0):=(yc5 2).trans (by go_simp)
   have ec3:w5.cell? ⟨w.heap.size,3,none⟩=some (.int .i64 0):=(yc5 3).trans (by go_simp)
   clear yc5
   go_wp2_with fail
   refine bodyPost_ret (v:=.tuple #[.agg #[.int .i64 3,.int .i64 0,.int .i64 0,.int .i64 0],.slice A5 l.length cap5,.int .i64 0]) (by simp only [results,Tryz.results10];go_simp) rfl ?_
   rw [runT_no (.inr n2)]
   exact⟨A5,cap5,rfl,S5,H5.out.keep (S0:=[w.heap.size]) Chg.now (fun x hx=>by have:=L5.out x hx;(try simp at this)<;>simp<;>omega),fun x hx=>by have:=L5.out x hx;(try simp at this)<;>omega,(Chg.to D5.out)⟩
 ·have IS:=hid (fun W hW=>(isl W hW).mono (BoolPost.neg n1))
  clear isl ipl rs rm ri hE sm
  go_enter Tryz.func10,Tryz.ntmps10
  go_wp2_with fail
  refine(IS.out _ Chg.now).mono ?_
  rintro e w1 ⟨rfl,c1⟩
  have s1:=c1.size
  have v1:w.heap.size+1<=w1.heap.size:=by(try simp at s1)<;>omega
  have yc1:=c1.ce w.heap.size
  have zc1:=c1.fe w.heap.size
  have xc1:w.heap.size<w1.heap.size:=by omega
  clear s1
  have D1:Hid (Chg [] w w1):=hid (Chg.trans0 Chg.now c1)
  clear c1
  go_wp2_with fail
  refine(CP.out _ (Chg.to D1.out)).mono ?_
  rintro e w5 hG
  obtain⟨A5,cap5,rfl,n5⟩:=hG.sl
  have c5:=n5.chg
  have s5:=c5.size
  have v5:w1.heap.size<=w5.heap.size:=by(try simp at s5)<;>omega
  have yc5:=c5.ce w.heap.size
  have zc5:=c5.fe w.heap.size
  have xc5:w.heap.size<w5.heap.size:=by omega
  clear s5
  skip
  obtain⟨S5,h5,l5,_⟩:=n5
  have H5:=hid h5
  have L5:=hid l5
  have D5:Hid (Chg [] w w5):=hid (Chg.trans0 (Chg.to D1.out) c5)
  clear h5 l5 c5 hG
  have ec0:w5.cell? ⟨w.heap.size,0,none⟩=some (.int .i64 0):=(yc5 0).trans (by go_simp)
  have ec1:w5.cell? ⟨w.heap.size,1,none⟩=some (.int .i64 0):=(yc5 1).trans (by go_simp)
  have ec2:w5.cell? ⟨w.heap.size,2,none⟩=some (.int .i64 0):=(yc5 2).trans (by go_simp)
  have ec3:w5.cell? ⟨w.heap.size,3,none⟩=some (.int .i64 0):=(yc5 3).trans (by go_simp)
  clear yc5
  go_wp2_with fail
  refine bodyPost_ret (v:=.tuple #[.agg #[.int .i64 3,.int .i64 0,.int .i64 0,.int .i64 0],.slice A5 l.length cap5,.int .i64 0]) (by simp only [results,Tryz.results10];go_simp) rfl ?_
  rw [runT_no (.inl n1)]
  exact⟨A5,cap5,rfl,S5,H5.out.keep (S0:=[w.heap.size]) Chg.now (fun x hx=>by have:=L5.out x hx;(try simp at this)<;>simp<;>omega),fun x hx=>by have:=L5.out x hx;(try simp at this)<;>omega,(Chg.to D5.out)⟩
theorem ints_plain (l:List Int):l.flatMap intC=(l.map (Value.int .i64)).map Dat.v:=by
 induction l with
 |nil=>rfl
 |cons a l ih=>simp only [List.flatMap_cons,List.map_cons,ih];rfl
theorem ints_one (l:List Int):∀u∈l.map (Value.int .i64),u.oneCell'=true:=by
 intro u hu
 obtain⟨x,_,rfl⟩:=List.mem_map.1 hu
 rfl
theorem l1Ints_any (l:List Int) (u:Value) (B:Nat) (w:World) (hl:l.length<=1048576) (r:Rd w B (ints l) u) (hB:B<=w.heap.size):
  Calls Tryz.prog 25 #[u] w (Gives (ints l) w):=by
 unfold ints at r ⊢
 rw [ints_plain] at r ⊢
 obtain⟨A,cap,rfl,h0,h1,hrow⟩:=r.plain
 unfold maxLen at h1
 have tt:w.heap.size<w.heap.size+1:=Nat.lt_succ_self _
 have HROW:=hid hrow
 have HL:=hid hl
 clear hrow r
 go_enter Tryz.func25,Tryz.ntmps25
 go_wp2_with (at_builtin;refine wpList_appN rfl (.tmp 3) (.tmp 4) _ rfl rfl rfl (run_appN _ _ 3 _ 1 8 Tryz.underlying24 int_info rfl (by omega) (App.emptyAt w 3 1 w.heap.size (Chg.refl _ _) rfl) (Chg.refl _ _) A l.length cap (l.map (Value.int .i64)) (by simp) (fun hne=>by obtain⟨b,off,e,hb,hc⟩:=HROW.out hne;exact⟨b,off,e,fun j x hj=>(((Chg.refl [] w).alloc _).cell (p:=⟨b,off+j,none⟩) (show b<w.heap.size by omega) (by simp)).trans (hc j x hj)⟩) (ints_one _) (by have:=HL.out;omega) (by omega)) ?_;rintro A2 cap2 w2 ⟨hA2,_,_⟩)
 go_ret
 have hn:=hA2.new
 rw [List.nil_append,Nat.zero_add] at hn
 exact⟨_,rfl,hn⟩
theorem runPlan_spec_any (l:List SlotT) (m:List ActionT) (input:List Int) (us um ui:Value) (B:Nat) (w:World) (hl:l.length<=1048576) (sm:∀s∈l,SlotSmall s) (hW:actionsW m<=1048576) (hi:input.length<=1048576) (rs:Rd w B (slots l) us) (rm:Rd w B (actions m) um) (ri:Rd w B (ints input) ui) (hB:B<=w.heap.size):
  Calls Tryz.prog 6 #[us,um,ui] w (RunGives (runT l m input) w):=by
 obtain⟨As,cs,rfl,_,_,_⟩:=slots_row rs
 obtain⟨Am,cm,rfl,_,_,_⟩:=actions_row rm
 obtain⟨Ai,ci,rfl,_,_,_⟩:=ints_row ri
 have isl:=fun W (hW:Chg [] w W)=>isSlots_spec_any l _ B W (rs.chg0 hW hB) (Nat.le_trans hB hW.size) sm
 have CP:=hid (fun W (hW:Chg [] w W)=>l8Slots_any l _ B W hl sm (rs.chg0 hW hB) (Nat.le_trans hB hW.size))
 have ipl:=fun W (hW2:Chg [] w W)=>isPlan_spec_law m _ B W hW (rm.chg0 hW2 hB) (Nat.le_trans hB hW2.size)
 by_cases n1:SlotsOk l
 ·have IS:=hid (fun W hW=>(isl W hW).mono (BoolPost.pos n1))
  by_cases n2:PlanOk m
  ·have IP:=hid (fun W hW=>(ipl W hW).mono (BoolPost.pos n2))
   have h3:l.length=3:=n1.1
   have CP3:=hid (fun W (hW:Chg [] w W)=>(CP.out W hW).mono (fun _ _ h=>slots3 h3 h))
   have CI:=hid (fun W (hW:Chg [] w W)=>l1Ints_any input _ B W hi (ri.chg0 hW hB) (Nat.le_trans hB hW.size))
   have hcost:=plan_cost n2
   have hok:=runL_ok input m n2.2.2 0 ⟨l,0⟩ n1
   have LI:=hid (fun g cap Aj cj S W (h1:SB W g cap l S) (hW0:Chg [] w W) (st:Stays W S (ints input) (.slice Aj input.length cj)) (hS:∀y,y∈S->B<=y)=>
    do_any m (.slice Am m.length cm) 0 g cap Aj input.length cj input l 0 S W B n2.2.2 hW n1 h1 (rm.chg0 hW0 hB) (Nat.le_trans hB hW0.size) st hS (Int.le_refl _) (by have:=n2.1;omega) (Int.le_refl _) (by omega))
   rw [runT_ok n1 n2]
   obtain⟨q,hq⟩:∃q,q=runL input m 0 ⟨l,0⟩:=⟨_,rfl⟩
   rw [<-hq] at LI hok ⊢
   have CP6:=hid (fun(g cap:Nat) (B6:Nat) W (hr:Rd W B6 (slots q.1.slots) (.slice (some ⟨g,0,none⟩) 3 cap)) (hB6:B6<=W.heap.size)=>
    (l8Slots_any q.1.slots _ B6 W (by rw [hok.1];omega) (fun s hs=>by obtain⟨i,hi,rfl⟩:=List.mem_iff_getElem.1 hs;exact slot_small (hok.2 i hi)) hr hB6).mono (fun _ _ h=>slots3 hok.1 h))
   have HL3:=hid h3
   clear h3 isl ipl rs rm ri hcost hq n1 n2 CP sm hok
   go_enter Tryz.func6,Tryz.ntmps6
   go_wp2_with fail
   refine(IS.out _ Chg.now).mono ?_
   rintro e w1 ⟨rfl,c1⟩
   have s1:=c1.size
   have v1:w.heap.size+1<=w1.heap.size:=by(try simp at s1)<;>omega
   have yc1:=c1.ce w.heap.size
   have zc1:=c1.fe w.heap.size
   have xc1:w.heap.size<w1.heap.size:=by omega
   clear s1
   have D1:Hid (Chg [] w w1):=hid (Chg.trans0 Chg.now c1)
   clear c1
   go_wp2_with fail
   refine(IP.out _ (Chg.to D1.out)).mono ?_
   rintro e w2 ⟨rfl,c2⟩
   have s2:=c2.size
   have v2:w1.heap.size<=w2.heap.size:=by(try simp at s2)<;>omega
   have yc2:=c2.ce w.heap.size
   have zc2:=c2.fe w.heap.size
   have xc2:w.heap.size<w2.heap.size:=by omega
   clear s2
   have D2:Hid (Chg [] w w2):=hid (Chg.trans0 (Chg.to D1.out) c2)
   clear c2
   go_wp2_with fail
   refine(CP3.out _ (Chg.to D2.out)).mono ?_
   rintro e w3 ⟨g,cap,S,rfl,hS,lS,c3⟩
   have s3:=c3.size
   have v3:w2.heap.size<=w3.heap.size:=by(try simp at s3)<;>omega
   have yc3:=c3.ce w.heap.size
   have zc3:=c3.fe w.heap.size
   have xc3:w.heap.size<w3.heap.size:=by omega
   clear s3
   have D3:Hid (Chg [] w w3):=hid (Chg.trans0 (Chg.to D2.out) c3)
   have lo3:Hid (∀x,x∈S->w.heap.size+1<=x/\x<w3.heap.size):=hid (fun x hx=>⟨by have:=lS x hx;(try simp at this)<;>omega,hS.lt x hx⟩)
   have HS:=hid hS
   clear hS lS c3
   go_wp2_with fail
   refine(CI.out _ (Chg.to D3.out)).mono ?_
   rintro e w4 hG
   obtain⟨Aj,cj,rfl,n4⟩:=hG.sl
   obtain⟨T,hT,lT,c4⟩:=n4
   have s4:=c4.size
   have v4:w3.heap.size<=w4.heap.size:=by(try simp at s4)<;>omega
   have yc4:=c4.ce w.heap.size
   have zc4:=c4.fe w.heap.size
   have xc4:w.heap.size<w4.heap.size:=by omega
   clear s4
   have D4:Hid (Chg [] w w4):=hid (Chg.trans0 (Chg.to D3.out) c4)
   have SB4:Hid (SB w4 g cap l S):=hid ⟨(HS.out.keep0 Chg.now).keep0 c4,HL3.out⟩
   have HT:=hid hT
   have lo4:Hid (∀x,x∈T->w3.heap.size<=x):=hid (fun x hx=>by have:=lT x hx;(try simp at this)<;>omega)
   clear hT lT c4 hG
   go_wp2_with fail
   refine(LI.out g cap Aj cj S _ (SB4.out.keep0 Chg.now) (Chg.to D4.out) (Stays.of (HT.out.keep0 Chg.now) (fun y hy hy2=>by have:=lo4.out y hy;have:=lo3.out y hy2;omega)) (fun y hy=>by have:=lo3.out y hy;omega)).mono ?_
   rintro e w5 ⟨S5,rfl,sb5,hS5,c5⟩
   have s5:=c5.size
   have v5:w4.heap.size<=w5.heap.size:=by(try simp at s5)<;>omega
   have yc5:=c5.ce w.heap.size (hn:=fun hx=>by have:=lo3.out _ hx;(try simp at this)<;>omega)
   have zc5:=c5.fe w.heap.size (hn:=fun hx=>by have:=lo3.out _ hx;(try simp at this)<;>omega)
   have xc5:w.heap.size<w5.heap.size:=by omega
   clear s5
   have D5:Hid (Chg [] w w5):=hid ((Chg.trans (S:=S) (Chg.mono (S:=[]) (Chg.to D4.out) (by simp)) c5 (fun x hx=>.inl hx)).mono (fun x hx=>.inr (by have:=lo3.out x hx;omega)))
   have R5:=hid sb5.hs.rd
   have hl5:=hid sb5.hl
   have ec0:w5.cell? ⟨w.heap.size,0,none⟩=some (.int .i64 0):=(yc5 0).trans (by go_simp)
   have ec1:w5.cell? ⟨w.heap.size,1,none⟩=some (.int .i64 0):=(yc5 1).trans (by go_simp)
   have ec2:w5.cell? ⟨w.heap.size,2,none⟩=some (.int .i64 0):=(yc5 2).trans (by go_simp)
   have ec3:w5.cell? ⟨w.heap.size,3,none⟩=some (.int .i64 0):=(yc5 3).trans (by go_simp)
   have u5:w.heap.size<w5.heap.size+1:=by omega
   clear sb5 hS5 c5 yc5
   go_wp2_with fail
   go_region_law (first|(go_simp;go_at_call 23;(with_reducible refine(CP6.out g cap w5.heap.size _ (R5.out.chg0 Chg.now (Nat.le_refl _)) (by(try simp)<;>omega)).mono ?_);rintro e w6 ⟨g6,cap6,S6,rfl,h6,l6,c6⟩;(have s6:=c6.size);(have v6:w5.heap.size+1<=w6.heap.size:=by(try simp at s6)<;>omega);(have yc6:=c6.ce w.heap.size);(have zc6:=c6.fe w.heap.size);(have xc6:w.heap.size<w6.heap.size:=by omega);(have yd6:=c6.ce w5.heap.size);(have zd6:=c6.fe w5.heap.size);(have xd6:w5.heap.size<w6.heap.size:=by omega);(have D6:Hid (Chg [] w w6):=hid (Chg.trans0 (Chg.to D5.out) c6));(have H6:=hid h6);(have lo6:Hid (∀x,x∈S6->w5.heap.size+1<=x):=hid (fun x hx=>by have:=l6 x hx;(try simp at this)<;>omega));(have e60:w6.cell? ⟨w.heap.size,0,none⟩=some (.int .i64 0):=(yc6 0).trans (by go_simp));(have e61:w6.cell? ⟨w.heap.size,1,none⟩=some (.int .i64 0):=(yc6 1).trans (by go_simp));(have e62:w6.cell? ⟨w.heap.size,2,none⟩=some (.int .i64 0):=(yc6 2).trans (by go_simp));(have e63:w6.cell? ⟨w.heap.size,3,none⟩=some (.int .i64 0):=(yc6 3).trans (by go_simp));clear c6 h6 l6 s6 yc6;simp only [])|fail)
   all_goals
    go_wp2_with fail
    refine bodyPost_ret (v:=.tuple #[.agg #[.int .i64 q.2.code,.int .i64 q.2.place,.int .i64 q.2.want,.int .i64 q.2.had],.slice (some ⟨g6,0,none⟩) 3 cap6,.int .i64 q.1.taken]) (by simp only [results,Tryz.results6];go_simp) rfl ?_
    exact⟨some ⟨g6,0,none⟩,cap6,by dsimp only;rw [hl5.out],S6,by dsimp only;rw [hl5.out];exact H6.out.keep (S0:=[w.heap.size]) Chg.now (fun x hx=>by have:=lo6.out x hx;simp;omega),fun x hx=>by have:=lo6.out x hx;omega,(Chg.to D6.out)⟩
  ·have IP:=hid (fun W hW=>(ipl W hW).mono (BoolPost.neg n2))
   clear isl ipl rs rm ri sm
   go_enter Tryz.func6,Tryz.ntmps6
   go_wp2_with fail
   refine(IS.out _ Chg.now).mono ?_
   rintro e w1 ⟨rfl,c1⟩
   have s1:=c1.size
   have v1:w.heap.size+1<=w1.heap.size:=by(try simp at s1)<;>omega
   have yc1:=c1.ce w.heap.size
   have zc1:=c1.fe w.heap.size
   have xc1:w.heap.size<w1.heap.size:=by omega
   clear s1
   have D1:Hid (Chg [] w w1):=hid (Chg.trans0 Chg.now c1)
   clear c1
   go_wp2_with fail
   refine(IP.out _ (Chg.to D1.out)).mono ?_
   rintro e w2 ⟨rfl,c2⟩
   have s2:=c2.size
   have v2:w1.heap.size<=w2.heap.size:=by(try simp at s2)<;>omega
   have yc2:=c2.ce w.heap.size
   have zc2:=c2.fe w.heap.size
   have xc2:w.heap.size<w2.heap.size:=by omega
   clear s2
   have D2:Hid (Chg [] w w2):=hid (Chg.trans0 (Chg.to D1.out) c2)
   clear c2
   go_wp2_with fail
   refine(CP.out _ (Chg.to D2.out)).mono ?_
   rintro e w5 hG
   obtain⟨A5,cap5,rfl,n5⟩:=hG.sl
   have c5:=n5.chg
   have s5:=c5.size
   have v5:w2.heap.size<=w5.heap.size:=by(try simp at s5)<;>omega
   have yc5:=c5.ce w.heap.size
   have zc5:=c5.fe w.heap.size
   have xc5:w.heap.size<w5.heap.size:=by omega
   clear s5
   skip
   obtain⟨S5,h5,l5,_⟩:=n5
   have H5:=hid h5
   have L5:=hid l5
   have D5:Hid (Chg [] w w5):=hid (Chg.trans0 (Chg.to D2.out) c5)
   clear h5 l5 c5 hG
   have ec0:w5.cell? ⟨w.heap.size,0,none⟩=some (.int .i64 0):=(yc5 0).trans (by go_simp)
   have ec1:w5.cell? ⟨w.heap.size,1,none⟩=some (.int .i64 0):=(yc5 1).trans (by go_simp)
   have ec2:w5.cell? ⟨w.heap.size,2,none⟩=some (.int .i64 0):=(yc5 2).trans (by go_simp)
   have ec3:w5.cell? ⟨w.heap.size,3,none⟩=some (.int .i64 0):=(yc5 3).trans (by go_simp)
   clear yc5
   go_wp2_with fail
   refine bodyPost_ret (v:=.tuple #[.agg #[.int .i64 3,.int .i64 0,.int .i64 0,.int .i64 0],.slice A5 l.length cap5,.int .i64 0]) (by simp only [results,Tryz.results6];go_simp) rfl ?_
   rw [runT_no (.inr n2)]
   exact⟨A5,cap5,rfl,S5,H5.out.keep (S0:=[w.heap.size]) Chg.now (fun x hx=>by have:=L5.out x hx;(try simp at this)<;>simp<;>omega),fun x hx=>by have:=L5.out x hx;(try simp at this)<;>omega,(Chg.to D5.out)⟩
 ·have IS:=hid (fun W hW=>(isl W hW).mono (BoolPost.neg n1))
  clear isl ipl rs rm ri sm
  go_enter Tryz.func6,Tryz.ntmps6
  go_wp2_with fail
  refine(IS.out _ Chg.now).mono ?_
  rintro e w1 ⟨rfl,c1⟩
  have s1:=c1.size
  have v1:w.heap.size+1<=w1.heap.size:=by(try simp at s1)<;>omega
  have yc1:=c1.ce w.heap.size
  have zc1:=c1.fe w.heap.size
  have xc1:w.heap.size<w1.heap.size:=by omega
  clear s1
  have D1:Hid (Chg [] w w1):=hid (Chg.trans0 Chg.now c1)
  clear c1
  go_wp2_with fail
  refine(CP.out _ (Chg.to D1.out)).mono ?_
  rintro e w5 hG
  obtain⟨A5,cap5,rfl,n5⟩:=hG.sl
  have c5:=n5.chg
  have s5:=c5.size
  have v5:w1.heap.size<=w5.heap.size:=by(try simp at s5)<;>omega
  have yc5:=c5.ce w.heap.size
  have zc5:=c5.fe w.heap.size
  have xc5:w.heap.size<w5.heap.size:=by omega
  clear s5
  skip
  obtain⟨S5,h5,l5,_⟩:=n5
  have H5:=hid h5
  have L5:=hid l5
  have D5:Hid (Chg [] w w5):=hid (Chg.trans0 (Chg.to D1.out) c5)
  clear h5 l5 c5 hG
  have ec0:w5.cell? ⟨w.heap.size,0,none⟩=some (.int .i64 0):=(yc5 0).trans (by go_simp)
  have ec1:w5.cell? ⟨w.heap.size,1,none⟩=some (.int .i64 0):=(yc5 1).trans (by go_simp)
  have ec2:w5.cell? ⟨w.heap.size,2,none⟩=some (.int .i64 0):=(yc5 2).trans (by go_simp)
  have ec3:w5.cell? ⟨w.heap.size,3,none⟩=some (.int .i64 0):=(yc5 3).trans (by go_simp)
  clear yc5
  go_wp2_with fail
  refine bodyPost_ret (v:=.tuple #[.agg #[.int .i64 3,.int .i64 0,.int .i64 0,.int .i64 0],.slice A5 l.length cap5,.int .i64 0]) (by simp only [results,Tryz.results6];go_simp) rfl ?_
  rw [runT_no (.inl n1)]
  exact⟨A5,cap5,rfl,S5,H5.out.keep (S0:=[w.heap.size]) Chg.now (fun x hx=>by have:=L5.out x hx;(try simp at this)<;>simp<;>omega),fun x hx=>by have:=L5.out x hx;(try simp at this)<;>omega,(Chg.to D5.out)⟩
end Go.Proofs.YtjigcplpkhpgnaaGreatDoor
