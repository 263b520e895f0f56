/- FnRunHalves: the walk of the law. Conditions: the library's variables stand. -/
import Derived.Test.YtdlkbomojjmnlaaGreatDoorRunLws
import Derived.Test.YtdlkbomojjmnlaaGreatDoorDrawS
import Derived.Test.YtdlkbomojjmnlaaGreatDoorRawL
import Derived.Test.YtdlkbomojjmnlaaGreatDoorIsActs
import Derived.Test.YtdlkbomojjmnlaaGreatDoorTexts
import Derived.Test.YtdlkbomojjmnlaaGreatDoorNames
import Derived.Test.YtdlkbomojjmnlaaGreatDoorSubI
import Derived.Test.YtdlkbomojjmnlaaGreatDoorKeepsP
import Derived.Test.YtdlkbomojjmnlaaGreatDoorPlains
import Derived.Test.YtdlkbomojjmnlaaGreatDoorPlan
import Derived.Deep.Cut
namespace Go.Proofs.YtdlkbomojjmnlaaGreatDoor
open Go.RowKit

theorem byte_info:(Tryz.prog.info? 5).map (fun i=>(i.zero,i.size,i.bytes))=some (some (.int .u8 0),1,1):=by kernel_rfl
theorem planOk_few {l:List ActionT} (h:PlanOk l):l.length<=14:=by
  have key:∀l:List ActionT,l.length<=sizeL l:=fun l=>by
    induction l with
    |nil=>simp
    |cons a l ih=>rw [sizeL,List.length_cons];have:=a.size_eq;omega
  exact Nat.le_trans (key l) h.1
/-- Bytes behind one byte. -/
theorem bytes_app {w0 w:World} {v:Value} {n m:Nat} {us:List Value} {x:Int} (hx:0<=x/\x<=255) (hl:us.length=n) (hm:m=1+n) (hu:∀u∈us,∃z:Int,u= .int .u8 z/\0<=z/\z<=255) (h:App w0 w 5 1 v m ([Value.int .u8 x].map Dat.v++us.map Dat.v)):∃A cap,v= .slice A m cap/\BytesAt w w.heap.size A m:=by
  rw [<-List.map_append] at h
  have h1:=h.new.rd
  rw [Rd] at h1
  obtain⟨A,cap,e1,_,_,h4⟩:=h1
  refine⟨A,cap,e1,fun j hj=>?_⟩
  rcases h4 with h4|⟨b,off,e2,hb,hL⟩
  · simp at h4
  · have hj2:j<([Value.int .u8 x] ++us).length:=by simp;omega
    obtain⟨u,hc,hd⟩:=RdL_iff.1 hL j (.v ([Value.int .u8 x] ++us)[j]) (by rw [List.getElem?_map,List.getElem?_eq_getElem hj2];rfl)
    rw [Rd] at hd
    have hz:∃z:Int,([Value.int .u8 x] ++us)[j]= .int .u8 z/\0<=z/\z<=255:=by
      have hm:=List.getElem_mem hj2
      rcases List.mem_append.1 hm with h|h
      · simp only [List.mem_cons,List.not_mem_nil,or_false] at h;exact⟨x,h,hx.1,hx.2⟩
      · exact hu _ h
    obtain⟨z,hz,z0,z1⟩:=hz
    exact⟨b,off,z,e2,hb,by rw [hc,hd,hz],z0,z1⟩
/-- A run that has taken k numbers more. -/
def RunT.moreH (s:RunT) (k:Int):RunT:=⟨s.slots,s.taken+k⟩
theorem takeN_dropH (input:List Int) (k t:Int) (hk:0<=k) (ht:0<=t):takeN (input.drop k.toNat) t=takeN input (t+k):=by
  unfold takeN
  rw [List.getElem?_drop,show k.toNat+t.toNat=(t+k).toNat by omega]
theorem stepT_moreH (a:ActionT) (place k:Int) (s:RunT):stepT a place (s.moreH k)=((stepT a place s).1.moreH k,(stepT a place s).2)/\(stepT a place s).1.taken=s.taken:=by
  have es:(s.moreH k).slots=s.slots:=rfl
  by_cases h1:a.op=1
  · rw [stepT_1 h1,stepT_1 h1];exact⟨rfl,rfl⟩
  by_cases h5:a.op=5
  · rw [stepT_5 h5,stepT_5 h5];exact⟨rfl,rfl⟩
  by_cases h4:a.op=4
  · rw [stepT_4 h4,stepT_4 h4];exact⟨rfl,rfl⟩
  by_cases hf:(slotAt s.slots a.slot).full=false
  · rw [stepT_e h1 h5 h4 hf,stepT_e h1 h5 h4 (s:=s.moreH k) hf];exact⟨rfl,rfl⟩
  by_cases hc:(withT a (slotAt s.slots a.slot).part).2.code=1
  · rw [stepT_f h1 h5 h4 hf hc,stepT_f h1 h5 h4 (s:=s.moreH k) hf hc];exact⟨rfl,rfl⟩
  · rw [stepT_g h1 h5 h4 hf hc,stepT_g h1 h5 h4 (s:=s.moreH k) hf hc];exact⟨rfl,rfl⟩
theorem loopN_moreH {k:Int} {f g:RunT->RunT×EndT} (h:∀s:RunT,0<=s.taken->g (s.moreH k)=((f s).1.moreH k,(f s).2)/\s.taken<=(f s).1.taken):∀n (s:RunT),0<=s.taken->loopN n g (s.moreH k)=((loopN n f s).1.moreH k,(loopN n f s).2)/\s.taken<=(loopN n f s).1.taken
  |0,s,_=>by rw [loopN,loopN];exact⟨rfl,Int.le_refl _⟩
  | n+1,s,h0=>by
    have h1:=h s h0
    rw [loopN,loopN,h1.1]
    by_cases hc:(f s).2.code=0
    · simp only [hc,if_true]
      have:=loopN_moreH h n (f s).1 (by omega)
      exact⟨this.1,by omega⟩
    · simp only [hc,if_false,true_and]
      exact h1.2
theorem runL_moreH (input:List Int) (k:Int) (hk:0<=k) (l:List ActionT):∀(place:Int) (s:RunT),0<=s.taken->
    runL input l place (s.moreH k)=((runL (input.drop k.toNat) l place s).1.moreH k,(runL (input.drop k.toNat) l place s).2)/\s.taken<=(runL (input.drop k.toNat) l place s).1.taken:=by
  refine run_ind (PL:=fun l=>∀(place:Int) (s:RunT),0<=s.taken->runL input l place (s.moreH k)=((runL (input.drop k.toNat) l place s).1.moreH k,(runL (input.drop k.toNat) l place s).2)/\s.taken<=(runL (input.drop k.toNat) l place s).1.taken) (PA:=fun a=>∀(place:Int) (s:RunT),0<=s.taken->a.run input place (s.moreH k)=((a.run (input.drop k.toNat) place s).1.moreH k,(a.run (input.drop k.toNat) place s).2)/\s.taken<=(a.run (input.drop k.toNat) place s).1.taken)
    (fun a hA hB place s h0=>?_) (fun place s h0=>?_) (fun a l ha hl place s h0=>?_) l
  · have ht:takeN input (s.moreH k).taken=takeN (input.drop k.toNat) s.taken:=(takeN_dropH input k s.taken hk h0).symm
    have hm:(⟨(s.moreH k).slots,(s.moreH k).taken+1⟩:RunT)=(⟨s.slots,s.taken+1⟩:RunT).moreH k:=by
      unfold RunT.moreH;simp only [RunT.mk.injEq,true_and];omega
    have hg:0<=(⟨s.slots,s.taken+1⟩:RunT).taken:=by simp only;omega
    have hl1:s.taken<=(⟨s.slots,s.taken+1⟩:RunT).taken:=by simp only;omega
    by_cases h8:a.op=8
    · rw [run_8 h8,run_8 h8,ht,hm]
      split
      · exact⟨(hA _ _ hg).1,Int.le_trans hl1 (hA _ _ hg).2⟩
      · exact⟨(hB _ _ hg).1,Int.le_trans hl1 (hB _ _ hg).2⟩
    by_cases h9:a.op=9
    · rw [run_9 h9,run_9 h9,ht,hm]
      have:=loopN_moreH (fun t ht=>hA (place+1) t ht) (takeN (input.drop k.toNat) s.taken).toNat _ hg
      exact⟨this.1,Int.le_trans hl1 this.2⟩
    by_cases h10:a.op=10
    · have h1:=hA (place+1) s h0
      rw [run_10 h10,run_10 h10,h1.1]
      by_cases hc:(runL (input.drop k.toNat) a.A (place+1) s).2.code=1
      · simp only [hc,if_true]
        have h2:=hB (place+1+sizeL a.A) (runL (input.drop k.toNat) a.A (place+1) s).1 (by omega)
        exact⟨h2.1,by omega⟩
      · simp only [hc,if_false,true_and]
        exact h1.2
    rw [run_s h8 h9 h10,run_s h8 h9 h10]
    have:=stepT_moreH a place k s
    exact⟨this.1,by rw [this.2];omega⟩
  · rw [runL,runL]
    exact⟨rfl,Int.le_refl _⟩
  · have h1:=ha place s h0
    rw [runL,runL,h1.1]
    by_cases hc:(a.run (input.drop k.toNat) place s).2.code=0
    · simp only [hc,if_true]
      have h2:=hl (place+a.size) _ (show 0<=(a.run (input.drop k.toNat) place s).1.taken by omega)
      exact⟨h2.1,by omega⟩
    · simp only [hc,if_false,true_and]
      exact h1.2
set_option maxRecDepth 100000 in
set_option maxHeartbeats 16000000 in
theorem runHalves_law (A:Option Addr) (n cap:Nat) (w:World) (hE:Env w) (hb:BytesAt w w.heap.size A n):
    Calls Tryz.prog 4 #[.slice A n cap] w fun e w'=>e= .returned (.bool true)/\Chg [] w w':=by
  have HE:=hid hE
  by_cases hn:n<=4096
  case neg=>
    have BG:=hid (big_yes A n cap w hn)
    clear hb hn hE
    go_enter Tryz.func4,Tryz.ntmps4
    go_wp2_with fail
    refine BG.out.mono ?_
    rintro e w1 ⟨rfl,rfl⟩
    go_wp2_with fail
    go_ret
    exact⟨rfl,Chg.refl _ _⟩
  case pos=>
    have BG:=hid (big_no A n cap w hn)
    have DS:=hid (drawStart_any A n cap w (by omega) hb)
    have HB:=hid hb
    clear hb hE
    go_enter Tryz.func4,Tryz.ntmps4
    go_wp2_with fail
    refine BG.out.mono ?_
    rintro e w0 ⟨rfl,hw0⟩
    subst hw0
    go_wp2_with fail
    refine DS.out.mono ?_
    rintro e w1 ⟨p,A1,c1,l,A2,c2,s,A3,c3,rfl,hok,hW,hl,hs,rp,ri,rs,d1⟩
    have D1:=hid d1
    have RP:=hid rp
    have X:=hid (show PlanOk p/\actionsW p<=26000/\SlotsOk s from⟨hok,hW,hs⟩)
    have RI:=hid ri
    have RS:=hid rs
    obtain⟨us,hul,hun,hub⟩:=bytes_raw (HB.out.keep d1)
    have a1:App w1 (w1.alloc (.cells #[.int .u8 7] 5)) 5 1 (.slice (some ⟨w1.heap.size,0,none⟩) 1 1) 1 ([Value.int .u8 7].map Dat.v):=App.one w1 5 (.int .u8 7) (Chg.refl _ _)
    have R0:=hid (run_appN 22 22 5 _ 1 1 Tryz.underlying22 byte_info rfl (by omega) a1 (Chg.refl _ _) A n cap us (by omega) (fun hne=>by obtain⟨b,off,e,hc⟩:=hun hne;exact⟨b,off,e,fun j u hu=>(World.cell?_alloc_lt _ _ _ (lt_of_cell (hc j u hu))).trans (hc j u hu)⟩) (fun u hu=>by obtain⟨z,rfl,_⟩:=hub u hu;rfl) (by omega) (by omega))
    have HU:=hid (show us.length=n/\∀u∈us,∃z:Int,u= .int .u8 z/\0<=z/\z<=255 from⟨hul,hub⟩)
    clear rp ri rs d1 hok hW hl hs BG DS hun hub a1 hul
    go_wp2_with (at_builtin;refine wpList_appN rfl (.tmp 27) (.tmp 28) _ rfl rfl rfl R0.out ?_;rintro A4 c4 w2 ⟨hA4,_,_⟩)
    obtain⟨A5,c5,e5,hby⟩:=bytes_app (m:=1+n) (by omega) HU.out.1 rfl HU.out.2 hA4
    cases e5
    have DP:=hid (drawPlan_any A4 (1+n) c4 w2 (by omega) hby)
    have K2:=hid hA4.chg
    clear hA4 hby R0 HU
    refine DP.out.mono ?_
    rintro e w3 ⟨m,A6,c6,l2,A7,c7,rfl,hmk,hmW,_,_,S1,S2,hm1,_,_,_,_,d3⟩
    have K3:=hid (K2.out.trans0 d3)
    have RM:=hid hm1.rd
    have Y:=hid (show PlanOk m/\actionsW m<=26000 from⟨hmk,hmW⟩)
    obtain⟨up,hp1,hp2,hp3⟩:=(RP.out.chg0 K3.out (Nat.le_refl _) |>.mono K3.out.size).raw
    obtain⟨um,hq1,hq2,hq3⟩:=RM.out.raw
    have lp:(p.flatMap actionF).length=p.length * 11:=flatMap_length_of actionF_len p
    have lm:(m.flatMap actionF).length=m.length * 11:=flatMap_length_of actionF_len m
    have pl:=planOk_few X.out.1
    have ml:=planOk_few Y.out.1
    have op:∀u∈up,u.oneCell'=true:=fun u hu=>by
      obtain⟨j,hj,rfl⟩:=List.getElem_of_mem hu
      have hj2:j<(p.flatMap actionF).length:=by omega
      exact(hp3 j _ _ (List.getElem?_eq_getElem hj2) (List.getElem?_eq_getElem hj)).oneCell (fun x hx=>action_ones (l:=p) (by rw [<-hx];exact List.getElem_mem hj2))
    have om:∀u∈um,u.oneCell'=true:=fun u hu=>by
      obtain⟨j,hj,rfl⟩:=List.getElem_of_mem hu
      have hj2:j<(m.flatMap actionF).length:=by omega
      exact(hq3 j _ _ (List.getElem?_eq_getElem hj2) (List.getElem?_eq_getElem hj)).oneCell (fun x hx=>action_ones (l:=m) (by rw [<-hx];exact List.getElem_mem hj2))
    have up0:∀(j:Nat) (u:Value),∀b off,up[j]?=some u->w3.cell? ⟨b,off+j,none⟩=some u->(w3.alloc (.cells #[] 32)).cell? ⟨b,off+j,none⟩=some u:=fun j u b off _ hc=>(World.cell?_alloc_lt _ _ _ (lt_of_cell hc)).trans hc
    have R1:=hid (run_appN 24 24 32 _ 11 152 Tryz.underlying24 action_info rfl (by omega) (App.empty w3 32 11 (Chg.refl _ _)) (Chg.refl _ _) A1 p.length c1 up (by omega) (fun hne=>by obtain⟨b,off,e,_,hc⟩:=hp2 hne;exact⟨b,off,e,fun j u hu=>up0 j u b off hu (hc j u hu)⟩) op (by omega) (by omega))
    have R2:=hid (fun(A8:Option Addr) (c8:Nat) (w4:World) (hA:App w3 w4 32 11 (.slice A8 p.length c8) p.length (up.map Dat.v))=>run_appN 24 24 32 _ 11 152 Tryz.underlying24 action_info rfl (by omega) hA (Chg.refl _ _) A6 m.length c6 um (by omega) (fun hne=>by obtain⟨b,off,e,hb,hc⟩:=hq2 hne;exact⟨b,off,e,fun j u hu=>(hA.chg.cell (p:=⟨b,off+j,none⟩) (lt_of_cell (hc j u hu)) (by simp)).trans (hc j u hu)⟩) om (by omega) (by omega))
    have Q:=hid (show up.length=(p.flatMap actionF).length/\um.length=(m.flatMap actionF).length/\(∀(j:Nat) (d:Dat) (u:Value),(p.flatMap actionF)[j]?=some d->up[j]?=some u->Rd w3 w3.heap.size d u)/\(∀(j:Nat) (d:Dat) (u:Value),(m.flatMap actionF)[j]?=some d->um[j]?=some u->Rd w3 w3.heap.size d u) from⟨hp1,hq1,hp3,hq3⟩)
    clear hp1 hp2 hp3 hq1 hq2 hq3 op om up0 lp lm pl ml d3 hm1 hmk hmW DP
    go_wp2_with (first|(at_builtin;refine wpList_appN rfl (.tmp 33) (.tmp 34) _ rfl rfl rfl R1.out ?_;rintro A8 c8 w4 ⟨hA8,_,_⟩;simp only [Nat.zero_add,List.nil_append] at hA8 ⊢;have R3:=hid (R2.out A8 c8 w4 hA8);clear hA8 R1 R2)|(at_builtin;refine wpList_appN rfl (.tmp 35) (.tmp 36) _ rfl rfl rfl R3.out ?_;rintro A9 c9 w5 ⟨hA9,_,_⟩)|fail)
    have RB:Hid (Rd w5 w5.heap.size (actions (p++m)) (.slice A9 (p.length+m.length) c9)):=hid (by
      have h9:=hA9
      rw [<-List.map_append] at h9
      have hk:∀(d:Dat) (u:Value),Rd w3 w3.heap.size d u->Rd w5 w5.heap.size d u:=fun d u h=>(h.chg0 hA9.chg (Nat.le_refl _)).mono hA9.chg.size
      have:=h9.reads (ds:=(p++m).flatMap actionF) (by rw [List.flatMap_append,List.length_append,List.length_append,Q.out.1,Q.out.2.1]) (fun j d u hd hu=>by
        rw [List.flatMap_append,List.getElem?_append] at hd
        rw [List.getElem?_append,Q.out.1] at hu
        split at hd
        · rename_i h;rw [if_pos h] at hu;exact hk _ _ (Q.out.2.2.1 j d u hd hu)
        · rename_i h;rw [if_neg h] at hu;exact hk _ _ (Q.out.2.2.2 _ d u hd hu))
      unfold actions
      rw [List.length_append]
      exact this)
    have K5:=hid (K3.out.trans0 hA9.chg)
    have RM5:=hid ((RM.out.chg0 hA9.chg (Nat.le_refl _)).mono hA9.chg.size)
    have RP5:=hid ((RP.out.chg0 K5.out (Nat.le_refl _)).mono K5.out.size)
    have RI5:=hid ((RI.out.chg0 K5.out (Nat.le_refl _)).mono K5.out.size)
    have RS5:=hid ((RS.out.chg0 K5.out (Nat.le_refl _)).mono K5.out.size)
    have DW:=hid (D1.out.trans0 K5.out)
    have E5:=hid (HE.out.keep DW.out)
    have WB:Hid (actionsW (p++m)<=1048576):=hid (by
      have h1:=X.out.2.1
      have h2:=Y.out.2
      have h3:actionsW (p++m)=actionsW p+actionsW m:=by unfold actionsW actionsW1;rw [List.length_append,List.map_append,List.sum_append];omega
      omega)
    clear hA9 R3 Q RP RI RS RM K3 K2 D1 HB
    by_cases hp:PlanOk (p++m)
    case neg=>
      have II:=hid (fun W (hc:Chg [] w5 W)=>(isPlan_impl_any (p++m) _ _ W (E5.out.keep hc) WB.out (RB.out.chg0 hc (Nat.le_refl _)) hc.size).mono (BoolPost.neg hp))
      have IR:=hid (fun W (hc:Chg [] w5 W)=>(isPlan_spec_law (p++m) _ _ W WB.out (RB.out.chg0 hc (Nat.le_refl _)) hc.size).mono (BoolPost.neg hp))
      clear hp
      go_wp2_with fail
      refine(II.out _ (Chg.refl _ _)).mono ?_
      rintro e wa ⟨rfl,k4⟩
      have K4:=hid k4
      clear k4
      go_wp2_with fail
      refine(IR.out _ K4.out).mono ?_
      rintro e wb ⟨rfl,k5⟩
      have K6:=hid (K4.out.trans0 k5)
      clear k5 K4
      go_wp2_with fail
      refine(II.out _ K6.out).mono ?_
      rintro e wc ⟨rfl,k6⟩
      have K7:=hid (DW.out.trans0 (K6.out.trans0 k6))
      clear k6 K6
      go_wp2_with fail
      go_ret
      exact⟨rfl,Chg.to K7.out⟩
    case pos=>
      have II:=hid (fun W (hc:Chg [] w5 W)=>(isPlan_impl_any (p++m) _ _ W (E5.out.keep hc) WB.out (RB.out.chg0 hc (Nat.le_refl _)) hc.size).mono (BoolPost.pos hp))
      have IR:=hid (fun W (hc:Chg [] w5 W)=>(isPlan_spec_law (p++m) _ _ W WB.out (RB.out.chg0 hc (Nat.le_refl _)) hc.size).mono (BoolPost.pos hp))
      have R1:=hid (fun W (hc:Chg [] w5 W)=>run_law E5.out l X.out.2.2 hp WB.out RS5.out RB.out RI5.out W hc)
      have R2:=hid (fun W (hc:Chg [] w5 W)=>run_law E5.out l X.out.2.2 X.out.1 (Nat.le_trans X.out.2.1 (by decide)) RS5.out RP5.out RI5.out W hc)
      have hap:=runL_append l p m 0 ⟨s,0⟩
      have ok1:=runL_ok l p X.out.1.2.2 0 ⟨s,0⟩ X.out.2.2
      have htk:=runL_taken l p 0 ⟨s,0⟩
      have hoke:=runL_okEnd l p 0 ⟨s,0⟩
      have hpc:=plan_cost X.out.1
      obtain⟨q,hq⟩:∃q,q=runL l p 0 ⟨s,0⟩:=⟨_,rfl⟩
      rw [<-hq] at R2 hap ok1 htk hoke
      rw [hap] at R1
      have OK1:=hid ok1
      have HOKE:=hid hoke
      have T0:=hid (show 0<=q.1.taken/\q.1.taken<=400 from by have h1:=htk.1;have h2:=htk.2;simp only at h1 h2;omega)
      clear hp hq hap ok1 htk hoke hpc
      go_wp2_with fail
      refine(II.out _ (Chg.refl _ _)).mono ?_
      rintro e wa ⟨rfl,k4⟩
      have K4:=hid k4
      clear k4
      go_wp2_with fail
      refine(IR.out _ K4.out).mono ?_
      rintro e wb ⟨rfl,k5⟩
      have K6:=hid (K4.out.trans0 k5)
      clear k5 K4
      go_wp2_with fail
      refine(II.out _ K6.out).mono ?_
      rintro e wc ⟨rfl,k6⟩
      have K7:=hid (K6.out.trans0 k6)
      clear k6 K6 II IR
      go_wp2_with fail
      by_cases hc:q.2.code=0
      case neg=>
        rw [if_neg hc] at R1
        refine(R1.out _ K7.out).mono ?_
        rintro e wd ⟨B1,b1,rfl,N1,kd⟩
        have KD:=hid (K7.out.trans0 kd)
        have N1:=hid N1
        have hc2:(q.2.code==0)=false:=by rw [beq_eq_false_iff_ne];exact hc
        clear kd R1 K7
        go_wp2_with fail
        refine calls_name fun xe hxe=>?_
        have ee:Chg [] wd xe:=by rw [hxe];exact Chg.now
        have ZE:Box xe wd.heap.size [.int .i64 q.2.code,.int .i64 q.2.place,.int .i64 q.2.want,.int .i64 q.2.had]:=by rw [hxe];exact Box.new _ _ _
        clear hxe
        refine(R2.out _ (KD.out.trans0 ee)).mono ?_
        rintro e wf ⟨B2,b2,rfl,N2,kf⟩
        have ZF:=ZE.keep kf
        have KF:=hid (KD.out.trans0 (ee.trans0 kf))
        have J:=hid (ee.trans0 kf)
        obtain⟨z0,z1,z2,z3⟩:=ZF.o4
        have lz:=ZF.lt
        have SS:=hid (fun W (hc:Chg [] wf W)=>(sameSlots_impl_any q.1.slots q.1.slots _ _ wd.heap.size wf.heap.size W (N1.out.chg0 (J.out.trans0 hc) (Nat.le_refl _)) (N2.chg0 hc (Nat.le_refl _)) (Nat.le_trans J.out.size hc.size) hc.size).mono (BoolPost.pos rfl))
        clear N2 kf ee ZE ZF R2 KD
        go_wp2_with fail
        refine calls_name fun xg hxg=>?_
        have eg:Chg [] wf xg:=by rw [hxg];exact Chg.now
        clear hxg
        refine(SS.out _ eg).mono ?_
        rintro e wh ⟨rfl,kh⟩
        have KH:=hid (DW.out.trans0 (KF.out.trans0 (eg.trans0 kh)))
        clear kh eg
        go_wp2_with fail
        go_ret
        exact⟨rfl,Chg.to KH.out⟩
      case pos=>
        rw [if_pos hc] at R1
        have eq0:=HOKE.out hc
        obtain⟨kN,hkN⟩:∃kN:Nat,q.1.taken=(kN:Int):=⟨q.1.taken.toNat,by have:=T0.out.1;omega⟩
        have hmr:runL l m (0+sizeL p) q.1=((runL (l.drop kN) m 0 ⟨q.1.slots,0⟩).1.moreH q.1.taken,(runL (l.drop kN) m 0 ⟨q.1.slots,0⟩).2.up (sizeL p)):=by
          have h1:=(runL_moreH l q.1.taken T0.out.1 m (0+sizeL p) ⟨q.1.slots,0⟩ (Int.le_refl _)).1
          have h2:(⟨q.1.slots,0⟩:RunT).moreH q.1.taken=q.1:=by unfold RunT.moreH;simp
          rw [h2,runL_up (l.drop q.1.taken.toNat) m 0 (sizeL p)] at h1
          rw [h1,show q.1.taken.toNat=kN by omega]
        have hdr:l.drop (min kN l.length)=l.drop kN:=by
          rcases Nat.le_total kN l.length with h|h
          · rw [Nat.min_eq_left h]
          · rw [Nat.min_eq_right h,List.drop_eq_nil_of_le (Nat.le_refl _),List.drop_eq_nil_of_le h]
        have ok2:=runL_ok (l.drop kN) m Y.out.1.2.2 0 ⟨q.1.slots,0⟩ OK1.out
        have htk:=runL_taken (l.drop kN) m 0 ⟨q.1.slots,0⟩
        have hoke:=runL_okEnd (l.drop kN) m 0 ⟨q.1.slots,0⟩
        have hend:=runL_up (l.drop kN) m 0 0 ⟨q.1.slots,0⟩
        have hpl0:=runL_end (l.drop kN) m Y.out.1.2.2 0 ⟨q.1.slots,0⟩ OK1.out
        have hpc:=plan_cost Y.out.1
        have R3:=hid (fun(W0:World) (E:Env W0) (us um ui:Value) (h1:Rd W0 W0.heap.size (slots q.1.slots) us) (h2:Rd W0 W0.heap.size (actions m) um) (h3:Rd W0 W0.heap.size (ints (l.drop kN)) ui) W (hc:Chg [] W0 W)=>run_law E (l.drop kN) OK1.out Y.out.1 (Nat.le_trans Y.out.2 (by decide)) h1 h2 h3 W hc)
        obtain⟨r,hr⟩:∃r,r=runL (l.drop kN) m 0 ⟨q.1.slots,0⟩:=⟨_,rfl⟩
        rw [<-hr] at hmr ok2 htk hoke R3 hpl0
        have HPL0:=hid (show r.2.code≠0->0<=r.2.place/\r.2.place<=14 from fun h=>by obtain⟨k,a,h1,_,h3,_⟩:=hpl0 h;have:=atL_lt h1;have:=Y.out.1.1;omega)
        rw [hmr] at R1
        have TR:=hid (show 0<=r.1.taken/\r.1.taken<=400 from by have h1:=htk.1;have h2:=htk.2;simp only at h1 h2;omega)
        have R1:=hid (fun W (hc:Chg [] w5 W)=>(R1.out W hc).mono (fun e w' h=>(show ∃(A:Option Addr) (cap:Nat),e= .returned (.tuple #[.agg #[.int .i64 (r.2.up (sizeL p)).code,.int .i64 (r.2.up (sizeL p)).place,.int .i64 (r.2.up (sizeL p)).want,.int .i64 (r.2.up (sizeL p)).had],.slice A r.1.slots.length cap,.int .i64 (q.1.taken+r.1.taken)])/\Rd w' w'.heap.size (slots r.1.slots) (.slice A r.1.slots.length cap)/\Chg [] W w' from by obtain⟨A,cap,e1,h1,h2⟩:=h;refine⟨A,cap,?_,h1,h2⟩;rw [e1,Int.add_comm q.1.taken r.1.taken];rfl)))
        have R2:=hid (fun W (hc:Chg [] w5 W)=>(R2.out W hc).mono (fun e w' h=>(show ∃(A:Option Addr) (cap:Nat),e= .returned (.tuple #[.agg #[.int .i64 0,.int .i64 0,.int .i64 0,.int .i64 0],.slice A q.1.slots.length cap,.int .i64 q.1.taken])/\Rd w' w'.heap.size (slots q.1.slots) (.slice A q.1.slots.length cap)/\Chg [] W w' from by obtain⟨A,cap,e1,h1,h2⟩:=h;rw [eq0] at e1;exact⟨A,cap,e1,h1,h2⟩)))
        have SL:∀W,(Instr.slice 25 (.slice A2 l.length c2) (some (.int .i64 (min q.1.taken (l.length:Int)))) none none).run Tryz.prog W= .ok (restV A2 c2 l.length (min kN l.length)) W:=fun W=>by
          rw [show min q.1.taken (l.length:Int)=((min kN l.length:Nat):Int) by omega]
          exact rest_i A2 l.length c2 _ W (Nat.min_le_right _ _)
        have SLA:∀W,(Instr.sliceAt 25 (.slice A2 l.length c2) (some (.int .i64 (min q.1.taken (l.length:Int)))) none none).run Tryz.prog W= .ok (restV A2 c2 l.length (min kN l.length)) W:=fun W=>by
          rw [show min q.1.taken (l.length:Int)=((min kN l.length:Nat):Int) by omega]
          exact rest_i A2 l.length c2 _ W (Nat.min_le_right _ _)
        have RR:=hid (fun W (h:Rd W W.heap.size (ints l) (.slice A2 l.length c2))=>(show Rd W W.heap.size (ints (l.drop kN)) (restV A2 c2 l.length (min kN l.length)) from by rw [<-hdr];exact rest_rd h (Nat.min_le_right _ _)))
        obtain⟨RV,hRV⟩:∃RV,RV=restV A2 c2 l.length (min kN l.length):=⟨_,rfl⟩
        rw [<-hRV] at SL SLA RR
        have HO2:=hid hoke
        have wk:IntKind.i64.wrap (q.1.taken+r.1.taken)=q.1.taken+r.1.taken:=wr_id (by have:=T0.out.1;have:=TR.out.1;omega) (by have:=T0.out.2;have:=TR.out.2;omega)
        clear hmr hdr ok2 htk hoke hend hpl0 hpc hr hRV hkN eq0 hc
        refine(R1.out _ K7.out).mono ?_
        rintro e wd ⟨B1,b1,rfl,N1,kd⟩
        have KD:=hid (K7.out.trans0 kd)
        have N1:=hid N1
        clear kd R1 K7
        go_wp2_with fail
        refine calls_name fun xe hxe=>?_
        have ee:Chg [] wd xe:=by rw [hxe];exact Chg.now
        have ZE:Box xe wd.heap.size [.int .i64 (r.2.up (sizeL p)).code,.int .i64 (r.2.up (sizeL p)).place,.int .i64 (r.2.up (sizeL p)).want,.int .i64 (r.2.up (sizeL p)).had]:=by rw [hxe];exact Box.new _ _ _
        clear hxe
        refine(R2.out _ (KD.out.trans0 ee)).mono ?_
        rintro e wf ⟨B2,b2,rfl,N2,kf⟩
        have ZF:=hid (ZE.keep kf)
        have KF:=hid (KD.out.trans0 (ee.trans0 kf))
        have JF:=hid (ee.trans0 kf)
        have N2:=hid N2
        clear kf ee ZE R2 KD
        go_wp2_with fail
        refine calls_name fun xg hxg=>?_
        have eg:Chg [] wf xg:=by rw [hxg];exact Chg.now
        clear hxg
        have KG:=KF.out.trans0 eg
        have RR3:=R3.out xg (E5.out.keep KG) _ _ _ ((N2.out.chg0 eg (Nat.le_refl _)).mono eg.size) ((RM5.out.chg0 KG (Nat.le_refl _)).mono KG.size) (RR.out xg ((RI5.out.chg0 KG (Nat.le_refl _)).mono KG.size)) xg (Chg.refl _ _)
        have EG:=hid eg
        have KG:=hid KG
        clear eg R3 RR
        by_cases h2:r.2.code=0
        case pos=>
          have er:=HO2.out h2
          have RR3:=RR3.mono (fun e w' h=>(show ∃(A:Option Addr) (cap:Nat),e= .returned (.tuple #[.agg #[.int .i64 0,.int .i64 0,.int .i64 0,.int .i64 0],.slice A r.1.slots.length cap,.int .i64 r.1.taken])/\Rd w' w'.heap.size (slots r.1.slots) (.slice A r.1.slots.length cap)/\Chg [] xg w' from by obtain⟨A,cap,e1,h1,h2⟩:=h;rw [er] at e1;exact⟨A,cap,e1,h1,h2⟩))
          have ZF0:Box wf wd.heap.size [.int .i64 0,.int .i64 0,.int .i64 0,.int .i64 0]:=by have:=ZF.out;rw [er,okEnd_up] at this;exact this
          clear er h2 HO2
          refine RR3.mono ?_
          rintro e wh ⟨B3,b3,rfl,N3,kh⟩
          have KH:=hid (KG.out.trans0 kh)
          have JH:=hid (EG.out.trans0 kh)
          have ZH:=ZF0.keep JH.out
          obtain⟨z0,z1,z2,z3⟩:=ZH.o4
          have lz:=ZH.lt
          have SS:=hid (fun W (hc:Chg [] wh W)=>(sameSlots_impl_any r.1.slots r.1.slots _ _ wd.heap.size wh.heap.size W (N1.out.chg0 (JF.out.trans0 (JH.out.trans0 hc)) (Nat.le_refl _)) (N3.chg0 hc (Nat.le_refl _)) (Nat.le_trans JF.out.size (Nat.le_trans JH.out.size hc.size)) hc.size).mono (BoolPost.pos rfl))
          clear RR3 kh ZF0 ZH N3
          go_wp2_with fail
          refine calls_name fun xi hxi=>?_
          have ei:Chg [] wh xi:=by rw [hxi];exact Chg.now
          clear hxi
          refine(SS.out _ ei).mono ?_
          rintro e wj ⟨rfl,kj⟩
          have KJ:=hid (DW.out.trans0 (KH.out.trans0 (ei.trans0 kj)))
          clear kj ei SS
          go_wp2_with fail
          go_ret
          exact⟨rfl,Chg.to KJ.out⟩
        case neg=>
          have h2b:(r.2.code==0)=false:=by rw [beq_eq_false_iff_ne];exact h2
          have hup:r.2.up (sizeL p)=⟨r.2.code,r.2.place+sizeL p,r.2.want,r.2.had⟩:=by unfold EndT.up;rw [if_neg h2]
          have hpz:=X.out.1.1
          have hpl: -1000000000<=r.2.place/\r.2.place<=1000000000:=by have:=HPL0.out h2;omega
          have ZF0:Box wf wd.heap.size [.int .i64 r.2.code,.int .i64 (r.2.place+sizeL p),.int .i64 r.2.want,.int .i64 r.2.had]:=by have:=ZF.out;rw [hup] at this;exact this
          have wpl:IntKind.i64.wrap (r.2.place+(sizeL p:Int))=r.2.place+sizeL p:=wr_id (by omega) (by omega)
          clear hup HO2
          refine RR3.mono ?_
          rintro e wh ⟨B3,b3,rfl,N3,kh⟩
          have KH:=hid (KG.out.trans0 kh)
          have JH:=hid (EG.out.trans0 kh)
          have ZH:=hid (ZF0.keep JH.out)
          have N3:=hid N3
          have W5:=hid (show w5.heap.size<=wh.heap.size from KH.out.size)
          clear RR3 kh ZF0 hpl hpz
          go_upto_region 16 with fail
          refine wp_called ?_
          intro x hx
          have ex:Chg [] wh x:=by rw [hx];exact Chg.now
          have ZX:Box x wh.heap.size [.int .i64 r.2.code,.int .i64 r.2.place,.int .i64 r.2.want,.int .i64 r.2.had]:=by rw [hx];repeat(first|exact Box.new _ _ _|refine Box.drew ?_|refine Box.drewN ?_ _)
          have PS:=hid (fun W (hc:Chg [] x W)=>planSize_impl_any p _ w5.heap.size W (by have:=X.out.1.1;omega) (RP5.out.chg0 (KH.out.trans0 (ex.trans0 hc)) (Nat.le_refl _)) (Nat.le_trans W5.out (Nat.le_trans ex.size hc.size)))
          have ZXH:=hid ZX
          have ZK:=hid (fun W (hc:Chg [] x W)=>(ZX.keep hc).o4)
          have zf:=ZX.f
          have EX:=hid ex
          have lx:=ZX.lt
          obtain⟨y0,y1,y2,y3⟩:=ZX.o4
          clear hx ex ZX
          go_cut [] from 18 (fun wx=>Hid (∃W0,Chg [] x W0/\wx=W0.setCell ⟨wh.heap.size,1,none⟩ (.int .i64 (r.2.place+sizeL p))))
          case first=>
            go_region_law (first|(go_simp;go_at_call 16;(refine calls_name fun xa hxa=>?_);(have ea:Chg [] x xa:=by rw [hxa];exact Chg.now);clear hxa;(refine(PS.out _ ea).mono ?_);rintro e wa ⟨rfl,ca⟩;(have KA:=hid (ea.trans0 ca));(have v1:=(ZK.out _ KA.out).2.1);(have vf:=(ZXH.out.keep KA.out).f);clear ea ca;simp only [])|fail)
            all_goals
              go_wp2_with fail
              go_meet
              case rel=>exact hid ⟨_,by first|exact Chg.to KA.out|exact KA.out,rfl⟩
          case rest=>
            obtain⟨W0,k0,hwc⟩:=hcut.out
            have BX:Box wc wh.heap.size [.int .i64 r.2.code,.int .i64 (r.2.place+sizeL p),.int .i64 r.2.want,.int .i64 r.2.had]:=by rw [hwc];exact(ZXH.out.keep k0).set 1 _
            have kx:Chg [wh.heap.size] wh wc:=by
              have h1:Chg [] wh W0:=EX.out.trans0 k0
              have h2:Chg [wh.heap.size] W0 wc:=by rw [hwc];exact(Chg.refl _ _).setCell (.inl (by simp)) _
              exact h1.trans1 h2
            have lzd:=ZH.out.lt
            have BZ:=ZH.out.keep kx (by simp;omega)
            obtain⟨z0,z1,z2,z3⟩:=BZ.o4
            obtain⟨v0,v1,v2,v3⟩:=BX.o4
            have lb:=BX.lt
            have kl:=kx.size
            have R1c:=hid (show Rd wc wc.heap.size (slots r.1.slots) (.slice B1 r.1.slots.length b1) from((N1.out.chg0 (JF.out.trans0 JH.out) (Nat.le_refl _)).chg kx (Nat.le_trans JF.out.size JH.out.size) (by simp;exact Nat.le_trans JF.out.size JH.out.size)).mono (Nat.le_trans (Nat.le_trans JF.out.size JH.out.size) kl))
            have R3c:=hid (show Rd wc wc.heap.size (slots r.1.slots) (.slice B3 r.1.slots.length b3) from(N3.out.chg kx (Nat.le_refl _) (by simp)).mono kl)
            have SS:=hid (fun W (hc:Chg [] wc W)=>(sameSlots_impl_any r.1.slots r.1.slots _ _ wc.heap.size wc.heap.size W (R1c.out.chg0 hc (Nat.le_refl _)) (R3c.out.chg0 hc (Nat.le_refl _)) hc.size hc.size).mono (BoolPost.pos rfl))
            have KX:=hid (show Chg [] w0 wc from((DW.out.trans0 KH.out).trans1 kx).mono (fun y hy=>.inr (by simp at hy;have:=(DW.out.trans0 KH.out).size;omega)))
            clear hcut k0 hwc BX kx BZ ZH ZXH ZK PS EX lx y0 y1 y2 y3 zf
            go_wp2_with fail
            refine calls_name fun xi hxi=>?_
            have ei:Chg [] wc xi:=by rw [hxi];exact Chg.now
            clear hxi
            refine(SS.out _ ei).mono ?_
            rintro e wj ⟨rfl,kj⟩
            have KJ:=hid (KX.out.trans0 (ei.trans0 kj))
            clear kj ei SS
            go_wp2_with fail
            go_ret
            exact⟨rfl,Chg.to KJ.out⟩
end Go.Proofs.YtdlkbomojjmnlaaGreatDoor
