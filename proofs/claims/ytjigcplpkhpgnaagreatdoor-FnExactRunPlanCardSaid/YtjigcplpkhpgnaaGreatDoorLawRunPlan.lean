/- FnExactRunPlan: the walk of the law. Conditions: the library's variables stand. Written by a program. -/
import Derived.Test.YtjigcplpkhpgnaaGreatDoorRunPs
set_option maxRecDepth 100000
set_option maxHeartbeats 4000000
namespace Go.Proofs.YtjigcplpkhpgnaaGreatDoor
open Go.RowKit
theorem Rd.c0 {w w':World} {B:Nat} {d:Dat} {u:Value} (h:Rd w B d u) (c:Chg [] w w') (b:B<=w.heap.size:=by omega):Rd w' B d u:=h.chg0 c b
theorem eqEnd_el (a b c d:Int) (w:World):
  Calls Tryz.prog 11 #[.agg #[.int .i64 a,.int .i64 b,.int .i64 c,.int .i64 d],.agg #[.int .i64 a,.int .i64 b,.int .i64 c,.int .i64 d]] w fun e w'=>e= .returned (.bool true)/\Chg [] w w':=by
 have tt:w.heap.size<w.heap.size+1:=Nat.lt_succ_self _
 go_enter Tryz.func11,Tryz.ntmps11
 go_wp2_with fail
 go_ret
 exact⟨rfl,((Chg.refl _ _).alloc _).alloc _⟩
theorem ints_set (l:List Int) (j:Nat) (k:Int):(l.flatMap intC).set j (.v (.int .i64 k))=(l.set j k).flatMap intC:=by
 rw [ints_plain,ints_plain,List.map_set,List.map_set]
theorem markIntS_any (l:List Int) (u:Value) (S:List Nat) (k0:Int) (w:World) (hk0:0<=k0) (hkb:k0+l.length<=100000000) (hh:Has w (ints l) u S):
  Calls Tryz.prog 17 #[u,.int .i64 k0] w fun e w'=>e= .returned (.int .i64 (k0+l.length))/\(∃m,Has w' (ints m) u S)/\Chg S w w':=by
 obtain⟨A,cap,rfl,h0,h1,_⟩:=hh.rd.at_
 unfold maxLen at h1
 go_enter Tryz.func17,Tryz.ntmps17
 go_wp2_with fail
 go_loopw [1,5] (fun r i wr=>∃(j:Nat) (m:List Int),j<=l.length/\i= .int .i64 j/\r= .int .i64 (k0+j)/\Hid (m.length=l.length)/\Hid (Has wr (.s l.length (m.flatMap intC)) (.slice A l.length cap) S)/\Hid (Chg S w wr)) (fun _ i _=>l.length-(intOf i).toNat)
 case atStart=>exact⟨0,l,Nat.zero_le _,rfl,by simp,hid rfl,hid hh,hid (Chg.refl _ _)⟩
 case round=>
  obtain⟨j,m,hj,rfl,rfl,hm,H0,hc⟩:=hrel
  by_cases hlt:j<l.length
  ·obtain⟨g,rfl,hgS⟩:=H0.out.own (by omega)
   have hjm:j<m.length:=by rw [hm.out];exact hlt
   obtain⟨q0,qf,_,P⟩:=H0.out.set_ (intC_at m j hjm) (.int .i64 (k0+j))
   rw [ints_set] at P
   have HP:=hid P
   have wk:IntKind.i64.wrap (k0+(j:Int)+1)=k0+(j:Int)+1:=wr_id (by omega) (by omega)
   clear P
   go_wp2_with fail
   go_roundw
   case rel=>exact⟨j+1,m.set j (k0+j),by omega,by go_num,by go_num,hid (by rw [List.length_set];exact hm.out),HP,hid (hc.out.setCell (.inl hgS) _)⟩
   case measure=>simp [intOf];omega
  ·obtain rfl:j=l.length:=by omega
   go_wp2_with fail
   go_ret
   have H1:=H0.out
   refine⟨rfl,⟨m,?_⟩,hc.out⟩
   unfold ints
   rw [hm.out]
   exact H1
theorem slotsN_leR (l:List SlotT):slotsN l<=5 * slotsW l:=by
 have hc:∀l:List CellT,cellsN l<=2 * cellsW l:=fun l=>by
  unfold cellsN cellsW
  have:∀l:List CellT,(l.map cellN).sum=2 * l.length:=fun l=>by
   induction l with
   |nil=>rfl
   |cons a l ih=>simp only [List.map_cons,List.sum_cons,List.length_cons,ih];have:cellN a=2:=rfl;omega
  rw [this];omega
 have hl:∀l:List LayerT,layersN l<=2 * layersW l:=fun l=>by
  unfold layersN layersW
  have:∀l:List LayerT,(l.map layerN).sum=2 * l.length:=fun l=>by
   induction l with
   |nil=>rfl
   |cons a l ih=>simp only [List.map_cons,List.sum_cons,List.length_cons,ih];have:layerN a=2:=rfl;omega
  rw [this];omega
 induction l with
 |nil=>simp [slotsN]
 |cons a l ih=>
  unfold slotsN slotsW slotsW1 at ih ⊢
  simp only [List.map_cons,List.sum_cons,List.length_cons]
  have h1:=hc a.part.core.cells
  have h2:=hl a.part.layers
  have h3:slotN a=5+cellsN a.part.core.cells+layersN a.part.layers:=rfl
  have h4:slotW a=a.part.core.kind.size+cellsW a.part.core.cells+layersW a.part.layers:=rfl
  omega
theorem slots_smallR {l:List SlotT} (h:slotsW l<=1048576):l.length<=1048576/\∀s∈l,SlotSmall s:=by
 refine⟨by unfold slotsW at h;omega,fun s hs=>?_⟩
 have h1:=slotsW_mem hs
 unfold slotsW at h
 unfold slotW partW coreW cellsW layersW at h1
 refine⟨by omega,by omega,fun c hc=>?_⟩
 have h2:=cellsW_mem hc
 unfold cellW at h2
 omega
theorem actionsN_sizeR (l:List ActionT):actionsN l=9 * sizeL l:=by
 have key:∀n (l:List ActionT),sizeL l<=n->actionsN l=9 * sizeL l:=by
  intro n
  induction n with
  |zero=>
   intro l h
   cases l with
   |nil=>rfl
   |cons a l=>rw [sizeL] at h;have:=a.size_eq;omega
  | succ n ih=>
   intro l
   induction l with
   |nil=>intro _;rfl
   |cons a l ihl=>
    intro h
    rw [sizeL] at h ⊢
    have e1:=a.size_eq
    have h1:=ih a.A (by omega)
    have h2:=ih a.B (by omega)
    have h3:=ihl (by omega)
    unfold actionsN at h3 ⊢
    simp only [List.map_cons,List.sum_cons]
    rw [actionN_eq]
    omega
 exact key _ l (Nat.le_refl _)
theorem runT_small {s:List SlotT} {m:List ActionT} {i:List Int} {r:EndT×List SlotT×Int} (h:runT s m i=r) (hW:slotsW s<=1048576):slotsN r.2.1<=8000000:=by
 subst h
 have key:∀l:List SlotT,SlotsOk l->slotsN l<=8000000:=fun l hl=>by
  obtain⟨h3,hs⟩:=hl
  have hone:∀x:SlotT,SlotOk x->slotN x<=1000:=fun x hx=>by
   have e:slotN x=5+cellsN x.part.core.cells+layersN x.part.layers:=rfl
   have hc:∀l:List CellT,cellsN l=2 * l.length:=fun l=>by
    unfold cellsN
    induction l with
    |nil=>rfl
    |cons a l ih=>simp only [List.map_cons,List.sum_cons,List.length_cons,ih];have:cellN a=2:=rfl;omega
   have hl:∀l:List LayerT,layersN l=2 * l.length:=fun l=>by
    unfold layersN
    induction l with
    |nil=>rfl
    |cons a l ih=>simp only [List.map_cons,List.sum_cons,List.length_cons,ih];have:layerN a=2:=rfl;omega
   rw [e,hc,hl]
   cases hf:x.full with
   |true=>
    obtain⟨⟨_,_,hcc,_⟩,h2,_⟩:=hx.1 hf
    have:=hcc.1
    omega
   |false=>rw [hx.2 hf];simp [zeroPart]
  match l,h3,hs with
  | [a,b,c],_,hs=>
   have ha:=hone a (hs 0 (by simp))
   have hb:=hone b (hs 1 (by simp))
   have hc:=hone c (hs 2 (by simp))
   simp only [slotsN,List.map_cons,List.map_nil,List.sum_cons,List.sum_nil]
   omega
 by_cases h1:SlotsOk s
 ·by_cases h2:PlanOk m
  ·rw [runT_ok h1 h2]
   exact key _ (runL_ok i m h2.2.2 0 ⟨s,0⟩ h1)
  ·rw [runT_no (.inr h2)]
   exact key _ h1
 ·rw [runT_no (.inl h1)]
  have h3:slotsN s<=5 * slotsW s:=slotsN_leR s
  show slotsN s<=8000000
  omega
theorem runPlan_impl_law (s:List SlotT) (m:List ActionT) (i:List Int) {r:EndT×List SlotT×Int} (us um ui:Value) (B:Nat) (w:World) (hs:slotsW s<=1048576) (hm:actionsW m<=1048576) (_hi:i.length<=1048576) (hr:runT s m i=r) (rs:Rd w B (slots s) us) (rm:Rd w B (actions m) um) (ri:Rd w B (ints i) ui) (hB:B<=w.heap.size) (hE:Env w):
  Calls Tryz.prog 10 #[us,um,ui] w (RunGives r w):=hr ▸ runPlan_impl_any s m i us um ui B w (slots_smallR hs).1 (slots_smallR hs).2 hm rs rm ri hB hE
theorem runPlan_spec_law (s:List SlotT) (m:List ActionT) (i:List Int) {r:EndT×List SlotT×Int} (us um ui:Value) (B:Nat) (w:World) (hs:slotsW s<=1048576) (hm:actionsW m<=1048576) (hi:i.length<=1048576) (hr:runT s m i=r) (rs:Rd w B (slots s) us) (rm:Rd w B (actions m) um) (ri:Rd w B (ints i) ui) (hB:B<=w.heap.size):
  Calls Tryz.prog 6 #[us,um,ui] w (RunGives r w):=hr ▸ runPlan_spec_any s m i us um ui B w (slots_smallR hs).1 (slots_smallR hs).2 hm hi rs rm ri hB
theorem runPlan_law (s:List SlotT) (m:List ActionT) (i:List Int) (us:Value) (um:Value) (ui:Value) (B:Nat) (w:World) (hfs:FitL [slots s]) (rs_0:Rd w B (slots s) us) (hfm:FitL [actions m]) (rm_0:Rd w B (actions m) um) (_hfi:FitL [ints i]) (ri_0:Rd w B (ints i) ui) (hB:B<=w.heap.size) (hE:Env w):
  Calls Tryz.prog 3 #[us,um,ui] w fun e w'=>e= .returned (.bool true)/\Chg [] w w':=by
 obtain⟨Ai,capi,rfl,hi0,hi1,_⟩:=ints_row ri_0
 unfold maxLen at hi1
 have EH:=hid (fun W (hc:Chg [] w W)=>hE.keep hc)
 clear hE
 by_cases hi2:1048576<i.length
 ·go_enter Tryz.func3,Tryz.ntmps3
  go_wp2_with fail
  go_ret
  exact⟨rfl,Chg.refl _ _⟩
 have hi:i.length<=1048576:=by omega
 go_enter Tryz.func3,Tryz.ntmps3
 go_wp2_with fail
 refine(szSlotS_any s _ _ B _ (by omega) (by omega) hfs rs_0 (by omega)).mono ?_;rintro e w1 ⟨z1,rfl,L1,c1⟩
 have bd1:=L1.bd (by omega)
 have b1:=c1.size
 have rs_1:=rs_0.c0 c1
 have rm_1:=rm_0.c0 c1
 have ri_1:=ri_0.c0 c1
 have d1:Chg [] w w1:=Chg.trans0 (Chg.refl [] w) (c1)
 go_wp2_with fail
 ·go_ret
  exact⟨rfl,d1⟩
 have hWs:slotsW s<=1048576/\(0<=z1):=by simp only [Left] at L1;omega
 refine(szActionS_any m _ _ B _ (by omega) (by omega) hfm rm_1 (by omega)).mono ?_;rintro e w2 ⟨z2,rfl,L2,c2⟩
 have bd2:=L2.bd (by omega)
 have b2:=c2.size
 have rs_2:=rs_1.c0 c2
 have rm_2:=rm_1.c0 c2
 have ri_2:=ri_1.c0 c2
 have d2:Chg [] w w2:=d1.trans0 c2
 go_wp2_with fail
 ·go_ret
  exact⟨rfl,d2⟩
 have hWm:actionsW m<=1048576/\(0<=z2):=by simp only [Left] at L2;omega
 obtain⟨en,sl,tk,hS⟩:∃en sl tk,runT s m i=(en,sl,tk):=⟨_,_,_,rfl⟩
 have hN:=runT_small hS hWs.1
 have hN2:=slotsN_leR s
 have hN3:=actionsN_sizeR m
 have hN4:=sizeL_W m
 have hWs1:=hWs.1
 have hWm1:=hWm.1
 simp only at hN
 have HS:=hid hS
 clear hS
 refine(toSlotS_any s _ _ _ hWs.1 rs_2 (by omega)).mono ?_;intro e w3 G3;obtain⟨A3,cap3,rfl,n3⟩:=G3.sl
 have hc3:=n3.chg
 have b3:=hc3.size
 have rs_3:=rs_2.c0 hc3
 have rm_3:=rm_2.c0 hc3
 have ri_3:=ri_2.c0 hc3
 have d3:Chg [] w w3:=d2.trans0 hc3
 obtain⟨St0s,Ht0s_3,lot0s,_⟩:=n3
 have hit0s:=Ht0s_3.lt
 go_wp2_with fail
 refine(toActionS_any m _ _ _ hWm.1 rm_3 (by omega)).mono ?_;intro e w4 G4;obtain⟨A4,cap4,rfl,n4⟩:=G4.sl
 have hc4:=n4.chg
 have b4:=hc4.size
 have rs_4:=rs_3.c0 hc4
 have rm_4:=rm_3.c0 hc4
 have ri_4:=ri_3.c0 hc4
 have Ht0s_4:=Has.keep0 Ht0s_3 (hc4)
 have d4:Chg [] w w4:=d3.trans0 hc4
 obtain⟨St0m,Ht0m_4,lot0m,_⟩:=n4
 have hit0m:=Ht0m_4.lt
 go_wp2_with fail
 refine(toIntS_any i _ _ _ ri_4 (by omega) (by omega)).mono ?_;intro e w5 G5;obtain⟨A5,cap5,rfl,n5⟩:=G5.sl
 have hc5:=n5.chg
 have b5:=hc5.size
 have rs_5:=rs_4.c0 hc5
 have rm_5:=rm_4.c0 hc5
 have ri_5:=ri_4.c0 hc5
 have Ht0s_5:=Has.keep0 Ht0s_4 (hc5)
 have Ht0m_5:=Has.keep0 Ht0m_4 (hc5)
 have d5:Chg [] w w5:=d4.trans0 hc5
 obtain⟨St0i,Ht0i_5,lot0i,_⟩:=n5
 have hit0i:=Ht0i_5.lt
 go_wp2_with fail
 refine(runPlan_spec_law s m i _ _ _ w5.heap.size _ hWs.1 hWm.1 hi HS.out (Ht0s_5.rd.mono (by omega)) (Ht0m_5.rd.mono (by omega)) (Ht0i_5.rd.mono (by omega)) (Nat.le_refl _)).mono ?_;rintro e w6 ⟨A6,cap6,rfl,n6⟩
 have hc6:=n6.chg
 have b6:=hc6.size
 have rs_6:=rs_5.c0 hc6
 have rm_6:=rm_5.c0 hc6
 have ri_6:=ri_5.c0 hc6
 have Ht0s_6:=Has.keep0 Ht0s_5 (hc6)
 have Ht0m_6:=Has.keep0 Ht0m_5 (hc6)
 have Ht0i_6:=Has.keep0 Ht0i_5 (hc6)
 have d6:Chg [] w w6:=d5.trans0 hc6
 obtain⟨Sw0,Hw0_6,low0,_⟩:=n6
 have hiw0:=Hw0_6.lt
 go_wp2_with fail
 obtain⟨w7,e7⟩:∃x,x=w6.alloc (.cells #[.int .i64 en.code,.int .i64 en.place,.int .i64 en.want,.int .i64 en.had] 28):=⟨_,rfl⟩
 rw [<-e7]
 have c7:Chg [] w6 w7:=by rw [e7];exact(Chg.refl _ _).alloc _
 have t7:w6.heap.size<w7.heap.size:=by rw [e7];simp
 have b7:=c7.size
 have rs_7:=rs_6.c0 c7
 have rm_7:=rm_6.c0 c7
 have ri_7:=ri_6.c0 c7
 have Ht0s_7:=Has.keep0 Ht0s_6 (c7)
 have Ht0m_7:=Has.keep0 Ht0m_6 (c7)
 have Ht0i_7:=Has.keep0 Ht0i_6 (c7)
 have Hw0_7:=Has.keep0 Hw0_6 (c7)
 have d7:Chg [] w w7:=d6.trans0 c7
 have yw0_7:∀o,w7.cell? ⟨w6.heap.size,o,none⟩=(w6.alloc (.cells #[.int .i64 en.code,.int .i64 en.place,.int .i64 en.want,.int .i64 en.had] 28)).cell? ⟨w6.heap.size,o,none⟩:=fun o=>by rw [e7]
 have zw0_7:∀o,w7.frozen? ⟨w6.heap.size,o,none⟩=(w6.alloc (.cells #[.int .i64 en.code,.int .i64 en.place,.int .i64 en.want,.int .i64 en.had] 28)).frozen? ⟨w6.heap.size,o,none⟩:=fun o=>by rw [e7]
 clear e7
 have tbw0_7:=t7
 refine(toSlotS_any s _ _ _ hWs.1 rs_7 (by omega)).mono ?_;intro e w8 G8;obtain⟨A8,cap8,rfl,n8⟩:=G8.sl
 have hc8:=n8.chg
 have b8:=hc8.size
 have rs_8:=rs_7.c0 hc8
 have rm_8:=rm_7.c0 hc8
 have ri_8:=ri_7.c0 hc8
 have Hw0_8:=Has.keep0 Hw0_7 (hc8)
 have tbw0_8:w6.heap.size<w8.heap.size:=by omega
 have yw0_8:=fun o=>((hc8.ce w6.heap.size) o).trans (yw0_7 o)
 have zw0_8:=fun o=>((hc8.fe w6.heap.size) o).trans (zw0_7 o)
 have d8:Chg [] w w8:=d7.trans0 hc8
 obtain⟨Sx0s,Hx0s_8,lox0s,_⟩:=n8
 have hix0s:=Hx0s_8.lt
 go_wp2_with fail
 refine(toActionS_any m _ _ _ hWm.1 rm_8 (by omega)).mono ?_;intro e w9 G9;obtain⟨A9,cap9,rfl,n9⟩:=G9.sl
 have hc9:=n9.chg
 have b9:=hc9.size
 have rs_9:=rs_8.c0 hc9
 have rm_9:=rm_8.c0 hc9
 have ri_9:=ri_8.c0 hc9
 have Hw0_9:=Has.keep0 Hw0_8 (hc9)
 have Hx0s_9:=Has.keep0 Hx0s_8 (hc9)
 have tbw0_9:w6.heap.size<w9.heap.size:=by omega
 have yw0_9:=fun o=>((hc9.ce w6.heap.size) o).trans (yw0_8 o)
 have zw0_9:=fun o=>((hc9.fe w6.heap.size) o).trans (zw0_8 o)
 have d9:Chg [] w w9:=d8.trans0 hc9
 obtain⟨Sx0m,Hx0m_9,lox0m,_⟩:=n9
 have hix0m:=Hx0m_9.lt
 go_wp2_with fail
 refine(toIntS_any i _ _ _ ri_9 (by omega) (by omega)).mono ?_;intro e w10 G10;obtain⟨A10,cap10,rfl,n10⟩:=G10.sl
 have hc10:=n10.chg
 have b10:=hc10.size
 have rs_10:=rs_9.c0 hc10
 have rm_10:=rm_9.c0 hc10
 have ri_10:=ri_9.c0 hc10
 have Hw0_10:=Has.keep0 Hw0_9 (hc10)
 have Hx0s_10:=Has.keep0 Hx0s_9 (hc10)
 have Hx0m_10:=Has.keep0 Hx0m_9 (hc10)
 have tbw0_10:w6.heap.size<w10.heap.size:=by omega
 have yw0_10:=fun o=>((hc10.ce w6.heap.size) o).trans (yw0_9 o)
 have zw0_10:=fun o=>((hc10.fe w6.heap.size) o).trans (zw0_9 o)
 have d10:Chg [] w w10:=d9.trans0 hc10
 obtain⟨Sx0i,Hx0i_10,lox0i,_⟩:=n10
 have hix0i:=Hx0i_10.lt
 go_wp2_with fail
 refine(runPlan_impl_law s m i _ _ _ w10.heap.size _ hWs.1 hWm.1 hi HS.out (Hx0s_10.rd.mono (by omega)) (Hx0m_10.rd.mono (by omega)) (Hx0i_10.rd.mono (by omega)) (Nat.le_refl _) (EH.out _ (d10))).mono ?_;rintro e w11 ⟨A11,cap11,rfl,n11⟩
 have hc11:=n11.chg
 have b11:=hc11.size
 have rs_11:=rs_10.c0 hc11
 have rm_11:=rm_10.c0 hc11
 have ri_11:=ri_10.c0 hc11
 have Hw0_11:=Has.keep0 Hw0_10 (hc11)
 have Hx0s_11:=Has.keep0 Hx0s_10 (hc11)
 have Hx0m_11:=Has.keep0 Hx0m_10 (hc11)
 have Hx0i_11:=Has.keep0 Hx0i_10 (hc11)
 have tbw0_11:w6.heap.size<w11.heap.size:=by omega
 have yw0_11:=fun o=>((hc11.ce w6.heap.size) o).trans (yw0_10 o)
 have zw0_11:=fun o=>((hc11.fe w6.heap.size) o).trans (zw0_10 o)
 have d11:Chg [] w w11:=d10.trans0 hc11
 obtain⟨Sg0,Hg0_11,log0,_⟩:=n11
 have hig0:=Hg0_11.lt
 go_wp2_with fail
 obtain⟨w12,e12⟩:∃x,x=w11.alloc (.cells #[.int .i64 en.code,.int .i64 en.place,.int .i64 en.want,.int .i64 en.had] 28):=⟨_,rfl⟩
 rw [<-e12]
 have c12:Chg [] w11 w12:=by rw [e12];exact(Chg.refl _ _).alloc _
 have t12:w11.heap.size<w12.heap.size:=by rw [e12];simp
 have b12:=c12.size
 have rs_12:=rs_11.c0 c12
 have rm_12:=rm_11.c0 c12
 have ri_12:=ri_11.c0 c12
 have Hw0_12:=Has.keep0 Hw0_11 (c12)
 have Hx0s_12:=Has.keep0 Hx0s_11 (c12)
 have Hx0m_12:=Has.keep0 Hx0m_11 (c12)
 have Hx0i_12:=Has.keep0 Hx0i_11 (c12)
 have Hg0_12:=Has.keep0 Hg0_11 (c12)
 have tbw0_12:w6.heap.size<w12.heap.size:=by omega
 have yw0_12:=fun o=>((c12.ce w6.heap.size) o).trans (yw0_11 o)
 have zw0_12:=fun o=>((c12.fe w6.heap.size) o).trans (zw0_11 o)
 have d12:Chg [] w w12:=d11.trans0 c12
 have yg0_12:∀o,w12.cell? ⟨w11.heap.size,o,none⟩=(w11.alloc (.cells #[.int .i64 en.code,.int .i64 en.place,.int .i64 en.want,.int .i64 en.had] 28)).cell? ⟨w11.heap.size,o,none⟩:=fun o=>by rw [e12]
 have zg0_12:∀o,w12.frozen? ⟨w11.heap.size,o,none⟩=(w11.alloc (.cells #[.int .i64 en.code,.int .i64 en.place,.int .i64 en.want,.int .i64 en.had] 28)).frozen? ⟨w11.heap.size,o,none⟩:=fun o=>by rw [e12]
 clear e12
 have tbg0_12:=t12
 refine(eqEnd_el _ _ _ _ _).mono ?_;rintro e w13 ⟨rfl,c13⟩
 have b13:=c13.size
 have rs_13:=rs_12.c0 c13
 have rm_13:=rm_12.c0 c13
 have ri_13:=ri_12.c0 c13
 have Hw0_13:=Has.keep0 Hw0_12 (c13)
 have Hx0s_13:=Has.keep0 Hx0s_12 (c13)
 have Hx0m_13:=Has.keep0 Hx0m_12 (c13)
 have Hx0i_13:=Has.keep0 Hx0i_12 (c13)
 have Hg0_13:=Has.keep0 Hg0_12 (c13)
 have tbw0_13:w6.heap.size<w13.heap.size:=by omega
 have yw0_13:=fun o=>((c13.ce w6.heap.size) o).trans (yw0_12 o)
 have zw0_13:=fun o=>((c13.fe w6.heap.size) o).trans (zw0_12 o)
 have tbg0_13:w11.heap.size<w13.heap.size:=by omega
 have yg0_13:=fun o=>((c13.ce w11.heap.size) o).trans (yg0_12 o)
 have zg0_13:=fun o=>((c13.fe w11.heap.size) o).trans (zg0_12 o)
 have d13:Chg [] w w13:=d12.trans0 c13
 go_wp2_with fail
 refine(eqSlotS_same sl _ _ _ _ _ Hg0_13.rd Hw0_13.rd (by omega) (by omega)).mono ?_;rintro e w14 ⟨rfl,c14⟩
 have b14:=c14.size
 have rs_14:=rs_13.c0 c14
 have rm_14:=rm_13.c0 c14
 have ri_14:=ri_13.c0 c14
 have Hw0_14:=Has.keep0 Hw0_13 (c14)
 have Hx0s_14:=Has.keep0 Hx0s_13 (c14)
 have Hx0m_14:=Has.keep0 Hx0m_13 (c14)
 have Hx0i_14:=Has.keep0 Hx0i_13 (c14)
 have Hg0_14:=Has.keep0 Hg0_13 (c14)
 have tbw0_14:w6.heap.size<w14.heap.size:=by omega
 have yw0_14:=fun o=>((c14.ce w6.heap.size) o).trans (yw0_13 o)
 have zw0_14:=fun o=>((c14.fe w6.heap.size) o).trans (zw0_13 o)
 have tbg0_14:w11.heap.size<w14.heap.size:=by omega
 have yg0_14:=fun o=>((c14.ce w11.heap.size) o).trans (yg0_13 o)
 have zg0_14:=fun o=>((c14.fe w11.heap.size) o).trans (zg0_13 o)
 have d14:Chg [] w w14:=d13.trans0 c14
 go_wp2_with fail
 refine(toSlotS_any s _ _ _ hWs.1 rs_14 (by omega)).mono ?_;intro e w15 G15;obtain⟨A15,cap15,rfl,n15⟩:=G15.sl
 have hc15:=n15.chg
 have b15:=hc15.size
 have rs_15:=rs_14.c0 hc15
 have rm_15:=rm_14.c0 hc15
 have ri_15:=ri_14.c0 hc15
 have Hw0_15:=Has.keep0 Hw0_14 (hc15)
 have Hx0s_15:=Has.keep0 Hx0s_14 (hc15)
 have Hx0m_15:=Has.keep0 Hx0m_14 (hc15)
 have Hx0i_15:=Has.keep0 Hx0i_14 (hc15)
 have Hg0_15:=Has.keep0 Hg0_14 (hc15)
 have tbw0_15:w6.heap.size<w15.heap.size:=by omega
 have yw0_15:=fun o=>((hc15.ce w6.heap.size) o).trans (yw0_14 o)
 have zw0_15:=fun o=>((hc15.fe w6.heap.size) o).trans (zw0_14 o)
 have tbg0_15:w11.heap.size<w15.heap.size:=by omega
 have yg0_15:=fun o=>((hc15.ce w11.heap.size) o).trans (yg0_14 o)
 have zg0_15:=fun o=>((hc15.fe w11.heap.size) o).trans (zg0_14 o)
 have d15:Chg [] w w15:=d14.trans0 hc15
 obtain⟨St1s,Ht1s_15,lot1s,_⟩:=n15
 have hit1s:=Ht1s_15.lt
 go_wp2_with fail
 refine(eqSlotS_same s _ _ _ _ _ Hx0s_15.rd Ht1s_15.rd (by omega) (by omega)).mono ?_;rintro e w16 ⟨rfl,c16⟩
 have b16:=c16.size
 have rs_16:=rs_15.c0 c16
 have rm_16:=rm_15.c0 c16
 have ri_16:=ri_15.c0 c16
 have Hw0_16:=Has.keep0 Hw0_15 (c16)
 have Hx0s_16:=Has.keep0 Hx0s_15 (c16)
 have Hx0m_16:=Has.keep0 Hx0m_15 (c16)
 have Hx0i_16:=Has.keep0 Hx0i_15 (c16)
 have Hg0_16:=Has.keep0 Hg0_15 (c16)
 have Ht1s_16:=Has.keep0 Ht1s_15 (c16)
 have tbw0_16:w6.heap.size<w16.heap.size:=by omega
 have yw0_16:=fun o=>((c16.ce w6.heap.size) o).trans (yw0_15 o)
 have zw0_16:=fun o=>((c16.fe w6.heap.size) o).trans (zw0_15 o)
 have tbg0_16:w11.heap.size<w16.heap.size:=by omega
 have yg0_16:=fun o=>((c16.ce w11.heap.size) o).trans (yg0_15 o)
 have zg0_16:=fun o=>((c16.fe w11.heap.size) o).trans (zg0_15 o)
 have d16:Chg [] w w16:=d15.trans0 c16
 go_wp2_with fail
 refine(toActionS_any m _ _ _ hWm.1 rm_16 (by omega)).mono ?_;intro e w17 G17;obtain⟨A17,cap17,rfl,n17⟩:=G17.sl
 have hc17:=n17.chg
 have b17:=hc17.size
 have rs_17:=rs_16.c0 hc17
 have rm_17:=rm_16.c0 hc17
 have ri_17:=ri_16.c0 hc17
 have Hw0_17:=Has.keep0 Hw0_16 (hc17)
 have Hx0s_17:=Has.keep0 Hx0s_16 (hc17)
 have Hx0m_17:=Has.keep0 Hx0m_16 (hc17)
 have Hx0i_17:=Has.keep0 Hx0i_16 (hc17)
 have Hg0_17:=Has.keep0 Hg0_16 (hc17)
 have tbw0_17:w6.heap.size<w17.heap.size:=by omega
 have yw0_17:=fun o=>((hc17.ce w6.heap.size) o).trans (yw0_16 o)
 have zw0_17:=fun o=>((hc17.fe w6.heap.size) o).trans (zw0_16 o)
 have tbg0_17:w11.heap.size<w17.heap.size:=by omega
 have yg0_17:=fun o=>((hc17.ce w11.heap.size) o).trans (yg0_16 o)
 have zg0_17:=fun o=>((hc17.fe w11.heap.size) o).trans (zg0_16 o)
 have d17:Chg [] w w17:=d16.trans0 hc17
 obtain⟨St1m,Ht1m_17,lot1m,_⟩:=n17
 have hit1m:=Ht1m_17.lt
 go_wp2_with fail
 refine(eqActionS_same m _ _ _ _ _ Hx0m_17.rd Ht1m_17.rd (by omega) (by omega)).mono ?_;rintro e w18 ⟨rfl,c18⟩
 have b18:=c18.size
 have rs_18:=rs_17.c0 c18
 have rm_18:=rm_17.c0 c18
 have ri_18:=ri_17.c0 c18
 have Hw0_18:=Has.keep0 Hw0_17 (c18)
 have Hx0s_18:=Has.keep0 Hx0s_17 (c18)
 have Hx0m_18:=Has.keep0 Hx0m_17 (c18)
 have Hx0i_18:=Has.keep0 Hx0i_17 (c18)
 have Hg0_18:=Has.keep0 Hg0_17 (c18)
 have Ht1m_18:=Has.keep0 Ht1m_17 (c18)
 have tbw0_18:w6.heap.size<w18.heap.size:=by omega
 have yw0_18:=fun o=>((c18.ce w6.heap.size) o).trans (yw0_17 o)
 have zw0_18:=fun o=>((c18.fe w6.heap.size) o).trans (zw0_17 o)
 have tbg0_18:w11.heap.size<w18.heap.size:=by omega
 have yg0_18:=fun o=>((c18.ce w11.heap.size) o).trans (yg0_17 o)
 have zg0_18:=fun o=>((c18.fe w11.heap.size) o).trans (zg0_17 o)
 have d18:Chg [] w w18:=d17.trans0 c18
 go_wp2_with fail
 refine(toIntS_any i _ _ _ ri_18 (by omega) (by omega)).mono ?_;intro e w19 G19;obtain⟨A19,cap19,rfl,n19⟩:=G19.sl
 have hc19:=n19.chg
 have b19:=hc19.size
 have rs_19:=rs_18.c0 hc19
 have rm_19:=rm_18.c0 hc19
 have ri_19:=ri_18.c0 hc19
 have Hw0_19:=Has.keep0 Hw0_18 (hc19)
 have Hx0s_19:=Has.keep0 Hx0s_18 (hc19)
 have Hx0m_19:=Has.keep0 Hx0m_18 (hc19)
 have Hx0i_19:=Has.keep0 Hx0i_18 (hc19)
 have Hg0_19:=Has.keep0 Hg0_18 (hc19)
 have tbw0_19:w6.heap.size<w19.heap.size:=by omega
 have yw0_19:=fun o=>((hc19.ce w6.heap.size) o).trans (yw0_18 o)
 have zw0_19:=fun o=>((hc19.fe w6.heap.size) o).trans (zw0_18 o)
 have tbg0_19:w11.heap.size<w19.heap.size:=by omega
 have yg0_19:=fun o=>((hc19.ce w11.heap.size) o).trans (yg0_18 o)
 have zg0_19:=fun o=>((hc19.fe w11.heap.size) o).trans (zg0_18 o)
 have d19:Chg [] w w19:=d18.trans0 hc19
 obtain⟨St1i,Ht1i_19,lot1i,_⟩:=n19
 have hit1i:=Ht1i_19.lt
 go_wp2_with fail
 refine(eqIntS_same i _ _ _ _ _ Hx0i_19.rd Ht1i_19.rd (by omega) (by omega)).mono ?_;rintro e w20 ⟨rfl,c20⟩
 have b20:=c20.size
 have rs_20:=rs_19.c0 c20
 have rm_20:=rm_19.c0 c20
 have ri_20:=ri_19.c0 c20
 have Hw0_20:=Has.keep0 Hw0_19 (c20)
 have Hx0s_20:=Has.keep0 Hx0s_19 (c20)
 have Hx0m_20:=Has.keep0 Hx0m_19 (c20)
 have Hx0i_20:=Has.keep0 Hx0i_19 (c20)
 have Hg0_20:=Has.keep0 Hg0_19 (c20)
 have Ht1i_20:=Has.keep0 Ht1i_19 (c20)
 have tbw0_20:w6.heap.size<w20.heap.size:=by omega
 have yw0_20:=fun o=>((c20.ce w6.heap.size) o).trans (yw0_19 o)
 have zw0_20:=fun o=>((c20.fe w6.heap.size) o).trans (zw0_19 o)
 have tbg0_20:w11.heap.size<w20.heap.size:=by omega
 have yg0_20:=fun o=>((c20.ce w11.heap.size) o).trans (yg0_19 o)
 have zg0_20:=fun o=>((c20.fe w11.heap.size) o).trans (zg0_19 o)
 have d20:Chg [] w w20:=d19.trans0 c20
 go_wp2_with fail
 refine(markSlotS_any s _ _ _ _ (by omega) (by omega) Hx0s_20).mono ?_;rintro e w21 ⟨rfl,Hx0s_21,c21⟩
 have b21:=c21.size
 have rs_21:=Rd.chg rs_20 (c21) (by omega) (fun x hy=>by(have:=lox0s x hy;omega))
 have rm_21:=Rd.chg rm_20 (c21) (by omega) (fun x hy=>by(have:=lox0s x hy;omega))
 have ri_21:=Rd.chg ri_20 (c21) (by omega) (fun x hy=>by(have:=lox0s x hy;omega))
 have Hw0_21:=Has.keep Hw0_20 (c21) (fun x hx hy=>by have h1:=hiw0 x hx;(have:=lox0s x hy;omega))
 have Hx0m_21:=Has.keep Hx0m_20 (c21) (fun x hx hy=>by have h1:=lox0m x hx;(have:=hix0s x hy;omega))
 have Hx0i_21:=Has.keep Hx0i_20 (c21) (fun x hx hy=>by have h1:=lox0i x hx;(have:=hix0s x hy;omega))
 have Hg0_21:=Has.keep Hg0_20 (c21) (fun x hx hy=>by have h1:=log0 x hx;(have:=hix0s x hy;omega))
 have tbw0_21:w6.heap.size<w21.heap.size:=by omega
 have yw0_21:=fun o=>(Chg.cell (c21) (p:=⟨w6.heap.size,o,none⟩) (show w6.heap.size<_ by omega) (fun hy=>by(have h0:_<=w6.heap.size:=lox0s _ hy;omega))).trans (yw0_20 o)
 have zw0_21:=fun o=>(Chg.frozen (c21) (p:=⟨w6.heap.size,o,none⟩) (show w6.heap.size<_ by omega) (fun hy=>by(have h0:_<=w6.heap.size:=lox0s _ hy;omega))).trans (zw0_20 o)
 have tbg0_21:w11.heap.size<w21.heap.size:=by omega
 have yg0_21:=fun o=>(Chg.cell (c21) (p:=⟨w11.heap.size,o,none⟩) (show w11.heap.size<_ by omega) (fun hy=>by(have h0:w11.heap.size<_:=hix0s _ hy;omega))).trans (yg0_20 o)
 have zg0_21:=fun o=>(Chg.frozen (c21) (p:=⟨w11.heap.size,o,none⟩) (show w11.heap.size<_ by omega) (fun hy=>by(have h0:w11.heap.size<_:=hix0s _ hy;omega))).trans (zg0_20 o)
 have d21:Chg [] w w21:=Chg.trans (d20) (c21) (fun x hy=>.inr (by(have:=lox0s x hy;omega)))
 go_wp2_with fail
 refine(markActionS_any m _ _ _ _ (by omega) (by omega) Hx0m_21).mono ?_;rintro e w22 ⟨rfl,Hx0m_22,c22⟩
 have b22:=c22.size
 have rs_22:=Rd.chg rs_21 (c22) (by omega) (fun x hy=>by(have:=lox0m x hy;omega))
 have rm_22:=Rd.chg rm_21 (c22) (by omega) (fun x hy=>by(have:=lox0m x hy;omega))
 have ri_22:=Rd.chg ri_21 (c22) (by omega) (fun x hy=>by(have:=lox0m x hy;omega))
 have Hw0_22:=Has.keep Hw0_21 (c22) (fun x hx hy=>by have h1:=hiw0 x hx;(have:=lox0m x hy;omega))
 have Hx0i_22:=Has.keep Hx0i_21 (c22) (fun x hx hy=>by have h1:=lox0i x hx;(have:=hix0m x hy;omega))
 have Hg0_22:=Has.keep Hg0_21 (c22) (fun x hx hy=>by have h1:=log0 x hx;(have:=hix0m x hy;omega))
 have tbw0_22:w6.heap.size<w22.heap.size:=by omega
 have yw0_22:=fun o=>(Chg.cell (c22) (p:=⟨w6.heap.size,o,none⟩) (show w6.heap.size<_ by omega) (fun hy=>by(have h0:_<=w6.heap.size:=lox0m _ hy;omega))).trans (yw0_21 o)
 have zw0_22:=fun o=>(Chg.frozen (c22) (p:=⟨w6.heap.size,o,none⟩) (show w6.heap.size<_ by omega) (fun hy=>by(have h0:_<=w6.heap.size:=lox0m _ hy;omega))).trans (zw0_21 o)
 have tbg0_22:w11.heap.size<w22.heap.size:=by omega
 have yg0_22:=fun o=>(Chg.cell (c22) (p:=⟨w11.heap.size,o,none⟩) (show w11.heap.size<_ by omega) (fun hy=>by(have h0:w11.heap.size<_:=hix0m _ hy;omega))).trans (yg0_21 o)
 have zg0_22:=fun o=>(Chg.frozen (c22) (p:=⟨w11.heap.size,o,none⟩) (show w11.heap.size<_ by omega) (fun hy=>by(have h0:w11.heap.size<_:=hix0m _ hy;omega))).trans (zg0_21 o)
 have d22:Chg [] w w22:=Chg.trans (d21) (c22) (fun x hy=>.inr (by(have:=lox0m x hy;omega)))
 go_wp2_with fail
 refine(markIntS_any i _ _ _ _ (by omega) (by omega) Hx0i_22).mono ?_;rintro e w23 ⟨rfl,⟨im,Hx0i_23⟩,c23⟩
 have b23:=c23.size
 have rs_23:=Rd.chg rs_22 (c23) (by omega) (fun x hy=>by(have:=lox0i x hy;omega))
 have rm_23:=Rd.chg rm_22 (c23) (by omega) (fun x hy=>by(have:=lox0i x hy;omega))
 have ri_23:=Rd.chg ri_22 (c23) (by omega) (fun x hy=>by(have:=lox0i x hy;omega))
 have Hw0_23:=Has.keep Hw0_22 (c23) (fun x hx hy=>by have h1:=hiw0 x hx;(have:=lox0i x hy;omega))
 have Hg0_23:=Has.keep Hg0_22 (c23) (fun x hx hy=>by have h1:=log0 x hx;(have:=hix0i x hy;omega))
 have tbw0_23:w6.heap.size<w23.heap.size:=by omega
 have yw0_23:=fun o=>(Chg.cell (c23) (p:=⟨w6.heap.size,o,none⟩) (show w6.heap.size<_ by omega) (fun hy=>by(have h0:_<=w6.heap.size:=lox0i _ hy;omega))).trans (yw0_22 o)
 have zw0_23:=fun o=>(Chg.frozen (c23) (p:=⟨w6.heap.size,o,none⟩) (show w6.heap.size<_ by omega) (fun hy=>by(have h0:_<=w6.heap.size:=lox0i _ hy;omega))).trans (zw0_22 o)
 have tbg0_23:w11.heap.size<w23.heap.size:=by omega
 have yg0_23:=fun o=>(Chg.cell (c23) (p:=⟨w11.heap.size,o,none⟩) (show w11.heap.size<_ by omega) (fun hy=>by(have h0:w11.heap.size<_:=hix0i _ hy;omega))).trans (yg0_22 o)
 have zg0_23:=fun o=>(Chg.frozen (c23) (p:=⟨w11.heap.size,o,none⟩) (show w11.heap.size<_ by omega) (fun hy=>by(have h0:w11.heap.size<_:=hix0i _ hy;omega))).trans (zg0_22 o)
 have d23:Chg [] w w23:=Chg.trans (d22) (c23) (fun x hy=>.inr (by(have:=lox0i x hy;omega)))
 go_wp2_with fail
 refine(eqEnd_el _ _ _ _ _).mono ?_;rintro e w24 ⟨rfl,c24⟩
 have b24:=c24.size
 have rs_24:=rs_23.c0 c24
 have rm_24:=rm_23.c0 c24
 have ri_24:=ri_23.c0 c24
 have Hw0_24:=Has.keep0 Hw0_23 (c24)
 have Hg0_24:=Has.keep0 Hg0_23 (c24)
 have tbw0_24:w6.heap.size<w24.heap.size:=by omega
 have yw0_24:=fun o=>((c24.ce w6.heap.size) o).trans (yw0_23 o)
 have zw0_24:=fun o=>((c24.fe w6.heap.size) o).trans (zw0_23 o)
 have tbg0_24:w11.heap.size<w24.heap.size:=by omega
 have yg0_24:=fun o=>((c24.ce w11.heap.size) o).trans (yg0_23 o)
 have zg0_24:=fun o=>((c24.fe w11.heap.size) o).trans (zg0_23 o)
 have d24:Chg [] w w24:=d23.trans0 c24
 go_wp2_with fail
 refine(eqSlotS_same sl _ _ _ _ _ Hg0_24.rd Hw0_24.rd (by omega) (by omega)).mono ?_;rintro e w25 ⟨rfl,c25⟩
 have b25:=c25.size
 have rs_25:=rs_24.c0 c25
 have rm_25:=rm_24.c0 c25
 have ri_25:=ri_24.c0 c25
 have Hw0_25:=Has.keep0 Hw0_24 (c25)
 have Hg0_25:=Has.keep0 Hg0_24 (c25)
 have tbw0_25:w6.heap.size<w25.heap.size:=by omega
 have yw0_25:=fun o=>((c25.ce w6.heap.size) o).trans (yw0_24 o)
 have zw0_25:=fun o=>((c25.fe w6.heap.size) o).trans (zw0_24 o)
 have tbg0_25:w11.heap.size<w25.heap.size:=by omega
 have yg0_25:=fun o=>((c25.ce w11.heap.size) o).trans (yg0_24 o)
 have zg0_25:=fun o=>((c25.fe w11.heap.size) o).trans (zg0_24 o)
 have d25:Chg [] w w25:=d24.trans0 c25
 go_wp2_with fail
 refine(markSlotS_any sl _ _ _ _ (by omega) (by omega) Hg0_25).mono ?_;rintro e w26 ⟨rfl,Hg0_26,c26⟩
 have b26:=c26.size
 have rs_26:=Rd.chg rs_25 (c26) (by omega) (fun x hy=>by(have:=log0 x hy;omega))
 have rm_26:=Rd.chg rm_25 (c26) (by omega) (fun x hy=>by(have:=log0 x hy;omega))
 have ri_26:=Rd.chg ri_25 (c26) (by omega) (fun x hy=>by(have:=log0 x hy;omega))
 have Hw0_26:=Has.keep Hw0_25 (c26) (fun x hx hy=>by have h1:=hiw0 x hx;(have:=log0 x hy;omega))
 have tbw0_26:w6.heap.size<w26.heap.size:=by omega
 have yw0_26:=fun o=>(Chg.cell (c26) (p:=⟨w6.heap.size,o,none⟩) (show w6.heap.size<_ by omega) (fun hy=>by(have h0:_<=w6.heap.size:=log0 _ hy;omega))).trans (yw0_25 o)
 have zw0_26:=fun o=>(Chg.frozen (c26) (p:=⟨w6.heap.size,o,none⟩) (show w6.heap.size<_ by omega) (fun hy=>by(have h0:_<=w6.heap.size:=log0 _ hy;omega))).trans (zw0_25 o)
 have tbg0_26:w11.heap.size<w26.heap.size:=by omega
 have yg0_26:=fun o=>(Chg.cell (c26) (p:=⟨w11.heap.size,o,none⟩) (show w11.heap.size<_ by omega) (fun hy=>by(have h0:w11.heap.size<_:=hig0 _ hy;omega))).trans (yg0_25 o)
 have zg0_26:=fun o=>(Chg.frozen (c26) (p:=⟨w11.heap.size,o,none⟩) (show w11.heap.size<_ by omega) (fun hy=>by(have h0:w11.heap.size<_:=hig0 _ hy;omega))).trans (zg0_25 o)
 have d26:Chg [] w w26:=Chg.trans (d25) (c26) (fun x hy=>.inr (by(have:=log0 x hy;omega)))
 go_wp2_with fail
 refine(heldSlotS_any sl _ _ _ _ (by omega) (by omega) Hg0_26.rd (by omega)).mono ?_;rintro e w27 ⟨rfl,c27⟩
 have b27:=c27.size
 have rs_27:=rs_26.c0 c27
 have rm_27:=rm_26.c0 c27
 have ri_27:=ri_26.c0 c27
 have Hw0_27:=Has.keep0 Hw0_26 (c27)
 have Hg0_27:=Has.keep0 Hg0_26 (c27)
 have tbw0_27:w6.heap.size<w27.heap.size:=by omega
 have yw0_27:=fun o=>((c27.ce w6.heap.size) o).trans (yw0_26 o)
 have zw0_27:=fun o=>((c27.fe w6.heap.size) o).trans (zw0_26 o)
 have tbg0_27:w11.heap.size<w27.heap.size:=by omega
 have yg0_27:=fun o=>((c27.ce w11.heap.size) o).trans (yg0_26 o)
 have zg0_27:=fun o=>((c27.fe w11.heap.size) o).trans (zg0_26 o)
 have d27:Chg [] w w27:=d26.trans0 c27
 go_wp2_with fail
 refine(toSlotS_any s _ _ _ hWs.1 rs_27 (by omega)).mono ?_;intro e w28 G28;obtain⟨A28,cap28,rfl,n28⟩:=G28.sl
 have hc28:=n28.chg
 have b28:=hc28.size
 have rs_28:=rs_27.c0 hc28
 have rm_28:=rm_27.c0 hc28
 have ri_28:=ri_27.c0 hc28
 have Hw0_28:=Has.keep0 Hw0_27 (hc28)
 have Hg0_28:=Has.keep0 Hg0_27 (hc28)
 have tbw0_28:w6.heap.size<w28.heap.size:=by omega
 have yw0_28:=fun o=>((hc28.ce w6.heap.size) o).trans (yw0_27 o)
 have zw0_28:=fun o=>((hc28.fe w6.heap.size) o).trans (zw0_27 o)
 have tbg0_28:w11.heap.size<w28.heap.size:=by omega
 have yg0_28:=fun o=>((hc28.ce w11.heap.size) o).trans (yg0_27 o)
 have zg0_28:=fun o=>((hc28.fe w11.heap.size) o).trans (zg0_27 o)
 have d28:Chg [] w w28:=d27.trans0 hc28
 obtain⟨St2s,Ht2s_28,lot2s,_⟩:=n28
 have hit2s:=Ht2s_28.lt
 go_wp2_with fail
 refine(toActionS_any m _ _ _ hWm.1 rm_28 (by omega)).mono ?_;intro e w29 G29;obtain⟨A29,cap29,rfl,n29⟩:=G29.sl
 have hc29:=n29.chg
 have b29:=hc29.size
 have rs_29:=rs_28.c0 hc29
 have rm_29:=rm_28.c0 hc29
 have ri_29:=ri_28.c0 hc29
 have Hw0_29:=Has.keep0 Hw0_28 (hc29)
 have Hg0_29:=Has.keep0 Hg0_28 (hc29)
 have Ht2s_29:=Has.keep0 Ht2s_28 (hc29)
 have tbw0_29:w6.heap.size<w29.heap.size:=by omega
 have yw0_29:=fun o=>((hc29.ce w6.heap.size) o).trans (yw0_28 o)
 have zw0_29:=fun o=>((hc29.fe w6.heap.size) o).trans (zw0_28 o)
 have tbg0_29:w11.heap.size<w29.heap.size:=by omega
 have yg0_29:=fun o=>((hc29.ce w11.heap.size) o).trans (yg0_28 o)
 have zg0_29:=fun o=>((hc29.fe w11.heap.size) o).trans (zg0_28 o)
 have d29:Chg [] w w29:=d28.trans0 hc29
 obtain⟨St2m,Ht2m_29,lot2m,_⟩:=n29
 have hit2m:=Ht2m_29.lt
 go_wp2_with fail
 refine(toIntS_any i _ _ _ ri_29 (by omega) (by omega)).mono ?_;intro e w30 G30;obtain⟨A30,cap30,rfl,n30⟩:=G30.sl
 have hc30:=n30.chg
 have b30:=hc30.size
 have rs_30:=rs_29.c0 hc30
 have rm_30:=rm_29.c0 hc30
 have ri_30:=ri_29.c0 hc30
 have Hw0_30:=Has.keep0 Hw0_29 (hc30)
 have Hg0_30:=Has.keep0 Hg0_29 (hc30)
 have Ht2s_30:=Has.keep0 Ht2s_29 (hc30)
 have Ht2m_30:=Has.keep0 Ht2m_29 (hc30)
 have tbw0_30:w6.heap.size<w30.heap.size:=by omega
 have yw0_30:=fun o=>((hc30.ce w6.heap.size) o).trans (yw0_29 o)
 have zw0_30:=fun o=>((hc30.fe w6.heap.size) o).trans (zw0_29 o)
 have tbg0_30:w11.heap.size<w30.heap.size:=by omega
 have yg0_30:=fun o=>((hc30.ce w11.heap.size) o).trans (yg0_29 o)
 have zg0_30:=fun o=>((hc30.fe w11.heap.size) o).trans (zg0_29 o)
 have d30:Chg [] w w30:=d29.trans0 hc30
 obtain⟨St2i,Ht2i_30,lot2i,_⟩:=n30
 have hit2i:=Ht2i_30.lt
 go_wp2_with fail
 refine(runPlan_impl_law s m i _ _ _ w30.heap.size _ hWs.1 hWm.1 hi HS.out (Ht2s_30.rd.mono (by omega)) (Ht2m_30.rd.mono (by omega)) (Ht2i_30.rd.mono (by omega)) (Nat.le_refl _) (EH.out _ (d30))).mono ?_;rintro e w31 ⟨A31,cap31,rfl,n31⟩
 have hc31:=n31.chg
 have b31:=hc31.size
 have rs_31:=rs_30.c0 hc31
 have rm_31:=rm_30.c0 hc31
 have ri_31:=ri_30.c0 hc31
 have Hw0_31:=Has.keep0 Hw0_30 (hc31)
 have Hg0_31:=Has.keep0 Hg0_30 (hc31)
 have Ht2s_31:=Has.keep0 Ht2s_30 (hc31)
 have Ht2m_31:=Has.keep0 Ht2m_30 (hc31)
 have Ht2i_31:=Has.keep0 Ht2i_30 (hc31)
 have tbw0_31:w6.heap.size<w31.heap.size:=by omega
 have yw0_31:=fun o=>((hc31.ce w6.heap.size) o).trans (yw0_30 o)
 have zw0_31:=fun o=>((hc31.fe w6.heap.size) o).trans (zw0_30 o)
 have tbg0_31:w11.heap.size<w31.heap.size:=by omega
 have yg0_31:=fun o=>((hc31.ce w11.heap.size) o).trans (yg0_30 o)
 have zg0_31:=fun o=>((hc31.fe w11.heap.size) o).trans (zg0_30 o)
 have d31:Chg [] w w31:=d30.trans0 hc31
 obtain⟨Sh0,Hh0_31,loh0,_⟩:=n31
 have hih0:=Hh0_31.lt
 go_wp2_with fail
 obtain⟨w32,e32⟩:∃x,x=w31.alloc (.cells #[.int .i64 en.code,.int .i64 en.place,.int .i64 en.want,.int .i64 en.had] 28):=⟨_,rfl⟩
 rw [<-e32]
 have c32:Chg [] w31 w32:=by rw [e32];exact(Chg.refl _ _).alloc _
 have t32:w31.heap.size<w32.heap.size:=by rw [e32];simp
 have b32:=c32.size
 have rs_32:=rs_31.c0 c32
 have rm_32:=rm_31.c0 c32
 have ri_32:=ri_31.c0 c32
 have Hw0_32:=Has.keep0 Hw0_31 (c32)
 have Hg0_32:=Has.keep0 Hg0_31 (c32)
 have Ht2s_32:=Has.keep0 Ht2s_31 (c32)
 have Ht2m_32:=Has.keep0 Ht2m_31 (c32)
 have Ht2i_32:=Has.keep0 Ht2i_31 (c32)
 have Hh0_32:=Has.keep0 Hh0_31 (c32)
 have tbw0_32:w6.heap.size<w32.heap.size:=by omega
 have yw0_32:=fun o=>((c32.ce w6.heap.size) o).trans (yw0_31 o)
 have zw0_32:=fun o=>((c32.fe w6.heap.size) o).trans (zw0_31 o)
 have tbg0_32:w11.heap.size<w32.heap.size:=by omega
 have yg0_32:=fun o=>((c32.ce w11.heap.size) o).trans (yg0_31 o)
 have zg0_32:=fun o=>((c32.fe w11.heap.size) o).trans (zg0_31 o)
 have d32:Chg [] w w32:=d31.trans0 c32
 have yh0_32:∀o,w32.cell? ⟨w31.heap.size,o,none⟩=(w31.alloc (.cells #[.int .i64 en.code,.int .i64 en.place,.int .i64 en.want,.int .i64 en.had] 28)).cell? ⟨w31.heap.size,o,none⟩:=fun o=>by rw [e32]
 have zh0_32:∀o,w32.frozen? ⟨w31.heap.size,o,none⟩=(w31.alloc (.cells #[.int .i64 en.code,.int .i64 en.place,.int .i64 en.want,.int .i64 en.had] 28)).frozen? ⟨w31.heap.size,o,none⟩:=fun o=>by rw [e32]
 clear e32
 have tbh0_32:=t32
 refine(eqEnd_el _ _ _ _ _).mono ?_;rintro e w33 ⟨rfl,c33⟩
 have b33:=c33.size
 have rs_33:=rs_32.c0 c33
 have rm_33:=rm_32.c0 c33
 have ri_33:=ri_32.c0 c33
 have Hw0_33:=Has.keep0 Hw0_32 (c33)
 have Hg0_33:=Has.keep0 Hg0_32 (c33)
 have Hh0_33:=Has.keep0 Hh0_32 (c33)
 have tbw0_33:w6.heap.size<w33.heap.size:=by omega
 have yw0_33:=fun o=>((c33.ce w6.heap.size) o).trans (yw0_32 o)
 have zw0_33:=fun o=>((c33.fe w6.heap.size) o).trans (zw0_32 o)
 have tbg0_33:w11.heap.size<w33.heap.size:=by omega
 have yg0_33:=fun o=>((c33.ce w11.heap.size) o).trans (yg0_32 o)
 have zg0_33:=fun o=>((c33.fe w11.heap.size) o).trans (zg0_32 o)
 have tbh0_33:w31.heap.size<w33.heap.size:=by omega
 have yh0_33:=fun o=>((c33.ce w31.heap.size) o).trans (yh0_32 o)
 have zh0_33:=fun o=>((c33.fe w31.heap.size) o).trans (zh0_32 o)
 have d33:Chg [] w w33:=d32.trans0 c33
 go_wp2_with fail
 refine(eqSlotS_same sl _ _ _ _ _ Hh0_33.rd Hw0_33.rd (by omega) (by omega)).mono ?_;rintro e w34 ⟨rfl,c34⟩
 have b34:=c34.size
 have rs_34:=rs_33.c0 c34
 have rm_34:=rm_33.c0 c34
 have ri_34:=ri_33.c0 c34
 have Hw0_34:=Has.keep0 Hw0_33 (c34)
 have Hg0_34:=Has.keep0 Hg0_33 (c34)
 have Hh0_34:=Has.keep0 Hh0_33 (c34)
 have tbw0_34:w6.heap.size<w34.heap.size:=by omega
 have yw0_34:=fun o=>((c34.ce w6.heap.size) o).trans (yw0_33 o)
 have zw0_34:=fun o=>((c34.fe w6.heap.size) o).trans (zw0_33 o)
 have tbg0_34:w11.heap.size<w34.heap.size:=by omega
 have yg0_34:=fun o=>((c34.ce w11.heap.size) o).trans (yg0_33 o)
 have zg0_34:=fun o=>((c34.fe w11.heap.size) o).trans (zg0_33 o)
 have tbh0_34:w31.heap.size<w34.heap.size:=by omega
 have yh0_34:=fun o=>((c34.ce w31.heap.size) o).trans (yh0_33 o)
 have zh0_34:=fun o=>((c34.fe w31.heap.size) o).trans (zh0_33 o)
 have d34:Chg [] w w34:=d33.trans0 c34
 go_wp2_with fail
 refine(heldSlotS_any sl _ _ _ _ (by omega) (by omega) Hg0_34.rd (by omega)).mono ?_;rintro e w35 ⟨rfl,c35⟩
 have b35:=c35.size
 have rs_35:=rs_34.c0 c35
 have rm_35:=rm_34.c0 c35
 have ri_35:=ri_34.c0 c35
 have Hw0_35:=Has.keep0 Hw0_34 (c35)
 have Hg0_35:=Has.keep0 Hg0_34 (c35)
 have Hh0_35:=Has.keep0 Hh0_34 (c35)
 have tbw0_35:w6.heap.size<w35.heap.size:=by omega
 have yw0_35:=fun o=>((c35.ce w6.heap.size) o).trans (yw0_34 o)
 have zw0_35:=fun o=>((c35.fe w6.heap.size) o).trans (zw0_34 o)
 have tbg0_35:w11.heap.size<w35.heap.size:=by omega
 have yg0_35:=fun o=>((c35.ce w11.heap.size) o).trans (yg0_34 o)
 have zg0_35:=fun o=>((c35.fe w11.heap.size) o).trans (zg0_34 o)
 have tbh0_35:w31.heap.size<w35.heap.size:=by omega
 have yh0_35:=fun o=>((c35.ce w31.heap.size) o).trans (yh0_34 o)
 have zh0_35:=fun o=>((c35.fe w31.heap.size) o).trans (zh0_34 o)
 have d35:Chg [] w w35:=d34.trans0 c35
 go_wp2_with fail
 go_ret
 exact⟨rfl,d35⟩
end Go.Proofs.YtjigcplpkhpgnaaGreatDoor
