/- FnPlanText: the walk of the law. Conditions: the library's variables, the words and the names of the abilities stand. Written by a program. -/
import Derived.Test.YtkgffhlpcjjobaaGreatDoorDrawP
import Derived.Test.YtkgffhlpcjjobaaGreatDoorReadsP
import Derived.Test.YtkgffhlpcjjobaaGreatDoorBig
import Derived.Test.YtkgffhlpcjjobaaGreatDoorCurs
namespace Go.Proofs.YtkgffhlpcjjobaaGreatDoor
open Go.RowKit

theorem BytesAt.keep {w w' : World} {A : Option Addr} {n : Nat} (h : BytesAt w w.heap.size A n) (hc : Chg [] w w') : BytesAt w' w'.heap.size A n := fun j hj => by
  obtain ⟨b, off, z, e, hb, hz, h1⟩ := h j hj
  exact ⟨b, off, z, e, Nat.lt_of_lt_of_le hb hc.size, (hc.cell (p := ⟨b, off + j, none⟩) hb (by simp)).trans hz, h1⟩
theorem planT_nil0 : planT [] = nothingT := by unfold planT; rw [if_pos planOk_nil]; exact if_pos rfl
theorem parse_W {s : ByteArray} {l : List ActionT} (h : parseT s = some l) : actionsW l ≤ 2000 := by
  obtain ⟨h1, h2, h3⟩ := parseT_is h
  by_cases hn : s = nothingT
  · obtain rfl : l = [] := planT_inj h2 planOk_nil (by rw [h3, hn, planT_nil0])
    decide
  · have h4 := pLst_W 601 _ _ _ (parse_hit hn h2 h3)
    have h5 : s.data.toList.length = s.size := by rw [size_list]
    simp only [List.length_nil] at h4
    omega
theorem parse_empty : parseT ⟨#[]⟩ = none := parseT_none (fun _ l h2 h3 => by have h := planT_some h2; rw [h3] at h; exact h rfl)
set_option maxRecDepth 100000 in
set_option maxHeartbeats 16000000 in
theorem planText_law (A : Option Addr) (n cap : Nat) (w : World) (hE : EnvT w) (hb : BytesAt w w.heap.size A n) :
    Calls Tryz.prog 3 #[.slice A n cap] w fun e w' => e = .returned (.bool true) ∧ Chg [] w w' := by
  have HE := Lib.hid hE
  by_cases hn : n ≤ 4096
  case neg =>
    have BG := Lib.hid (big_yes A n cap w hn)
    clear hb hn hE
    go_enter Tryz.func3, Tryz.ntmps3
    go_wp2_with fail
    refine BG.out.mono ?_
    rintro e w1 ⟨rfl, rfl⟩
    go_wp2_with fail
    go_ret
    exact ⟨rfl, Chg.refl _ _⟩
  case pos =>
    have BG := Lib.hid (big_no A n cap w hn)
    have DF := Lib.hid (drawFormatPlan_any A n cap w hn hb)
    have DP := Lib.hid (fun W (hc : Chg [] w W) => drawParsePlan_any A n cap W hn (hb.keep hc))
    have PP := Lib.hid (fun s W (hc : Chg [] w W) => parsePlan_impl_any s W (HE.out.keep hc))
    clear hb hn hE
    go_enter Tryz.func3, Tryz.ntmps3
    go_wp2_with fail
    refine BG.out.mono ?_
    rintro e w0 ⟨rfl, hw0⟩
    subst hw0
    go_wp2_with fail
    refine DF.out.mono ?_
    rintro e w1 ⟨l, A1, c1, rfl, N1, hW⟩
    have d1 := Lib.hid N1.chg
    have rd1 := Lib.hid N1.rd
    have FP := Lib.hid (formatPlan_impl_any (HE.out.keep d1.out) l _ _ (Nat.le_trans hW (by decide)) rd1.out (Nat.le_refl _))
    obtain ⟨s, hs⟩ : ∃ s, s = planT l := ⟨_, rfl⟩
    rw [← hs] at FP
    have HS := Lib.hid hs
    clear N1 BG DF hs
    go_wp2_with fail
    refine FP.out.mono ?_
    rintro e w2 ⟨rfl, k2⟩
    have K2 := Lib.hid k2
    clear k2 FP
    go_wp2_with fail
    refine (PP.out s _ (d1.out.trans0 K2.out)).mono ?_
    rintro e w3 ⟨l2, A2, c2, b, rfl, N2, hy, hnn⟩
    have N2 := Lib.hid N2
    have K3 := Lib.hid (K2.out.trans0 N2.out.chg)
    clear K2
    by_cases hp : PlanOk l
    case neg =>
      have II := Lib.hid (fun W (hc : Chg [] w1 W) => (isPlan_impl_any l _ _ W ((HE.out.keep d1.out).keep hc).1 (Nat.le_trans hW (by decide)) (rd1.out.chg0 hc (Nat.le_refl _)) hc.size).mono (BoolPost.neg hp))
      have IR := Lib.hid (fun W (hc : Chg [] w1 W) => (isPlan_spec_law l _ _ W (Nat.le_trans hW (by decide)) (rd1.out.chg0 hc (Nat.le_refl _)) hc.size).mono (BoolPost.neg hp))
      obtain rfl : s = ⟨#[]⟩ := HS.out.trans (planT_no hp)
      obtain rfl : b = false := by
        cases b
        · rfl
        · have := hy rfl; rw [parse_empty] at this; cases this
      clear hy hnn hp N2
      go_wp2_with fail
      refine (II.out _ K3.out).mono ?_
      rintro e w4 ⟨rfl, k4⟩
      have K4 := Lib.hid (K3.out.trans0 k4)
      clear k4 K3
      go_wp2_with fail
      refine (IR.out _ K4.out).mono ?_
      rintro e w5 ⟨rfl, k5⟩
      have K5 := Lib.hid (K4.out.trans0 k5)
      clear k5 K4
      go_wp2_with fail
      refine (II.out _ K5.out).mono ?_
      rintro e w6 ⟨rfl, k6⟩
      have K6 := Lib.hid (K5.out.trans0 k6)
      clear k6 K5
      go_wp2_with fail
      refine (II.out _ K6.out).mono ?_
      rintro e w7 ⟨rfl, k7⟩
      have DX := Lib.hid (d1.out.trans0 (K6.out.trans0 k7))
      clear k7 K6 II IR rd1 HS
      go_wp2_with fail
      refine (DP.out _ DX.out).mono ?_
      rintro e wa ⟨t, rfl, ca⟩
      have DA := Lib.hid (DX.out.trans0 ca)
      clear ca DX
      go_wp2_with fail
      refine (PP.out t _ DA.out).mono ?_
      rintro e wb ⟨l3, A3, c3, b3, rfl, N3, hy3, hn3⟩
      have N3 := Lib.hid N3
      have DB := Lib.hid (DA.out.trans0 N3.out.chg)
      clear DA hn3
      cases b3
      case false =>
        clear hy3
        go_wp2_with fail
        go_ret
        exact ⟨rfl, Chg.to DB.out⟩
      case true =>
        have hp3 := Lib.hid (parseT_is (hy3 rfl))
        have hW3 := parse_W (hy3 rfl)
        have FP3 := Lib.hid (formatPlan_impl_any (HE.out.keep DB.out) l3 _ _ (Nat.le_trans hW3 (by decide)) N3.out.rd (Nat.le_refl _))
        rw [hp3.out.2.2] at FP3
        have IP3 := Lib.hid (fun W (hc : Chg [] wb W) => (isPlan_impl_any l3 _ _ W ((HE.out.keep DB.out).keep hc).1 (Nat.le_trans hW3 (by decide)) (N3.out.rd.chg0 hc (Nat.le_refl _)) hc.size).mono (BoolPost.pos hp3.out.2.1))
        clear hy3
        go_wp2_with fail
        refine FP3.out.mono ?_
        rintro e wc ⟨rfl, cc⟩
        have CC := Lib.hid cc
        clear cc
        go_wp2_with fail
        refine (IP3.out _ CC.out).mono ?_
        rintro e wd ⟨rfl, cd⟩
        have DD := Lib.hid ((DB.out.trans0 CC.out).trans0 cd)
        clear cd
        go_wp2_with fail
        go_ret
        exact ⟨rfl, Chg.to DD.out⟩
    case pos =>
      have II := Lib.hid (fun W (hc : Chg [] w1 W) => (isPlan_impl_any l _ _ W ((HE.out.keep d1.out).keep hc).1 (Nat.le_trans hW (by decide)) (rd1.out.chg0 hc (Nat.le_refl _)) hc.size).mono (BoolPost.pos hp))
      have IR := Lib.hid (fun W (hc : Chg [] w1 W) => (isPlan_spec_law l _ _ W (Nat.le_trans hW (by decide)) (rd1.out.chg0 hc (Nat.le_refl _)) hc.size).mono (BoolPost.pos hp))
      have hs0 : s.size ≠ 0 := by rw [HS.out]; exact planT_some hp
      have hs1 : ¬ s.toList = [] := fun h => hs0 (nil_size.1 h)
      have hs3 : (s.toList == []) = false := by rw [beq_eq_false_iff_ne]; exact hs1
      by_cases h6 : s.size ≤ 600
      case pos =>
        have hps := parseT_some h6 hp HS.out.symm
        obtain ⟨rfl, rfl⟩ : l2 = l ∧ b = true := by
          cases b
          · have := (hnn rfl).1; rw [hps] at this; cases this
          · have := hy rfl; rw [hps] at this; exact ⟨(Option.some.inj this).symm, rfl⟩
        have h6i : (s.size : Int) ≤ 600 := by omega
        have F2 := Lib.hid (fun W (hc : Chg [] w3 W) => formatPlan_impl_any ((HE.out.keep d1.out).keep (K3.out.trans0 hc)) l2 _ _ (Nat.le_trans hW (by decide)) (N2.out.rd.chg0 hc (Nat.le_refl _)) hc.size)
        rw [← HS.out] at F2
        clear hy hnn hp hps
        go_wp2_with fail
        refine (II.out _ K3.out).mono ?_
        rintro e w4 ⟨rfl, k4⟩
        have J4 := Lib.hid k4
        clear k4
        go_wp2_with fail
        refine (IR.out _ (K3.out.trans0 J4.out)).mono ?_
        rintro e w5 ⟨rfl, k5⟩
        have J5 := Lib.hid (J4.out.trans0 k5)
        clear k5 J4
        go_wp2_with fail
        refine (II.out _ (K3.out.trans0 J5.out)).mono ?_
        rintro e w6 ⟨rfl, k6⟩
        have J6 := Lib.hid (J5.out.trans0 k6)
        clear k6 J5
        go_wp2_with fail
        refine (II.out _ (K3.out.trans0 J6.out)).mono ?_
        rintro e w7 ⟨rfl, k7⟩
        have J7 := Lib.hid (J6.out.trans0 k7)
        clear k7 J6
        go_wp2_with fail
        refine (F2.out _ J7.out).mono ?_
        rintro e w8 ⟨rfl, k8⟩
        have DX := Lib.hid (d1.out.trans0 ((K3.out.trans0 J7.out).trans0 k8))
        clear k8 J7 II IR rd1 HS F2 K3 N2
        go_wp2_with fail
        refine (DP.out _ DX.out).mono ?_
        rintro e wa ⟨t, rfl, ca⟩
        have DA := Lib.hid (DX.out.trans0 ca)
        clear ca DX
        go_wp2_with fail
        refine (PP.out t _ DA.out).mono ?_
        rintro e wb ⟨l3, A3, c3, b3, rfl, N3, hy3, hn3⟩
        have N3 := Lib.hid N3
        have DB := Lib.hid (DA.out.trans0 N3.out.chg)
        clear DA hn3
        cases b3
        case false =>
          clear hy3
          go_wp2_with fail
          go_ret
          exact ⟨rfl, Chg.to DB.out⟩
        case true =>
          have hp3 := Lib.hid (parseT_is (hy3 rfl))
          have hW3 := parse_W (hy3 rfl)
          have FP3 := Lib.hid (formatPlan_impl_any (HE.out.keep DB.out) l3 _ _ (Nat.le_trans hW3 (by decide)) N3.out.rd (Nat.le_refl _))
          rw [hp3.out.2.2] at FP3
          have IP3 := Lib.hid (fun W (hc : Chg [] wb W) => (isPlan_impl_any l3 _ _ W ((HE.out.keep DB.out).keep hc).1 (Nat.le_trans hW3 (by decide)) (N3.out.rd.chg0 hc (Nat.le_refl _)) hc.size).mono (BoolPost.pos hp3.out.2.1))
          clear hy3
          go_wp2_with fail
          refine FP3.out.mono ?_
          rintro e wc ⟨rfl, cc⟩
          have CC := Lib.hid cc
          clear cc
          go_wp2_with fail
          refine (IP3.out _ CC.out).mono ?_
          rintro e wd ⟨rfl, cd⟩
          have DD := Lib.hid ((DB.out.trans0 CC.out).trans0 cd)
          clear cd
          go_wp2_with fail
          go_ret
          exact ⟨rfl, Chg.to DD.out⟩
      case neg =>
        obtain rfl : b = false := by
          cases b
          · rfl
          · exact absurd (parseT_is (hy rfl)).1 h6
        have h6i : ¬ (s.size : Int) ≤ 600 := by omega
        clear hy hnn hp N2
        go_wp2_with fail
        refine (II.out _ K3.out).mono ?_
        rintro e w4 ⟨rfl, k4⟩
        have J4 := Lib.hid k4
        clear k4
        go_wp2_with fail
        refine (IR.out _ (K3.out.trans0 J4.out)).mono ?_
        rintro e w5 ⟨rfl, k5⟩
        have J5 := Lib.hid (J4.out.trans0 k5)
        clear k5 J4
        go_wp2_with fail
        refine (II.out _ (K3.out.trans0 J5.out)).mono ?_
        rintro e w6 ⟨rfl, k6⟩
        have J6 := Lib.hid (J5.out.trans0 k6)
        clear k6 J5
        go_wp2_with fail
        refine (II.out _ (K3.out.trans0 J6.out)).mono ?_
        rintro e w7 ⟨rfl, k7⟩
        have DX := Lib.hid (d1.out.trans0 ((K3.out.trans0 J6.out).trans0 k7))
        clear k7 J6 II IR rd1 HS K3
        go_wp2_with fail
        refine (DP.out _ DX.out).mono ?_
        rintro e wa ⟨t, rfl, ca⟩
        have DA := Lib.hid (DX.out.trans0 ca)
        clear ca DX
        go_wp2_with fail
        refine (PP.out t _ DA.out).mono ?_
        rintro e wb ⟨l3, A3, c3, b3, rfl, N3, hy3, hn3⟩
        have N3 := Lib.hid N3
        have DB := Lib.hid (DA.out.trans0 N3.out.chg)
        clear DA hn3
        cases b3
        case false =>
          clear hy3
          go_wp2_with fail
          go_ret
          exact ⟨rfl, Chg.to DB.out⟩
        case true =>
          have hp3 := Lib.hid (parseT_is (hy3 rfl))
          have hW3 := parse_W (hy3 rfl)
          have FP3 := Lib.hid (formatPlan_impl_any (HE.out.keep DB.out) l3 _ _ (Nat.le_trans hW3 (by decide)) N3.out.rd (Nat.le_refl _))
          rw [hp3.out.2.2] at FP3
          have IP3 := Lib.hid (fun W (hc : Chg [] wb W) => (isPlan_impl_any l3 _ _ W ((HE.out.keep DB.out).keep hc).1 (Nat.le_trans hW3 (by decide)) (N3.out.rd.chg0 hc (Nat.le_refl _)) hc.size).mono (BoolPost.pos hp3.out.2.1))
          clear hy3
          go_wp2_with fail
          refine FP3.out.mono ?_
          rintro e wc ⟨rfl, cc⟩
          have CC := Lib.hid cc
          clear cc
          go_wp2_with fail
          refine (IP3.out _ CC.out).mono ?_
          rintro e wd ⟨rfl, cd⟩
          have DD := Lib.hid ((DB.out.trans0 CC.out).trans0 cd)
          clear cd
          go_wp2_with fail
          go_ret
          exact ⟨rfl, Chg.to DD.out⟩
end Go.Proofs.YtkgffhlpcjjobaaGreatDoor
