/- FnPlaces: the walk of the law. Conditions: none. Written by a program. -/
import Derived.Test.YtkgffhlpcjjobaaDrawAt
import Derived.Test.YtkgffhlpcjjobaaCopies
import Derived.Test.YtkgffhlpcjjobaaIsActs
namespace Go.Proofs.Ytkgffhlpcjjobaa
open Go.RowKit

theorem atL_W : ∀ (n : Nat) (l : List ActionT), sizeL l ≤ n → ∀ i x, atL l i = some x → actionW x ≤ actionsW l := by
  have hc : ∀ (a : ActionT) (l : List ActionT), actionsW (a :: l) = actionW a + 1 + actionsW l := fun a l => by
    unfold actionsW actionsW1
    simp
    omega
  intro n
  induction n with
  | zero =>
    intro l h i x hx
    cases l with
    | nil => rw [atL] at hx; cases hx
    | cons a l => rw [sizeL] at h; have := a.size_eq; omega
  | succ n ih =>
    intro l
    induction l with
    | nil => intro _ i x hx; rw [atL] at hx; cases hx
    | cons a l ihl =>
      intro h i x hx
      rw [sizeL] at h
      have e1 := a.size_eq
      have e2 := actionW_eq a
      rw [hc]
      rw [atL] at hx
      split at hx
      · rw [ActionT.at_eq] at hx
        split at hx
        · cases hx; omega
        · split at hx
          · have := ih a.A (by omega) _ _ hx; omega
          · have := ih a.B (by omega) _ _ hx; omega
      · have := ihl (by omega) _ _ hx; omega
theorem atI_W {l : List ActionT} {p : Int} {a : ActionT} (h : atI l p = some a) : actionsW a.A ≤ actionsW l ∧ actionsW a.B ≤ actionsW l := by
  unfold atI at h
  split at h
  · cases h
  · have := atL_W _ l (Nat.le_refl _) _ _ h
    have e := actionW_eq a
    omega
theorem AtIs.of_some {o : Option ActionT} {a x : ActionT} {b : Bool} (h : AtIs o a b) (e : o = some x) : a = x ∧ b = true := by subst e; exact h
theorem AtIs.of_none {o : Option ActionT} {a : ActionT} {b : Bool} (h : AtIs o a b) (e : o = none) : b = false := by subst e; exact h.2
theorem neq_call_eq (c : CallT) (W : World) : (binOp .neq 28 (.agg #[.string c.method, .string c.key, .int .i64 c.value, .string c.text]) (.agg #[.string c.method, .string c.key, .int .i64 c.value, .string c.text])).run Try.prog W = .ok (.bool false) W := by
  have h : ∀ n : Nat, (Op.equalIn (n + 2) 28 (.agg #[.string c.method, .string c.key, .int .i64 c.value, .string c.text]) (.agg #[.string c.method, .string c.key, .int .i64 c.value, .string c.text])).run Try.prog W = .ok true W := fun n => by
    rw [run_equalIn_struct W (n + 1) 28 _ _ (by simp only [Program.fieldsOf, Try.underlying28]) (by kernel_rfl)]
    simp [go_sem, Program.fieldsOf, Try.underlying28]
  simp only [binOp]
  simp [Op.equal, Op.maxDepth, h 9998]
/-- Two boxes with the same action. -/
structure Two (w2 : World) (b c : Nat) (z : World) (q : ActionT) (X9 : Option Addr) (y9 : Nat) (X10 : Option Addr) (y10 : Nat) (Y9 : Option Addr) (z9 : Nat) (Y10 : Option Addr) (z10 : Nat) : Prop where
  chg : Chg [] w2 z
  bx : Box z b [.int .i64 q.op, .int .i64 q.slot, .int .i64 q.other, .string q.word, .string q.call.method, .string q.call.key, .int .i64 q.call.value, .string q.call.text, .int .i64 q.face, .slice X9 q.A.length y9, .slice X10 q.B.length y10]
  cx : Box z c [.int .i64 q.op, .int .i64 q.slot, .int .i64 q.other, .string q.word, .string q.call.method, .string q.call.key, .int .i64 q.call.value, .string q.call.text, .int .i64 q.face, .slice Y9 q.A.length z9, .slice Y10 q.B.length z10]
  rx : Rd z z.heap.size (actions q.A) (.slice X9 q.A.length y9)
  ry : Rd z z.heap.size (actions q.A) (.slice Y9 q.A.length z9)
  wt : actionsW q.A ≤ 250000
theorem low2 {S : List Nat} {b c : Nat} (h : ∀ x, x ∈ S → c ≤ x) (hb : b < c) : ∀ x, x ∈ S → x ∉ [b] := fun x hx hy => by have := h x hx; simp at hy; omega
theorem trans_box {b : Nat} {w x x' : World} (h : Chg [] w x) (hc : Chg [b] x x') (hb : w.heap.size ≤ b) : Chg [] w x' := h.trans hc (fun y hy => .inr (by simp at hy; omega))
set_option maxRecDepth 100000 in
theorem big_no (A : Option Addr) (n cap : Nat) (w : World) (h : n ≤ 4096) : Calls Try.prog 4 #[.slice A n cap] w fun e w' => e = .returned (.bool false) ∧ w' = w := by
  have h2 : ¬ (4096 : Int) < (n : Int) := by omega
  go_enter Try.func4, Try.ntmps4
  go_wp2_with fail
  go_ret
  exact ⟨rfl, rfl⟩
set_option maxRecDepth 100000 in
theorem big_yes (A : Option Addr) (n cap : Nat) (w : World) (h : ¬ n ≤ 4096) : Calls Try.prog 4 #[.slice A n cap] w fun e w' => e = .returned (.bool true) ∧ w' = w := by
  have h2 : (4096 : Int) < (n : Int) := by omega
  go_enter Try.func4, Try.ntmps4
  go_wp2_with fail
  go_ret
  exact ⟨rfl, rfl⟩
set_option maxRecDepth 100000 in
set_option maxHeartbeats 16000000 in
theorem places_law (A : Option Addr) (n cap : Nat) (w : World) (hb : BytesAt w w.heap.size A n) :
    Calls Try.prog 3 #[.slice A n cap] w fun e w' => e = .returned (.bool true) ∧ Chg [] w w' := by
  by_cases hn : n ≤ 4096
  case neg =>
    have BG := Lib.hid (big_yes A n cap w hn)
    clear hb hn
    go_enter Try.func3, Try.ntmps3
    go_wp2_with fail
    refine BG.out.mono ?_
    rintro e w1 ⟨rfl, rfl⟩
    go_wp2_with fail
    go_ret
    exact ⟨rfl, Chg.refl _ _⟩
  case pos =>
    have BG := Lib.hid (big_no A n cap w hn)
    have DA := Lib.hid (drawActionAt_any A n cap w hn hb)
    clear hb hn
    go_enter Try.func3, Try.ntmps3
    go_wp2_with fail
    refine BG.out.mono ?_
    rintro e w0 ⟨rfl, hw0⟩
    subst hw0
    go_wp2_with fail
    refine DA.out.mono ?_
    rintro e w1 ⟨l, A1, c1, p, rfl, N1, hW, p0, p1⟩
    have hsz := sizeL_W l
    have hdz := depthL_size l
    have rd1 := N1.rd
    have d1 := Lib.hid N1.chg
    have AT := Lib.hid (fun q W (hc : Chg [] w1 W) (h0 : -9223372036854775808 ≤ q) (h1 : q ≤ 9223372036854775807) => actionAt_impl_any l _ q _ W (Nat.le_trans hW (by decide)) h0 h1 (rd1.chg0 hc (Nat.le_refl _)) hc.size)
    have PI := Lib.hid (fun W (hc : Chg [] w1 W) => planSize_impl_law l _ _ W (Nat.le_trans hW (by decide)) (rd1.chg0 hc (Nat.le_refl _)) hc.size)
    have PR := Lib.hid (fun W (hc : Chg [] w1 W) => planSize_spec_law l _ _ W (Nat.le_trans hW (by decide)) (rd1.chg0 hc (Nat.le_refl _)) hc.size)
    have PD := Lib.hid (fun W (hc : Chg [] w1 W) => planDepth_impl_law l _ _ W (Nat.le_trans hW (by decide)) (rd1.chg0 hc (Nat.le_refl _)) hc.size)
    clear rd1 N1 DA BG
    go_wp2_with fail
    refine (AT.out p w1 (Chg.refl _ _) p0 p1).mono ?_
    rintro e w2 ⟨a, b, A9, c9, A10, c10, hat, rfl, N2⟩
    have HAT := Lib.hid hat
    have e2 := N2.chg
    have HN2 := Lib.hid N2
    clear hat N2
    go_wp2_with fail
    refine calls_name fun x2 hx2 => ?_
    have B2 := Lib.hid (show Box x2 w2.heap.size [.int .i64 a.op, .int .i64 a.slot, .int .i64 a.other, .string a.word, .string a.call.method, .string a.call.key, .int .i64 a.call.value, .string a.call.text, .int .i64 a.face, .slice A9 a.A.length c9, .slice A10 a.B.length c10] by rw [hx2]; exact Box.new _ _ _)
    have f2 : Chg [] w2 x2 := by rw [hx2]; exact Chg.now
    clear hx2
    refine (PI.out x2 (e2.trans0 f2)).mono ?_
    rintro e w3 ⟨rfl, c3⟩
    have f3 := f2.trans0 c3
    have B3 := Lib.hid (B2.out.keep c3)
    clear B2 c3 f2
    go_wp2_with fail
    refine (PR.out _ (e2.trans0 f3)).mono ?_
    rintro e w4 ⟨rfl, c4⟩
    have f4 := f3.trans0 c4
    have B4 := Lib.hid (B3.out.keep c4)
    clear B3 c4 f3 PR
    by_cases hp0 : 0 ≤ p
    case neg =>
      obtain rfl : b = false := HAT.out.of_none (atI_none l p (.inl (by omega)))
      clear HAT
      have F4 := Lib.hid (d1.out.trans0 (e2.trans0 f4))
      clear e2 f4
      go_wp2_with fail
      go_ret
      exact ⟨rfl, Chg.to F4.out⟩
    case pos =>
      by_cases hp1 : p < (sizeL l : Int)
      case neg =>
        obtain rfl : b = false := HAT.out.of_none (atI_none l p (.inr (by omega)))
        clear HAT
        go_wp2_with fail
        refine (PI.out _ (e2.trans0 f4)).mono ?_
        rintro e w5 ⟨rfl, c5⟩
        have F5 := Lib.hid (d1.out.trans0 ((e2.trans0 f4).trans0 c5))
        clear e2 f4 c5
        go_wp2_with fail
        go_ret
        exact ⟨rfl, Chg.to F5.out⟩
      case pos =>
        have hsome : atI l p = some a := by
          cases h : atI l p with
          | none => have := (atI_iff l p).2 ⟨hp0, hp1⟩; rw [h] at this; cases this
          | some x => have := HAT.out.of_some h; rw [this.1]
        obtain ⟨_, rfl⟩ := HAT.out.of_some hsome
        have hsub := Lib.hid (fun i hi => atI_some_of hsome i hi)
        have hdep := depthL_pos hsome
        obtain ⟨hWA, hWB⟩ := atI_W hsome
        have hz1 := AtIs.size HAT.out
        obtain ⟨S9, S10, r9, r10, _, _, _⟩ := HN2.out.halves
        have rA := r9.rd
        have rB := r10.rd
        have PA := Lib.hid (fun W (hc : Chg [] w2 W) => planSize_impl_law a.A _ _ W (by omega) (rA.chg0 hc (Nat.le_refl _)) hc.size)
        have PB := Lib.hid (fun W (hc : Chg [] w2 W) => planSize_impl_law a.B _ _ W (by omega) (rB.chg0 hc (Nat.le_refl _)) hc.size)
        have AA := Lib.hid (fun q W (hc : Chg [] w2 W) (h0 : -9223372036854775808 ≤ q) (h1 : q ≤ 9223372036854775807) => actionAt_impl_any a.A _ q _ W (by omega) h0 h1 (rA.chg0 hc (Nat.le_refl _)) hc.size)
        have AB := Lib.hid (fun q W (hc : Chg [] w2 W) (h0 : -9223372036854775808 ≤ q) (h1 : q ≤ 9223372036854775807) => actionAt_impl_any a.B _ q _ W (by omega) h0 h1 (rB.chg0 hc (Nat.le_refl _)) hc.size)
        obtain ⟨SA, hSA⟩ : ∃ x, x = sizeL a.A := ⟨_, rfl⟩
        obtain ⟨SB, hSB⟩ : ∃ x, x = sizeL a.B := ⟨_, rfl⟩
        rw [← hSA] at PA hz1 hsub
        rw [← hSB] at PB hz1 hsub
        have wAB : IntKind.i64.wrap ((SA : Int) + (SB : Int)) = (SA : Int) + (SB : Int) := wr_id (by omega) (by omega)
        have HSA := Lib.hid hSA
        clear hSA hSB
        clear rA rB r9 r10 HN2 HAT hsome hWA hWB
        go_wp2_with fail
        refine (PI.out _ (e2.trans0 f4)).mono ?_
        rintro e w5 ⟨rfl, c5⟩
        have f5 := f4.trans0 c5
        have B5 := Lib.hid (B4.out.keep c5)
        clear B4 c5 f4
        have E2 := Lib.hid e2
        have F5 := Lib.hid f5
        have u5 := B5.out.lt
        clear e2 f5
        obtain ⟨b0, b1, b2, b3, b4, b5, b6, b7, b8, b9, b10⟩ := B5.out.o11
        go_wp2_with fail
        refine (PA.out _ F5.out).mono ?_
        rintro e w6 ⟨rfl, c6⟩
        clear b0 b1 b2 b3 b4 b5 b6 b7 b8 b9 b10
        have F6 := Lib.hid (F5.out.trans0 c6)
        have B6 := Lib.hid (B5.out.keep c6)
        clear B5 c6 F5 u5
        go_wp2_with fail
        go_loopw [8] (fun i wr => ∃ j : Nat, i = .int .i64 (j : Int) ∧ j ≤ SA + SB ∧ Hid (Chg [] w2 wr) ∧ Hid (Box wr w2.heap.size [.int .i64 a.op, .int .i64 a.slot, .int .i64 a.other, .string a.word, .string a.call.method, .string a.call.key, .int .i64 a.call.value, .string a.call.text, .int .i64 a.face, .slice A9 a.A.length c9, .slice A10 a.B.length c10])) (fun i _ => SA + SB - (intOf i).toNat)
        case atStart => exact ⟨0, rfl, Nat.zero_le _, F6, B6⟩
        case round =>
          obtain ⟨j, rfl, hj, FR, BR⟩ := hrel
          have u5 := BR.out.lt
          obtain ⟨b0, b1, b2, b3, b4, b5, b6, b7, b8, b9, b10⟩ := BR.out.o11
          go_wp2_with fail
          refine (PB.out _ FR.out).mono ?_
          rintro e w7 ⟨rfl, c7⟩
          clear b0 b1 b2 b3 b4 b5 b6 b7 b8 b9 b10 u5
          have F7 := Lib.hid (FR.out.trans0 c7)
          have B7 := Lib.hid (BR.out.keep c7)
          clear c7 FR BR
          by_cases hlt : j < SA + SB
          case neg =>
            have hlt2 : ¬ (j : Int) < (SA : Int) + (SB : Int) := by omega
            have G7 := Lib.hid (E2.out.trans0 F7.out)
            go_wp2_with fail
            refine (PD.out _ G7.out).mono ?_
            rintro e w8 ⟨rfl, c8⟩
            have G8 := Lib.hid (G7.out.trans0 c8)
            have hd1 : (1 : Int) ≤ (depthL l : Int) := by omega
            have hd2 : (depthL l : Int) ≤ (sizeL l : Int) := by omega
            clear c8 G7
            go_wp2_with fail
            refine (PD.out _ G8.out).mono ?_
            rintro e w9 ⟨rfl, c9⟩
            have G9 := Lib.hid (G8.out.trans0 c9)
            clear c9 G8
            go_wp2_with fail
            refine (PI.out _ G9.out).mono ?_
            rintro e wA ⟨rfl, cA⟩
            have GA := Lib.hid (d1.out.trans0 (G9.out.trans0 cA))
            clear cA G9
            go_wp2_with fail
            go_ret
            exact ⟨rfl, Chg.to GA.out⟩
          case pos =>
            have hlt2 : (j : Int) < (SA : Int) + (SB : Int) := by omega
            have wp1 : IntKind.i64.wrap (p + 1) = p + 1 := wr_id (by omega) (by omega)
            have wp2 : IntKind.i64.wrap (p + 1 + (j : Int)) = p + 1 + (j : Int) := wr_id (by omega) (by omega)
            have wj1 : IntKind.i64.wrap ((j : Int) + 1) = ((j + 1 : Nat) : Int) := by rw [wr_id (by omega) (by omega)]; omega
            obtain ⟨x, hx1, hx2⟩ := hsub.out j hlt
            have HX2 := Lib.hid hx2
            clear hx2
            go_wp2_with fail
            refine (AT.out (p + 1 + (j : Int)) _ (E2.out.trans0 F7.out) (by omega) (by omega)).mono ?_
            rintro e w8 ⟨x', bx, X9, y9, X10, y10, hatx, rfl, N8⟩
            obtain ⟨rfl, rfl⟩ := hatx.of_some hx1
            obtain ⟨_, _, r9, _, _, _, _⟩ := N8.halves
            have rX := Lib.hid r9.rd
            have c8 := N8.chg
            have F8 := Lib.hid (F7.out.trans0 c8)
            have B8 := Lib.hid (B7.out.keep c8)
            have u8 := B8.out.lt
            have wX := Lib.hid (atI_W hx1).1
            have zX := AtIs.size (l := l) (p := p + 1 + (j : Int)) (b := true) hatx
            clear c8 F7 B7 hatx r9 N8 hx1
            obtain ⟨b0, b1, b2, b3, b4, b5, b6, b7, b8, b9, b10⟩ := B8.out.o11
            go_wp2_with fail
            refine calls_name fun x8 hx8 => ?_
            clear b0 b1 b2 b3 b4 b5 b6 b7 b8 b9 b10
            have k8 : Chg [] w8 x8 := by rw [hx8]; exact Chg.now
            have BX := Lib.hid (show Box x8 w8.heap.size [.int .i64 x'.op, .int .i64 x'.slot, .int .i64 x'.other, .string x'.word, .string x'.call.method, .string x'.call.key, .int .i64 x'.call.value, .string x'.call.text, .int .i64 x'.face, .slice X9 x'.A.length y9, .slice X10 x'.B.length y10] by rw [hx8]; exact Box.new _ _ _)
            have F9 := Lib.hid (F8.out.trans0 k8)
            have B9 := Lib.hid (B8.out.keep k8)
            have R9 := Lib.hid (rX.out.chg0 k8 (Nat.le_refl _))
            have m9 := k8.size
            have F9s := F9.out.size
            have u8s := B9.out.lt
            clear hx8 k8 F8 B8 rX
            refine (AA.out (j : Int) _ F9.out (by omega) (by omega)).mono ?_
            rintro e wA ⟨y, by_, Y9, z9, Y10, z10, haty, rfl, NA⟩
            obtain ⟨_, _, rY9, _, _, _, _⟩ := NA.halves
            have RY := Lib.hid rY9.rd
            have cA := NA.chg
            have FA := Lib.hid (F9.out.trans0 cA)
            have BA := Lib.hid (B9.out.keep cA)
            have BXA := Lib.hid (BX.out.keep cA)
            have RA := Lib.hid (R9.out.chg0 cA m9)
            have mA : w8.heap.size < wA.heap.size := BXA.out.lt
            have HATY := Lib.hid haty
            have mB := Nat.le_trans m9 cA.size
            clear rY9 cA F9 B9 BX R9 NA haty m9
            by_cases hjA : j < SA
            case' pos =>
              have hjA2 : ¬ (SA : Int) ≤ (j : Int) := by omega
              obtain ⟨rfl, rfl⟩ : y = x' ∧ by_ = true := by
                have h := HX2.out
                rw [if_pos hjA] at h
                exact HATY.out.of_some h
              go_upto_region 19 with fail
              refine wp_called ?_
              intro z hz
              have kz : Chg [] wA z := by rw [hz]; exact Chg.now
              have K : ∃ q X9 y9 X10 y10 Y9 z9 Y10 z10, Two w2 w8.heap.size wA.heap.size z q X9 y9 X10 y10 Y9 z9 Y10 z10 := ⟨_, _, _, _, _, _, _, _, _, FA.out.trans0 kz, BXA.out.keep kz, by rw [hz]; exact Box.new _ _ _, (RA.out.chg0 kz mB).mono (Nat.le_trans mB kz.size), (RY.out.chg0 kz (Nat.le_refl _)).mono kz.size, Nat.le_trans wX.out hW⟩
              have BZ := Lib.hid (BA.out.keep kz)
              clear hz kz HATY
            case' neg =>
              have hjA2 : (SA : Int) ≤ (j : Int) := by omega
              have wjA : IntKind.i64.wrap ((j : Int) - (SA : Int)) = (j : Int) - (SA : Int) := wr_id (by omega) (by omega)
              have uA := BA.out.lt
              obtain ⟨b0, b1, b2, b3, b4, b5, b6, b7, b8, b9, b10⟩ := BA.out.o11
              go_wp2_with fail
              refine calls_name fun xA hxA => ?_
              clear b0 b1 b2 b3 b4 b5 b6 b7 b8 b9 b10
              have kA : Chg [] wA xA := by rw [hxA]; exact Chg.now
              have BYA := Lib.hid (show Box xA wA.heap.size [.int .i64 y.op, .int .i64 y.slot, .int .i64 y.other, .string y.word, .string y.call.method, .string y.call.key, .int .i64 y.call.value, .string y.call.text, .int .i64 y.face, .slice Y9 y.A.length z9, .slice Y10 y.B.length z10] by rw [hxA]; exact Box.new _ _ _)
              have FB := Lib.hid (FA.out.trans0 kA)
              have BB := Lib.hid (BA.out.keep kA)
              have BXB := Lib.hid (BXA.out.keep kA)
              have RB := Lib.hid (RA.out.chg0 kA mB)
              have mC := Nat.le_trans mB kA.size
              clear hxA kA uA FA BA BXA RA RY
              refine (AB.out ((j : Int) - (SA : Int)) _ FB.out (by omega) (by omega)).mono ?_
              rintro e wC ⟨y2, by2, Y29, z29, Y210, z210, haty2, rfl, NC⟩
              obtain ⟨rfl, rfl⟩ : y2 = x' ∧ by2 = true := by
                have h := HX2.out
                rw [if_neg hjA] at h
                exact haty2.of_some h
              obtain ⟨SY, _, rY9, _, _, lY9, _⟩ := NC.halves
              have kAA : wA.heap.size < xA.heap.size := BYA.out.lt
              have cC := NC.chg
              have BYC := Lib.hid (BYA.out.keep cC)
              have FC := Lib.hid (FB.out.trans0 cC)
              have BC := Lib.hid (BB.out.keep cC)
              have BXC := Lib.hid (BXB.out.keep cC)
              have RC := Lib.hid (RB.out.chg0 cC mC)
              have mD := Nat.le_trans mC cC.size
              have uC := BYC.out.lt
              clear cC NC haty2 FB BB BXB RB BYA
              obtain ⟨b0, b1, b2, b3, b4, b5, b6, b7, b8, b9, b10⟩ := BYC.out.o11
              have bf := BYC.out.f
              go_upto_region 19 with fail
              refine wp_called ?_
              intro z hz
              clear b0 b1 b2 b3 b4 b5 b6 b7 b8 b9 b10 bf
              have kz : Chg [wA.heap.size] wC z := by rw [hz]; exact Chg.now
              have K : ∃ q X9 y9 X10 y10 Y9 z9 Y10 z10, Two w2 w8.heap.size wA.heap.size z q X9 y9 X10 y10 Y9 z9 Y10 z10 := ⟨_, _, _, _, _, _, _, _, _, trans_box FC.out kz (by have := F9s; omega), BXC.out.keep kz (by simp; omega), by rw [hz]; exact BYC.out.all11, (RC.out.chg kz mD (by simp; omega)).mono (Nat.le_trans mD kz.size), (rY9.keep kz (low2 lY9 kAA)).rd, Nat.le_trans wX.out hW⟩
              have BZ := Lib.hid (BC.out.keep kz (by simp; omega))
              clear hz kz HATY
            all_goals
              obtain ⟨q, X9, y9, X10, y10, Y9, z9, Y10, z10, FZ, bx, cx, rx, ry, wt⟩ := K
              have HZ := Lib.hid FZ
              have PX := Lib.hid (fun W (hc : Chg [] z W) => planSize_impl_law q.A _ _ W (Nat.le_trans wt (by decide)) (rx.chg0 hc (Nat.le_refl _)) hc.size)
              have PY := Lib.hid (fun W (hc : Chg [] z W) => planSize_impl_law q.A _ _ W (Nat.le_trans wt (by decide)) (ry.chg0 hc (Nat.le_refl _)) hc.size)
              have hne := fun W => neq_call_eq q.call W
              obtain ⟨p0, p1, p2, p3, p4, p5, p6, p7, p8, p9, p10⟩ := bx.o11
              obtain ⟨r0, r1, r2, r3, r4, r5, r6, r7, r8, r9, r10⟩ := cx.o11
              have l1 := bx.lt
              have l2 := cx.lt
              clear FZ bx cx rx ry p2 p10 r2 r10
              go_region_held3 (fun w' => w'.cell? ⟨w8.heap.size, 0, none⟩ = some (.int .i64 q.op) ∧ w'.cell? ⟨w8.heap.size, 1, none⟩ = some (.int .i64 q.slot) ∧ w'.cell? ⟨w8.heap.size, 3, none⟩ = some (.string q.word) ∧ w'.cell? ⟨w8.heap.size, 4, none⟩ = some (.string q.call.method) ∧ w'.cell? ⟨w8.heap.size, 5, none⟩ = some (.string q.call.key) ∧ w'.cell? ⟨w8.heap.size, 6, none⟩ = some (.int .i64 q.call.value) ∧ w'.cell? ⟨w8.heap.size, 7, none⟩ = some (.string q.call.text) ∧ w'.cell? ⟨w8.heap.size, 8, none⟩ = some (.int .i64 q.face) ∧ w'.cell? ⟨w8.heap.size, 9, none⟩ = some (.slice X9 q.A.length y9) ∧ w'.cell? ⟨wA.heap.size, 0, none⟩ = some (.int .i64 q.op) ∧ w'.cell? ⟨wA.heap.size, 1, none⟩ = some (.int .i64 q.slot) ∧ w'.cell? ⟨wA.heap.size, 3, none⟩ = some (.string q.word) ∧ w'.cell? ⟨wA.heap.size, 4, none⟩ = some (.string q.call.method) ∧ w'.cell? ⟨wA.heap.size, 5, none⟩ = some (.string q.call.key) ∧ w'.cell? ⟨wA.heap.size, 6, none⟩ = some (.int .i64 q.call.value) ∧ w'.cell? ⟨wA.heap.size, 7, none⟩ = some (.string q.call.text) ∧ w'.cell? ⟨wA.heap.size, 8, none⟩ = some (.int .i64 q.face) ∧ w'.cell? ⟨wA.heap.size, 9, none⟩ = some (.slice Y9 q.A.length z9) ∧ Chg [] z w') (first | exact ⟨p0, p1, p3, p4, p5, p6, p7, p8, p9, r0, r1, r3, r4, r5, r6, r7, r8, r9, (Chg.refl [] z).drew⟩ | exact ⟨(y1 0).trans E1, (y1 1).trans E2, (y1 3).trans E3, (y1 4).trans E4, (y1 5).trans E5, (y1 6).trans E6, (y1 7).trans E7, (y1 8).trans E8, (y1 9).trans E9, (y2 0).trans E10, (y2 1).trans E11, (y2 3).trans E12, (y2 4).trans E13, (y2 5).trans E14, (y2 6).trans E15, (y2 7).trans E16, (y2 8).trans E17, (y2 9).trans E18, E19.trans0 c1⟩) (first | (go_at_call 7; obtain ⟨E1, E2, E3, E4, E5, E6, E7, E8, E9, E10, E11, E12, E13, E14, E15, E16, E17, E18, E19⟩ := ‹_ ∧ _ ∧ _ ∧ _ ∧ _ ∧ _ ∧ _ ∧ _ ∧ _ ∧ _ ∧ _ ∧ _ ∧ _ ∧ _ ∧ _ ∧ _ ∧ _ ∧ _ ∧ Chg [] z _›; (first | (with_reducible refine (PX.out _ E19).mono ?_) | (with_reducible refine (PY.out _ E19).mono ?_)); rintro e w1 ⟨rfl, c1⟩; (have y1 := c1.ce w8.heap.size (by have := E19.size; omega) (by simp)); (have y2 := c1.ce wA.heap.size (by have := E19.size; omega) (by simp))))
              obtain ⟨_, _, _, _, _, _, _, _, _, _, _, _, _, _, _, _, _, _, EZ⟩ := ‹_ ∧ _ ∧ _ ∧ _ ∧ _ ∧ _ ∧ _ ∧ _ ∧ _ ∧ _ ∧ _ ∧ _ ∧ _ ∧ _ ∧ _ ∧ _ ∧ _ ∧ _ ∧ Chg [] z _›
              clear p0 p1 p3 p4 p5 p6 p7 p8 p9 r0 r1 r3 r4 r5 r6 r7 r8 r9
              have EZ := Lib.hid EZ
              go_wp2_with fail
              go_roundw
              case rel => exact ⟨j + 1, by first | rfl | go_num | simp, by omega, Lib.hid (HZ.out.trans0 EZ.out), Lib.hid (BZ.out.keep EZ.out)⟩
              case measure => simp [intOf]; omega
end Go.Proofs.Ytkgffhlpcjjobaa
