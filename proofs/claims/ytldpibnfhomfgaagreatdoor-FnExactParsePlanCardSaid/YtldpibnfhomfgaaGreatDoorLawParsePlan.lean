/- FnExactParsePlan: the walk of the law, from what the reference's ParsePlan does. -/
import Derived.Test.YtldpibnfhomfgaaGreatDoorReadsP
import Derived.Test.YtldpibnfhomfgaaGreatDoorFrames
namespace Go.Proofs.YtldpibnfhomfgaaGreatDoor
open Go.RowKit

theorem parse_same {o : Option (List ActionT)} {l l' : List ActionT} {b b' : Bool} (h1 : b = true → o = some l) (h2 : b = false → o = none ∧ l = []) (k1 : b' = true → o = some l') (k2 : b' = false → o = none ∧ l' = []) : l' = l ∧ b' = b := by
  cases b <;> cases b'
  · exact ⟨(k2 rfl).2.trans (h2 rfl).2.symm, rfl⟩
  · have := (h2 rfl).1; rw [k1 rfl] at this; cases this
  · have := (k2 rfl).1; rw [h1 rfl] at this; cases this
  · have := h1 rfl; rw [k1 rfl] at this; exact ⟨Option.some.inj this, rfl⟩
theorem actionsN_eq_size (l : List ActionT) : actionsN l = 9 * sizeL l := by
  have key : ∀ n (l : List ActionT), sizeL l ≤ n → actionsN l = 9 * sizeL l := by
    intro n
    induction n with
    | zero =>
      intro l h
      cases l with
      | nil => rfl
      | cons a l => rw [sizeL] at h; have := a.size_eq; omega
    | succ n ih =>
      intro l
      induction l with
      | nil => intro _; rfl
      | cons a l ihl =>
        intro h
        rw [sizeL] at h ⊢
        have e1 := a.size_eq
        have h1 := ih a.A (by omega)
        have h2 := ih a.B (by omega)
        have h3 := ihl (by omega)
        unfold actionsN at h3 ⊢
        simp only [List.map_cons, List.sum_cons]
        rw [actionN_eq]
        omega
  exact key _ l (Nat.le_refl _)
theorem parse_small {s : ByteArray} {l : List ActionT} {b : Bool} (h1 : b = true → parseT s = some l) (h2 : b = false → parseT s = none ∧ l = []) : actionsN l ≤ 1000 := by
  cases b
  · rw [(h2 rfl).2]; decide
  · have := (parseT_is (h1 rfl)).2.1.1
    rw [actionsN_eq_size]
    omega
set_option maxRecDepth 100000 in
set_option maxHeartbeats 4000000 in
theorem parsePlan_law_of (SPEC : ∀ (s : ByteArray) (w : World), Calls Tryz.prog 4 #[.string s] w (ParseIs (parseT s) w)) (s : ByteArray) (w : World) (hE : EnvT w) :
    Calls Tryz.prog 3 #[.string s] w fun e w' => e = .returned (.bool true) ∧ Chg [] w w' := by
  have SP := Lib.hid (SPEC s)
  have HE := Lib.hid hE
  clear SPEC hE
  go_enter Tryz.func3, Tryz.ntmps3
  go_wp2_with fail
  · go_ret
    exact ⟨rfl, Chg.refl _ _⟩
  refine (SP.out _).mono ?_
  rintro e w1 ⟨l, A0, c0, b, rfl, n0, hy, hn⟩
  have d1 := n0.chg
  go_wp2_with fail
  refine (parsePlan_impl_any s w1 (HE.out.keep d1)).mono ?_
  rintro e w2 ⟨l', A1, c1, b', rfl, n1, hy', hn'⟩
  obtain ⟨rfl, rfl⟩ := parse_same hy hn hy' hn'
  have hN := parse_small hy hn
  have c2 := n1.chg
  have d2 : Chg [] w w2 := d1.trans0 c2
  have z1 := d1.size
  have z2 := c2.size
  obtain ⟨S0, H0, lo0, _⟩ := n0
  obtain ⟨S1, H1, lo1, _⟩ := n1
  have l0 := H0.lt
  have H0 := H0.keep0 c2
  have HS : Hid (∀ x, x ∈ S0 → x ∉ S1) := Lib.hid (fun x h0 h1 => by have := lo1 x h1; have := l0 x h0; omega)
  have HL : Hid (∀ x, x ∈ S1 → w.heap.size ≤ x) := Lib.hid (fun x h1 => by have := lo1 x h1; omega)
  have HP := Lib.hid (And.intro hy hn)
  have H0 := Lib.hid H0
  have H1 := Lib.hid H1
  have D2 := Lib.hid d2
  clear hy hn hy' hn' l0 lo0 lo1 d1 d2 c2
  go_wp2_with fail
  refine (eqActionS_same l' _ _ _ _ _ H1.out.rd H0.out.rd (Nat.le_refl _) (Nat.le_refl _)).mono ?_
  rintro e w3 ⟨rfl, c3⟩
  have H0a := Lib.hid (H0.out.keep0 c3)
  have H1a := Lib.hid (H1.out.keep0 c3)
  have D3 := Lib.hid (D2.out.trans0 c3)
  clear c3
  go_wp2_with fail
  refine (markActionS_any l' _ S1 1 _ (by omega) (by omega) H1a.out).mono ?_
  rintro e w4 ⟨rfl, hm4, c4⟩
  have H0b := Lib.hid (H0a.out.keep c4 HS.out)
  have H1b := Lib.hid hm4
  have D4 := Lib.hid (D3.out.trans c4 (fun x hx => .inr (HL.out x hx)))
  clear c4 hm4
  go_wp2_with fail
  refine (heldActionS_any l' _ _ 1 _ (by omega) (by omega) H1b.out.rd (Nat.le_refl _)).mono ?_
  rintro e w5 ⟨rfl, c5⟩
  have H0c := Lib.hid (H0b.out.keep0 c5)
  have H1c := Lib.hid (H1b.out.keep0 c5)
  have D5 := Lib.hid (D4.out.trans0 c5)
  clear c5
  go_wp2_with fail
  refine (parsePlan_impl_any s w5 (HE.out.keep D5.out)).mono ?_
  rintro e w6 ⟨l2, A2, c2, b2, rfl, n6, hy2, hn2⟩
  obtain ⟨rfl, rfl⟩ := parse_same HP.out.1 HP.out.2 hy2 hn2
  have c6 := n6.chg
  have H0d := Lib.hid (H0c.out.keep0 c6)
  have H1d := Lib.hid (H1c.out.keep0 c6)
  have H2d := Lib.hid n6.rd
  have D6 := Lib.hid (D5.out.trans0 c6)
  clear c6 hy2 hn2 n6
  go_wp2_with fail
  refine (eqActionS_same l2 _ _ _ _ _ H2d.out H0d.out.rd (Nat.le_refl _) (Nat.le_refl _)).mono ?_
  rintro e w7 ⟨rfl, c7⟩
  have H1e := Lib.hid (H1d.out.keep0 c7)
  have D7 := Lib.hid (D6.out.trans0 c7)
  clear c7
  go_wp2_with fail
  refine (heldActionS_any l2 _ _ 1 _ (by omega) (by omega) H1e.out.rd (Nat.le_refl _)).mono ?_
  rintro e w8 ⟨rfl, c8⟩
  have D8 := Lib.hid (D7.out.trans0 c8)
  clear c8
  go_wp2_with fail
  go_ret
  exact ⟨rfl, D8.out⟩
end Go.Proofs.YtldpibnfhomfgaaGreatDoor
