/- FnExactFillSlots: the walk of the law. Written by a program. -/
import Derived.Test.YtaegngbedeggbaaStrss
import Derived.Test.YtaegngbedeggbaaTSlot
namespace Go.Proofs.Ytaegngbedeggbaa
open Go.RowKit

theorem strs_ocells : Try.prog.cellsOf 78 = 1 := by kernel_rfl
theorem str_ocells' : Try.prog.cellsOf 9 = 1 := by kernel_rfl
theorem strs_opens' (N : Nat) : Opens Try.prog N 78 strssC :=
  Opens.mono (Opens.slice (F := strC) Try.underlying78 str_ocells' (by omega) strC_len (Opens.string (N := N) Try.underlying9)) (by omega)
theorem strss_opens (N : Nat) : Opens Try.prog N 41 (listF strssC) :=
  Opens.mono (Opens.slice (F := strssC) Try.underlying41 strs_ocells (by omega) strssC_len (strs_opens' N)) (by omega)
theorem makeFold_small : ∀ (l : List ByteArray) (p : PartT), p.core.cells = [] → (makeFold p l).1.core.cells = [] ∧ (makeFold p l).1.layers.length ≤ p.layers.length + l.length
  | [], p, h => by rw [makeFold]; exact ⟨h, by simp⟩
  | n :: r, p, h => by
    rw [makeFold]
    split
    · have h1 := makeFold_small r (wrapOf p n).1 (by rw [wrapOf_core]; exact h)
      have h2 := wrapOf_len p n
      refine ⟨h1.1, ?_⟩
      rw [List.length_cons]
      have := h1.2
      omega
    · exact ⟨rfl, by show 0 ≤ _; omega⟩
theorem makeOf_small (l : List ByteArray) : (makeOf l).1.core.cells = [] ∧ (makeOf l).1.layers.length ≤ l.length := by
  cases l with
  | nil => rw [makeOf]; exact ⟨rfl, Nat.zero_le _⟩
  | cons k r =>
    cases hk : kindOf k with
    | none => rw [makeOf_none hk]; exact ⟨rfl, Nat.zero_le _⟩
    | some f =>
      rw [makeOf_some hk]
      have h := makeFold_small r (newPart k) rfl
      refine ⟨h.1, ?_⟩
      have h2 := h.2
      have h3 : (newPart k).layers.length = 0 := rfl
      rw [List.length_cons]
      omega
theorem slotOf_small {x : List ByteArray} {s : SlotT} (h : slotOf x = some s) : slotN s ≤ 5 + 2 * x.length := by
  have hl : ∀ l : List LayerT, layersN l = 2 * l.length := by
    intro l
    unfold layersN
    induction l with
    | nil => rfl
    | cons a l ih => simp only [List.map_cons, List.sum_cons, List.length_cons, ih]; have : layerN a = 2 := rfl; omega
  cases x with
  | nil =>
    rw [slotOf_nil] at h
    cases h
    show 5 + cellsN [] + layersN [] ≤ _
    rw [hl]
    simp [cellsN]
  | cons k r =>
    rw [slotOf] at h
    split at h
    · cases h
      have h1 := makeOf_small (k :: r)
      show 5 + cellsN (makeOf (k :: r)).1.core.cells + layersN (makeOf (k :: r)).1.layers ≤ _
      rw [h1.1, hl]
      have := h1.2
      simp [cellsN] at this ⊢
      omega
    · cases h
theorem fillSl_small : ∀ l : List (List ByteArray), slotsN (fillSl l) ≤ 7 * strssW l
  | [] => by simp [fillSl, slotsN]
  | x :: l => by
    have ih := fillSl_small l
    have h0 : slotsN (fillSl (x :: l)) = slotN ((slotOf x).getD ⟨false, zeroPart⟩) + slotsN (fillSl l) := by simp [fillSl, slotsN]
    have h1 : strssW (x :: l) = 1 + strsW x + strssW l := by simp [strssW, strssW1]; omega
    have h2 : slotN ((slotOf x).getD ⟨false, zeroPart⟩) ≤ 5 + 2 * x.length := by
      cases hs : slotOf x with
      | none =>
        have := slotOf_small slotOf_nil
        simp only [Option.getD_none, List.length_nil] at this ⊢
        omega
      | some s => exact slotOf_small hs
    have h3 : x.length ≤ strsW x := by unfold strsW; omega
    omega
theorem fillRes_small {l : List (List ByteArray)} {s : List SlotT} {ok : Bool} (h : fillRes l = (s, ok)) (hW : strssW l ≤ 1048576) : slotsN s ≤ 8000000 := by
  unfold fillRes at h
  split at h
  · cases h
    have := fillSl_small l
    omega
  · cases h
    simp [slotsN]
theorem strss_small {l : List (List ByteArray)} (h : strssW l ≤ 1048576) : l.length ≤ 1048576 ∧ ∀ x ∈ l, x.length ≤ 1048576 := by
  unfold strssW at h
  refine ⟨by omega, fun x hx => ?_⟩
  have := strssW_mem hx
  unfold strsW at this
  omega

theorem fillSlots_impl_law (l : List (List ByteArray)) {r : List SlotT × Bool} (u : Value) (B : Nat) (w : World) (hW : strssW l ≤ 1048576) (hr : fillRes l = r) (rd : Rd w B (strss l) u) (hB : B ≤ w.heap.size) :
    Calls Try.prog 20 #[u] w (FillGives r w) := hr ▸ fillSlots_impl_any l u B w (strss_small hW).1 (strss_small hW).2 rd hB
theorem fillSlots_spec_law (l : List (List ByteArray)) {r : List SlotT × Bool} (u : Value) (B : Nat) (w : World) (hW : strssW l ≤ 1048576) (hr : fillRes l = r) (rd : Rd w B (strss l) u) (hB : B ≤ w.heap.size) :
    Calls Try.prog 18 #[u] w (FillGives r w) := hr ▸ fillSlots_spec_any l u B w (strss_small hW).1 (strss_small hW).2 rd hB
set_option maxRecDepth 100000 in
set_option maxHeartbeats 4000000 in
theorem fillSlots_law (l : List (List ByteArray)) (ul : Value) (B : Nat) (w : World) (hfl : FitL [strss l]) (rl_0 : Rd w B (strss l) ul) (hB : B ≤ w.heap.size) :
    Calls Try.prog 5 #[ul] w fun e w' => e = .returned (.bool true) ∧ Chg [] w w' := by
  go_enter Try.func5, Try.ntmps5
  go_wp2_with fail
  refine (szStringSS_any l _ _ B _ (by omega) (by omega) hfl rl_0 (by omega)).mono ?_; rintro e w1 ⟨z1, rfl, L1, c1⟩
  have bd1 := L1.bd (by omega)
  have b1 := Chg.size (c1)
  have rl_1 := Rd.chg0 rl_0 (c1) (by omega)
  have d1 : Chg [] w w1 := Chg.trans0 (Chg.refl [] w) (c1)
  go_wp2_with fail
  · go_ret
    exact ⟨rfl, d1⟩
  have hWl : strssW l ≤ 1048576 ∧ (0 ≤ z1) := by simp only [Left] at L1; omega
  obtain ⟨s, ok, hS⟩ : ∃ s ok, fillRes l = (s, ok) := ⟨_, _, rfl⟩
  have hN := fillRes_small hS hWl.1
  have hN2 := strssN_le l
  have hWl1 := hWl.1
  have HS := Lib.hid hS
  clear hS
  refine (toStringSS_any l _ _ _ hWl.1 rl_1 (by omega)).mono ?_; intro e w2 G2; obtain ⟨A2, cap2, rfl, n2⟩ := G2.sl
  have hc2 := n2.chg
  have b2 := Chg.size (hc2)
  have rl_2 := Rd.chg0 rl_1 (hc2) (by omega)
  have d2 : Chg [] w w2 := Chg.trans0 (d1) (hc2)
  obtain ⟨St0, Ht0_2, lot0, _⟩ := n2
  have hit0 := Ht0_2.lt
  go_wp2_with fail
  refine (fillSlots_spec_law l _ _ _ hWl.1 HS.out Ht0_2.rd (by omega)).mono ?_; rintro e w3 ⟨A3, cap3, rfl, n3⟩
  have hc3 := n3.chg
  have b3 := Chg.size (hc3)
  have rl_3 := Rd.chg0 rl_2 (hc3) (by omega)
  have Ht0_3 := Has.keep0 Ht0_2 (hc3)
  have d3 : Chg [] w w3 := Chg.trans0 (d2) (hc3)
  obtain ⟨Sw0, Hw0_3, low0, _⟩ := n3
  have hiw0 := Hw0_3.lt
  go_wp2_with fail
  refine (toStringSS_any l _ _ _ hWl.1 rl_3 (by omega)).mono ?_; intro e w4 G4; obtain ⟨A4, cap4, rfl, n4⟩ := G4.sl
  have hc4 := n4.chg
  have b4 := Chg.size (hc4)
  have rl_4 := Rd.chg0 rl_3 (hc4) (by omega)
  have Hw0_4 := Has.keep0 Hw0_3 (hc4)
  have d4 : Chg [] w w4 := Chg.trans0 (d3) (hc4)
  obtain ⟨Sx0, Hx0_4, lox0, _⟩ := n4
  have hix0 := Hx0_4.lt
  go_wp2_with fail
  refine (fillSlots_impl_law l _ _ _ hWl.1 HS.out Hx0_4.rd (by omega)).mono ?_; rintro e w5 ⟨A5, cap5, rfl, n5⟩
  have hc5 := n5.chg
  have b5 := Chg.size (hc5)
  have rl_5 := Rd.chg0 rl_4 (hc5) (by omega)
  have Hw0_5 := Has.keep0 Hw0_4 (hc5)
  have Hx0_5 := Has.keep0 Hx0_4 (hc5)
  have d5 : Chg [] w w5 := Chg.trans0 (d4) (hc5)
  obtain ⟨Sg0, Hg0_5, log0, _⟩ := n5
  have hig0 := Hg0_5.lt
  go_wp2_with fail
  refine (eqSlotS_same s _ _ _ _ _ Hg0_5.rd Hw0_5.rd (by omega) (by omega)).mono ?_; rintro e w6 ⟨rfl, c6⟩
  have b6 := Chg.size (c6)
  have rl_6 := Rd.chg0 rl_5 (c6) (by omega)
  have Hw0_6 := Has.keep0 Hw0_5 (c6)
  have Hx0_6 := Has.keep0 Hx0_5 (c6)
  have Hg0_6 := Has.keep0 Hg0_5 (c6)
  have d6 : Chg [] w w6 := Chg.trans0 (d5) (c6)
  go_wp2_with fail
  refine (toStringSS_any l _ _ _ hWl.1 rl_6 (by omega)).mono ?_; intro e w7 G7; obtain ⟨A7, cap7, rfl, n7⟩ := G7.sl
  have hc7 := n7.chg
  have b7 := Chg.size (hc7)
  have rl_7 := Rd.chg0 rl_6 (hc7) (by omega)
  have Hw0_7 := Has.keep0 Hw0_6 (hc7)
  have Hx0_7 := Has.keep0 Hx0_6 (hc7)
  have Hg0_7 := Has.keep0 Hg0_6 (hc7)
  have d7 : Chg [] w w7 := Chg.trans0 (d6) (hc7)
  obtain ⟨St1, Ht1_7, lot1, _⟩ := n7
  have hit1 := Ht1_7.lt
  go_wp2_with fail
  refine (eqStringSS_same l _ _ _ _ _ Hx0_7.rd Ht1_7.rd (by omega) (by omega)).mono ?_; rintro e w8 ⟨rfl, c8⟩
  have b8 := Chg.size (c8)
  have rl_8 := Rd.chg0 rl_7 (c8) (by omega)
  have Hw0_8 := Has.keep0 Hw0_7 (c8)
  have Hx0_8 := Has.keep0 Hx0_7 (c8)
  have Hg0_8 := Has.keep0 Hg0_7 (c8)
  have Ht1_8 := Has.keep0 Ht1_7 (c8)
  have d8 : Chg [] w w8 := Chg.trans0 (d7) (c8)
  go_wp2_with fail
  refine (markStringSS_any l _ _ _ _ (by omega) (by omega) Hx0_8).mono ?_; rintro e w9 ⟨rfl, Hx0_9, c9⟩
  have b9 := Chg.size (c9)
  have rl_9 := Rd.chg rl_8 (c9) (by omega) (fun x hy => by (have := lox0 x hy; omega))
  have Hw0_9 := Has.keep Hw0_8 (c9) (fun x hx hy => by have h1 := hiw0 x hx; (have := lox0 x hy; omega))
  have Hg0_9 := Has.keep Hg0_8 (c9) (fun x hx hy => by have h1 := log0 x hx; (have := hix0 x hy; omega))
  have d9 : Chg [] w w9 := Chg.trans (d8) (c9) (fun x hy => .inr (by (have := lox0 x hy; omega)))
  go_wp2_with fail
  refine (eqSlotS_same s _ _ _ _ _ Hg0_9.rd Hw0_9.rd (by omega) (by omega)).mono ?_; rintro e w10 ⟨rfl, c10⟩
  have b10 := Chg.size (c10)
  have rl_10 := Rd.chg0 rl_9 (c10) (by omega)
  have Hw0_10 := Has.keep0 Hw0_9 (c10)
  have Hg0_10 := Has.keep0 Hg0_9 (c10)
  have d10 : Chg [] w w10 := Chg.trans0 (d9) (c10)
  go_wp2_with fail
  refine (markSlotS_any s _ _ _ _ (by omega) (by omega) Hg0_10).mono ?_; rintro e w11 ⟨rfl, Hg0_11, c11⟩
  have b11 := Chg.size (c11)
  have rl_11 := Rd.chg rl_10 (c11) (by omega) (fun x hy => by (have := log0 x hy; omega))
  have Hw0_11 := Has.keep Hw0_10 (c11) (fun x hx hy => by have h1 := hiw0 x hx; (have := log0 x hy; omega))
  have d11 : Chg [] w w11 := Chg.trans (d10) (c11) (fun x hy => .inr (by (have := log0 x hy; omega)))
  go_wp2_with fail
  refine (heldSlotS_any s _ _ _ _ (by omega) (by omega) Hg0_11.rd (by omega)).mono ?_; rintro e w12 ⟨rfl, c12⟩
  have b12 := Chg.size (c12)
  have rl_12 := Rd.chg0 rl_11 (c12) (by omega)
  have Hw0_12 := Has.keep0 Hw0_11 (c12)
  have Hg0_12 := Has.keep0 Hg0_11 (c12)
  have d12 : Chg [] w w12 := Chg.trans0 (d11) (c12)
  go_wp2_with fail
  refine (toStringSS_any l _ _ _ hWl.1 rl_12 (by omega)).mono ?_; intro e w13 G13; obtain ⟨A13, cap13, rfl, n13⟩ := G13.sl
  have hc13 := n13.chg
  have b13 := Chg.size (hc13)
  have rl_13 := Rd.chg0 rl_12 (hc13) (by omega)
  have Hw0_13 := Has.keep0 Hw0_12 (hc13)
  have Hg0_13 := Has.keep0 Hg0_12 (hc13)
  have d13 : Chg [] w w13 := Chg.trans0 (d12) (hc13)
  obtain ⟨St2, Ht2_13, lot2, _⟩ := n13
  have hit2 := Ht2_13.lt
  go_wp2_with fail
  refine (fillSlots_impl_law l _ _ _ hWl.1 HS.out Ht2_13.rd (by omega)).mono ?_; rintro e w14 ⟨A14, cap14, rfl, n14⟩
  have hc14 := n14.chg
  have b14 := Chg.size (hc14)
  have rl_14 := Rd.chg0 rl_13 (hc14) (by omega)
  have Hw0_14 := Has.keep0 Hw0_13 (hc14)
  have Hg0_14 := Has.keep0 Hg0_13 (hc14)
  have Ht2_14 := Has.keep0 Ht2_13 (hc14)
  have d14 : Chg [] w w14 := Chg.trans0 (d13) (hc14)
  obtain ⟨Sh0, Hh0_14, loh0, _⟩ := n14
  have hih0 := Hh0_14.lt
  go_wp2_with fail
  refine (eqSlotS_same s _ _ _ _ _ Hh0_14.rd Hw0_14.rd (by omega) (by omega)).mono ?_; rintro e w15 ⟨rfl, c15⟩
  have b15 := Chg.size (c15)
  have rl_15 := Rd.chg0 rl_14 (c15) (by omega)
  have Hw0_15 := Has.keep0 Hw0_14 (c15)
  have Hg0_15 := Has.keep0 Hg0_14 (c15)
  have Hh0_15 := Has.keep0 Hh0_14 (c15)
  have d15 : Chg [] w w15 := Chg.trans0 (d14) (c15)
  go_wp2_with fail
  refine (heldSlotS_any s _ _ _ _ (by omega) (by omega) Hg0_15.rd (by omega)).mono ?_; rintro e w16 ⟨rfl, c16⟩
  have b16 := Chg.size (c16)
  have rl_16 := Rd.chg0 rl_15 (c16) (by omega)
  have Hw0_16 := Has.keep0 Hw0_15 (c16)
  have Hg0_16 := Has.keep0 Hg0_15 (c16)
  have Hh0_16 := Has.keep0 Hh0_15 (c16)
  have d16 : Chg [] w w16 := Chg.trans0 (d15) (c16)
  go_wp2_with fail
  go_ret
  exact ⟨rfl, d16⟩
end Go.Proofs.Ytaegngbedeggbaa
