/- ParseCall of the reference. Conditions: the text is not too long. Written by a program. -/
import Derived.Test.YtldpibnfhomfgaaGreatDoorCallsP
import Derived.Test.YtldpibnfhomfgaaGreatDoorParsesS
namespace Go.Proofs.YtldpibnfhomfgaaGreatDoor
open Go.RowKit

theorem callS_yes {s : ByteArray} {X : CallT} (h : rawS s = X) (h2 : callT X = s) (h0 : s.size ≠ 0) : callS s = some X := by
  unfold callS; rw [h, if_pos ⟨h2, h0⟩]
theorem callS_no {s : ByteArray} {X : CallT} (h : rawS s = X) (h1 : ¬ (callT X = s ∧ s.size ≠ 0)) : callS s = none := by
  unfold callS; rw [h, if_neg h1]
theorem put_mid {P : List ByteArray} {m : Nat} (h : P.length = m + 1) : (P.take (max 1 m)).drop 1 = (P.drop 1).dropLast := by
  by_cases h0 : m = 0
  · subst h0
    obtain ⟨x, rfl⟩ := List.length_eq_one_iff.1 h
    rfl
  · rw [List.dropLast_eq_take, List.length_drop, h, show max 1 m = m by omega, List.drop_take]
    congr 1
theorem mid_load {P : List ByteArray} : (P.take P.length).drop 1 = P.drop 1 := by rw [List.take_length]
set_option maxRecDepth 100000 in
theorem l1Min_any (a b : Int) (w : World) : Calls Tryz.prog 47 #[.int .i64 a, .int .i64 b] w fun e w' => e = .returned (.int .i64 (min a b)) ∧ w' = w := by
  by_cases h : a < b
  · go_enter Tryz.func47, Tryz.ntmps47
    go_wp2_with fail
    go_ret
    exact ⟨by rw [show min a b = a by omega]; rfl, rfl⟩
  · go_enter Tryz.func47, Tryz.ntmps47
    go_wp2_with fail
    go_ret
    exact ⟨by rw [show min a b = b by omega]; rfl, rfl⟩
set_option maxRecDepth 100000 in
set_option maxHeartbeats 3000000 in
theorem parseCall_spec_get (s : ByteArray) (w : World) (hs : s.size ≤ 100000) (hk : (splitS 32 s).headD noB = mGet) :
    Calls Tryz.prog 32 #[.string s] w (CallIs (callS s) w) := by
  have SP := Lib.hid (fun W => splitAt_one_any s 32 W (by omega))
  have RAW : rawS s = rawS s := rfl
  conv at RAW => rhs; unfold rawS
  dsimp only at RAW
  have HT := tot_split s
  have hne := spL_ne s.data.toList
  rw [← splitS_spL] at hne
  obtain ⟨P, hP⟩ : ∃ P, P = splitS 32 s := ⟨_, rfl⟩
  rw [← hP] at SP RAW HT hne hk
  obtain ⟨m, hm⟩ : ∃ m, P.length = m + 1 := ⟨P.length - 1, by have := List.length_pos_iff.2 hne; omega⟩
  have hmT : m + 1 ≤ s.size + 1 := by rw [← hm, ← HT]; exact tot_len P
  have hM : P.headD noB = P[0]'(by omega) := by
    cases P with
    | nil => exact absurd rfl hne
    | cons x r => rfl
  have hL : P.getLastD noB = P[m]'(by omega) := by
    rw [List.getLastD_eq_getLast?, List.getLast?_eq_getElem?, show P.length - 1 = m by omega, List.getElem?_eq_getElem (by omega)]
    rfl
  have zM := tot_mem (List.getElem_mem (show 0 < P.length by omega))
  have zL := tot_mem (List.getElem_mem (show m < P.length by omega))
  have zK := joinB_tot ((P.drop 1).dropLast)
  have zT := joinB_tot (P.drop 1)
  have tK : tot ((P.drop 1).dropLast) ≤ tot P := by rw [List.dropLast_eq_take]; exact Nat.le_trans (tot_take _ _) (tot_drop _ _)
  have tT : tot (P.drop 1) ≤ tot P := tot_drop _ _
  have pm := put_mid hm
  have pl := mid_load (P := P)
  rw [hM, hL] at RAW
  rw [hM] at hk
  obtain ⟨M, hMM⟩ : ∃ M, M = P[0]'(by omega) := ⟨_, rfl⟩
  obtain ⟨L, hLL⟩ : ∃ L, L = P[m]'(by omega) := ⟨_, rfl⟩
  obtain ⟨K, hK⟩ : ∃ K, K = joinB ((P.drop 1).dropLast) spB := ⟨_, rfl⟩
  obtain ⟨T, hT⟩ : ∃ T, T = joinB (P.drop 1) spB := ⟨_, rfl⟩
  rw [← hMM, ← hLL] at RAW
  rw [← hMM] at hk
  rw [← hMM] at zM
  rw [← hLL] at zL
  rw [← hK] at RAW zK
  rw [← hT] at RAW zT
  have CELLS := Lib.hid (fun W B A cap (hr : Rd W B (strs P) (.slice A P.length cap)) => strs_cells (strs_row hr).choose_spec.choose_spec.2.2.2 0 (by omega))
  have PN := Lib.hid (fun W => parseNumber_spec_any L W (by omega))
  have JK := Lib.hid (fun W u B (hr : Rd W B (strs ((P.take (max 1 m)).drop 1)) u) (hB : B ≤ W.heap.size) => joinWith_spec_any _ spB u B W (by have := tot_len ((P.take (max 1 m)).drop 1); have := tot_drop (P.take (max 1 m)) 1; have := tot_take P (max 1 m); omega) (by decide) (by have := tot_W1 ((P.take (max 1 m)).drop 1); have := tot_drop (P.take (max 1 m)) 1; have := tot_take P (max 1 m); omega) hr hB)
  have JT := Lib.hid (fun W u B (hr : Rd W B (strs ((P.take P.length).drop 1)) u) (hB : B ≤ W.heap.size) => joinWith_spec_any _ spB u B W (by have := tot_len ((P.take P.length).drop 1); have := tot_drop (P.take P.length) 1; have := tot_take P P.length; omega) (by decide) (by have := tot_W1 ((P.take P.length).drop 1); have := tot_drop (P.take P.length) 1; have := tot_take P P.length; omega) hr hB)
  rw [pm, ← hK] at JK
  rw [pl, ← hT] at JT
  have FC := Lib.hid (fun (x : CallT) (hk : x.key.size ≤ 1048576) (hx : x.text.size ≤ 1048576) W => formatCall_spec_any x W hk hx)
  have hmB : m ≤ 100000 := by omega
  have hMs : M.size ≤ 200000 := by omega
  have hLs : L.size ≤ 200000 := by omega
  have hKs : K.size ≤ 200000 := by omega
  have hTs : T.size ≤ 200000 := by omega
  have SL := Lib.hid (fun (A : Option Addr) (cap : Nat) (hc : m + 1 ≤ cap) W => sub_lh A (m + 1) cap 1 (max 1 m) W (by omega) (by omega) hc)
  have SL2 := Lib.hid (fun (A : Option Addr) (cap : Nat) W => sub_l A (m + 1) cap 1 W (by omega))
  have SR := Lib.hid (fun W B A cap (hr : Rd W B (strs P) (.slice A P.length cap)) => by have h := sub_rd (i := 1) (j := max 1 m) hr (by omega) (by omega); rw [pm] at h; exact h)
  have SR2 := Lib.hid (fun W B A cap (hr : Rd W B (strs P) (.slice A P.length cap)) => by have h := sub_rd (i := 1) (j := P.length) hr (by omega) (Nat.le_refl _); rw [mid_load] at h; exact h)
  have C0 : Hid (∀ W B A cap, Rd W B (strs P) (.slice A P.length cap) → P.length ≤ cap ∧ ∃ b off, A = some ⟨b, off, none⟩ ∧ b < B ∧ W.cell? ⟨b, off, none⟩ = some (.string M) ∧ W.cell? ⟨b, off + m, none⟩ = some (.string L)) := by
    intro W B A cap hr
    obtain ⟨_, _, e, h0, _, hrow⟩ := strs_row hr
    cases e
    obtain ⟨b, off, rfl, hb, q0⟩ := strs_cells hrow 0 (by omega)
    obtain ⟨b2, off2, e2, _, qm⟩ := strs_cells hrow m (by omega)
    cases e2
    exact ⟨h0, b, off, rfl, hb, by rw [hMM]; exact q0, by rw [hLL]; exact qm⟩
  clear pm pl zK zT tK tT hne hM hL HT hP zM zL hmT CELLS hMM hLL hK hT
  obtain ⟨v, hv⟩ : ∃ v, v = parseNum L := ⟨_, rfl⟩
  have PN2 : Hid (∀ W, Calls Tryz.prog 30 #[.string L] W (fun e w1 => e = .returned (.tuple #[.int .i64 (v.getD 0), .bool v.isSome]) ∧ Chg [] W w1)) := by rw [hv]; exact PN.out
  rw [← hv] at RAW
  obtain ⟨z, hz⟩ : ∃ z, z = v.getD 0 := ⟨_, rfl⟩
  obtain ⟨f3, hf3⟩ : ∃ f, f = v.isSome := ⟨_, rfl⟩
  rw [← hz] at RAW
  rw [← hz, ← hf3] at PN2
  clear PN hv hz hf3
  rcases methCases M with ⟨hmm, m1, m2, m3, m4⟩ | ⟨hmm, m1, m2, m3, m4⟩ | ⟨hmm, m1, m2, m3, m4⟩ | ⟨hmm, m1, m2, m3, m4⟩ | ⟨hmm, m1, m2, m3, m4⟩
  · rw [if_pos hmm] at RAW
    have RAW : Hid (rawS s = (⟨M, L,  0, ⟨#[]⟩⟩ : CallT)) := RAW
    have FX := FC.out (⟨M, L,  0, ⟨#[]⟩⟩ : CallT) (by first | (show L.size ≤ _; omega) | (show K.size ≤ _; omega) | exact Nat.zero_le _) (by first | (show T.size ≤ _; omega) | exact Nat.zero_le _)
    have YES := callS_yes RAW.out
    have NO := callS_no RAW.out
    obtain ⟨t, ht⟩ : ∃ t, t = callT (⟨M, L,  0, ⟨#[]⟩⟩ : CallT) := ⟨_, rfl⟩
    rw [← ht] at FX YES NO
    have FX := Lib.hid FX
    have YES := Lib.hid YES
    have NO := Lib.hid NO
    clear ht RAW hmm hk FC hLs hKs hTs hMs
    by_cases hts : t = s
    · by_cases hs0 : s.size = 0
      · have HN := Lib.hid (NO.out (fun h => h.2 hs0))
        have hb0 : (s.toList == []) = true := by rw [noB_of hs0, ByteArray.toList_eq]; rfl
        subst hts
        clear YES NO hs0
        go_enter Tryz.func32, Tryz.ntmps32
        go_wp2_with fail
        refine (SP.out _).mono ?_
        intro e w2 G
        obtain ⟨A, cap, rfl, hN⟩ := G.sl
        have hrd := hN.rd
        obtain ⟨hcap, b, off, rfl, hb, q0, qm⟩ := C0.out _ _ _ _ hrd
        have c2 := hN.chg
        obtain ⟨y2a, z2a, s2⟩ := c2.cells
        have y2 := fun o => y2a w.heap.size o (by simp)
        have z2 := fun o => z2a w.heap.size o (by simp)
        have d2 : Chg [] w w2 := Chg.trans0 ((Chg.refl _ _).alloc _) c2
        have t2 : w.heap.size < w2.heap.size := by simp at s2; omega
        have tt : w.heap.size < w.heap.size + 1 := by omega
        have HRD := Lib.hid hrd
        rw [hm] at hcap
        clear hrd y2a z2a c2 hN G
        rw [hm]
        go_wp2_with fail
        refine (PN2.out _).mono ?_
        rintro e w3 ⟨rfl, c3⟩
        have s3 := c3.size
        have y3 : ∀ o, w3.cell? ⟨w.heap.size, o, none⟩ = (w.alloc (.cells #[.string ⟨#[]⟩, .string ⟨#[]⟩, .int .i64 0, .string ⟨#[]⟩] 39)).cell? ⟨w.heap.size, o, none⟩ := fun o => (c3.cell (p := ⟨w.heap.size, o, none⟩) (by simp; omega) (by simp)).trans ((((Chg.refl [] w2).alloc _).cell (p := ⟨w.heap.size, o, none⟩) (by simpa using t2) (by simp)).trans (y2 o))
        have z3 : ∀ o, w3.frozen? ⟨w.heap.size, o, none⟩ = (w.alloc (.cells #[.string ⟨#[]⟩, .string ⟨#[]⟩, .int .i64 0, .string ⟨#[]⟩] 39)).frozen? ⟨w.heap.size, o, none⟩ := fun o => (c3.frozen (p := ⟨w.heap.size, o, none⟩) (by simp; omega) (by simp)).trans ((((Chg.refl [] w2).alloc _).frozen (p := ⟨w.heap.size, o, none⟩) (by simpa using t2) (by simp)).trans (z2 o))
        have q03 : w3.cell? ⟨b, off, none⟩ = some (.string M) := (c3.cell (p := ⟨b, off, none⟩) (by simp; omega) (by simp)).trans ((((Chg.refl [] w2).alloc _).cell (p := ⟨b, off, none⟩) (by simpa using hb) (by simp)).trans q0)
        have d3 : Chg [] w w3 := Chg.trans0 (d2.alloc _) c3
        have t3 : w.heap.size < w3.heap.size := by simp at s3; omega
        have u3 : w2.heap.size < w3.heap.size := by simp at s3; omega
        have f3x : ∀ o, w3.frozen? ⟨w2.heap.size, o, none⟩ = (w2.alloc (.cells #[.string M, .string ⟨#[]⟩, .int .i64 0, .string ⟨#[]⟩] 39)).frozen? ⟨w2.heap.size, o, none⟩ := fun o => c3.frozen (p := ⟨w2.heap.size, o, none⟩) (by simp) (by simp)
        have b30 : w3.cell? ⟨w2.heap.size, 0, none⟩ = some (.string M) := (c3.cell (p := ⟨w2.heap.size, 0, none⟩) (by simp) (by simp)).trans (by go_simp)
        have b31 : w3.cell? ⟨w2.heap.size, 1, none⟩ = some (.string ⟨#[]⟩) := (c3.cell (p := ⟨w2.heap.size, 1, none⟩) (by simp) (by simp)).trans (by go_simp)
        have b32 : w3.cell? ⟨w2.heap.size, 2, none⟩ = some (.int .i64 0) := (c3.cell (p := ⟨w2.heap.size, 2, none⟩) (by simp) (by simp)).trans (by go_simp)
        have b33 : w3.cell? ⟨w2.heap.size, 3, none⟩ = some (.string ⟨#[]⟩) := (c3.cell (p := ⟨w2.heap.size, 3, none⟩) (by simp) (by simp)).trans (by go_simp)
        have C23 : Hid (Chg [] w2 w3) := Lib.hid (((Chg.refl [] w2).alloc _).trans0 c3)
        have v3 : w2.heap.size < w2.heap.size + 1 := by omega
        clear c3 y2 z2
        have eb30 : ∀ u, (w3.setCell ⟨w2.heap.size, 1, none⟩ u).cell? ⟨w2.heap.size, 0, none⟩ = some (.string M) := fun u => by rw [World.cell?_setCell_other _ _ _ _ (by simp)]; exact b30
        have eb31 : ∀ u, (w3.setCell ⟨w2.heap.size, 1, none⟩ u).cell? ⟨w2.heap.size, 1, none⟩ = some u := fun u => World.cell?_setCell_same _ _ _ b31
        have eb32 : ∀ u, (w3.setCell ⟨w2.heap.size, 1, none⟩ u).cell? ⟨w2.heap.size, 2, none⟩ = some (.int .i64 0) := fun u => by rw [World.cell?_setCell_other _ _ _ _ (by simp)]; exact b32
        have eb33 : ∀ u, (w3.setCell ⟨w2.heap.size, 1, none⟩ u).cell? ⟨w2.heap.size, 3, none⟩ = some (.string ⟨#[]⟩) := fun u => by rw [World.cell?_setCell_other _ _ _ _ (by simp)]; exact b33
        go_wp2_with fail
        refine (FX.out _).mono ?_
        rintro e w5 ⟨rfl, c5⟩
        have s5 := c5.size
        have d5 : Chg [] w w5 := Chg.trans0 (by repeat (first | with_reducible exact d3 | with_reducible exact Chg.refl _ _ | with_reducible refine Chg.drew ?_ | with_reducible refine Chg.drewN ?_ _ | with_reducible refine Chg.alloc ?_ _ | with_reducible refine Chg.setCell ?_ (.inr (by simp; try omega)) _)) c5
        have t5 : w.heap.size < w5.heap.size := by first | omega | (simp at s5; omega)
        have u5 : w2.heap.size < w5.heap.size := by first | omega | (simp at s5; omega)
        have n5 : ¬ w2.heap.size = w.heap.size := by omega
        have y5 : ∀ o, w5.cell? ⟨w.heap.size, o, none⟩ = (w.alloc (.cells #[.string ⟨#[]⟩, .string ⟨#[]⟩, .int .i64 0, .string ⟨#[]⟩] 39)).cell? ⟨w.heap.size, o, none⟩ := fun o => (c5.cell (p := ⟨w.heap.size, o, none⟩) (by first | (simp; done) | (simp; omega) | omega) (by simp)).trans (by first | exact y3 o | (rw [World.cell?_setCell_other _ _ _ _ (by first | (simp; done) | (simp; omega))]; exact y3 o) | (rw [World.cell?_setCell_other _ _ _ _ (by first | (simp; done) | (simp; omega)), World.cell?_setCell_other _ _ _ _ (by first | (simp; done) | (simp; omega))]; exact y3 o))
        have z5 : ∀ o, w5.frozen? ⟨w.heap.size, o, none⟩ = (w.alloc (.cells #[.string ⟨#[]⟩, .string ⟨#[]⟩, .int .i64 0, .string ⟨#[]⟩] 39)).frozen? ⟨w.heap.size, o, none⟩ := fun o => (c5.frozen (p := ⟨w.heap.size, o, none⟩) (by first | (simp; done) | (simp; omega) | omega) (by simp)).trans (by rw [← z3 o]; try simp)
        have b50 : w5.cell? ⟨w2.heap.size, 0, none⟩ = some (.string M) := (c5.cell (p := ⟨w2.heap.size, 0, none⟩) (by first | (simp; done) | (simp; omega) | omega) (by simp)).trans (eb30 _)
        have b51 : w5.cell? ⟨w2.heap.size, 1, none⟩ = some (.string L) := (c5.cell (p := ⟨w2.heap.size, 1, none⟩) (by first | (simp; done) | (simp; omega) | omega) (by simp)).trans (eb31 _)
        have b52 : w5.cell? ⟨w2.heap.size, 2, none⟩ = some (.int .i64 0) := (c5.cell (p := ⟨w2.heap.size, 2, none⟩) (by first | (simp; done) | (simp; omega) | omega) (by simp)).trans (eb32 _)
        have b53 : w5.cell? ⟨w2.heap.size, 3, none⟩ = some (.string ⟨#[]⟩) := (c5.cell (p := ⟨w2.heap.size, 3, none⟩) (by first | (simp; done) | (simp; omega) | omega) (by simp)).trans (eb33 _)
        clear c5
        go_wp2_with fail
        refine bodyPost_ret (v := .tuple #[.agg #[.string ⟨#[]⟩, .string ⟨#[]⟩, .int .i64 0, .string ⟨#[]⟩], .bool false]) (by simp only [results, Tryz.results32]; go_simp) rfl ?_
        exact CallIs.no HN.out (by repeat (first | with_reducible exact d5 | with_reducible exact Chg.refl _ _ | with_reducible refine Chg.drew ?_ | with_reducible refine Chg.drewN ?_ _ | with_reducible refine Chg.alloc ?_ _ | with_reducible refine Chg.setCell ?_ (.inr (by simp; try omega)) _))
      · have HY := Lib.hid (YES.out hts hs0)
        have hb0 : (s.toList == []) = false := by
          rw [beq_eq_false_iff_ne, ByteArray.toList_eq]
          intro e
          have := congrArg List.length e
          rw [size_list] at this
          exact hs0 this
        subst hts
        clear YES NO hs0
        go_enter Tryz.func32, Tryz.ntmps32
        go_wp2_with fail
        refine (SP.out _).mono ?_
        intro e w2 G
        obtain ⟨A, cap, rfl, hN⟩ := G.sl
        have hrd := hN.rd
        obtain ⟨hcap, b, off, rfl, hb, q0, qm⟩ := C0.out _ _ _ _ hrd
        have c2 := hN.chg
        obtain ⟨y2a, z2a, s2⟩ := c2.cells
        have y2 := fun o => y2a w.heap.size o (by simp)
        have z2 := fun o => z2a w.heap.size o (by simp)
        have d2 : Chg [] w w2 := Chg.trans0 ((Chg.refl _ _).alloc _) c2
        have t2 : w.heap.size < w2.heap.size := by simp at s2; omega
        have tt : w.heap.size < w.heap.size + 1 := by omega
        have HRD := Lib.hid hrd
        rw [hm] at hcap
        clear hrd y2a z2a c2 hN G
        rw [hm]
        go_wp2_with fail
        refine (PN2.out _).mono ?_
        rintro e w3 ⟨rfl, c3⟩
        have s3 := c3.size
        have y3 : ∀ o, w3.cell? ⟨w.heap.size, o, none⟩ = (w.alloc (.cells #[.string ⟨#[]⟩, .string ⟨#[]⟩, .int .i64 0, .string ⟨#[]⟩] 39)).cell? ⟨w.heap.size, o, none⟩ := fun o => (c3.cell (p := ⟨w.heap.size, o, none⟩) (by simp; omega) (by simp)).trans ((((Chg.refl [] w2).alloc _).cell (p := ⟨w.heap.size, o, none⟩) (by simpa using t2) (by simp)).trans (y2 o))
        have z3 : ∀ o, w3.frozen? ⟨w.heap.size, o, none⟩ = (w.alloc (.cells #[.string ⟨#[]⟩, .string ⟨#[]⟩, .int .i64 0, .string ⟨#[]⟩] 39)).frozen? ⟨w.heap.size, o, none⟩ := fun o => (c3.frozen (p := ⟨w.heap.size, o, none⟩) (by simp; omega) (by simp)).trans ((((Chg.refl [] w2).alloc _).frozen (p := ⟨w.heap.size, o, none⟩) (by simpa using t2) (by simp)).trans (z2 o))
        have q03 : w3.cell? ⟨b, off, none⟩ = some (.string M) := (c3.cell (p := ⟨b, off, none⟩) (by simp; omega) (by simp)).trans ((((Chg.refl [] w2).alloc _).cell (p := ⟨b, off, none⟩) (by simpa using hb) (by simp)).trans q0)
        have d3 : Chg [] w w3 := Chg.trans0 (d2.alloc _) c3
        have t3 : w.heap.size < w3.heap.size := by simp at s3; omega
        have u3 : w2.heap.size < w3.heap.size := by simp at s3; omega
        have f3x : ∀ o, w3.frozen? ⟨w2.heap.size, o, none⟩ = (w2.alloc (.cells #[.string M, .string ⟨#[]⟩, .int .i64 0, .string ⟨#[]⟩] 39)).frozen? ⟨w2.heap.size, o, none⟩ := fun o => c3.frozen (p := ⟨w2.heap.size, o, none⟩) (by simp) (by simp)
        have b30 : w3.cell? ⟨w2.heap.size, 0, none⟩ = some (.string M) := (c3.cell (p := ⟨w2.heap.size, 0, none⟩) (by simp) (by simp)).trans (by go_simp)
        have b31 : w3.cell? ⟨w2.heap.size, 1, none⟩ = some (.string ⟨#[]⟩) := (c3.cell (p := ⟨w2.heap.size, 1, none⟩) (by simp) (by simp)).trans (by go_simp)
        have b32 : w3.cell? ⟨w2.heap.size, 2, none⟩ = some (.int .i64 0) := (c3.cell (p := ⟨w2.heap.size, 2, none⟩) (by simp) (by simp)).trans (by go_simp)
        have b33 : w3.cell? ⟨w2.heap.size, 3, none⟩ = some (.string ⟨#[]⟩) := (c3.cell (p := ⟨w2.heap.size, 3, none⟩) (by simp) (by simp)).trans (by go_simp)
        have C23 : Hid (Chg [] w2 w3) := Lib.hid (((Chg.refl [] w2).alloc _).trans0 c3)
        have v3 : w2.heap.size < w2.heap.size + 1 := by omega
        clear c3 y2 z2
        have eb30 : ∀ u, (w3.setCell ⟨w2.heap.size, 1, none⟩ u).cell? ⟨w2.heap.size, 0, none⟩ = some (.string M) := fun u => by rw [World.cell?_setCell_other _ _ _ _ (by simp)]; exact b30
        have eb31 : ∀ u, (w3.setCell ⟨w2.heap.size, 1, none⟩ u).cell? ⟨w2.heap.size, 1, none⟩ = some u := fun u => World.cell?_setCell_same _ _ _ b31
        have eb32 : ∀ u, (w3.setCell ⟨w2.heap.size, 1, none⟩ u).cell? ⟨w2.heap.size, 2, none⟩ = some (.int .i64 0) := fun u => by rw [World.cell?_setCell_other _ _ _ _ (by simp)]; exact b32
        have eb33 : ∀ u, (w3.setCell ⟨w2.heap.size, 1, none⟩ u).cell? ⟨w2.heap.size, 3, none⟩ = some (.string ⟨#[]⟩) := fun u => by rw [World.cell?_setCell_other _ _ _ _ (by simp)]; exact b33
        go_wp2_with fail
        refine (FX.out _).mono ?_
        rintro e w5 ⟨rfl, c5⟩
        have s5 := c5.size
        have d5 : Chg [] w w5 := Chg.trans0 (by repeat (first | with_reducible exact d3 | with_reducible exact Chg.refl _ _ | with_reducible refine Chg.drew ?_ | with_reducible refine Chg.drewN ?_ _ | with_reducible refine Chg.alloc ?_ _ | with_reducible refine Chg.setCell ?_ (.inr (by simp; try omega)) _)) c5
        have t5 : w.heap.size < w5.heap.size := by first | omega | (simp at s5; omega)
        have u5 : w2.heap.size < w5.heap.size := by first | omega | (simp at s5; omega)
        have n5 : ¬ w2.heap.size = w.heap.size := by omega
        have y5 : ∀ o, w5.cell? ⟨w.heap.size, o, none⟩ = (w.alloc (.cells #[.string ⟨#[]⟩, .string ⟨#[]⟩, .int .i64 0, .string ⟨#[]⟩] 39)).cell? ⟨w.heap.size, o, none⟩ := fun o => (c5.cell (p := ⟨w.heap.size, o, none⟩) (by first | (simp; done) | (simp; omega) | omega) (by simp)).trans (by first | exact y3 o | (rw [World.cell?_setCell_other _ _ _ _ (by first | (simp; done) | (simp; omega))]; exact y3 o) | (rw [World.cell?_setCell_other _ _ _ _ (by first | (simp; done) | (simp; omega)), World.cell?_setCell_other _ _ _ _ (by first | (simp; done) | (simp; omega))]; exact y3 o))
        have z5 : ∀ o, w5.frozen? ⟨w.heap.size, o, none⟩ = (w.alloc (.cells #[.string ⟨#[]⟩, .string ⟨#[]⟩, .int .i64 0, .string ⟨#[]⟩] 39)).frozen? ⟨w.heap.size, o, none⟩ := fun o => (c5.frozen (p := ⟨w.heap.size, o, none⟩) (by first | (simp; done) | (simp; omega) | omega) (by simp)).trans (by rw [← z3 o]; try simp)
        have b50 : w5.cell? ⟨w2.heap.size, 0, none⟩ = some (.string M) := (c5.cell (p := ⟨w2.heap.size, 0, none⟩) (by first | (simp; done) | (simp; omega) | omega) (by simp)).trans (eb30 _)
        have b51 : w5.cell? ⟨w2.heap.size, 1, none⟩ = some (.string L) := (c5.cell (p := ⟨w2.heap.size, 1, none⟩) (by first | (simp; done) | (simp; omega) | omega) (by simp)).trans (eb31 _)
        have b52 : w5.cell? ⟨w2.heap.size, 2, none⟩ = some (.int .i64 0) := (c5.cell (p := ⟨w2.heap.size, 2, none⟩) (by first | (simp; done) | (simp; omega) | omega) (by simp)).trans (eb32 _)
        have b53 : w5.cell? ⟨w2.heap.size, 3, none⟩ = some (.string ⟨#[]⟩) := (c5.cell (p := ⟨w2.heap.size, 3, none⟩) (by first | (simp; done) | (simp; omega) | omega) (by simp)).trans (eb33 _)
        clear c5
        go_wp2_with fail
        refine bodyPost_ret (v := .tuple #[.agg #[.string M, .string L, .int .i64 0, .string ⟨#[]⟩], .bool true]) (by simp only [results, Tryz.results32]; go_simp) rfl ?_
        exact CallIs.yes (x := (⟨M, L,  0, ⟨#[]⟩⟩ : CallT)) HY.out (by repeat (first | with_reducible exact d5 | with_reducible exact Chg.refl _ _ | with_reducible refine Chg.drew ?_ | with_reducible refine Chg.drewN ?_ _ | with_reducible refine Chg.alloc ?_ _ | with_reducible refine Chg.setCell ?_ (.inr (by simp; try omega)) _))
    · have HN := Lib.hid (NO.out (fun h => hts h.1))
      have hb := str_ne hts
      clear YES NO hts
      go_enter Tryz.func32, Tryz.ntmps32
      go_wp2_with fail
      refine (SP.out _).mono ?_
      intro e w2 G
      obtain ⟨A, cap, rfl, hN⟩ := G.sl
      have hrd := hN.rd
      obtain ⟨hcap, b, off, rfl, hb, q0, qm⟩ := C0.out _ _ _ _ hrd
      have c2 := hN.chg
      obtain ⟨y2a, z2a, s2⟩ := c2.cells
      have y2 := fun o => y2a w.heap.size o (by simp)
      have z2 := fun o => z2a w.heap.size o (by simp)
      have d2 : Chg [] w w2 := Chg.trans0 ((Chg.refl _ _).alloc _) c2
      have t2 : w.heap.size < w2.heap.size := by simp at s2; omega
      have tt : w.heap.size < w.heap.size + 1 := by omega
      have HRD := Lib.hid hrd
      rw [hm] at hcap
      clear hrd y2a z2a c2 hN G
      rw [hm]
      go_wp2_with fail
      refine (PN2.out _).mono ?_
      rintro e w3 ⟨rfl, c3⟩
      have s3 := c3.size
      have y3 : ∀ o, w3.cell? ⟨w.heap.size, o, none⟩ = (w.alloc (.cells #[.string ⟨#[]⟩, .string ⟨#[]⟩, .int .i64 0, .string ⟨#[]⟩] 39)).cell? ⟨w.heap.size, o, none⟩ := fun o => (c3.cell (p := ⟨w.heap.size, o, none⟩) (by simp; omega) (by simp)).trans ((((Chg.refl [] w2).alloc _).cell (p := ⟨w.heap.size, o, none⟩) (by simpa using t2) (by simp)).trans (y2 o))
      have z3 : ∀ o, w3.frozen? ⟨w.heap.size, o, none⟩ = (w.alloc (.cells #[.string ⟨#[]⟩, .string ⟨#[]⟩, .int .i64 0, .string ⟨#[]⟩] 39)).frozen? ⟨w.heap.size, o, none⟩ := fun o => (c3.frozen (p := ⟨w.heap.size, o, none⟩) (by simp; omega) (by simp)).trans ((((Chg.refl [] w2).alloc _).frozen (p := ⟨w.heap.size, o, none⟩) (by simpa using t2) (by simp)).trans (z2 o))
      have q03 : w3.cell? ⟨b, off, none⟩ = some (.string M) := (c3.cell (p := ⟨b, off, none⟩) (by simp; omega) (by simp)).trans ((((Chg.refl [] w2).alloc _).cell (p := ⟨b, off, none⟩) (by simpa using hb) (by simp)).trans q0)
      have d3 : Chg [] w w3 := Chg.trans0 (d2.alloc _) c3
      have t3 : w.heap.size < w3.heap.size := by simp at s3; omega
      have u3 : w2.heap.size < w3.heap.size := by simp at s3; omega
      have f3x : ∀ o, w3.frozen? ⟨w2.heap.size, o, none⟩ = (w2.alloc (.cells #[.string M, .string ⟨#[]⟩, .int .i64 0, .string ⟨#[]⟩] 39)).frozen? ⟨w2.heap.size, o, none⟩ := fun o => c3.frozen (p := ⟨w2.heap.size, o, none⟩) (by simp) (by simp)
      have b30 : w3.cell? ⟨w2.heap.size, 0, none⟩ = some (.string M) := (c3.cell (p := ⟨w2.heap.size, 0, none⟩) (by simp) (by simp)).trans (by go_simp)
      have b31 : w3.cell? ⟨w2.heap.size, 1, none⟩ = some (.string ⟨#[]⟩) := (c3.cell (p := ⟨w2.heap.size, 1, none⟩) (by simp) (by simp)).trans (by go_simp)
      have b32 : w3.cell? ⟨w2.heap.size, 2, none⟩ = some (.int .i64 0) := (c3.cell (p := ⟨w2.heap.size, 2, none⟩) (by simp) (by simp)).trans (by go_simp)
      have b33 : w3.cell? ⟨w2.heap.size, 3, none⟩ = some (.string ⟨#[]⟩) := (c3.cell (p := ⟨w2.heap.size, 3, none⟩) (by simp) (by simp)).trans (by go_simp)
      have C23 : Hid (Chg [] w2 w3) := Lib.hid (((Chg.refl [] w2).alloc _).trans0 c3)
      have v3 : w2.heap.size < w2.heap.size + 1 := by omega
      clear c3 y2 z2
      have eb30 : ∀ u, (w3.setCell ⟨w2.heap.size, 1, none⟩ u).cell? ⟨w2.heap.size, 0, none⟩ = some (.string M) := fun u => by rw [World.cell?_setCell_other _ _ _ _ (by simp)]; exact b30
      have eb31 : ∀ u, (w3.setCell ⟨w2.heap.size, 1, none⟩ u).cell? ⟨w2.heap.size, 1, none⟩ = some u := fun u => World.cell?_setCell_same _ _ _ b31
      have eb32 : ∀ u, (w3.setCell ⟨w2.heap.size, 1, none⟩ u).cell? ⟨w2.heap.size, 2, none⟩ = some (.int .i64 0) := fun u => by rw [World.cell?_setCell_other _ _ _ _ (by simp)]; exact b32
      have eb33 : ∀ u, (w3.setCell ⟨w2.heap.size, 1, none⟩ u).cell? ⟨w2.heap.size, 3, none⟩ = some (.string ⟨#[]⟩) := fun u => by rw [World.cell?_setCell_other _ _ _ _ (by simp)]; exact b33
      go_wp2_with fail
      refine (FX.out _).mono ?_
      rintro e w5 ⟨rfl, c5⟩
      have s5 := c5.size
      have d5 : Chg [] w w5 := Chg.trans0 (by repeat (first | with_reducible exact d3 | with_reducible exact Chg.refl _ _ | with_reducible refine Chg.drew ?_ | with_reducible refine Chg.drewN ?_ _ | with_reducible refine Chg.alloc ?_ _ | with_reducible refine Chg.setCell ?_ (.inr (by simp; try omega)) _)) c5
      have t5 : w.heap.size < w5.heap.size := by first | omega | (simp at s5; omega)
      have u5 : w2.heap.size < w5.heap.size := by first | omega | (simp at s5; omega)
      have n5 : ¬ w2.heap.size = w.heap.size := by omega
      have y5 : ∀ o, w5.cell? ⟨w.heap.size, o, none⟩ = (w.alloc (.cells #[.string ⟨#[]⟩, .string ⟨#[]⟩, .int .i64 0, .string ⟨#[]⟩] 39)).cell? ⟨w.heap.size, o, none⟩ := fun o => (c5.cell (p := ⟨w.heap.size, o, none⟩) (by first | (simp; done) | (simp; omega) | omega) (by simp)).trans (by first | exact y3 o | (rw [World.cell?_setCell_other _ _ _ _ (by first | (simp; done) | (simp; omega))]; exact y3 o) | (rw [World.cell?_setCell_other _ _ _ _ (by first | (simp; done) | (simp; omega)), World.cell?_setCell_other _ _ _ _ (by first | (simp; done) | (simp; omega))]; exact y3 o))
      have z5 : ∀ o, w5.frozen? ⟨w.heap.size, o, none⟩ = (w.alloc (.cells #[.string ⟨#[]⟩, .string ⟨#[]⟩, .int .i64 0, .string ⟨#[]⟩] 39)).frozen? ⟨w.heap.size, o, none⟩ := fun o => (c5.frozen (p := ⟨w.heap.size, o, none⟩) (by first | (simp; done) | (simp; omega) | omega) (by simp)).trans (by rw [← z3 o]; try simp)
      have b50 : w5.cell? ⟨w2.heap.size, 0, none⟩ = some (.string M) := (c5.cell (p := ⟨w2.heap.size, 0, none⟩) (by first | (simp; done) | (simp; omega) | omega) (by simp)).trans (eb30 _)
      have b51 : w5.cell? ⟨w2.heap.size, 1, none⟩ = some (.string L) := (c5.cell (p := ⟨w2.heap.size, 1, none⟩) (by first | (simp; done) | (simp; omega) | omega) (by simp)).trans (eb31 _)
      have b52 : w5.cell? ⟨w2.heap.size, 2, none⟩ = some (.int .i64 0) := (c5.cell (p := ⟨w2.heap.size, 2, none⟩) (by first | (simp; done) | (simp; omega) | omega) (by simp)).trans (eb32 _)
      have b53 : w5.cell? ⟨w2.heap.size, 3, none⟩ = some (.string ⟨#[]⟩) := (c5.cell (p := ⟨w2.heap.size, 3, none⟩) (by first | (simp; done) | (simp; omega) | omega) (by simp)).trans (eb33 _)
      clear c5
      go_wp2_with fail
      refine bodyPost_ret (v := .tuple #[.agg #[.string ⟨#[]⟩, .string ⟨#[]⟩, .int .i64 0, .string ⟨#[]⟩], .bool false]) (by simp only [results, Tryz.results32]; go_simp) rfl ?_
      exact CallIs.no HN.out (by repeat (first | with_reducible exact d5 | with_reducible exact Chg.refl _ _ | with_reducible refine Chg.drew ?_ | with_reducible refine Chg.drewN ?_ _ | with_reducible refine Chg.alloc ?_ _ | with_reducible refine Chg.setCell ?_ (.inr (by simp; try omega)) _))
  · exact absurd (hk.symm.trans hmm) (by decide)
  · exact absurd (hk.symm.trans hmm) (by decide)
  · exact absurd (hk.symm.trans hmm) (by decide)
  · exact absurd hk (by first | exact hmm.1 | exact hmm.2.1 | exact hmm.2.2.1 | exact hmm.2.2.2)
set_option maxRecDepth 100000 in
set_option maxHeartbeats 3000000 in
theorem parseCall_spec_put (s : ByteArray) (w : World) (hs : s.size ≤ 100000) (hk : (splitS 32 s).headD noB = mPut) :
    Calls Tryz.prog 32 #[.string s] w (CallIs (callS s) w) := by
  have SP := Lib.hid (fun W => splitAt_one_any s 32 W (by omega))
  have RAW : rawS s = rawS s := rfl
  conv at RAW => rhs; unfold rawS
  dsimp only at RAW
  have HT := tot_split s
  have hne := spL_ne s.data.toList
  rw [← splitS_spL] at hne
  obtain ⟨P, hP⟩ : ∃ P, P = splitS 32 s := ⟨_, rfl⟩
  rw [← hP] at SP RAW HT hne hk
  obtain ⟨m, hm⟩ : ∃ m, P.length = m + 1 := ⟨P.length - 1, by have := List.length_pos_iff.2 hne; omega⟩
  have hmT : m + 1 ≤ s.size + 1 := by rw [← hm, ← HT]; exact tot_len P
  have hM : P.headD noB = P[0]'(by omega) := by
    cases P with
    | nil => exact absurd rfl hne
    | cons x r => rfl
  have hL : P.getLastD noB = P[m]'(by omega) := by
    rw [List.getLastD_eq_getLast?, List.getLast?_eq_getElem?, show P.length - 1 = m by omega, List.getElem?_eq_getElem (by omega)]
    rfl
  have zM := tot_mem (List.getElem_mem (show 0 < P.length by omega))
  have zL := tot_mem (List.getElem_mem (show m < P.length by omega))
  have zK := joinB_tot ((P.drop 1).dropLast)
  have zT := joinB_tot (P.drop 1)
  have tK : tot ((P.drop 1).dropLast) ≤ tot P := by rw [List.dropLast_eq_take]; exact Nat.le_trans (tot_take _ _) (tot_drop _ _)
  have tT : tot (P.drop 1) ≤ tot P := tot_drop _ _
  have pm := put_mid hm
  have pl := mid_load (P := P)
  rw [hM, hL] at RAW
  rw [hM] at hk
  obtain ⟨M, hMM⟩ : ∃ M, M = P[0]'(by omega) := ⟨_, rfl⟩
  obtain ⟨L, hLL⟩ : ∃ L, L = P[m]'(by omega) := ⟨_, rfl⟩
  obtain ⟨K, hK⟩ : ∃ K, K = joinB ((P.drop 1).dropLast) spB := ⟨_, rfl⟩
  obtain ⟨T, hT⟩ : ∃ T, T = joinB (P.drop 1) spB := ⟨_, rfl⟩
  rw [← hMM, ← hLL] at RAW
  rw [← hMM] at hk
  rw [← hMM] at zM
  rw [← hLL] at zL
  rw [← hK] at RAW zK
  rw [← hT] at RAW zT
  have CELLS := Lib.hid (fun W B A cap (hr : Rd W B (strs P) (.slice A P.length cap)) => strs_cells (strs_row hr).choose_spec.choose_spec.2.2.2 0 (by omega))
  have PN := Lib.hid (fun W => parseNumber_spec_any L W (by omega))
  have JK := Lib.hid (fun W u B (hr : Rd W B (strs ((P.take (max 1 m)).drop 1)) u) (hB : B ≤ W.heap.size) => joinWith_spec_any _ spB u B W (by have := tot_len ((P.take (max 1 m)).drop 1); have := tot_drop (P.take (max 1 m)) 1; have := tot_take P (max 1 m); omega) (by decide) (by have := tot_W1 ((P.take (max 1 m)).drop 1); have := tot_drop (P.take (max 1 m)) 1; have := tot_take P (max 1 m); omega) hr hB)
  have JT := Lib.hid (fun W u B (hr : Rd W B (strs ((P.take P.length).drop 1)) u) (hB : B ≤ W.heap.size) => joinWith_spec_any _ spB u B W (by have := tot_len ((P.take P.length).drop 1); have := tot_drop (P.take P.length) 1; have := tot_take P P.length; omega) (by decide) (by have := tot_W1 ((P.take P.length).drop 1); have := tot_drop (P.take P.length) 1; have := tot_take P P.length; omega) hr hB)
  rw [pm, ← hK] at JK
  rw [pl, ← hT] at JT
  have FC := Lib.hid (fun (x : CallT) (hk : x.key.size ≤ 1048576) (hx : x.text.size ≤ 1048576) W => formatCall_spec_any x W hk hx)
  have hmB : m ≤ 100000 := by omega
  have hMs : M.size ≤ 200000 := by omega
  have hLs : L.size ≤ 200000 := by omega
  have hKs : K.size ≤ 200000 := by omega
  have hTs : T.size ≤ 200000 := by omega
  have SL := Lib.hid (fun (A : Option Addr) (cap : Nat) (hc : m + 1 ≤ cap) W => sub_lh A (m + 1) cap 1 (max 1 m) W (by omega) (by omega) hc)
  have SL2 := Lib.hid (fun (A : Option Addr) (cap : Nat) W => sub_l A (m + 1) cap 1 W (by omega))
  have SR := Lib.hid (fun W B A cap (hr : Rd W B (strs P) (.slice A P.length cap)) => by have h := sub_rd (i := 1) (j := max 1 m) hr (by omega) (by omega); rw [pm] at h; exact h)
  have SR2 := Lib.hid (fun W B A cap (hr : Rd W B (strs P) (.slice A P.length cap)) => by have h := sub_rd (i := 1) (j := P.length) hr (by omega) (Nat.le_refl _); rw [mid_load] at h; exact h)
  have C0 : Hid (∀ W B A cap, Rd W B (strs P) (.slice A P.length cap) → P.length ≤ cap ∧ ∃ b off, A = some ⟨b, off, none⟩ ∧ b < B ∧ W.cell? ⟨b, off, none⟩ = some (.string M) ∧ W.cell? ⟨b, off + m, none⟩ = some (.string L)) := by
    intro W B A cap hr
    obtain ⟨_, _, e, h0, _, hrow⟩ := strs_row hr
    cases e
    obtain ⟨b, off, rfl, hb, q0⟩ := strs_cells hrow 0 (by omega)
    obtain ⟨b2, off2, e2, _, qm⟩ := strs_cells hrow m (by omega)
    cases e2
    exact ⟨h0, b, off, rfl, hb, by rw [hMM]; exact q0, by rw [hLL]; exact qm⟩
  clear pm pl zK zT tK tT hne hM hL HT hP zM zL hmT CELLS hMM hLL hK hT
  obtain ⟨v, hv⟩ : ∃ v, v = parseNum L := ⟨_, rfl⟩
  have PN2 : Hid (∀ W, Calls Tryz.prog 30 #[.string L] W (fun e w1 => e = .returned (.tuple #[.int .i64 (v.getD 0), .bool v.isSome]) ∧ Chg [] W w1)) := by rw [hv]; exact PN.out
  rw [← hv] at RAW
  obtain ⟨z, hz⟩ : ∃ z, z = v.getD 0 := ⟨_, rfl⟩
  obtain ⟨f3, hf3⟩ : ∃ f, f = v.isSome := ⟨_, rfl⟩
  rw [← hz] at RAW
  rw [← hz, ← hf3] at PN2
  clear PN hv hz hf3
  rcases methCases M with ⟨hmm, m1, m2, m3, m4⟩ | ⟨hmm, m1, m2, m3, m4⟩ | ⟨hmm, m1, m2, m3, m4⟩ | ⟨hmm, m1, m2, m3, m4⟩ | ⟨hmm, m1, m2, m3, m4⟩
  · exact absurd (hk.symm.trans hmm) (by decide)
  · rw [if_neg (by rw [hmm]; decide), if_pos hmm] at RAW
    have RAW : Hid (rawS s = (⟨M, K,  z, ⟨#[]⟩⟩ : CallT)) := RAW
    have FX := FC.out (⟨M, K,  z, ⟨#[]⟩⟩ : CallT) (by first | (show L.size ≤ _; omega) | (show K.size ≤ _; omega) | exact Nat.zero_le _) (by first | (show T.size ≤ _; omega) | exact Nat.zero_le _)
    have YES := callS_yes RAW.out
    have NO := callS_no RAW.out
    obtain ⟨t, ht⟩ : ∃ t, t = callT (⟨M, K,  z, ⟨#[]⟩⟩ : CallT) := ⟨_, rfl⟩
    rw [← ht] at FX YES NO
    have FX := Lib.hid FX
    have YES := Lib.hid YES
    have NO := Lib.hid NO
    clear ht RAW hmm hk FC hLs hKs hTs hMs
    by_cases hts : t = s
    · by_cases hs0 : s.size = 0
      · have HN := Lib.hid (NO.out (fun h => h.2 hs0))
        have hb0 : (s.toList == []) = true := by rw [noB_of hs0, ByteArray.toList_eq]; rfl
        subst hts
        clear YES NO hs0
        go_enter Tryz.func32, Tryz.ntmps32
        go_wp2_with fail
        refine (SP.out _).mono ?_
        intro e w2 G
        obtain ⟨A, cap, rfl, hN⟩ := G.sl
        have hrd := hN.rd
        obtain ⟨hcap, b, off, rfl, hb, q0, qm⟩ := C0.out _ _ _ _ hrd
        have c2 := hN.chg
        obtain ⟨y2a, z2a, s2⟩ := c2.cells
        have y2 := fun o => y2a w.heap.size o (by simp)
        have z2 := fun o => z2a w.heap.size o (by simp)
        have d2 : Chg [] w w2 := Chg.trans0 ((Chg.refl _ _).alloc _) c2
        have t2 : w.heap.size < w2.heap.size := by simp at s2; omega
        have tt : w.heap.size < w.heap.size + 1 := by omega
        have HRD := Lib.hid hrd
        rw [hm] at hcap
        have SLW0 := SL.out (some ⟨b, off, none⟩) cap hcap
        have SRW := SR.out _ _ _ _ hrd
        obtain ⟨A3, n3, c3v, hsv⟩ : ∃ A3 n3 c3, subV (some ⟨b, off, none⟩) cap 1 (max 1 m) = .slice A3 n3 c3 := ⟨_, _, _, rfl⟩
        rw [hsv] at SLW0 SRW
        have SLW : ∀ W, (Instr.slice 30 (.slice (some ⟨b, off, none⟩) (m + 1) cap) (some (.int .i64 1)) (some (.int .i64 ((m : Int) + 1 - min 1 (m : Int)))) none).run Tryz.prog W = .ok (.slice A3 n3 c3v) W := fun W => by
          rw [show ((m : Int) + 1 - min 1 (m : Int)) = ((max 1 m : Nat) : Int) from by omega]
          exact SLW0 W
        have SAW : ∀ W, (Instr.sliceAt 30 (.slice (some ⟨b, off, none⟩) (m + 1) cap) (some (.int .i64 1)) (some (.int .i64 ((m : Int) + 1 - min 1 (m : Int)))) none).run Tryz.prog W = .ok (.slice A3 n3 c3v) W := fun W => by
          rw [run_sliceAt_slice (h := by rw [elem_strs]; exact Tryz.underlying30)]
          exact SLW W
        have SRW := Lib.hid SRW
        clear hsv SLW0
        clear hrd y2a z2a c2 hN G
        rw [hm]
        go_wp2_with fail
        refine (PN2.out _).mono ?_
        rintro e w3 ⟨rfl, c3⟩
        have s3 := c3.size
        have y3 : ∀ o, w3.cell? ⟨w.heap.size, o, none⟩ = (w.alloc (.cells #[.string ⟨#[]⟩, .string ⟨#[]⟩, .int .i64 0, .string ⟨#[]⟩] 39)).cell? ⟨w.heap.size, o, none⟩ := fun o => (c3.cell (p := ⟨w.heap.size, o, none⟩) (by simp; omega) (by simp)).trans ((((Chg.refl [] w2).alloc _).cell (p := ⟨w.heap.size, o, none⟩) (by simpa using t2) (by simp)).trans (y2 o))
        have z3 : ∀ o, w3.frozen? ⟨w.heap.size, o, none⟩ = (w.alloc (.cells #[.string ⟨#[]⟩, .string ⟨#[]⟩, .int .i64 0, .string ⟨#[]⟩] 39)).frozen? ⟨w.heap.size, o, none⟩ := fun o => (c3.frozen (p := ⟨w.heap.size, o, none⟩) (by simp; omega) (by simp)).trans ((((Chg.refl [] w2).alloc _).frozen (p := ⟨w.heap.size, o, none⟩) (by simpa using t2) (by simp)).trans (z2 o))
        have q03 : w3.cell? ⟨b, off, none⟩ = some (.string M) := (c3.cell (p := ⟨b, off, none⟩) (by simp; omega) (by simp)).trans ((((Chg.refl [] w2).alloc _).cell (p := ⟨b, off, none⟩) (by simpa using hb) (by simp)).trans q0)
        have d3 : Chg [] w w3 := Chg.trans0 (d2.alloc _) c3
        have t3 : w.heap.size < w3.heap.size := by simp at s3; omega
        have u3 : w2.heap.size < w3.heap.size := by simp at s3; omega
        have f3x : ∀ o, w3.frozen? ⟨w2.heap.size, o, none⟩ = (w2.alloc (.cells #[.string M, .string ⟨#[]⟩, .int .i64 0, .string ⟨#[]⟩] 39)).frozen? ⟨w2.heap.size, o, none⟩ := fun o => c3.frozen (p := ⟨w2.heap.size, o, none⟩) (by simp) (by simp)
        have b30 : w3.cell? ⟨w2.heap.size, 0, none⟩ = some (.string M) := (c3.cell (p := ⟨w2.heap.size, 0, none⟩) (by simp) (by simp)).trans (by go_simp)
        have b31 : w3.cell? ⟨w2.heap.size, 1, none⟩ = some (.string ⟨#[]⟩) := (c3.cell (p := ⟨w2.heap.size, 1, none⟩) (by simp) (by simp)).trans (by go_simp)
        have b32 : w3.cell? ⟨w2.heap.size, 2, none⟩ = some (.int .i64 0) := (c3.cell (p := ⟨w2.heap.size, 2, none⟩) (by simp) (by simp)).trans (by go_simp)
        have b33 : w3.cell? ⟨w2.heap.size, 3, none⟩ = some (.string ⟨#[]⟩) := (c3.cell (p := ⟨w2.heap.size, 3, none⟩) (by simp) (by simp)).trans (by go_simp)
        have C23 : Hid (Chg [] w2 w3) := Lib.hid (((Chg.refl [] w2).alloc _).trans0 c3)
        have v3 : w2.heap.size < w2.heap.size + 1 := by omega
        clear c3 y2 z2
        have JW := JK.out w3 _ w2.heap.size (SRW.out.below (C23.out.below (by simp) (Nat.le_refl _))) (by omega)
        have JW := Lib.hid JW
        go_wp2_with fail
        refine (l1Min_any _ _ _).mono ?_
        rintro e w3b ⟨rfl, rfl⟩
        go_wp2_with fail
        refine JW.out.mono ?_
        rintro e w4 ⟨rfl, c4⟩
        have s4 := c4.size
        have y4 : ∀ o, w4.cell? ⟨w.heap.size, o, none⟩ = (w.alloc (.cells #[.string ⟨#[]⟩, .string ⟨#[]⟩, .int .i64 0, .string ⟨#[]⟩] 39)).cell? ⟨w.heap.size, o, none⟩ := fun o => (c4.cell (p := ⟨w.heap.size, o, none⟩) (by simpa using t3) (by simp)).trans (y3 o)
        have z4 : ∀ o, w4.frozen? ⟨w.heap.size, o, none⟩ = (w.alloc (.cells #[.string ⟨#[]⟩, .string ⟨#[]⟩, .int .i64 0, .string ⟨#[]⟩] 39)).frozen? ⟨w.heap.size, o, none⟩ := fun o => (c4.frozen (p := ⟨w.heap.size, o, none⟩) (by simpa using t3) (by simp)).trans (z3 o)
        have f4x := fun o => (c4.frozen (p := ⟨w2.heap.size, o, none⟩) u3 (by simp)).trans (f3x o)
        have b40 : w4.cell? ⟨w2.heap.size, 0, none⟩ = some (.string M) := (c4.cell (p := ⟨w2.heap.size, 0, none⟩) u3 (by simp)).trans b30
        have b41 : w4.cell? ⟨w2.heap.size, 1, none⟩ = some (.string ⟨#[]⟩) := (c4.cell (p := ⟨w2.heap.size, 1, none⟩) u3 (by simp)).trans b31
        have b42 : w4.cell? ⟨w2.heap.size, 2, none⟩ = some (.int .i64 0) := (c4.cell (p := ⟨w2.heap.size, 2, none⟩) u3 (by simp)).trans b32
        have b43 : w4.cell? ⟨w2.heap.size, 3, none⟩ = some (.string ⟨#[]⟩) := (c4.cell (p := ⟨w2.heap.size, 3, none⟩) u3 (by simp)).trans b33
        have d4 : Chg [] w w4 := d3.trans0 c4
        have t4 : w.heap.size < w4.heap.size := by omega
        have u4 : w2.heap.size < w4.heap.size := by omega
        clear c4 y3 z3 f3x
        have eb40 : ∀ u, (w4.setCell ⟨w2.heap.size, 1, none⟩ u).cell? ⟨w2.heap.size, 0, none⟩ = some (.string M) := fun u => by rw [World.cell?_setCell_other _ _ _ _ (by simp)]; exact b40
        have eb41 : ∀ u, (w4.setCell ⟨w2.heap.size, 1, none⟩ u).cell? ⟨w2.heap.size, 1, none⟩ = some u := fun u => World.cell?_setCell_same _ _ _ b41
        have eb42 : ∀ u, (w4.setCell ⟨w2.heap.size, 1, none⟩ u).cell? ⟨w2.heap.size, 2, none⟩ = some (.int .i64 0) := fun u => by rw [World.cell?_setCell_other _ _ _ _ (by simp)]; exact b42
        have eb43 : ∀ u, (w4.setCell ⟨w2.heap.size, 1, none⟩ u).cell? ⟨w2.heap.size, 3, none⟩ = some (.string ⟨#[]⟩) := fun u => by rw [World.cell?_setCell_other _ _ _ _ (by simp)]; exact b43
        have g0 : ∀ u u2, ((w4.setCell ⟨w2.heap.size, 1, none⟩ u).setCell ⟨w2.heap.size, 2, none⟩ u2).cell? ⟨w2.heap.size, 0, none⟩ = some (.string M) := fun u u2 => by rw [World.cell?_setCell_other _ _ _ _ (by simp)]; exact eb40 u
        have g1 : ∀ u u2, ((w4.setCell ⟨w2.heap.size, 1, none⟩ u).setCell ⟨w2.heap.size, 2, none⟩ u2).cell? ⟨w2.heap.size, 1, none⟩ = some u := fun u u2 => by rw [World.cell?_setCell_other _ _ _ _ (by simp)]; exact eb41 u
        have g2 : ∀ u u2, ((w4.setCell ⟨w2.heap.size, 1, none⟩ u).setCell ⟨w2.heap.size, 2, none⟩ u2).cell? ⟨w2.heap.size, 2, none⟩ = some u2 := fun u u2 => World.cell?_setCell_same _ _ _ (eb42 u)
        have g3 : ∀ u u2, ((w4.setCell ⟨w2.heap.size, 1, none⟩ u).setCell ⟨w2.heap.size, 2, none⟩ u2).cell? ⟨w2.heap.size, 3, none⟩ = some (.string ⟨#[]⟩) := fun u u2 => by rw [World.cell?_setCell_other _ _ _ _ (by simp)]; exact eb43 u
        go_wp2_with fail
        refine (FX.out _).mono ?_
        rintro e w5 ⟨rfl, c5⟩
        have s5 := c5.size
        have d5 : Chg [] w w5 := Chg.trans0 (by repeat (first | with_reducible exact d4 | with_reducible exact Chg.refl _ _ | with_reducible refine Chg.drew ?_ | with_reducible refine Chg.drewN ?_ _ | with_reducible refine Chg.alloc ?_ _ | with_reducible refine Chg.setCell ?_ (.inr (by simp; try omega)) _)) c5
        have t5 : w.heap.size < w5.heap.size := by first | omega | (simp at s5; omega)
        have u5 : w2.heap.size < w5.heap.size := by first | omega | (simp at s5; omega)
        have n5 : ¬ w2.heap.size = w.heap.size := by omega
        have y5 : ∀ o, w5.cell? ⟨w.heap.size, o, none⟩ = (w.alloc (.cells #[.string ⟨#[]⟩, .string ⟨#[]⟩, .int .i64 0, .string ⟨#[]⟩] 39)).cell? ⟨w.heap.size, o, none⟩ := fun o => (c5.cell (p := ⟨w.heap.size, o, none⟩) (by first | (simp; done) | (simp; omega) | omega) (by simp)).trans (by first | exact y4 o | (rw [World.cell?_setCell_other _ _ _ _ (by first | (simp; done) | (simp; omega))]; exact y4 o) | (rw [World.cell?_setCell_other _ _ _ _ (by first | (simp; done) | (simp; omega)), World.cell?_setCell_other _ _ _ _ (by first | (simp; done) | (simp; omega))]; exact y4 o))
        have z5 : ∀ o, w5.frozen? ⟨w.heap.size, o, none⟩ = (w.alloc (.cells #[.string ⟨#[]⟩, .string ⟨#[]⟩, .int .i64 0, .string ⟨#[]⟩] 39)).frozen? ⟨w.heap.size, o, none⟩ := fun o => (c5.frozen (p := ⟨w.heap.size, o, none⟩) (by first | (simp; done) | (simp; omega) | omega) (by simp)).trans (by rw [← z4 o]; try simp)
        have b50 : w5.cell? ⟨w2.heap.size, 0, none⟩ = some (.string M) := (c5.cell (p := ⟨w2.heap.size, 0, none⟩) (by first | (simp; done) | (simp; omega) | omega) (by simp)).trans (g0 _ _)
        have b51 : w5.cell? ⟨w2.heap.size, 1, none⟩ = some (.string K) := (c5.cell (p := ⟨w2.heap.size, 1, none⟩) (by first | (simp; done) | (simp; omega) | omega) (by simp)).trans (g1 _ _)
        have b52 : w5.cell? ⟨w2.heap.size, 2, none⟩ = some (.int .i64 z) := (c5.cell (p := ⟨w2.heap.size, 2, none⟩) (by first | (simp; done) | (simp; omega) | omega) (by simp)).trans (g2 _ _)
        have b53 : w5.cell? ⟨w2.heap.size, 3, none⟩ = some (.string ⟨#[]⟩) := (c5.cell (p := ⟨w2.heap.size, 3, none⟩) (by first | (simp; done) | (simp; omega) | omega) (by simp)).trans (g3 _ _)
        clear c5
        go_wp2_with fail
        refine bodyPost_ret (v := .tuple #[.agg #[.string ⟨#[]⟩, .string ⟨#[]⟩, .int .i64 0, .string ⟨#[]⟩], .bool false]) (by simp only [results, Tryz.results32]; go_simp) rfl ?_
        exact CallIs.no HN.out (by repeat (first | with_reducible exact d5 | with_reducible exact Chg.refl _ _ | with_reducible refine Chg.drew ?_ | with_reducible refine Chg.drewN ?_ _ | with_reducible refine Chg.alloc ?_ _ | with_reducible refine Chg.setCell ?_ (.inr (by simp; try omega)) _))
      · have HY := Lib.hid (YES.out hts hs0)
        have hb0 : (s.toList == []) = false := by
          rw [beq_eq_false_iff_ne, ByteArray.toList_eq]
          intro e
          have := congrArg List.length e
          rw [size_list] at this
          exact hs0 this
        subst hts
        clear YES NO hs0
        go_enter Tryz.func32, Tryz.ntmps32
        go_wp2_with fail
        refine (SP.out _).mono ?_
        intro e w2 G
        obtain ⟨A, cap, rfl, hN⟩ := G.sl
        have hrd := hN.rd
        obtain ⟨hcap, b, off, rfl, hb, q0, qm⟩ := C0.out _ _ _ _ hrd
        have c2 := hN.chg
        obtain ⟨y2a, z2a, s2⟩ := c2.cells
        have y2 := fun o => y2a w.heap.size o (by simp)
        have z2 := fun o => z2a w.heap.size o (by simp)
        have d2 : Chg [] w w2 := Chg.trans0 ((Chg.refl _ _).alloc _) c2
        have t2 : w.heap.size < w2.heap.size := by simp at s2; omega
        have tt : w.heap.size < w.heap.size + 1 := by omega
        have HRD := Lib.hid hrd
        rw [hm] at hcap
        have SLW0 := SL.out (some ⟨b, off, none⟩) cap hcap
        have SRW := SR.out _ _ _ _ hrd
        obtain ⟨A3, n3, c3v, hsv⟩ : ∃ A3 n3 c3, subV (some ⟨b, off, none⟩) cap 1 (max 1 m) = .slice A3 n3 c3 := ⟨_, _, _, rfl⟩
        rw [hsv] at SLW0 SRW
        have SLW : ∀ W, (Instr.slice 30 (.slice (some ⟨b, off, none⟩) (m + 1) cap) (some (.int .i64 1)) (some (.int .i64 ((m : Int) + 1 - min 1 (m : Int)))) none).run Tryz.prog W = .ok (.slice A3 n3 c3v) W := fun W => by
          rw [show ((m : Int) + 1 - min 1 (m : Int)) = ((max 1 m : Nat) : Int) from by omega]
          exact SLW0 W
        have SAW : ∀ W, (Instr.sliceAt 30 (.slice (some ⟨b, off, none⟩) (m + 1) cap) (some (.int .i64 1)) (some (.int .i64 ((m : Int) + 1 - min 1 (m : Int)))) none).run Tryz.prog W = .ok (.slice A3 n3 c3v) W := fun W => by
          rw [run_sliceAt_slice (h := by rw [elem_strs]; exact Tryz.underlying30)]
          exact SLW W
        have SRW := Lib.hid SRW
        clear hsv SLW0
        clear hrd y2a z2a c2 hN G
        rw [hm]
        go_wp2_with fail
        refine (PN2.out _).mono ?_
        rintro e w3 ⟨rfl, c3⟩
        have s3 := c3.size
        have y3 : ∀ o, w3.cell? ⟨w.heap.size, o, none⟩ = (w.alloc (.cells #[.string ⟨#[]⟩, .string ⟨#[]⟩, .int .i64 0, .string ⟨#[]⟩] 39)).cell? ⟨w.heap.size, o, none⟩ := fun o => (c3.cell (p := ⟨w.heap.size, o, none⟩) (by simp; omega) (by simp)).trans ((((Chg.refl [] w2).alloc _).cell (p := ⟨w.heap.size, o, none⟩) (by simpa using t2) (by simp)).trans (y2 o))
        have z3 : ∀ o, w3.frozen? ⟨w.heap.size, o, none⟩ = (w.alloc (.cells #[.string ⟨#[]⟩, .string ⟨#[]⟩, .int .i64 0, .string ⟨#[]⟩] 39)).frozen? ⟨w.heap.size, o, none⟩ := fun o => (c3.frozen (p := ⟨w.heap.size, o, none⟩) (by simp; omega) (by simp)).trans ((((Chg.refl [] w2).alloc _).frozen (p := ⟨w.heap.size, o, none⟩) (by simpa using t2) (by simp)).trans (z2 o))
        have q03 : w3.cell? ⟨b, off, none⟩ = some (.string M) := (c3.cell (p := ⟨b, off, none⟩) (by simp; omega) (by simp)).trans ((((Chg.refl [] w2).alloc _).cell (p := ⟨b, off, none⟩) (by simpa using hb) (by simp)).trans q0)
        have d3 : Chg [] w w3 := Chg.trans0 (d2.alloc _) c3
        have t3 : w.heap.size < w3.heap.size := by simp at s3; omega
        have u3 : w2.heap.size < w3.heap.size := by simp at s3; omega
        have f3x : ∀ o, w3.frozen? ⟨w2.heap.size, o, none⟩ = (w2.alloc (.cells #[.string M, .string ⟨#[]⟩, .int .i64 0, .string ⟨#[]⟩] 39)).frozen? ⟨w2.heap.size, o, none⟩ := fun o => c3.frozen (p := ⟨w2.heap.size, o, none⟩) (by simp) (by simp)
        have b30 : w3.cell? ⟨w2.heap.size, 0, none⟩ = some (.string M) := (c3.cell (p := ⟨w2.heap.size, 0, none⟩) (by simp) (by simp)).trans (by go_simp)
        have b31 : w3.cell? ⟨w2.heap.size, 1, none⟩ = some (.string ⟨#[]⟩) := (c3.cell (p := ⟨w2.heap.size, 1, none⟩) (by simp) (by simp)).trans (by go_simp)
        have b32 : w3.cell? ⟨w2.heap.size, 2, none⟩ = some (.int .i64 0) := (c3.cell (p := ⟨w2.heap.size, 2, none⟩) (by simp) (by simp)).trans (by go_simp)
        have b33 : w3.cell? ⟨w2.heap.size, 3, none⟩ = some (.string ⟨#[]⟩) := (c3.cell (p := ⟨w2.heap.size, 3, none⟩) (by simp) (by simp)).trans (by go_simp)
        have C23 : Hid (Chg [] w2 w3) := Lib.hid (((Chg.refl [] w2).alloc _).trans0 c3)
        have v3 : w2.heap.size < w2.heap.size + 1 := by omega
        clear c3 y2 z2
        have JW := JK.out w3 _ w2.heap.size (SRW.out.below (C23.out.below (by simp) (Nat.le_refl _))) (by omega)
        have JW := Lib.hid JW
        go_wp2_with fail
        refine (l1Min_any _ _ _).mono ?_
        rintro e w3b ⟨rfl, rfl⟩
        go_wp2_with fail
        refine JW.out.mono ?_
        rintro e w4 ⟨rfl, c4⟩
        have s4 := c4.size
        have y4 : ∀ o, w4.cell? ⟨w.heap.size, o, none⟩ = (w.alloc (.cells #[.string ⟨#[]⟩, .string ⟨#[]⟩, .int .i64 0, .string ⟨#[]⟩] 39)).cell? ⟨w.heap.size, o, none⟩ := fun o => (c4.cell (p := ⟨w.heap.size, o, none⟩) (by simpa using t3) (by simp)).trans (y3 o)
        have z4 : ∀ o, w4.frozen? ⟨w.heap.size, o, none⟩ = (w.alloc (.cells #[.string ⟨#[]⟩, .string ⟨#[]⟩, .int .i64 0, .string ⟨#[]⟩] 39)).frozen? ⟨w.heap.size, o, none⟩ := fun o => (c4.frozen (p := ⟨w.heap.size, o, none⟩) (by simpa using t3) (by simp)).trans (z3 o)
        have f4x := fun o => (c4.frozen (p := ⟨w2.heap.size, o, none⟩) u3 (by simp)).trans (f3x o)
        have b40 : w4.cell? ⟨w2.heap.size, 0, none⟩ = some (.string M) := (c4.cell (p := ⟨w2.heap.size, 0, none⟩) u3 (by simp)).trans b30
        have b41 : w4.cell? ⟨w2.heap.size, 1, none⟩ = some (.string ⟨#[]⟩) := (c4.cell (p := ⟨w2.heap.size, 1, none⟩) u3 (by simp)).trans b31
        have b42 : w4.cell? ⟨w2.heap.size, 2, none⟩ = some (.int .i64 0) := (c4.cell (p := ⟨w2.heap.size, 2, none⟩) u3 (by simp)).trans b32
        have b43 : w4.cell? ⟨w2.heap.size, 3, none⟩ = some (.string ⟨#[]⟩) := (c4.cell (p := ⟨w2.heap.size, 3, none⟩) u3 (by simp)).trans b33
        have d4 : Chg [] w w4 := d3.trans0 c4
        have t4 : w.heap.size < w4.heap.size := by omega
        have u4 : w2.heap.size < w4.heap.size := by omega
        clear c4 y3 z3 f3x
        have eb40 : ∀ u, (w4.setCell ⟨w2.heap.size, 1, none⟩ u).cell? ⟨w2.heap.size, 0, none⟩ = some (.string M) := fun u => by rw [World.cell?_setCell_other _ _ _ _ (by simp)]; exact b40
        have eb41 : ∀ u, (w4.setCell ⟨w2.heap.size, 1, none⟩ u).cell? ⟨w2.heap.size, 1, none⟩ = some u := fun u => World.cell?_setCell_same _ _ _ b41
        have eb42 : ∀ u, (w4.setCell ⟨w2.heap.size, 1, none⟩ u).cell? ⟨w2.heap.size, 2, none⟩ = some (.int .i64 0) := fun u => by rw [World.cell?_setCell_other _ _ _ _ (by simp)]; exact b42
        have eb43 : ∀ u, (w4.setCell ⟨w2.heap.size, 1, none⟩ u).cell? ⟨w2.heap.size, 3, none⟩ = some (.string ⟨#[]⟩) := fun u => by rw [World.cell?_setCell_other _ _ _ _ (by simp)]; exact b43
        have g0 : ∀ u u2, ((w4.setCell ⟨w2.heap.size, 1, none⟩ u).setCell ⟨w2.heap.size, 2, none⟩ u2).cell? ⟨w2.heap.size, 0, none⟩ = some (.string M) := fun u u2 => by rw [World.cell?_setCell_other _ _ _ _ (by simp)]; exact eb40 u
        have g1 : ∀ u u2, ((w4.setCell ⟨w2.heap.size, 1, none⟩ u).setCell ⟨w2.heap.size, 2, none⟩ u2).cell? ⟨w2.heap.size, 1, none⟩ = some u := fun u u2 => by rw [World.cell?_setCell_other _ _ _ _ (by simp)]; exact eb41 u
        have g2 : ∀ u u2, ((w4.setCell ⟨w2.heap.size, 1, none⟩ u).setCell ⟨w2.heap.size, 2, none⟩ u2).cell? ⟨w2.heap.size, 2, none⟩ = some u2 := fun u u2 => World.cell?_setCell_same _ _ _ (eb42 u)
        have g3 : ∀ u u2, ((w4.setCell ⟨w2.heap.size, 1, none⟩ u).setCell ⟨w2.heap.size, 2, none⟩ u2).cell? ⟨w2.heap.size, 3, none⟩ = some (.string ⟨#[]⟩) := fun u u2 => by rw [World.cell?_setCell_other _ _ _ _ (by simp)]; exact eb43 u
        go_wp2_with fail
        refine (FX.out _).mono ?_
        rintro e w5 ⟨rfl, c5⟩
        have s5 := c5.size
        have d5 : Chg [] w w5 := Chg.trans0 (by repeat (first | with_reducible exact d4 | with_reducible exact Chg.refl _ _ | with_reducible refine Chg.drew ?_ | with_reducible refine Chg.drewN ?_ _ | with_reducible refine Chg.alloc ?_ _ | with_reducible refine Chg.setCell ?_ (.inr (by simp; try omega)) _)) c5
        have t5 : w.heap.size < w5.heap.size := by first | omega | (simp at s5; omega)
        have u5 : w2.heap.size < w5.heap.size := by first | omega | (simp at s5; omega)
        have n5 : ¬ w2.heap.size = w.heap.size := by omega
        have y5 : ∀ o, w5.cell? ⟨w.heap.size, o, none⟩ = (w.alloc (.cells #[.string ⟨#[]⟩, .string ⟨#[]⟩, .int .i64 0, .string ⟨#[]⟩] 39)).cell? ⟨w.heap.size, o, none⟩ := fun o => (c5.cell (p := ⟨w.heap.size, o, none⟩) (by first | (simp; done) | (simp; omega) | omega) (by simp)).trans (by first | exact y4 o | (rw [World.cell?_setCell_other _ _ _ _ (by first | (simp; done) | (simp; omega))]; exact y4 o) | (rw [World.cell?_setCell_other _ _ _ _ (by first | (simp; done) | (simp; omega)), World.cell?_setCell_other _ _ _ _ (by first | (simp; done) | (simp; omega))]; exact y4 o))
        have z5 : ∀ o, w5.frozen? ⟨w.heap.size, o, none⟩ = (w.alloc (.cells #[.string ⟨#[]⟩, .string ⟨#[]⟩, .int .i64 0, .string ⟨#[]⟩] 39)).frozen? ⟨w.heap.size, o, none⟩ := fun o => (c5.frozen (p := ⟨w.heap.size, o, none⟩) (by first | (simp; done) | (simp; omega) | omega) (by simp)).trans (by rw [← z4 o]; try simp)
        have b50 : w5.cell? ⟨w2.heap.size, 0, none⟩ = some (.string M) := (c5.cell (p := ⟨w2.heap.size, 0, none⟩) (by first | (simp; done) | (simp; omega) | omega) (by simp)).trans (g0 _ _)
        have b51 : w5.cell? ⟨w2.heap.size, 1, none⟩ = some (.string K) := (c5.cell (p := ⟨w2.heap.size, 1, none⟩) (by first | (simp; done) | (simp; omega) | omega) (by simp)).trans (g1 _ _)
        have b52 : w5.cell? ⟨w2.heap.size, 2, none⟩ = some (.int .i64 z) := (c5.cell (p := ⟨w2.heap.size, 2, none⟩) (by first | (simp; done) | (simp; omega) | omega) (by simp)).trans (g2 _ _)
        have b53 : w5.cell? ⟨w2.heap.size, 3, none⟩ = some (.string ⟨#[]⟩) := (c5.cell (p := ⟨w2.heap.size, 3, none⟩) (by first | (simp; done) | (simp; omega) | omega) (by simp)).trans (g3 _ _)
        clear c5
        go_wp2_with fail
        refine bodyPost_ret (v := .tuple #[.agg #[.string M, .string K, .int .i64 z, .string ⟨#[]⟩], .bool true]) (by simp only [results, Tryz.results32]; go_simp) rfl ?_
        exact CallIs.yes (x := (⟨M, K,  z, ⟨#[]⟩⟩ : CallT)) HY.out (by repeat (first | with_reducible exact d5 | with_reducible exact Chg.refl _ _ | with_reducible refine Chg.drew ?_ | with_reducible refine Chg.drewN ?_ _ | with_reducible refine Chg.alloc ?_ _ | with_reducible refine Chg.setCell ?_ (.inr (by simp; try omega)) _))
    · have HN := Lib.hid (NO.out (fun h => hts h.1))
      have hb := str_ne hts
      clear YES NO hts
      go_enter Tryz.func32, Tryz.ntmps32
      go_wp2_with fail
      refine (SP.out _).mono ?_
      intro e w2 G
      obtain ⟨A, cap, rfl, hN⟩ := G.sl
      have hrd := hN.rd
      obtain ⟨hcap, b, off, rfl, hb, q0, qm⟩ := C0.out _ _ _ _ hrd
      have c2 := hN.chg
      obtain ⟨y2a, z2a, s2⟩ := c2.cells
      have y2 := fun o => y2a w.heap.size o (by simp)
      have z2 := fun o => z2a w.heap.size o (by simp)
      have d2 : Chg [] w w2 := Chg.trans0 ((Chg.refl _ _).alloc _) c2
      have t2 : w.heap.size < w2.heap.size := by simp at s2; omega
      have tt : w.heap.size < w.heap.size + 1 := by omega
      have HRD := Lib.hid hrd
      rw [hm] at hcap
      have SLW0 := SL.out (some ⟨b, off, none⟩) cap hcap
      have SRW := SR.out _ _ _ _ hrd
      obtain ⟨A3, n3, c3v, hsv⟩ : ∃ A3 n3 c3, subV (some ⟨b, off, none⟩) cap 1 (max 1 m) = .slice A3 n3 c3 := ⟨_, _, _, rfl⟩
      rw [hsv] at SLW0 SRW
      have SLW : ∀ W, (Instr.slice 30 (.slice (some ⟨b, off, none⟩) (m + 1) cap) (some (.int .i64 1)) (some (.int .i64 ((m : Int) + 1 - min 1 (m : Int)))) none).run Tryz.prog W = .ok (.slice A3 n3 c3v) W := fun W => by
        rw [show ((m : Int) + 1 - min 1 (m : Int)) = ((max 1 m : Nat) : Int) from by omega]
        exact SLW0 W
      have SAW : ∀ W, (Instr.sliceAt 30 (.slice (some ⟨b, off, none⟩) (m + 1) cap) (some (.int .i64 1)) (some (.int .i64 ((m : Int) + 1 - min 1 (m : Int)))) none).run Tryz.prog W = .ok (.slice A3 n3 c3v) W := fun W => by
        rw [run_sliceAt_slice (h := by rw [elem_strs]; exact Tryz.underlying30)]
        exact SLW W
      have SRW := Lib.hid SRW
      clear hsv SLW0
      clear hrd y2a z2a c2 hN G
      rw [hm]
      go_wp2_with fail
      refine (PN2.out _).mono ?_
      rintro e w3 ⟨rfl, c3⟩
      have s3 := c3.size
      have y3 : ∀ o, w3.cell? ⟨w.heap.size, o, none⟩ = (w.alloc (.cells #[.string ⟨#[]⟩, .string ⟨#[]⟩, .int .i64 0, .string ⟨#[]⟩] 39)).cell? ⟨w.heap.size, o, none⟩ := fun o => (c3.cell (p := ⟨w.heap.size, o, none⟩) (by simp; omega) (by simp)).trans ((((Chg.refl [] w2).alloc _).cell (p := ⟨w.heap.size, o, none⟩) (by simpa using t2) (by simp)).trans (y2 o))
      have z3 : ∀ o, w3.frozen? ⟨w.heap.size, o, none⟩ = (w.alloc (.cells #[.string ⟨#[]⟩, .string ⟨#[]⟩, .int .i64 0, .string ⟨#[]⟩] 39)).frozen? ⟨w.heap.size, o, none⟩ := fun o => (c3.frozen (p := ⟨w.heap.size, o, none⟩) (by simp; omega) (by simp)).trans ((((Chg.refl [] w2).alloc _).frozen (p := ⟨w.heap.size, o, none⟩) (by simpa using t2) (by simp)).trans (z2 o))
      have q03 : w3.cell? ⟨b, off, none⟩ = some (.string M) := (c3.cell (p := ⟨b, off, none⟩) (by simp; omega) (by simp)).trans ((((Chg.refl [] w2).alloc _).cell (p := ⟨b, off, none⟩) (by simpa using hb) (by simp)).trans q0)
      have d3 : Chg [] w w3 := Chg.trans0 (d2.alloc _) c3
      have t3 : w.heap.size < w3.heap.size := by simp at s3; omega
      have u3 : w2.heap.size < w3.heap.size := by simp at s3; omega
      have f3x : ∀ o, w3.frozen? ⟨w2.heap.size, o, none⟩ = (w2.alloc (.cells #[.string M, .string ⟨#[]⟩, .int .i64 0, .string ⟨#[]⟩] 39)).frozen? ⟨w2.heap.size, o, none⟩ := fun o => c3.frozen (p := ⟨w2.heap.size, o, none⟩) (by simp) (by simp)
      have b30 : w3.cell? ⟨w2.heap.size, 0, none⟩ = some (.string M) := (c3.cell (p := ⟨w2.heap.size, 0, none⟩) (by simp) (by simp)).trans (by go_simp)
      have b31 : w3.cell? ⟨w2.heap.size, 1, none⟩ = some (.string ⟨#[]⟩) := (c3.cell (p := ⟨w2.heap.size, 1, none⟩) (by simp) (by simp)).trans (by go_simp)
      have b32 : w3.cell? ⟨w2.heap.size, 2, none⟩ = some (.int .i64 0) := (c3.cell (p := ⟨w2.heap.size, 2, none⟩) (by simp) (by simp)).trans (by go_simp)
      have b33 : w3.cell? ⟨w2.heap.size, 3, none⟩ = some (.string ⟨#[]⟩) := (c3.cell (p := ⟨w2.heap.size, 3, none⟩) (by simp) (by simp)).trans (by go_simp)
      have C23 : Hid (Chg [] w2 w3) := Lib.hid (((Chg.refl [] w2).alloc _).trans0 c3)
      have v3 : w2.heap.size < w2.heap.size + 1 := by omega
      clear c3 y2 z2
      have JW := JK.out w3 _ w2.heap.size (SRW.out.below (C23.out.below (by simp) (Nat.le_refl _))) (by omega)
      have JW := Lib.hid JW
      go_wp2_with fail
      refine (l1Min_any _ _ _).mono ?_
      rintro e w3b ⟨rfl, rfl⟩
      go_wp2_with fail
      refine JW.out.mono ?_
      rintro e w4 ⟨rfl, c4⟩
      have s4 := c4.size
      have y4 : ∀ o, w4.cell? ⟨w.heap.size, o, none⟩ = (w.alloc (.cells #[.string ⟨#[]⟩, .string ⟨#[]⟩, .int .i64 0, .string ⟨#[]⟩] 39)).cell? ⟨w.heap.size, o, none⟩ := fun o => (c4.cell (p := ⟨w.heap.size, o, none⟩) (by simpa using t3) (by simp)).trans (y3 o)
      have z4 : ∀ o, w4.frozen? ⟨w.heap.size, o, none⟩ = (w.alloc (.cells #[.string ⟨#[]⟩, .string ⟨#[]⟩, .int .i64 0, .string ⟨#[]⟩] 39)).frozen? ⟨w.heap.size, o, none⟩ := fun o => (c4.frozen (p := ⟨w.heap.size, o, none⟩) (by simpa using t3) (by simp)).trans (z3 o)
      have f4x := fun o => (c4.frozen (p := ⟨w2.heap.size, o, none⟩) u3 (by simp)).trans (f3x o)
      have b40 : w4.cell? ⟨w2.heap.size, 0, none⟩ = some (.string M) := (c4.cell (p := ⟨w2.heap.size, 0, none⟩) u3 (by simp)).trans b30
      have b41 : w4.cell? ⟨w2.heap.size, 1, none⟩ = some (.string ⟨#[]⟩) := (c4.cell (p := ⟨w2.heap.size, 1, none⟩) u3 (by simp)).trans b31
      have b42 : w4.cell? ⟨w2.heap.size, 2, none⟩ = some (.int .i64 0) := (c4.cell (p := ⟨w2.heap.size, 2, none⟩) u3 (by simp)).trans b32
      have b43 : w4.cell? ⟨w2.heap.size, 3, none⟩ = some (.string ⟨#[]⟩) := (c4.cell (p := ⟨w2.heap.size, 3, none⟩) u3 (by simp)).trans b33
      have d4 : Chg [] w w4 := d3.trans0 c4
      have t4 : w.heap.size < w4.heap.size := by omega
      have u4 : w2.heap.size < w4.heap.size := by omega
      clear c4 y3 z3 f3x
      have eb40 : ∀ u, (w4.setCell ⟨w2.heap.size, 1, none⟩ u).cell? ⟨w2.heap.size, 0, none⟩ = some (.string M) := fun u => by rw [World.cell?_setCell_other _ _ _ _ (by simp)]; exact b40
      have eb41 : ∀ u, (w4.setCell ⟨w2.heap.size, 1, none⟩ u).cell? ⟨w2.heap.size, 1, none⟩ = some u := fun u => World.cell?_setCell_same _ _ _ b41
      have eb42 : ∀ u, (w4.setCell ⟨w2.heap.size, 1, none⟩ u).cell? ⟨w2.heap.size, 2, none⟩ = some (.int .i64 0) := fun u => by rw [World.cell?_setCell_other _ _ _ _ (by simp)]; exact b42
      have eb43 : ∀ u, (w4.setCell ⟨w2.heap.size, 1, none⟩ u).cell? ⟨w2.heap.size, 3, none⟩ = some (.string ⟨#[]⟩) := fun u => by rw [World.cell?_setCell_other _ _ _ _ (by simp)]; exact b43
      have g0 : ∀ u u2, ((w4.setCell ⟨w2.heap.size, 1, none⟩ u).setCell ⟨w2.heap.size, 2, none⟩ u2).cell? ⟨w2.heap.size, 0, none⟩ = some (.string M) := fun u u2 => by rw [World.cell?_setCell_other _ _ _ _ (by simp)]; exact eb40 u
      have g1 : ∀ u u2, ((w4.setCell ⟨w2.heap.size, 1, none⟩ u).setCell ⟨w2.heap.size, 2, none⟩ u2).cell? ⟨w2.heap.size, 1, none⟩ = some u := fun u u2 => by rw [World.cell?_setCell_other _ _ _ _ (by simp)]; exact eb41 u
      have g2 : ∀ u u2, ((w4.setCell ⟨w2.heap.size, 1, none⟩ u).setCell ⟨w2.heap.size, 2, none⟩ u2).cell? ⟨w2.heap.size, 2, none⟩ = some u2 := fun u u2 => World.cell?_setCell_same _ _ _ (eb42 u)
      have g3 : ∀ u u2, ((w4.setCell ⟨w2.heap.size, 1, none⟩ u).setCell ⟨w2.heap.size, 2, none⟩ u2).cell? ⟨w2.heap.size, 3, none⟩ = some (.string ⟨#[]⟩) := fun u u2 => by rw [World.cell?_setCell_other _ _ _ _ (by simp)]; exact eb43 u
      go_wp2_with fail
      refine (FX.out _).mono ?_
      rintro e w5 ⟨rfl, c5⟩
      have s5 := c5.size
      have d5 : Chg [] w w5 := Chg.trans0 (by repeat (first | with_reducible exact d4 | with_reducible exact Chg.refl _ _ | with_reducible refine Chg.drew ?_ | with_reducible refine Chg.drewN ?_ _ | with_reducible refine Chg.alloc ?_ _ | with_reducible refine Chg.setCell ?_ (.inr (by simp; try omega)) _)) c5
      have t5 : w.heap.size < w5.heap.size := by first | omega | (simp at s5; omega)
      have u5 : w2.heap.size < w5.heap.size := by first | omega | (simp at s5; omega)
      have n5 : ¬ w2.heap.size = w.heap.size := by omega
      have y5 : ∀ o, w5.cell? ⟨w.heap.size, o, none⟩ = (w.alloc (.cells #[.string ⟨#[]⟩, .string ⟨#[]⟩, .int .i64 0, .string ⟨#[]⟩] 39)).cell? ⟨w.heap.size, o, none⟩ := fun o => (c5.cell (p := ⟨w.heap.size, o, none⟩) (by first | (simp; done) | (simp; omega) | omega) (by simp)).trans (by first | exact y4 o | (rw [World.cell?_setCell_other _ _ _ _ (by first | (simp; done) | (simp; omega))]; exact y4 o) | (rw [World.cell?_setCell_other _ _ _ _ (by first | (simp; done) | (simp; omega)), World.cell?_setCell_other _ _ _ _ (by first | (simp; done) | (simp; omega))]; exact y4 o))
      have z5 : ∀ o, w5.frozen? ⟨w.heap.size, o, none⟩ = (w.alloc (.cells #[.string ⟨#[]⟩, .string ⟨#[]⟩, .int .i64 0, .string ⟨#[]⟩] 39)).frozen? ⟨w.heap.size, o, none⟩ := fun o => (c5.frozen (p := ⟨w.heap.size, o, none⟩) (by first | (simp; done) | (simp; omega) | omega) (by simp)).trans (by rw [← z4 o]; try simp)
      have b50 : w5.cell? ⟨w2.heap.size, 0, none⟩ = some (.string M) := (c5.cell (p := ⟨w2.heap.size, 0, none⟩) (by first | (simp; done) | (simp; omega) | omega) (by simp)).trans (g0 _ _)
      have b51 : w5.cell? ⟨w2.heap.size, 1, none⟩ = some (.string K) := (c5.cell (p := ⟨w2.heap.size, 1, none⟩) (by first | (simp; done) | (simp; omega) | omega) (by simp)).trans (g1 _ _)
      have b52 : w5.cell? ⟨w2.heap.size, 2, none⟩ = some (.int .i64 z) := (c5.cell (p := ⟨w2.heap.size, 2, none⟩) (by first | (simp; done) | (simp; omega) | omega) (by simp)).trans (g2 _ _)
      have b53 : w5.cell? ⟨w2.heap.size, 3, none⟩ = some (.string ⟨#[]⟩) := (c5.cell (p := ⟨w2.heap.size, 3, none⟩) (by first | (simp; done) | (simp; omega) | omega) (by simp)).trans (g3 _ _)
      clear c5
      go_wp2_with fail
      refine bodyPost_ret (v := .tuple #[.agg #[.string ⟨#[]⟩, .string ⟨#[]⟩, .int .i64 0, .string ⟨#[]⟩], .bool false]) (by simp only [results, Tryz.results32]; go_simp) rfl ?_
      exact CallIs.no HN.out (by repeat (first | with_reducible exact d5 | with_reducible exact Chg.refl _ _ | with_reducible refine Chg.drew ?_ | with_reducible refine Chg.drewN ?_ _ | with_reducible refine Chg.alloc ?_ _ | with_reducible refine Chg.setCell ?_ (.inr (by simp; try omega)) _))
  · exact absurd (hk.symm.trans hmm) (by decide)
  · exact absurd (hk.symm.trans hmm) (by decide)
  · exact absurd hk (by first | exact hmm.1 | exact hmm.2.1 | exact hmm.2.2.1 | exact hmm.2.2.2)
set_option maxRecDepth 100000 in
set_option maxHeartbeats 3000000 in
theorem parseCall_spec_hear (s : ByteArray) (w : World) (hs : s.size ≤ 100000) (hk : (splitS 32 s).headD noB = mHear) :
    Calls Tryz.prog 32 #[.string s] w (CallIs (callS s) w) := by
  have SP := Lib.hid (fun W => splitAt_one_any s 32 W (by omega))
  have RAW : rawS s = rawS s := rfl
  conv at RAW => rhs; unfold rawS
  dsimp only at RAW
  have HT := tot_split s
  have hne := spL_ne s.data.toList
  rw [← splitS_spL] at hne
  obtain ⟨P, hP⟩ : ∃ P, P = splitS 32 s := ⟨_, rfl⟩
  rw [← hP] at SP RAW HT hne hk
  obtain ⟨m, hm⟩ : ∃ m, P.length = m + 1 := ⟨P.length - 1, by have := List.length_pos_iff.2 hne; omega⟩
  have hmT : m + 1 ≤ s.size + 1 := by rw [← hm, ← HT]; exact tot_len P
  have hM : P.headD noB = P[0]'(by omega) := by
    cases P with
    | nil => exact absurd rfl hne
    | cons x r => rfl
  have hL : P.getLastD noB = P[m]'(by omega) := by
    rw [List.getLastD_eq_getLast?, List.getLast?_eq_getElem?, show P.length - 1 = m by omega, List.getElem?_eq_getElem (by omega)]
    rfl
  have zM := tot_mem (List.getElem_mem (show 0 < P.length by omega))
  have zL := tot_mem (List.getElem_mem (show m < P.length by omega))
  have zK := joinB_tot ((P.drop 1).dropLast)
  have zT := joinB_tot (P.drop 1)
  have tK : tot ((P.drop 1).dropLast) ≤ tot P := by rw [List.dropLast_eq_take]; exact Nat.le_trans (tot_take _ _) (tot_drop _ _)
  have tT : tot (P.drop 1) ≤ tot P := tot_drop _ _
  have pm := put_mid hm
  have pl := mid_load (P := P)
  rw [hM, hL] at RAW
  rw [hM] at hk
  obtain ⟨M, hMM⟩ : ∃ M, M = P[0]'(by omega) := ⟨_, rfl⟩
  obtain ⟨L, hLL⟩ : ∃ L, L = P[m]'(by omega) := ⟨_, rfl⟩
  obtain ⟨K, hK⟩ : ∃ K, K = joinB ((P.drop 1).dropLast) spB := ⟨_, rfl⟩
  obtain ⟨T, hT⟩ : ∃ T, T = joinB (P.drop 1) spB := ⟨_, rfl⟩
  rw [← hMM, ← hLL] at RAW
  rw [← hMM] at hk
  rw [← hMM] at zM
  rw [← hLL] at zL
  rw [← hK] at RAW zK
  rw [← hT] at RAW zT
  have CELLS := Lib.hid (fun W B A cap (hr : Rd W B (strs P) (.slice A P.length cap)) => strs_cells (strs_row hr).choose_spec.choose_spec.2.2.2 0 (by omega))
  have PN := Lib.hid (fun W => parseNumber_spec_any L W (by omega))
  have JK := Lib.hid (fun W u B (hr : Rd W B (strs ((P.take (max 1 m)).drop 1)) u) (hB : B ≤ W.heap.size) => joinWith_spec_any _ spB u B W (by have := tot_len ((P.take (max 1 m)).drop 1); have := tot_drop (P.take (max 1 m)) 1; have := tot_take P (max 1 m); omega) (by decide) (by have := tot_W1 ((P.take (max 1 m)).drop 1); have := tot_drop (P.take (max 1 m)) 1; have := tot_take P (max 1 m); omega) hr hB)
  have JT := Lib.hid (fun W u B (hr : Rd W B (strs ((P.take P.length).drop 1)) u) (hB : B ≤ W.heap.size) => joinWith_spec_any _ spB u B W (by have := tot_len ((P.take P.length).drop 1); have := tot_drop (P.take P.length) 1; have := tot_take P P.length; omega) (by decide) (by have := tot_W1 ((P.take P.length).drop 1); have := tot_drop (P.take P.length) 1; have := tot_take P P.length; omega) hr hB)
  rw [pm, ← hK] at JK
  rw [pl, ← hT] at JT
  have FC := Lib.hid (fun (x : CallT) (hk : x.key.size ≤ 1048576) (hx : x.text.size ≤ 1048576) W => formatCall_spec_any x W hk hx)
  have hmB : m ≤ 100000 := by omega
  have hMs : M.size ≤ 200000 := by omega
  have hLs : L.size ≤ 200000 := by omega
  have hKs : K.size ≤ 200000 := by omega
  have hTs : T.size ≤ 200000 := by omega
  have SL := Lib.hid (fun (A : Option Addr) (cap : Nat) (hc : m + 1 ≤ cap) W => sub_lh A (m + 1) cap 1 (max 1 m) W (by omega) (by omega) hc)
  have SL2 := Lib.hid (fun (A : Option Addr) (cap : Nat) W => sub_l A (m + 1) cap 1 W (by omega))
  have SR := Lib.hid (fun W B A cap (hr : Rd W B (strs P) (.slice A P.length cap)) => by have h := sub_rd (i := 1) (j := max 1 m) hr (by omega) (by omega); rw [pm] at h; exact h)
  have SR2 := Lib.hid (fun W B A cap (hr : Rd W B (strs P) (.slice A P.length cap)) => by have h := sub_rd (i := 1) (j := P.length) hr (by omega) (Nat.le_refl _); rw [mid_load] at h; exact h)
  have C0 : Hid (∀ W B A cap, Rd W B (strs P) (.slice A P.length cap) → P.length ≤ cap ∧ ∃ b off, A = some ⟨b, off, none⟩ ∧ b < B ∧ W.cell? ⟨b, off, none⟩ = some (.string M) ∧ W.cell? ⟨b, off + m, none⟩ = some (.string L)) := by
    intro W B A cap hr
    obtain ⟨_, _, e, h0, _, hrow⟩ := strs_row hr
    cases e
    obtain ⟨b, off, rfl, hb, q0⟩ := strs_cells hrow 0 (by omega)
    obtain ⟨b2, off2, e2, _, qm⟩ := strs_cells hrow m (by omega)
    cases e2
    exact ⟨h0, b, off, rfl, hb, by rw [hMM]; exact q0, by rw [hLL]; exact qm⟩
  clear pm pl zK zT tK tT hne hM hL HT hP zM zL hmT CELLS hMM hLL hK hT
  obtain ⟨v, hv⟩ : ∃ v, v = parseNum L := ⟨_, rfl⟩
  have PN2 : Hid (∀ W, Calls Tryz.prog 30 #[.string L] W (fun e w1 => e = .returned (.tuple #[.int .i64 (v.getD 0), .bool v.isSome]) ∧ Chg [] W w1)) := by rw [hv]; exact PN.out
  rw [← hv] at RAW
  obtain ⟨z, hz⟩ : ∃ z, z = v.getD 0 := ⟨_, rfl⟩
  obtain ⟨f3, hf3⟩ : ∃ f, f = v.isSome := ⟨_, rfl⟩
  rw [← hz] at RAW
  rw [← hz, ← hf3] at PN2
  clear PN hv hz hf3
  rcases methCases M with ⟨hmm, m1, m2, m3, m4⟩ | ⟨hmm, m1, m2, m3, m4⟩ | ⟨hmm, m1, m2, m3, m4⟩ | ⟨hmm, m1, m2, m3, m4⟩ | ⟨hmm, m1, m2, m3, m4⟩
  · exact absurd (hk.symm.trans hmm) (by decide)
  · exact absurd (hk.symm.trans hmm) (by decide)
  · rw [if_neg (by rw [hmm]; decide), if_neg (by rw [hmm]; decide), if_pos hmm] at RAW
    have RAW : Hid (rawS s = (⟨M, ⟨#[]⟩,  z, ⟨#[]⟩⟩ : CallT)) := RAW
    have FX := FC.out (⟨M, ⟨#[]⟩,  z, ⟨#[]⟩⟩ : CallT) (by first | (show L.size ≤ _; omega) | (show K.size ≤ _; omega) | exact Nat.zero_le _) (by first | (show T.size ≤ _; omega) | exact Nat.zero_le _)
    have YES := callS_yes RAW.out
    have NO := callS_no RAW.out
    obtain ⟨t, ht⟩ : ∃ t, t = callT (⟨M, ⟨#[]⟩,  z, ⟨#[]⟩⟩ : CallT) := ⟨_, rfl⟩
    rw [← ht] at FX YES NO
    have FX := Lib.hid FX
    have YES := Lib.hid YES
    have NO := Lib.hid NO
    clear ht RAW hmm hk FC hLs hKs hTs hMs
    by_cases hts : t = s
    · by_cases hs0 : s.size = 0
      · have HN := Lib.hid (NO.out (fun h => h.2 hs0))
        have hb0 : (s.toList == []) = true := by rw [noB_of hs0, ByteArray.toList_eq]; rfl
        subst hts
        clear YES NO hs0
        go_enter Tryz.func32, Tryz.ntmps32
        go_wp2_with fail
        refine (SP.out _).mono ?_
        intro e w2 G
        obtain ⟨A, cap, rfl, hN⟩ := G.sl
        have hrd := hN.rd
        obtain ⟨hcap, b, off, rfl, hb, q0, qm⟩ := C0.out _ _ _ _ hrd
        have c2 := hN.chg
        obtain ⟨y2a, z2a, s2⟩ := c2.cells
        have y2 := fun o => y2a w.heap.size o (by simp)
        have z2 := fun o => z2a w.heap.size o (by simp)
        have d2 : Chg [] w w2 := Chg.trans0 ((Chg.refl _ _).alloc _) c2
        have t2 : w.heap.size < w2.heap.size := by simp at s2; omega
        have tt : w.heap.size < w.heap.size + 1 := by omega
        have HRD := Lib.hid hrd
        rw [hm] at hcap
        clear hrd y2a z2a c2 hN G
        rw [hm]
        go_wp2_with fail
        refine (PN2.out _).mono ?_
        rintro e w3 ⟨rfl, c3⟩
        have s3 := c3.size
        have y3 : ∀ o, w3.cell? ⟨w.heap.size, o, none⟩ = (w.alloc (.cells #[.string ⟨#[]⟩, .string ⟨#[]⟩, .int .i64 0, .string ⟨#[]⟩] 39)).cell? ⟨w.heap.size, o, none⟩ := fun o => (c3.cell (p := ⟨w.heap.size, o, none⟩) (by simp; omega) (by simp)).trans ((((Chg.refl [] w2).alloc _).cell (p := ⟨w.heap.size, o, none⟩) (by simpa using t2) (by simp)).trans (y2 o))
        have z3 : ∀ o, w3.frozen? ⟨w.heap.size, o, none⟩ = (w.alloc (.cells #[.string ⟨#[]⟩, .string ⟨#[]⟩, .int .i64 0, .string ⟨#[]⟩] 39)).frozen? ⟨w.heap.size, o, none⟩ := fun o => (c3.frozen (p := ⟨w.heap.size, o, none⟩) (by simp; omega) (by simp)).trans ((((Chg.refl [] w2).alloc _).frozen (p := ⟨w.heap.size, o, none⟩) (by simpa using t2) (by simp)).trans (z2 o))
        have q03 : w3.cell? ⟨b, off, none⟩ = some (.string M) := (c3.cell (p := ⟨b, off, none⟩) (by simp; omega) (by simp)).trans ((((Chg.refl [] w2).alloc _).cell (p := ⟨b, off, none⟩) (by simpa using hb) (by simp)).trans q0)
        have d3 : Chg [] w w3 := Chg.trans0 (d2.alloc _) c3
        have t3 : w.heap.size < w3.heap.size := by simp at s3; omega
        have u3 : w2.heap.size < w3.heap.size := by simp at s3; omega
        have f3x : ∀ o, w3.frozen? ⟨w2.heap.size, o, none⟩ = (w2.alloc (.cells #[.string M, .string ⟨#[]⟩, .int .i64 0, .string ⟨#[]⟩] 39)).frozen? ⟨w2.heap.size, o, none⟩ := fun o => c3.frozen (p := ⟨w2.heap.size, o, none⟩) (by simp) (by simp)
        have b30 : w3.cell? ⟨w2.heap.size, 0, none⟩ = some (.string M) := (c3.cell (p := ⟨w2.heap.size, 0, none⟩) (by simp) (by simp)).trans (by go_simp)
        have b31 : w3.cell? ⟨w2.heap.size, 1, none⟩ = some (.string ⟨#[]⟩) := (c3.cell (p := ⟨w2.heap.size, 1, none⟩) (by simp) (by simp)).trans (by go_simp)
        have b32 : w3.cell? ⟨w2.heap.size, 2, none⟩ = some (.int .i64 0) := (c3.cell (p := ⟨w2.heap.size, 2, none⟩) (by simp) (by simp)).trans (by go_simp)
        have b33 : w3.cell? ⟨w2.heap.size, 3, none⟩ = some (.string ⟨#[]⟩) := (c3.cell (p := ⟨w2.heap.size, 3, none⟩) (by simp) (by simp)).trans (by go_simp)
        have C23 : Hid (Chg [] w2 w3) := Lib.hid (((Chg.refl [] w2).alloc _).trans0 c3)
        have v3 : w2.heap.size < w2.heap.size + 1 := by omega
        clear c3 y2 z2
        have eb30 : ∀ u, (w3.setCell ⟨w2.heap.size, 2, none⟩ u).cell? ⟨w2.heap.size, 0, none⟩ = some (.string M) := fun u => by rw [World.cell?_setCell_other _ _ _ _ (by simp)]; exact b30
        have eb31 : ∀ u, (w3.setCell ⟨w2.heap.size, 2, none⟩ u).cell? ⟨w2.heap.size, 1, none⟩ = some (.string ⟨#[]⟩) := fun u => by rw [World.cell?_setCell_other _ _ _ _ (by simp)]; exact b31
        have eb32 : ∀ u, (w3.setCell ⟨w2.heap.size, 2, none⟩ u).cell? ⟨w2.heap.size, 2, none⟩ = some u := fun u => World.cell?_setCell_same _ _ _ b32
        have eb33 : ∀ u, (w3.setCell ⟨w2.heap.size, 2, none⟩ u).cell? ⟨w2.heap.size, 3, none⟩ = some (.string ⟨#[]⟩) := fun u => by rw [World.cell?_setCell_other _ _ _ _ (by simp)]; exact b33
        go_wp2_with fail
        refine (FX.out _).mono ?_
        rintro e w5 ⟨rfl, c5⟩
        have s5 := c5.size
        have d5 : Chg [] w w5 := Chg.trans0 (by repeat (first | with_reducible exact d3 | with_reducible exact Chg.refl _ _ | with_reducible refine Chg.drew ?_ | with_reducible refine Chg.drewN ?_ _ | with_reducible refine Chg.alloc ?_ _ | with_reducible refine Chg.setCell ?_ (.inr (by simp; try omega)) _)) c5
        have t5 : w.heap.size < w5.heap.size := by first | omega | (simp at s5; omega)
        have u5 : w2.heap.size < w5.heap.size := by first | omega | (simp at s5; omega)
        have n5 : ¬ w2.heap.size = w.heap.size := by omega
        have y5 : ∀ o, w5.cell? ⟨w.heap.size, o, none⟩ = (w.alloc (.cells #[.string ⟨#[]⟩, .string ⟨#[]⟩, .int .i64 0, .string ⟨#[]⟩] 39)).cell? ⟨w.heap.size, o, none⟩ := fun o => (c5.cell (p := ⟨w.heap.size, o, none⟩) (by first | (simp; done) | (simp; omega) | omega) (by simp)).trans (by first | exact y3 o | (rw [World.cell?_setCell_other _ _ _ _ (by first | (simp; done) | (simp; omega))]; exact y3 o) | (rw [World.cell?_setCell_other _ _ _ _ (by first | (simp; done) | (simp; omega)), World.cell?_setCell_other _ _ _ _ (by first | (simp; done) | (simp; omega))]; exact y3 o))
        have z5 : ∀ o, w5.frozen? ⟨w.heap.size, o, none⟩ = (w.alloc (.cells #[.string ⟨#[]⟩, .string ⟨#[]⟩, .int .i64 0, .string ⟨#[]⟩] 39)).frozen? ⟨w.heap.size, o, none⟩ := fun o => (c5.frozen (p := ⟨w.heap.size, o, none⟩) (by first | (simp; done) | (simp; omega) | omega) (by simp)).trans (by rw [← z3 o]; try simp)
        have b50 : w5.cell? ⟨w2.heap.size, 0, none⟩ = some (.string M) := (c5.cell (p := ⟨w2.heap.size, 0, none⟩) (by first | (simp; done) | (simp; omega) | omega) (by simp)).trans (eb30 _)
        have b51 : w5.cell? ⟨w2.heap.size, 1, none⟩ = some (.string ⟨#[]⟩) := (c5.cell (p := ⟨w2.heap.size, 1, none⟩) (by first | (simp; done) | (simp; omega) | omega) (by simp)).trans (eb31 _)
        have b52 : w5.cell? ⟨w2.heap.size, 2, none⟩ = some (.int .i64 z) := (c5.cell (p := ⟨w2.heap.size, 2, none⟩) (by first | (simp; done) | (simp; omega) | omega) (by simp)).trans (eb32 _)
        have b53 : w5.cell? ⟨w2.heap.size, 3, none⟩ = some (.string ⟨#[]⟩) := (c5.cell (p := ⟨w2.heap.size, 3, none⟩) (by first | (simp; done) | (simp; omega) | omega) (by simp)).trans (eb33 _)
        clear c5
        go_wp2_with fail
        refine bodyPost_ret (v := .tuple #[.agg #[.string ⟨#[]⟩, .string ⟨#[]⟩, .int .i64 0, .string ⟨#[]⟩], .bool false]) (by simp only [results, Tryz.results32]; go_simp) rfl ?_
        exact CallIs.no HN.out (by repeat (first | with_reducible exact d5 | with_reducible exact Chg.refl _ _ | with_reducible refine Chg.drew ?_ | with_reducible refine Chg.drewN ?_ _ | with_reducible refine Chg.alloc ?_ _ | with_reducible refine Chg.setCell ?_ (.inr (by simp; try omega)) _))
      · have HY := Lib.hid (YES.out hts hs0)
        have hb0 : (s.toList == []) = false := by
          rw [beq_eq_false_iff_ne, ByteArray.toList_eq]
          intro e
          have := congrArg List.length e
          rw [size_list] at this
          exact hs0 this
        subst hts
        clear YES NO hs0
        go_enter Tryz.func32, Tryz.ntmps32
        go_wp2_with fail
        refine (SP.out _).mono ?_
        intro e w2 G
        obtain ⟨A, cap, rfl, hN⟩ := G.sl
        have hrd := hN.rd
        obtain ⟨hcap, b, off, rfl, hb, q0, qm⟩ := C0.out _ _ _ _ hrd
        have c2 := hN.chg
        obtain ⟨y2a, z2a, s2⟩ := c2.cells
        have y2 := fun o => y2a w.heap.size o (by simp)
        have z2 := fun o => z2a w.heap.size o (by simp)
        have d2 : Chg [] w w2 := Chg.trans0 ((Chg.refl _ _).alloc _) c2
        have t2 : w.heap.size < w2.heap.size := by simp at s2; omega
        have tt : w.heap.size < w.heap.size + 1 := by omega
        have HRD := Lib.hid hrd
        rw [hm] at hcap
        clear hrd y2a z2a c2 hN G
        rw [hm]
        go_wp2_with fail
        refine (PN2.out _).mono ?_
        rintro e w3 ⟨rfl, c3⟩
        have s3 := c3.size
        have y3 : ∀ o, w3.cell? ⟨w.heap.size, o, none⟩ = (w.alloc (.cells #[.string ⟨#[]⟩, .string ⟨#[]⟩, .int .i64 0, .string ⟨#[]⟩] 39)).cell? ⟨w.heap.size, o, none⟩ := fun o => (c3.cell (p := ⟨w.heap.size, o, none⟩) (by simp; omega) (by simp)).trans ((((Chg.refl [] w2).alloc _).cell (p := ⟨w.heap.size, o, none⟩) (by simpa using t2) (by simp)).trans (y2 o))
        have z3 : ∀ o, w3.frozen? ⟨w.heap.size, o, none⟩ = (w.alloc (.cells #[.string ⟨#[]⟩, .string ⟨#[]⟩, .int .i64 0, .string ⟨#[]⟩] 39)).frozen? ⟨w.heap.size, o, none⟩ := fun o => (c3.frozen (p := ⟨w.heap.size, o, none⟩) (by simp; omega) (by simp)).trans ((((Chg.refl [] w2).alloc _).frozen (p := ⟨w.heap.size, o, none⟩) (by simpa using t2) (by simp)).trans (z2 o))
        have q03 : w3.cell? ⟨b, off, none⟩ = some (.string M) := (c3.cell (p := ⟨b, off, none⟩) (by simp; omega) (by simp)).trans ((((Chg.refl [] w2).alloc _).cell (p := ⟨b, off, none⟩) (by simpa using hb) (by simp)).trans q0)
        have d3 : Chg [] w w3 := Chg.trans0 (d2.alloc _) c3
        have t3 : w.heap.size < w3.heap.size := by simp at s3; omega
        have u3 : w2.heap.size < w3.heap.size := by simp at s3; omega
        have f3x : ∀ o, w3.frozen? ⟨w2.heap.size, o, none⟩ = (w2.alloc (.cells #[.string M, .string ⟨#[]⟩, .int .i64 0, .string ⟨#[]⟩] 39)).frozen? ⟨w2.heap.size, o, none⟩ := fun o => c3.frozen (p := ⟨w2.heap.size, o, none⟩) (by simp) (by simp)
        have b30 : w3.cell? ⟨w2.heap.size, 0, none⟩ = some (.string M) := (c3.cell (p := ⟨w2.heap.size, 0, none⟩) (by simp) (by simp)).trans (by go_simp)
        have b31 : w3.cell? ⟨w2.heap.size, 1, none⟩ = some (.string ⟨#[]⟩) := (c3.cell (p := ⟨w2.heap.size, 1, none⟩) (by simp) (by simp)).trans (by go_simp)
        have b32 : w3.cell? ⟨w2.heap.size, 2, none⟩ = some (.int .i64 0) := (c3.cell (p := ⟨w2.heap.size, 2, none⟩) (by simp) (by simp)).trans (by go_simp)
        have b33 : w3.cell? ⟨w2.heap.size, 3, none⟩ = some (.string ⟨#[]⟩) := (c3.cell (p := ⟨w2.heap.size, 3, none⟩) (by simp) (by simp)).trans (by go_simp)
        have C23 : Hid (Chg [] w2 w3) := Lib.hid (((Chg.refl [] w2).alloc _).trans0 c3)
        have v3 : w2.heap.size < w2.heap.size + 1 := by omega
        clear c3 y2 z2
        have eb30 : ∀ u, (w3.setCell ⟨w2.heap.size, 2, none⟩ u).cell? ⟨w2.heap.size, 0, none⟩ = some (.string M) := fun u => by rw [World.cell?_setCell_other _ _ _ _ (by simp)]; exact b30
        have eb31 : ∀ u, (w3.setCell ⟨w2.heap.size, 2, none⟩ u).cell? ⟨w2.heap.size, 1, none⟩ = some (.string ⟨#[]⟩) := fun u => by rw [World.cell?_setCell_other _ _ _ _ (by simp)]; exact b31
        have eb32 : ∀ u, (w3.setCell ⟨w2.heap.size, 2, none⟩ u).cell? ⟨w2.heap.size, 2, none⟩ = some u := fun u => World.cell?_setCell_same _ _ _ b32
        have eb33 : ∀ u, (w3.setCell ⟨w2.heap.size, 2, none⟩ u).cell? ⟨w2.heap.size, 3, none⟩ = some (.string ⟨#[]⟩) := fun u => by rw [World.cell?_setCell_other _ _ _ _ (by simp)]; exact b33
        go_wp2_with fail
        refine (FX.out _).mono ?_
        rintro e w5 ⟨rfl, c5⟩
        have s5 := c5.size
        have d5 : Chg [] w w5 := Chg.trans0 (by repeat (first | with_reducible exact d3 | with_reducible exact Chg.refl _ _ | with_reducible refine Chg.drew ?_ | with_reducible refine Chg.drewN ?_ _ | with_reducible refine Chg.alloc ?_ _ | with_reducible refine Chg.setCell ?_ (.inr (by simp; try omega)) _)) c5
        have t5 : w.heap.size < w5.heap.size := by first | omega | (simp at s5; omega)
        have u5 : w2.heap.size < w5.heap.size := by first | omega | (simp at s5; omega)
        have n5 : ¬ w2.heap.size = w.heap.size := by omega
        have y5 : ∀ o, w5.cell? ⟨w.heap.size, o, none⟩ = (w.alloc (.cells #[.string ⟨#[]⟩, .string ⟨#[]⟩, .int .i64 0, .string ⟨#[]⟩] 39)).cell? ⟨w.heap.size, o, none⟩ := fun o => (c5.cell (p := ⟨w.heap.size, o, none⟩) (by first | (simp; done) | (simp; omega) | omega) (by simp)).trans (by first | exact y3 o | (rw [World.cell?_setCell_other _ _ _ _ (by first | (simp; done) | (simp; omega))]; exact y3 o) | (rw [World.cell?_setCell_other _ _ _ _ (by first | (simp; done) | (simp; omega)), World.cell?_setCell_other _ _ _ _ (by first | (simp; done) | (simp; omega))]; exact y3 o))
        have z5 : ∀ o, w5.frozen? ⟨w.heap.size, o, none⟩ = (w.alloc (.cells #[.string ⟨#[]⟩, .string ⟨#[]⟩, .int .i64 0, .string ⟨#[]⟩] 39)).frozen? ⟨w.heap.size, o, none⟩ := fun o => (c5.frozen (p := ⟨w.heap.size, o, none⟩) (by first | (simp; done) | (simp; omega) | omega) (by simp)).trans (by rw [← z3 o]; try simp)
        have b50 : w5.cell? ⟨w2.heap.size, 0, none⟩ = some (.string M) := (c5.cell (p := ⟨w2.heap.size, 0, none⟩) (by first | (simp; done) | (simp; omega) | omega) (by simp)).trans (eb30 _)
        have b51 : w5.cell? ⟨w2.heap.size, 1, none⟩ = some (.string ⟨#[]⟩) := (c5.cell (p := ⟨w2.heap.size, 1, none⟩) (by first | (simp; done) | (simp; omega) | omega) (by simp)).trans (eb31 _)
        have b52 : w5.cell? ⟨w2.heap.size, 2, none⟩ = some (.int .i64 z) := (c5.cell (p := ⟨w2.heap.size, 2, none⟩) (by first | (simp; done) | (simp; omega) | omega) (by simp)).trans (eb32 _)
        have b53 : w5.cell? ⟨w2.heap.size, 3, none⟩ = some (.string ⟨#[]⟩) := (c5.cell (p := ⟨w2.heap.size, 3, none⟩) (by first | (simp; done) | (simp; omega) | omega) (by simp)).trans (eb33 _)
        clear c5
        go_wp2_with fail
        refine bodyPost_ret (v := .tuple #[.agg #[.string M, .string ⟨#[]⟩, .int .i64 z, .string ⟨#[]⟩], .bool true]) (by simp only [results, Tryz.results32]; go_simp) rfl ?_
        exact CallIs.yes (x := (⟨M, ⟨#[]⟩,  z, ⟨#[]⟩⟩ : CallT)) HY.out (by repeat (first | with_reducible exact d5 | with_reducible exact Chg.refl _ _ | with_reducible refine Chg.drew ?_ | with_reducible refine Chg.drewN ?_ _ | with_reducible refine Chg.alloc ?_ _ | with_reducible refine Chg.setCell ?_ (.inr (by simp; try omega)) _))
    · have HN := Lib.hid (NO.out (fun h => hts h.1))
      have hb := str_ne hts
      clear YES NO hts
      go_enter Tryz.func32, Tryz.ntmps32
      go_wp2_with fail
      refine (SP.out _).mono ?_
      intro e w2 G
      obtain ⟨A, cap, rfl, hN⟩ := G.sl
      have hrd := hN.rd
      obtain ⟨hcap, b, off, rfl, hb, q0, qm⟩ := C0.out _ _ _ _ hrd
      have c2 := hN.chg
      obtain ⟨y2a, z2a, s2⟩ := c2.cells
      have y2 := fun o => y2a w.heap.size o (by simp)
      have z2 := fun o => z2a w.heap.size o (by simp)
      have d2 : Chg [] w w2 := Chg.trans0 ((Chg.refl _ _).alloc _) c2
      have t2 : w.heap.size < w2.heap.size := by simp at s2; omega
      have tt : w.heap.size < w.heap.size + 1 := by omega
      have HRD := Lib.hid hrd
      rw [hm] at hcap
      clear hrd y2a z2a c2 hN G
      rw [hm]
      go_wp2_with fail
      refine (PN2.out _).mono ?_
      rintro e w3 ⟨rfl, c3⟩
      have s3 := c3.size
      have y3 : ∀ o, w3.cell? ⟨w.heap.size, o, none⟩ = (w.alloc (.cells #[.string ⟨#[]⟩, .string ⟨#[]⟩, .int .i64 0, .string ⟨#[]⟩] 39)).cell? ⟨w.heap.size, o, none⟩ := fun o => (c3.cell (p := ⟨w.heap.size, o, none⟩) (by simp; omega) (by simp)).trans ((((Chg.refl [] w2).alloc _).cell (p := ⟨w.heap.size, o, none⟩) (by simpa using t2) (by simp)).trans (y2 o))
      have z3 : ∀ o, w3.frozen? ⟨w.heap.size, o, none⟩ = (w.alloc (.cells #[.string ⟨#[]⟩, .string ⟨#[]⟩, .int .i64 0, .string ⟨#[]⟩] 39)).frozen? ⟨w.heap.size, o, none⟩ := fun o => (c3.frozen (p := ⟨w.heap.size, o, none⟩) (by simp; omega) (by simp)).trans ((((Chg.refl [] w2).alloc _).frozen (p := ⟨w.heap.size, o, none⟩) (by simpa using t2) (by simp)).trans (z2 o))
      have q03 : w3.cell? ⟨b, off, none⟩ = some (.string M) := (c3.cell (p := ⟨b, off, none⟩) (by simp; omega) (by simp)).trans ((((Chg.refl [] w2).alloc _).cell (p := ⟨b, off, none⟩) (by simpa using hb) (by simp)).trans q0)
      have d3 : Chg [] w w3 := Chg.trans0 (d2.alloc _) c3
      have t3 : w.heap.size < w3.heap.size := by simp at s3; omega
      have u3 : w2.heap.size < w3.heap.size := by simp at s3; omega
      have f3x : ∀ o, w3.frozen? ⟨w2.heap.size, o, none⟩ = (w2.alloc (.cells #[.string M, .string ⟨#[]⟩, .int .i64 0, .string ⟨#[]⟩] 39)).frozen? ⟨w2.heap.size, o, none⟩ := fun o => c3.frozen (p := ⟨w2.heap.size, o, none⟩) (by simp) (by simp)
      have b30 : w3.cell? ⟨w2.heap.size, 0, none⟩ = some (.string M) := (c3.cell (p := ⟨w2.heap.size, 0, none⟩) (by simp) (by simp)).trans (by go_simp)
      have b31 : w3.cell? ⟨w2.heap.size, 1, none⟩ = some (.string ⟨#[]⟩) := (c3.cell (p := ⟨w2.heap.size, 1, none⟩) (by simp) (by simp)).trans (by go_simp)
      have b32 : w3.cell? ⟨w2.heap.size, 2, none⟩ = some (.int .i64 0) := (c3.cell (p := ⟨w2.heap.size, 2, none⟩) (by simp) (by simp)).trans (by go_simp)
      have b33 : w3.cell? ⟨w2.heap.size, 3, none⟩ = some (.string ⟨#[]⟩) := (c3.cell (p := ⟨w2.heap.size, 3, none⟩) (by simp) (by simp)).trans (by go_simp)
      have C23 : Hid (Chg [] w2 w3) := Lib.hid (((Chg.refl [] w2).alloc _).trans0 c3)
      have v3 : w2.heap.size < w2.heap.size + 1 := by omega
      clear c3 y2 z2
      have eb30 : ∀ u, (w3.setCell ⟨w2.heap.size, 2, none⟩ u).cell? ⟨w2.heap.size, 0, none⟩ = some (.string M) := fun u => by rw [World.cell?_setCell_other _ _ _ _ (by simp)]; exact b30
      have eb31 : ∀ u, (w3.setCell ⟨w2.heap.size, 2, none⟩ u).cell? ⟨w2.heap.size, 1, none⟩ = some (.string ⟨#[]⟩) := fun u => by rw [World.cell?_setCell_other _ _ _ _ (by simp)]; exact b31
      have eb32 : ∀ u, (w3.setCell ⟨w2.heap.size, 2, none⟩ u).cell? ⟨w2.heap.size, 2, none⟩ = some u := fun u => World.cell?_setCell_same _ _ _ b32
      have eb33 : ∀ u, (w3.setCell ⟨w2.heap.size, 2, none⟩ u).cell? ⟨w2.heap.size, 3, none⟩ = some (.string ⟨#[]⟩) := fun u => by rw [World.cell?_setCell_other _ _ _ _ (by simp)]; exact b33
      go_wp2_with fail
      refine (FX.out _).mono ?_
      rintro e w5 ⟨rfl, c5⟩
      have s5 := c5.size
      have d5 : Chg [] w w5 := Chg.trans0 (by repeat (first | with_reducible exact d3 | with_reducible exact Chg.refl _ _ | with_reducible refine Chg.drew ?_ | with_reducible refine Chg.drewN ?_ _ | with_reducible refine Chg.alloc ?_ _ | with_reducible refine Chg.setCell ?_ (.inr (by simp; try omega)) _)) c5
      have t5 : w.heap.size < w5.heap.size := by first | omega | (simp at s5; omega)
      have u5 : w2.heap.size < w5.heap.size := by first | omega | (simp at s5; omega)
      have n5 : ¬ w2.heap.size = w.heap.size := by omega
      have y5 : ∀ o, w5.cell? ⟨w.heap.size, o, none⟩ = (w.alloc (.cells #[.string ⟨#[]⟩, .string ⟨#[]⟩, .int .i64 0, .string ⟨#[]⟩] 39)).cell? ⟨w.heap.size, o, none⟩ := fun o => (c5.cell (p := ⟨w.heap.size, o, none⟩) (by first | (simp; done) | (simp; omega) | omega) (by simp)).trans (by first | exact y3 o | (rw [World.cell?_setCell_other _ _ _ _ (by first | (simp; done) | (simp; omega))]; exact y3 o) | (rw [World.cell?_setCell_other _ _ _ _ (by first | (simp; done) | (simp; omega)), World.cell?_setCell_other _ _ _ _ (by first | (simp; done) | (simp; omega))]; exact y3 o))
      have z5 : ∀ o, w5.frozen? ⟨w.heap.size, o, none⟩ = (w.alloc (.cells #[.string ⟨#[]⟩, .string ⟨#[]⟩, .int .i64 0, .string ⟨#[]⟩] 39)).frozen? ⟨w.heap.size, o, none⟩ := fun o => (c5.frozen (p := ⟨w.heap.size, o, none⟩) (by first | (simp; done) | (simp; omega) | omega) (by simp)).trans (by rw [← z3 o]; try simp)
      have b50 : w5.cell? ⟨w2.heap.size, 0, none⟩ = some (.string M) := (c5.cell (p := ⟨w2.heap.size, 0, none⟩) (by first | (simp; done) | (simp; omega) | omega) (by simp)).trans (eb30 _)
      have b51 : w5.cell? ⟨w2.heap.size, 1, none⟩ = some (.string ⟨#[]⟩) := (c5.cell (p := ⟨w2.heap.size, 1, none⟩) (by first | (simp; done) | (simp; omega) | omega) (by simp)).trans (eb31 _)
      have b52 : w5.cell? ⟨w2.heap.size, 2, none⟩ = some (.int .i64 z) := (c5.cell (p := ⟨w2.heap.size, 2, none⟩) (by first | (simp; done) | (simp; omega) | omega) (by simp)).trans (eb32 _)
      have b53 : w5.cell? ⟨w2.heap.size, 3, none⟩ = some (.string ⟨#[]⟩) := (c5.cell (p := ⟨w2.heap.size, 3, none⟩) (by first | (simp; done) | (simp; omega) | omega) (by simp)).trans (eb33 _)
      clear c5
      go_wp2_with fail
      refine bodyPost_ret (v := .tuple #[.agg #[.string ⟨#[]⟩, .string ⟨#[]⟩, .int .i64 0, .string ⟨#[]⟩], .bool false]) (by simp only [results, Tryz.results32]; go_simp) rfl ?_
      exact CallIs.no HN.out (by repeat (first | with_reducible exact d5 | with_reducible exact Chg.refl _ _ | with_reducible refine Chg.drew ?_ | with_reducible refine Chg.drewN ?_ _ | with_reducible refine Chg.alloc ?_ _ | with_reducible refine Chg.setCell ?_ (.inr (by simp; try omega)) _))
  · exact absurd (hk.symm.trans hmm) (by decide)
  · exact absurd hk (by first | exact hmm.1 | exact hmm.2.1 | exact hmm.2.2.1 | exact hmm.2.2.2)
set_option maxRecDepth 100000 in
set_option maxHeartbeats 3000000 in
theorem parseCall_spec_load (s : ByteArray) (w : World) (hs : s.size ≤ 100000) (hk : (splitS 32 s).headD noB = mLoad) :
    Calls Tryz.prog 32 #[.string s] w (CallIs (callS s) w) := by
  have SP := Lib.hid (fun W => splitAt_one_any s 32 W (by omega))
  have RAW : rawS s = rawS s := rfl
  conv at RAW => rhs; unfold rawS
  dsimp only at RAW
  have HT := tot_split s
  have hne := spL_ne s.data.toList
  rw [← splitS_spL] at hne
  obtain ⟨P, hP⟩ : ∃ P, P = splitS 32 s := ⟨_, rfl⟩
  rw [← hP] at SP RAW HT hne hk
  obtain ⟨m, hm⟩ : ∃ m, P.length = m + 1 := ⟨P.length - 1, by have := List.length_pos_iff.2 hne; omega⟩
  have hmT : m + 1 ≤ s.size + 1 := by rw [← hm, ← HT]; exact tot_len P
  have hM : P.headD noB = P[0]'(by omega) := by
    cases P with
    | nil => exact absurd rfl hne
    | cons x r => rfl
  have hL : P.getLastD noB = P[m]'(by omega) := by
    rw [List.getLastD_eq_getLast?, List.getLast?_eq_getElem?, show P.length - 1 = m by omega, List.getElem?_eq_getElem (by omega)]
    rfl
  have zM := tot_mem (List.getElem_mem (show 0 < P.length by omega))
  have zL := tot_mem (List.getElem_mem (show m < P.length by omega))
  have zK := joinB_tot ((P.drop 1).dropLast)
  have zT := joinB_tot (P.drop 1)
  have tK : tot ((P.drop 1).dropLast) ≤ tot P := by rw [List.dropLast_eq_take]; exact Nat.le_trans (tot_take _ _) (tot_drop _ _)
  have tT : tot (P.drop 1) ≤ tot P := tot_drop _ _
  have pm := put_mid hm
  have pl := mid_load (P := P)
  rw [hM, hL] at RAW
  rw [hM] at hk
  obtain ⟨M, hMM⟩ : ∃ M, M = P[0]'(by omega) := ⟨_, rfl⟩
  obtain ⟨L, hLL⟩ : ∃ L, L = P[m]'(by omega) := ⟨_, rfl⟩
  obtain ⟨K, hK⟩ : ∃ K, K = joinB ((P.drop 1).dropLast) spB := ⟨_, rfl⟩
  obtain ⟨T, hT⟩ : ∃ T, T = joinB (P.drop 1) spB := ⟨_, rfl⟩
  rw [← hMM, ← hLL] at RAW
  rw [← hMM] at hk
  rw [← hMM] at zM
  rw [← hLL] at zL
  rw [← hK] at RAW zK
  rw [← hT] at RAW zT
  have CELLS := Lib.hid (fun W B A cap (hr : Rd W B (strs P) (.slice A P.length cap)) => strs_cells (strs_row hr).choose_spec.choose_spec.2.2.2 0 (by omega))
  have PN := Lib.hid (fun W => parseNumber_spec_any L W (by omega))
  have JK := Lib.hid (fun W u B (hr : Rd W B (strs ((P.take (max 1 m)).drop 1)) u) (hB : B ≤ W.heap.size) => joinWith_spec_any _ spB u B W (by have := tot_len ((P.take (max 1 m)).drop 1); have := tot_drop (P.take (max 1 m)) 1; have := tot_take P (max 1 m); omega) (by decide) (by have := tot_W1 ((P.take (max 1 m)).drop 1); have := tot_drop (P.take (max 1 m)) 1; have := tot_take P (max 1 m); omega) hr hB)
  have JT := Lib.hid (fun W u B (hr : Rd W B (strs ((P.take P.length).drop 1)) u) (hB : B ≤ W.heap.size) => joinWith_spec_any _ spB u B W (by have := tot_len ((P.take P.length).drop 1); have := tot_drop (P.take P.length) 1; have := tot_take P P.length; omega) (by decide) (by have := tot_W1 ((P.take P.length).drop 1); have := tot_drop (P.take P.length) 1; have := tot_take P P.length; omega) hr hB)
  rw [pm, ← hK] at JK
  rw [pl, ← hT] at JT
  have FC := Lib.hid (fun (x : CallT) (hk : x.key.size ≤ 1048576) (hx : x.text.size ≤ 1048576) W => formatCall_spec_any x W hk hx)
  have hmB : m ≤ 100000 := by omega
  have hMs : M.size ≤ 200000 := by omega
  have hLs : L.size ≤ 200000 := by omega
  have hKs : K.size ≤ 200000 := by omega
  have hTs : T.size ≤ 200000 := by omega
  have SL := Lib.hid (fun (A : Option Addr) (cap : Nat) (hc : m + 1 ≤ cap) W => sub_lh A (m + 1) cap 1 (max 1 m) W (by omega) (by omega) hc)
  have SL2 := Lib.hid (fun (A : Option Addr) (cap : Nat) W => sub_l A (m + 1) cap 1 W (by omega))
  have SR := Lib.hid (fun W B A cap (hr : Rd W B (strs P) (.slice A P.length cap)) => by have h := sub_rd (i := 1) (j := max 1 m) hr (by omega) (by omega); rw [pm] at h; exact h)
  have SR2 := Lib.hid (fun W B A cap (hr : Rd W B (strs P) (.slice A P.length cap)) => by have h := sub_rd (i := 1) (j := P.length) hr (by omega) (Nat.le_refl _); rw [mid_load] at h; exact h)
  have C0 : Hid (∀ W B A cap, Rd W B (strs P) (.slice A P.length cap) → P.length ≤ cap ∧ ∃ b off, A = some ⟨b, off, none⟩ ∧ b < B ∧ W.cell? ⟨b, off, none⟩ = some (.string M) ∧ W.cell? ⟨b, off + m, none⟩ = some (.string L)) := by
    intro W B A cap hr
    obtain ⟨_, _, e, h0, _, hrow⟩ := strs_row hr
    cases e
    obtain ⟨b, off, rfl, hb, q0⟩ := strs_cells hrow 0 (by omega)
    obtain ⟨b2, off2, e2, _, qm⟩ := strs_cells hrow m (by omega)
    cases e2
    exact ⟨h0, b, off, rfl, hb, by rw [hMM]; exact q0, by rw [hLL]; exact qm⟩
  clear pm pl zK zT tK tT hne hM hL HT hP zM zL hmT CELLS hMM hLL hK hT
  obtain ⟨v, hv⟩ : ∃ v, v = parseNum L := ⟨_, rfl⟩
  have PN2 : Hid (∀ W, Calls Tryz.prog 30 #[.string L] W (fun e w1 => e = .returned (.tuple #[.int .i64 (v.getD 0), .bool v.isSome]) ∧ Chg [] W w1)) := by rw [hv]; exact PN.out
  rw [← hv] at RAW
  obtain ⟨z, hz⟩ : ∃ z, z = v.getD 0 := ⟨_, rfl⟩
  obtain ⟨f3, hf3⟩ : ∃ f, f = v.isSome := ⟨_, rfl⟩
  rw [← hz] at RAW
  rw [← hz, ← hf3] at PN2
  clear PN hv hz hf3
  rcases methCases M with ⟨hmm, m1, m2, m3, m4⟩ | ⟨hmm, m1, m2, m3, m4⟩ | ⟨hmm, m1, m2, m3, m4⟩ | ⟨hmm, m1, m2, m3, m4⟩ | ⟨hmm, m1, m2, m3, m4⟩
  · exact absurd (hk.symm.trans hmm) (by decide)
  · exact absurd (hk.symm.trans hmm) (by decide)
  · exact absurd (hk.symm.trans hmm) (by decide)
  · rw [if_neg (by rw [hmm]; decide), if_neg (by rw [hmm]; decide), if_neg (by rw [hmm]; decide), if_pos hmm] at RAW
    have RAW : Hid (rawS s = (⟨M, ⟨#[]⟩,  0, T⟩ : CallT)) := RAW
    have FX := FC.out (⟨M, ⟨#[]⟩,  0, T⟩ : CallT) (by first | (show L.size ≤ _; omega) | (show K.size ≤ _; omega) | exact Nat.zero_le _) (by first | (show T.size ≤ _; omega) | exact Nat.zero_le _)
    have YES := callS_yes RAW.out
    have NO := callS_no RAW.out
    obtain ⟨t, ht⟩ : ∃ t, t = callT (⟨M, ⟨#[]⟩,  0, T⟩ : CallT) := ⟨_, rfl⟩
    rw [← ht] at FX YES NO
    have FX := Lib.hid FX
    have YES := Lib.hid YES
    have NO := Lib.hid NO
    clear ht RAW hmm hk FC hLs hKs hTs hMs
    by_cases hts : t = s
    · by_cases hs0 : s.size = 0
      · have HN := Lib.hid (NO.out (fun h => h.2 hs0))
        have hb0 : (s.toList == []) = true := by rw [noB_of hs0, ByteArray.toList_eq]; rfl
        subst hts
        clear YES NO hs0
        go_enter Tryz.func32, Tryz.ntmps32
        go_wp2_with fail
        refine (SP.out _).mono ?_
        intro e w2 G
        obtain ⟨A, cap, rfl, hN⟩ := G.sl
        have hrd := hN.rd
        obtain ⟨hcap, b, off, rfl, hb, q0, qm⟩ := C0.out _ _ _ _ hrd
        have c2 := hN.chg
        obtain ⟨y2a, z2a, s2⟩ := c2.cells
        have y2 := fun o => y2a w.heap.size o (by simp)
        have z2 := fun o => z2a w.heap.size o (by simp)
        have d2 : Chg [] w w2 := Chg.trans0 ((Chg.refl _ _).alloc _) c2
        have t2 : w.heap.size < w2.heap.size := by simp at s2; omega
        have tt : w.heap.size < w.heap.size + 1 := by omega
        have HRD := Lib.hid hrd
        rw [hm] at hcap
        have SLW0 := SL2.out (some ⟨b, off, none⟩) cap
        have SRW := SR2.out _ _ _ _ hrd
        obtain ⟨A3, n3, c3v, hsv⟩ : ∃ A3 n3 c3, subV (some ⟨b, off, none⟩) cap 1 (m + 1) = .slice A3 n3 c3 := ⟨_, _, _, rfl⟩
        have hsv2 : subV (some ⟨b, off, none⟩) cap 1 P.length = .slice A3 n3 c3v := by rw [hm]; exact hsv
        rw [hsv] at SLW0
        rw [hsv2] at SRW
        have SLW : ∀ W, (Instr.slice 30 (.slice (some ⟨b, off, none⟩) (m + 1) cap) (some (.int .i64 1)) none none).run Tryz.prog W = .ok (.slice A3 n3 c3v) W := SLW0
        have SAW : ∀ W, (Instr.sliceAt 30 (.slice (some ⟨b, off, none⟩) (m + 1) cap) (some (.int .i64 1)) none none).run Tryz.prog W = .ok (.slice A3 n3 c3v) W := fun W => by
          rw [run_sliceAt_slice (h := by rw [elem_strs]; exact Tryz.underlying30)]
          exact SLW W
        have SRW := Lib.hid SRW
        clear hsv hsv2 SLW0
        clear hrd y2a z2a c2 hN G
        rw [hm]
        go_wp2_with fail
        refine (PN2.out _).mono ?_
        rintro e w3 ⟨rfl, c3⟩
        have s3 := c3.size
        have y3 : ∀ o, w3.cell? ⟨w.heap.size, o, none⟩ = (w.alloc (.cells #[.string ⟨#[]⟩, .string ⟨#[]⟩, .int .i64 0, .string ⟨#[]⟩] 39)).cell? ⟨w.heap.size, o, none⟩ := fun o => (c3.cell (p := ⟨w.heap.size, o, none⟩) (by simp; omega) (by simp)).trans ((((Chg.refl [] w2).alloc _).cell (p := ⟨w.heap.size, o, none⟩) (by simpa using t2) (by simp)).trans (y2 o))
        have z3 : ∀ o, w3.frozen? ⟨w.heap.size, o, none⟩ = (w.alloc (.cells #[.string ⟨#[]⟩, .string ⟨#[]⟩, .int .i64 0, .string ⟨#[]⟩] 39)).frozen? ⟨w.heap.size, o, none⟩ := fun o => (c3.frozen (p := ⟨w.heap.size, o, none⟩) (by simp; omega) (by simp)).trans ((((Chg.refl [] w2).alloc _).frozen (p := ⟨w.heap.size, o, none⟩) (by simpa using t2) (by simp)).trans (z2 o))
        have q03 : w3.cell? ⟨b, off, none⟩ = some (.string M) := (c3.cell (p := ⟨b, off, none⟩) (by simp; omega) (by simp)).trans ((((Chg.refl [] w2).alloc _).cell (p := ⟨b, off, none⟩) (by simpa using hb) (by simp)).trans q0)
        have d3 : Chg [] w w3 := Chg.trans0 (d2.alloc _) c3
        have t3 : w.heap.size < w3.heap.size := by simp at s3; omega
        have u3 : w2.heap.size < w3.heap.size := by simp at s3; omega
        have f3x : ∀ o, w3.frozen? ⟨w2.heap.size, o, none⟩ = (w2.alloc (.cells #[.string M, .string ⟨#[]⟩, .int .i64 0, .string ⟨#[]⟩] 39)).frozen? ⟨w2.heap.size, o, none⟩ := fun o => c3.frozen (p := ⟨w2.heap.size, o, none⟩) (by simp) (by simp)
        have b30 : w3.cell? ⟨w2.heap.size, 0, none⟩ = some (.string M) := (c3.cell (p := ⟨w2.heap.size, 0, none⟩) (by simp) (by simp)).trans (by go_simp)
        have b31 : w3.cell? ⟨w2.heap.size, 1, none⟩ = some (.string ⟨#[]⟩) := (c3.cell (p := ⟨w2.heap.size, 1, none⟩) (by simp) (by simp)).trans (by go_simp)
        have b32 : w3.cell? ⟨w2.heap.size, 2, none⟩ = some (.int .i64 0) := (c3.cell (p := ⟨w2.heap.size, 2, none⟩) (by simp) (by simp)).trans (by go_simp)
        have b33 : w3.cell? ⟨w2.heap.size, 3, none⟩ = some (.string ⟨#[]⟩) := (c3.cell (p := ⟨w2.heap.size, 3, none⟩) (by simp) (by simp)).trans (by go_simp)
        have C23 : Hid (Chg [] w2 w3) := Lib.hid (((Chg.refl [] w2).alloc _).trans0 c3)
        have v3 : w2.heap.size < w2.heap.size + 1 := by omega
        clear c3 y2 z2
        have JW := JT.out w3 _ w2.heap.size (SRW.out.below (C23.out.below (by simp) (Nat.le_refl _))) (by omega)
        have JW := Lib.hid JW
        go_wp2_with fail
        refine JW.out.mono ?_
        rintro e w4 ⟨rfl, c4⟩
        have s4 := c4.size
        have y4 : ∀ o, w4.cell? ⟨w.heap.size, o, none⟩ = (w.alloc (.cells #[.string ⟨#[]⟩, .string ⟨#[]⟩, .int .i64 0, .string ⟨#[]⟩] 39)).cell? ⟨w.heap.size, o, none⟩ := fun o => (c4.cell (p := ⟨w.heap.size, o, none⟩) (by simpa using t3) (by simp)).trans (y3 o)
        have z4 : ∀ o, w4.frozen? ⟨w.heap.size, o, none⟩ = (w.alloc (.cells #[.string ⟨#[]⟩, .string ⟨#[]⟩, .int .i64 0, .string ⟨#[]⟩] 39)).frozen? ⟨w.heap.size, o, none⟩ := fun o => (c4.frozen (p := ⟨w.heap.size, o, none⟩) (by simpa using t3) (by simp)).trans (z3 o)
        have f4x := fun o => (c4.frozen (p := ⟨w2.heap.size, o, none⟩) u3 (by simp)).trans (f3x o)
        have b40 : w4.cell? ⟨w2.heap.size, 0, none⟩ = some (.string M) := (c4.cell (p := ⟨w2.heap.size, 0, none⟩) u3 (by simp)).trans b30
        have b41 : w4.cell? ⟨w2.heap.size, 1, none⟩ = some (.string ⟨#[]⟩) := (c4.cell (p := ⟨w2.heap.size, 1, none⟩) u3 (by simp)).trans b31
        have b42 : w4.cell? ⟨w2.heap.size, 2, none⟩ = some (.int .i64 0) := (c4.cell (p := ⟨w2.heap.size, 2, none⟩) u3 (by simp)).trans b32
        have b43 : w4.cell? ⟨w2.heap.size, 3, none⟩ = some (.string ⟨#[]⟩) := (c4.cell (p := ⟨w2.heap.size, 3, none⟩) u3 (by simp)).trans b33
        have d4 : Chg [] w w4 := d3.trans0 c4
        have t4 : w.heap.size < w4.heap.size := by omega
        have u4 : w2.heap.size < w4.heap.size := by omega
        clear c4 y3 z3 f3x
        have eb40 : ∀ u, (w4.setCell ⟨w2.heap.size, 3, none⟩ u).cell? ⟨w2.heap.size, 0, none⟩ = some (.string M) := fun u => by rw [World.cell?_setCell_other _ _ _ _ (by simp)]; exact b40
        have eb41 : ∀ u, (w4.setCell ⟨w2.heap.size, 3, none⟩ u).cell? ⟨w2.heap.size, 1, none⟩ = some (.string ⟨#[]⟩) := fun u => by rw [World.cell?_setCell_other _ _ _ _ (by simp)]; exact b41
        have eb42 : ∀ u, (w4.setCell ⟨w2.heap.size, 3, none⟩ u).cell? ⟨w2.heap.size, 2, none⟩ = some (.int .i64 0) := fun u => by rw [World.cell?_setCell_other _ _ _ _ (by simp)]; exact b42
        have eb43 : ∀ u, (w4.setCell ⟨w2.heap.size, 3, none⟩ u).cell? ⟨w2.heap.size, 3, none⟩ = some u := fun u => World.cell?_setCell_same _ _ _ b43
        go_wp2_with fail
        refine (FX.out _).mono ?_
        rintro e w5 ⟨rfl, c5⟩
        have s5 := c5.size
        have d5 : Chg [] w w5 := Chg.trans0 (by repeat (first | with_reducible exact d4 | with_reducible exact Chg.refl _ _ | with_reducible refine Chg.drew ?_ | with_reducible refine Chg.drewN ?_ _ | with_reducible refine Chg.alloc ?_ _ | with_reducible refine Chg.setCell ?_ (.inr (by simp; try omega)) _)) c5
        have t5 : w.heap.size < w5.heap.size := by first | omega | (simp at s5; omega)
        have u5 : w2.heap.size < w5.heap.size := by first | omega | (simp at s5; omega)
        have n5 : ¬ w2.heap.size = w.heap.size := by omega
        have y5 : ∀ o, w5.cell? ⟨w.heap.size, o, none⟩ = (w.alloc (.cells #[.string ⟨#[]⟩, .string ⟨#[]⟩, .int .i64 0, .string ⟨#[]⟩] 39)).cell? ⟨w.heap.size, o, none⟩ := fun o => (c5.cell (p := ⟨w.heap.size, o, none⟩) (by first | (simp; done) | (simp; omega) | omega) (by simp)).trans (by first | exact y4 o | (rw [World.cell?_setCell_other _ _ _ _ (by first | (simp; done) | (simp; omega))]; exact y4 o) | (rw [World.cell?_setCell_other _ _ _ _ (by first | (simp; done) | (simp; omega)), World.cell?_setCell_other _ _ _ _ (by first | (simp; done) | (simp; omega))]; exact y4 o))
        have z5 : ∀ o, w5.frozen? ⟨w.heap.size, o, none⟩ = (w.alloc (.cells #[.string ⟨#[]⟩, .string ⟨#[]⟩, .int .i64 0, .string ⟨#[]⟩] 39)).frozen? ⟨w.heap.size, o, none⟩ := fun o => (c5.frozen (p := ⟨w.heap.size, o, none⟩) (by first | (simp; done) | (simp; omega) | omega) (by simp)).trans (by rw [← z4 o]; try simp)
        have b50 : w5.cell? ⟨w2.heap.size, 0, none⟩ = some (.string M) := (c5.cell (p := ⟨w2.heap.size, 0, none⟩) (by first | (simp; done) | (simp; omega) | omega) (by simp)).trans (eb40 _)
        have b51 : w5.cell? ⟨w2.heap.size, 1, none⟩ = some (.string ⟨#[]⟩) := (c5.cell (p := ⟨w2.heap.size, 1, none⟩) (by first | (simp; done) | (simp; omega) | omega) (by simp)).trans (eb41 _)
        have b52 : w5.cell? ⟨w2.heap.size, 2, none⟩ = some (.int .i64 0) := (c5.cell (p := ⟨w2.heap.size, 2, none⟩) (by first | (simp; done) | (simp; omega) | omega) (by simp)).trans (eb42 _)
        have b53 : w5.cell? ⟨w2.heap.size, 3, none⟩ = some (.string T) := (c5.cell (p := ⟨w2.heap.size, 3, none⟩) (by first | (simp; done) | (simp; omega) | omega) (by simp)).trans (eb43 _)
        clear c5
        go_wp2_with fail
        refine bodyPost_ret (v := .tuple #[.agg #[.string ⟨#[]⟩, .string ⟨#[]⟩, .int .i64 0, .string ⟨#[]⟩], .bool false]) (by simp only [results, Tryz.results32]; go_simp) rfl ?_
        exact CallIs.no HN.out (by repeat (first | with_reducible exact d5 | with_reducible exact Chg.refl _ _ | with_reducible refine Chg.drew ?_ | with_reducible refine Chg.drewN ?_ _ | with_reducible refine Chg.alloc ?_ _ | with_reducible refine Chg.setCell ?_ (.inr (by simp; try omega)) _))
      · have HY := Lib.hid (YES.out hts hs0)
        have hb0 : (s.toList == []) = false := by
          rw [beq_eq_false_iff_ne, ByteArray.toList_eq]
          intro e
          have := congrArg List.length e
          rw [size_list] at this
          exact hs0 this
        subst hts
        clear YES NO hs0
        go_enter Tryz.func32, Tryz.ntmps32
        go_wp2_with fail
        refine (SP.out _).mono ?_
        intro e w2 G
        obtain ⟨A, cap, rfl, hN⟩ := G.sl
        have hrd := hN.rd
        obtain ⟨hcap, b, off, rfl, hb, q0, qm⟩ := C0.out _ _ _ _ hrd
        have c2 := hN.chg
        obtain ⟨y2a, z2a, s2⟩ := c2.cells
        have y2 := fun o => y2a w.heap.size o (by simp)
        have z2 := fun o => z2a w.heap.size o (by simp)
        have d2 : Chg [] w w2 := Chg.trans0 ((Chg.refl _ _).alloc _) c2
        have t2 : w.heap.size < w2.heap.size := by simp at s2; omega
        have tt : w.heap.size < w.heap.size + 1 := by omega
        have HRD := Lib.hid hrd
        rw [hm] at hcap
        have SLW0 := SL2.out (some ⟨b, off, none⟩) cap
        have SRW := SR2.out _ _ _ _ hrd
        obtain ⟨A3, n3, c3v, hsv⟩ : ∃ A3 n3 c3, subV (some ⟨b, off, none⟩) cap 1 (m + 1) = .slice A3 n3 c3 := ⟨_, _, _, rfl⟩
        have hsv2 : subV (some ⟨b, off, none⟩) cap 1 P.length = .slice A3 n3 c3v := by rw [hm]; exact hsv
        rw [hsv] at SLW0
        rw [hsv2] at SRW
        have SLW : ∀ W, (Instr.slice 30 (.slice (some ⟨b, off, none⟩) (m + 1) cap) (some (.int .i64 1)) none none).run Tryz.prog W = .ok (.slice A3 n3 c3v) W := SLW0
        have SAW : ∀ W, (Instr.sliceAt 30 (.slice (some ⟨b, off, none⟩) (m + 1) cap) (some (.int .i64 1)) none none).run Tryz.prog W = .ok (.slice A3 n3 c3v) W := fun W => by
          rw [run_sliceAt_slice (h := by rw [elem_strs]; exact Tryz.underlying30)]
          exact SLW W
        have SRW := Lib.hid SRW
        clear hsv hsv2 SLW0
        clear hrd y2a z2a c2 hN G
        rw [hm]
        go_wp2_with fail
        refine (PN2.out _).mono ?_
        rintro e w3 ⟨rfl, c3⟩
        have s3 := c3.size
        have y3 : ∀ o, w3.cell? ⟨w.heap.size, o, none⟩ = (w.alloc (.cells #[.string ⟨#[]⟩, .string ⟨#[]⟩, .int .i64 0, .string ⟨#[]⟩] 39)).cell? ⟨w.heap.size, o, none⟩ := fun o => (c3.cell (p := ⟨w.heap.size, o, none⟩) (by simp; omega) (by simp)).trans ((((Chg.refl [] w2).alloc _).cell (p := ⟨w.heap.size, o, none⟩) (by simpa using t2) (by simp)).trans (y2 o))
        have z3 : ∀ o, w3.frozen? ⟨w.heap.size, o, none⟩ = (w.alloc (.cells #[.string ⟨#[]⟩, .string ⟨#[]⟩, .int .i64 0, .string ⟨#[]⟩] 39)).frozen? ⟨w.heap.size, o, none⟩ := fun o => (c3.frozen (p := ⟨w.heap.size, o, none⟩) (by simp; omega) (by simp)).trans ((((Chg.refl [] w2).alloc _).frozen (p := ⟨w.heap.size, o, none⟩) (by simpa using t2) (by simp)).trans (z2 o))
        have q03 : w3.cell? ⟨b, off, none⟩ = some (.string M) := (c3.cell (p := ⟨b, off, none⟩) (by simp; omega) (by simp)).trans ((((Chg.refl [] w2).alloc _).cell (p := ⟨b, off, none⟩) (by simpa using hb) (by simp)).trans q0)
        have d3 : Chg [] w w3 := Chg.trans0 (d2.alloc _) c3
        have t3 : w.heap.size < w3.heap.size := by simp at s3; omega
        have u3 : w2.heap.size < w3.heap.size := by simp at s3; omega
        have f3x : ∀ o, w3.frozen? ⟨w2.heap.size, o, none⟩ = (w2.alloc (.cells #[.string M, .string ⟨#[]⟩, .int .i64 0, .string ⟨#[]⟩] 39)).frozen? ⟨w2.heap.size, o, none⟩ := fun o => c3.frozen (p := ⟨w2.heap.size, o, none⟩) (by simp) (by simp)
        have b30 : w3.cell? ⟨w2.heap.size, 0, none⟩ = some (.string M) := (c3.cell (p := ⟨w2.heap.size, 0, none⟩) (by simp) (by simp)).trans (by go_simp)
        have b31 : w3.cell? ⟨w2.heap.size, 1, none⟩ = some (.string ⟨#[]⟩) := (c3.cell (p := ⟨w2.heap.size, 1, none⟩) (by simp) (by simp)).trans (by go_simp)
        have b32 : w3.cell? ⟨w2.heap.size, 2, none⟩ = some (.int .i64 0) := (c3.cell (p := ⟨w2.heap.size, 2, none⟩) (by simp) (by simp)).trans (by go_simp)
        have b33 : w3.cell? ⟨w2.heap.size, 3, none⟩ = some (.string ⟨#[]⟩) := (c3.cell (p := ⟨w2.heap.size, 3, none⟩) (by simp) (by simp)).trans (by go_simp)
        have C23 : Hid (Chg [] w2 w3) := Lib.hid (((Chg.refl [] w2).alloc _).trans0 c3)
        have v3 : w2.heap.size < w2.heap.size + 1 := by omega
        clear c3 y2 z2
        have JW := JT.out w3 _ w2.heap.size (SRW.out.below (C23.out.below (by simp) (Nat.le_refl _))) (by omega)
        have JW := Lib.hid JW
        go_wp2_with fail
        refine JW.out.mono ?_
        rintro e w4 ⟨rfl, c4⟩
        have s4 := c4.size
        have y4 : ∀ o, w4.cell? ⟨w.heap.size, o, none⟩ = (w.alloc (.cells #[.string ⟨#[]⟩, .string ⟨#[]⟩, .int .i64 0, .string ⟨#[]⟩] 39)).cell? ⟨w.heap.size, o, none⟩ := fun o => (c4.cell (p := ⟨w.heap.size, o, none⟩) (by simpa using t3) (by simp)).trans (y3 o)
        have z4 : ∀ o, w4.frozen? ⟨w.heap.size, o, none⟩ = (w.alloc (.cells #[.string ⟨#[]⟩, .string ⟨#[]⟩, .int .i64 0, .string ⟨#[]⟩] 39)).frozen? ⟨w.heap.size, o, none⟩ := fun o => (c4.frozen (p := ⟨w.heap.size, o, none⟩) (by simpa using t3) (by simp)).trans (z3 o)
        have f4x := fun o => (c4.frozen (p := ⟨w2.heap.size, o, none⟩) u3 (by simp)).trans (f3x o)
        have b40 : w4.cell? ⟨w2.heap.size, 0, none⟩ = some (.string M) := (c4.cell (p := ⟨w2.heap.size, 0, none⟩) u3 (by simp)).trans b30
        have b41 : w4.cell? ⟨w2.heap.size, 1, none⟩ = some (.string ⟨#[]⟩) := (c4.cell (p := ⟨w2.heap.size, 1, none⟩) u3 (by simp)).trans b31
        have b42 : w4.cell? ⟨w2.heap.size, 2, none⟩ = some (.int .i64 0) := (c4.cell (p := ⟨w2.heap.size, 2, none⟩) u3 (by simp)).trans b32
        have b43 : w4.cell? ⟨w2.heap.size, 3, none⟩ = some (.string ⟨#[]⟩) := (c4.cell (p := ⟨w2.heap.size, 3, none⟩) u3 (by simp)).trans b33
        have d4 : Chg [] w w4 := d3.trans0 c4
        have t4 : w.heap.size < w4.heap.size := by omega
        have u4 : w2.heap.size < w4.heap.size := by omega
        clear c4 y3 z3 f3x
        have eb40 : ∀ u, (w4.setCell ⟨w2.heap.size, 3, none⟩ u).cell? ⟨w2.heap.size, 0, none⟩ = some (.string M) := fun u => by rw [World.cell?_setCell_other _ _ _ _ (by simp)]; exact b40
        have eb41 : ∀ u, (w4.setCell ⟨w2.heap.size, 3, none⟩ u).cell? ⟨w2.heap.size, 1, none⟩ = some (.string ⟨#[]⟩) := fun u => by rw [World.cell?_setCell_other _ _ _ _ (by simp)]; exact b41
        have eb42 : ∀ u, (w4.setCell ⟨w2.heap.size, 3, none⟩ u).cell? ⟨w2.heap.size, 2, none⟩ = some (.int .i64 0) := fun u => by rw [World.cell?_setCell_other _ _ _ _ (by simp)]; exact b42
        have eb43 : ∀ u, (w4.setCell ⟨w2.heap.size, 3, none⟩ u).cell? ⟨w2.heap.size, 3, none⟩ = some u := fun u => World.cell?_setCell_same _ _ _ b43
        go_wp2_with fail
        refine (FX.out _).mono ?_
        rintro e w5 ⟨rfl, c5⟩
        have s5 := c5.size
        have d5 : Chg [] w w5 := Chg.trans0 (by repeat (first | with_reducible exact d4 | with_reducible exact Chg.refl _ _ | with_reducible refine Chg.drew ?_ | with_reducible refine Chg.drewN ?_ _ | with_reducible refine Chg.alloc ?_ _ | with_reducible refine Chg.setCell ?_ (.inr (by simp; try omega)) _)) c5
        have t5 : w.heap.size < w5.heap.size := by first | omega | (simp at s5; omega)
        have u5 : w2.heap.size < w5.heap.size := by first | omega | (simp at s5; omega)
        have n5 : ¬ w2.heap.size = w.heap.size := by omega
        have y5 : ∀ o, w5.cell? ⟨w.heap.size, o, none⟩ = (w.alloc (.cells #[.string ⟨#[]⟩, .string ⟨#[]⟩, .int .i64 0, .string ⟨#[]⟩] 39)).cell? ⟨w.heap.size, o, none⟩ := fun o => (c5.cell (p := ⟨w.heap.size, o, none⟩) (by first | (simp; done) | (simp; omega) | omega) (by simp)).trans (by first | exact y4 o | (rw [World.cell?_setCell_other _ _ _ _ (by first | (simp; done) | (simp; omega))]; exact y4 o) | (rw [World.cell?_setCell_other _ _ _ _ (by first | (simp; done) | (simp; omega)), World.cell?_setCell_other _ _ _ _ (by first | (simp; done) | (simp; omega))]; exact y4 o))
        have z5 : ∀ o, w5.frozen? ⟨w.heap.size, o, none⟩ = (w.alloc (.cells #[.string ⟨#[]⟩, .string ⟨#[]⟩, .int .i64 0, .string ⟨#[]⟩] 39)).frozen? ⟨w.heap.size, o, none⟩ := fun o => (c5.frozen (p := ⟨w.heap.size, o, none⟩) (by first | (simp; done) | (simp; omega) | omega) (by simp)).trans (by rw [← z4 o]; try simp)
        have b50 : w5.cell? ⟨w2.heap.size, 0, none⟩ = some (.string M) := (c5.cell (p := ⟨w2.heap.size, 0, none⟩) (by first | (simp; done) | (simp; omega) | omega) (by simp)).trans (eb40 _)
        have b51 : w5.cell? ⟨w2.heap.size, 1, none⟩ = some (.string ⟨#[]⟩) := (c5.cell (p := ⟨w2.heap.size, 1, none⟩) (by first | (simp; done) | (simp; omega) | omega) (by simp)).trans (eb41 _)
        have b52 : w5.cell? ⟨w2.heap.size, 2, none⟩ = some (.int .i64 0) := (c5.cell (p := ⟨w2.heap.size, 2, none⟩) (by first | (simp; done) | (simp; omega) | omega) (by simp)).trans (eb42 _)
        have b53 : w5.cell? ⟨w2.heap.size, 3, none⟩ = some (.string T) := (c5.cell (p := ⟨w2.heap.size, 3, none⟩) (by first | (simp; done) | (simp; omega) | omega) (by simp)).trans (eb43 _)
        clear c5
        go_wp2_with fail
        refine bodyPost_ret (v := .tuple #[.agg #[.string M, .string ⟨#[]⟩, .int .i64 0, .string T], .bool true]) (by simp only [results, Tryz.results32]; go_simp) rfl ?_
        exact CallIs.yes (x := (⟨M, ⟨#[]⟩,  0, T⟩ : CallT)) HY.out (by repeat (first | with_reducible exact d5 | with_reducible exact Chg.refl _ _ | with_reducible refine Chg.drew ?_ | with_reducible refine Chg.drewN ?_ _ | with_reducible refine Chg.alloc ?_ _ | with_reducible refine Chg.setCell ?_ (.inr (by simp; try omega)) _))
    · have HN := Lib.hid (NO.out (fun h => hts h.1))
      have hb := str_ne hts
      clear YES NO hts
      go_enter Tryz.func32, Tryz.ntmps32
      go_wp2_with fail
      refine (SP.out _).mono ?_
      intro e w2 G
      obtain ⟨A, cap, rfl, hN⟩ := G.sl
      have hrd := hN.rd
      obtain ⟨hcap, b, off, rfl, hb, q0, qm⟩ := C0.out _ _ _ _ hrd
      have c2 := hN.chg
      obtain ⟨y2a, z2a, s2⟩ := c2.cells
      have y2 := fun o => y2a w.heap.size o (by simp)
      have z2 := fun o => z2a w.heap.size o (by simp)
      have d2 : Chg [] w w2 := Chg.trans0 ((Chg.refl _ _).alloc _) c2
      have t2 : w.heap.size < w2.heap.size := by simp at s2; omega
      have tt : w.heap.size < w.heap.size + 1 := by omega
      have HRD := Lib.hid hrd
      rw [hm] at hcap
      have SLW0 := SL2.out (some ⟨b, off, none⟩) cap
      have SRW := SR2.out _ _ _ _ hrd
      obtain ⟨A3, n3, c3v, hsv⟩ : ∃ A3 n3 c3, subV (some ⟨b, off, none⟩) cap 1 (m + 1) = .slice A3 n3 c3 := ⟨_, _, _, rfl⟩
      have hsv2 : subV (some ⟨b, off, none⟩) cap 1 P.length = .slice A3 n3 c3v := by rw [hm]; exact hsv
      rw [hsv] at SLW0
      rw [hsv2] at SRW
      have SLW : ∀ W, (Instr.slice 30 (.slice (some ⟨b, off, none⟩) (m + 1) cap) (some (.int .i64 1)) none none).run Tryz.prog W = .ok (.slice A3 n3 c3v) W := SLW0
      have SAW : ∀ W, (Instr.sliceAt 30 (.slice (some ⟨b, off, none⟩) (m + 1) cap) (some (.int .i64 1)) none none).run Tryz.prog W = .ok (.slice A3 n3 c3v) W := fun W => by
        rw [run_sliceAt_slice (h := by rw [elem_strs]; exact Tryz.underlying30)]
        exact SLW W
      have SRW := Lib.hid SRW
      clear hsv hsv2 SLW0
      clear hrd y2a z2a c2 hN G
      rw [hm]
      go_wp2_with fail
      refine (PN2.out _).mono ?_
      rintro e w3 ⟨rfl, c3⟩
      have s3 := c3.size
      have y3 : ∀ o, w3.cell? ⟨w.heap.size, o, none⟩ = (w.alloc (.cells #[.string ⟨#[]⟩, .string ⟨#[]⟩, .int .i64 0, .string ⟨#[]⟩] 39)).cell? ⟨w.heap.size, o, none⟩ := fun o => (c3.cell (p := ⟨w.heap.size, o, none⟩) (by simp; omega) (by simp)).trans ((((Chg.refl [] w2).alloc _).cell (p := ⟨w.heap.size, o, none⟩) (by simpa using t2) (by simp)).trans (y2 o))
      have z3 : ∀ o, w3.frozen? ⟨w.heap.size, o, none⟩ = (w.alloc (.cells #[.string ⟨#[]⟩, .string ⟨#[]⟩, .int .i64 0, .string ⟨#[]⟩] 39)).frozen? ⟨w.heap.size, o, none⟩ := fun o => (c3.frozen (p := ⟨w.heap.size, o, none⟩) (by simp; omega) (by simp)).trans ((((Chg.refl [] w2).alloc _).frozen (p := ⟨w.heap.size, o, none⟩) (by simpa using t2) (by simp)).trans (z2 o))
      have q03 : w3.cell? ⟨b, off, none⟩ = some (.string M) := (c3.cell (p := ⟨b, off, none⟩) (by simp; omega) (by simp)).trans ((((Chg.refl [] w2).alloc _).cell (p := ⟨b, off, none⟩) (by simpa using hb) (by simp)).trans q0)
      have d3 : Chg [] w w3 := Chg.trans0 (d2.alloc _) c3
      have t3 : w.heap.size < w3.heap.size := by simp at s3; omega
      have u3 : w2.heap.size < w3.heap.size := by simp at s3; omega
      have f3x : ∀ o, w3.frozen? ⟨w2.heap.size, o, none⟩ = (w2.alloc (.cells #[.string M, .string ⟨#[]⟩, .int .i64 0, .string ⟨#[]⟩] 39)).frozen? ⟨w2.heap.size, o, none⟩ := fun o => c3.frozen (p := ⟨w2.heap.size, o, none⟩) (by simp) (by simp)
      have b30 : w3.cell? ⟨w2.heap.size, 0, none⟩ = some (.string M) := (c3.cell (p := ⟨w2.heap.size, 0, none⟩) (by simp) (by simp)).trans (by go_simp)
      have b31 : w3.cell? ⟨w2.heap.size, 1, none⟩ = some (.string ⟨#[]⟩) := (c3.cell (p := ⟨w2.heap.size, 1, none⟩) (by simp) (by simp)).trans (by go_simp)
      have b32 : w3.cell? ⟨w2.heap.size, 2, none⟩ = some (.int .i64 0) := (c3.cell (p := ⟨w2.heap.size, 2, none⟩) (by simp) (by simp)).trans (by go_simp)
      have b33 : w3.cell? ⟨w2.heap.size, 3, none⟩ = some (.string ⟨#[]⟩) := (c3.cell (p := ⟨w2.heap.size, 3, none⟩) (by simp) (by simp)).trans (by go_simp)
      have C23 : Hid (Chg [] w2 w3) := Lib.hid (((Chg.refl [] w2).alloc _).trans0 c3)
      have v3 : w2.heap.size < w2.heap.size + 1 := by omega
      clear c3 y2 z2
      have JW := JT.out w3 _ w2.heap.size (SRW.out.below (C23.out.below (by simp) (Nat.le_refl _))) (by omega)
      have JW := Lib.hid JW
      go_wp2_with fail
      refine JW.out.mono ?_
      rintro e w4 ⟨rfl, c4⟩
      have s4 := c4.size
      have y4 : ∀ o, w4.cell? ⟨w.heap.size, o, none⟩ = (w.alloc (.cells #[.string ⟨#[]⟩, .string ⟨#[]⟩, .int .i64 0, .string ⟨#[]⟩] 39)).cell? ⟨w.heap.size, o, none⟩ := fun o => (c4.cell (p := ⟨w.heap.size, o, none⟩) (by simpa using t3) (by simp)).trans (y3 o)
      have z4 : ∀ o, w4.frozen? ⟨w.heap.size, o, none⟩ = (w.alloc (.cells #[.string ⟨#[]⟩, .string ⟨#[]⟩, .int .i64 0, .string ⟨#[]⟩] 39)).frozen? ⟨w.heap.size, o, none⟩ := fun o => (c4.frozen (p := ⟨w.heap.size, o, none⟩) (by simpa using t3) (by simp)).trans (z3 o)
      have f4x := fun o => (c4.frozen (p := ⟨w2.heap.size, o, none⟩) u3 (by simp)).trans (f3x o)
      have b40 : w4.cell? ⟨w2.heap.size, 0, none⟩ = some (.string M) := (c4.cell (p := ⟨w2.heap.size, 0, none⟩) u3 (by simp)).trans b30
      have b41 : w4.cell? ⟨w2.heap.size, 1, none⟩ = some (.string ⟨#[]⟩) := (c4.cell (p := ⟨w2.heap.size, 1, none⟩) u3 (by simp)).trans b31
      have b42 : w4.cell? ⟨w2.heap.size, 2, none⟩ = some (.int .i64 0) := (c4.cell (p := ⟨w2.heap.size, 2, none⟩) u3 (by simp)).trans b32
      have b43 : w4.cell? ⟨w2.heap.size, 3, none⟩ = some (.string ⟨#[]⟩) := (c4.cell (p := ⟨w2.heap.size, 3, none⟩) u3 (by simp)).trans b33
      have d4 : Chg [] w w4 := d3.trans0 c4
      have t4 : w.heap.size < w4.heap.size := by omega
      have u4 : w2.heap.size < w4.heap.size := by omega
      clear c4 y3 z3 f3x
      have eb40 : ∀ u, (w4.setCell ⟨w2.heap.size, 3, none⟩ u).cell? ⟨w2.heap.size, 0, none⟩ = some (.string M) := fun u => by rw [World.cell?_setCell_other _ _ _ _ (by simp)]; exact b40
      have eb41 : ∀ u, (w4.setCell ⟨w2.heap.size, 3, none⟩ u).cell? ⟨w2.heap.size, 1, none⟩ = some (.string ⟨#[]⟩) := fun u => by rw [World.cell?_setCell_other _ _ _ _ (by simp)]; exact b41
      have eb42 : ∀ u, (w4.setCell ⟨w2.heap.size, 3, none⟩ u).cell? ⟨w2.heap.size, 2, none⟩ = some (.int .i64 0) := fun u => by rw [World.cell?_setCell_other _ _ _ _ (by simp)]; exact b42
      have eb43 : ∀ u, (w4.setCell ⟨w2.heap.size, 3, none⟩ u).cell? ⟨w2.heap.size, 3, none⟩ = some u := fun u => World.cell?_setCell_same _ _ _ b43
      go_wp2_with fail
      refine (FX.out _).mono ?_
      rintro e w5 ⟨rfl, c5⟩
      have s5 := c5.size
      have d5 : Chg [] w w5 := Chg.trans0 (by repeat (first | with_reducible exact d4 | with_reducible exact Chg.refl _ _ | with_reducible refine Chg.drew ?_ | with_reducible refine Chg.drewN ?_ _ | with_reducible refine Chg.alloc ?_ _ | with_reducible refine Chg.setCell ?_ (.inr (by simp; try omega)) _)) c5
      have t5 : w.heap.size < w5.heap.size := by first | omega | (simp at s5; omega)
      have u5 : w2.heap.size < w5.heap.size := by first | omega | (simp at s5; omega)
      have n5 : ¬ w2.heap.size = w.heap.size := by omega
      have y5 : ∀ o, w5.cell? ⟨w.heap.size, o, none⟩ = (w.alloc (.cells #[.string ⟨#[]⟩, .string ⟨#[]⟩, .int .i64 0, .string ⟨#[]⟩] 39)).cell? ⟨w.heap.size, o, none⟩ := fun o => (c5.cell (p := ⟨w.heap.size, o, none⟩) (by first | (simp; done) | (simp; omega) | omega) (by simp)).trans (by first | exact y4 o | (rw [World.cell?_setCell_other _ _ _ _ (by first | (simp; done) | (simp; omega))]; exact y4 o) | (rw [World.cell?_setCell_other _ _ _ _ (by first | (simp; done) | (simp; omega)), World.cell?_setCell_other _ _ _ _ (by first | (simp; done) | (simp; omega))]; exact y4 o))
      have z5 : ∀ o, w5.frozen? ⟨w.heap.size, o, none⟩ = (w.alloc (.cells #[.string ⟨#[]⟩, .string ⟨#[]⟩, .int .i64 0, .string ⟨#[]⟩] 39)).frozen? ⟨w.heap.size, o, none⟩ := fun o => (c5.frozen (p := ⟨w.heap.size, o, none⟩) (by first | (simp; done) | (simp; omega) | omega) (by simp)).trans (by rw [← z4 o]; try simp)
      have b50 : w5.cell? ⟨w2.heap.size, 0, none⟩ = some (.string M) := (c5.cell (p := ⟨w2.heap.size, 0, none⟩) (by first | (simp; done) | (simp; omega) | omega) (by simp)).trans (eb40 _)
      have b51 : w5.cell? ⟨w2.heap.size, 1, none⟩ = some (.string ⟨#[]⟩) := (c5.cell (p := ⟨w2.heap.size, 1, none⟩) (by first | (simp; done) | (simp; omega) | omega) (by simp)).trans (eb41 _)
      have b52 : w5.cell? ⟨w2.heap.size, 2, none⟩ = some (.int .i64 0) := (c5.cell (p := ⟨w2.heap.size, 2, none⟩) (by first | (simp; done) | (simp; omega) | omega) (by simp)).trans (eb42 _)
      have b53 : w5.cell? ⟨w2.heap.size, 3, none⟩ = some (.string T) := (c5.cell (p := ⟨w2.heap.size, 3, none⟩) (by first | (simp; done) | (simp; omega) | omega) (by simp)).trans (eb43 _)
      clear c5
      go_wp2_with fail
      refine bodyPost_ret (v := .tuple #[.agg #[.string ⟨#[]⟩, .string ⟨#[]⟩, .int .i64 0, .string ⟨#[]⟩], .bool false]) (by simp only [results, Tryz.results32]; go_simp) rfl ?_
      exact CallIs.no HN.out (by repeat (first | with_reducible exact d5 | with_reducible exact Chg.refl _ _ | with_reducible refine Chg.drew ?_ | with_reducible refine Chg.drewN ?_ _ | with_reducible refine Chg.alloc ?_ _ | with_reducible refine Chg.setCell ?_ (.inr (by simp; try omega)) _))
  · exact absurd hk (by first | exact hmm.1 | exact hmm.2.1 | exact hmm.2.2.1 | exact hmm.2.2.2)
set_option maxRecDepth 100000 in
set_option maxHeartbeats 3000000 in
theorem parseCall_spec_other (s : ByteArray) (w : World) (hs : s.size ≤ 100000) (hk : (splitS 32 s).headD noB ≠ mGet ∧ (splitS 32 s).headD noB ≠ mPut ∧ (splitS 32 s).headD noB ≠ mHear ∧ (splitS 32 s).headD noB ≠ mLoad) :
    Calls Tryz.prog 32 #[.string s] w (CallIs (callS s) w) := by
  have SP := Lib.hid (fun W => splitAt_one_any s 32 W (by omega))
  have RAW : rawS s = rawS s := rfl
  conv at RAW => rhs; unfold rawS
  dsimp only at RAW
  have HT := tot_split s
  have hne := spL_ne s.data.toList
  rw [← splitS_spL] at hne
  obtain ⟨P, hP⟩ : ∃ P, P = splitS 32 s := ⟨_, rfl⟩
  rw [← hP] at SP RAW HT hne hk
  obtain ⟨m, hm⟩ : ∃ m, P.length = m + 1 := ⟨P.length - 1, by have := List.length_pos_iff.2 hne; omega⟩
  have hmT : m + 1 ≤ s.size + 1 := by rw [← hm, ← HT]; exact tot_len P
  have hM : P.headD noB = P[0]'(by omega) := by
    cases P with
    | nil => exact absurd rfl hne
    | cons x r => rfl
  have hL : P.getLastD noB = P[m]'(by omega) := by
    rw [List.getLastD_eq_getLast?, List.getLast?_eq_getElem?, show P.length - 1 = m by omega, List.getElem?_eq_getElem (by omega)]
    rfl
  have zM := tot_mem (List.getElem_mem (show 0 < P.length by omega))
  have zL := tot_mem (List.getElem_mem (show m < P.length by omega))
  have zK := joinB_tot ((P.drop 1).dropLast)
  have zT := joinB_tot (P.drop 1)
  have tK : tot ((P.drop 1).dropLast) ≤ tot P := by rw [List.dropLast_eq_take]; exact Nat.le_trans (tot_take _ _) (tot_drop _ _)
  have tT : tot (P.drop 1) ≤ tot P := tot_drop _ _
  have pm := put_mid hm
  have pl := mid_load (P := P)
  rw [hM, hL] at RAW
  rw [hM] at hk
  obtain ⟨M, hMM⟩ : ∃ M, M = P[0]'(by omega) := ⟨_, rfl⟩
  obtain ⟨L, hLL⟩ : ∃ L, L = P[m]'(by omega) := ⟨_, rfl⟩
  obtain ⟨K, hK⟩ : ∃ K, K = joinB ((P.drop 1).dropLast) spB := ⟨_, rfl⟩
  obtain ⟨T, hT⟩ : ∃ T, T = joinB (P.drop 1) spB := ⟨_, rfl⟩
  rw [← hMM, ← hLL] at RAW
  rw [← hMM] at hk
  rw [← hMM] at zM
  rw [← hLL] at zL
  rw [← hK] at RAW zK
  rw [← hT] at RAW zT
  have CELLS := Lib.hid (fun W B A cap (hr : Rd W B (strs P) (.slice A P.length cap)) => strs_cells (strs_row hr).choose_spec.choose_spec.2.2.2 0 (by omega))
  have PN := Lib.hid (fun W => parseNumber_spec_any L W (by omega))
  have JK := Lib.hid (fun W u B (hr : Rd W B (strs ((P.take (max 1 m)).drop 1)) u) (hB : B ≤ W.heap.size) => joinWith_spec_any _ spB u B W (by have := tot_len ((P.take (max 1 m)).drop 1); have := tot_drop (P.take (max 1 m)) 1; have := tot_take P (max 1 m); omega) (by decide) (by have := tot_W1 ((P.take (max 1 m)).drop 1); have := tot_drop (P.take (max 1 m)) 1; have := tot_take P (max 1 m); omega) hr hB)
  have JT := Lib.hid (fun W u B (hr : Rd W B (strs ((P.take P.length).drop 1)) u) (hB : B ≤ W.heap.size) => joinWith_spec_any _ spB u B W (by have := tot_len ((P.take P.length).drop 1); have := tot_drop (P.take P.length) 1; have := tot_take P P.length; omega) (by decide) (by have := tot_W1 ((P.take P.length).drop 1); have := tot_drop (P.take P.length) 1; have := tot_take P P.length; omega) hr hB)
  rw [pm, ← hK] at JK
  rw [pl, ← hT] at JT
  have FC := Lib.hid (fun (x : CallT) (hk : x.key.size ≤ 1048576) (hx : x.text.size ≤ 1048576) W => formatCall_spec_any x W hk hx)
  have hmB : m ≤ 100000 := by omega
  have hMs : M.size ≤ 200000 := by omega
  have hLs : L.size ≤ 200000 := by omega
  have hKs : K.size ≤ 200000 := by omega
  have hTs : T.size ≤ 200000 := by omega
  have SL := Lib.hid (fun (A : Option Addr) (cap : Nat) (hc : m + 1 ≤ cap) W => sub_lh A (m + 1) cap 1 (max 1 m) W (by omega) (by omega) hc)
  have SL2 := Lib.hid (fun (A : Option Addr) (cap : Nat) W => sub_l A (m + 1) cap 1 W (by omega))
  have SR := Lib.hid (fun W B A cap (hr : Rd W B (strs P) (.slice A P.length cap)) => by have h := sub_rd (i := 1) (j := max 1 m) hr (by omega) (by omega); rw [pm] at h; exact h)
  have SR2 := Lib.hid (fun W B A cap (hr : Rd W B (strs P) (.slice A P.length cap)) => by have h := sub_rd (i := 1) (j := P.length) hr (by omega) (Nat.le_refl _); rw [mid_load] at h; exact h)
  have C0 : Hid (∀ W B A cap, Rd W B (strs P) (.slice A P.length cap) → P.length ≤ cap ∧ ∃ b off, A = some ⟨b, off, none⟩ ∧ b < B ∧ W.cell? ⟨b, off, none⟩ = some (.string M) ∧ W.cell? ⟨b, off + m, none⟩ = some (.string L)) := by
    intro W B A cap hr
    obtain ⟨_, _, e, h0, _, hrow⟩ := strs_row hr
    cases e
    obtain ⟨b, off, rfl, hb, q0⟩ := strs_cells hrow 0 (by omega)
    obtain ⟨b2, off2, e2, _, qm⟩ := strs_cells hrow m (by omega)
    cases e2
    exact ⟨h0, b, off, rfl, hb, by rw [hMM]; exact q0, by rw [hLL]; exact qm⟩
  clear pm pl zK zT tK tT hne hM hL HT hP zM zL hmT CELLS hMM hLL hK hT
  obtain ⟨v, hv⟩ : ∃ v, v = parseNum L := ⟨_, rfl⟩
  have PN2 : Hid (∀ W, Calls Tryz.prog 30 #[.string L] W (fun e w1 => e = .returned (.tuple #[.int .i64 (v.getD 0), .bool v.isSome]) ∧ Chg [] W w1)) := by rw [hv]; exact PN.out
  rw [← hv] at RAW
  obtain ⟨z, hz⟩ : ∃ z, z = v.getD 0 := ⟨_, rfl⟩
  obtain ⟨f3, hf3⟩ : ∃ f, f = v.isSome := ⟨_, rfl⟩
  rw [← hz] at RAW
  rw [← hz, ← hf3] at PN2
  clear PN hv hz hf3
  rcases methCases M with ⟨hmm, m1, m2, m3, m4⟩ | ⟨hmm, m1, m2, m3, m4⟩ | ⟨hmm, m1, m2, m3, m4⟩ | ⟨hmm, m1, m2, m3, m4⟩ | ⟨hmm, m1, m2, m3, m4⟩
  · exact absurd hmm (by first | exact hk.1 | exact hk.2.1 | exact hk.2.2.1 | exact hk.2.2.2)
  · exact absurd hmm (by first | exact hk.1 | exact hk.2.1 | exact hk.2.2.1 | exact hk.2.2.2)
  · exact absurd hmm (by first | exact hk.1 | exact hk.2.1 | exact hk.2.2.1 | exact hk.2.2.2)
  · exact absurd hmm (by first | exact hk.1 | exact hk.2.1 | exact hk.2.2.1 | exact hk.2.2.2)
  · rw [if_neg hmm.1, if_neg hmm.2.1, if_neg hmm.2.2.1, if_neg hmm.2.2.2] at RAW
    have RAW : Hid (rawS s = (⟨M, ⟨#[]⟩,  0, ⟨#[]⟩⟩ : CallT)) := RAW
    have FX := FC.out (⟨M, ⟨#[]⟩,  0, ⟨#[]⟩⟩ : CallT) (by first | (show L.size ≤ _; omega) | (show K.size ≤ _; omega) | exact Nat.zero_le _) (by first | (show T.size ≤ _; omega) | exact Nat.zero_le _)
    have YES := callS_yes RAW.out
    have NO := callS_no RAW.out
    obtain ⟨t, ht⟩ : ∃ t, t = callT (⟨M, ⟨#[]⟩,  0, ⟨#[]⟩⟩ : CallT) := ⟨_, rfl⟩
    rw [← ht] at FX YES NO
    have FX := Lib.hid FX
    have YES := Lib.hid YES
    have NO := Lib.hid NO
    clear ht RAW hmm hk FC hLs hKs hTs hMs
    by_cases hts : t = s
    · by_cases hs0 : s.size = 0
      · have HN := Lib.hid (NO.out (fun h => h.2 hs0))
        have hb0 : (s.toList == []) = true := by rw [noB_of hs0, ByteArray.toList_eq]; rfl
        subst hts
        clear YES NO hs0
        go_enter Tryz.func32, Tryz.ntmps32
        go_wp2_with fail
        refine (SP.out _).mono ?_
        intro e w2 G
        obtain ⟨A, cap, rfl, hN⟩ := G.sl
        have hrd := hN.rd
        obtain ⟨hcap, b, off, rfl, hb, q0, qm⟩ := C0.out _ _ _ _ hrd
        have c2 := hN.chg
        obtain ⟨y2a, z2a, s2⟩ := c2.cells
        have y2 := fun o => y2a w.heap.size o (by simp)
        have z2 := fun o => z2a w.heap.size o (by simp)
        have d2 : Chg [] w w2 := Chg.trans0 ((Chg.refl _ _).alloc _) c2
        have t2 : w.heap.size < w2.heap.size := by simp at s2; omega
        have tt : w.heap.size < w.heap.size + 1 := by omega
        have HRD := Lib.hid hrd
        rw [hm] at hcap
        clear hrd y2a z2a c2 hN G
        rw [hm]
        go_wp2_with fail
        refine (PN2.out _).mono ?_
        rintro e w3 ⟨rfl, c3⟩
        have s3 := c3.size
        have y3 : ∀ o, w3.cell? ⟨w.heap.size, o, none⟩ = (w.alloc (.cells #[.string ⟨#[]⟩, .string ⟨#[]⟩, .int .i64 0, .string ⟨#[]⟩] 39)).cell? ⟨w.heap.size, o, none⟩ := fun o => (c3.cell (p := ⟨w.heap.size, o, none⟩) (by simp; omega) (by simp)).trans ((((Chg.refl [] w2).alloc _).cell (p := ⟨w.heap.size, o, none⟩) (by simpa using t2) (by simp)).trans (y2 o))
        have z3 : ∀ o, w3.frozen? ⟨w.heap.size, o, none⟩ = (w.alloc (.cells #[.string ⟨#[]⟩, .string ⟨#[]⟩, .int .i64 0, .string ⟨#[]⟩] 39)).frozen? ⟨w.heap.size, o, none⟩ := fun o => (c3.frozen (p := ⟨w.heap.size, o, none⟩) (by simp; omega) (by simp)).trans ((((Chg.refl [] w2).alloc _).frozen (p := ⟨w.heap.size, o, none⟩) (by simpa using t2) (by simp)).trans (z2 o))
        have q03 : w3.cell? ⟨b, off, none⟩ = some (.string M) := (c3.cell (p := ⟨b, off, none⟩) (by simp; omega) (by simp)).trans ((((Chg.refl [] w2).alloc _).cell (p := ⟨b, off, none⟩) (by simpa using hb) (by simp)).trans q0)
        have d3 : Chg [] w w3 := Chg.trans0 (d2.alloc _) c3
        have t3 : w.heap.size < w3.heap.size := by simp at s3; omega
        have u3 : w2.heap.size < w3.heap.size := by simp at s3; omega
        have f3x : ∀ o, w3.frozen? ⟨w2.heap.size, o, none⟩ = (w2.alloc (.cells #[.string M, .string ⟨#[]⟩, .int .i64 0, .string ⟨#[]⟩] 39)).frozen? ⟨w2.heap.size, o, none⟩ := fun o => c3.frozen (p := ⟨w2.heap.size, o, none⟩) (by simp) (by simp)
        have b30 : w3.cell? ⟨w2.heap.size, 0, none⟩ = some (.string M) := (c3.cell (p := ⟨w2.heap.size, 0, none⟩) (by simp) (by simp)).trans (by go_simp)
        have b31 : w3.cell? ⟨w2.heap.size, 1, none⟩ = some (.string ⟨#[]⟩) := (c3.cell (p := ⟨w2.heap.size, 1, none⟩) (by simp) (by simp)).trans (by go_simp)
        have b32 : w3.cell? ⟨w2.heap.size, 2, none⟩ = some (.int .i64 0) := (c3.cell (p := ⟨w2.heap.size, 2, none⟩) (by simp) (by simp)).trans (by go_simp)
        have b33 : w3.cell? ⟨w2.heap.size, 3, none⟩ = some (.string ⟨#[]⟩) := (c3.cell (p := ⟨w2.heap.size, 3, none⟩) (by simp) (by simp)).trans (by go_simp)
        have C23 : Hid (Chg [] w2 w3) := Lib.hid (((Chg.refl [] w2).alloc _).trans0 c3)
        have v3 : w2.heap.size < w2.heap.size + 1 := by omega
        clear c3 y2 z2
        go_wp2_with fail
        refine (FX.out _).mono ?_
        rintro e w5 ⟨rfl, c5⟩
        have s5 := c5.size
        have d5 : Chg [] w w5 := Chg.trans0 (by repeat (first | with_reducible exact d3 | with_reducible exact Chg.refl _ _ | with_reducible refine Chg.drew ?_ | with_reducible refine Chg.drewN ?_ _ | with_reducible refine Chg.alloc ?_ _ | with_reducible refine Chg.setCell ?_ (.inr (by simp; try omega)) _)) c5
        have t5 : w.heap.size < w5.heap.size := by first | omega | (simp at s5; omega)
        have u5 : w2.heap.size < w5.heap.size := by first | omega | (simp at s5; omega)
        have n5 : ¬ w2.heap.size = w.heap.size := by omega
        have y5 : ∀ o, w5.cell? ⟨w.heap.size, o, none⟩ = (w.alloc (.cells #[.string ⟨#[]⟩, .string ⟨#[]⟩, .int .i64 0, .string ⟨#[]⟩] 39)).cell? ⟨w.heap.size, o, none⟩ := fun o => (c5.cell (p := ⟨w.heap.size, o, none⟩) (by first | (simp; done) | (simp; omega) | omega) (by simp)).trans (by first | exact y3 o | (rw [World.cell?_setCell_other _ _ _ _ (by first | (simp; done) | (simp; omega))]; exact y3 o) | (rw [World.cell?_setCell_other _ _ _ _ (by first | (simp; done) | (simp; omega)), World.cell?_setCell_other _ _ _ _ (by first | (simp; done) | (simp; omega))]; exact y3 o))
        have z5 : ∀ o, w5.frozen? ⟨w.heap.size, o, none⟩ = (w.alloc (.cells #[.string ⟨#[]⟩, .string ⟨#[]⟩, .int .i64 0, .string ⟨#[]⟩] 39)).frozen? ⟨w.heap.size, o, none⟩ := fun o => (c5.frozen (p := ⟨w.heap.size, o, none⟩) (by first | (simp; done) | (simp; omega) | omega) (by simp)).trans (by rw [← z3 o]; try simp)
        have b50 : w5.cell? ⟨w2.heap.size, 0, none⟩ = some (.string M) := (c5.cell (p := ⟨w2.heap.size, 0, none⟩) (by first | (simp; done) | (simp; omega) | omega) (by simp)).trans (b30)
        have b51 : w5.cell? ⟨w2.heap.size, 1, none⟩ = some (.string ⟨#[]⟩) := (c5.cell (p := ⟨w2.heap.size, 1, none⟩) (by first | (simp; done) | (simp; omega) | omega) (by simp)).trans (b31)
        have b52 : w5.cell? ⟨w2.heap.size, 2, none⟩ = some (.int .i64 0) := (c5.cell (p := ⟨w2.heap.size, 2, none⟩) (by first | (simp; done) | (simp; omega) | omega) (by simp)).trans (b32)
        have b53 : w5.cell? ⟨w2.heap.size, 3, none⟩ = some (.string ⟨#[]⟩) := (c5.cell (p := ⟨w2.heap.size, 3, none⟩) (by first | (simp; done) | (simp; omega) | omega) (by simp)).trans (b33)
        clear c5
        go_wp2_with fail
        refine bodyPost_ret (v := .tuple #[.agg #[.string ⟨#[]⟩, .string ⟨#[]⟩, .int .i64 0, .string ⟨#[]⟩], .bool false]) (by simp only [results, Tryz.results32]; go_simp) rfl ?_
        exact CallIs.no HN.out (by repeat (first | with_reducible exact d5 | with_reducible exact Chg.refl _ _ | with_reducible refine Chg.drew ?_ | with_reducible refine Chg.drewN ?_ _ | with_reducible refine Chg.alloc ?_ _ | with_reducible refine Chg.setCell ?_ (.inr (by simp; try omega)) _))
      · have HY := Lib.hid (YES.out hts hs0)
        have hb0 : (s.toList == []) = false := by
          rw [beq_eq_false_iff_ne, ByteArray.toList_eq]
          intro e
          have := congrArg List.length e
          rw [size_list] at this
          exact hs0 this
        subst hts
        clear YES NO hs0
        go_enter Tryz.func32, Tryz.ntmps32
        go_wp2_with fail
        refine (SP.out _).mono ?_
        intro e w2 G
        obtain ⟨A, cap, rfl, hN⟩ := G.sl
        have hrd := hN.rd
        obtain ⟨hcap, b, off, rfl, hb, q0, qm⟩ := C0.out _ _ _ _ hrd
        have c2 := hN.chg
        obtain ⟨y2a, z2a, s2⟩ := c2.cells
        have y2 := fun o => y2a w.heap.size o (by simp)
        have z2 := fun o => z2a w.heap.size o (by simp)
        have d2 : Chg [] w w2 := Chg.trans0 ((Chg.refl _ _).alloc _) c2
        have t2 : w.heap.size < w2.heap.size := by simp at s2; omega
        have tt : w.heap.size < w.heap.size + 1 := by omega
        have HRD := Lib.hid hrd
        rw [hm] at hcap
        clear hrd y2a z2a c2 hN G
        rw [hm]
        go_wp2_with fail
        refine (PN2.out _).mono ?_
        rintro e w3 ⟨rfl, c3⟩
        have s3 := c3.size
        have y3 : ∀ o, w3.cell? ⟨w.heap.size, o, none⟩ = (w.alloc (.cells #[.string ⟨#[]⟩, .string ⟨#[]⟩, .int .i64 0, .string ⟨#[]⟩] 39)).cell? ⟨w.heap.size, o, none⟩ := fun o => (c3.cell (p := ⟨w.heap.size, o, none⟩) (by simp; omega) (by simp)).trans ((((Chg.refl [] w2).alloc _).cell (p := ⟨w.heap.size, o, none⟩) (by simpa using t2) (by simp)).trans (y2 o))
        have z3 : ∀ o, w3.frozen? ⟨w.heap.size, o, none⟩ = (w.alloc (.cells #[.string ⟨#[]⟩, .string ⟨#[]⟩, .int .i64 0, .string ⟨#[]⟩] 39)).frozen? ⟨w.heap.size, o, none⟩ := fun o => (c3.frozen (p := ⟨w.heap.size, o, none⟩) (by simp; omega) (by simp)).trans ((((Chg.refl [] w2).alloc _).frozen (p := ⟨w.heap.size, o, none⟩) (by simpa using t2) (by simp)).trans (z2 o))
        have q03 : w3.cell? ⟨b, off, none⟩ = some (.string M) := (c3.cell (p := ⟨b, off, none⟩) (by simp; omega) (by simp)).trans ((((Chg.refl [] w2).alloc _).cell (p := ⟨b, off, none⟩) (by simpa using hb) (by simp)).trans q0)
        have d3 : Chg [] w w3 := Chg.trans0 (d2.alloc _) c3
        have t3 : w.heap.size < w3.heap.size := by simp at s3; omega
        have u3 : w2.heap.size < w3.heap.size := by simp at s3; omega
        have f3x : ∀ o, w3.frozen? ⟨w2.heap.size, o, none⟩ = (w2.alloc (.cells #[.string M, .string ⟨#[]⟩, .int .i64 0, .string ⟨#[]⟩] 39)).frozen? ⟨w2.heap.size, o, none⟩ := fun o => c3.frozen (p := ⟨w2.heap.size, o, none⟩) (by simp) (by simp)
        have b30 : w3.cell? ⟨w2.heap.size, 0, none⟩ = some (.string M) := (c3.cell (p := ⟨w2.heap.size, 0, none⟩) (by simp) (by simp)).trans (by go_simp)
        have b31 : w3.cell? ⟨w2.heap.size, 1, none⟩ = some (.string ⟨#[]⟩) := (c3.cell (p := ⟨w2.heap.size, 1, none⟩) (by simp) (by simp)).trans (by go_simp)
        have b32 : w3.cell? ⟨w2.heap.size, 2, none⟩ = some (.int .i64 0) := (c3.cell (p := ⟨w2.heap.size, 2, none⟩) (by simp) (by simp)).trans (by go_simp)
        have b33 : w3.cell? ⟨w2.heap.size, 3, none⟩ = some (.string ⟨#[]⟩) := (c3.cell (p := ⟨w2.heap.size, 3, none⟩) (by simp) (by simp)).trans (by go_simp)
        have C23 : Hid (Chg [] w2 w3) := Lib.hid (((Chg.refl [] w2).alloc _).trans0 c3)
        have v3 : w2.heap.size < w2.heap.size + 1 := by omega
        clear c3 y2 z2
        go_wp2_with fail
        refine (FX.out _).mono ?_
        rintro e w5 ⟨rfl, c5⟩
        have s5 := c5.size
        have d5 : Chg [] w w5 := Chg.trans0 (by repeat (first | with_reducible exact d3 | with_reducible exact Chg.refl _ _ | with_reducible refine Chg.drew ?_ | with_reducible refine Chg.drewN ?_ _ | with_reducible refine Chg.alloc ?_ _ | with_reducible refine Chg.setCell ?_ (.inr (by simp; try omega)) _)) c5
        have t5 : w.heap.size < w5.heap.size := by first | omega | (simp at s5; omega)
        have u5 : w2.heap.size < w5.heap.size := by first | omega | (simp at s5; omega)
        have n5 : ¬ w2.heap.size = w.heap.size := by omega
        have y5 : ∀ o, w5.cell? ⟨w.heap.size, o, none⟩ = (w.alloc (.cells #[.string ⟨#[]⟩, .string ⟨#[]⟩, .int .i64 0, .string ⟨#[]⟩] 39)).cell? ⟨w.heap.size, o, none⟩ := fun o => (c5.cell (p := ⟨w.heap.size, o, none⟩) (by first | (simp; done) | (simp; omega) | omega) (by simp)).trans (by first | exact y3 o | (rw [World.cell?_setCell_other _ _ _ _ (by first | (simp; done) | (simp; omega))]; exact y3 o) | (rw [World.cell?_setCell_other _ _ _ _ (by first | (simp; done) | (simp; omega)), World.cell?_setCell_other _ _ _ _ (by first | (simp; done) | (simp; omega))]; exact y3 o))
        have z5 : ∀ o, w5.frozen? ⟨w.heap.size, o, none⟩ = (w.alloc (.cells #[.string ⟨#[]⟩, .string ⟨#[]⟩, .int .i64 0, .string ⟨#[]⟩] 39)).frozen? ⟨w.heap.size, o, none⟩ := fun o => (c5.frozen (p := ⟨w.heap.size, o, none⟩) (by first | (simp; done) | (simp; omega) | omega) (by simp)).trans (by rw [← z3 o]; try simp)
        have b50 : w5.cell? ⟨w2.heap.size, 0, none⟩ = some (.string M) := (c5.cell (p := ⟨w2.heap.size, 0, none⟩) (by first | (simp; done) | (simp; omega) | omega) (by simp)).trans (b30)
        have b51 : w5.cell? ⟨w2.heap.size, 1, none⟩ = some (.string ⟨#[]⟩) := (c5.cell (p := ⟨w2.heap.size, 1, none⟩) (by first | (simp; done) | (simp; omega) | omega) (by simp)).trans (b31)
        have b52 : w5.cell? ⟨w2.heap.size, 2, none⟩ = some (.int .i64 0) := (c5.cell (p := ⟨w2.heap.size, 2, none⟩) (by first | (simp; done) | (simp; omega) | omega) (by simp)).trans (b32)
        have b53 : w5.cell? ⟨w2.heap.size, 3, none⟩ = some (.string ⟨#[]⟩) := (c5.cell (p := ⟨w2.heap.size, 3, none⟩) (by first | (simp; done) | (simp; omega) | omega) (by simp)).trans (b33)
        clear c5
        go_wp2_with fail
        refine bodyPost_ret (v := .tuple #[.agg #[.string M, .string ⟨#[]⟩, .int .i64 0, .string ⟨#[]⟩], .bool true]) (by simp only [results, Tryz.results32]; go_simp) rfl ?_
        exact CallIs.yes (x := (⟨M, ⟨#[]⟩,  0, ⟨#[]⟩⟩ : CallT)) HY.out (by repeat (first | with_reducible exact d5 | with_reducible exact Chg.refl _ _ | with_reducible refine Chg.drew ?_ | with_reducible refine Chg.drewN ?_ _ | with_reducible refine Chg.alloc ?_ _ | with_reducible refine Chg.setCell ?_ (.inr (by simp; try omega)) _))
    · have HN := Lib.hid (NO.out (fun h => hts h.1))
      have hb := str_ne hts
      clear YES NO hts
      go_enter Tryz.func32, Tryz.ntmps32
      go_wp2_with fail
      refine (SP.out _).mono ?_
      intro e w2 G
      obtain ⟨A, cap, rfl, hN⟩ := G.sl
      have hrd := hN.rd
      obtain ⟨hcap, b, off, rfl, hb, q0, qm⟩ := C0.out _ _ _ _ hrd
      have c2 := hN.chg
      obtain ⟨y2a, z2a, s2⟩ := c2.cells
      have y2 := fun o => y2a w.heap.size o (by simp)
      have z2 := fun o => z2a w.heap.size o (by simp)
      have d2 : Chg [] w w2 := Chg.trans0 ((Chg.refl _ _).alloc _) c2
      have t2 : w.heap.size < w2.heap.size := by simp at s2; omega
      have tt : w.heap.size < w.heap.size + 1 := by omega
      have HRD := Lib.hid hrd
      rw [hm] at hcap
      clear hrd y2a z2a c2 hN G
      rw [hm]
      go_wp2_with fail
      refine (PN2.out _).mono ?_
      rintro e w3 ⟨rfl, c3⟩
      have s3 := c3.size
      have y3 : ∀ o, w3.cell? ⟨w.heap.size, o, none⟩ = (w.alloc (.cells #[.string ⟨#[]⟩, .string ⟨#[]⟩, .int .i64 0, .string ⟨#[]⟩] 39)).cell? ⟨w.heap.size, o, none⟩ := fun o => (c3.cell (p := ⟨w.heap.size, o, none⟩) (by simp; omega) (by simp)).trans ((((Chg.refl [] w2).alloc _).cell (p := ⟨w.heap.size, o, none⟩) (by simpa using t2) (by simp)).trans (y2 o))
      have z3 : ∀ o, w3.frozen? ⟨w.heap.size, o, none⟩ = (w.alloc (.cells #[.string ⟨#[]⟩, .string ⟨#[]⟩, .int .i64 0, .string ⟨#[]⟩] 39)).frozen? ⟨w.heap.size, o, none⟩ := fun o => (c3.frozen (p := ⟨w.heap.size, o, none⟩) (by simp; omega) (by simp)).trans ((((Chg.refl [] w2).alloc _).frozen (p := ⟨w.heap.size, o, none⟩) (by simpa using t2) (by simp)).trans (z2 o))
      have q03 : w3.cell? ⟨b, off, none⟩ = some (.string M) := (c3.cell (p := ⟨b, off, none⟩) (by simp; omega) (by simp)).trans ((((Chg.refl [] w2).alloc _).cell (p := ⟨b, off, none⟩) (by simpa using hb) (by simp)).trans q0)
      have d3 : Chg [] w w3 := Chg.trans0 (d2.alloc _) c3
      have t3 : w.heap.size < w3.heap.size := by simp at s3; omega
      have u3 : w2.heap.size < w3.heap.size := by simp at s3; omega
      have f3x : ∀ o, w3.frozen? ⟨w2.heap.size, o, none⟩ = (w2.alloc (.cells #[.string M, .string ⟨#[]⟩, .int .i64 0, .string ⟨#[]⟩] 39)).frozen? ⟨w2.heap.size, o, none⟩ := fun o => c3.frozen (p := ⟨w2.heap.size, o, none⟩) (by simp) (by simp)
      have b30 : w3.cell? ⟨w2.heap.size, 0, none⟩ = some (.string M) := (c3.cell (p := ⟨w2.heap.size, 0, none⟩) (by simp) (by simp)).trans (by go_simp)
      have b31 : w3.cell? ⟨w2.heap.size, 1, none⟩ = some (.string ⟨#[]⟩) := (c3.cell (p := ⟨w2.heap.size, 1, none⟩) (by simp) (by simp)).trans (by go_simp)
      have b32 : w3.cell? ⟨w2.heap.size, 2, none⟩ = some (.int .i64 0) := (c3.cell (p := ⟨w2.heap.size, 2, none⟩) (by simp) (by simp)).trans (by go_simp)
      have b33 : w3.cell? ⟨w2.heap.size, 3, none⟩ = some (.string ⟨#[]⟩) := (c3.cell (p := ⟨w2.heap.size, 3, none⟩) (by simp) (by simp)).trans (by go_simp)
      have C23 : Hid (Chg [] w2 w3) := Lib.hid (((Chg.refl [] w2).alloc _).trans0 c3)
      have v3 : w2.heap.size < w2.heap.size + 1 := by omega
      clear c3 y2 z2
      go_wp2_with fail
      refine (FX.out _).mono ?_
      rintro e w5 ⟨rfl, c5⟩
      have s5 := c5.size
      have d5 : Chg [] w w5 := Chg.trans0 (by repeat (first | with_reducible exact d3 | with_reducible exact Chg.refl _ _ | with_reducible refine Chg.drew ?_ | with_reducible refine Chg.drewN ?_ _ | with_reducible refine Chg.alloc ?_ _ | with_reducible refine Chg.setCell ?_ (.inr (by simp; try omega)) _)) c5
      have t5 : w.heap.size < w5.heap.size := by first | omega | (simp at s5; omega)
      have u5 : w2.heap.size < w5.heap.size := by first | omega | (simp at s5; omega)
      have n5 : ¬ w2.heap.size = w.heap.size := by omega
      have y5 : ∀ o, w5.cell? ⟨w.heap.size, o, none⟩ = (w.alloc (.cells #[.string ⟨#[]⟩, .string ⟨#[]⟩, .int .i64 0, .string ⟨#[]⟩] 39)).cell? ⟨w.heap.size, o, none⟩ := fun o => (c5.cell (p := ⟨w.heap.size, o, none⟩) (by first | (simp; done) | (simp; omega) | omega) (by simp)).trans (by first | exact y3 o | (rw [World.cell?_setCell_other _ _ _ _ (by first | (simp; done) | (simp; omega))]; exact y3 o) | (rw [World.cell?_setCell_other _ _ _ _ (by first | (simp; done) | (simp; omega)), World.cell?_setCell_other _ _ _ _ (by first | (simp; done) | (simp; omega))]; exact y3 o))
      have z5 : ∀ o, w5.frozen? ⟨w.heap.size, o, none⟩ = (w.alloc (.cells #[.string ⟨#[]⟩, .string ⟨#[]⟩, .int .i64 0, .string ⟨#[]⟩] 39)).frozen? ⟨w.heap.size, o, none⟩ := fun o => (c5.frozen (p := ⟨w.heap.size, o, none⟩) (by first | (simp; done) | (simp; omega) | omega) (by simp)).trans (by rw [← z3 o]; try simp)
      have b50 : w5.cell? ⟨w2.heap.size, 0, none⟩ = some (.string M) := (c5.cell (p := ⟨w2.heap.size, 0, none⟩) (by first | (simp; done) | (simp; omega) | omega) (by simp)).trans (b30)
      have b51 : w5.cell? ⟨w2.heap.size, 1, none⟩ = some (.string ⟨#[]⟩) := (c5.cell (p := ⟨w2.heap.size, 1, none⟩) (by first | (simp; done) | (simp; omega) | omega) (by simp)).trans (b31)
      have b52 : w5.cell? ⟨w2.heap.size, 2, none⟩ = some (.int .i64 0) := (c5.cell (p := ⟨w2.heap.size, 2, none⟩) (by first | (simp; done) | (simp; omega) | omega) (by simp)).trans (b32)
      have b53 : w5.cell? ⟨w2.heap.size, 3, none⟩ = some (.string ⟨#[]⟩) := (c5.cell (p := ⟨w2.heap.size, 3, none⟩) (by first | (simp; done) | (simp; omega) | omega) (by simp)).trans (b33)
      clear c5
      go_wp2_with fail
      refine bodyPost_ret (v := .tuple #[.agg #[.string ⟨#[]⟩, .string ⟨#[]⟩, .int .i64 0, .string ⟨#[]⟩], .bool false]) (by simp only [results, Tryz.results32]; go_simp) rfl ?_
      exact CallIs.no HN.out (by repeat (first | with_reducible exact d5 | with_reducible exact Chg.refl _ _ | with_reducible refine Chg.drew ?_ | with_reducible refine Chg.drewN ?_ _ | with_reducible refine Chg.alloc ?_ _ | with_reducible refine Chg.setCell ?_ (.inr (by simp; try omega)) _))
theorem parseCall_spec_any (s : ByteArray) (w : World) (hs : s.size ≤ 100000) :
    Calls Tryz.prog 32 #[.string s] w (CallIs (callS s) w) := by
  rcases methCases ((splitS 32 s).headD noB) with ⟨h, _⟩ | ⟨h, _⟩ | ⟨h, _⟩ | ⟨h, _⟩ | ⟨h, _⟩
  · exact parseCall_spec_get s w hs h
  · exact parseCall_spec_put s w hs h
  · exact parseCall_spec_hear s w hs h
  · exact parseCall_spec_load s w hs h
  · exact parseCall_spec_other s w hs h
end Go.Proofs.YtldpibnfhomfgaaGreatDoor
