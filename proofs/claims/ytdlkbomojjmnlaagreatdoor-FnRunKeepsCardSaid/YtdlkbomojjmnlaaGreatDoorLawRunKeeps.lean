/- FnRunKeeps: the walk of the law. Conditions: the library's variables stand. -/
import Derived.Test.YtdlkbomojjmnlaaGreatDoorRunLws
import Derived.Test.YtdlkbomojjmnlaaGreatDoorDrawS
import Derived.Test.YtdlkbomojjmnlaaGreatDoorKeepsP
import Derived.Test.YtdlkbomojjmnlaaGreatDoorWraps
import Derived.Test.YtdlkbomojjmnlaaGreatDoorParts
import Derived.Deep.QuietTactic
import Derived.Deep.Cut
import Derived.Test.YtdlkbomojjmnlaaGreatDoorRegs
namespace Go.Proofs.YtdlkbomojjmnlaaGreatDoor
open Go.RowKit

/-- An operation that is waited for is done. -/
theorem pre_of {after : Array Edge} {d : Nat → Bool} (h : ∀ e ∈ after, Region.binds .any e = true → d e.on = true) (g : Nat) (hg : (after.any fun e => Region.binds .any e && e.on == g) = true := by kernel_rfl) : d g = true := by
  obtain ⟨e, he, hb⟩ := Array.any_eq_true'.1 hg
  rw [Bool.and_eq_true, beq_iff_eq] at hb
  rw [← hb.2]
  exact h e he hb.1
theorem upd_self (l : List Value) : ∀ r : List Nat, upd l (fun s => l.getD s undef) r = l := by
  have h : ∀ s, l.set s (l.getD s undef) = l := fun s => by
    apply List.ext_getElem?
    intro j
    rw [List.getElem?_set]
    by_cases e : s = j
    · subst e
      by_cases hl : s < l.length
      · simp [hl]
      · simp [hl]
    · rw [if_neg e]
  have : ∀ (v : Nat → Value) (m : List Value), (∀ s, m.set s (v s) = m) → ∀ r : List Nat, upd m v r = m := by
    intro v m hm r
    induction r with
    | nil => rfl
    | cons s r ih => rw [upd, hm, ih]
  exact this _ l h
/-- What the slots hold, of the operations that are done. -/
def ValsAt (SL : List Nat) (VL : List Value) (d : Nat → Bool) (v : Nat → Value) : Prop := ∀ (i s : Nat) (x : Value), SL[i]? = some s → VL[i]? = some x → d i = true → v s = x
theorem vals_put {SL : List Nat} {VL : List Value} {d : Nat → Bool} {v : Nat → Value} (hn : SL.Nodup) (H : ValsAt SL VL d v) (j s : Nat) (x : Value) (hs : SL[j]? = some s) (hx : VL[j]? = some x) : ValsAt SL VL (fun i => i == j || d i) (putv (some s) x v) := by
  intro i s' x' h1 h2 h3
  by_cases e : i = j
  · subst e
    cases hs.symm.trans h1
    cases hx.symm.trans h2
    simp [putv]
  · have hne : s' ≠ s := by
      rintro rfl
      obtain ⟨l1, e1⟩ := List.getElem?_eq_some_iff.1 h1
      obtain ⟨l2, e2⟩ := List.getElem?_eq_some_iff.1 hs
      exact e ((List.getElem_inj hn).1 (e1.trans e2.symm))
    simp only [putv, if_neg hne]
    exact H i s' x' h1 h2 (by simpa [e] using h3)
set_option maxRecDepth 100000 in
set_option maxHeartbeats 16000000 in
theorem runKeeps_law (A : Option Addr) (n cap : Nat) (w : World) (hE : Env w) (hb : BytesAt w w.heap.size A n) :
    Calls Tryz.prog 5 #[.slice A n cap] w fun e w' => e = .returned (.bool true) ∧ Chg [] w w' := by
  have HE := Lib.hid hE
  by_cases hn : n ≤ 4096
  case neg =>
    have BG := Lib.hid (big_yes A n cap w hn)
    clear hb hn hE
    go_enter Tryz.func5, Tryz.ntmps5
    go_wp2_with fail
    refine BG.out.mono ?_
    rintro e w1 ⟨rfl, rfl⟩
    go_wp2_with fail
    go_ret
    exact ⟨rfl, Chg.refl _ _⟩
  case pos =>
    have BG := Lib.hid (big_no A n cap w hn)
    have DS := Lib.hid (drawStart_any A n cap w (by omega) hb)
    clear hb hn hE
    go_enter Tryz.func5, Tryz.ntmps5
    go_wp2_with fail
    refine BG.out.mono ?_
    rintro e w0 ⟨rfl, hw0⟩
    subst hw0
    go_wp2_with fail
    refine DS.out.mono ?_
    rintro e w1 ⟨p, A1, c1, l, A2, c2, s, A3, c3, rfl, hok, hW, hl, hs, rp, ri, rs, d1⟩
    have D1 := Lib.hid d1
    have E1 := Lib.hid (HE.out.keep d1)
    have R1 := Lib.hid (run_law E1.out l hs hok (Nat.le_trans hW (by decide)) rs rp ri w1 (Chg.refl _ _))
    have ok1 := runL_ok l p hok.2.2 0 ⟨s, 0⟩ hs
    have htk := runL_taken l p 0 ⟨s, 0⟩
    have hend := runL_end l p hok.2.2 0 ⟨s, 0⟩ hs
    have hoke := runL_okEnd l p 0 ⟨s, 0⟩
    have AA := Lib.hid (fun W (hc : Chg [] w1 W) (pl : Int) (h0 : -9223372036854775808 ≤ pl) (h1 : pl ≤ 9223372036854775807) => actionAt_impl_any p _ pl w1.heap.size W (Nat.le_trans hW (by decide)) h0 h1 (rp.chg0 hc (Nat.le_refl _)) hc.size)
    have hsz : sizeL p ≤ 14 := hok.1
    obtain ⟨q, hq⟩ : ∃ q, q = runL l p 0 ⟨s, 0⟩ := ⟨_, rfl⟩
    rw [← hq] at R1 ok1 htk hend hoke
    have OK1 := Lib.hid ok1
    have htn : ¬ q.1.taken < 0 := by have := htk.1; simp only at this; omega
    have SM := Lib.hid (show ∀ x ∈ q.1.slots, SlotSmall x from fun x hx => by obtain ⟨i, hi, rfl⟩ := List.getElem_of_mem hx; exact slot_small (ok1.2 i hi))
    clear rp ri rs d1 hok hW hl hs BG DS hq htk ok1
    by_cases hc0 : q.2.code = 0
    case pos =>
      have e0 := hoke hc0
      have R1 := Lib.hid (R1.out.mono (fun e w' h => (show ∃ (A : Option Addr) (cap : Nat), e = .returned (.tuple #[.agg #[.int .i64 0, .int .i64 0, .int .i64 0, .int .i64 0], .slice A q.1.slots.length cap, .int .i64 q.1.taken]) ∧ Rd w' w'.heap.size (slots q.1.slots) (.slice A q.1.slots.length cap) ∧ Chg [] w1 w' from by obtain ⟨A, cap, e1, h1, h2⟩ := h; rw [e0] at e1; exact ⟨A, cap, e1, h1, h2⟩)))
      clear hoke hend e0 hc0 hsz
      go_wp2_with fail
      refine R1.out.mono ?_
      rintro e w2 ⟨B1, b1, rfl, N1, k2⟩
      have K2 := Lib.hid k2
      have IS := Lib.hid (fun W (hc : Chg [] w2 W) => (isSlots_impl_any q.1.slots _ w2.heap.size W (N1.chg0 hc (Nat.le_refl _)) hc.size SM.out).mono (BoolPost.pos OK1.out))
      clear N1 k2 R1
      go_wp2_with fail
      refine calls_name fun x3 hx3 => ?_
      have Z3 : Box x3 w2.heap.size [.int .i64 0, .int .i64 0, .int .i64 0, .int .i64 0] := by rw [hx3]; exact Box.new _ _ _
      have e3 : Chg [] w2 x3 := by rw [hx3]; exact Chg.now
      clear hx3
      refine (IS.out _ e3).mono ?_
      rintro e w4 ⟨rfl, k4⟩
      have Z4 := Z3.keep k4
      have K4 := Lib.hid (K2.out.trans0 (e3.trans0 k4))
      obtain ⟨z0, z1, z2, z3⟩ := Z4.o4
      have Z4 := Lib.hid Z4
      clear Z3 e3 k4 IS
      go_wp2_with fail
      refine (AA.out _ K4.out 0 (by omega) (by omega)).mono ?_
      rintro e w5 ⟨a, b, A9, cap9, A10, cap10, -, rfl, N5⟩
      have K5 := Lib.hid (D1.out.trans0 (K4.out.trans0 N5.chg))
      obtain ⟨z0, z1, z2, z3⟩ := (Z4.out.keep N5.chg).o4
      have lz := (Z4.out.keep N5.chg).lt
      clear N5 AA Z4
      go_wp2_with fail
      go_ret
      exact ⟨rfl, Chg.to K5.out⟩
    case neg =>
      obtain ⟨k, a, hat, hslot, hpl, hfit⟩ := hend hc0
      have hk := atL_lt hat
      rw [Int.zero_add] at hpl
      have hati : atI p q.2.place = some a := by
        unfold atI
        rw [hpl, if_neg (by omega)]
        simpa using hat
      obtain ⟨i, hi⟩ : ∃ i : Nat, a.slot = (i : Int) := ⟨a.slot.toNat, by have := hslot.1; omega⟩
      have hi3 : i < q.1.slots.length := by have := hslot.2; have := OK1.out.1; omega
      have hsa : slotAt q.1.slots a.slot = q.1.slots[i] := by unfold slotAt; rw [hi]; simp [hi3]
      have p0 : -9223372036854775808 ≤ q.2.place := by omega
      have p1 : q.2.place ≤ 9223372036854775807 := by omega
      have AT := Lib.hid hati
      have HI := Lib.hid hi
      have c3 : (q.2.code == 3) = false := by rw [beq_eq_false_iff_ne]; rcases hfit with h | h <;> (have := h.1; omega)
      have c0 : (q.2.code == 0) = false := by rw [beq_eq_false_iff_ne]; exact hc0
      have FIT := Lib.hid hfit
      have HSA := Lib.hid hsa
      clear hoke hend hc0 hsz hat hati hi hslot hpl hfit hk hsa
      go_wp2_with fail
      refine R1.out.mono ?_
      rintro e w2 ⟨B1, b1, rfl, N1, k2⟩
      have K2 := Lib.hid k2
      have IS := Lib.hid (fun W (hc : Chg [] w2 W) => (isSlots_impl_any q.1.slots _ w2.heap.size W (N1.chg0 hc (Nat.le_refl _)) hc.size SM.out).mono (BoolPost.pos OK1.out))
      have N1 := Lib.hid N1
      clear k2 R1
      go_wp2_with fail
      refine calls_name fun x3 hx3 => ?_
      have Z3 : Box x3 w2.heap.size [.int .i64 q.2.code, .int .i64 q.2.place, .int .i64 q.2.want, .int .i64 q.2.had] := by rw [hx3]; exact Box.new _ _ _
      have e3 : Chg [] w2 x3 := by rw [hx3]; exact Chg.now
      clear hx3
      refine (IS.out _ e3).mono ?_
      rintro e w4 ⟨rfl, k4⟩
      have Z4 := Z3.keep k4
      have J4 := Lib.hid (e3.trans0 k4)
      have K4 := Lib.hid (K2.out.trans0 J4.out)
      obtain ⟨z0, z1, z2, z3⟩ := Z4.o4
      have Z4 := Lib.hid Z4
      clear Z3 e3 k4 IS
      go_wp2_with fail
      refine (AA.out _ K4.out q.2.place p0 p1).mono ?_
      rintro e w5 ⟨a', b, A9, cap9, A10, cap10, hat, rfl, N5⟩
      rw [AT.out] at hat
      obtain ⟨rfl, rfl⟩ := hat
      have J5 := Lib.hid (J4.out.trans0 N5.chg)
      have K5 := Lib.hid (D1.out.trans0 (K4.out.trans0 N5.chg))
      have Z5 := Lib.hid (Z4.out.keep N5.chg)
      have NS := N1.out.chg0 J5.out (Nat.le_refl _)
      obtain ⟨As, cs, e0, _, hms, hrow⟩ := slots_row NS
      simp only [Value.slice.injEq] at e0
      obtain ⟨rfl, -, rfl⟩ := e0
      obtain ⟨bb, off, u4, u6, rfl, hbl, q0, q1, q2, q3, q4, q5, q6, r4, r6⟩ := slots_cells hrow i hi3
      obtain ⟨B4, d4, rfl, _, _, _⟩ := cells_row r4
      obtain ⟨B6, d6, rfl, _, _, _⟩ := layers_row r6
      have hlen := OK1.out.1
      have hi := HI.out
      have hi2 : i < 3 := by omega
      have hii : (i : Int) < 3 := by omega
      obtain ⟨z0, z1, z2, z3⟩ := Z5.out.o4
      have lz := Z5.out.lt
      have lb : bb < w5.heap.size := Nat.lt_of_lt_of_le hbl J5.out.size
      have R6 := Lib.hid r6
      have W2 := Lib.hid (show w2.heap.size ≤ w5.heap.size from J5.out.size)
      rcases FIT.out with ⟨hcode, hop, hfull⟩ | ⟨hcode, hop, hfull, hhad, hno⟩
      case inl =>
        rw [HSA.out] at hfull
        rw [hfull] at q0
        rw [hcode] at z0 c0 c3
        clear N5 hrow NS hms r4 r6 hfull q1 q2 q3 q4 q5 q6 Z5 Z4 N1 J4 K4 AA p0 p1 hbl
        rcases hop with h | h | h | h
        all_goals
          go_wp2_with fail
          go_quiet (fail)
          go_wp2_with fail
          go_quiet (fail)
          go_wp2_with fail
          go_ret
          exact ⟨rfl, Chg.to K5.out⟩
      case inr =>
        rw [HSA.out] at hfull hhad
        rw [hfull] at q0
        rw [hcode] at z0 c0 c3
        have FO := Lib.hid (fun W (hc : Chg [] w5 W) => faceOf_impl_any q.1.slots[i].part (.slice B4 q.1.slots[i].part.core.cells.length d4) (.slice B6 q.1.slots[i].part.layers.length d6) w2.heap.size W (R6.out.chg0 hc W2.out) (Nat.le_trans W2.out hc.size))
        rw [hhad] at FO
        have QS := Lib.hid (show _ ∧ _ ∧ _ ∧ _ ∧ _ ∧ _ from ⟨q1, q2, q3, q4, q5, q6⟩)
        have OF := Lib.hid (fun W => (offers_impl_any q.2.had q.2.want W).mono (BoolIs.neg hno))
        clear N5 hrow NS hms r4 r6 hfull Z4 N1 J4 K4 AA p0 p1 hbl hhad hno q1 q2 q3 q4 q5 q6
        go_upto_region 10 with fail
        refine wp_called ?_
        intro x9 hx9
        have e9 : Chg [] w5 x9 := by rw [hx9]; exact Chg.now
        have Z8 := Z5.out.keep e9
        rw [hcode] at Z8
        obtain ⟨u9, u10, Z9⟩ : ∃ u9 u10 : Value, Box x9 w5.heap.size [.int .i64 a'.op, .int .i64 (i : Int), .int .i64 a'.other, .string a'.word, .string a'.call.method, .string a'.call.key, .int .i64 a'.call.value, .string a'.call.text, .int .i64 a'.face, u9, u10] := by rw [hx9, ← hi]; exact ⟨.slice A9 a'.A.length cap9, .slice A10 a'.B.length cap10, by repeat (first | exact Box.new _ _ _ | refine Box.drew ?_ | refine Box.drewN ?_ _)⟩
        have v0 := Z9.c 0 _ rfl
        have v1 := Z9.c 1 _ rfl
        have lz9 := Z9.lt
        obtain ⟨z0, z1, z2, z3⟩ := Z8.o4
        have q00 : x9.cell? ⟨bb, off + i * 7, none⟩ = some (.bool true) := (e9.cell (p := ⟨bb, off + i * 7, none⟩) lb (by simp)).trans q0
        have lb9 : bb < x9.heap.size := Nat.lt_of_lt_of_le lb e9.size
        have E9 := Lib.hid e9
        have Z8 := Lib.hid Z8
        have Z9 := Lib.hid Z9
        clear hx9 e9 q0 lz
        go_cut [11] from 14 (fun s11 wx => s11 = .bool true ∧ wx = x9)
        case first =>
          rcases hop with h | h | h
          all_goals
            go_wp2_with fail
            go_meet
            case rel => exact ⟨rfl, rfl⟩
        case rest =>
          obtain ⟨rfl, hwc⟩ := hcut
          subst hwc
          have v2 : wc.cell? ⟨w5.heap.size, 0, none⟩ = some (.int .i64 a'.op) := v0
          go_wp2_with fail
          go_quiet (fail)
          go_upto_region 13 with fail
          refine wp_called ?_
          intro x hx
          have e6 : Chg [] wc x := by rw [hx]; exact Chg.now
          have Y3 := Lib.hid (fun W (c : Chg [] x W) => ((Z8.out.keep e6).keep c).o4)
          have Y9 := Lib.hid (fun W (c : Chg [] x W) => ((Z9.out.keep e6).keep c).c 1 _ rfl)
          have YS := Lib.hid (fun W (c : Chg [] x W) => (show W.cell? ⟨bb, off + i * 7 + 1, none⟩ = some (.string q.1.slots[i].part.core.kind) ∧ W.cell? ⟨bb, off + i * 7 + 2, none⟩ = some (.bool q.1.slots[i].part.core.on) ∧ W.cell? ⟨bb, off + i * 7 + 3, none⟩ = some (.bool q.1.slots[i].part.core.broken) ∧ W.cell? ⟨bb, off + i * 7 + 4, none⟩ = some (.slice B4 q.1.slots[i].part.core.cells.length d4) ∧ W.cell? ⟨bb, off + i * 7 + 5, none⟩ = some (.int .i64 q.1.slots[i].part.core.count) ∧ W.cell? ⟨bb, off + i * 7 + 6, none⟩ = some (.slice B6 q.1.slots[i].part.layers.length d6) from
            have cc : Chg [] w5 W := E9.out.trans0 (e6.trans0 c)
            ⟨(cc.cell (p := ⟨bb, off + i * 7 + 1, none⟩) lb (by simp)).trans QS.out.1, (cc.cell (p := ⟨bb, off + i * 7 + 2, none⟩) lb (by simp)).trans QS.out.2.1, (cc.cell (p := ⟨bb, off + i * 7 + 3, none⟩) lb (by simp)).trans QS.out.2.2.1, (cc.cell (p := ⟨bb, off + i * 7 + 4, none⟩) lb (by simp)).trans QS.out.2.2.2.1, (cc.cell (p := ⟨bb, off + i * 7 + 5, none⟩) lb (by simp)).trans QS.out.2.2.2.2.1, (cc.cell (p := ⟨bb, off + i * 7 + 6, none⟩) lb (by simp)).trans QS.out.2.2.2.2.2⟩))
          have K6 := Lib.hid (K5.out.trans0 (E9.out.trans0 e6))
          have FO := Lib.hid (fun W (hc : Chg [] x W) => FO.out W (E9.out.trans0 (e6.trans0 hc)))
          clear hx e6 z0 z1 z2 z3
          obtain ⟨VL, hV⟩ : ∃ VL : List Value, VL = [.pointer (some ⟨w2.heap.size, 0, none⟩), .int .i64 1, .bool false, .bool false, .slice (some ⟨bb, off, none⟩) 3 b1, .pointer (some ⟨w5.heap.size, 1, none⟩), .int .i64 (i : Int), .pointer (some ⟨bb, off + i * 7, none⟩), .pointer (some ⟨bb, off + i * 7 + 1, none⟩), .agg #[.string q.1.slots[i].part.core.kind, .bool q.1.slots[i].part.core.on, .bool q.1.slots[i].part.core.broken, .slice B4 q.1.slots[i].part.core.cells.length d4, .int .i64 q.1.slots[i].part.core.count, .slice B6 q.1.slots[i].part.layers.length d6], .int .i64 q.2.had, .pointer (some ⟨w2.heap.size, 3, none⟩), .int .i64 q.2.had, .bool true, .bool true, .pointer (some ⟨w2.heap.size, 3, none⟩), .int .i64 q.2.had, .pointer (some ⟨w2.heap.size, 2, none⟩), .int .i64 q.2.want, .bool false, .bool true, .bool true, .bool true, .bool true] := ⟨_, rfl⟩
          obtain ⟨J, hJ⟩ : ∃ J : (Nat → Bool) → (Nat → Value) → World → Prop, ∀ d v W, J d v W ↔ (ValsAt [94, 95, 96, 97, 98, 99, 100, 101, 102, 103, 104, 105, 106, 107, 108, 109, 110, 111, 112, 113, 114, 115, 116, 2] VL d v ∧ Chg [] x W) := ⟨_, fun _ _ _ => Iff.rfl⟩
          refine wp_region_J (b := ⟨#[], []⟩) [94, 95, 96, 97, 98, 99, 100, 101, 102, 103, 104, 105, 106, 107, 108, 109, 110, 111, 112, 113, 114, 115, 116, 2] J (by kernel_rfl) (upd_self _ _) (by kernel_rfl) (by kernel_rfl) ?_ ?_ ?_
          · exact (hJ _ _ _).2 ⟨fun i s x h1 _ h3 => absurd (List.getElem?_eq_some_iff.1 h1).1 (by simpa using h3), Chg.now⟩
          · refine ⟨?_, ?_, ?_, ?_, ?_, ?_, ?_, ?_, ?_, ?_, ?_, ?_, ?_, ?_, ?_, ?_, ?_, ?_, ?_, ?_, ?_, ?_, ?_, ?_, trivial⟩
            · intro d v W hd hpre hJ1 K hK
              have H := Lib.hid ((hJ _ _ _).1 hJ1)
              clear hJ1
              clear hpre
              simp only [upd, List.set_cons_zero, List.set_cons_succ]
              go_simp
              refine regK hK (by simp only [upd, Act.put, List.setIfInBounds_toArray, List.set_cons_zero, List.set_cons_succ]; rfl) ((hJ _ _ _).2 ⟨vals_put (by decide) H.out.1 0 _ _ rfl (by rw [hV]; rfl), H.out.2⟩)
            · intro d v W hd hpre hJ1 K hK
              have H := Lib.hid ((hJ _ _ _).1 hJ1)
              clear hJ1
              have e0 : v 94 = .pointer (some ⟨w2.heap.size, 0, none⟩) := H.out.1 0 _ _ rfl (by rw [hV]; rfl) (pre_of hpre 0)
              clear hpre
              have y := Y3.out W H.out.2
              have y0 := y.1
              have y2 := y.2.2.1
              have y3 := y.2.2.2
              clear y
              simp only [upd, List.set_cons_zero, List.set_cons_succ, e0]
              go_simp
              refine regK hK (by simp only [upd, Act.put, List.setIfInBounds_toArray, List.set_cons_zero, List.set_cons_succ, e0]; rfl) ((hJ _ _ _).2 ⟨vals_put (by decide) H.out.1 1 _ _ rfl (by rw [hV]; rfl), H.out.2⟩)
            · intro d v W hd hpre hJ1 K hK
              have H := Lib.hid ((hJ _ _ _).1 hJ1)
              clear hJ1
              have e1 : v 95 = .int .i64 1 := H.out.1 1 _ _ rfl (by rw [hV]; rfl) (pre_of hpre 1)
              clear hpre
              simp only [upd, List.set_cons_zero, List.set_cons_succ, e1]
              go_simp
              refine regK hK (by simp only [upd, Act.put, List.setIfInBounds_toArray, List.set_cons_zero, List.set_cons_succ, e1]; rfl) ((hJ _ _ _).2 ⟨vals_put (by decide) H.out.1 2 _ _ rfl (by rw [hV]; rfl), H.out.2⟩)
            · intro d v W hd hpre hJ1 K hK
              have H := Lib.hid ((hJ _ _ _).1 hJ1)
              clear hJ1
              have e2 : v 96 = .bool false := H.out.1 2 _ _ rfl (by rw [hV]; rfl) (pre_of hpre 2)
              clear hpre
              simp only [upd, List.set_cons_zero, List.set_cons_succ, e2]
              go_simp
              refine regK hK (by simp only [upd, Act.put, List.setIfInBounds_toArray, List.set_cons_zero, List.set_cons_succ, e2]; rfl) ((hJ _ _ _).2 ⟨vals_put (by decide) H.out.1 3 _ _ rfl (by rw [hV]; rfl), H.out.2⟩)
            · intro d v W hd hpre hJ1 K hK
              have H := Lib.hid ((hJ _ _ _).1 hJ1)
              clear hJ1
              have e3 : v 97 = .bool false := H.out.1 3 _ _ rfl (by rw [hV]; rfl) (pre_of hpre 3)
              clear hpre
              simp only [upd, List.set_cons_zero, List.set_cons_succ, e3]
              go_simp
              refine regK hK (by simp only [upd, Act.put, List.setIfInBounds_toArray, List.set_cons_zero, List.set_cons_succ, e3]; rfl) ((hJ _ _ _).2 ⟨vals_put (by decide) H.out.1 4 _ _ rfl (by rw [hV]; rfl), H.out.2⟩)
            · intro d v W hd hpre hJ1 K hK
              have H := Lib.hid ((hJ _ _ _).1 hJ1)
              clear hJ1
              have e3 : v 97 = .bool false := H.out.1 3 _ _ rfl (by rw [hV]; rfl) (pre_of hpre 3)
              clear hpre
              simp only [upd, List.set_cons_zero, List.set_cons_succ, e3]
              go_simp
              refine regK hK (by simp only [upd, Act.put, List.setIfInBounds_toArray, List.set_cons_zero, List.set_cons_succ, e3]; rfl) ((hJ _ _ _).2 ⟨vals_put (by decide) H.out.1 5 _ _ rfl (by rw [hV]; rfl), H.out.2⟩)
            · intro d v W hd hpre hJ1 K hK
              have H := Lib.hid ((hJ _ _ _).1 hJ1)
              clear hJ1
              have e3 : v 97 = .bool false := H.out.1 3 _ _ rfl (by rw [hV]; rfl) (pre_of hpre 3)
              have e5 : v 99 = .pointer (some ⟨w5.heap.size, 1, none⟩) := H.out.1 5 _ _ rfl (by rw [hV]; rfl) (pre_of hpre 5)
              clear hpre
              have y1 := Y9.out W H.out.2
              simp only [upd, List.set_cons_zero, List.set_cons_succ, e3, e5]
              go_simp
              refine regK hK (by simp only [upd, Act.put, List.setIfInBounds_toArray, List.set_cons_zero, List.set_cons_succ, e3, e5]; rfl) ((hJ _ _ _).2 ⟨vals_put (by decide) H.out.1 6 _ _ rfl (by rw [hV]; rfl), H.out.2⟩)
            · intro d v W hd hpre hJ1 K hK
              have H := Lib.hid ((hJ _ _ _).1 hJ1)
              clear hJ1
              have e3 : v 97 = .bool false := H.out.1 3 _ _ rfl (by rw [hV]; rfl) (pre_of hpre 3)
              have e4 : v 98 = .slice (some ⟨bb, off, none⟩) 3 b1 := H.out.1 4 _ _ rfl (by rw [hV]; rfl) (pre_of hpre 4)
              have e6 : v 100 = .int .i64 (i : Int) := H.out.1 6 _ _ rfl (by rw [hV]; rfl) (pre_of hpre 6)
              clear hpre
              simp only [upd, List.set_cons_zero, List.set_cons_succ, e3, e4, e6]
              go_simp
              refine regK hK (by simp only [upd, Act.put, List.setIfInBounds_toArray, List.set_cons_zero, List.set_cons_succ, e3, e4, e6]; rfl) ((hJ _ _ _).2 ⟨vals_put (by decide) H.out.1 7 _ _ rfl (by rw [hV]; rfl), H.out.2⟩)
            · intro d v W hd hpre hJ1 K hK
              have H := Lib.hid ((hJ _ _ _).1 hJ1)
              clear hJ1
              have e3 : v 97 = .bool false := H.out.1 3 _ _ rfl (by rw [hV]; rfl) (pre_of hpre 3)
              have e7 : v 101 = .pointer (some ⟨bb, off + i * 7, none⟩) := H.out.1 7 _ _ rfl (by rw [hV]; rfl) (pre_of hpre 7)
              clear hpre
              simp only [upd, List.set_cons_zero, List.set_cons_succ, e3, e7]
              go_simp
              refine regK hK (by simp only [upd, Act.put, List.setIfInBounds_toArray, List.set_cons_zero, List.set_cons_succ, e3, e7]; rfl) ((hJ _ _ _).2 ⟨vals_put (by decide) H.out.1 8 _ _ rfl (by rw [hV]; rfl), H.out.2⟩)
            · intro d v W hd hpre hJ1 K hK
              have H := Lib.hid ((hJ _ _ _).1 hJ1)
              clear hJ1
              have e3 : v 97 = .bool false := H.out.1 3 _ _ rfl (by rw [hV]; rfl) (pre_of hpre 3)
              have e8 : v 102 = .pointer (some ⟨bb, off + i * 7 + 1, none⟩) := H.out.1 8 _ _ rfl (by rw [hV]; rfl) (pre_of hpre 8)
              clear hpre
              have y := YS.out W H.out.2
              have y0 := y.1
              have y1 := y.2.1
              have y2 := y.2.2.1
              have y3 := y.2.2.2.1
              have y4 := y.2.2.2.2.1
              have y5 := y.2.2.2.2.2
              clear y
              simp only [upd, List.set_cons_zero, List.set_cons_succ, e3, e8]
              go_simp
              refine regK hK (by simp only [upd, Act.put, List.setIfInBounds_toArray, List.set_cons_zero, List.set_cons_succ, e3, e8]; rfl) ((hJ _ _ _).2 ⟨vals_put (by decide) H.out.1 9 _ _ rfl (by rw [hV]; rfl), H.out.2⟩)
            · intro d v W hd hpre hJ1 K hK
              have H := Lib.hid ((hJ _ _ _).1 hJ1)
              clear hJ1
              have e3 : v 97 = .bool false := H.out.1 3 _ _ rfl (by rw [hV]; rfl) (pre_of hpre 3)
              have e9 : v 103 = .agg #[.string q.1.slots[i].part.core.kind, .bool q.1.slots[i].part.core.on, .bool q.1.slots[i].part.core.broken, .slice B4 q.1.slots[i].part.core.cells.length d4, .int .i64 q.1.slots[i].part.core.count, .slice B6 q.1.slots[i].part.layers.length d6] := H.out.1 9 _ _ rfl (by rw [hV]; rfl) (pre_of hpre 9)
              clear hpre
              simp only [upd, List.set_cons_zero, List.set_cons_succ, e3, e9]
              go_simp
              go_at_call 19
              refine (FO.out W H.out.2).mono ?_
              rintro e W2 ⟨rfl, c2⟩
              dsimp only
              refine regK hK (by simp only [upd, Act.put, List.setIfInBounds_toArray, List.set_cons_zero, List.set_cons_succ, e3, e9]; rfl) ((hJ _ _ _).2 ⟨vals_put (by decide) H.out.1 10 _ _ rfl (by rw [hV]; rfl), H.out.2.trans0 c2⟩)
            · intro d v W hd hpre hJ1 K hK
              have H := Lib.hid ((hJ _ _ _).1 hJ1)
              clear hJ1
              have e3 : v 97 = .bool false := H.out.1 3 _ _ rfl (by rw [hV]; rfl) (pre_of hpre 3)
              clear hpre
              simp only [upd, List.set_cons_zero, List.set_cons_succ, e3]
              go_simp
              refine regK hK (by simp only [upd, Act.put, List.setIfInBounds_toArray, List.set_cons_zero, List.set_cons_succ, e3]; rfl) ((hJ _ _ _).2 ⟨vals_put (by decide) H.out.1 11 _ _ rfl (by rw [hV]; rfl), H.out.2⟩)
            · intro d v W hd hpre hJ1 K hK
              have H := Lib.hid ((hJ _ _ _).1 hJ1)
              clear hJ1
              have e3 : v 97 = .bool false := H.out.1 3 _ _ rfl (by rw [hV]; rfl) (pre_of hpre 3)
              have e11 : v 105 = .pointer (some ⟨w2.heap.size, 3, none⟩) := H.out.1 11 _ _ rfl (by rw [hV]; rfl) (pre_of hpre 11)
              clear hpre
              have y := Y3.out W H.out.2
              have y0 := y.1
              have y2 := y.2.2.1
              have y3 := y.2.2.2
              clear y
              simp only [upd, List.set_cons_zero, List.set_cons_succ, e3, e11]
              go_simp
              refine regK hK (by simp only [upd, Act.put, List.setIfInBounds_toArray, List.set_cons_zero, List.set_cons_succ, e3, e11]; rfl) ((hJ _ _ _).2 ⟨vals_put (by decide) H.out.1 12 _ _ rfl (by rw [hV]; rfl), H.out.2⟩)
            · intro d v W hd hpre hJ1 K hK
              have H := Lib.hid ((hJ _ _ _).1 hJ1)
              clear hJ1
              have e3 : v 97 = .bool false := H.out.1 3 _ _ rfl (by rw [hV]; rfl) (pre_of hpre 3)
              have e10 : v 104 = .int .i64 q.2.had := H.out.1 10 _ _ rfl (by rw [hV]; rfl) (pre_of hpre 10)
              have e12 : v 106 = .int .i64 q.2.had := H.out.1 12 _ _ rfl (by rw [hV]; rfl) (pre_of hpre 12)
              clear hpre
              simp only [upd, List.set_cons_zero, List.set_cons_succ, e3, e10, e12]
              go_simp
              refine regK hK (by simp only [upd, Act.put, List.setIfInBounds_toArray, List.set_cons_zero, List.set_cons_succ, e3, e10, e12]; rfl) ((hJ _ _ _).2 ⟨vals_put (by decide) H.out.1 13 _ _ rfl (by rw [hV]; rfl), H.out.2⟩)
            · intro d v W hd hpre hJ1 K hK
              have H := Lib.hid ((hJ _ _ _).1 hJ1)
              clear hJ1
              have e3 : v 97 = .bool false := H.out.1 3 _ _ rfl (by rw [hV]; rfl) (pre_of hpre 3)
              have e13 : v 107 = .bool true := H.out.1 13 _ _ rfl (by rw [hV]; rfl) (pre_of hpre 13)
              clear hpre
              simp only [upd, List.set_cons_zero, List.set_cons_succ, e3, e13]
              go_simp
              refine regK hK (by simp only [upd, Act.put, List.setIfInBounds_toArray, List.set_cons_zero, List.set_cons_succ, e3, e13]; rfl) ((hJ _ _ _).2 ⟨vals_put (by decide) H.out.1 14 _ _ rfl (by rw [hV]; rfl), H.out.2⟩)
            · intro d v W hd hpre hJ1 K hK
              have H := Lib.hid ((hJ _ _ _).1 hJ1)
              clear hJ1
              have e14 : v 108 = .bool true := H.out.1 14 _ _ rfl (by rw [hV]; rfl) (pre_of hpre 14)
              clear hpre
              simp only [upd, List.set_cons_zero, List.set_cons_succ, e14]
              go_simp
              refine regK hK (by simp only [upd, Act.put, List.setIfInBounds_toArray, List.set_cons_zero, List.set_cons_succ, e14]; rfl) ((hJ _ _ _).2 ⟨vals_put (by decide) H.out.1 15 _ _ rfl (by rw [hV]; rfl), H.out.2⟩)
            · intro d v W hd hpre hJ1 K hK
              have H := Lib.hid ((hJ _ _ _).1 hJ1)
              clear hJ1
              have e14 : v 108 = .bool true := H.out.1 14 _ _ rfl (by rw [hV]; rfl) (pre_of hpre 14)
              have e15 : v 109 = .pointer (some ⟨w2.heap.size, 3, none⟩) := H.out.1 15 _ _ rfl (by rw [hV]; rfl) (pre_of hpre 15)
              clear hpre
              have y := Y3.out W H.out.2
              have y0 := y.1
              have y2 := y.2.2.1
              have y3 := y.2.2.2
              clear y
              simp only [upd, List.set_cons_zero, List.set_cons_succ, e14, e15]
              go_simp
              refine regK hK (by simp only [upd, Act.put, List.setIfInBounds_toArray, List.set_cons_zero, List.set_cons_succ, e14, e15]; rfl) ((hJ _ _ _).2 ⟨vals_put (by decide) H.out.1 16 _ _ rfl (by rw [hV]; rfl), H.out.2⟩)
            · intro d v W hd hpre hJ1 K hK
              have H := Lib.hid ((hJ _ _ _).1 hJ1)
              clear hJ1
              have e14 : v 108 = .bool true := H.out.1 14 _ _ rfl (by rw [hV]; rfl) (pre_of hpre 14)
              clear hpre
              simp only [upd, List.set_cons_zero, List.set_cons_succ, e14]
              go_simp
              refine regK hK (by simp only [upd, Act.put, List.setIfInBounds_toArray, List.set_cons_zero, List.set_cons_succ, e14]; rfl) ((hJ _ _ _).2 ⟨vals_put (by decide) H.out.1 17 _ _ rfl (by rw [hV]; rfl), H.out.2⟩)
            · intro d v W hd hpre hJ1 K hK
              have H := Lib.hid ((hJ _ _ _).1 hJ1)
              clear hJ1
              have e14 : v 108 = .bool true := H.out.1 14 _ _ rfl (by rw [hV]; rfl) (pre_of hpre 14)
              have e17 : v 111 = .pointer (some ⟨w2.heap.size, 2, none⟩) := H.out.1 17 _ _ rfl (by rw [hV]; rfl) (pre_of hpre 17)
              clear hpre
              have y := Y3.out W H.out.2
              have y0 := y.1
              have y2 := y.2.2.1
              have y3 := y.2.2.2
              clear y
              simp only [upd, List.set_cons_zero, List.set_cons_succ, e14, e17]
              go_simp
              refine regK hK (by simp only [upd, Act.put, List.setIfInBounds_toArray, List.set_cons_zero, List.set_cons_succ, e14, e17]; rfl) ((hJ _ _ _).2 ⟨vals_put (by decide) H.out.1 18 _ _ rfl (by rw [hV]; rfl), H.out.2⟩)
            · intro d v W hd hpre hJ1 K hK
              have H := Lib.hid ((hJ _ _ _).1 hJ1)
              clear hJ1
              have e14 : v 108 = .bool true := H.out.1 14 _ _ rfl (by rw [hV]; rfl) (pre_of hpre 14)
              have e16 : v 110 = .int .i64 q.2.had := H.out.1 16 _ _ rfl (by rw [hV]; rfl) (pre_of hpre 16)
              have e18 : v 112 = .int .i64 q.2.want := H.out.1 18 _ _ rfl (by rw [hV]; rfl) (pre_of hpre 18)
              clear hpre
              simp only [upd, List.set_cons_zero, List.set_cons_succ, e14, e16, e18]
              go_simp
              go_at_call 20
              refine (OF.out W).mono ?_
              rintro e W2 ⟨rfl, hw2⟩
              subst hw2
              dsimp only
              refine regK hK (by simp only [upd, Act.put, List.setIfInBounds_toArray, List.set_cons_zero, List.set_cons_succ, e14, e16, e18]; rfl) ((hJ _ _ _).2 ⟨vals_put (by decide) H.out.1 19 _ _ rfl (by rw [hV]; rfl), H.out.2⟩)
            · intro d v W hd hpre hJ1 K hK
              have H := Lib.hid ((hJ _ _ _).1 hJ1)
              clear hJ1
              have e14 : v 108 = .bool true := H.out.1 14 _ _ rfl (by rw [hV]; rfl) (pre_of hpre 14)
              have e19 : v 113 = .bool false := H.out.1 19 _ _ rfl (by rw [hV]; rfl) (pre_of hpre 19)
              clear hpre
              simp only [upd, List.set_cons_zero, List.set_cons_succ, e14, e19]
              go_simp
              refine regK hK (by simp only [upd, Act.put, List.setIfInBounds_toArray, List.set_cons_zero, List.set_cons_succ, e14, e19]; rfl) ((hJ _ _ _).2 ⟨vals_put (by decide) H.out.1 20 _ _ rfl (by rw [hV]; rfl), H.out.2⟩)
            · intro d v W hd hpre hJ1 K hK
              have H := Lib.hid ((hJ _ _ _).1 hJ1)
              clear hJ1
              have e3 : v 97 = .bool false := H.out.1 3 _ _ rfl (by rw [hV]; rfl) (pre_of hpre 3)
              have e14 : v 108 = .bool true := H.out.1 14 _ _ rfl (by rw [hV]; rfl) (pre_of hpre 14)
              have e20 : v 114 = .bool true := H.out.1 20 _ _ rfl (by rw [hV]; rfl) (pre_of hpre 20)
              clear hpre
              simp only [upd, List.set_cons_zero, List.set_cons_succ, e3, e14, e20]
              go_simp
              refine regK hK (by simp only [upd, Act.put, List.setIfInBounds_toArray, List.set_cons_zero, List.set_cons_succ, e3, e14, e20]; rfl) ((hJ _ _ _).2 ⟨vals_put (by decide) H.out.1 21 _ _ rfl (by rw [hV]; rfl), H.out.2⟩)
            · intro d v W hd hpre hJ1 K hK
              have H := Lib.hid ((hJ _ _ _).1 hJ1)
              clear hJ1
              have e3 : v 97 = .bool false := H.out.1 3 _ _ rfl (by rw [hV]; rfl) (pre_of hpre 3)
              have e21 : v 115 = .bool true := H.out.1 21 _ _ rfl (by rw [hV]; rfl) (pre_of hpre 21)
              clear hpre
              simp only [upd, List.set_cons_zero, List.set_cons_succ, e3, e21]
              go_simp
              refine regK hK (by simp only [upd, Act.put, List.setIfInBounds_toArray, List.set_cons_zero, List.set_cons_succ, e3, e21]; rfl) ((hJ _ _ _).2 ⟨vals_put (by decide) H.out.1 22 _ _ rfl (by rw [hV]; rfl), H.out.2⟩)
            · intro d v W hd hpre hJ1 K hK
              have H := Lib.hid ((hJ _ _ _).1 hJ1)
              clear hJ1
              have e22 : v 116 = .bool true := H.out.1 22 _ _ rfl (by rw [hV]; rfl) (pre_of hpre 22)
              clear hpre
              simp only [upd, List.set_cons_zero, List.set_cons_succ, e22]
              go_simp
              refine regK hK (by simp only [upd, Act.put, List.setIfInBounds_toArray, List.set_cons_zero, List.set_cons_succ, e22]; rfl) ((hJ _ _ _).2 ⟨vals_put (by decide) H.out.1 23 _ _ rfl (by rw [hV]; rfl), H.out.2⟩)
          · intro v W hJ1
            have H := (hJ _ _ _).1 hJ1
            clear hJ1
            have e2 : v 2 = .bool true := H.1 23 _ _ rfl (by rw [hV]; rfl) rfl
            have KA := Lib.hid (K6.out.trans0 H.2)
            clear H
            simp only [upd, List.set_cons_zero, List.set_cons_succ, e2]
            go_wp2_with fail
            go_ret
            exact ⟨rfl, KA.out⟩
end Go.Proofs.YtdlkbomojjmnlaaGreatDoor
