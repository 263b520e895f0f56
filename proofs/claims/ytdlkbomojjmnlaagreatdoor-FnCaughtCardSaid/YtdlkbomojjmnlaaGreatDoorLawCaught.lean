/- FnCaught: the walk of the law. Conditions: the library's variables stand. -/
import Derived.Test.YtdlkbomojjmnlaaGreatDoorRunLws
import Derived.Test.YtdlkbomojjmnlaaGreatDoorDrawS
import Derived.Test.YtdlkbomojjmnlaaGreatDoorRunsP
import Derived.Test.YtdlkbomojjmnlaaGreatDoorIsActs
import Derived.Test.YtdlkbomojjmnlaaGreatDoorNames
set_option maxRecDepth 100000
set_option maxHeartbeats 16000000
namespace Go.Proofs.YtdlkbomojjmnlaaGreatDoor
open Go.RowKit

/-- A plan, tried, as it is written. -/
theorem tryA_rd {w : World} {p : List ActionT} {u : Value} (h : Rd w w.heap.size (actions p) u) (t : TypeId) :
  Rd (w.alloc (.cells #[.int .i64 10, .int .i64 0, .int .i64 0, .string ⟨#[]⟩, .string ⟨#[]⟩, .string ⟨#[]⟩, .int .i64 0, .string ⟨#[]⟩, .int .i64 0, u, .slice none 0 0] t)) (w.heap.size + 1) (actions [tryA p]) (.slice (some ⟨w.heap.size, 0, none⟩) 1 1) := by
 unfold actions
 rw [Rd]
 refine ⟨_, 1, rfl, Nat.le_refl _, by unfold maxLen; omega, .inr ⟨w.heap.size, 0, rfl, by omega, ?_⟩⟩
 have hl : ([tryA p] : List ActionT).flatMap actionF = actionF (tryA p) := by simp
 rw [hl, actionF_eq]
 have hc : ∀ (j : Nat) (v : Value), (#[Value.int .i64 10, .int .i64 0, .int .i64 0, .string ⟨#[]⟩, .string ⟨#[]⟩, .string ⟨#[]⟩, .int .i64 0, .string ⟨#[]⟩, .int .i64 0, u, .slice none 0 0] : Array Value)[j]? = some v → (w.alloc (.cells #[.int .i64 10, .int .i64 0, .int .i64 0, .string ⟨#[]⟩, .string ⟨#[]⟩, .string ⟨#[]⟩, .int .i64 0, .string ⟨#[]⟩, .int .i64 0, u, .slice none 0 0] t)).cell? ⟨w.heap.size, 0 + j, none⟩ = some v := fun j v hv => by
  rw [Nat.zero_add, World.cell?_alloc_new]; exact hv
 refine RdL_iff.2 fun j d hd => ?_
 match j, hd with
 | 0, hd => cases hd; exact ⟨_, hc 0 _ rfl, by rw [Rd]; rfl⟩
 | 1, hd => cases hd; exact ⟨_, hc 1 _ rfl, by rw [Rd]; rfl⟩
 | 2, hd => cases hd; exact ⟨_, hc 2 _ rfl, by rw [Rd]; rfl⟩
 | 3, hd => cases hd; exact ⟨_, hc 3 _ rfl, by rw [Rd]; rfl⟩
 | 4, hd => cases hd; exact ⟨_, hc 4 _ rfl, by rw [Rd]; rfl⟩
 | 5, hd => cases hd; exact ⟨_, hc 5 _ rfl, by rw [Rd]; rfl⟩
 | 6, hd => cases hd; exact ⟨_, hc 6 _ rfl, by rw [Rd]; rfl⟩
 | 7, hd => cases hd; exact ⟨_, hc 7 _ rfl, by rw [Rd]; rfl⟩
 | 8, hd => cases hd; exact ⟨_, hc 8 _ rfl, by rw [Rd]; rfl⟩
 | 9, hd => cases hd; exact ⟨_, hc 9 _ rfl, (h.chg0 ((Chg.refl [] w).alloc _) (Nat.le_refl _)).mono (by omega)⟩
 | 10, hd => cases hd; exact ⟨_, hc 10 _ rfl, by show Rd _ _ (.s 0 []) _; rw [Rd]; exact ⟨none, 0, rfl, Nat.le_refl _, by unfold maxLen; omega, .inl rfl⟩⟩
 | n + 11, hd => simp at hd
theorem caught_law (A : Option Addr) (n cap : Nat) (w : World) (hE : Env w) (hb : BytesAt w w.heap.size A n) :
  Calls Tryz.prog 3 #[.slice A n cap] w fun e w' => e = .returned (.bool true) ∧ Chg [] w w' := by
 have HE := Lib.hid hE
 by_cases hn : n ≤ 4096
 case neg =>
  have BG := Lib.hid (big_yes A n cap w hn)
  clear hb hn hE
  go_enter Tryz.func3, Tryz.ntmps3
  go_wp2_with fail
  refine BG.out.mono ?_
  rintro e w1 ⟨rfl, rfl⟩
  go_wp2_with fail
  go_ret
  exact ⟨rfl, Chg.refl _ _⟩
 case pos =>
  have BG := Lib.hid (big_no A n cap w hn)
  have DS := Lib.hid (drawStart_any A n cap w (by omega) hb)
  clear hb hn hE
  go_enter Tryz.func3, Tryz.ntmps3
  go_wp2_with fail
  refine BG.out.mono ?_
  rintro e w0 ⟨rfl, hw0⟩
  subst hw0
  go_wp2_with fail
  refine DS.out.mono ?_
  rintro e w1 ⟨p, A1, c1, l, A2, c2, s, A3, c3, rfl, hok, hW, hl, hs, rp, ri, rs, d1⟩
  have D1 := Lib.hid d1
  have RP := Lib.hid rp
  have X := Lib.hid (show PlanOk p ∧ actionsW p ≤ 26000 ∧ SlotsOk s from ⟨hok, hW, hs⟩)
  have RI := Lib.hid ri
  have RS := Lib.hid rs
  clear rp ri rs d1 hok hW hl hs BG DS
  go_wp2_with fail
  refine calls_name fun x2 hx2 => ?_
  have e2 : Chg [] w1 x2 := by rw [hx2]; exact Chg.now
  have RM : Hid (Rd x2 x2.heap.size (actions [tryA p]) (.slice (some ⟨w1.heap.size, 0, none⟩) 1 1)) := Lib.hid (by
   have h := tryA_rd RP.out 32
   have hz : x2.heap.size = w1.heap.size + 1 := by rw [hx2]; simp
   rw [hz, hx2]
   exact h)
  have D2 := Lib.hid (D1.out.trans0 e2)
  have E2 := Lib.hid (HE.out.keep D2.out)
  have WM : Hid (actionsW [tryA p] ≤ 1048576) := Lib.hid (by
   have := X.out.2.1
   have h1 : actionsW [tryA p] = 1 + actionsW p := by
    show 1 + ([tryA p].map actionW).sum = _
    simp only [List.map_cons, List.map_nil, List.sum_cons, List.sum_nil, actionW_eq]
    simp [tryA, ActionT.A, ActionT.B, ActionT.word, ActionT.call, callW, actionsW, actionsW1]
    rfl
   omega)
  have R1 := Lib.hid (fun W (hc : Chg [] x2 W) => run_law E2.out l X.out.2.2 X.out.1 (Nat.le_trans X.out.2.1 (by decide)) (RS.out.chg0 e2 (Nat.le_refl _) |>.mono e2.size) (RP.out.chg0 e2 (Nat.le_refl _) |>.mono e2.size) (RI.out.chg0 e2 (Nat.le_refl _) |>.mono e2.size) W hc)
  have RSX := Lib.hid (RS.out.chg0 e2 (Nat.le_refl _) |>.mono e2.size)
  have RIX := Lib.hid (RI.out.chg0 e2 (Nat.le_refl _) |>.mono e2.size)
  clear hx2 e2 RP RI RS D1
  by_cases hp : PlanOk [tryA p]
  case neg =>
   have II := Lib.hid (fun W (hc : Chg [] x2 W) => (isPlan_impl_any [tryA p] _ _ W (E2.out.keep hc) WM.out (RM.out.chg0 hc (Nat.le_refl _)) hc.size).mono (BoolPost.neg hp))
   have IR := Lib.hid (fun W (hc : Chg [] x2 W) => (isPlan_spec_law [tryA p] _ _ W WM.out (RM.out.chg0 hc (Nat.le_refl _)) hc.size).mono (BoolPost.neg hp))
   clear hp
   refine (II.out _ (Chg.refl _ _)).mono ?_
   rintro e w4 ⟨rfl, k4⟩
   have K4 := Lib.hid k4
   clear k4
   go_wp2_with fail
   refine (IR.out _ K4.out).mono ?_
   rintro e w5 ⟨rfl, k5⟩
   have K5 := Lib.hid (K4.out.trans0 k5)
   clear k5 K4
   go_wp2_with fail
   refine (II.out _ K5.out).mono ?_
   rintro e w6 ⟨rfl, k6⟩
   have K6 := Lib.hid (D2.out.trans0 (K5.out.trans0 k6))
   clear k6 K5
   go_wp2_with fail
   go_ret
   exact ⟨rfl, Chg.to K6.out⟩
  case pos =>
   have II := Lib.hid (fun W (hc : Chg [] x2 W) => (isPlan_impl_any [tryA p] _ _ W (E2.out.keep hc) WM.out (RM.out.chg0 hc (Nat.le_refl _)) hc.size).mono (BoolPost.pos hp))
   have IR := Lib.hid (fun W (hc : Chg [] x2 W) => (isPlan_spec_law [tryA p] _ _ W WM.out (RM.out.chg0 hc (Nat.le_refl _)) hc.size).mono (BoolPost.pos hp))
   have R2 := Lib.hid (fun W (hc : Chg [] x2 W) => run_law E2.out l X.out.2.2 hp WM.out RSX.out RM.out RIX.out W hc)
   rw [try_run] at R2
   obtain ⟨q, hq⟩ : ∃ q, q = runL l p 0 ⟨s, 0⟩ := ⟨_, rfl⟩
   rw [← hq] at R1 R2
   clear hp hq
   refine (II.out _ (Chg.refl _ _)).mono ?_
   rintro e w4 ⟨rfl, k4⟩
   have K4 := Lib.hid k4
   clear k4
   go_wp2_with fail
   refine (IR.out _ K4.out).mono ?_
   rintro e w5 ⟨rfl, k5⟩
   have K5 := Lib.hid (K4.out.trans0 k5)
   clear k5 K4
   go_wp2_with fail
   refine (II.out _ K5.out).mono ?_
   rintro e w6 ⟨rfl, k6⟩
   have K6 := Lib.hid (K5.out.trans0 k6)
   clear k6 K5
   go_wp2_with fail
   refine (R1.out _ K6.out).mono ?_
   rintro e w7 ⟨B1, b1, rfl, N1, k7⟩
   have K7 := Lib.hid (K6.out.trans0 k7)
   have N1 := Lib.hid N1
   clear k7 K6 R1 II IR RM
   go_wp2_with fail
   refine calls_name fun x8 hx8 => ?_
   have Z8 : Box x8 w7.heap.size [.int .i64 q.2.code, .int .i64 q.2.place, .int .i64 q.2.want, .int .i64 q.2.had] := by rw [hx8]; exact Box.new _ _ _
   have e8 : Chg [] w7 x8 := by rw [hx8]; exact Chg.now
   have K8 := Lib.hid (K7.out.trans0 e8)
   have N8 := Lib.hid (N1.out.chg0 e8 (Nat.le_refl _))
   have s8 := e8.size
   clear hx8 e8 K7 N1
   by_cases hc : q.2.code = 1
   case pos =>
    rw [if_pos hc] at R2
    refine (R2.out _ K8.out).mono ?_
    rintro e w9 ⟨B2, b2, rfl, N2, k9⟩
    have Z9 := Z8.keep k9
    have N9 := N8.out.chg0 k9 s8
    have SS := Lib.hid (fun W (h : Chg [] w9 W) => (sameSlots_impl_any q.1.slots q.1.slots _ _ w9.heap.size w9.heap.size W ((N9.mono (Nat.le_trans s8 k9.size)).chg0 h (Nat.le_refl _)) (N2.chg0 h (Nat.le_refl _)) h.size h.size).mono (BoolPost.pos rfl))
    have K9 := Lib.hid (K8.out.trans0 k9)
    have k9z := k9.size
    have lz := Z9.lt
    have Z9 := Lib.hid Z9
    clear N9 N2 k9 Z8 N8 K8
    go_wp2_with fail
    refine calls_name fun xa hxa => ?_
    have ea : Chg [] w9 xa := by rw [hxa]; exact Chg.now
    have YA : Box xa w9.heap.size [.int .i64 0, .int .i64 0, .int .i64 0, .int .i64 0] := by rw [hxa]; repeat (first | exact Box.new _ _ _ | refine Box.drew ?_ | refine Box.drewN ?_ _)
    have ZA := Z9.out.keep ea
    clear hxa
    refine (SS.out _ ea).mono ?_
    rintro e wb ⟨rfl, kb⟩
    have DB := Lib.hid (D2.out.trans0 ((K9.out.trans0 ea).trans0 kb))
    obtain ⟨z0, z1, z2, z3⟩ := (ZA.keep kb).o4
    obtain ⟨y0, y1, y2, y3⟩ := (YA.keep kb).o4
    rw [hc] at z0
    clear YA ZA ea kb SS
    go_wp2_with fail
    go_ret
    exact ⟨rfl, Chg.to DB.out⟩
   case neg =>
    rw [if_neg hc] at R2
    obtain ⟨u, hu⟩ : ∃ u, u = q.2.up 1 := ⟨_, rfl⟩
    have huc : u.code = q.2.code := by rw [hu, EndT.up_code]
    rw [← hu] at R2
    clear hu
    refine (R2.out _ K8.out).mono ?_
    rintro e w9 ⟨B2, b2, rfl, N2, k9⟩
    have Z9 := Z8.keep k9
    have N9 := N8.out.chg0 k9 s8
    have SS := Lib.hid (fun W (h : Chg [] w9 W) => (sameSlots_impl_any q.1.slots q.1.slots _ _ w9.heap.size w9.heap.size W ((N9.mono (Nat.le_trans s8 k9.size)).chg0 h (Nat.le_refl _)) (N2.chg0 h (Nat.le_refl _)) h.size h.size).mono (BoolPost.pos rfl))
    have K9 := Lib.hid (K8.out.trans0 k9)
    have k9z := k9.size
    have lz := Z9.lt
    have Z9 := Lib.hid Z9
    have hc1 : ¬ u.code = 1 := by rw [huc]; exact hc
    have hc2 : (u.code == 1) = false := by rw [beq_eq_false_iff_ne]; exact hc1
    have hc3 : (q.2.code == 1) = false := by rw [beq_eq_false_iff_ne]; exact hc
    have HU := Lib.hid huc
    clear huc
    clear N9 N2 k9 Z8 N8 K8
    go_wp2_with fail
    refine calls_name fun xa hxa => ?_
    have ea : Chg [] w9 xa := by rw [hxa]; exact Chg.now
    have YA : Box xa w9.heap.size [.int .i64 u.code, .int .i64 u.place, .int .i64 u.want, .int .i64 u.had] := by rw [hxa]; repeat (first | exact Box.new _ _ _ | refine Box.drew ?_ | refine Box.drewN ?_ _)
    have ZA := Z9.out.keep ea
    clear hxa
    refine (SS.out _ ea).mono ?_
    rintro e wb ⟨rfl, kb⟩
    have DB := Lib.hid (D2.out.trans0 ((K9.out.trans0 ea).trans0 kb))
    obtain ⟨z0, z1, z2, z3⟩ := (ZA.keep kb).o4
    obtain ⟨y0, y1, y2, y3⟩ := (YA.keep kb).o4
    rw [← HU.out] at z0
    clear YA ZA ea kb SS
    go_wp2_with fail
    go_ret
    exact ⟨rfl, Chg.to DB.out⟩
end Go.Proofs.YtdlkbomojjmnlaaGreatDoor
