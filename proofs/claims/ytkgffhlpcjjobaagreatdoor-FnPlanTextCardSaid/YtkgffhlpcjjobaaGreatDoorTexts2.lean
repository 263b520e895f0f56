/- l8Text and FormatPlan of the reference. Written by a program. / blockText, planText and FormatPlan of the program. Written by a program. Conditions: the library's and the program's variables stand. -/
import Derived.Test.YtkgffhlpcjjobaaGreatDoorLines
import Derived.Test.YtkgffhlpcjjobaaGreatDoorPlanOk
import Derived.Test.YtkgffhlpcjjobaaGreatDoorBuilders
namespace Go.Proofs.YtkgffhlpcjjobaaGreatDoor
open Go.RowKit

theorem bodyT_pos {L : List ByteArray} (h : L.length ≠ 0) : bodyT L = joinB L ⟨#[59, 32]⟩ ++ ⟨#[32]⟩ := by
  cases L with
  | nil => exact absurd rfl h
  | cons x r => rfl
theorem bodyT_nil {L : List ByteArray} (h : L.length = 0) : bodyT L = ⟨#[]⟩ := by
  cases L with
  | nil => rfl
  | cons x r => simp at h
theorem joinB_small {l : List ActionT} (h : strsW1 (txtL l) ≤ 67108864 ∧ l.length ≤ 14) : (joinB (txtL l) ⟨#[59, 32]⟩).size ≤ 67109000 := by
  have := joinB_size_le (txtL l) ⟨#[59, 32]⟩ 14 67108864 (by decide) (by rw [txtL_len]; exact h.2) h.1
  omega
open Classical in
/-- The text of a plan. -/
noncomputable def planT (l : List ActionT) : ByteArray := if PlanOk l then (if l.length = 0 then ⟨#[110, 111, 116, 104, 105, 110, 103]⟩ else joinB (txtL l) ⟨#[59, 32]⟩) else ⟨#[]⟩
theorem planT_no {l : List ActionT} (h : ¬ PlanOk l) : planT l = ⟨#[]⟩ := by unfold planT; rw [if_neg h]
theorem planT_nil {l : List ActionT} (h : PlanOk l) (h0 : l.length = 0) : planT l = ⟨#[110, 111, 116, 104, 105, 110, 103]⟩ := by unfold planT; rw [if_pos h, if_pos h0]
theorem planT_pos {l : List ActionT} (h : PlanOk l) (h0 : ¬ l.length = 0) : planT l = joinB (txtL l) ⟨#[59, 32]⟩ := by unfold planT; rw [if_pos h, if_neg h0]
/-- l8Text of a list is known. -/
def TextS (l : List ActionT) : Prop := ∀ (u : Value) (B : Nat) (w : World), okL l → sizeL l ≤ 14 → actionsW l ≤ 1048576 → Rd w B (actions l) u → B ≤ w.heap.size →
    Calls Tryz.prog 112 #[u] w (StrPost (bodyT (txtL l)) w)
/-- The text of one of the actions of a list. -/
theorem lineS_in {l : List ActionT} (ih : ∀ a ∈ l, TextS a.A ∧ TextS a.B) (hok : okL l) (hz : sizeL l ≤ 14) (hW : actionsW l ≤ 1048576) {w : World} {B : Nat} (hB : B ≤ w.heap.size) {a : ActionT} (ha : a ∈ l) {A1 A2 : Option Addr} {c1 c2 : Nat} (rA : Rd w B (actions a.A) (.slice A1 a.A.length c1)) (rB : Rd w B (actions a.B) (.slice A2 a.B.length c2)) (W : World) (hc : Chg [] w W) :
    Calls Tryz.prog 66 #[.agg #[.int .i64 a.op, .int .i64 a.slot, .int .i64 a.other, .string a.word, .string a.call.method, .string a.call.key, .int .i64 a.call.value, .string a.call.text, .int .i64 a.face, .slice A1 a.A.length c1, .slice A2 a.B.length c2]] W (StrPost a.txt W) := by
  have hao := (okL_iff l).1 hok a ha
  have haz := Nat.le_trans (sizeL_mem ha) hz
  have haw : actionW a ≤ 1048576 := by have := actionsW_mem ha; unfold actionsW at hW; omega
  obtain ⟨⟨a1, a2, a3⟩, b1, b2, b3⟩ := sub_small hao haz haw
  exact l8Line_any a A1 A2 c1 c2 W hao haz haw
    (fun V hV => (ih a ha).1 _ B V a1 a2 a3 (rA.chg0 (hc.trans0 hV) hB) (Nat.le_trans hB (hc.trans0 hV).size))
    (fun V hV => (ih a ha).2 _ B V b1 b2 b3 (rB.chg0 (hc.trans0 hV) hB) (Nat.le_trans hB (hc.trans0 hV).size))
set_option maxRecDepth 100000 in
set_option maxHeartbeats 4000000 in
theorem l8Text_all : ∀ l, TextS l := by
  refine ActionT.ind fun l ih => ?_
  intro u B w hok hz hW hr hB
  obtain ⟨A, cap, rfl, h0, h1, hrow⟩ := actions_row hr
  unfold maxLen at h1
  have HS := Lib.hid (plan_small hok hz hW)
  have hll := HS.out.2
  have LL := Lib.hid (fun (W0 : World) (hc : Chg [] w W0) (a : ActionT) (ha : a ∈ l) (A1 A2 : Option Addr) (c1 c2 : Nat) (rA : Rd W0 B (actions a.A) (.slice A1 a.A.length c1)) (rB : Rd W0 B (actions a.B) (.slice A2 a.B.length c2)) (W : World) (hW0 : Chg [] W0 W) => lineS_in ih hok hz hW (Nat.le_trans hB hc.size) ha rA rB W hW0)
  clear ih hr hok hz hW
  go_enter Tryz.func112, Tryz.ntmps112
  go_wp2_with fail
  go_loopw [3, 9] (fun v i wr => ∃ (k : Nat) (A' : Option Addr) (cap' : Nat), k ≤ l.length ∧ i = .int .i64 k ∧ v = .slice A' k cap' ∧ App w wr 9 1 (.slice A' k cap') k (((l.take k).map ActionT.txt).flatMap strC)) (fun _ i _ => l.length - (intOf i).toNat)
  case atStart => exact ⟨0, _, 0, Nat.zero_le _, rfl, rfl, App.empty w _ _ (Chg.refl _ _)⟩
  case round =>
    obtain ⟨k, A', cap', hk, rfl, rfl, hh⟩ := hrel
    have hcg : Chg [] w wr := hh.chg
    by_cases hlt : k < l.length
    · obtain ⟨b, off, uA, uB, rfl, hb, q0, q1, q2, q3, q4, q5, q6, q7, q8, q9, q10, rA, rB⟩ := actions_cells (hrow.chg0 hcg hB) k hlt
      obtain ⟨A1, cap1, rfl, _, _, _⟩ := actions_row rA
      obtain ⟨A2, cap2, rfl, _, _, _⟩ := actions_row rB
      have hmem := List.getElem_mem hlt
      have hsz := hcg.size
      have LN := Lib.hid (fun W (hc : Chg [] wr W) => LL.out _ hcg _ hmem _ _ _ _ rA rB W hc)
      obtain ⟨y, hy⟩ : ∃ y, y = l[k].txt := ⟨_, rfl⟩
      rw [← hy] at LN
      have HY := Lib.hid hy
      clear hy rA rB hmem
      go_wp2_with fail
      refine (LN.out _ ((Chg.refl _ _).alloc _)).mono ?_
      rintro e w2 ⟨rfl, c2⟩
      have d2 : Chg [] wr w2 := Chg.trans0 ((Chg.refl _ _).alloc _) c2
      go_wp2_with (at_builtin; refine wpList_app rfl (.tmp 13) (.tmp 16) _ rfl 9 _ 1 16 Tryz.underlying61 string_info rfl (by omega) hh (us := [.string y]) (dsE := strC y) ⟨[], HasL.cons_v (HasL.nil _), by simp, d2.alloc _⟩ rfl w2.heap.size 1 rfl rfl (by intro j u hj; cases j with | zero => cases hj; go_simp | succ j => simp at hj) (by intro u hu; simp at hu; subst hu; rfl) (by omega) (by omega) ?_; intro A3 cap3 w3 hA3)
      go_roundw
      case rel => exact ⟨k + 1, A3, cap3, by omega, by go_num, by go_num, by rw [List.take_succ_eq_append_getElem hlt, List.map_append, List.flatMap_append]; rw [HY.out] at hA3; simpa using hA3⟩
      case measure => simp [intOf]; omega
    · obtain rfl : k = l.length := by omega
      rw [List.take_length] at hh
      have hn : Rd wr wr.heap.size (strs (txtL l)) (.slice A' l.length cap') := by have := hh.new.rd; rw [txtL_map]; unfold strs; rw [List.length_map]; exact this
      clear hh LL
      by_cases hz0 : l.length = 0
      · have HE := Lib.hid (bodyT_nil (L := txtL l) (by rw [txtL_len]; exact hz0))
        clear hn
        go_wp2_with fail
        go_ret
        exact ⟨str_ret HE.out.symm, hcg⟩
      · have hz1 : ¬ l = [] := fun e => hz0 (by rw [e]; rfl)
        have hz2 : ((l.length : Int) == 0) = false := by simpa using hz1
        have HE := Lib.hid (bodyT_pos (L := txtL l) (by rw [txtL_len]; exact hz0))
        have JW := Lib.hid (fun W (hc : Chg [] wr W) => joinWith_spec_any (txtL l) ⟨#[59, 32]⟩ _ wr.heap.size W (by rw [txtL_len]; omega) (by decide) (by have := HS.out.1; omega) (hn.chg0 hc (Nat.le_refl _)) hc.size)
        have hjs := joinB_small HS.out
        obtain ⟨J, hJ⟩ : ∃ J, J = joinB (txtL l) ⟨#[59, 32]⟩ := ⟨_, rfl⟩
        rw [← hJ] at JW HE hjs
        obtain ⟨x, hx⟩ : ∃ x, x = J ++ ⟨#[32]⟩ := ⟨_, rfl⟩
        rw [← hx] at HE
        have e1 : (⟨#[32]⟩ : ByteArray).size = 1 := rfl
        have kx := cat_is (P := Tryz.prog) hx (by omega)
        clear hx hJ e1 hjs hn
        go_wp2_with fail
        refine (JW.out _ (Chg.refl _ _)).mono ?_
        rintro e w4 ⟨rfl, c4⟩
        go_wp2_with fail
        go_ret
        exact ⟨str_ret HE.out.symm, hcg.trans0 c4⟩
set_option maxRecDepth 100000 in
set_option maxHeartbeats 4000000 in
theorem formatPlan_spec_any (l : List ActionT) (u : Value) (B : Nat) (w : World) (hW : actionsW l ≤ 1048576) (hr : Rd w B (actions l) u) (hB : B ≤ w.heap.size) :
    Calls Tryz.prog 37 #[u] w (StrPost (planT l) w) := by
  by_cases hp : PlanOk l
  · have IP := Lib.hid ((isPlan_spec_law l u B w hW hr hB).mono (BoolPost.pos hp))
    obtain ⟨A, cap, rfl, h0, h1, hrow⟩ := actions_row hr
    unfold maxLen at h1
    have HP := Lib.hid hp
    have hok := hp.2.2
    have hz := hp.1
    have HS := Lib.hid (plan_small hok hz hW)
    have hll := HS.out.2
    have LL := Lib.hid (fun (W0 : World) (hc : Chg [] w W0) (a : ActionT) (ha : a ∈ l) (A1 A2 : Option Addr) (c1 c2 : Nat) (rA : Rd W0 B (actions a.A) (.slice A1 a.A.length c1)) (rB : Rd W0 B (actions a.B) (.slice A2 a.B.length c2)) (W : World) (hW0 : Chg [] W0 W) => lineS_in (fun a _ => ⟨l8Text_all a.A, l8Text_all a.B⟩) hok hz hW (Nat.le_trans hB hc.size) ha rA rB W hW0)
    clear hp hr hok hz hW
    go_enter Tryz.func37, Tryz.ntmps37
    go_wp2_with fail
    refine IP.out.mono ?_
    rintro e w1 ⟨rfl, c1⟩
    go_wp2_with fail
    go_loopw [3, 12] (fun v i wr => ∃ (k : Nat) (A' : Option Addr) (cap' : Nat), k ≤ l.length ∧ i = .int .i64 k ∧ v = .slice A' k cap' ∧ App w1 wr 9 1 (.slice A' k cap') k (((l.take k).map ActionT.txt).flatMap strC)) (fun _ i _ => l.length - (intOf i).toNat)
    case atStart => exact ⟨0, _, 0, Nat.zero_le _, rfl, rfl, App.empty w1 _ _ (Chg.refl _ _)⟩
    case round =>
      obtain ⟨k, A', cap', hk, rfl, rfl, hh⟩ := hrel
      have hcg : Chg [] w wr := c1.trans0 hh.chg
      by_cases hlt : k < l.length
      · obtain ⟨b, off, uA, uB, rfl, hb, q0, q1, q2, q3, q4, q5, q6, q7, q8, q9, q10, rA, rB⟩ := actions_cells (hrow.chg0 hcg hB) k hlt
        obtain ⟨A1, cap1, rfl, _, _, _⟩ := actions_row rA
        obtain ⟨A2, cap2, rfl, _, _, _⟩ := actions_row rB
        have hmem := List.getElem_mem hlt
        have hsz := hcg.size
        have LN := Lib.hid (fun W (hc : Chg [] wr W) => LL.out _ hcg _ hmem _ _ _ _ rA rB W hc)
        obtain ⟨y, hy⟩ : ∃ y, y = l[k].txt := ⟨_, rfl⟩
        rw [← hy] at LN
        have HY := Lib.hid hy
        clear hy rA rB hmem
        go_wp2_with fail
        refine (LN.out _ ((Chg.refl _ _).alloc _)).mono ?_
        rintro e w2 ⟨rfl, c2⟩
        have d2 : Chg [] wr w2 := Chg.trans0 ((Chg.refl _ _).alloc _) c2
        go_wp2_with (at_builtin; refine wpList_app rfl (.tmp 16) (.tmp 19) _ rfl 9 _ 1 16 Tryz.underlying61 string_info rfl (by omega) hh (us := [.string y]) (dsE := strC y) ⟨[], HasL.cons_v (HasL.nil _), by simp, d2.alloc _⟩ rfl w2.heap.size 1 rfl rfl (by intro j u hj; cases j with | zero => cases hj; go_simp | succ j => simp at hj) (by intro u hu; simp at hu; subst hu; rfl) (by omega) (by omega) ?_; intro A3 cap3 w3 hA3)
        go_roundw
        case rel => exact ⟨k + 1, A3, cap3, by omega, by go_num, by go_num, by rw [List.take_succ_eq_append_getElem hlt, List.map_append, List.flatMap_append]; rw [HY.out] at hA3; simpa using hA3⟩
        case measure => simp [intOf]; omega
      · obtain rfl : k = l.length := by omega
        rw [List.take_length] at hh
        have hn : Rd wr wr.heap.size (strs (txtL l)) (.slice A' l.length cap') := by have := hh.new.rd; rw [txtL_map]; unfold strs; rw [List.length_map]; exact this
        clear hh LL
        by_cases hz0 : l.length = 0
        · have HE := Lib.hid (planT_nil HP.out hz0)
          clear hn
          go_wp2_with fail
          go_ret
          exact ⟨str_ret HE.out.symm, hcg⟩
        · have hz1 : ¬ l = [] := fun e => hz0 (by rw [e]; rfl)
          have hz2 : ((l.length : Int) == 0) = false := by simpa using hz1
          have HE := Lib.hid (planT_pos HP.out hz0)
          have JW := Lib.hid (fun W (hc : Chg [] wr W) => joinWith_spec_any (txtL l) ⟨#[59, 32]⟩ _ wr.heap.size W (by rw [txtL_len]; omega) (by decide) (by have := HS.out.1; omega) (hn.chg0 hc (Nat.le_refl _)) hc.size)
          clear hn
          go_wp2_with fail
          refine (JW.out _ (Chg.refl _ _)).mono ?_
          rintro e w4 ⟨rfl, c4⟩
          go_wp2_with fail
          go_ret
          exact ⟨str_ret HE.out.symm, hcg.trans0 c4⟩
  · have IP := Lib.hid ((isPlan_spec_law l u B w hW hr hB).mono (BoolPost.neg hp))
    have HE := Lib.hid (planT_no hp)
    obtain ⟨A, cap, rfl, _, _, _⟩ := actions_row hr
    clear hp hr hW
    go_enter Tryz.func37, Tryz.ntmps37
    go_wp2_with fail
    refine IP.out.mono ?_
    rintro e w1 ⟨rfl, c1⟩
    go_wp2_with fail
    go_ret
    exact ⟨str_ret HE.out.symm, c1⟩
end Go.Proofs.YtkgffhlpcjjobaaGreatDoor
namespace Go.Proofs.YtkgffhlpcjjobaaGreatDoor
open Go.RowKit

theorem blkT_pos {L : List ByteArray} (h : L.length ≠ 0) : blkT L = ⟨#[123, 32]⟩ ++ joinB L ⟨#[59, 32]⟩ ++ ⟨#[32, 125]⟩ := by
  cases L with
  | nil => exact absurd rfl h
  | cons x r => rfl
theorem blkT_nil {L : List ByteArray} (h : L.length = 0) : blkT L = ⟨#[123, 32, 125]⟩ := by
  cases L with
  | nil => rfl
  | cons x r => simp at h
/-- planText of a list is known. -/
def TextI (l : List ActionT) : Prop := ∀ (u : Value) (B : Nat) (w : World), EnvT w → okL l → sizeL l ≤ 14 → actionsW l ≤ 1048576 → Rd w B (actions l) u → B ≤ w.heap.size →
    Calls Tryz.prog 30 #[u] w (StrPost (joinB (txtL l) ⟨#[59, 32]⟩) w)
set_option maxRecDepth 100000 in
set_option maxHeartbeats 4000000 in
theorem blockText_of {l : List ActionT} (hT : TextI l) (u : Value) (B : Nat) (w : World) (hE : EnvT w) (hok : okL l) (hz : sizeL l ≤ 14) (hW : actionsW l ≤ 1048576) (hr : Rd w B (actions l) u) (hB : B ≤ w.heap.size) :
    Calls Tryz.prog 94 #[u] w (StrPost (blkT (txtL l)) w) := by
  have HT := Lib.hid (hT u B w hE hok hz hW hr hB)
  have hjs := joinB_small (plan_small hok hz hW)
  obtain ⟨A, cap, rfl, h0, h1, _⟩ := actions_row hr
  unfold maxLen at h1
  clear hT hE hok hz hW hr hB
  by_cases hz0 : l.length = 0
  · have HE := Lib.hid (blkT_nil (L := txtL l) (by rw [txtL_len]; exact hz0))
    clear HT hjs
    go_enter Tryz.func94, Tryz.ntmps94
    go_wp2_with fail
    go_ret
    exact ⟨str_ret HE.out.symm, Chg.refl _ _⟩
  · have hz1 : ¬ l = [] := fun e => hz0 (by rw [e]; rfl)
    have hz2 : ((l.length : Int) == 0) = false := by simpa using hz1
    have HE := Lib.hid (blkT_pos (L := txtL l) (by rw [txtL_len]; exact hz0))
    obtain ⟨J, hJ⟩ : ∃ J, J = joinB (txtL l) ⟨#[59, 32]⟩ := ⟨_, rfl⟩
    rw [← hJ] at HT HE hjs
    obtain ⟨x1, hx1⟩ : ∃ x, x = (⟨#[123, 32]⟩ : ByteArray) ++ J := ⟨_, rfl⟩
    obtain ⟨x2, hx2⟩ : ∃ x, x = x1 ++ (⟨#[32, 125]⟩ : ByteArray) := ⟨_, rfl⟩
    rw [← hx1, ← hx2] at HE
    have e1 : (⟨#[123, 32]⟩ : ByteArray).size = 2 := rfl
    have e2 : (⟨#[32, 125]⟩ : ByteArray).size = 2 := rfl
    have z1 := cat_sz hx1
    have k1 := cat_is (P := Tryz.prog) hx1 (by omega)
    have k2 := cat_is (P := Tryz.prog) hx2 (by omega)
    clear hx1 hx2 hJ e1 e2 z1 hjs
    go_enter Tryz.func94, Tryz.ntmps94
    go_wp2_with fail
    refine HT.out.mono ?_
    rintro e w1 ⟨rfl, c1⟩
    go_wp2_with fail
    go_ret
    exact ⟨str_ret HE.out.symm, c1⟩
/-- The text of one of the actions of a list. -/
theorem lineI_in {l : List ActionT} (ih : ∀ a ∈ l, TextI a.A ∧ TextI a.B) (hok : okL l) (hz : sizeL l ≤ 14) (hW : actionsW l ≤ 1048576) {w : World} {B : Nat} (hE : EnvT w) (hB : B ≤ w.heap.size) {a : ActionT} (ha : a ∈ l) {A1 A2 : Option Addr} {c1 c2 : Nat} (rA : Rd w B (actions a.A) (.slice A1 a.A.length c1)) (rB : Rd w B (actions a.B) (.slice A2 a.B.length c2)) (W : World) (hc : Chg [] w W) :
    Calls Tryz.prog 60 #[.agg #[.int .i64 a.op, .int .i64 a.slot, .int .i64 a.other, .string a.word, .string a.call.method, .string a.call.key, .int .i64 a.call.value, .string a.call.text, .int .i64 a.face, .slice A1 a.A.length c1, .slice A2 a.B.length c2]] W (StrPost a.txt W) := by
  have hao := (okL_iff l).1 hok a ha
  have haz := Nat.le_trans (sizeL_mem ha) hz
  have haw : actionW a ≤ 1048576 := by have := actionsW_mem ha; unfold actionsW at hW; omega
  obtain ⟨⟨a1, a2, a3⟩, b1, b2, b3⟩ := sub_small hao haz haw
  exact actionText_any a A1 A2 c1 c2 W hao haz haw (hE.keep hc)
    (fun V hV => blockText_of (ih a ha).1 _ B V (hE.keep (hc.trans0 hV)) a1 a2 a3 (rA.chg0 (hc.trans0 hV) hB) (Nat.le_trans hB (hc.trans0 hV).size))
    (fun V hV => blockText_of (ih a ha).2 _ B V (hE.keep (hc.trans0 hV)) b1 b2 b3 (rB.chg0 (hc.trans0 hV) hB) (Nat.le_trans hB (hc.trans0 hV).size))
set_option maxRecDepth 100000 in
set_option maxHeartbeats 4000000 in
theorem planText_all : ∀ l, TextI l := by
  refine ActionT.ind fun l ih => ?_
  intro u B w hE hok hz hW hr hB
  obtain ⟨A, cap, rfl, h0, h1, hrow⟩ := actions_row hr
  unfold maxLen at h1
  have HS := Lib.hid (plan_small hok hz hW)
  have hll := HS.out.2
  have LL := Lib.hid (fun (W0 : World) (hc : Chg [] w W0) (a : ActionT) (ha : a ∈ l) (A1 A2 : Option Addr) (c1 c2 : Nat) (rA : Rd W0 B (actions a.A) (.slice A1 a.A.length c1)) (rB : Rd W0 B (actions a.B) (.slice A2 a.B.length c2)) (W : World) (hW0 : Chg [] W0 W) => lineI_in ih hok hz hW (hE.keep hc) (Nat.le_trans hB hc.size) ha rA rB W hW0)
  clear ih hr hok hz hW hE
  go_enter Tryz.func30, Tryz.ntmps30
  go_wp2_with fail
  go_loopw [3, 8] (fun v i wr => ∃ (k : Nat) (A' : Option Addr) (cap' : Nat), k ≤ l.length ∧ i = .int .i64 k ∧ v = .slice A' k cap' ∧ App w wr 9 1 (.slice A' k cap') k (((l.take k).map ActionT.txt).flatMap strC)) (fun _ i _ => l.length - (intOf i).toNat)
  case atStart => exact ⟨0, _, 0, Nat.zero_le _, rfl, rfl, App.nil w _ _ (Chg.refl _ _)⟩
  case round =>
    obtain ⟨k, A', cap', hk, rfl, rfl, hh⟩ := hrel
    have hcg : Chg [] w wr := hh.chg
    by_cases hlt : k < l.length
    · obtain ⟨b, off, uA, uB, rfl, hb, q0, q1, q2, q3, q4, q5, q6, q7, q8, q9, q10, rA, rB⟩ := actions_cells (hrow.chg0 hcg hB) k hlt
      obtain ⟨A1, cap1, rfl, _, _, _⟩ := actions_row rA
      obtain ⟨A2, cap2, rfl, _, _, _⟩ := actions_row rB
      have hmem := List.getElem_mem hlt
      have hsz := hcg.size
      have LN := Lib.hid (fun W (hc : Chg [] wr W) => LL.out _ hcg _ hmem _ _ _ _ rA rB W hc)
      obtain ⟨y, hy⟩ : ∃ y, y = l[k].txt := ⟨_, rfl⟩
      rw [← hy] at LN
      have HY := Lib.hid hy
      clear hy rA rB hmem
      go_wp2_with fail
      refine (LN.out _ ((Chg.refl _ _).alloc _)).mono ?_
      rintro e w2 ⟨rfl, c2⟩
      have d2 : Chg [] wr w2 := Chg.trans0 ((Chg.refl _ _).alloc _) c2
      go_wp2_with (at_builtin; refine wpList_app rfl (.tmp 12) (.tmp 15) _ rfl 9 _ 1 16 Tryz.underlying61 string_info rfl (by omega) hh (us := [.string y]) (dsE := strC y) ⟨[], HasL.cons_v (HasL.nil _), by simp, d2.alloc _⟩ rfl w2.heap.size 1 rfl rfl (by intro j u hj; cases j with | zero => cases hj; go_simp | succ j => simp at hj) (by intro u hu; simp at hu; subst hu; rfl) (by omega) (by omega) ?_; intro A3 cap3 w3 hA3)
      go_roundw
      case rel => exact ⟨k + 1, A3, cap3, by omega, by go_num, by go_num, by rw [List.take_succ_eq_append_getElem hlt, List.map_append, List.flatMap_append]; rw [HY.out] at hA3; simpa using hA3⟩
      case measure => simp [intOf]; omega
    · obtain rfl : k = l.length := by omega
      rw [List.take_length] at hh
      have hn : Rd wr wr.heap.size (strs (txtL l)) (.slice A' l.length cap') := by have := hh.new.rd; rw [txtL_map]; unfold strs; rw [List.length_map]; exact this
      clear hh LL
      have JW := Lib.hid (fun W (hc : Chg [] wr W) => joinWith_impl_any (txtL l) ⟨#[59, 32]⟩ _ wr.heap.size W (by rw [txtL_len]; omega) (by decide) (by have := HS.out.1; omega) (hn.chg0 hc (Nat.le_refl _)) hc.size)
      clear hn
      go_wp2_with fail
      refine (JW.out _ (Chg.refl _ _)).mono ?_
      rintro e w4 ⟨rfl, c4⟩
      go_wp2_with fail
      go_ret
      exact ⟨rfl, hcg.trans0 c4⟩
set_option maxRecDepth 100000 in
set_option maxHeartbeats 4000000 in
theorem formatPlan_impl_any {w : World} (hE : EnvT w) (l : List ActionT) (u : Value) (B : Nat) (hW : actionsW l ≤ 1048576) (hr : Rd w B (actions l) u) (hB : B ≤ w.heap.size) :
    Calls Tryz.prog 10 #[u] w (StrPost (planT l) w) := by
  by_cases hp : PlanOk l
  · have IP := Lib.hid ((isPlan_impl_any l u B w hE.1 hW hr hB).mono (BoolPost.pos hp))
    have PT := Lib.hid (fun W (hc : Chg [] w W) => planText_all l u B W (hE.keep hc) hp.2.2 hp.1 hW (hr.chg0 hc hB) (Nat.le_trans hB hc.size))
    obtain ⟨A, cap, rfl, h0, h1, _⟩ := actions_row hr
    unfold maxLen at h1
    by_cases hz0 : l.length = 0
    · have HE := Lib.hid (planT_nil hp hz0)
      have hz3 := Lib.hid hz0
      have hz4 : ((l.length : Int) == 0) = true := by simp [hz0]
      clear hp hr hW hE PT hz0
      go_enter Tryz.func10, Tryz.ntmps10
      go_wp2_with fail
      refine IP.out.mono ?_
      rintro e w1 ⟨rfl, c1⟩
      have hz0 := hz3.out
      go_wp2_with fail
      go_ret
      exact ⟨str_ret HE.out.symm, c1⟩
    · have hz1 : ¬ l = [] := fun e => hz0 (by rw [e]; rfl)
      have hz2 : ((l.length : Int) == 0) = false := by simpa using hz1
      have HE := Lib.hid (planT_pos hp hz0)
      clear hp hr hW hE
      go_enter Tryz.func10, Tryz.ntmps10
      go_wp2_with fail
      refine IP.out.mono ?_
      rintro e w1 ⟨rfl, c1⟩
      go_wp2_with fail
      refine (PT.out _ c1).mono ?_
      rintro e w2 ⟨rfl, c2⟩
      go_wp2_with fail
      go_ret
      exact ⟨str_ret HE.out.symm, c1.trans0 c2⟩
  · have IP := Lib.hid ((isPlan_impl_any l u B w hE.1 hW hr hB).mono (BoolPost.neg hp))
    have HE := Lib.hid (planT_no hp)
    obtain ⟨A, cap, rfl, _, _, _⟩ := actions_row hr
    clear hp hr hW hE
    go_enter Tryz.func10, Tryz.ntmps10
    go_wp2_with fail
    refine IP.out.mono ?_
    rintro e w1 ⟨rfl, c1⟩
    go_wp2_with fail
    go_ret
    exact ⟨str_ret HE.out.symm, c1⟩
end Go.Proofs.YtkgffhlpcjjobaaGreatDoor
