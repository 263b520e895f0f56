/- How a run has ended, as a text: endText of the program, EndLine of both packages. Conditions: for the program's, the table of powers of ten and the names of the abilities stand in their variables. -/
import Derived.Test.YtapmknkelihacaaDoorFaceT
import Derived.Test.YtapmknkelihacaaDoorNumI
import Derived.Test.YtapmknkelihacaaDoorShapes
import Derived.Test.YtapmknkelihacaaDoorAppK
import Derived.Test.YtapmknkelihacaaDoorTEnd
import Derived.Deep.RegionHeld3
namespace Go.Proofs.YtapmknkelihacaaDoor
open Go.RowKit

/-- How a run has ended. -/
def endT (code place want had : Int) : ByteArray :=
  if code = 1 then ⟨#[112, 108, 97, 99, 101, 32]⟩ ++ numT place ++ ⟨#[32, 119, 97, 110, 116, 115, 32]⟩ ++ faceT want ++ ⟨#[32, 111, 102, 32]⟩ ++ faceT had
  else if code = 2 then ⟨#[112, 108, 97, 99, 101, 32]⟩ ++ numT place ++ ⟨#[32, 101, 109, 112, 116, 121]⟩
  else if code = 3 then ⟨#[98, 97, 100]⟩ else ⟨#[111, 107]⟩
def dash (s : ByteArray) : ByteArray := if s.size = 0 then ⟨#[45]⟩ else s
def dashes (l : List SlotT) : List ByteArray := (shapes l).map dash
def lineT (code place want had : Int) (l : List SlotT) : ByteArray := endT code place want had ++ ⟨#[58, 32]⟩ ++ joinB (dashes l) ⟨#[44, 32]⟩
theorem dash_size (s : ByteArray) : (dash s).size ≤ s.size + 1 := by
  unfold dash
  split
  · have e : (⟨#[45]⟩ : ByteArray).size = 1 := rfl
    omega
  · omega
theorem dash_pos {s : ByteArray} (h : (s.toList == []) = false) : dash s = s := by
  unfold dash
  rw [if_neg]
  intro h0
  have : s.toList = [] := by
    rw [ByteArray.toList_eq]
    exact List.eq_nil_of_length_eq_zero h0
  rw [this] at h; simp at h
theorem dash_nil {s : ByteArray} (h : (s.toList == []) = true) : dash s = ⟨#[45]⟩ := by
  unfold dash
  rw [if_pos]
  have h1 : s.toList = [] := by simpa using h
  rw [ByteArray.toList_eq] at h1
  exact congrArg List.length h1
theorem shape_W (s : SlotT) : (shapeOf s).size ≤ partW s.part + 16 + 1 * s.part.layers.length := by
  unfold shapeOf
  split
  · have h1 := recipe_W s.part
    unfold recipe at h1 ⊢
    rw [joinB_size]
    unfold strsW at h1
    have e : (⟨#[32]⟩ : ByteArray).size = 1 := rfl
    rw [e]
    simp only [List.length_cons, List.length_map] at h1 ⊢
    omega
  · have e : (⟨#[]⟩ : ByteArray).size = 0 := rfl
    omega
theorem endT_size (code place want had : Int) (h0 : -9223372036854775808 ≤ place) (h1 : place ≤ 9223372036854775807) : (endT code place want had).size ≤ 2097152 := by
  have h2 := numT_size h0 h1
  have h3 := faceT_size want
  have h4 := faceT_size had
  unfold endT
  split
  · simp only [ByteArray.size_append]
    have e1 : (⟨#[112, 108, 97, 99, 101, 32]⟩ : ByteArray).size = 6 := rfl
    have e2 : (⟨#[32, 119, 97, 110, 116, 115, 32]⟩ : ByteArray).size = 7 := rfl
    have e3 : (⟨#[32, 111, 102, 32]⟩ : ByteArray).size = 4 := rfl
    omega
  · split
    · simp only [ByteArray.size_append]
      have e1 : (⟨#[112, 108, 97, 99, 101, 32]⟩ : ByteArray).size = 6 := rfl
      have e2 : (⟨#[32, 101, 109, 112, 116, 121]⟩ : ByteArray).size = 6 := rfl
      omega
    · split <;> decide
theorem dashes_W (l : List SlotT) : (dashes l).length = l.length ∧ strsW1 (dashes l) ≤ 40 * slotsW l := by
  constructor
  · simp [dashes, shapes]
  · unfold dashes shapes strsW1 slotsW slotsW1
    induction l with
    | nil => simp
    | cons a l ih =>
      simp only [List.map_cons, List.sum_cons, List.length_cons] at ih ⊢
      have h1 := dash_size (shapeOf a)
      have h2 := shape_W a
      have h3 : a.part.layers.length ≤ partW a.part := by unfold partW layersW; omega
      have h4 : slotW a = partW a.part := rfl
      omega
/-- Two texts joined, as a fact for a walk. -/
theorem cat_run {P : Program} {a b x : ByteArray} (hx : x = a ++ b) (h : a.size + b.size ≤ 9223372036854775807) (W : World) : (Op.stringOp .add a b).run P W = .ok (.string x) W := by
  rw [hx]; exact run_string_add_sum _ _ _ h
theorem cat_size {a b x : ByteArray} (hx : x = a ++ b) : x.size = a.size + b.size := by rw [hx, ByteArray.size_append]
set_option maxRecDepth 100000 in
set_option maxHeartbeats 4000000 in
theorem endText_any (code place want had : Int) (w : World) (h0 : -9223372036854775808 ≤ place) (h1 : place ≤ 9223372036854775807) (hp : PowAt w) (ha : AbilAt w) :
    Calls Tryd.prog 27 #[.agg #[.int .i64 code, .int .i64 place, .int .i64 want, .int .i64 had]] w (StrPost (endT code place want had) w) := by
  have NP := Lib.hid (fun W (hc : Chg [] w W) => formatNumber_impl_any place W h0 h1 (hp.keep hc))
  have FW := Lib.hid (fun W (hc : Chg [] w W) => formatFace_impl_any want W (ha.keep hc))
  have FH := Lib.hid (fun W (hc : Chg [] w W) => formatFace_impl_any had W (ha.keep hc))
  have s1 := numT_size h0 h1
  have s2 := faceT_size want
  have s3 := faceT_size had
  obtain ⟨n, hn⟩ : ∃ n, n = numT place := ⟨_, rfl⟩
  obtain ⟨fw, hfw⟩ : ∃ n, n = faceT want := ⟨_, rfl⟩
  obtain ⟨fh, hfh⟩ : ∃ n, n = faceT had := ⟨_, rfl⟩
  rw [← hn] at s1 NP
  rw [← hfw] at s2 FW
  rw [← hfh] at s3 FH
  have HN := Lib.hid hn; have HW := Lib.hid hfw; have HH := Lib.hid hfh
  clear hn hfw hfh hp ha h0 h1
  by_cases c1 : code = 1
  · subst c1
    have e1 : (⟨#[112, 108, 97, 99, 101, 32]⟩ : ByteArray).size = 6 := rfl
    have e2 : (⟨#[32, 119, 97, 110, 116, 115, 32]⟩ : ByteArray).size = 7 := rfl
    have e3 : (⟨#[32, 111, 102, 32]⟩ : ByteArray).size = 4 := rfl
    obtain ⟨x1, hx1⟩ : ∃ x, x = ⟨#[112, 108, 97, 99, 101, 32]⟩ ++ n := ⟨_, rfl⟩
    obtain ⟨x2, hx2⟩ : ∃ x, x = x1 ++ ⟨#[32, 119, 97, 110, 116, 115, 32]⟩ := ⟨_, rfl⟩
    obtain ⟨x3, hx3⟩ : ∃ x, x = x2 ++ fw := ⟨_, rfl⟩
    obtain ⟨x4, hx4⟩ : ∃ x, x = x3 ++ ⟨#[32, 111, 102, 32]⟩ := ⟨_, rfl⟩
    obtain ⟨x5, hx5⟩ : ∃ x, x = x4 ++ fh := ⟨_, rfl⟩
    have z1 := cat_size hx1; have z2 := cat_size hx2; have z3 := cat_size hx3; have z4 := cat_size hx4
    have k1 := cat_run (P := Tryd.prog) hx1 (by omega)
    have k2 := cat_run (P := Tryd.prog) hx2 (by omega)
    have k3 := cat_run (P := Tryd.prog) hx3 (by omega)
    have k4 := cat_run (P := Tryd.prog) hx4 (by omega)
    have k5 := cat_run (P := Tryd.prog) hx5 (by omega)
    have HE : Hid (endT 1 place want had = x5) := by
      show _ = _
      rw [hx5, hx4, hx3, hx2, hx1]
      unfold endT; rw [if_pos rfl, HN.out, HW.out, HH.out]
    clear hx1 hx2 hx3 hx4 hx5 z1 z2 z3 z4 e1 e2 e3 s1 s2 s3
    go_enter Tryd.func27, Tryd.ntmps27
    go_wp2_with fail
    go_region_held3 (fun w' => w'.cell? ⟨w.heap.size, 1, none⟩ = some (.int .i64 place) ∧ w'.cell? ⟨w.heap.size, 2, none⟩ = some (.int .i64 want) ∧ w'.cell? ⟨w.heap.size, 3, none⟩ = some (.int .i64 had) ∧ w.heap.size < w'.heap.size ∧ Chg [] w w') (first | exact ⟨by go_simp, by go_simp, by go_simp, by simp, ((Chg.refl _ _).alloc _).drew⟩ | exact ⟨(c1.cell E4 (by simp)).trans E1, (c1.cell E4 (by simp)).trans E2, (c1.cell E4 (by simp)).trans E3, by have := c1.size; omega, E5.trans0 c1⟩) (first | (go_at_call 41; obtain ⟨E1, E2, E3, E4, E5⟩ := ‹_ ∧ _ ∧ _ ∧ _ ∧ Chg [] w _›; (with_reducible refine (NP.out _ E5).mono ?_); rintro e w1 ⟨rfl, c1⟩) | (go_at_call 42; obtain ⟨E1, E2, E3, E4, E5⟩ := ‹_ ∧ _ ∧ _ ∧ _ ∧ Chg [] w _›; (with_reducible refine (FW.out _ E5).mono ?_); rintro e w1 ⟨rfl, c1⟩) | (go_at_call 42; obtain ⟨E1, E2, E3, E4, E5⟩ := ‹_ ∧ _ ∧ _ ∧ _ ∧ Chg [] w _›; (with_reducible refine (FH.out _ E5).mono ?_); rintro e w1 ⟨rfl, c1⟩))
    obtain ⟨_, _, _, _, E⟩ := ‹_ ∧ _ ∧ _ ∧ _ ∧ Chg [] w _›
    go_wp2_with fail
    go_ret
    exact ⟨str_ret HE.out.symm, E⟩
  · have c1f : (code == 1) = false := by simpa using c1
    by_cases c2 : code = 2
    · subst c2
      have HE : Hid (endT 2 place want had = ⟨#[112, 108, 97, 99, 101, 32]⟩ ++ n ++ ⟨#[32, 101, 109, 112, 116, 121]⟩) := by
        show _ = _
        unfold endT; rw [if_neg (by decide), if_pos rfl, HN.out]
      clear c1f
      go_enter Tryd.func27, Tryd.ntmps27
      go_wp2_with fail
      refine (NP.out _ ((Chg.refl _ _).alloc _)).mono ?_
      rintro e w1 ⟨rfl, k1⟩
      go_wp2_with fail
      go_ret
      exact ⟨str_ret HE.out.symm, ((Chg.refl _ _).alloc _).trans0 k1⟩
    · have c2f : (code == 2) = false := by simpa using c2
      by_cases c3 : code = 3
      · subst c3
        clear c1f c2f
        go_enter Tryd.func27, Tryd.ntmps27
        go_wp2_with fail
        go_ret
        exact ⟨str_ret rfl, (Chg.refl _ _).alloc _⟩
      · have c3f : (code == 3) = false := by simpa using c3
        have HE : Hid (endT code place want had = ⟨#[111, 107]⟩) := by
          show _ = _
          unfold endT; rw [if_neg c1, if_neg c2, if_neg c3]
        clear c1 c2 c3
        go_enter Tryd.func27, Tryd.ntmps27
        go_wp2_with fail
        go_ret
        exact ⟨str_ret HE.out.symm, (Chg.refl _ _).alloc _⟩
set_option maxRecDepth 100000 in
set_option maxHeartbeats 4000000 in
theorem endLine_impl_any (code place want had : Int) (l : List SlotT) (u : Value) (B : Nat) (w : World) (h0 : -9223372036854775808 ≤ place) (h1 : place ≤ 9223372036854775807) (hp : PowAt w) (ha : AbilAt w) (hl : slotsW l ≤ 1048576) (hr : Rd w B (slots l) u) (hB : B ≤ w.heap.size) :
    Calls Tryd.prog 14 #[.agg #[.int .i64 code, .int .i64 place, .int .i64 want, .int .i64 had], u] w (StrPost (lineT code place want had l) w) := by
  have SH := Lib.hid (fun W (hc : Chg [] w W) => shapesOf_impl_any l u B W hl (hr.chg0 hc hB) (Nat.le_trans hB hc.size))
  have ET := Lib.hid (fun W (hc : Chg [] w W) => endText_any code place want had W h0 h1 (hp.keep hc) (ha.keep hc))
  have hes := endT_size code place want had h0 h1
  have hdw := dashes_W l
  have hll : l.length ≤ 1048576 := by unfold slotsW at hl; omega
  obtain ⟨A0, cap0, rfl, _, _, _⟩ := slots_row hr
  clear hr hp ha h0 h1
  obtain ⟨L, hL⟩ : ∃ L, L = shapes l := ⟨_, rfl⟩
  have hLl : L.length = l.length := by rw [hL]; simp [shapes]
  have hLd : L.map dash = dashes l := by rw [hL]; rfl
  rw [← hL] at SH
  obtain ⟨E, hE⟩ : ∃ E, E = endT code place want had := ⟨_, rfl⟩
  rw [← hE] at ET hes
  have HL : Hid (lineT code place want had l = E ++ ⟨#[58, 32]⟩ ++ joinB (L.map dash) ⟨#[44, 32]⟩) := by show _ = _; rw [hE, hLd]; rfl
  rw [← hLd] at hdw
  have HD : Hid ((L.map dash).length ≤ 1048576 ∧ strsW1 (L.map dash) ≤ 41943040) := ⟨by rw [List.length_map]; omega, by have := hdw.2; omega⟩
  have hLb : L.length ≤ 1048576 := by omega
  clear hE hL hLd hdw hLl hll
  go_enter Tryd.func14, Tryd.ntmps14
  go_wp2_with fail
  refine (SH.out _ ((Chg.refl _ _).alloc _)).mono ?_
  intro e w1 G1
  obtain ⟨A1, cap1, rfl, n1⟩ := G1.sl
  have c1 := n1.chg
  have d1 : Chg [] w w1 := ((Chg.refl [] w).alloc _).trans0 c1
  have p0 : w1.cell? ⟨w.heap.size, 0, none⟩ = some (.int .i64 code) := (c1.cell (p := ⟨w.heap.size, 0, none⟩) (by simp) (by simp)).trans (by go_simp)
  have p1 : w1.cell? ⟨w.heap.size, 1, none⟩ = some (.int .i64 place) := (c1.cell (p := ⟨w.heap.size, 1, none⟩) (by simp) (by simp)).trans (by go_simp)
  have p2 : w1.cell? ⟨w.heap.size, 2, none⟩ = some (.int .i64 want) := (c1.cell (p := ⟨w.heap.size, 2, none⟩) (by simp) (by simp)).trans (by go_simp)
  have p3 : w1.cell? ⟨w.heap.size, 3, none⟩ = some (.int .i64 had) := (c1.cell (p := ⟨w.heap.size, 3, none⟩) (by simp) (by simp)).trans (by go_simp)
  have hlt1 : w.heap.size < w1.heap.size := by have := c1.size; simp at this; omega
  obtain ⟨_, _, e9, _, _, hrow⟩ := strs_row n1.rd
  cases e9
  clear c1 n1
  go_wp2_with fail
  go_loopw [5, 11] (fun v i wr => ∃ (k : Nat) (A' : Option Addr) (cap' : Nat), k ≤ L.length ∧ i = .int .i64 k ∧ v = .slice A' k cap' ∧ App w1 wr 9 1 (.slice A' k cap') k (((L.take k).map dash).flatMap strC)) (fun _ i _ => L.length - (intOf i).toNat)
  case atStart => exact ⟨0, _, 0, Nat.zero_le _, rfl, rfl, App.nil w1 _ _ (Chg.refl _ _)⟩
  case round =>
    obtain ⟨k, A', cap', hk, rfl, rfl, hh⟩ := hrel
    by_cases hlt : k < L.length
    · obtain ⟨b, off, rfl, hb, q0⟩ := strs_cells (hrow.chg0 hh.chg (Nat.le_refl _)) k hlt
      have hsz := hh.chg.size
      cases hz : (L[k].toList == [])
      · have hd := dash_pos hz
        obtain ⟨y, hy⟩ : ∃ y, y = dash L[k] := ⟨_, rfl⟩
        have HY := Lib.hid hy
        rw [hd] at hy
        rw [← hy] at q0 hz
        clear hd hy
        go_wp2_with (at_builtin; refine wpList_app rfl (.tmp 17) (.tmp 19) _ rfl 9 _ 1 16 Tryd.underlying22 string_info rfl (by omega) hh (us := [.string y]) (dsE := strC y) ⟨[], HasL.cons_v (HasL.nil _), by simp, (Chg.refl _ _).alloc _⟩ rfl wr.heap.size 1 rfl rfl (by intro j u hj; cases j with | zero => cases hj; go_simp | succ j => simp at hj) (by intro u hu; simp at hu; subst hu; rfl) (by omega) (by omega) ?_; intro A2 cap2 w3 hA2)
        go_roundw
        case rel => exact ⟨k + 1, A2, cap2, by omega, by go_num, by go_num, by rw [List.take_succ_eq_append_getElem hlt, List.map_append, List.flatMap_append]; rw [HY.out] at hA2; simpa using hA2⟩
        case measure => simp [intOf]; omega
      · have HY := Lib.hid (dash_nil hz)
        go_wp2_with (at_builtin; refine wpList_app rfl (.tmp 17) (.tmp 19) _ rfl 9 _ 1 16 Tryd.underlying22 string_info rfl (by omega) hh (us := [.string ⟨#[45]⟩]) (dsE := strC ⟨#[45]⟩) ⟨[], HasL.cons_v (HasL.nil _), by simp, (Chg.refl _ _).alloc _⟩ rfl wr.heap.size 1 rfl rfl (by intro j u hj; cases j with | zero => cases hj; go_simp | succ j => simp at hj) (by intro u hu; simp at hu; subst hu; rfl) (by omega) (by omega) ?_; intro A2 cap2 w3 hA2)
        go_roundw
        case rel => exact ⟨k + 1, A2, cap2, by omega, by go_num, by go_num, by rw [List.take_succ_eq_append_getElem hlt, List.map_append, List.flatMap_append]; rw [← HY.out] at hA2; simpa using hA2⟩
        case measure => simp [intOf]; omega
    · obtain rfl : k = L.length := by omega
      rw [List.take_length] at hh
      have hcg := hh.chg
      have hsz := hcg.size
      have hn : Rd wr wr.heap.size (strs (L.map dash)) (.slice A' L.length cap') := by have := hh.new.rd; unfold strs; rw [List.length_map]; exact this
      clear hh
      have r0 := (hcg.cell (p := ⟨w.heap.size, 0, none⟩) hlt1 (by simp)).trans p0
      have r1 := (hcg.cell (p := ⟨w.heap.size, 1, none⟩) hlt1 (by simp)).trans p1
      have r2 := (hcg.cell (p := ⟨w.heap.size, 2, none⟩) hlt1 (by simp)).trans p2
      have r3 := (hcg.cell (p := ⟨w.heap.size, 3, none⟩) hlt1 (by simp)).trans p3
      have dr : Chg [] w wr := d1.trans0 hcg
      obtain ⟨J, hJ⟩ : ∃ J, J = joinB (L.map dash) ⟨#[44, 32]⟩ := ⟨_, rfl⟩
      have hjl : J.size ≤ 8 * 1048576 + 41943040 := by rw [hJ]; exact joinB_size_le _ _ _ _ (by decide) HD.out.1 HD.out.2
      have JW := Lib.hid (fun W (hc : Chg [] wr W) => joinWith_impl_any (L.map dash) ⟨#[44, 32]⟩ _ wr.heap.size W (Nat.le_trans HD.out.1 (by decide)) (by decide) (Nat.le_trans HD.out.2 (by decide)) (hn.chg0 hc (Nat.le_refl _)) hc.size)
      rw [← hJ] at JW
      have e1 : (⟨#[58, 32]⟩ : ByteArray).size = 2 := rfl
      obtain ⟨x1, hx1⟩ : ∃ x, x = E ++ ⟨#[58, 32]⟩ := ⟨_, rfl⟩
      obtain ⟨x2, hx2⟩ : ∃ x, x = x1 ++ J := ⟨_, rfl⟩
      have z1 := cat_size hx1
      have k1 := cat_run (P := Tryd.prog) hx1 (by omega)
      have k2 := cat_run (P := Tryd.prog) hx2 (by omega)
      have HX : Hid (x2 = lineT code place want had l) := by show _ = _; rw [hx2, hx1, hJ, HL.out]
      clear hx1 hx2 hJ z1 hn hjl
      go_wp2_with fail
      refine (ET.out _ dr).mono ?_
      rintro e w4 ⟨rfl, c4⟩
      go_wp2_with fail
      refine (JW.out _ c4).mono ?_
      rintro e w5 ⟨rfl, c5⟩
      go_wp2_with fail
      go_ret
      exact ⟨str_ret HX.out, (dr.trans0 c4).trans0 c5⟩
set_option maxRecDepth 100000 in
set_option maxHeartbeats 4000000 in
theorem endLine_spec_any (code place want had : Int) (l : List SlotT) (u : Value) (B : Nat) (w : World) (h0 : -9223372036854775808 ≤ place) (h1 : place ≤ 9223372036854775807) (hl : slotsW l ≤ 1048576) (hr : Rd w B (slots l) u) (hB : B ≤ w.heap.size) :
    Calls Tryd.prog 11 #[.agg #[.int .i64 code, .int .i64 place, .int .i64 want, .int .i64 had], u] w (StrPost (lineT code place want had l) w) := by
  have SH := Lib.hid (fun W (hc : Chg [] w W) => shapesOf_spec_any l u B W hl (hr.chg0 hc hB) (Nat.le_trans hB hc.size))
  have NP := Lib.hid (fun W => formatNumber_spec_any place W h0 h1)
  have FW := Lib.hid (fun W => formatFace_spec_any want W)
  have FH := Lib.hid (fun W => formatFace_spec_any had W)
  have hes := endT_size code place want had h0 h1
  have s1 := numT_size h0 h1
  have s2 := faceT_size want
  have s3 := faceT_size had
  have hdw := dashes_W l
  have hll : l.length ≤ 1048576 := by unfold slotsW at hl; omega
  obtain ⟨A0, cap0, rfl, _, _, _⟩ := slots_row hr
  clear hr h0 h1
  obtain ⟨L, hL⟩ : ∃ L, L = shapes l := ⟨_, rfl⟩
  have hLl : L.length = l.length := by rw [hL]; simp [shapes]
  have hLd : L.map dash = dashes l := by rw [hL]; rfl
  rw [← hL] at SH
  obtain ⟨E, hE⟩ : ∃ E, E = endT code place want had := ⟨_, rfl⟩
  rw [← hE] at hes
  have HL : Hid (lineT code place want had l = E ++ ⟨#[58, 32]⟩ ++ joinB (L.map dash) ⟨#[44, 32]⟩) := by show _ = _; rw [hE, hLd]; rfl
  rw [← hLd] at hdw
  have HD : Hid ((L.map dash).length ≤ 1048576 ∧ strsW1 (L.map dash) ≤ 41943040) := ⟨by rw [List.length_map]; omega, by have := hdw.2; omega⟩
  have hLb : L.length ≤ 1048576 := by omega
  clear hL hLd hdw hLl hll
  obtain ⟨n, hn⟩ : ∃ n, n = numT place := ⟨_, rfl⟩
  obtain ⟨fw, hfw⟩ : ∃ n, n = faceT want := ⟨_, rfl⟩
  obtain ⟨fh, hfh⟩ : ∃ n, n = faceT had := ⟨_, rfl⟩
  rw [← hn] at s1 NP
  rw [← hfw] at s2 FW
  rw [← hfh] at s3 FH
  have e1 : (⟨#[112, 108, 97, 99, 101, 32]⟩ : ByteArray).size = 6 := rfl
  have e2 : (⟨#[32, 119, 97, 110, 116, 115, 32]⟩ : ByteArray).size = 7 := rfl
  have e3 : (⟨#[32, 111, 102, 32]⟩ : ByteArray).size = 4 := rfl
  have e4 : (⟨#[32, 101, 109, 112, 116, 121]⟩ : ByteArray).size = 6 := rfl
  obtain ⟨x1, hx1⟩ : ∃ x, x = ⟨#[112, 108, 97, 99, 101, 32]⟩ ++ n := ⟨_, rfl⟩
  obtain ⟨x2, hx2⟩ : ∃ x, x = x1 ++ ⟨#[32, 119, 97, 110, 116, 115, 32]⟩ := ⟨_, rfl⟩
  obtain ⟨x3, hx3⟩ : ∃ x, x = x2 ++ fw := ⟨_, rfl⟩
  obtain ⟨x4, hx4⟩ : ∃ x, x = x3 ++ ⟨#[32, 111, 102, 32]⟩ := ⟨_, rfl⟩
  obtain ⟨x5, hx5⟩ : ∃ x, x = x4 ++ fh := ⟨_, rfl⟩
  obtain ⟨x6, hx6⟩ : ∃ x, x = x1 ++ ⟨#[32, 101, 109, 112, 116, 121]⟩ := ⟨_, rfl⟩
  have z1 := cat_size hx1; have z2 := cat_size hx2; have z3 := cat_size hx3; have z4 := cat_size hx4
  have k1 := cat_run (P := Tryd.prog) hx1 (by omega)
  have k2 := cat_run (P := Tryd.prog) hx2 (by omega)
  have k3 := cat_run (P := Tryd.prog) hx3 (by omega)
  have k4 := cat_run (P := Tryd.prog) hx4 (by omega)
  have k5 := cat_run (P := Tryd.prog) hx5 (by omega)
  have k6 := cat_run (P := Tryd.prog) hx6 (by omega)
  have hcases : (code = 1 ∧ E = x5) ∨ (code = 2 ∧ E = x6) ∨ (code = 3 ∧ E = ⟨#[98, 97, 100]⟩) ∨ (((code == 1) = false ∧ (code == 2) = false ∧ (code == 3) = false) ∧ E = ⟨#[111, 107]⟩) := by
    by_cases h1 : code = 1
    · refine .inl ⟨h1, ?_⟩
      rw [hE, hx5, hx4, hx3, hx2, hx1, hn, hfw, hfh]
      unfold endT; rw [if_pos h1]
    · by_cases h2 : code = 2
      · refine .inr (.inl ⟨h2, ?_⟩)
        rw [hE, hx6, hx1, hn]
        unfold endT; rw [if_neg h1, if_pos h2]
      · by_cases h3 : code = 3
        · refine .inr (.inr (.inl ⟨h3, ?_⟩))
          rw [hE]
          unfold endT; rw [if_neg h1, if_neg h2, if_pos h3]
        · refine .inr (.inr (.inr ⟨⟨by simpa using h1, by simpa using h2, by simpa using h3⟩, ?_⟩))
          rw [hE]
          unfold endT; rw [if_neg h1, if_neg h2, if_neg h3]
  have HC := Lib.hid hcases
  obtain ⟨J, hJ⟩ : ∃ J, J = joinB (L.map dash) ⟨#[44, 32]⟩ := ⟨_, rfl⟩
  have hjl : J.size ≤ 8 * 1048576 + 41943040 := by rw [hJ]; exact joinB_size_le _ _ _ _ (by decide) HD.out.1 HD.out.2
  have e5 : (⟨#[58, 32]⟩ : ByteArray).size = 2 := rfl
  obtain ⟨y1, hy1⟩ : ∃ x, x = E ++ ⟨#[58, 32]⟩ := ⟨_, rfl⟩
  obtain ⟨y2, hy2⟩ : ∃ x, x = y1 ++ J := ⟨_, rfl⟩
  have z5 := cat_size hy1
  have k7 := cat_run (P := Tryd.prog) hy1 (by omega)
  have k8 := cat_run (P := Tryd.prog) hy2 (by omega)
  have HX : Hid (y2 = lineT code place want had l) := by show _ = _; rw [hy2, hy1, hJ, HL.out]
  have HJ := Lib.hid hJ
  clear hy1 hy2 hJ z5 hjl e5 hcases
  clear HL hx1 hx2 hx3 hx4 hx5 hx6 z1 z2 z3 z4 e1 e2 e3 e4 s1 s2 s3 hes hE hn hfw hfh
  go_enter Tryd.func11, Tryd.ntmps11
  go_wp2_with fail
  refine (NP.out _).mono ?_
  rintro e w0 ⟨rfl, c0⟩
  have d0 : Chg [] w w0 := ((Chg.refl [] w).alloc _).trans0 c0
  have p0 : w0.cell? ⟨w.heap.size, 0, none⟩ = some (.int .i64 code) := (c0.cell (p := ⟨w.heap.size, 0, none⟩) (by simp) (by simp)).trans (by go_simp)
  have p2 : w0.cell? ⟨w.heap.size, 2, none⟩ = some (.int .i64 want) := (c0.cell (p := ⟨w.heap.size, 2, none⟩) (by simp) (by simp)).trans (by go_simp)
  have p3 : w0.cell? ⟨w.heap.size, 3, none⟩ = some (.int .i64 had) := (c0.cell (p := ⟨w.heap.size, 3, none⟩) (by simp) (by simp)).trans (by go_simp)
  have hlt0 : w.heap.size < w0.heap.size := by have := c0.size; simp at this; omega
  clear c0
  rcases HC.out with ⟨rfl, hE⟩ | ⟨rfl, hE⟩ | ⟨rfl, hE⟩ | ⟨⟨b1, b2, b3⟩, hE⟩
  all_goals
    subst hE
    clear HC
  all_goals first
    | (go_wp2_with fail
       go_region_held3 (fun w' => w'.cell? ⟨w.heap.size, 2, none⟩ = some (.int .i64 want) ∧ w'.cell? ⟨w.heap.size, 3, none⟩ = some (.int .i64 had) ∧ w.heap.size < w'.heap.size ∧ Chg [] w w') (first | exact ⟨p2, p3, hlt0, d0.drew⟩ | exact ⟨(c1.cell E3 (by simp)).trans E1, (c1.cell E3 (by simp)).trans E2, by have := c1.size; omega, E4.trans0 c1⟩) (first | (go_at_call 22; obtain ⟨E1, E2, E3, E4⟩ := ‹_ ∧ _ ∧ _ ∧ Chg [] w _›; (with_reducible refine (FW.out _).mono ?_); rintro e w1 ⟨rfl, c1⟩) | (go_at_call 22; obtain ⟨E1, E2, E3, E4⟩ := ‹_ ∧ _ ∧ _ ∧ Chg [] w _›; (with_reducible refine (FH.out _).mono ?_); rintro e w1 ⟨rfl, c1⟩))
       clear d0
       obtain ⟨_, _, _, d0⟩ := ‹_ ∧ _ ∧ _ ∧ Chg [] w _›)
    | skip
  all_goals
    go_wp2_with fail
    refine (SH.out _ (by first | exact d0 | exact d0.alloc _)).mono ?_
    intro e w1 G1
    obtain ⟨A1, cap1, rfl, n1⟩ := G1.sl
    have c1 := n1.chg
    obtain ⟨wX, SK, hK, dX⟩ : ∃ wX SK, AppK wX w1 9 1 _ 0 [] (strs L) (.slice A1 L.length cap1) SK ∧ Chg [] w wX := ⟨_, _, (AppK.start (App.empty _ 9 1 (Chg.refl _ _)) n1).choose_spec, d0⟩
    clear c1 n1
    go_wp2_with fail
    go_loopw [7, 39] (fun v i wr => ∃ (k : Nat) (A' : Option Addr) (cap' : Nat), k ≤ L.length ∧ i = .int .i64 k ∧ v = .slice A' k cap' ∧ AppK wX wr 9 1 (.slice A' k cap') k (((L.take k).map dash).flatMap strC) (strs L) (.slice A1 L.length cap1) SK) (fun _ i _ => L.length - (intOf i).toNat)
    case atStart => exact ⟨0, _, 0, Nat.zero_le _, rfl, rfl, hK⟩
    case round =>
      obtain ⟨k, A', cap', hk, rfl, rfl, hh⟩ := hrel
      by_cases hlt : k < L.length
      · obtain ⟨_, _, e9, _, _, hrow⟩ := strs_row hh.2.1.rd
        cases e9
        obtain ⟨b, off, rfl, hb, q0⟩ := strs_cells hrow k hlt
        have hsz := hh.1.chg.size
        cases hz : (L[k].toList == [])
        · have hd := dash_pos hz
          obtain ⟨y, hy⟩ : ∃ y, y = dash L[k] := ⟨_, rfl⟩
          have HY := Lib.hid hy
          rw [hd] at hy
          rw [← hy] at q0 hz
          clear hd hy
          go_wp2_with (at_builtin; refine wpList_appK rfl (.tmp 45) (.tmp 47) _ rfl 9 _ 1 16 Tryd.underlying22 string_info rfl (by omega) hh (us := [.string y]) (dsE := strC y) ⟨[], HasL.cons_v (HasL.nil _), by simp, (Chg.refl _ _).alloc _⟩ rfl wr.heap.size 1 rfl rfl (by intro j u hj; cases j with | zero => cases hj; go_simp | succ j => simp at hj) (by intro u hu; simp at hu; subst hu; rfl) (by omega) (by omega) ?_; intro A2 cap2 w3 hA2)
          go_roundw
          case rel => exact ⟨k + 1, A2, cap2, by omega, by go_num, by go_num, by rw [List.take_succ_eq_append_getElem hlt, List.map_append, List.flatMap_append]; rw [HY.out] at hA2; simpa using hA2⟩
          case measure => simp [intOf]; omega
        · have HY := Lib.hid (dash_nil hz)
          go_wp2_with (at_builtin; refine wpList_appK rfl (.tmp 45) (.tmp 47) _ rfl 9 _ 1 16 Tryd.underlying22 string_info rfl (by omega) hh (us := [.string ⟨#[45]⟩]) (dsE := strC ⟨#[45]⟩) ⟨[], HasL.cons_v (HasL.nil _), by simp, (Chg.refl _ _).alloc _⟩ rfl wr.heap.size 1 rfl rfl (by intro j u hj; cases j with | zero => cases hj; go_simp | succ j => simp at hj) (by intro u hu; simp at hu; subst hu; rfl) (by omega) (by omega) ?_; intro A2 cap2 w3 hA2)
          go_roundw
          case rel => exact ⟨k + 1, A2, cap2, by omega, by go_num, by go_num, by rw [List.take_succ_eq_append_getElem hlt, List.map_append, List.flatMap_append]; rw [← HY.out] at hA2; simpa using hA2⟩
          case measure => simp [intOf]; omega
      · obtain rfl : k = L.length := by omega
        rw [List.take_length] at hh
        have hcg := hh.1.chg
        have hsz := hcg.size
        have hn : Rd wr wr.heap.size (strs (L.map dash)) (.slice A' L.length cap') := by have := hh.1.new.rd; unfold strs; rw [List.length_map]; exact this
        clear hh
        have dr : Chg [] w wr := dX.trans0 hcg
        have JW := Lib.hid (fun W (hc : Chg [] wr W) => joinWith_spec_any (L.map dash) ⟨#[44, 32]⟩ _ wr.heap.size W (Nat.le_trans HD.out.1 (by decide)) (by decide) (Nat.le_trans HD.out.2 (by decide)) (hn.chg0 hc (Nat.le_refl _)) hc.size)
        rw [← HJ.out] at JW
        clear hn
        go_wp2_with fail
        refine (JW.out _ (Chg.refl _ _)).mono ?_
        rintro e w5 ⟨rfl, c5⟩
        go_wp2_with fail
        go_ret
        exact ⟨str_ret HX.out, dr.trans0 c5⟩
end Go.Proofs.YtapmknkelihacaaDoor
