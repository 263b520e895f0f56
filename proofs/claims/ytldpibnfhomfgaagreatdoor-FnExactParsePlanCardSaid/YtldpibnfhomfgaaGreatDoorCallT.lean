/- The text of a call: FormatCall of both packages. Conditions: for the program's, the library's variables stand. -/
import Derived.Test.YtldpibnfhomfgaaGreatDoorCallR
import Derived.Test.YtldpibnfhomfgaaGreatDoorNumsI
import Derived.Deep.RegionHeld3
namespace Go.Proofs.YtldpibnfhomfgaaGreatDoor
open Go.RowKit

open Classical in
/-- The text of a call. -/
noncomputable def callT (x : CallT) : ByteArray :=
  if CallOk x then
    if x.method = mPut then ⟨#[80, 117, 116, 32]⟩ ++ x.key ++ ⟨#[32]⟩ ++ numT x.value
    else if x.method = mGet then ⟨#[71, 101, 116, 32]⟩ ++ x.key
    else if x.method = mHear then ⟨#[72, 101, 97, 114, 32]⟩ ++ numT x.value
    else if x.method = mLoad then ⟨#[76, 111, 97, 100, 32]⟩ ++ x.text
    else x.method
  else ⟨#[]⟩
theorem callT_no {x : CallT} (h : ¬ CallOk x) : callT x = ⟨#[]⟩ := by unfold callT; rw [if_neg h]
theorem callT_put {x : CallT} (h : CallOk x) (hm : x.method = mPut) : callT x = ⟨#[80, 117, 116, 32]⟩ ++ x.key ++ ⟨#[32]⟩ ++ numT x.value := by unfold callT; rw [if_pos h, if_pos hm]
theorem callT_get {x : CallT} (h : CallOk x) (hm : x.method = mGet) : callT x = ⟨#[71, 101, 116, 32]⟩ ++ x.key := by
  unfold callT; rw [if_pos h, if_neg (by rw [hm]; decide), if_pos hm]
theorem callT_hear {x : CallT} (h : CallOk x) (hm : x.method = mHear) : callT x = ⟨#[72, 101, 97, 114, 32]⟩ ++ numT x.value := by
  unfold callT; rw [if_pos h, if_neg (by rw [hm]; decide), if_neg (by rw [hm]; decide), if_pos hm]
theorem callT_load {x : CallT} (h : CallOk x) (hm : x.method = mLoad) : callT x = ⟨#[76, 111, 97, 100, 32]⟩ ++ x.text := by
  unfold callT; rw [if_pos h, if_neg (by rw [hm]; decide), if_neg (by rw [hm]; decide), if_neg (by rw [hm]; decide), if_pos hm]
theorem callT_other {x : CallT} (h : CallOk x) (hm : x.method ≠ mGet ∧ x.method ≠ mPut ∧ x.method ≠ mHear ∧ x.method ≠ mLoad) : callT x = x.method := by
  unfold callT; rw [if_pos h, if_neg hm.2.1, if_neg hm.1, if_neg hm.2.2.1, if_neg hm.2.2.2]
theorem callOk_value {x : CallT} (h : CallOk x) : 0 ≤ x.value ∧ x.value ≤ 999 := by
  obtain ⟨_, _, h⟩ := h
  unfold IsNum at h
  rcases h with h | h | h | h <;> omega
theorem callT_size {x : CallT} : (callT x).size ≤ callW x + 1048600 := by
  by_cases h : CallOk x
  · have hv := callOk_value h
    have hn := numT_size (n := x.value) (by omega) (by omega)
    unfold callW
    rcases methCases x.method with ⟨hm, _⟩ | ⟨hm, _⟩ | ⟨hm, _⟩ | ⟨hm, _⟩ | ⟨hm, _⟩
    · rw [callT_get h hm, ByteArray.size_append]
      have e : (⟨#[71, 101, 116, 32]⟩ : ByteArray).size = 4 := rfl
      omega
    · rw [callT_put h hm, ByteArray.size_append, ByteArray.size_append, ByteArray.size_append]
      have e : (⟨#[80, 117, 116, 32]⟩ : ByteArray).size = 4 := rfl
      have e2 : (⟨#[32]⟩ : ByteArray).size = 1 := rfl
      omega
    · rw [callT_hear h hm, ByteArray.size_append]
      have e : (⟨#[72, 101, 97, 114, 32]⟩ : ByteArray).size = 5 := rfl
      omega
    · rw [callT_load h hm, ByteArray.size_append]
      have e : (⟨#[76, 111, 97, 100, 32]⟩ : ByteArray).size = 5 := rfl
      omega
    · rw [callT_other h hm]; omega
  · rw [callT_no h]
    have e : (⟨#[]⟩ : ByteArray).size = 0 := rfl
    omega
set_option maxRecDepth 100000 in
set_option maxHeartbeats 4000000 in
theorem formatCall_spec_any (x : CallT) (w : World) (hk : x.key.size ≤ 1048576) (hx : x.text.size ≤ 1048576) :
    Calls Tryz.prog 38 #[.agg #[.string x.method, .string x.key, .int .i64 x.value, .string x.text]] w (StrPost (callT x) w) := by
  by_cases hok : CallOk x
  · have IC := Lib.hid (fun W => (isCall_spec_any x W hk).mono (BoolPost.pos hok))
    have hv := callOk_value hok
    have FN := Lib.hid (fun W (_ : Chg [] w W) => formatNumber_spec_any x.value W (by omega) (by omega))
    have hn := numT_size (n := x.value) (by omega) (by omega)
    have e1 : (⟨#[80, 117, 116, 32]⟩ : ByteArray).size = 4 := rfl
    have e2 : (⟨#[32]⟩ : ByteArray).size = 1 := rfl
    have e3 : (⟨#[71, 101, 116, 32]⟩ : ByteArray).size = 4 := rfl
    have e4 : (⟨#[72, 101, 97, 114, 32]⟩ : ByteArray).size = 5 := rfl
    have e5 : (⟨#[76, 111, 97, 100, 32]⟩ : ByteArray).size = 5 := rfl
    obtain ⟨n, hnn⟩ : ∃ n, n = numT x.value := ⟨_, rfl⟩
    rw [← hnn] at FN hn
    rcases methCases x.method with ⟨hm, m1, m2, m3, m4⟩ | ⟨hm, m1, m2, m3, m4⟩ | ⟨hm, m1, m2, m3, m4⟩ | ⟨hm, m1, m2, m3, m4⟩ | ⟨hm, m1, m2, m3, m4⟩
    · obtain ⟨y, hy⟩ : ∃ y, y = callT x := ⟨_, rfl⟩
      have hy2 := hy.trans (callT_get hok hm)
      rw [← hy]
      have k1 := cat_is (P := Tryz.prog) hy2 (by omega)
      clear hy hy2 hok hm hv e1 e2 e3 e4 e5 hnn
      go_enter Tryz.func38, Tryz.ntmps38
      go_wp2_with fail
      refine (IC.out _).mono ?_
      rintro e w1 ⟨rfl, c1⟩
      have p0 : w1.cell? ⟨w.heap.size, 0, none⟩ = some (.string x.method) := (c1.cell (p := ⟨w.heap.size, 0, none⟩) (by simp) (by simp)).trans (by go_simp)
      have p1 : w1.cell? ⟨w.heap.size, 1, none⟩ = some (.string x.key) := (c1.cell (p := ⟨w.heap.size, 1, none⟩) (by simp) (by simp)).trans (by go_simp)
      have p2 : w1.cell? ⟨w.heap.size, 2, none⟩ = some (.int .i64 x.value) := (c1.cell (p := ⟨w.heap.size, 2, none⟩) (by simp) (by simp)).trans (by go_simp)
      have p3 : w1.cell? ⟨w.heap.size, 3, none⟩ = some (.string x.text) := (c1.cell (p := ⟨w.heap.size, 3, none⟩) (by simp) (by simp)).trans (by go_simp)
      have hlt : w.heap.size < w1.heap.size := by have := c1.size; simp at this; omega
      have d1 : Chg [] w w1 := ((Chg.refl _ _).alloc _).trans0 c1
      clear c1
      go_wp2_with fail
      go_ret
      exact ⟨rfl, d1⟩
    · obtain ⟨y, hy⟩ : ∃ y, y = callT x := ⟨_, rfl⟩
      have hy2 := hy.trans (callT_put hok hm)
      rw [← hy]
      rw [← hnn] at hy2
      obtain ⟨x1, hx1⟩ : ∃ z, z = ⟨#[80, 117, 116, 32]⟩ ++ x.key := ⟨_, rfl⟩
      obtain ⟨x2, hx2⟩ : ∃ z, z = x1 ++ ⟨#[32]⟩ := ⟨_, rfl⟩
      rw [← hx1, ← hx2] at hy2
      have z1 : x1.size = 4 + x.key.size := by rw [hx1, ByteArray.size_append, e1]
      have z2 : x2.size = x1.size + 1 := by rw [hx2, ByteArray.size_append, e2]
      have k1 := cat_is (P := Tryz.prog) hx1 (by omega)
      have k2 := cat_is (P := Tryz.prog) hx2 (by omega)
      have k3 := cat_is (P := Tryz.prog) hy2 (by omega)
      clear hy hy2 hx1 hx2 z1 z2 hok hm hv e1 e2 e3 e4 e5 hnn
      go_enter Tryz.func38, Tryz.ntmps38
      go_wp2_with fail
      refine (IC.out _).mono ?_
      rintro e w1 ⟨rfl, c1⟩
      have p0 : w1.cell? ⟨w.heap.size, 0, none⟩ = some (.string x.method) := (c1.cell (p := ⟨w.heap.size, 0, none⟩) (by simp) (by simp)).trans (by go_simp)
      have p1 : w1.cell? ⟨w.heap.size, 1, none⟩ = some (.string x.key) := (c1.cell (p := ⟨w.heap.size, 1, none⟩) (by simp) (by simp)).trans (by go_simp)
      have p2 : w1.cell? ⟨w.heap.size, 2, none⟩ = some (.int .i64 x.value) := (c1.cell (p := ⟨w.heap.size, 2, none⟩) (by simp) (by simp)).trans (by go_simp)
      have p3 : w1.cell? ⟨w.heap.size, 3, none⟩ = some (.string x.text) := (c1.cell (p := ⟨w.heap.size, 3, none⟩) (by simp) (by simp)).trans (by go_simp)
      have hlt : w.heap.size < w1.heap.size := by have := c1.size; simp at this; omega
      have d1 : Chg [] w w1 := ((Chg.refl _ _).alloc _).trans0 c1
      clear c1
      go_wp2_with fail
      go_region_held3 (fun w' => w'.cell? ⟨w.heap.size, 1, none⟩ = some (.string x.key) ∧ w'.cell? ⟨w.heap.size, 2, none⟩ = some (.int .i64 x.value) ∧ w.heap.size < w'.heap.size ∧ Chg [] w w') (first | exact ⟨p1, p2, hlt, d1.drew⟩ | exact ⟨(c1.cell E3 (by simp)).trans E1, (c1.cell E3 (by simp)).trans E2, by have := c1.size; omega, E4.trans0 c1⟩) (first | (go_at_call 36; obtain ⟨E1, E2, E3, E4⟩ := ‹_ ∧ _ ∧ _ ∧ Chg [] w _›; (with_reducible refine (FN.out _ E4).mono ?_); rintro e w1 ⟨rfl, c1⟩))
      obtain ⟨_, _, _, E⟩ := ‹_ ∧ _ ∧ _ ∧ Chg [] w _›
      go_wp2_with fail
      go_ret
      exact ⟨rfl, E⟩
    · obtain ⟨y, hy⟩ : ∃ y, y = callT x := ⟨_, rfl⟩
      have hy2 := hy.trans (callT_hear hok hm)
      rw [← hy]
      rw [← hnn] at hy2
      have k1 := cat_is (P := Tryz.prog) hy2 (by omega)
      clear hy hy2 hok hm hv e1 e2 e3 e4 e5 hnn
      go_enter Tryz.func38, Tryz.ntmps38
      go_wp2_with fail
      refine (IC.out _).mono ?_
      rintro e w1 ⟨rfl, c1⟩
      have p0 : w1.cell? ⟨w.heap.size, 0, none⟩ = some (.string x.method) := (c1.cell (p := ⟨w.heap.size, 0, none⟩) (by simp) (by simp)).trans (by go_simp)
      have p1 : w1.cell? ⟨w.heap.size, 1, none⟩ = some (.string x.key) := (c1.cell (p := ⟨w.heap.size, 1, none⟩) (by simp) (by simp)).trans (by go_simp)
      have p2 : w1.cell? ⟨w.heap.size, 2, none⟩ = some (.int .i64 x.value) := (c1.cell (p := ⟨w.heap.size, 2, none⟩) (by simp) (by simp)).trans (by go_simp)
      have p3 : w1.cell? ⟨w.heap.size, 3, none⟩ = some (.string x.text) := (c1.cell (p := ⟨w.heap.size, 3, none⟩) (by simp) (by simp)).trans (by go_simp)
      have hlt : w.heap.size < w1.heap.size := by have := c1.size; simp at this; omega
      have d1 : Chg [] w w1 := ((Chg.refl _ _).alloc _).trans0 c1
      clear c1
      go_wp2_with fail
      refine (FN.out _ d1).mono ?_
      rintro e w2 ⟨rfl, c2⟩
      go_wp2_with fail
      go_ret
      exact ⟨rfl, d1.trans0 c2⟩
    · obtain ⟨y, hy⟩ : ∃ y, y = callT x := ⟨_, rfl⟩
      have hy2 := hy.trans (callT_load hok hm)
      rw [← hy]
      have k1 := cat_is (P := Tryz.prog) hy2 (by omega)
      clear hy hy2 hok hm hv e1 e2 e3 e4 e5 hnn
      go_enter Tryz.func38, Tryz.ntmps38
      go_wp2_with fail
      refine (IC.out _).mono ?_
      rintro e w1 ⟨rfl, c1⟩
      have p0 : w1.cell? ⟨w.heap.size, 0, none⟩ = some (.string x.method) := (c1.cell (p := ⟨w.heap.size, 0, none⟩) (by simp) (by simp)).trans (by go_simp)
      have p1 : w1.cell? ⟨w.heap.size, 1, none⟩ = some (.string x.key) := (c1.cell (p := ⟨w.heap.size, 1, none⟩) (by simp) (by simp)).trans (by go_simp)
      have p2 : w1.cell? ⟨w.heap.size, 2, none⟩ = some (.int .i64 x.value) := (c1.cell (p := ⟨w.heap.size, 2, none⟩) (by simp) (by simp)).trans (by go_simp)
      have p3 : w1.cell? ⟨w.heap.size, 3, none⟩ = some (.string x.text) := (c1.cell (p := ⟨w.heap.size, 3, none⟩) (by simp) (by simp)).trans (by go_simp)
      have hlt : w.heap.size < w1.heap.size := by have := c1.size; simp at this; omega
      have d1 : Chg [] w w1 := ((Chg.refl _ _).alloc _).trans0 c1
      clear c1
      go_wp2_with fail
      go_ret
      exact ⟨rfl, d1⟩
    · have HY := Lib.hid (callT_other hok hm)
      clear hok hm hv e1 e2 e3 e4 e5 hnn
      go_enter Tryz.func38, Tryz.ntmps38
      go_wp2_with fail
      refine (IC.out _).mono ?_
      rintro e w1 ⟨rfl, c1⟩
      have p0 : w1.cell? ⟨w.heap.size, 0, none⟩ = some (.string x.method) := (c1.cell (p := ⟨w.heap.size, 0, none⟩) (by simp) (by simp)).trans (by go_simp)
      have p1 : w1.cell? ⟨w.heap.size, 1, none⟩ = some (.string x.key) := (c1.cell (p := ⟨w.heap.size, 1, none⟩) (by simp) (by simp)).trans (by go_simp)
      have p2 : w1.cell? ⟨w.heap.size, 2, none⟩ = some (.int .i64 x.value) := (c1.cell (p := ⟨w.heap.size, 2, none⟩) (by simp) (by simp)).trans (by go_simp)
      have p3 : w1.cell? ⟨w.heap.size, 3, none⟩ = some (.string x.text) := (c1.cell (p := ⟨w.heap.size, 3, none⟩) (by simp) (by simp)).trans (by go_simp)
      have hlt : w.heap.size < w1.heap.size := by have := c1.size; simp at this; omega
      have d1 : Chg [] w w1 := ((Chg.refl _ _).alloc _).trans0 c1
      clear c1
      go_wp2_with fail
      go_ret
      exact ⟨str_ret HY.out.symm, d1⟩
  · have IC := Lib.hid (fun W => (isCall_spec_any x W hk).mono (BoolPost.neg hok))
    have HY := Lib.hid (callT_no hok)
    clear hok
    go_enter Tryz.func38, Tryz.ntmps38
    go_wp2_with fail
    refine (IC.out _).mono ?_
    rintro e w1 ⟨rfl, c1⟩
    go_wp2_with fail
    go_ret
    exact ⟨str_ret HY.out.symm, ((Chg.refl _ _).alloc _).trans0 c1⟩
set_option maxRecDepth 100000 in
set_option maxHeartbeats 4000000 in
theorem formatCall_impl_any (x : CallT) (w : World) (hk : x.key.size ≤ 1048576) (hx : x.text.size ≤ 1048576) (hE : Env w) :
    Calls Tryz.prog 69 #[.agg #[.string x.method, .string x.key, .int .i64 x.value, .string x.text]] w (StrPost (callT x) w) := by
  by_cases hok : CallOk x
  · have IC := Lib.hid (fun W => (isCall_impl_any x W hk).mono (BoolPost.pos hok))
    have hv := callOk_value hok
    have FN := Lib.hid (fun W (hc : Chg [] w W) => formatNumber_impl_any x.value W (by omega) (by omega) (hE.pow.keep hc))
    have hn := numT_size (n := x.value) (by omega) (by omega)
    have e1 : (⟨#[80, 117, 116, 32]⟩ : ByteArray).size = 4 := rfl
    have e2 : (⟨#[32]⟩ : ByteArray).size = 1 := rfl
    have e3 : (⟨#[71, 101, 116, 32]⟩ : ByteArray).size = 4 := rfl
    have e4 : (⟨#[72, 101, 97, 114, 32]⟩ : ByteArray).size = 5 := rfl
    have e5 : (⟨#[76, 111, 97, 100, 32]⟩ : ByteArray).size = 5 := rfl
    obtain ⟨n, hnn⟩ : ∃ n, n = numT x.value := ⟨_, rfl⟩
    rw [← hnn] at FN hn
    rcases methCases x.method with ⟨hm, m1, m2, m3, m4⟩ | ⟨hm, m1, m2, m3, m4⟩ | ⟨hm, m1, m2, m3, m4⟩ | ⟨hm, m1, m2, m3, m4⟩ | ⟨hm, m1, m2, m3, m4⟩
    · obtain ⟨y, hy⟩ : ∃ y, y = callT x := ⟨_, rfl⟩
      have hy2 := hy.trans (callT_get hok hm)
      rw [← hy]
      have k1 := cat_is (P := Tryz.prog) hy2 (by omega)
      clear hy hy2 hok hm hv e1 e2 e3 e4 e5 hnn
      go_enter Tryz.func69, Tryz.ntmps69
      go_wp2_with fail
      refine (IC.out _).mono ?_
      rintro e w1 ⟨rfl, c1⟩
      have p0 : w1.cell? ⟨w.heap.size, 0, none⟩ = some (.string x.method) := (c1.cell (p := ⟨w.heap.size, 0, none⟩) (by simp) (by simp)).trans (by go_simp)
      have p1 : w1.cell? ⟨w.heap.size, 1, none⟩ = some (.string x.key) := (c1.cell (p := ⟨w.heap.size, 1, none⟩) (by simp) (by simp)).trans (by go_simp)
      have p2 : w1.cell? ⟨w.heap.size, 2, none⟩ = some (.int .i64 x.value) := (c1.cell (p := ⟨w.heap.size, 2, none⟩) (by simp) (by simp)).trans (by go_simp)
      have p3 : w1.cell? ⟨w.heap.size, 3, none⟩ = some (.string x.text) := (c1.cell (p := ⟨w.heap.size, 3, none⟩) (by simp) (by simp)).trans (by go_simp)
      have hlt : w.heap.size < w1.heap.size := by have := c1.size; simp at this; omega
      have d1 : Chg [] w w1 := ((Chg.refl _ _).alloc _).trans0 c1
      clear c1
      go_wp2_with fail
      go_ret
      exact ⟨rfl, d1⟩
    · obtain ⟨y, hy⟩ : ∃ y, y = callT x := ⟨_, rfl⟩
      have hy2 := hy.trans (callT_put hok hm)
      rw [← hy]
      rw [← hnn] at hy2
      obtain ⟨x1, hx1⟩ : ∃ z, z = ⟨#[80, 117, 116, 32]⟩ ++ x.key := ⟨_, rfl⟩
      obtain ⟨x2, hx2⟩ : ∃ z, z = x1 ++ ⟨#[32]⟩ := ⟨_, rfl⟩
      rw [← hx1, ← hx2] at hy2
      have z1 : x1.size = 4 + x.key.size := by rw [hx1, ByteArray.size_append, e1]
      have z2 : x2.size = x1.size + 1 := by rw [hx2, ByteArray.size_append, e2]
      have k1 := cat_is (P := Tryz.prog) hx1 (by omega)
      have k2 := cat_is (P := Tryz.prog) hx2 (by omega)
      have k3 := cat_is (P := Tryz.prog) hy2 (by omega)
      clear hy hy2 hx1 hx2 z1 z2 hok hm hv e1 e2 e3 e4 e5 hnn
      go_enter Tryz.func69, Tryz.ntmps69
      go_wp2_with fail
      refine (IC.out _).mono ?_
      rintro e w1 ⟨rfl, c1⟩
      have p0 : w1.cell? ⟨w.heap.size, 0, none⟩ = some (.string x.method) := (c1.cell (p := ⟨w.heap.size, 0, none⟩) (by simp) (by simp)).trans (by go_simp)
      have p1 : w1.cell? ⟨w.heap.size, 1, none⟩ = some (.string x.key) := (c1.cell (p := ⟨w.heap.size, 1, none⟩) (by simp) (by simp)).trans (by go_simp)
      have p2 : w1.cell? ⟨w.heap.size, 2, none⟩ = some (.int .i64 x.value) := (c1.cell (p := ⟨w.heap.size, 2, none⟩) (by simp) (by simp)).trans (by go_simp)
      have p3 : w1.cell? ⟨w.heap.size, 3, none⟩ = some (.string x.text) := (c1.cell (p := ⟨w.heap.size, 3, none⟩) (by simp) (by simp)).trans (by go_simp)
      have hlt : w.heap.size < w1.heap.size := by have := c1.size; simp at this; omega
      have d1 : Chg [] w w1 := ((Chg.refl _ _).alloc _).trans0 c1
      clear c1
      go_wp2_with fail
      go_region_held3 (fun w' => w'.cell? ⟨w.heap.size, 1, none⟩ = some (.string x.key) ∧ w'.cell? ⟨w.heap.size, 2, none⟩ = some (.int .i64 x.value) ∧ w.heap.size < w'.heap.size ∧ Chg [] w w') (first | exact ⟨p1, p2, hlt, d1.drew⟩ | exact ⟨(c1.cell E3 (by simp)).trans E1, (c1.cell E3 (by simp)).trans E2, by have := c1.size; omega, E4.trans0 c1⟩) (first | (go_at_call 67; obtain ⟨E1, E2, E3, E4⟩ := ‹_ ∧ _ ∧ _ ∧ Chg [] w _›; (with_reducible refine (FN.out _ E4).mono ?_); rintro e w1 ⟨rfl, c1⟩))
      obtain ⟨_, _, _, E⟩ := ‹_ ∧ _ ∧ _ ∧ Chg [] w _›
      go_wp2_with fail
      go_ret
      exact ⟨rfl, E⟩
    · obtain ⟨y, hy⟩ : ∃ y, y = callT x := ⟨_, rfl⟩
      have hy2 := hy.trans (callT_hear hok hm)
      rw [← hy]
      rw [← hnn] at hy2
      have k1 := cat_is (P := Tryz.prog) hy2 (by omega)
      clear hy hy2 hok hm hv e1 e2 e3 e4 e5 hnn
      go_enter Tryz.func69, Tryz.ntmps69
      go_wp2_with fail
      refine (IC.out _).mono ?_
      rintro e w1 ⟨rfl, c1⟩
      have p0 : w1.cell? ⟨w.heap.size, 0, none⟩ = some (.string x.method) := (c1.cell (p := ⟨w.heap.size, 0, none⟩) (by simp) (by simp)).trans (by go_simp)
      have p1 : w1.cell? ⟨w.heap.size, 1, none⟩ = some (.string x.key) := (c1.cell (p := ⟨w.heap.size, 1, none⟩) (by simp) (by simp)).trans (by go_simp)
      have p2 : w1.cell? ⟨w.heap.size, 2, none⟩ = some (.int .i64 x.value) := (c1.cell (p := ⟨w.heap.size, 2, none⟩) (by simp) (by simp)).trans (by go_simp)
      have p3 : w1.cell? ⟨w.heap.size, 3, none⟩ = some (.string x.text) := (c1.cell (p := ⟨w.heap.size, 3, none⟩) (by simp) (by simp)).trans (by go_simp)
      have hlt : w.heap.size < w1.heap.size := by have := c1.size; simp at this; omega
      have d1 : Chg [] w w1 := ((Chg.refl _ _).alloc _).trans0 c1
      clear c1
      go_wp2_with fail
      refine (FN.out _ d1).mono ?_
      rintro e w2 ⟨rfl, c2⟩
      go_wp2_with fail
      go_ret
      exact ⟨rfl, d1.trans0 c2⟩
    · obtain ⟨y, hy⟩ : ∃ y, y = callT x := ⟨_, rfl⟩
      have hy2 := hy.trans (callT_load hok hm)
      rw [← hy]
      have k1 := cat_is (P := Tryz.prog) hy2 (by omega)
      clear hy hy2 hok hm hv e1 e2 e3 e4 e5 hnn
      go_enter Tryz.func69, Tryz.ntmps69
      go_wp2_with fail
      refine (IC.out _).mono ?_
      rintro e w1 ⟨rfl, c1⟩
      have p0 : w1.cell? ⟨w.heap.size, 0, none⟩ = some (.string x.method) := (c1.cell (p := ⟨w.heap.size, 0, none⟩) (by simp) (by simp)).trans (by go_simp)
      have p1 : w1.cell? ⟨w.heap.size, 1, none⟩ = some (.string x.key) := (c1.cell (p := ⟨w.heap.size, 1, none⟩) (by simp) (by simp)).trans (by go_simp)
      have p2 : w1.cell? ⟨w.heap.size, 2, none⟩ = some (.int .i64 x.value) := (c1.cell (p := ⟨w.heap.size, 2, none⟩) (by simp) (by simp)).trans (by go_simp)
      have p3 : w1.cell? ⟨w.heap.size, 3, none⟩ = some (.string x.text) := (c1.cell (p := ⟨w.heap.size, 3, none⟩) (by simp) (by simp)).trans (by go_simp)
      have hlt : w.heap.size < w1.heap.size := by have := c1.size; simp at this; omega
      have d1 : Chg [] w w1 := ((Chg.refl _ _).alloc _).trans0 c1
      clear c1
      go_wp2_with fail
      go_ret
      exact ⟨rfl, d1⟩
    · have HY := Lib.hid (callT_other hok hm)
      clear hok hm hv e1 e2 e3 e4 e5 hnn
      go_enter Tryz.func69, Tryz.ntmps69
      go_wp2_with fail
      refine (IC.out _).mono ?_
      rintro e w1 ⟨rfl, c1⟩
      have p0 : w1.cell? ⟨w.heap.size, 0, none⟩ = some (.string x.method) := (c1.cell (p := ⟨w.heap.size, 0, none⟩) (by simp) (by simp)).trans (by go_simp)
      have p1 : w1.cell? ⟨w.heap.size, 1, none⟩ = some (.string x.key) := (c1.cell (p := ⟨w.heap.size, 1, none⟩) (by simp) (by simp)).trans (by go_simp)
      have p2 : w1.cell? ⟨w.heap.size, 2, none⟩ = some (.int .i64 x.value) := (c1.cell (p := ⟨w.heap.size, 2, none⟩) (by simp) (by simp)).trans (by go_simp)
      have p3 : w1.cell? ⟨w.heap.size, 3, none⟩ = some (.string x.text) := (c1.cell (p := ⟨w.heap.size, 3, none⟩) (by simp) (by simp)).trans (by go_simp)
      have hlt : w.heap.size < w1.heap.size := by have := c1.size; simp at this; omega
      have d1 : Chg [] w w1 := ((Chg.refl _ _).alloc _).trans0 c1
      clear c1
      go_wp2_with fail
      go_ret
      exact ⟨str_ret HY.out.symm, d1⟩
  · have IC := Lib.hid (fun W => (isCall_impl_any x W hk).mono (BoolPost.neg hok))
    have HY := Lib.hid (callT_no hok)
    clear hok
    go_enter Tryz.func69, Tryz.ntmps69
    go_wp2_with fail
    refine (IC.out _).mono ?_
    rintro e w1 ⟨rfl, c1⟩
    go_wp2_with fail
    go_ret
    exact ⟨str_ret HY.out.symm, ((Chg.refl _ _).alloc _).trans0 c1⟩
end Go.Proofs.YtldpibnfhomfgaaGreatDoor
