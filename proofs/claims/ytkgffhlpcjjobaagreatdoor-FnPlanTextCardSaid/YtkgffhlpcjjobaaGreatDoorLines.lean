/- l8Line of the reference, by kinds of actions. Written by a program. / actionText of the program, by kinds of actions. Written by a program. -/
import Derived.Test.YtkgffhlpcjjobaaGreatDoorWritten
import Derived.Deep.RegionHeld3
import Derived.Test.YtkgffhlpcjjobaaGreatDoorNumsAll
namespace Go.Proofs.YtkgffhlpcjjobaaGreatDoor
open Go.RowKit

theorem cat_sz {a b x : ByteArray} (hx : x = a ++ b) : x.size = a.size + b.size := by rw [hx, ByteArray.size_append]
theorem wordT_1 : wordT 1 = ⟨#[109, 97, 107, 101]⟩ := rfl
theorem wordT_2 : wordT 2 = ⟨#[119, 114, 97, 112]⟩ := rfl
theorem wordT_3 : wordT 3 = ⟨#[117, 110, 119, 114, 97, 112]⟩ := rfl
theorem wordT_4 : wordT 4 = ⟨#[99, 111, 112, 121]⟩ := rfl
theorem wordT_5 : wordT 5 = ⟨#[100, 114, 111, 112]⟩ := rfl
theorem wordT_6 : wordT 6 = ⟨#[97, 115, 107]⟩ := rfl
theorem wordT_7 : wordT 7 = ⟨#[99, 97, 108, 108]⟩ := rfl
theorem wordT_8 : wordT 8 = ⟨#[105, 102]⟩ := rfl
theorem wordT_9 : wordT 9 = ⟨#[108, 111, 111, 112]⟩ := rfl
theorem wordT_10 : wordT 10 = ⟨#[116, 114, 121]⟩ := rfl
theorem blk_body (l : List ByteArray) : blkT l = ⟨#[123, 32]⟩ ++ bodyT l ++ ⟨#[125]⟩ := by
  cases l with
  | nil => rfl
  | cons x r =>
    unfold blkT bodyT
    rw [show (⟨#[32, 125]⟩ : ByteArray) = ⟨#[32]⟩ ++ ⟨#[125]⟩ from rfl]
    simp only [ByteArray.append_assoc]
theorem act_small {a : ActionT} (hW : actionW a ≤ 1048576) : a.word.size ≤ 1048576 ∧ a.call.key.size ≤ 1048576 ∧ a.call.text.size ≤ 1048576 ∧ callW a.call ≤ 1048576 := by
  have h2 := actionW_eq a
  have h3 : a.call.key.size ≤ callW a.call := by unfold callW; omega
  have h4 : a.call.text.size ≤ callW a.call := by unfold callW; omega
  refine ⟨?_, ?_, ?_, ?_⟩ <;> omega
theorem sub_small {a : ActionT} (hok : a.ok) (hz : a.size ≤ 14) (hW : actionW a ≤ 1048576) : (okL a.A ∧ sizeL a.A ≤ 14 ∧ actionsW a.A ≤ 1048576) ∧ (okL a.B ∧ sizeL a.B ≤ 14 ∧ actionsW a.B ≤ 1048576) := by
  have h1 := (a.ok_iff).1 hok
  have h2 := a.size_eq
  have h3 := actionW_eq a
  refine ⟨⟨h1.2.1, ?_, ?_⟩, h1.2.2, ?_, ?_⟩ <;> omega
theorem body_small {a : ActionT} (hok : a.ok) (hz : a.size ≤ 14) (hW : actionW a ≤ 1048576) : (bodyT (txtL a.A)).size ≤ 67109000 ∧ (bodyT (txtL a.B)).size ≤ 67109000 ∧ (blkT (txtL a.A)).size ≤ 67109000 ∧ (blkT (txtL a.B)).size ≤ 67109000 := by
  obtain ⟨⟨a1, a2, a3⟩, b1, b2, b3⟩ := sub_small hok hz hW
  have sA := plan_small a1 a2 a3
  have sB := plan_small b1 b2 b3
  have k1 := bodyT_size (txtL a.A)
  have k2 := bodyT_size (txtL a.B)
  have k3 := blkT_size (txtL a.A)
  have k4 := blkT_size (txtL a.B)
  rw [txtL_len] at k1 k2 k3 k4
  refine ⟨?_, ?_, ?_, ?_⟩ <;> omega
set_option maxRecDepth 100000 in
set_option maxHeartbeats 8000000 in
theorem l8Line_1 (a : ActionT) (A1 A2 : Option Addr) (c1 c2 : Nat) (w : World) (h : a.op = 1) (hok : a.ok) (hW : actionW a ≤ 1048576) :
    Calls Tryz.prog 66 #[.agg #[.int .i64 a.op, .int .i64 a.slot, .int .i64 a.other, .string a.word, .string a.call.method, .string a.call.key, .int .i64 a.call.value, .string a.call.text, .int .i64 a.face, .slice A1 a.A.length c1, .slice A2 a.B.length c2]] w (StrPost a.txt w) := by
  have sl := ok_slot hok
  have FN := Lib.hid (fun W (_ : Chg [] w W) => formatNumber_spec_any a.slot W (by have := sl.1; omega) (by have := sl.2; omega))
  have ns := numT_size (n := a.slot) (by have := sl.1; omega) (by have := sl.2; omega)
  obtain ⟨n, hn⟩ : ∃ n, n = numT a.slot := ⟨_, rfl⟩
  rw [← hn] at FN ns
  have ac := (act_small hW).1
  obtain ⟨T, hT⟩ : ∃ T, T = a.txt := ⟨_, rfl⟩
  have hT2 := hT.trans (txt_1 (.inl h))
  rw [← hT]
  obtain ⟨x0, hx0⟩ : ∃ x, x = (⟨#[32]⟩ : ByteArray) ++ n := ⟨_, rfl⟩
  obtain ⟨x1, hx1⟩ : ∃ x, x = (⟨#[109, 97, 107, 101]⟩ : ByteArray) ++ x0 := ⟨_, rfl⟩
  obtain ⟨x3, hx3⟩ : ∃ x, x = x1 ++ (⟨#[32]⟩ : ByteArray) := ⟨_, rfl⟩
  obtain ⟨x4, hx4⟩ : ∃ x, x = x3 ++ a.word := ⟨_, rfl⟩
  have ex0 : (⟨#[32]⟩ : ByteArray).size = 1 := rfl
  have ex1 : (⟨#[109, 97, 107, 101]⟩ : ByteArray).size = 4 := rfl
  have ex3 : (⟨#[32]⟩ : ByteArray).size = 1 := rfl
  have zx0 := cat_sz hx0
  have zx1 := cat_sz hx1
  have zx3 := cat_sz hx3
  have zx4 := cat_sz hx4
  have kx0 := cat_is (P := Tryz.prog) hx0 (by omega)
  have kx1 := cat_is (P := Tryz.prog) hx1 (by omega)
  have kx3 := cat_is (P := Tryz.prog) hx3 (by omega)
  have kx4 := cat_is (P := Tryz.prog) hx4 (by omega)
  have HE : Hid (x4 = T) := by
    show _ = _
    rw [hT2, h, wordT_1, hx4, hx3, hx1, hx0, hn]
    try simp only [ByteArray.append_assoc]
  rw [h]
  clear ex0 ex1 ex3 zx0 zx1 zx3 zx4 hx0 hx1 hx3 hx4 hn ns sl hT hT2 hok h ac hW
  go_enter Tryz.func66, Tryz.ntmps66
  go_wp2_with fail
  obtain ⟨wb, hwb⟩ : ∃ wb, wb = w.alloc (.cells #[.int .i64 1, .int .i64 a.slot, .int .i64 a.other, .string a.word, .string a.call.method, .string a.call.key, .int .i64 a.call.value, .string a.call.text, .int .i64 a.face, .slice A1 a.A.length c1, .slice A2 a.B.length c2] 38) := ⟨_, rfl⟩
  have db : Chg [] w wb := hwb ▸ (Chg.refl [] w).alloc _
  have sb : w.heap.size < wb.heap.size := by rw [hwb]; simp
  have v0 : wb.cell? ⟨w.heap.size, 0, none⟩ = some (.int .i64 1) := by rw [hwb]; go_simp
  have v3 : wb.cell? ⟨w.heap.size, 3, none⟩ = some (.string a.word) := by rw [hwb]; go_simp
  rw [← hwb]
  clear hwb
  refine (FN.out _ db).mono ?_
  rintro e w1 ⟨rfl, k1⟩
  have p0 := (k1.cell (p := ⟨w.heap.size, 0, none⟩) sb (by simp)).trans v0
  have p3 := (k1.cell (p := ⟨w.heap.size, 3, none⟩) sb (by simp)).trans v3
  have hlt : w.heap.size < w1.heap.size := by have := k1.size; omega
  have d1 : Chg [] w w1 := db.trans0 k1
  clear k1 v0 v3
  go_wp2_with fail
  go_ret
  exact ⟨str_ret HE.out, d1⟩
set_option maxRecDepth 100000 in
set_option maxHeartbeats 8000000 in
theorem l8Line_2 (a : ActionT) (A1 A2 : Option Addr) (c1 c2 : Nat) (w : World) (h : a.op = 2) (hok : a.ok) (hW : actionW a ≤ 1048576) :
    Calls Tryz.prog 66 #[.agg #[.int .i64 a.op, .int .i64 a.slot, .int .i64 a.other, .string a.word, .string a.call.method, .string a.call.key, .int .i64 a.call.value, .string a.call.text, .int .i64 a.face, .slice A1 a.A.length c1, .slice A2 a.B.length c2]] w (StrPost a.txt w) := by
  have sl := ok_slot hok
  have FN := Lib.hid (fun W (_ : Chg [] w W) => formatNumber_spec_any a.slot W (by have := sl.1; omega) (by have := sl.2; omega))
  have ns := numT_size (n := a.slot) (by have := sl.1; omega) (by have := sl.2; omega)
  obtain ⟨n, hn⟩ : ∃ n, n = numT a.slot := ⟨_, rfl⟩
  rw [← hn] at FN ns
  have ac := (act_small hW).1
  obtain ⟨T, hT⟩ : ∃ T, T = a.txt := ⟨_, rfl⟩
  have hT2 := hT.trans (txt_1 (.inr h))
  rw [← hT]
  obtain ⟨x0, hx0⟩ : ∃ x, x = (⟨#[32]⟩ : ByteArray) ++ n := ⟨_, rfl⟩
  obtain ⟨x1, hx1⟩ : ∃ x, x = (⟨#[119, 114, 97, 112]⟩ : ByteArray) ++ x0 := ⟨_, rfl⟩
  obtain ⟨x3, hx3⟩ : ∃ x, x = x1 ++ (⟨#[32]⟩ : ByteArray) := ⟨_, rfl⟩
  obtain ⟨x4, hx4⟩ : ∃ x, x = x3 ++ a.word := ⟨_, rfl⟩
  have ex0 : (⟨#[32]⟩ : ByteArray).size = 1 := rfl
  have ex1 : (⟨#[119, 114, 97, 112]⟩ : ByteArray).size = 4 := rfl
  have ex3 : (⟨#[32]⟩ : ByteArray).size = 1 := rfl
  have zx0 := cat_sz hx0
  have zx1 := cat_sz hx1
  have zx3 := cat_sz hx3
  have zx4 := cat_sz hx4
  have kx0 := cat_is (P := Tryz.prog) hx0 (by omega)
  have kx1 := cat_is (P := Tryz.prog) hx1 (by omega)
  have kx3 := cat_is (P := Tryz.prog) hx3 (by omega)
  have kx4 := cat_is (P := Tryz.prog) hx4 (by omega)
  have HE : Hid (x4 = T) := by
    show _ = _
    rw [hT2, h, wordT_2, hx4, hx3, hx1, hx0, hn]
    try simp only [ByteArray.append_assoc]
  rw [h]
  clear ex0 ex1 ex3 zx0 zx1 zx3 zx4 hx0 hx1 hx3 hx4 hn ns sl hT hT2 hok h ac hW
  go_enter Tryz.func66, Tryz.ntmps66
  go_wp2_with fail
  obtain ⟨wb, hwb⟩ : ∃ wb, wb = w.alloc (.cells #[.int .i64 2, .int .i64 a.slot, .int .i64 a.other, .string a.word, .string a.call.method, .string a.call.key, .int .i64 a.call.value, .string a.call.text, .int .i64 a.face, .slice A1 a.A.length c1, .slice A2 a.B.length c2] 38) := ⟨_, rfl⟩
  have db : Chg [] w wb := hwb ▸ (Chg.refl [] w).alloc _
  have sb : w.heap.size < wb.heap.size := by rw [hwb]; simp
  have v0 : wb.cell? ⟨w.heap.size, 0, none⟩ = some (.int .i64 2) := by rw [hwb]; go_simp
  have v3 : wb.cell? ⟨w.heap.size, 3, none⟩ = some (.string a.word) := by rw [hwb]; go_simp
  rw [← hwb]
  clear hwb
  refine (FN.out _ db).mono ?_
  rintro e w1 ⟨rfl, k1⟩
  have p0 := (k1.cell (p := ⟨w.heap.size, 0, none⟩) sb (by simp)).trans v0
  have p3 := (k1.cell (p := ⟨w.heap.size, 3, none⟩) sb (by simp)).trans v3
  have hlt : w.heap.size < w1.heap.size := by have := k1.size; omega
  have d1 : Chg [] w w1 := db.trans0 k1
  clear k1 v0 v3
  go_wp2_with fail
  go_ret
  exact ⟨str_ret HE.out, d1⟩
set_option maxRecDepth 100000 in
set_option maxHeartbeats 8000000 in
theorem l8Line_3 (a : ActionT) (A1 A2 : Option Addr) (c1 c2 : Nat) (w : World) (h : a.op = 3) (hok : a.ok) :
    Calls Tryz.prog 66 #[.agg #[.int .i64 a.op, .int .i64 a.slot, .int .i64 a.other, .string a.word, .string a.call.method, .string a.call.key, .int .i64 a.call.value, .string a.call.text, .int .i64 a.face, .slice A1 a.A.length c1, .slice A2 a.B.length c2]] w (StrPost a.txt w) := by
  have sl := ok_slot hok
  have FN := Lib.hid (fun W (_ : Chg [] w W) => formatNumber_spec_any a.slot W (by have := sl.1; omega) (by have := sl.2; omega))
  have ns := numT_size (n := a.slot) (by have := sl.1; omega) (by have := sl.2; omega)
  obtain ⟨n, hn⟩ : ∃ n, n = numT a.slot := ⟨_, rfl⟩
  rw [← hn] at FN ns
  obtain ⟨T, hT⟩ : ∃ T, T = a.txt := ⟨_, rfl⟩
  have hT2 := hT.trans (txt_3 (.inl h))
  rw [← hT]
  obtain ⟨x0, hx0⟩ : ∃ x, x = (⟨#[32]⟩ : ByteArray) ++ n := ⟨_, rfl⟩
  obtain ⟨x1, hx1⟩ : ∃ x, x = (⟨#[117, 110, 119, 114, 97, 112]⟩ : ByteArray) ++ x0 := ⟨_, rfl⟩
  have ex0 : (⟨#[32]⟩ : ByteArray).size = 1 := rfl
  have ex1 : (⟨#[117, 110, 119, 114, 97, 112]⟩ : ByteArray).size = 6 := rfl
  have zx0 := cat_sz hx0
  have zx1 := cat_sz hx1
  have kx0 := cat_is (P := Tryz.prog) hx0 (by omega)
  have kx1 := cat_is (P := Tryz.prog) hx1 (by omega)
  have HE : Hid (x1 = T) := by
    show _ = _
    rw [hT2, h, wordT_3, hx1, hx0, hn]
    try simp only [ByteArray.append_assoc]
  rw [h]
  clear ex0 ex1 zx0 zx1 hx0 hx1 hn ns sl hT hT2 hok h
  go_enter Tryz.func66, Tryz.ntmps66
  go_wp2_with fail
  obtain ⟨wb, hwb⟩ : ∃ wb, wb = w.alloc (.cells #[.int .i64 3, .int .i64 a.slot, .int .i64 a.other, .string a.word, .string a.call.method, .string a.call.key, .int .i64 a.call.value, .string a.call.text, .int .i64 a.face, .slice A1 a.A.length c1, .slice A2 a.B.length c2] 38) := ⟨_, rfl⟩
  have db : Chg [] w wb := hwb ▸ (Chg.refl [] w).alloc _
  have sb : w.heap.size < wb.heap.size := by rw [hwb]; simp
  have v0 : wb.cell? ⟨w.heap.size, 0, none⟩ = some (.int .i64 3) := by rw [hwb]; go_simp
  rw [← hwb]
  clear hwb
  refine (FN.out _ db).mono ?_
  rintro e w1 ⟨rfl, k1⟩
  have p0 := (k1.cell (p := ⟨w.heap.size, 0, none⟩) sb (by simp)).trans v0
  have hlt : w.heap.size < w1.heap.size := by have := k1.size; omega
  have d1 : Chg [] w w1 := db.trans0 k1
  clear k1 v0
  go_wp2_with fail
  go_ret
  exact ⟨str_ret HE.out, d1⟩
set_option maxRecDepth 100000 in
set_option maxHeartbeats 8000000 in
theorem l8Line_4 (a : ActionT) (A1 A2 : Option Addr) (c1 c2 : Nat) (w : World) (h : a.op = 4) (hok : a.ok) :
    Calls Tryz.prog 66 #[.agg #[.int .i64 a.op, .int .i64 a.slot, .int .i64 a.other, .string a.word, .string a.call.method, .string a.call.key, .int .i64 a.call.value, .string a.call.text, .int .i64 a.face, .slice A1 a.A.length c1, .slice A2 a.B.length c2]] w (StrPost a.txt w) := by
  have sl := ok_slot hok
  have FN := Lib.hid (fun W (_ : Chg [] w W) => formatNumber_spec_any a.slot W (by have := sl.1; omega) (by have := sl.2; omega))
  have ns := numT_size (n := a.slot) (by have := sl.1; omega) (by have := sl.2; omega)
  obtain ⟨n, hn⟩ : ∃ n, n = numT a.slot := ⟨_, rfl⟩
  rw [← hn] at FN ns
  have so := ((okS_4 h).1 hok).2.1
  have FO := Lib.hid (fun W (_ : Chg [] w W) => formatNumber_spec_any a.other W (by have := so.1; omega) (by have := so.2; omega))
  have ms := numT_size (n := a.other) (by have := so.1; omega) (by have := so.2; omega)
  obtain ⟨m, hm⟩ : ∃ m, m = numT a.other := ⟨_, rfl⟩
  rw [← hm] at FO ms
  obtain ⟨T, hT⟩ : ∃ T, T = a.txt := ⟨_, rfl⟩
  have hT2 := hT.trans (txt_4 h)
  rw [← hT]
  obtain ⟨x0, hx0⟩ : ∃ x, x = (⟨#[32]⟩ : ByteArray) ++ n := ⟨_, rfl⟩
  obtain ⟨x1, hx1⟩ : ∃ x, x = (⟨#[99, 111, 112, 121]⟩ : ByteArray) ++ x0 := ⟨_, rfl⟩
  obtain ⟨x3, hx3⟩ : ∃ x, x = x1 ++ (⟨#[32, 102, 114, 111, 109, 32]⟩ : ByteArray) := ⟨_, rfl⟩
  obtain ⟨x4, hx4⟩ : ∃ x, x = x3 ++ m := ⟨_, rfl⟩
  have ex0 : (⟨#[32]⟩ : ByteArray).size = 1 := rfl
  have ex1 : (⟨#[99, 111, 112, 121]⟩ : ByteArray).size = 4 := rfl
  have ex3 : (⟨#[32, 102, 114, 111, 109, 32]⟩ : ByteArray).size = 6 := rfl
  have zx0 := cat_sz hx0
  have zx1 := cat_sz hx1
  have zx3 := cat_sz hx3
  have zx4 := cat_sz hx4
  have kx0 := cat_is (P := Tryz.prog) hx0 (by omega)
  have kx1 := cat_is (P := Tryz.prog) hx1 (by omega)
  have kx3 := cat_is (P := Tryz.prog) hx3 (by omega)
  have kx4 := cat_is (P := Tryz.prog) hx4 (by omega)
  have HE : Hid (x4 = T) := by
    show _ = _
    rw [hT2, h, wordT_4, hx4, hx3, hx1, hx0, hn, hm]
    try simp only [ByteArray.append_assoc]
  rw [h]
  clear ex0 ex1 ex3 zx0 zx1 zx3 zx4 hx0 hx1 hx3 hx4 hn hm ns sl hT hT2 hok h ms so
  go_enter Tryz.func66, Tryz.ntmps66
  go_wp2_with fail
  obtain ⟨wb, hwb⟩ : ∃ wb, wb = w.alloc (.cells #[.int .i64 4, .int .i64 a.slot, .int .i64 a.other, .string a.word, .string a.call.method, .string a.call.key, .int .i64 a.call.value, .string a.call.text, .int .i64 a.face, .slice A1 a.A.length c1, .slice A2 a.B.length c2] 38) := ⟨_, rfl⟩
  have db : Chg [] w wb := hwb ▸ (Chg.refl [] w).alloc _
  have sb : w.heap.size < wb.heap.size := by rw [hwb]; simp
  have v0 : wb.cell? ⟨w.heap.size, 0, none⟩ = some (.int .i64 4) := by rw [hwb]; go_simp
  have v2 : wb.cell? ⟨w.heap.size, 2, none⟩ = some (.int .i64 a.other) := by rw [hwb]; go_simp
  rw [← hwb]
  clear hwb
  refine (FN.out _ db).mono ?_
  rintro e w1 ⟨rfl, k1⟩
  have p0 := (k1.cell (p := ⟨w.heap.size, 0, none⟩) sb (by simp)).trans v0
  have p2 := (k1.cell (p := ⟨w.heap.size, 2, none⟩) sb (by simp)).trans v2
  have hlt : w.heap.size < w1.heap.size := by have := k1.size; omega
  have d1 : Chg [] w w1 := db.trans0 k1
  clear k1 v0 v2
  go_wp2_with fail
  refine (FO.out _ d1).mono ?_
  rintro e w2 ⟨rfl, k2⟩
  go_wp2_with fail
  go_ret
  exact ⟨str_ret HE.out, d1.trans0 k2⟩
set_option maxRecDepth 100000 in
set_option maxHeartbeats 8000000 in
theorem l8Line_5 (a : ActionT) (A1 A2 : Option Addr) (c1 c2 : Nat) (w : World) (h : a.op = 5) (hok : a.ok) :
    Calls Tryz.prog 66 #[.agg #[.int .i64 a.op, .int .i64 a.slot, .int .i64 a.other, .string a.word, .string a.call.method, .string a.call.key, .int .i64 a.call.value, .string a.call.text, .int .i64 a.face, .slice A1 a.A.length c1, .slice A2 a.B.length c2]] w (StrPost a.txt w) := by
  have sl := ok_slot hok
  have FN := Lib.hid (fun W (_ : Chg [] w W) => formatNumber_spec_any a.slot W (by have := sl.1; omega) (by have := sl.2; omega))
  have ns := numT_size (n := a.slot) (by have := sl.1; omega) (by have := sl.2; omega)
  obtain ⟨n, hn⟩ : ∃ n, n = numT a.slot := ⟨_, rfl⟩
  rw [← hn] at FN ns
  obtain ⟨T, hT⟩ : ∃ T, T = a.txt := ⟨_, rfl⟩
  have hT2 := hT.trans (txt_3 (.inr h))
  rw [← hT]
  obtain ⟨x0, hx0⟩ : ∃ x, x = (⟨#[32]⟩ : ByteArray) ++ n := ⟨_, rfl⟩
  obtain ⟨x1, hx1⟩ : ∃ x, x = (⟨#[100, 114, 111, 112]⟩ : ByteArray) ++ x0 := ⟨_, rfl⟩
  have ex0 : (⟨#[32]⟩ : ByteArray).size = 1 := rfl
  have ex1 : (⟨#[100, 114, 111, 112]⟩ : ByteArray).size = 4 := rfl
  have zx0 := cat_sz hx0
  have zx1 := cat_sz hx1
  have kx0 := cat_is (P := Tryz.prog) hx0 (by omega)
  have kx1 := cat_is (P := Tryz.prog) hx1 (by omega)
  have HE : Hid (x1 = T) := by
    show _ = _
    rw [hT2, h, wordT_5, hx1, hx0, hn]
    try simp only [ByteArray.append_assoc]
  rw [h]
  clear ex0 ex1 zx0 zx1 hx0 hx1 hn ns sl hT hT2 hok h
  go_enter Tryz.func66, Tryz.ntmps66
  go_wp2_with fail
  obtain ⟨wb, hwb⟩ : ∃ wb, wb = w.alloc (.cells #[.int .i64 5, .int .i64 a.slot, .int .i64 a.other, .string a.word, .string a.call.method, .string a.call.key, .int .i64 a.call.value, .string a.call.text, .int .i64 a.face, .slice A1 a.A.length c1, .slice A2 a.B.length c2] 38) := ⟨_, rfl⟩
  have db : Chg [] w wb := hwb ▸ (Chg.refl [] w).alloc _
  have sb : w.heap.size < wb.heap.size := by rw [hwb]; simp
  have v0 : wb.cell? ⟨w.heap.size, 0, none⟩ = some (.int .i64 5) := by rw [hwb]; go_simp
  rw [← hwb]
  clear hwb
  refine (FN.out _ db).mono ?_
  rintro e w1 ⟨rfl, k1⟩
  have p0 := (k1.cell (p := ⟨w.heap.size, 0, none⟩) sb (by simp)).trans v0
  have hlt : w.heap.size < w1.heap.size := by have := k1.size; omega
  have d1 : Chg [] w w1 := db.trans0 k1
  clear k1 v0
  go_wp2_with fail
  go_ret
  exact ⟨str_ret HE.out, d1⟩
set_option maxRecDepth 100000 in
set_option maxHeartbeats 8000000 in
theorem l8Line_6 (a : ActionT) (A1 A2 : Option Addr) (c1 c2 : Nat) (w : World) (h : a.op = 6) (hok : a.ok) :
    Calls Tryz.prog 66 #[.agg #[.int .i64 a.op, .int .i64 a.slot, .int .i64 a.other, .string a.word, .string a.call.method, .string a.call.key, .int .i64 a.call.value, .string a.call.text, .int .i64 a.face, .slice A1 a.A.length c1, .slice A2 a.B.length c2]] w (StrPost a.txt w) := by
  have sl := ok_slot hok
  have FN := Lib.hid (fun W (_ : Chg [] w W) => formatNumber_spec_any a.slot W (by have := sl.1; omega) (by have := sl.2; omega))
  have ns := numT_size (n := a.slot) (by have := sl.1; omega) (by have := sl.2; omega)
  obtain ⟨n, hn⟩ : ∃ n, n = numT a.slot := ⟨_, rfl⟩
  rw [← hn] at FN ns
  have FO := Lib.hid (fun W (_ : Chg [] w W) => formatFace_spec_any a.face W)
  have ms := faceT_size a.face
  obtain ⟨m, hm⟩ : ∃ m, m = faceT a.face := ⟨_, rfl⟩
  rw [← hm] at FO ms
  obtain ⟨T, hT⟩ : ∃ T, T = a.txt := ⟨_, rfl⟩
  have hT2 := hT.trans (txt_6 h)
  rw [← hT]
  obtain ⟨x0, hx0⟩ : ∃ x, x = (⟨#[32]⟩ : ByteArray) ++ n := ⟨_, rfl⟩
  obtain ⟨x1, hx1⟩ : ∃ x, x = (⟨#[97, 115, 107]⟩ : ByteArray) ++ x0 := ⟨_, rfl⟩
  obtain ⟨x3, hx3⟩ : ∃ x, x = x1 ++ (⟨#[32]⟩ : ByteArray) := ⟨_, rfl⟩
  obtain ⟨x4, hx4⟩ : ∃ x, x = x3 ++ m := ⟨_, rfl⟩
  have ex0 : (⟨#[32]⟩ : ByteArray).size = 1 := rfl
  have ex1 : (⟨#[97, 115, 107]⟩ : ByteArray).size = 3 := rfl
  have ex3 : (⟨#[32]⟩ : ByteArray).size = 1 := rfl
  have zx0 := cat_sz hx0
  have zx1 := cat_sz hx1
  have zx3 := cat_sz hx3
  have zx4 := cat_sz hx4
  have kx0 := cat_is (P := Tryz.prog) hx0 (by omega)
  have kx1 := cat_is (P := Tryz.prog) hx1 (by omega)
  have kx3 := cat_is (P := Tryz.prog) hx3 (by omega)
  have kx4 := cat_is (P := Tryz.prog) hx4 (by omega)
  have HE : Hid (x4 = T) := by
    show _ = _
    rw [hT2, h, wordT_6, hx4, hx3, hx1, hx0, hn, hm]
    try simp only [ByteArray.append_assoc]
  rw [h]
  clear ex0 ex1 ex3 zx0 zx1 zx3 zx4 hx0 hx1 hx3 hx4 hn hm ns sl hT hT2 hok h ms
  go_enter Tryz.func66, Tryz.ntmps66
  go_wp2_with fail
  obtain ⟨wb, hwb⟩ : ∃ wb, wb = w.alloc (.cells #[.int .i64 6, .int .i64 a.slot, .int .i64 a.other, .string a.word, .string a.call.method, .string a.call.key, .int .i64 a.call.value, .string a.call.text, .int .i64 a.face, .slice A1 a.A.length c1, .slice A2 a.B.length c2] 38) := ⟨_, rfl⟩
  have db : Chg [] w wb := hwb ▸ (Chg.refl [] w).alloc _
  have sb : w.heap.size < wb.heap.size := by rw [hwb]; simp
  have v0 : wb.cell? ⟨w.heap.size, 0, none⟩ = some (.int .i64 6) := by rw [hwb]; go_simp
  have v8 : wb.cell? ⟨w.heap.size, 8, none⟩ = some (.int .i64 a.face) := by rw [hwb]; go_simp
  rw [← hwb]
  clear hwb
  refine (FN.out _ db).mono ?_
  rintro e w1 ⟨rfl, k1⟩
  have p0 := (k1.cell (p := ⟨w.heap.size, 0, none⟩) sb (by simp)).trans v0
  have p8 := (k1.cell (p := ⟨w.heap.size, 8, none⟩) sb (by simp)).trans v8
  have hlt : w.heap.size < w1.heap.size := by have := k1.size; omega
  have d1 : Chg [] w w1 := db.trans0 k1
  clear k1 v0 v8
  go_wp2_with fail
  refine (FO.out _ d1).mono ?_
  rintro e w2 ⟨rfl, k2⟩
  go_wp2_with fail
  go_ret
  exact ⟨str_ret HE.out, d1.trans0 k2⟩
set_option maxRecDepth 100000 in
set_option maxHeartbeats 8000000 in
theorem l8Line_7 (a : ActionT) (A1 A2 : Option Addr) (c1 c2 : Nat) (w : World) (h : a.op = 7) (hok : a.ok) (hW : actionW a ≤ 1048576) :
    Calls Tryz.prog 66 #[.agg #[.int .i64 a.op, .int .i64 a.slot, .int .i64 a.other, .string a.word, .string a.call.method, .string a.call.key, .int .i64 a.call.value, .string a.call.text, .int .i64 a.face, .slice A1 a.A.length c1, .slice A2 a.B.length c2]] w (StrPost a.txt w) := by
  have sl := ok_slot hok
  have FN := Lib.hid (fun W (_ : Chg [] w W) => formatNumber_spec_any a.slot W (by have := sl.1; omega) (by have := sl.2; omega))
  have ns := numT_size (n := a.slot) (by have := sl.1; omega) (by have := sl.2; omega)
  obtain ⟨n, hn⟩ : ∃ n, n = numT a.slot := ⟨_, rfl⟩
  rw [← hn] at FN ns
  have asz := act_small hW
  have FO := Lib.hid (fun W (_ : Chg [] w W) => formatCall_spec_any a.call W asz.2.1 asz.2.2.1)
  have ms := callT_size (x := a.call)
  obtain ⟨m, hm⟩ : ∃ m, m = callT a.call := ⟨_, rfl⟩
  rw [← hm] at FO ms
  have ac := asz.2.2.2
  obtain ⟨T, hT⟩ : ∃ T, T = a.txt := ⟨_, rfl⟩
  have hT2 := hT.trans (txt_7 h)
  rw [← hT]
  obtain ⟨x0, hx0⟩ : ∃ x, x = (⟨#[32]⟩ : ByteArray) ++ n := ⟨_, rfl⟩
  obtain ⟨x1, hx1⟩ : ∃ x, x = (⟨#[99, 97, 108, 108]⟩ : ByteArray) ++ x0 := ⟨_, rfl⟩
  obtain ⟨x3, hx3⟩ : ∃ x, x = x1 ++ (⟨#[32]⟩ : ByteArray) := ⟨_, rfl⟩
  obtain ⟨x4, hx4⟩ : ∃ x, x = x3 ++ m := ⟨_, rfl⟩
  have ex0 : (⟨#[32]⟩ : ByteArray).size = 1 := rfl
  have ex1 : (⟨#[99, 97, 108, 108]⟩ : ByteArray).size = 4 := rfl
  have ex3 : (⟨#[32]⟩ : ByteArray).size = 1 := rfl
  have zx0 := cat_sz hx0
  have zx1 := cat_sz hx1
  have zx3 := cat_sz hx3
  have zx4 := cat_sz hx4
  have kx0 := cat_is (P := Tryz.prog) hx0 (by omega)
  have kx1 := cat_is (P := Tryz.prog) hx1 (by omega)
  have kx3 := cat_is (P := Tryz.prog) hx3 (by omega)
  have kx4 := cat_is (P := Tryz.prog) hx4 (by omega)
  have HE : Hid (x4 = T) := by
    show _ = _
    rw [hT2, h, wordT_7, hx4, hx3, hx1, hx0, hn, hm]
    try simp only [ByteArray.append_assoc]
  rw [h]
  clear ex0 ex1 ex3 zx0 zx1 zx3 zx4 hx0 hx1 hx3 hx4 hn hm ns sl hT hT2 hok h ms ac asz hW
  go_enter Tryz.func66, Tryz.ntmps66
  go_wp2_with fail
  obtain ⟨wb, hwb⟩ : ∃ wb, wb = w.alloc (.cells #[.int .i64 7, .int .i64 a.slot, .int .i64 a.other, .string a.word, .string a.call.method, .string a.call.key, .int .i64 a.call.value, .string a.call.text, .int .i64 a.face, .slice A1 a.A.length c1, .slice A2 a.B.length c2] 38) := ⟨_, rfl⟩
  have db : Chg [] w wb := hwb ▸ (Chg.refl [] w).alloc _
  have sb : w.heap.size < wb.heap.size := by rw [hwb]; simp
  have v0 : wb.cell? ⟨w.heap.size, 0, none⟩ = some (.int .i64 7) := by rw [hwb]; go_simp
  have v4 : wb.cell? ⟨w.heap.size, 4, none⟩ = some (.string a.call.method) := by rw [hwb]; go_simp
  have v5 : wb.cell? ⟨w.heap.size, 5, none⟩ = some (.string a.call.key) := by rw [hwb]; go_simp
  have v6 : wb.cell? ⟨w.heap.size, 6, none⟩ = some (.int .i64 a.call.value) := by rw [hwb]; go_simp
  have v7 : wb.cell? ⟨w.heap.size, 7, none⟩ = some (.string a.call.text) := by rw [hwb]; go_simp
  rw [← hwb]
  clear hwb
  refine (FN.out _ db).mono ?_
  rintro e w1 ⟨rfl, k1⟩
  have p0 := (k1.cell (p := ⟨w.heap.size, 0, none⟩) sb (by simp)).trans v0
  have p4 := (k1.cell (p := ⟨w.heap.size, 4, none⟩) sb (by simp)).trans v4
  have p5 := (k1.cell (p := ⟨w.heap.size, 5, none⟩) sb (by simp)).trans v5
  have p6 := (k1.cell (p := ⟨w.heap.size, 6, none⟩) sb (by simp)).trans v6
  have p7 := (k1.cell (p := ⟨w.heap.size, 7, none⟩) sb (by simp)).trans v7
  have hlt : w.heap.size < w1.heap.size := by have := k1.size; omega
  have d1 : Chg [] w w1 := db.trans0 k1
  clear k1 v0 v4 v5 v6 v7
  go_wp2_with fail
  refine (FO.out _ d1).mono ?_
  rintro e w2 ⟨rfl, k2⟩
  go_wp2_with fail
  go_ret
  exact ⟨str_ret HE.out, d1.trans0 k2⟩
set_option maxRecDepth 100000 in
set_option maxHeartbeats 8000000 in
theorem l8Line_8 (a : ActionT) (A1 A2 : Option Addr) (c1 c2 : Nat) (w : World) (h : a.op = 8) (hok : a.ok) (hz : a.size ≤ 14) (hW : actionW a ≤ 1048576) (IA : ∀ W, Chg [] w W → Calls Tryz.prog 112 #[.slice A1 a.A.length c1] W (StrPost (bodyT (txtL a.A)) W)) (IB : ∀ W, Chg [] w W → Calls Tryz.prog 112 #[.slice A2 a.B.length c2] W (StrPost (bodyT (txtL a.B)) W)) :
    Calls Tryz.prog 66 #[.agg #[.int .i64 a.op, .int .i64 a.slot, .int .i64 a.other, .string a.word, .string a.call.method, .string a.call.key, .int .i64 a.call.value, .string a.call.text, .int .i64 a.face, .slice A1 a.A.length c1, .slice A2 a.B.length c2]] w (StrPost a.txt w) := by
  have sl := ok_slot hok
  have FN := Lib.hid (fun W (_ : Chg [] w W) => formatNumber_spec_any a.slot W (by have := sl.1; omega) (by have := sl.2; omega))
  have ns := numT_size (n := a.slot) (by have := sl.1; omega) (by have := sl.2; omega)
  obtain ⟨n, hn⟩ : ∃ n, n = numT a.slot := ⟨_, rfl⟩
  rw [← hn] at FN ns
  have bs := body_small hok hz hW
  have bA_ := bs.1
  have IA := Lib.hid IA
  obtain ⟨bA, hbA⟩ : ∃ b, b = bodyT (txtL a.A) := ⟨_, rfl⟩
  rw [← hbA] at IA bA_
  have bB_ := bs.2.1
  have IB := Lib.hid IB
  obtain ⟨bB, hbB⟩ : ∃ b, b = bodyT (txtL a.B) := ⟨_, rfl⟩
  rw [← hbB] at IB bB_
  clear bs
  obtain ⟨T, hT⟩ : ∃ T, T = a.txt := ⟨_, rfl⟩
  have hT2 := hT.trans (txt_8 (.inl h))
  rw [← hT]
  obtain ⟨x0, hx0⟩ : ∃ x, x = (⟨#[32]⟩ : ByteArray) ++ n := ⟨_, rfl⟩
  obtain ⟨y1, hy1⟩ : ∃ x, x = (⟨#[105, 102, 32, 123, 32]⟩ : ByteArray) ++ bA := ⟨_, rfl⟩
  obtain ⟨y2, hy2⟩ : ∃ x, x = y1 ++ (⟨#[125, 32, 101, 108, 115, 101, 32, 123, 32]⟩ : ByteArray) := ⟨_, rfl⟩
  obtain ⟨y3, hy3⟩ : ∃ x, x = y2 ++ bB := ⟨_, rfl⟩
  obtain ⟨y4, hy4⟩ : ∃ x, x = y3 ++ (⟨#[125]⟩ : ByteArray) := ⟨_, rfl⟩
  have ex0 : (⟨#[32]⟩ : ByteArray).size = 1 := rfl
  have ey1 : (⟨#[105, 102, 32, 123, 32]⟩ : ByteArray).size = 5 := rfl
  have ey2 : (⟨#[125, 32, 101, 108, 115, 101, 32, 123, 32]⟩ : ByteArray).size = 9 := rfl
  have ey4 : (⟨#[125]⟩ : ByteArray).size = 1 := rfl
  have zx0 := cat_sz hx0
  have zy1 := cat_sz hy1
  have zy2 := cat_sz hy2
  have zy3 := cat_sz hy3
  have zy4 := cat_sz hy4
  have kx0 := cat_is (P := Tryz.prog) hx0 (by omega)
  have ky1 := cat_is (P := Tryz.prog) hy1 (by omega)
  have ky2 := cat_is (P := Tryz.prog) hy2 (by omega)
  have ky3 := cat_is (P := Tryz.prog) hy3 (by omega)
  have ky4 := cat_is (P := Tryz.prog) hy4 (by omega)
  have HE : Hid (y4 = T) := by
    show _ = _
    rw [hT2, h, wordT_8, blk_body, blk_body, hy4, hy3, hy2, hy1, hbA, hbB, show (⟨#[105, 102, 32, 123, 32]⟩ : ByteArray) = ⟨#[105, 102]⟩ ++ ⟨#[32]⟩ ++ ⟨#[123, 32]⟩ from rfl, show (⟨#[125, 32, 101, 108, 115, 101, 32, 123, 32]⟩ : ByteArray) = ⟨#[125]⟩ ++ ⟨#[32, 101, 108, 115, 101, 32]⟩ ++ ⟨#[123, 32]⟩ from rfl]
    try simp only [ByteArray.append_assoc]
  rw [h]
  clear ex0 ey1 ey2 ey4 zx0 zy1 zy2 zy3 zy4 hx0 hy1 hy2 hy3 hy4 hn hbA hbB ns sl hT hT2 hok h hz hW bA_ bB_
  go_enter Tryz.func66, Tryz.ntmps66
  go_wp2_with fail
  obtain ⟨wb, hwb⟩ : ∃ wb, wb = w.alloc (.cells #[.int .i64 8, .int .i64 a.slot, .int .i64 a.other, .string a.word, .string a.call.method, .string a.call.key, .int .i64 a.call.value, .string a.call.text, .int .i64 a.face, .slice A1 a.A.length c1, .slice A2 a.B.length c2] 38) := ⟨_, rfl⟩
  have db : Chg [] w wb := hwb ▸ (Chg.refl [] w).alloc _
  have sb : w.heap.size < wb.heap.size := by rw [hwb]; simp
  have v0 : wb.cell? ⟨w.heap.size, 0, none⟩ = some (.int .i64 8) := by rw [hwb]; go_simp
  have v9 : wb.cell? ⟨w.heap.size, 9, none⟩ = some (.slice A1 a.A.length c1) := by rw [hwb]; go_simp
  have v10 : wb.cell? ⟨w.heap.size, 10, none⟩ = some (.slice A2 a.B.length c2) := by rw [hwb]; go_simp
  rw [← hwb]
  clear hwb
  refine (FN.out _ db).mono ?_
  rintro e w1 ⟨rfl, k1⟩
  have p0 := (k1.cell (p := ⟨w.heap.size, 0, none⟩) sb (by simp)).trans v0
  have p9 := (k1.cell (p := ⟨w.heap.size, 9, none⟩) sb (by simp)).trans v9
  have p10 := (k1.cell (p := ⟨w.heap.size, 10, none⟩) sb (by simp)).trans v10
  have hlt : w.heap.size < w1.heap.size := by have := k1.size; omega
  have d1 : Chg [] w w1 := db.trans0 k1
  clear k1 v0 v9 v10
  go_wp2_with fail
  go_region_held3 (fun w' => w'.cell? ⟨w.heap.size, 9, none⟩ = some (.slice A1 a.A.length c1) ∧ w'.cell? ⟨w.heap.size, 10, none⟩ = some (.slice A2 a.B.length c2) ∧ w.heap.size < w'.heap.size ∧ Chg [] w w') (first | exact ⟨p9, p10, hlt, d1.drew⟩ | exact ⟨(c1.cell E3 (by simp)).trans E1, (c1.cell E3 (by simp)).trans E2, by have := c1.size; omega, E4.trans0 c1⟩) (first | (go_at_call 112; obtain ⟨E1, E2, E3, E4⟩ := ‹_ ∧ _ ∧ _ ∧ Chg [] w _›; (with_reducible refine (IA.out _ E4).mono ?_); rintro e w1 ⟨rfl, c1⟩) | (go_at_call 112; obtain ⟨E1, E2, E3, E4⟩ := ‹_ ∧ _ ∧ _ ∧ Chg [] w _›; (with_reducible refine (IB.out _ E4).mono ?_); rintro e w1 ⟨rfl, c1⟩))
  obtain ⟨_, _, _, E⟩ := ‹_ ∧ _ ∧ _ ∧ Chg [] w _›
  go_wp2_with fail
  go_ret
  exact ⟨str_ret HE.out, E⟩
set_option maxRecDepth 100000 in
set_option maxHeartbeats 8000000 in
theorem l8Line_9 (a : ActionT) (A1 A2 : Option Addr) (c1 c2 : Nat) (w : World) (h : a.op = 9) (hok : a.ok) (hz : a.size ≤ 14) (hW : actionW a ≤ 1048576) (IA : ∀ W, Chg [] w W → Calls Tryz.prog 112 #[.slice A1 a.A.length c1] W (StrPost (bodyT (txtL a.A)) W)) :
    Calls Tryz.prog 66 #[.agg #[.int .i64 a.op, .int .i64 a.slot, .int .i64 a.other, .string a.word, .string a.call.method, .string a.call.key, .int .i64 a.call.value, .string a.call.text, .int .i64 a.face, .slice A1 a.A.length c1, .slice A2 a.B.length c2]] w (StrPost a.txt w) := by
  have sl := ok_slot hok
  have FN := Lib.hid (fun W (_ : Chg [] w W) => formatNumber_spec_any a.slot W (by have := sl.1; omega) (by have := sl.2; omega))
  have ns := numT_size (n := a.slot) (by have := sl.1; omega) (by have := sl.2; omega)
  obtain ⟨n, hn⟩ : ∃ n, n = numT a.slot := ⟨_, rfl⟩
  rw [← hn] at FN ns
  have bs := body_small hok hz hW
  have bA_ := bs.1
  have IA := Lib.hid IA
  obtain ⟨bA, hbA⟩ : ∃ b, b = bodyT (txtL a.A) := ⟨_, rfl⟩
  rw [← hbA] at IA bA_
  clear bs
  obtain ⟨T, hT⟩ : ∃ T, T = a.txt := ⟨_, rfl⟩
  have hT2 := hT.trans (txt_9 h)
  rw [← hT]
  obtain ⟨x0, hx0⟩ : ∃ x, x = (⟨#[32]⟩ : ByteArray) ++ n := ⟨_, rfl⟩
  obtain ⟨y1, hy1⟩ : ∃ x, x = (⟨#[108, 111, 111, 112, 32, 123, 32]⟩ : ByteArray) ++ bA := ⟨_, rfl⟩
  obtain ⟨y2, hy2⟩ : ∃ x, x = y1 ++ (⟨#[125]⟩ : ByteArray) := ⟨_, rfl⟩
  have ex0 : (⟨#[32]⟩ : ByteArray).size = 1 := rfl
  have ey1 : (⟨#[108, 111, 111, 112, 32, 123, 32]⟩ : ByteArray).size = 7 := rfl
  have ey2 : (⟨#[125]⟩ : ByteArray).size = 1 := rfl
  have zx0 := cat_sz hx0
  have zy1 := cat_sz hy1
  have zy2 := cat_sz hy2
  have kx0 := cat_is (P := Tryz.prog) hx0 (by omega)
  have ky1 := cat_is (P := Tryz.prog) hy1 (by omega)
  have ky2 := cat_is (P := Tryz.prog) hy2 (by omega)
  have HE : Hid (y2 = T) := by
    show _ = _
    rw [hT2, h, wordT_9, blk_body, hy2, hy1, hbA, show (⟨#[108, 111, 111, 112, 32, 123, 32]⟩ : ByteArray) = ⟨#[108, 111, 111, 112]⟩ ++ ⟨#[32]⟩ ++ ⟨#[123, 32]⟩ from rfl]
    try simp only [ByteArray.append_assoc]
  rw [h]
  clear ex0 ey1 ey2 zx0 zy1 zy2 hx0 hy1 hy2 hn hbA ns sl hT hT2 hok h hz hW bA_
  go_enter Tryz.func66, Tryz.ntmps66
  go_wp2_with fail
  obtain ⟨wb, hwb⟩ : ∃ wb, wb = w.alloc (.cells #[.int .i64 9, .int .i64 a.slot, .int .i64 a.other, .string a.word, .string a.call.method, .string a.call.key, .int .i64 a.call.value, .string a.call.text, .int .i64 a.face, .slice A1 a.A.length c1, .slice A2 a.B.length c2] 38) := ⟨_, rfl⟩
  have db : Chg [] w wb := hwb ▸ (Chg.refl [] w).alloc _
  have sb : w.heap.size < wb.heap.size := by rw [hwb]; simp
  have v0 : wb.cell? ⟨w.heap.size, 0, none⟩ = some (.int .i64 9) := by rw [hwb]; go_simp
  have v9 : wb.cell? ⟨w.heap.size, 9, none⟩ = some (.slice A1 a.A.length c1) := by rw [hwb]; go_simp
  rw [← hwb]
  clear hwb
  refine (FN.out _ db).mono ?_
  rintro e w1 ⟨rfl, k1⟩
  have p0 := (k1.cell (p := ⟨w.heap.size, 0, none⟩) sb (by simp)).trans v0
  have p9 := (k1.cell (p := ⟨w.heap.size, 9, none⟩) sb (by simp)).trans v9
  have hlt : w.heap.size < w1.heap.size := by have := k1.size; omega
  have d1 : Chg [] w w1 := db.trans0 k1
  clear k1 v0 v9
  go_wp2_with fail
  refine (IA.out _ d1).mono ?_
  rintro e w2 ⟨rfl, k2⟩
  go_wp2_with fail
  go_ret
  exact ⟨str_ret HE.out, d1.trans0 k2⟩
set_option maxRecDepth 100000 in
set_option maxHeartbeats 8000000 in
theorem l8Line_10 (a : ActionT) (A1 A2 : Option Addr) (c1 c2 : Nat) (w : World) (h : a.op = 10) (hok : a.ok) (hz : a.size ≤ 14) (hW : actionW a ≤ 1048576) (IA : ∀ W, Chg [] w W → Calls Tryz.prog 112 #[.slice A1 a.A.length c1] W (StrPost (bodyT (txtL a.A)) W)) (IB : ∀ W, Chg [] w W → Calls Tryz.prog 112 #[.slice A2 a.B.length c2] W (StrPost (bodyT (txtL a.B)) W)) :
    Calls Tryz.prog 66 #[.agg #[.int .i64 a.op, .int .i64 a.slot, .int .i64 a.other, .string a.word, .string a.call.method, .string a.call.key, .int .i64 a.call.value, .string a.call.text, .int .i64 a.face, .slice A1 a.A.length c1, .slice A2 a.B.length c2]] w (StrPost a.txt w) := by
  have sl := ok_slot hok
  have FN := Lib.hid (fun W (_ : Chg [] w W) => formatNumber_spec_any a.slot W (by have := sl.1; omega) (by have := sl.2; omega))
  have ns := numT_size (n := a.slot) (by have := sl.1; omega) (by have := sl.2; omega)
  obtain ⟨n, hn⟩ : ∃ n, n = numT a.slot := ⟨_, rfl⟩
  rw [← hn] at FN ns
  have bs := body_small hok hz hW
  have bA_ := bs.1
  have IA := Lib.hid IA
  obtain ⟨bA, hbA⟩ : ∃ b, b = bodyT (txtL a.A) := ⟨_, rfl⟩
  rw [← hbA] at IA bA_
  have bB_ := bs.2.1
  have IB := Lib.hid IB
  obtain ⟨bB, hbB⟩ : ∃ b, b = bodyT (txtL a.B) := ⟨_, rfl⟩
  rw [← hbB] at IB bB_
  clear bs
  obtain ⟨T, hT⟩ : ∃ T, T = a.txt := ⟨_, rfl⟩
  have hT2 := hT.trans (txt_8 (.inr h))
  rw [← hT]
  obtain ⟨x0, hx0⟩ : ∃ x, x = (⟨#[32]⟩ : ByteArray) ++ n := ⟨_, rfl⟩
  obtain ⟨y1, hy1⟩ : ∃ x, x = (⟨#[116, 114, 121, 32, 123, 32]⟩ : ByteArray) ++ bA := ⟨_, rfl⟩
  obtain ⟨y2, hy2⟩ : ∃ x, x = y1 ++ (⟨#[125, 32, 101, 108, 115, 101, 32, 123, 32]⟩ : ByteArray) := ⟨_, rfl⟩
  obtain ⟨y3, hy3⟩ : ∃ x, x = y2 ++ bB := ⟨_, rfl⟩
  obtain ⟨y4, hy4⟩ : ∃ x, x = y3 ++ (⟨#[125]⟩ : ByteArray) := ⟨_, rfl⟩
  have ex0 : (⟨#[32]⟩ : ByteArray).size = 1 := rfl
  have ey1 : (⟨#[116, 114, 121, 32, 123, 32]⟩ : ByteArray).size = 6 := rfl
  have ey2 : (⟨#[125, 32, 101, 108, 115, 101, 32, 123, 32]⟩ : ByteArray).size = 9 := rfl
  have ey4 : (⟨#[125]⟩ : ByteArray).size = 1 := rfl
  have zx0 := cat_sz hx0
  have zy1 := cat_sz hy1
  have zy2 := cat_sz hy2
  have zy3 := cat_sz hy3
  have zy4 := cat_sz hy4
  have kx0 := cat_is (P := Tryz.prog) hx0 (by omega)
  have ky1 := cat_is (P := Tryz.prog) hy1 (by omega)
  have ky2 := cat_is (P := Tryz.prog) hy2 (by omega)
  have ky3 := cat_is (P := Tryz.prog) hy3 (by omega)
  have ky4 := cat_is (P := Tryz.prog) hy4 (by omega)
  have HE : Hid (y4 = T) := by
    show _ = _
    rw [hT2, h, wordT_10, blk_body, blk_body, hy4, hy3, hy2, hy1, hbA, hbB, show (⟨#[116, 114, 121, 32, 123, 32]⟩ : ByteArray) = ⟨#[116, 114, 121]⟩ ++ ⟨#[32]⟩ ++ ⟨#[123, 32]⟩ from rfl, show (⟨#[125, 32, 101, 108, 115, 101, 32, 123, 32]⟩ : ByteArray) = ⟨#[125]⟩ ++ ⟨#[32, 101, 108, 115, 101, 32]⟩ ++ ⟨#[123, 32]⟩ from rfl]
    try simp only [ByteArray.append_assoc]
  rw [h]
  clear ex0 ey1 ey2 ey4 zx0 zy1 zy2 zy3 zy4 hx0 hy1 hy2 hy3 hy4 hn hbA hbB ns sl hT hT2 hok h hz hW bA_ bB_
  go_enter Tryz.func66, Tryz.ntmps66
  go_wp2_with fail
  obtain ⟨wb, hwb⟩ : ∃ wb, wb = w.alloc (.cells #[.int .i64 10, .int .i64 a.slot, .int .i64 a.other, .string a.word, .string a.call.method, .string a.call.key, .int .i64 a.call.value, .string a.call.text, .int .i64 a.face, .slice A1 a.A.length c1, .slice A2 a.B.length c2] 38) := ⟨_, rfl⟩
  have db : Chg [] w wb := hwb ▸ (Chg.refl [] w).alloc _
  have sb : w.heap.size < wb.heap.size := by rw [hwb]; simp
  have v0 : wb.cell? ⟨w.heap.size, 0, none⟩ = some (.int .i64 10) := by rw [hwb]; go_simp
  have v9 : wb.cell? ⟨w.heap.size, 9, none⟩ = some (.slice A1 a.A.length c1) := by rw [hwb]; go_simp
  have v10 : wb.cell? ⟨w.heap.size, 10, none⟩ = some (.slice A2 a.B.length c2) := by rw [hwb]; go_simp
  rw [← hwb]
  clear hwb
  refine (FN.out _ db).mono ?_
  rintro e w1 ⟨rfl, k1⟩
  have p0 := (k1.cell (p := ⟨w.heap.size, 0, none⟩) sb (by simp)).trans v0
  have p9 := (k1.cell (p := ⟨w.heap.size, 9, none⟩) sb (by simp)).trans v9
  have p10 := (k1.cell (p := ⟨w.heap.size, 10, none⟩) sb (by simp)).trans v10
  have hlt : w.heap.size < w1.heap.size := by have := k1.size; omega
  have d1 : Chg [] w w1 := db.trans0 k1
  clear k1 v0 v9 v10
  go_wp2_with fail
  go_region_held3 (fun w' => w'.cell? ⟨w.heap.size, 9, none⟩ = some (.slice A1 a.A.length c1) ∧ w'.cell? ⟨w.heap.size, 10, none⟩ = some (.slice A2 a.B.length c2) ∧ w.heap.size < w'.heap.size ∧ Chg [] w w') (first | exact ⟨p9, p10, hlt, d1.drew⟩ | exact ⟨(c1.cell E3 (by simp)).trans E1, (c1.cell E3 (by simp)).trans E2, by have := c1.size; omega, E4.trans0 c1⟩) (first | (go_at_call 112; obtain ⟨E1, E2, E3, E4⟩ := ‹_ ∧ _ ∧ _ ∧ Chg [] w _›; (with_reducible refine (IA.out _ E4).mono ?_); rintro e w1 ⟨rfl, c1⟩) | (go_at_call 112; obtain ⟨E1, E2, E3, E4⟩ := ‹_ ∧ _ ∧ _ ∧ Chg [] w _›; (with_reducible refine (IB.out _ E4).mono ?_); rintro e w1 ⟨rfl, c1⟩))
  obtain ⟨_, _, _, E⟩ := ‹_ ∧ _ ∧ _ ∧ Chg [] w _›
  go_wp2_with fail
  go_ret
  exact ⟨str_ret HE.out, E⟩
theorem l8Line_any (a : ActionT) (A1 A2 : Option Addr) (c1 c2 : Nat) (w : World) (hok : a.ok) (hz : a.size ≤ 14) (hW : actionW a ≤ 1048576) (IA : ∀ W, Chg [] w W → Calls Tryz.prog 112 #[.slice A1 a.A.length c1] W (StrPost (bodyT (txtL a.A)) W)) (IB : ∀ W, Chg [] w W → Calls Tryz.prog 112 #[.slice A2 a.B.length c2] W (StrPost (bodyT (txtL a.B)) W)) :
    Calls Tryz.prog 66 #[.agg #[.int .i64 a.op, .int .i64 a.slot, .int .i64 a.other, .string a.word, .string a.call.method, .string a.call.key, .int .i64 a.call.value, .string a.call.text, .int .i64 a.face, .slice A1 a.A.length c1, .slice A2 a.B.length c2]] w (StrPost a.txt w) := by
  rcases op_cases a.op with (h | h | h | h | h | h | h | h | h | h) | h
  · exact l8Line_1 a A1 A2 c1 c2 w h hok hW
  · exact l8Line_2 a A1 A2 c1 c2 w h hok hW
  · exact l8Line_3 a A1 A2 c1 c2 w h hok
  · exact l8Line_4 a A1 A2 c1 c2 w h hok
  · exact l8Line_5 a A1 A2 c1 c2 w h hok
  · exact l8Line_6 a A1 A2 c1 c2 w h hok
  · exact l8Line_7 a A1 A2 c1 c2 w h hok hW
  · exact l8Line_8 a A1 A2 c1 c2 w h hok hz hW IA IB
  · exact l8Line_9 a A1 A2 c1 c2 w h hok hz hW IA
  · exact l8Line_10 a A1 A2 c1 c2 w h hok hz hW IA IB
  · exact absurd (ok_op hok) h.1
end Go.Proofs.YtkgffhlpcjjobaaGreatDoor
namespace Go.Proofs.YtkgffhlpcjjobaaGreatDoor
open Go.RowKit

/-- The words of the kinds of actions stand in their variable. -/
def WordsAt (w : World) : Prop := 0 < w.heap.size ∧ ∀ k : Fin 11, w.cell? ⟨0, k, none⟩ = some (.string (planWordsL.getD k ⟨#[]⟩))
theorem WordsAt.keep {w w' : World} (h : WordsAt w) (hc : Chg [] w w') : WordsAt w' :=
  ⟨Nat.lt_of_lt_of_le h.1 hc.size, fun k => (hc.cell (p := ⟨0, k, none⟩) h.1 (by simp)).trans (h.2 k)⟩
/-- What the program's writing leans on. -/
def EnvT (w : World) : Prop := Env w ∧ AbilAt w ∧ WordsAt w
theorem EnvT.keep {w w' : World} (h : EnvT w) (hc : Chg [] w w') : EnvT w' := ⟨h.1.keep hc, h.2.1.keep hc, h.2.2.keep hc⟩
set_option maxRecDepth 100000 in
set_option maxHeartbeats 8000000 in
theorem actionText_1 (a : ActionT) (A1 A2 : Option Addr) (c1 c2 : Nat) (w : World) (h : a.op = 1) (hok : a.ok) (hW : actionW a ≤ 1048576) (hE : EnvT w) :
    Calls Tryz.prog 60 #[.agg #[.int .i64 a.op, .int .i64 a.slot, .int .i64 a.other, .string a.word, .string a.call.method, .string a.call.key, .int .i64 a.call.value, .string a.call.text, .int .i64 a.face, .slice A1 a.A.length c1, .slice A2 a.B.length c2]] w (StrPost a.txt w) := by
  have sl := ok_slot hok
  have FN := Lib.hid (fun W (hc : Chg [] w W) => formatNumber_impl_any a.slot W (by have := sl.1; omega) (by have := sl.2; omega) (hE.1.pow.keep hc))
  have ns := numT_size (n := a.slot) (by have := sl.1; omega) (by have := sl.2; omega)
  obtain ⟨n, hn⟩ : ∃ n, n = numT a.slot := ⟨_, rfl⟩
  rw [← hn] at FN ns
  have ac := (act_small hW).1
  obtain ⟨wd, hwd⟩ : ∃ d, d = (⟨#[109, 97, 107, 101]⟩ : ByteArray) := ⟨_, rfl⟩
  have wds : wd.size = 4 := by rw [hwd]; rfl
  have db0 : Chg [] w (w.alloc (.cells #[.int .i64 1, .int .i64 a.slot, .int .i64 a.other, .string a.word, .string a.call.method, .string a.call.key, .int .i64 a.call.value, .string a.call.text, .int .i64 a.face, .slice A1 a.A.length c1, .slice A2 a.B.length c2] 38)) := (Chg.refl [] w).alloc _
  have qw : (w.alloc (.cells #[.int .i64 1, .int .i64 a.slot, .int .i64 a.other, .string a.word, .string a.call.method, .string a.call.key, .int .i64 a.call.value, .string a.call.text, .int .i64 a.face, .slice A1 a.A.length c1, .slice A2 a.B.length c2] 38)).cell? ⟨0, 1, none⟩ = some (.string wd) := (db0.cell (p := ⟨0, 1, none⟩) hE.2.2.1 (by simp)).trans (by rw [hwd]; exact hE.2.2.2 ⟨1, by decide⟩)
  clear db0
  obtain ⟨T, hT⟩ : ∃ T, T = a.txt := ⟨_, rfl⟩
  have hT2 := hT.trans (txt_1 (.inl h))
  rw [← hT]
  obtain ⟨x1, hx1⟩ : ∃ x, x = wd ++ (⟨#[32]⟩ : ByteArray) := ⟨_, rfl⟩
  obtain ⟨x2, hx2⟩ : ∃ x, x = x1 ++ n := ⟨_, rfl⟩
  obtain ⟨x3, hx3⟩ : ∃ x, x = x2 ++ (⟨#[32]⟩ : ByteArray) := ⟨_, rfl⟩
  obtain ⟨x4, hx4⟩ : ∃ x, x = x3 ++ a.word := ⟨_, rfl⟩
  have ex1 : (⟨#[32]⟩ : ByteArray).size = 1 := rfl
  have ex3 : (⟨#[32]⟩ : ByteArray).size = 1 := rfl
  have zx1 := cat_sz hx1
  have zx2 := cat_sz hx2
  have zx3 := cat_sz hx3
  have zx4 := cat_sz hx4
  have kx1 := cat_is (P := Tryz.prog) hx1 (by omega)
  have kx2 := cat_is (P := Tryz.prog) hx2 (by omega)
  have kx3 := cat_is (P := Tryz.prog) hx3 (by omega)
  have kx4 := cat_is (P := Tryz.prog) hx4 (by omega)
  have HE : Hid (x4 = T) := by
    show _ = _
    rw [hT2, h, wordT_1, hx4, hx3, hx2, hx1, hn, hwd]
    try simp only [ByteArray.append_assoc]
  rw [h]
  clear ex1 ex3 zx1 zx2 zx3 zx4 hx1 hx2 hx3 hx4 hn hwd ns sl hT hT2 hok h ac hW hE wds
  go_enter Tryz.func60, Tryz.ntmps60
  go_wp2_with fail
  obtain ⟨wb, hwb⟩ : ∃ wb, wb = w.alloc (.cells #[.int .i64 1, .int .i64 a.slot, .int .i64 a.other, .string a.word, .string a.call.method, .string a.call.key, .int .i64 a.call.value, .string a.call.text, .int .i64 a.face, .slice A1 a.A.length c1, .slice A2 a.B.length c2] 38) := ⟨_, rfl⟩
  have db : Chg [] w wb := hwb ▸ (Chg.refl [] w).alloc _
  have sb : w.heap.size < wb.heap.size := by rw [hwb]; simp
  have v0 : wb.cell? ⟨w.heap.size, 0, none⟩ = some (.int .i64 1) := by rw [hwb]; go_simp
  have v3 : wb.cell? ⟨w.heap.size, 3, none⟩ = some (.string a.word) := by rw [hwb]; go_simp
  rw [← hwb]
  clear hwb qw
  refine (FN.out _ db).mono ?_
  rintro e w1 ⟨rfl, k1⟩
  have p0 := (k1.cell (p := ⟨w.heap.size, 0, none⟩) sb (by simp)).trans v0
  have p3 := (k1.cell (p := ⟨w.heap.size, 3, none⟩) sb (by simp)).trans v3
  have hlt : w.heap.size < w1.heap.size := by have := k1.size; omega
  have d1 : Chg [] w w1 := db.trans0 k1
  clear k1 v0 v3
  go_wp2_with fail
  go_ret
  exact ⟨str_ret HE.out, d1⟩
set_option maxRecDepth 100000 in
set_option maxHeartbeats 8000000 in
theorem actionText_2 (a : ActionT) (A1 A2 : Option Addr) (c1 c2 : Nat) (w : World) (h : a.op = 2) (hok : a.ok) (hW : actionW a ≤ 1048576) (hE : EnvT w) :
    Calls Tryz.prog 60 #[.agg #[.int .i64 a.op, .int .i64 a.slot, .int .i64 a.other, .string a.word, .string a.call.method, .string a.call.key, .int .i64 a.call.value, .string a.call.text, .int .i64 a.face, .slice A1 a.A.length c1, .slice A2 a.B.length c2]] w (StrPost a.txt w) := by
  have sl := ok_slot hok
  have FN := Lib.hid (fun W (hc : Chg [] w W) => formatNumber_impl_any a.slot W (by have := sl.1; omega) (by have := sl.2; omega) (hE.1.pow.keep hc))
  have ns := numT_size (n := a.slot) (by have := sl.1; omega) (by have := sl.2; omega)
  obtain ⟨n, hn⟩ : ∃ n, n = numT a.slot := ⟨_, rfl⟩
  rw [← hn] at FN ns
  have ac := (act_small hW).1
  obtain ⟨wd, hwd⟩ : ∃ d, d = (⟨#[119, 114, 97, 112]⟩ : ByteArray) := ⟨_, rfl⟩
  have wds : wd.size = 4 := by rw [hwd]; rfl
  have db0 : Chg [] w (w.alloc (.cells #[.int .i64 2, .int .i64 a.slot, .int .i64 a.other, .string a.word, .string a.call.method, .string a.call.key, .int .i64 a.call.value, .string a.call.text, .int .i64 a.face, .slice A1 a.A.length c1, .slice A2 a.B.length c2] 38)) := (Chg.refl [] w).alloc _
  have qw : (w.alloc (.cells #[.int .i64 2, .int .i64 a.slot, .int .i64 a.other, .string a.word, .string a.call.method, .string a.call.key, .int .i64 a.call.value, .string a.call.text, .int .i64 a.face, .slice A1 a.A.length c1, .slice A2 a.B.length c2] 38)).cell? ⟨0, 2, none⟩ = some (.string wd) := (db0.cell (p := ⟨0, 2, none⟩) hE.2.2.1 (by simp)).trans (by rw [hwd]; exact hE.2.2.2 ⟨2, by decide⟩)
  clear db0
  obtain ⟨T, hT⟩ : ∃ T, T = a.txt := ⟨_, rfl⟩
  have hT2 := hT.trans (txt_1 (.inr h))
  rw [← hT]
  obtain ⟨x1, hx1⟩ : ∃ x, x = wd ++ (⟨#[32]⟩ : ByteArray) := ⟨_, rfl⟩
  obtain ⟨x2, hx2⟩ : ∃ x, x = x1 ++ n := ⟨_, rfl⟩
  obtain ⟨x3, hx3⟩ : ∃ x, x = x2 ++ (⟨#[32]⟩ : ByteArray) := ⟨_, rfl⟩
  obtain ⟨x4, hx4⟩ : ∃ x, x = x3 ++ a.word := ⟨_, rfl⟩
  have ex1 : (⟨#[32]⟩ : ByteArray).size = 1 := rfl
  have ex3 : (⟨#[32]⟩ : ByteArray).size = 1 := rfl
  have zx1 := cat_sz hx1
  have zx2 := cat_sz hx2
  have zx3 := cat_sz hx3
  have zx4 := cat_sz hx4
  have kx1 := cat_is (P := Tryz.prog) hx1 (by omega)
  have kx2 := cat_is (P := Tryz.prog) hx2 (by omega)
  have kx3 := cat_is (P := Tryz.prog) hx3 (by omega)
  have kx4 := cat_is (P := Tryz.prog) hx4 (by omega)
  have HE : Hid (x4 = T) := by
    show _ = _
    rw [hT2, h, wordT_2, hx4, hx3, hx2, hx1, hn, hwd]
    try simp only [ByteArray.append_assoc]
  rw [h]
  clear ex1 ex3 zx1 zx2 zx3 zx4 hx1 hx2 hx3 hx4 hn hwd ns sl hT hT2 hok h ac hW hE wds
  go_enter Tryz.func60, Tryz.ntmps60
  go_wp2_with fail
  obtain ⟨wb, hwb⟩ : ∃ wb, wb = w.alloc (.cells #[.int .i64 2, .int .i64 a.slot, .int .i64 a.other, .string a.word, .string a.call.method, .string a.call.key, .int .i64 a.call.value, .string a.call.text, .int .i64 a.face, .slice A1 a.A.length c1, .slice A2 a.B.length c2] 38) := ⟨_, rfl⟩
  have db : Chg [] w wb := hwb ▸ (Chg.refl [] w).alloc _
  have sb : w.heap.size < wb.heap.size := by rw [hwb]; simp
  have v0 : wb.cell? ⟨w.heap.size, 0, none⟩ = some (.int .i64 2) := by rw [hwb]; go_simp
  have v3 : wb.cell? ⟨w.heap.size, 3, none⟩ = some (.string a.word) := by rw [hwb]; go_simp
  rw [← hwb]
  clear hwb qw
  refine (FN.out _ db).mono ?_
  rintro e w1 ⟨rfl, k1⟩
  have p0 := (k1.cell (p := ⟨w.heap.size, 0, none⟩) sb (by simp)).trans v0
  have p3 := (k1.cell (p := ⟨w.heap.size, 3, none⟩) sb (by simp)).trans v3
  have hlt : w.heap.size < w1.heap.size := by have := k1.size; omega
  have d1 : Chg [] w w1 := db.trans0 k1
  clear k1 v0 v3
  go_wp2_with fail
  go_ret
  exact ⟨str_ret HE.out, d1⟩
set_option maxRecDepth 100000 in
set_option maxHeartbeats 8000000 in
theorem actionText_3 (a : ActionT) (A1 A2 : Option Addr) (c1 c2 : Nat) (w : World) (h : a.op = 3) (hok : a.ok) (hE : EnvT w) :
    Calls Tryz.prog 60 #[.agg #[.int .i64 a.op, .int .i64 a.slot, .int .i64 a.other, .string a.word, .string a.call.method, .string a.call.key, .int .i64 a.call.value, .string a.call.text, .int .i64 a.face, .slice A1 a.A.length c1, .slice A2 a.B.length c2]] w (StrPost a.txt w) := by
  have sl := ok_slot hok
  have FN := Lib.hid (fun W (hc : Chg [] w W) => formatNumber_impl_any a.slot W (by have := sl.1; omega) (by have := sl.2; omega) (hE.1.pow.keep hc))
  have ns := numT_size (n := a.slot) (by have := sl.1; omega) (by have := sl.2; omega)
  obtain ⟨n, hn⟩ : ∃ n, n = numT a.slot := ⟨_, rfl⟩
  rw [← hn] at FN ns
  obtain ⟨wd, hwd⟩ : ∃ d, d = (⟨#[117, 110, 119, 114, 97, 112]⟩ : ByteArray) := ⟨_, rfl⟩
  have wds : wd.size = 6 := by rw [hwd]; rfl
  have db0 : Chg [] w (w.alloc (.cells #[.int .i64 3, .int .i64 a.slot, .int .i64 a.other, .string a.word, .string a.call.method, .string a.call.key, .int .i64 a.call.value, .string a.call.text, .int .i64 a.face, .slice A1 a.A.length c1, .slice A2 a.B.length c2] 38)) := (Chg.refl [] w).alloc _
  have qw : (w.alloc (.cells #[.int .i64 3, .int .i64 a.slot, .int .i64 a.other, .string a.word, .string a.call.method, .string a.call.key, .int .i64 a.call.value, .string a.call.text, .int .i64 a.face, .slice A1 a.A.length c1, .slice A2 a.B.length c2] 38)).cell? ⟨0, 3, none⟩ = some (.string wd) := (db0.cell (p := ⟨0, 3, none⟩) hE.2.2.1 (by simp)).trans (by rw [hwd]; exact hE.2.2.2 ⟨3, by decide⟩)
  clear db0
  obtain ⟨T, hT⟩ : ∃ T, T = a.txt := ⟨_, rfl⟩
  have hT2 := hT.trans (txt_3 (.inl h))
  rw [← hT]
  obtain ⟨x1, hx1⟩ : ∃ x, x = wd ++ (⟨#[32]⟩ : ByteArray) := ⟨_, rfl⟩
  obtain ⟨x2, hx2⟩ : ∃ x, x = x1 ++ n := ⟨_, rfl⟩
  have ex1 : (⟨#[32]⟩ : ByteArray).size = 1 := rfl
  have zx1 := cat_sz hx1
  have zx2 := cat_sz hx2
  have kx1 := cat_is (P := Tryz.prog) hx1 (by omega)
  have kx2 := cat_is (P := Tryz.prog) hx2 (by omega)
  have HE : Hid (x2 = T) := by
    show _ = _
    rw [hT2, h, wordT_3, hx2, hx1, hn, hwd]
    try simp only [ByteArray.append_assoc]
  rw [h]
  clear ex1 zx1 zx2 hx1 hx2 hn hwd ns sl hT hT2 hok h hE wds
  go_enter Tryz.func60, Tryz.ntmps60
  go_wp2_with fail
  obtain ⟨wb, hwb⟩ : ∃ wb, wb = w.alloc (.cells #[.int .i64 3, .int .i64 a.slot, .int .i64 a.other, .string a.word, .string a.call.method, .string a.call.key, .int .i64 a.call.value, .string a.call.text, .int .i64 a.face, .slice A1 a.A.length c1, .slice A2 a.B.length c2] 38) := ⟨_, rfl⟩
  have db : Chg [] w wb := hwb ▸ (Chg.refl [] w).alloc _
  have sb : w.heap.size < wb.heap.size := by rw [hwb]; simp
  have v0 : wb.cell? ⟨w.heap.size, 0, none⟩ = some (.int .i64 3) := by rw [hwb]; go_simp
  rw [← hwb]
  clear hwb qw
  refine (FN.out _ db).mono ?_
  rintro e w1 ⟨rfl, k1⟩
  have p0 := (k1.cell (p := ⟨w.heap.size, 0, none⟩) sb (by simp)).trans v0
  have hlt : w.heap.size < w1.heap.size := by have := k1.size; omega
  have d1 : Chg [] w w1 := db.trans0 k1
  clear k1 v0
  go_wp2_with fail
  go_ret
  exact ⟨str_ret HE.out, d1⟩
set_option maxRecDepth 100000 in
set_option maxHeartbeats 8000000 in
theorem actionText_4 (a : ActionT) (A1 A2 : Option Addr) (c1 c2 : Nat) (w : World) (h : a.op = 4) (hok : a.ok) (hE : EnvT w) :
    Calls Tryz.prog 60 #[.agg #[.int .i64 a.op, .int .i64 a.slot, .int .i64 a.other, .string a.word, .string a.call.method, .string a.call.key, .int .i64 a.call.value, .string a.call.text, .int .i64 a.face, .slice A1 a.A.length c1, .slice A2 a.B.length c2]] w (StrPost a.txt w) := by
  have sl := ok_slot hok
  have FN := Lib.hid (fun W (hc : Chg [] w W) => formatNumber_impl_any a.slot W (by have := sl.1; omega) (by have := sl.2; omega) (hE.1.pow.keep hc))
  have ns := numT_size (n := a.slot) (by have := sl.1; omega) (by have := sl.2; omega)
  obtain ⟨n, hn⟩ : ∃ n, n = numT a.slot := ⟨_, rfl⟩
  rw [← hn] at FN ns
  have so := ((okS_4 h).1 hok).2.1
  have FO := Lib.hid (fun W (hc : Chg [] w W) => formatNumber_impl_any a.other W (by have := so.1; omega) (by have := so.2; omega) (hE.1.pow.keep hc))
  have ms := numT_size (n := a.other) (by have := so.1; omega) (by have := so.2; omega)
  obtain ⟨m, hm⟩ : ∃ m, m = numT a.other := ⟨_, rfl⟩
  rw [← hm] at FO ms
  obtain ⟨wd, hwd⟩ : ∃ d, d = (⟨#[99, 111, 112, 121]⟩ : ByteArray) := ⟨_, rfl⟩
  have wds : wd.size = 4 := by rw [hwd]; rfl
  have db0 : Chg [] w (w.alloc (.cells #[.int .i64 4, .int .i64 a.slot, .int .i64 a.other, .string a.word, .string a.call.method, .string a.call.key, .int .i64 a.call.value, .string a.call.text, .int .i64 a.face, .slice A1 a.A.length c1, .slice A2 a.B.length c2] 38)) := (Chg.refl [] w).alloc _
  have qw : (w.alloc (.cells #[.int .i64 4, .int .i64 a.slot, .int .i64 a.other, .string a.word, .string a.call.method, .string a.call.key, .int .i64 a.call.value, .string a.call.text, .int .i64 a.face, .slice A1 a.A.length c1, .slice A2 a.B.length c2] 38)).cell? ⟨0, 4, none⟩ = some (.string wd) := (db0.cell (p := ⟨0, 4, none⟩) hE.2.2.1 (by simp)).trans (by rw [hwd]; exact hE.2.2.2 ⟨4, by decide⟩)
  clear db0
  obtain ⟨T, hT⟩ : ∃ T, T = a.txt := ⟨_, rfl⟩
  have hT2 := hT.trans (txt_4 h)
  rw [← hT]
  obtain ⟨x1, hx1⟩ : ∃ x, x = wd ++ (⟨#[32]⟩ : ByteArray) := ⟨_, rfl⟩
  obtain ⟨x2, hx2⟩ : ∃ x, x = x1 ++ n := ⟨_, rfl⟩
  obtain ⟨x3, hx3⟩ : ∃ x, x = x2 ++ (⟨#[32, 102, 114, 111, 109, 32]⟩ : ByteArray) := ⟨_, rfl⟩
  obtain ⟨x4, hx4⟩ : ∃ x, x = x3 ++ m := ⟨_, rfl⟩
  have ex1 : (⟨#[32]⟩ : ByteArray).size = 1 := rfl
  have ex3 : (⟨#[32, 102, 114, 111, 109, 32]⟩ : ByteArray).size = 6 := rfl
  have zx1 := cat_sz hx1
  have zx2 := cat_sz hx2
  have zx3 := cat_sz hx3
  have zx4 := cat_sz hx4
  have kx1 := cat_is (P := Tryz.prog) hx1 (by omega)
  have kx2 := cat_is (P := Tryz.prog) hx2 (by omega)
  have kx3 := cat_is (P := Tryz.prog) hx3 (by omega)
  have kx4 := cat_is (P := Tryz.prog) hx4 (by omega)
  have HE : Hid (x4 = T) := by
    show _ = _
    rw [hT2, h, wordT_4, hx4, hx3, hx2, hx1, hn, hm, hwd]
    try simp only [ByteArray.append_assoc]
  rw [h]
  clear ex1 ex3 zx1 zx2 zx3 zx4 hx1 hx2 hx3 hx4 hn hm hwd ns sl hT hT2 hok h ms so hE wds
  go_enter Tryz.func60, Tryz.ntmps60
  go_wp2_with fail
  obtain ⟨wb, hwb⟩ : ∃ wb, wb = w.alloc (.cells #[.int .i64 4, .int .i64 a.slot, .int .i64 a.other, .string a.word, .string a.call.method, .string a.call.key, .int .i64 a.call.value, .string a.call.text, .int .i64 a.face, .slice A1 a.A.length c1, .slice A2 a.B.length c2] 38) := ⟨_, rfl⟩
  have db : Chg [] w wb := hwb ▸ (Chg.refl [] w).alloc _
  have sb : w.heap.size < wb.heap.size := by rw [hwb]; simp
  have v0 : wb.cell? ⟨w.heap.size, 0, none⟩ = some (.int .i64 4) := by rw [hwb]; go_simp
  have v2 : wb.cell? ⟨w.heap.size, 2, none⟩ = some (.int .i64 a.other) := by rw [hwb]; go_simp
  rw [← hwb]
  clear hwb qw
  refine (FN.out _ db).mono ?_
  rintro e w1 ⟨rfl, k1⟩
  have p0 := (k1.cell (p := ⟨w.heap.size, 0, none⟩) sb (by simp)).trans v0
  have p2 := (k1.cell (p := ⟨w.heap.size, 2, none⟩) sb (by simp)).trans v2
  have hlt : w.heap.size < w1.heap.size := by have := k1.size; omega
  have d1 : Chg [] w w1 := db.trans0 k1
  clear k1 v0 v2
  go_wp2_with fail
  refine (FO.out _ d1).mono ?_
  rintro e w2 ⟨rfl, k2⟩
  go_wp2_with fail
  go_ret
  exact ⟨str_ret HE.out, d1.trans0 k2⟩
set_option maxRecDepth 100000 in
set_option maxHeartbeats 8000000 in
theorem actionText_5 (a : ActionT) (A1 A2 : Option Addr) (c1 c2 : Nat) (w : World) (h : a.op = 5) (hok : a.ok) (hE : EnvT w) :
    Calls Tryz.prog 60 #[.agg #[.int .i64 a.op, .int .i64 a.slot, .int .i64 a.other, .string a.word, .string a.call.method, .string a.call.key, .int .i64 a.call.value, .string a.call.text, .int .i64 a.face, .slice A1 a.A.length c1, .slice A2 a.B.length c2]] w (StrPost a.txt w) := by
  have sl := ok_slot hok
  have FN := Lib.hid (fun W (hc : Chg [] w W) => formatNumber_impl_any a.slot W (by have := sl.1; omega) (by have := sl.2; omega) (hE.1.pow.keep hc))
  have ns := numT_size (n := a.slot) (by have := sl.1; omega) (by have := sl.2; omega)
  obtain ⟨n, hn⟩ : ∃ n, n = numT a.slot := ⟨_, rfl⟩
  rw [← hn] at FN ns
  obtain ⟨wd, hwd⟩ : ∃ d, d = (⟨#[100, 114, 111, 112]⟩ : ByteArray) := ⟨_, rfl⟩
  have wds : wd.size = 4 := by rw [hwd]; rfl
  have db0 : Chg [] w (w.alloc (.cells #[.int .i64 5, .int .i64 a.slot, .int .i64 a.other, .string a.word, .string a.call.method, .string a.call.key, .int .i64 a.call.value, .string a.call.text, .int .i64 a.face, .slice A1 a.A.length c1, .slice A2 a.B.length c2] 38)) := (Chg.refl [] w).alloc _
  have qw : (w.alloc (.cells #[.int .i64 5, .int .i64 a.slot, .int .i64 a.other, .string a.word, .string a.call.method, .string a.call.key, .int .i64 a.call.value, .string a.call.text, .int .i64 a.face, .slice A1 a.A.length c1, .slice A2 a.B.length c2] 38)).cell? ⟨0, 5, none⟩ = some (.string wd) := (db0.cell (p := ⟨0, 5, none⟩) hE.2.2.1 (by simp)).trans (by rw [hwd]; exact hE.2.2.2 ⟨5, by decide⟩)
  clear db0
  obtain ⟨T, hT⟩ : ∃ T, T = a.txt := ⟨_, rfl⟩
  have hT2 := hT.trans (txt_3 (.inr h))
  rw [← hT]
  obtain ⟨x1, hx1⟩ : ∃ x, x = wd ++ (⟨#[32]⟩ : ByteArray) := ⟨_, rfl⟩
  obtain ⟨x2, hx2⟩ : ∃ x, x = x1 ++ n := ⟨_, rfl⟩
  have ex1 : (⟨#[32]⟩ : ByteArray).size = 1 := rfl
  have zx1 := cat_sz hx1
  have zx2 := cat_sz hx2
  have kx1 := cat_is (P := Tryz.prog) hx1 (by omega)
  have kx2 := cat_is (P := Tryz.prog) hx2 (by omega)
  have HE : Hid (x2 = T) := by
    show _ = _
    rw [hT2, h, wordT_5, hx2, hx1, hn, hwd]
    try simp only [ByteArray.append_assoc]
  rw [h]
  clear ex1 zx1 zx2 hx1 hx2 hn hwd ns sl hT hT2 hok h hE wds
  go_enter Tryz.func60, Tryz.ntmps60
  go_wp2_with fail
  obtain ⟨wb, hwb⟩ : ∃ wb, wb = w.alloc (.cells #[.int .i64 5, .int .i64 a.slot, .int .i64 a.other, .string a.word, .string a.call.method, .string a.call.key, .int .i64 a.call.value, .string a.call.text, .int .i64 a.face, .slice A1 a.A.length c1, .slice A2 a.B.length c2] 38) := ⟨_, rfl⟩
  have db : Chg [] w wb := hwb ▸ (Chg.refl [] w).alloc _
  have sb : w.heap.size < wb.heap.size := by rw [hwb]; simp
  have v0 : wb.cell? ⟨w.heap.size, 0, none⟩ = some (.int .i64 5) := by rw [hwb]; go_simp
  rw [← hwb]
  clear hwb qw
  refine (FN.out _ db).mono ?_
  rintro e w1 ⟨rfl, k1⟩
  have p0 := (k1.cell (p := ⟨w.heap.size, 0, none⟩) sb (by simp)).trans v0
  have hlt : w.heap.size < w1.heap.size := by have := k1.size; omega
  have d1 : Chg [] w w1 := db.trans0 k1
  clear k1 v0
  go_wp2_with fail
  go_ret
  exact ⟨str_ret HE.out, d1⟩
set_option maxRecDepth 100000 in
set_option maxHeartbeats 8000000 in
theorem actionText_6 (a : ActionT) (A1 A2 : Option Addr) (c1 c2 : Nat) (w : World) (h : a.op = 6) (hok : a.ok) (hE : EnvT w) :
    Calls Tryz.prog 60 #[.agg #[.int .i64 a.op, .int .i64 a.slot, .int .i64 a.other, .string a.word, .string a.call.method, .string a.call.key, .int .i64 a.call.value, .string a.call.text, .int .i64 a.face, .slice A1 a.A.length c1, .slice A2 a.B.length c2]] w (StrPost a.txt w) := by
  have sl := ok_slot hok
  have FN := Lib.hid (fun W (hc : Chg [] w W) => formatNumber_impl_any a.slot W (by have := sl.1; omega) (by have := sl.2; omega) (hE.1.pow.keep hc))
  have ns := numT_size (n := a.slot) (by have := sl.1; omega) (by have := sl.2; omega)
  obtain ⟨n, hn⟩ : ∃ n, n = numT a.slot := ⟨_, rfl⟩
  rw [← hn] at FN ns
  have FO := Lib.hid (fun W (hc : Chg [] w W) => formatFace_impl_any a.face W (hE.2.1.keep hc))
  have ms := faceT_size a.face
  obtain ⟨m, hm⟩ : ∃ m, m = faceT a.face := ⟨_, rfl⟩
  rw [← hm] at FO ms
  obtain ⟨wd, hwd⟩ : ∃ d, d = (⟨#[97, 115, 107]⟩ : ByteArray) := ⟨_, rfl⟩
  have wds : wd.size = 3 := by rw [hwd]; rfl
  have db0 : Chg [] w (w.alloc (.cells #[.int .i64 6, .int .i64 a.slot, .int .i64 a.other, .string a.word, .string a.call.method, .string a.call.key, .int .i64 a.call.value, .string a.call.text, .int .i64 a.face, .slice A1 a.A.length c1, .slice A2 a.B.length c2] 38)) := (Chg.refl [] w).alloc _
  have qw : (w.alloc (.cells #[.int .i64 6, .int .i64 a.slot, .int .i64 a.other, .string a.word, .string a.call.method, .string a.call.key, .int .i64 a.call.value, .string a.call.text, .int .i64 a.face, .slice A1 a.A.length c1, .slice A2 a.B.length c2] 38)).cell? ⟨0, 6, none⟩ = some (.string wd) := (db0.cell (p := ⟨0, 6, none⟩) hE.2.2.1 (by simp)).trans (by rw [hwd]; exact hE.2.2.2 ⟨6, by decide⟩)
  clear db0
  obtain ⟨T, hT⟩ : ∃ T, T = a.txt := ⟨_, rfl⟩
  have hT2 := hT.trans (txt_6 h)
  rw [← hT]
  obtain ⟨x1, hx1⟩ : ∃ x, x = wd ++ (⟨#[32]⟩ : ByteArray) := ⟨_, rfl⟩
  obtain ⟨x2, hx2⟩ : ∃ x, x = x1 ++ n := ⟨_, rfl⟩
  obtain ⟨x3, hx3⟩ : ∃ x, x = x2 ++ (⟨#[32]⟩ : ByteArray) := ⟨_, rfl⟩
  obtain ⟨x4, hx4⟩ : ∃ x, x = x3 ++ m := ⟨_, rfl⟩
  have ex1 : (⟨#[32]⟩ : ByteArray).size = 1 := rfl
  have ex3 : (⟨#[32]⟩ : ByteArray).size = 1 := rfl
  have zx1 := cat_sz hx1
  have zx2 := cat_sz hx2
  have zx3 := cat_sz hx3
  have zx4 := cat_sz hx4
  have kx1 := cat_is (P := Tryz.prog) hx1 (by omega)
  have kx2 := cat_is (P := Tryz.prog) hx2 (by omega)
  have kx3 := cat_is (P := Tryz.prog) hx3 (by omega)
  have kx4 := cat_is (P := Tryz.prog) hx4 (by omega)
  have HE : Hid (x4 = T) := by
    show _ = _
    rw [hT2, h, wordT_6, hx4, hx3, hx2, hx1, hn, hm, hwd]
    try simp only [ByteArray.append_assoc]
  rw [h]
  clear ex1 ex3 zx1 zx2 zx3 zx4 hx1 hx2 hx3 hx4 hn hm hwd ns sl hT hT2 hok h ms hE wds
  go_enter Tryz.func60, Tryz.ntmps60
  go_wp2_with fail
  obtain ⟨wb, hwb⟩ : ∃ wb, wb = w.alloc (.cells #[.int .i64 6, .int .i64 a.slot, .int .i64 a.other, .string a.word, .string a.call.method, .string a.call.key, .int .i64 a.call.value, .string a.call.text, .int .i64 a.face, .slice A1 a.A.length c1, .slice A2 a.B.length c2] 38) := ⟨_, rfl⟩
  have db : Chg [] w wb := hwb ▸ (Chg.refl [] w).alloc _
  have sb : w.heap.size < wb.heap.size := by rw [hwb]; simp
  have v0 : wb.cell? ⟨w.heap.size, 0, none⟩ = some (.int .i64 6) := by rw [hwb]; go_simp
  have v8 : wb.cell? ⟨w.heap.size, 8, none⟩ = some (.int .i64 a.face) := by rw [hwb]; go_simp
  rw [← hwb]
  clear hwb qw
  refine (FN.out _ db).mono ?_
  rintro e w1 ⟨rfl, k1⟩
  have p0 := (k1.cell (p := ⟨w.heap.size, 0, none⟩) sb (by simp)).trans v0
  have p8 := (k1.cell (p := ⟨w.heap.size, 8, none⟩) sb (by simp)).trans v8
  have hlt : w.heap.size < w1.heap.size := by have := k1.size; omega
  have d1 : Chg [] w w1 := db.trans0 k1
  clear k1 v0 v8
  go_wp2_with fail
  refine (FO.out _ d1).mono ?_
  rintro e w2 ⟨rfl, k2⟩
  go_wp2_with fail
  go_ret
  exact ⟨str_ret HE.out, d1.trans0 k2⟩
set_option maxRecDepth 100000 in
set_option maxHeartbeats 8000000 in
theorem actionText_7 (a : ActionT) (A1 A2 : Option Addr) (c1 c2 : Nat) (w : World) (h : a.op = 7) (hok : a.ok) (hW : actionW a ≤ 1048576) (hE : EnvT w) :
    Calls Tryz.prog 60 #[.agg #[.int .i64 a.op, .int .i64 a.slot, .int .i64 a.other, .string a.word, .string a.call.method, .string a.call.key, .int .i64 a.call.value, .string a.call.text, .int .i64 a.face, .slice A1 a.A.length c1, .slice A2 a.B.length c2]] w (StrPost a.txt w) := by
  have sl := ok_slot hok
  have FN := Lib.hid (fun W (hc : Chg [] w W) => formatNumber_impl_any a.slot W (by have := sl.1; omega) (by have := sl.2; omega) (hE.1.pow.keep hc))
  have ns := numT_size (n := a.slot) (by have := sl.1; omega) (by have := sl.2; omega)
  obtain ⟨n, hn⟩ : ∃ n, n = numT a.slot := ⟨_, rfl⟩
  rw [← hn] at FN ns
  have asz := act_small hW
  have FO := Lib.hid (fun W (hc : Chg [] w W) => formatCall_impl_any a.call W asz.2.1 asz.2.2.1 (hE.1.keep hc))
  have ms := callT_size (x := a.call)
  obtain ⟨m, hm⟩ : ∃ m, m = callT a.call := ⟨_, rfl⟩
  rw [← hm] at FO ms
  have ac := asz.2.2.2
  obtain ⟨wd, hwd⟩ : ∃ d, d = (⟨#[99, 97, 108, 108]⟩ : ByteArray) := ⟨_, rfl⟩
  have wds : wd.size = 4 := by rw [hwd]; rfl
  have db0 : Chg [] w (w.alloc (.cells #[.int .i64 7, .int .i64 a.slot, .int .i64 a.other, .string a.word, .string a.call.method, .string a.call.key, .int .i64 a.call.value, .string a.call.text, .int .i64 a.face, .slice A1 a.A.length c1, .slice A2 a.B.length c2] 38)) := (Chg.refl [] w).alloc _
  have qw : (w.alloc (.cells #[.int .i64 7, .int .i64 a.slot, .int .i64 a.other, .string a.word, .string a.call.method, .string a.call.key, .int .i64 a.call.value, .string a.call.text, .int .i64 a.face, .slice A1 a.A.length c1, .slice A2 a.B.length c2] 38)).cell? ⟨0, 7, none⟩ = some (.string wd) := (db0.cell (p := ⟨0, 7, none⟩) hE.2.2.1 (by simp)).trans (by rw [hwd]; exact hE.2.2.2 ⟨7, by decide⟩)
  clear db0
  obtain ⟨T, hT⟩ : ∃ T, T = a.txt := ⟨_, rfl⟩
  have hT2 := hT.trans (txt_7 h)
  rw [← hT]
  obtain ⟨x1, hx1⟩ : ∃ x, x = wd ++ (⟨#[32]⟩ : ByteArray) := ⟨_, rfl⟩
  obtain ⟨x2, hx2⟩ : ∃ x, x = x1 ++ n := ⟨_, rfl⟩
  obtain ⟨x3, hx3⟩ : ∃ x, x = x2 ++ (⟨#[32]⟩ : ByteArray) := ⟨_, rfl⟩
  obtain ⟨x4, hx4⟩ : ∃ x, x = x3 ++ m := ⟨_, rfl⟩
  have ex1 : (⟨#[32]⟩ : ByteArray).size = 1 := rfl
  have ex3 : (⟨#[32]⟩ : ByteArray).size = 1 := rfl
  have zx1 := cat_sz hx1
  have zx2 := cat_sz hx2
  have zx3 := cat_sz hx3
  have zx4 := cat_sz hx4
  have kx1 := cat_is (P := Tryz.prog) hx1 (by omega)
  have kx2 := cat_is (P := Tryz.prog) hx2 (by omega)
  have kx3 := cat_is (P := Tryz.prog) hx3 (by omega)
  have kx4 := cat_is (P := Tryz.prog) hx4 (by omega)
  have HE : Hid (x4 = T) := by
    show _ = _
    rw [hT2, h, wordT_7, hx4, hx3, hx2, hx1, hn, hm, hwd]
    try simp only [ByteArray.append_assoc]
  rw [h]
  clear ex1 ex3 zx1 zx2 zx3 zx4 hx1 hx2 hx3 hx4 hn hm hwd ns sl hT hT2 hok h ms ac asz hW hE wds
  go_enter Tryz.func60, Tryz.ntmps60
  go_wp2_with fail
  obtain ⟨wb, hwb⟩ : ∃ wb, wb = w.alloc (.cells #[.int .i64 7, .int .i64 a.slot, .int .i64 a.other, .string a.word, .string a.call.method, .string a.call.key, .int .i64 a.call.value, .string a.call.text, .int .i64 a.face, .slice A1 a.A.length c1, .slice A2 a.B.length c2] 38) := ⟨_, rfl⟩
  have db : Chg [] w wb := hwb ▸ (Chg.refl [] w).alloc _
  have sb : w.heap.size < wb.heap.size := by rw [hwb]; simp
  have v0 : wb.cell? ⟨w.heap.size, 0, none⟩ = some (.int .i64 7) := by rw [hwb]; go_simp
  have v4 : wb.cell? ⟨w.heap.size, 4, none⟩ = some (.string a.call.method) := by rw [hwb]; go_simp
  have v5 : wb.cell? ⟨w.heap.size, 5, none⟩ = some (.string a.call.key) := by rw [hwb]; go_simp
  have v6 : wb.cell? ⟨w.heap.size, 6, none⟩ = some (.int .i64 a.call.value) := by rw [hwb]; go_simp
  have v7 : wb.cell? ⟨w.heap.size, 7, none⟩ = some (.string a.call.text) := by rw [hwb]; go_simp
  rw [← hwb]
  clear hwb qw
  refine (FN.out _ db).mono ?_
  rintro e w1 ⟨rfl, k1⟩
  have p0 := (k1.cell (p := ⟨w.heap.size, 0, none⟩) sb (by simp)).trans v0
  have p4 := (k1.cell (p := ⟨w.heap.size, 4, none⟩) sb (by simp)).trans v4
  have p5 := (k1.cell (p := ⟨w.heap.size, 5, none⟩) sb (by simp)).trans v5
  have p6 := (k1.cell (p := ⟨w.heap.size, 6, none⟩) sb (by simp)).trans v6
  have p7 := (k1.cell (p := ⟨w.heap.size, 7, none⟩) sb (by simp)).trans v7
  have hlt : w.heap.size < w1.heap.size := by have := k1.size; omega
  have d1 : Chg [] w w1 := db.trans0 k1
  clear k1 v0 v4 v5 v6 v7
  go_wp2_with fail
  refine (FO.out _ d1).mono ?_
  rintro e w2 ⟨rfl, k2⟩
  go_wp2_with fail
  go_ret
  exact ⟨str_ret HE.out, d1.trans0 k2⟩
set_option maxRecDepth 100000 in
set_option maxHeartbeats 8000000 in
theorem actionText_8 (a : ActionT) (A1 A2 : Option Addr) (c1 c2 : Nat) (w : World) (h : a.op = 8) (hok : a.ok) (hz : a.size ≤ 14) (hW : actionW a ≤ 1048576) (hE : EnvT w) (IA : ∀ W, Chg [] w W → Calls Tryz.prog 94 #[.slice A1 a.A.length c1] W (StrPost (blkT (txtL a.A)) W)) (IB : ∀ W, Chg [] w W → Calls Tryz.prog 94 #[.slice A2 a.B.length c2] W (StrPost (blkT (txtL a.B)) W)) :
    Calls Tryz.prog 60 #[.agg #[.int .i64 a.op, .int .i64 a.slot, .int .i64 a.other, .string a.word, .string a.call.method, .string a.call.key, .int .i64 a.call.value, .string a.call.text, .int .i64 a.face, .slice A1 a.A.length c1, .slice A2 a.B.length c2]] w (StrPost a.txt w) := by
  have sl := ok_slot hok
  have FN := Lib.hid (fun W (hc : Chg [] w W) => formatNumber_impl_any a.slot W (by have := sl.1; omega) (by have := sl.2; omega) (hE.1.pow.keep hc))
  have ns := numT_size (n := a.slot) (by have := sl.1; omega) (by have := sl.2; omega)
  obtain ⟨n, hn⟩ : ∃ n, n = numT a.slot := ⟨_, rfl⟩
  rw [← hn] at FN ns
  have bs := body_small hok hz hW
  have bA_ := bs.2.2.1
  have IA := Lib.hid IA
  obtain ⟨bA, hbA⟩ : ∃ b, b = blkT (txtL a.A) := ⟨_, rfl⟩
  rw [← hbA] at IA bA_
  have bB_ := bs.2.2.2
  have IB := Lib.hid IB
  obtain ⟨bB, hbB⟩ : ∃ b, b = blkT (txtL a.B) := ⟨_, rfl⟩
  rw [← hbB] at IB bB_
  clear bs
  obtain ⟨wd, hwd⟩ : ∃ d, d = (⟨#[105, 102]⟩ : ByteArray) := ⟨_, rfl⟩
  have wds : wd.size = 2 := by rw [hwd]; rfl
  have db0 : Chg [] w (w.alloc (.cells #[.int .i64 8, .int .i64 a.slot, .int .i64 a.other, .string a.word, .string a.call.method, .string a.call.key, .int .i64 a.call.value, .string a.call.text, .int .i64 a.face, .slice A1 a.A.length c1, .slice A2 a.B.length c2] 38)) := (Chg.refl [] w).alloc _
  have qw : (w.alloc (.cells #[.int .i64 8, .int .i64 a.slot, .int .i64 a.other, .string a.word, .string a.call.method, .string a.call.key, .int .i64 a.call.value, .string a.call.text, .int .i64 a.face, .slice A1 a.A.length c1, .slice A2 a.B.length c2] 38)).cell? ⟨0, 8, none⟩ = some (.string wd) := (db0.cell (p := ⟨0, 8, none⟩) hE.2.2.1 (by simp)).trans (by rw [hwd]; exact hE.2.2.2 ⟨8, by decide⟩)
  clear db0
  obtain ⟨T, hT⟩ : ∃ T, T = a.txt := ⟨_, rfl⟩
  have hT2 := hT.trans (txt_8 (.inl h))
  rw [← hT]
  obtain ⟨x1, hx1⟩ : ∃ x, x = wd ++ (⟨#[32]⟩ : ByteArray) := ⟨_, rfl⟩
  obtain ⟨x2, hx2⟩ : ∃ x, x = x1 ++ n := ⟨_, rfl⟩
  obtain ⟨y2, hy2⟩ : ∃ x, x = x1 ++ bA := ⟨_, rfl⟩
  obtain ⟨y3, hy3⟩ : ∃ x, x = y2 ++ (⟨#[32, 101, 108, 115, 101, 32]⟩ : ByteArray) := ⟨_, rfl⟩
  obtain ⟨y4, hy4⟩ : ∃ x, x = y3 ++ bB := ⟨_, rfl⟩
  have ex1 : (⟨#[32]⟩ : ByteArray).size = 1 := rfl
  have ey3 : (⟨#[32, 101, 108, 115, 101, 32]⟩ : ByteArray).size = 6 := rfl
  have zx1 := cat_sz hx1
  have zx2 := cat_sz hx2
  have zy2 := cat_sz hy2
  have zy3 := cat_sz hy3
  have zy4 := cat_sz hy4
  have kx1 := cat_is (P := Tryz.prog) hx1 (by omega)
  have kx2 := cat_is (P := Tryz.prog) hx2 (by omega)
  have ky2 := cat_is (P := Tryz.prog) hy2 (by omega)
  have ky3 := cat_is (P := Tryz.prog) hy3 (by omega)
  have ky4 := cat_is (P := Tryz.prog) hy4 (by omega)
  have HE : Hid (y4 = T) := by
    show _ = _
    rw [hT2, h, wordT_8, hy4, hy3, hy2, hx1, hbA, hbB, hwd]
    try simp only [ByteArray.append_assoc]
  rw [h]
  clear ex1 ey3 zx1 zx2 zy2 zy3 zy4 hx1 hx2 hy2 hy3 hy4 hn hbA hbB hwd ns sl hT hT2 hok h hz hW bA_ bB_ hE wds
  go_enter Tryz.func60, Tryz.ntmps60
  go_wp2_with fail
  obtain ⟨wb, hwb⟩ : ∃ wb, wb = w.alloc (.cells #[.int .i64 8, .int .i64 a.slot, .int .i64 a.other, .string a.word, .string a.call.method, .string a.call.key, .int .i64 a.call.value, .string a.call.text, .int .i64 a.face, .slice A1 a.A.length c1, .slice A2 a.B.length c2] 38) := ⟨_, rfl⟩
  have db : Chg [] w wb := hwb ▸ (Chg.refl [] w).alloc _
  have sb : w.heap.size < wb.heap.size := by rw [hwb]; simp
  have v0 : wb.cell? ⟨w.heap.size, 0, none⟩ = some (.int .i64 8) := by rw [hwb]; go_simp
  have v9 : wb.cell? ⟨w.heap.size, 9, none⟩ = some (.slice A1 a.A.length c1) := by rw [hwb]; go_simp
  have v10 : wb.cell? ⟨w.heap.size, 10, none⟩ = some (.slice A2 a.B.length c2) := by rw [hwb]; go_simp
  rw [← hwb]
  clear hwb qw
  refine (FN.out _ db).mono ?_
  rintro e w1 ⟨rfl, k1⟩
  have p0 := (k1.cell (p := ⟨w.heap.size, 0, none⟩) sb (by simp)).trans v0
  have p9 := (k1.cell (p := ⟨w.heap.size, 9, none⟩) sb (by simp)).trans v9
  have p10 := (k1.cell (p := ⟨w.heap.size, 10, none⟩) sb (by simp)).trans v10
  have hlt : w.heap.size < w1.heap.size := by have := k1.size; omega
  have d1 : Chg [] w w1 := db.trans0 k1
  clear k1 v0 v9 v10
  go_wp2_with fail
  go_region_held3 (fun w' => w'.cell? ⟨w.heap.size, 9, none⟩ = some (.slice A1 a.A.length c1) ∧ w'.cell? ⟨w.heap.size, 10, none⟩ = some (.slice A2 a.B.length c2) ∧ w.heap.size < w'.heap.size ∧ Chg [] w w') (first | exact ⟨p9, p10, hlt, d1.drew⟩ | exact ⟨(c1.cell E3 (by simp)).trans E1, (c1.cell E3 (by simp)).trans E2, by have := c1.size; omega, E4.trans0 c1⟩) (first | (go_at_call 94; obtain ⟨E1, E2, E3, E4⟩ := ‹_ ∧ _ ∧ _ ∧ Chg [] w _›; (with_reducible refine (IA.out _ E4).mono ?_); rintro e w1 ⟨rfl, c1⟩) | (go_at_call 94; obtain ⟨E1, E2, E3, E4⟩ := ‹_ ∧ _ ∧ _ ∧ Chg [] w _›; (with_reducible refine (IB.out _ E4).mono ?_); rintro e w1 ⟨rfl, c1⟩))
  obtain ⟨_, _, _, E⟩ := ‹_ ∧ _ ∧ _ ∧ Chg [] w _›
  go_wp2_with fail
  go_ret
  exact ⟨str_ret HE.out, E⟩
set_option maxRecDepth 100000 in
set_option maxHeartbeats 8000000 in
theorem actionText_9 (a : ActionT) (A1 A2 : Option Addr) (c1 c2 : Nat) (w : World) (h : a.op = 9) (hok : a.ok) (hz : a.size ≤ 14) (hW : actionW a ≤ 1048576) (hE : EnvT w) (IA : ∀ W, Chg [] w W → Calls Tryz.prog 94 #[.slice A1 a.A.length c1] W (StrPost (blkT (txtL a.A)) W)) :
    Calls Tryz.prog 60 #[.agg #[.int .i64 a.op, .int .i64 a.slot, .int .i64 a.other, .string a.word, .string a.call.method, .string a.call.key, .int .i64 a.call.value, .string a.call.text, .int .i64 a.face, .slice A1 a.A.length c1, .slice A2 a.B.length c2]] w (StrPost a.txt w) := by
  have sl := ok_slot hok
  have FN := Lib.hid (fun W (hc : Chg [] w W) => formatNumber_impl_any a.slot W (by have := sl.1; omega) (by have := sl.2; omega) (hE.1.pow.keep hc))
  have ns := numT_size (n := a.slot) (by have := sl.1; omega) (by have := sl.2; omega)
  obtain ⟨n, hn⟩ : ∃ n, n = numT a.slot := ⟨_, rfl⟩
  rw [← hn] at FN ns
  have bs := body_small hok hz hW
  have bA_ := bs.2.2.1
  have IA := Lib.hid IA
  obtain ⟨bA, hbA⟩ : ∃ b, b = blkT (txtL a.A) := ⟨_, rfl⟩
  rw [← hbA] at IA bA_
  clear bs
  obtain ⟨wd, hwd⟩ : ∃ d, d = (⟨#[108, 111, 111, 112]⟩ : ByteArray) := ⟨_, rfl⟩
  have wds : wd.size = 4 := by rw [hwd]; rfl
  have db0 : Chg [] w (w.alloc (.cells #[.int .i64 9, .int .i64 a.slot, .int .i64 a.other, .string a.word, .string a.call.method, .string a.call.key, .int .i64 a.call.value, .string a.call.text, .int .i64 a.face, .slice A1 a.A.length c1, .slice A2 a.B.length c2] 38)) := (Chg.refl [] w).alloc _
  have qw : (w.alloc (.cells #[.int .i64 9, .int .i64 a.slot, .int .i64 a.other, .string a.word, .string a.call.method, .string a.call.key, .int .i64 a.call.value, .string a.call.text, .int .i64 a.face, .slice A1 a.A.length c1, .slice A2 a.B.length c2] 38)).cell? ⟨0, 9, none⟩ = some (.string wd) := (db0.cell (p := ⟨0, 9, none⟩) hE.2.2.1 (by simp)).trans (by rw [hwd]; exact hE.2.2.2 ⟨9, by decide⟩)
  clear db0
  obtain ⟨T, hT⟩ : ∃ T, T = a.txt := ⟨_, rfl⟩
  have hT2 := hT.trans (txt_9 h)
  rw [← hT]
  obtain ⟨x1, hx1⟩ : ∃ x, x = wd ++ (⟨#[32]⟩ : ByteArray) := ⟨_, rfl⟩
  obtain ⟨x2, hx2⟩ : ∃ x, x = x1 ++ n := ⟨_, rfl⟩
  obtain ⟨y2, hy2⟩ : ∃ x, x = x1 ++ bA := ⟨_, rfl⟩
  have ex1 : (⟨#[32]⟩ : ByteArray).size = 1 := rfl
  have zx1 := cat_sz hx1
  have zx2 := cat_sz hx2
  have zy2 := cat_sz hy2
  have kx1 := cat_is (P := Tryz.prog) hx1 (by omega)
  have kx2 := cat_is (P := Tryz.prog) hx2 (by omega)
  have ky2 := cat_is (P := Tryz.prog) hy2 (by omega)
  have HE : Hid (y2 = T) := by
    show _ = _
    rw [hT2, h, wordT_9, hy2, hx1, hbA, hwd]
    try simp only [ByteArray.append_assoc]
  rw [h]
  clear ex1 zx1 zx2 zy2 hx1 hx2 hy2 hn hbA hwd ns sl hT hT2 hok h hz hW bA_ hE wds
  go_enter Tryz.func60, Tryz.ntmps60
  go_wp2_with fail
  obtain ⟨wb, hwb⟩ : ∃ wb, wb = w.alloc (.cells #[.int .i64 9, .int .i64 a.slot, .int .i64 a.other, .string a.word, .string a.call.method, .string a.call.key, .int .i64 a.call.value, .string a.call.text, .int .i64 a.face, .slice A1 a.A.length c1, .slice A2 a.B.length c2] 38) := ⟨_, rfl⟩
  have db : Chg [] w wb := hwb ▸ (Chg.refl [] w).alloc _
  have sb : w.heap.size < wb.heap.size := by rw [hwb]; simp
  have v0 : wb.cell? ⟨w.heap.size, 0, none⟩ = some (.int .i64 9) := by rw [hwb]; go_simp
  have v9 : wb.cell? ⟨w.heap.size, 9, none⟩ = some (.slice A1 a.A.length c1) := by rw [hwb]; go_simp
  rw [← hwb]
  clear hwb qw
  refine (FN.out _ db).mono ?_
  rintro e w1 ⟨rfl, k1⟩
  have p0 := (k1.cell (p := ⟨w.heap.size, 0, none⟩) sb (by simp)).trans v0
  have p9 := (k1.cell (p := ⟨w.heap.size, 9, none⟩) sb (by simp)).trans v9
  have hlt : w.heap.size < w1.heap.size := by have := k1.size; omega
  have d1 : Chg [] w w1 := db.trans0 k1
  clear k1 v0 v9
  go_wp2_with fail
  refine (IA.out _ d1).mono ?_
  rintro e w2 ⟨rfl, k2⟩
  go_wp2_with fail
  go_ret
  exact ⟨str_ret HE.out, d1.trans0 k2⟩
set_option maxRecDepth 100000 in
set_option maxHeartbeats 8000000 in
theorem actionText_10 (a : ActionT) (A1 A2 : Option Addr) (c1 c2 : Nat) (w : World) (h : a.op = 10) (hok : a.ok) (hz : a.size ≤ 14) (hW : actionW a ≤ 1048576) (hE : EnvT w) (IA : ∀ W, Chg [] w W → Calls Tryz.prog 94 #[.slice A1 a.A.length c1] W (StrPost (blkT (txtL a.A)) W)) (IB : ∀ W, Chg [] w W → Calls Tryz.prog 94 #[.slice A2 a.B.length c2] W (StrPost (blkT (txtL a.B)) W)) :
    Calls Tryz.prog 60 #[.agg #[.int .i64 a.op, .int .i64 a.slot, .int .i64 a.other, .string a.word, .string a.call.method, .string a.call.key, .int .i64 a.call.value, .string a.call.text, .int .i64 a.face, .slice A1 a.A.length c1, .slice A2 a.B.length c2]] w (StrPost a.txt w) := by
  have sl := ok_slot hok
  have FN := Lib.hid (fun W (hc : Chg [] w W) => formatNumber_impl_any a.slot W (by have := sl.1; omega) (by have := sl.2; omega) (hE.1.pow.keep hc))
  have ns := numT_size (n := a.slot) (by have := sl.1; omega) (by have := sl.2; omega)
  obtain ⟨n, hn⟩ : ∃ n, n = numT a.slot := ⟨_, rfl⟩
  rw [← hn] at FN ns
  have bs := body_small hok hz hW
  have bA_ := bs.2.2.1
  have IA := Lib.hid IA
  obtain ⟨bA, hbA⟩ : ∃ b, b = blkT (txtL a.A) := ⟨_, rfl⟩
  rw [← hbA] at IA bA_
  have bB_ := bs.2.2.2
  have IB := Lib.hid IB
  obtain ⟨bB, hbB⟩ : ∃ b, b = blkT (txtL a.B) := ⟨_, rfl⟩
  rw [← hbB] at IB bB_
  clear bs
  obtain ⟨wd, hwd⟩ : ∃ d, d = (⟨#[116, 114, 121]⟩ : ByteArray) := ⟨_, rfl⟩
  have wds : wd.size = 3 := by rw [hwd]; rfl
  have db0 : Chg [] w (w.alloc (.cells #[.int .i64 10, .int .i64 a.slot, .int .i64 a.other, .string a.word, .string a.call.method, .string a.call.key, .int .i64 a.call.value, .string a.call.text, .int .i64 a.face, .slice A1 a.A.length c1, .slice A2 a.B.length c2] 38)) := (Chg.refl [] w).alloc _
  have qw : (w.alloc (.cells #[.int .i64 10, .int .i64 a.slot, .int .i64 a.other, .string a.word, .string a.call.method, .string a.call.key, .int .i64 a.call.value, .string a.call.text, .int .i64 a.face, .slice A1 a.A.length c1, .slice A2 a.B.length c2] 38)).cell? ⟨0, 10, none⟩ = some (.string wd) := (db0.cell (p := ⟨0, 10, none⟩) hE.2.2.1 (by simp)).trans (by rw [hwd]; exact hE.2.2.2 ⟨10, by decide⟩)
  clear db0
  obtain ⟨T, hT⟩ : ∃ T, T = a.txt := ⟨_, rfl⟩
  have hT2 := hT.trans (txt_8 (.inr h))
  rw [← hT]
  obtain ⟨x1, hx1⟩ : ∃ x, x = wd ++ (⟨#[32]⟩ : ByteArray) := ⟨_, rfl⟩
  obtain ⟨x2, hx2⟩ : ∃ x, x = x1 ++ n := ⟨_, rfl⟩
  obtain ⟨y2, hy2⟩ : ∃ x, x = x1 ++ bA := ⟨_, rfl⟩
  obtain ⟨y3, hy3⟩ : ∃ x, x = y2 ++ (⟨#[32, 101, 108, 115, 101, 32]⟩ : ByteArray) := ⟨_, rfl⟩
  obtain ⟨y4, hy4⟩ : ∃ x, x = y3 ++ bB := ⟨_, rfl⟩
  have ex1 : (⟨#[32]⟩ : ByteArray).size = 1 := rfl
  have ey3 : (⟨#[32, 101, 108, 115, 101, 32]⟩ : ByteArray).size = 6 := rfl
  have zx1 := cat_sz hx1
  have zx2 := cat_sz hx2
  have zy2 := cat_sz hy2
  have zy3 := cat_sz hy3
  have zy4 := cat_sz hy4
  have kx1 := cat_is (P := Tryz.prog) hx1 (by omega)
  have kx2 := cat_is (P := Tryz.prog) hx2 (by omega)
  have ky2 := cat_is (P := Tryz.prog) hy2 (by omega)
  have ky3 := cat_is (P := Tryz.prog) hy3 (by omega)
  have ky4 := cat_is (P := Tryz.prog) hy4 (by omega)
  have HE : Hid (y4 = T) := by
    show _ = _
    rw [hT2, h, wordT_10, hy4, hy3, hy2, hx1, hbA, hbB, hwd]
    try simp only [ByteArray.append_assoc]
  rw [h]
  clear ex1 ey3 zx1 zx2 zy2 zy3 zy4 hx1 hx2 hy2 hy3 hy4 hn hbA hbB hwd ns sl hT hT2 hok h hz hW bA_ bB_ hE wds
  go_enter Tryz.func60, Tryz.ntmps60
  go_wp2_with fail
  obtain ⟨wb, hwb⟩ : ∃ wb, wb = w.alloc (.cells #[.int .i64 10, .int .i64 a.slot, .int .i64 a.other, .string a.word, .string a.call.method, .string a.call.key, .int .i64 a.call.value, .string a.call.text, .int .i64 a.face, .slice A1 a.A.length c1, .slice A2 a.B.length c2] 38) := ⟨_, rfl⟩
  have db : Chg [] w wb := hwb ▸ (Chg.refl [] w).alloc _
  have sb : w.heap.size < wb.heap.size := by rw [hwb]; simp
  have v0 : wb.cell? ⟨w.heap.size, 0, none⟩ = some (.int .i64 10) := by rw [hwb]; go_simp
  have v9 : wb.cell? ⟨w.heap.size, 9, none⟩ = some (.slice A1 a.A.length c1) := by rw [hwb]; go_simp
  have v10 : wb.cell? ⟨w.heap.size, 10, none⟩ = some (.slice A2 a.B.length c2) := by rw [hwb]; go_simp
  rw [← hwb]
  clear hwb qw
  refine (FN.out _ db).mono ?_
  rintro e w1 ⟨rfl, k1⟩
  have p0 := (k1.cell (p := ⟨w.heap.size, 0, none⟩) sb (by simp)).trans v0
  have p9 := (k1.cell (p := ⟨w.heap.size, 9, none⟩) sb (by simp)).trans v9
  have p10 := (k1.cell (p := ⟨w.heap.size, 10, none⟩) sb (by simp)).trans v10
  have hlt : w.heap.size < w1.heap.size := by have := k1.size; omega
  have d1 : Chg [] w w1 := db.trans0 k1
  clear k1 v0 v9 v10
  go_wp2_with fail
  go_region_held3 (fun w' => w'.cell? ⟨w.heap.size, 9, none⟩ = some (.slice A1 a.A.length c1) ∧ w'.cell? ⟨w.heap.size, 10, none⟩ = some (.slice A2 a.B.length c2) ∧ w.heap.size < w'.heap.size ∧ Chg [] w w') (first | exact ⟨p9, p10, hlt, d1.drew⟩ | exact ⟨(c1.cell E3 (by simp)).trans E1, (c1.cell E3 (by simp)).trans E2, by have := c1.size; omega, E4.trans0 c1⟩) (first | (go_at_call 94; obtain ⟨E1, E2, E3, E4⟩ := ‹_ ∧ _ ∧ _ ∧ Chg [] w _›; (with_reducible refine (IA.out _ E4).mono ?_); rintro e w1 ⟨rfl, c1⟩) | (go_at_call 94; obtain ⟨E1, E2, E3, E4⟩ := ‹_ ∧ _ ∧ _ ∧ Chg [] w _›; (with_reducible refine (IB.out _ E4).mono ?_); rintro e w1 ⟨rfl, c1⟩))
  obtain ⟨_, _, _, E⟩ := ‹_ ∧ _ ∧ _ ∧ Chg [] w _›
  go_wp2_with fail
  go_ret
  exact ⟨str_ret HE.out, E⟩
theorem actionText_any (a : ActionT) (A1 A2 : Option Addr) (c1 c2 : Nat) (w : World) (hok : a.ok) (hz : a.size ≤ 14) (hW : actionW a ≤ 1048576) (hE : EnvT w) (IA : ∀ W, Chg [] w W → Calls Tryz.prog 94 #[.slice A1 a.A.length c1] W (StrPost (blkT (txtL a.A)) W)) (IB : ∀ W, Chg [] w W → Calls Tryz.prog 94 #[.slice A2 a.B.length c2] W (StrPost (blkT (txtL a.B)) W)) :
    Calls Tryz.prog 60 #[.agg #[.int .i64 a.op, .int .i64 a.slot, .int .i64 a.other, .string a.word, .string a.call.method, .string a.call.key, .int .i64 a.call.value, .string a.call.text, .int .i64 a.face, .slice A1 a.A.length c1, .slice A2 a.B.length c2]] w (StrPost a.txt w) := by
  rcases op_cases a.op with (h | h | h | h | h | h | h | h | h | h) | h
  · exact actionText_1 a A1 A2 c1 c2 w h hok hW hE
  · exact actionText_2 a A1 A2 c1 c2 w h hok hW hE
  · exact actionText_3 a A1 A2 c1 c2 w h hok hE
  · exact actionText_4 a A1 A2 c1 c2 w h hok hE
  · exact actionText_5 a A1 A2 c1 c2 w h hok hE
  · exact actionText_6 a A1 A2 c1 c2 w h hok hE
  · exact actionText_7 a A1 A2 c1 c2 w h hok hW hE
  · exact actionText_8 a A1 A2 c1 c2 w h hok hz hW hE IA IB
  · exact actionText_9 a A1 A2 c1 c2 w h hok hz hW hE IA
  · exact actionText_10 a A1 A2 c1 c2 w h hok hz hW hE IA IB
  · exact absurd (ok_op hok) h.1
end Go.Proofs.YtkgffhlpcjjobaaGreatDoor
