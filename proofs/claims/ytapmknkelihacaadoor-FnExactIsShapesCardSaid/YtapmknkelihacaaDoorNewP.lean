/- FaceOf, NewCore, NewPart of both packages. Written by a program. -/
import Derived.Test.YtapmknkelihacaaDoorWrapDef
namespace Go.Proofs.YtapmknkelihacaaDoor
open Go.RowKit

set_option maxRecDepth 100000 in
set_option maxHeartbeats 1000000 in
theorem faceOf_impl_any (p : PartT) (u3 u5 : Value) (B : Nat) (w : World) (r5 : Rd w B (layers p.layers) u5) (hB : B ≤ w.heap.size) :
    Calls Tryd.prog 50 #[.agg #[.string p.core.kind, .bool p.core.on, .bool p.core.broken, u3, .int .i64 p.core.count, u5]] w (IntPost (faceAt p p.layers.length) w) := by
  obtain ⟨A, cap, rfl, h0, h1, hrow⟩ := layers_row r5
  unfold maxLen at h1
  have tt : w.heap.size < w.heap.size + 1 := Nat.lt_succ_self _
  have FB := Lib.hid (fun W (hW : Chg [] w W) => faceBelow_any p p.layers.length u3 _ B W (r5.chg0 hW hB) (by have := hW.size; omega) (Nat.le_refl _))
  go_enter Tryd.func50, Tryd.ntmps50
  go_wp2_with fail
  refine (FB.out _ ?_).mono ?_
  · repeat (first | with_reducible exact Chg.refl _ _ | with_reducible refine Chg.drew ?_ | with_reducible refine Chg.alloc ?_ _)
  rintro e w1 ⟨rfl, c1⟩
  go_wp2_with fail
  go_ret
  exact ⟨rfl, ((Chg.refl _ _).alloc _).trans0 c1⟩
set_option maxRecDepth 100000 in
set_option maxHeartbeats 1000000 in
theorem faceOf_spec_any (p : PartT) (u3 u5 : Value) (B : Nat) (w : World) (r5 : Rd w B (layers p.layers) u5) (hB : B ≤ w.heap.size) :
    Calls Tryd.prog 47 #[.agg #[.string p.core.kind, .bool p.core.on, .bool p.core.broken, u3, .int .i64 p.core.count, u5]] w (IntPost (faceAt p p.layers.length) w) := by
  obtain ⟨A, cap, rfl, h0, h1, hrow⟩ := layers_row r5
  unfold maxLen at h1
  have tt : w.heap.size < w.heap.size + 1 := Nat.lt_succ_self _
  have FB := Lib.hid (fun W (hW : Chg [] w W) => l4Face_any p p.layers.length u3 _ B W (r5.chg0 hW hB) (by have := hW.size; omega) (Nat.le_refl _))
  go_enter Tryd.func47, Tryd.ntmps47
  go_wp2_with fail
  refine (FB.out _ ?_).mono ?_
  · repeat (first | with_reducible exact Chg.refl _ _ | with_reducible refine Chg.drew ?_ | with_reducible refine Chg.alloc ?_ _)
  rintro e w1 ⟨rfl, c1⟩
  go_wp2_with fail
  go_ret
  exact ⟨rfl, ((Chg.refl _ _).alloc _).trans0 c1⟩
set_option maxRecDepth 100000 in
set_option maxHeartbeats 1000000 in
theorem newCore_impl_some_any (k : ByteArray) {f : Int} (hk : kindOf k = some f) (w : World) :
    Calls Tryd.prog 70 #[.string k] w (fun e w' => e = .returned (.tuple #[.agg #[.string k, .bool false, .bool false, .slice none 0 0, .int .i64 0], .bool true]) ∧ Chg [] w w') := by
  have tt : w.heap.size < w.heap.size + 1 := Nat.lt_succ_self _
  have KF := Lib.hid (fun W => (kindFace_impl_any k W).mono (OptIs.some_ hk))
  clear hk
  go_enter Tryd.func70, Tryd.ntmps70
  go_wp2_with fail
  refine (KF.out _).mono ?_
  rintro e w1 ⟨rfl, rfl⟩
  go_wp2_with fail
  refine bodyPost_ret (v := .tuple #[.agg #[.string k, .bool false, .bool false, .slice none 0 0, .int .i64 0], .bool true]) (by simp only [results, Tryd.results70]; go_simp) rfl ⟨rfl, ?_⟩
  repeat (first | with_reducible exact Chg.refl _ _ | with_reducible refine Chg.alloc ?_ _ | with_reducible refine Chg.setCell ?_ (.inr (by simp)) _)
set_option maxRecDepth 100000 in
set_option maxHeartbeats 1000000 in
theorem newCore_impl_none_any (k : ByteArray) (hk : kindOf k = none) (w : World) :
    Calls Tryd.prog 70 #[.string k] w (fun e w' => e = .returned (.tuple #[.agg #[.string ⟨#[]⟩, .bool false, .bool false, .slice none 0 0, .int .i64 0], .bool false]) ∧ Chg [] w w') := by
  have tt : w.heap.size < w.heap.size + 1 := Nat.lt_succ_self _
  have KF := Lib.hid (fun W => (kindFace_impl_any k W).mono (OptIs.none_ hk))
  clear hk
  go_enter Tryd.func70, Tryd.ntmps70
  go_wp2_with fail
  refine (KF.out _).mono ?_
  rintro e w1 ⟨rfl, rfl⟩
  go_wp2_with fail
  refine bodyPost_ret (v := .tuple #[.agg #[.string ⟨#[]⟩, .bool false, .bool false, .slice none 0 0, .int .i64 0], .bool false]) (by simp only [results, Tryd.results70]; go_simp) rfl ⟨rfl, ?_⟩
  repeat (first | with_reducible exact Chg.refl _ _ | with_reducible refine Chg.alloc ?_ _ | with_reducible refine Chg.setCell ?_ (.inr (by simp)) _)
set_option maxRecDepth 100000 in
set_option maxHeartbeats 1000000 in
theorem newCore_spec_some_any (k : ByteArray) {f : Int} (hk : kindOf k = some f) (w : World) :
    Calls Tryd.prog 64 #[.string k] w (fun e w' => e = .returned (.tuple #[.agg #[.string k, .bool false, .bool false, .slice none 0 0, .int .i64 0], .bool true]) ∧ Chg [] w w') := by
  have tt : w.heap.size < w.heap.size + 1 := Nat.lt_succ_self _
  have KF := Lib.hid (fun W => (kindFace_spec_any k W).mono (OptPost.some_ hk))
  clear hk
  go_enter Tryd.func64, Tryd.ntmps64
  go_wp2_with fail
  refine (KF.out _).mono ?_
  rintro e w1 ⟨rfl, c1⟩
  obtain ⟨y1, z1, s1⟩ := c1.cells
  have t1 : w.heap.size < w1.heap.size := by simp at s1; omega
  go_wp2_with fail
  refine bodyPost_ret (v := .tuple #[.agg #[.string k, .bool false, .bool false, .slice none 0 0, .int .i64 0], .bool true]) (by simp only [results, Tryd.results64]; go_simp) rfl ⟨rfl, ?_⟩
  have E : Chg [] w w1 := ((Chg.refl _ _).alloc _).trans0 c1
  repeat (first | with_reducible exact E | with_reducible refine Chg.setCell ?_ (.inr (by simp)) _)
set_option maxRecDepth 100000 in
set_option maxHeartbeats 1000000 in
theorem newCore_spec_none_any (k : ByteArray) (hk : kindOf k = none) (w : World) :
    Calls Tryd.prog 64 #[.string k] w (fun e w' => e = .returned (.tuple #[.agg #[.string ⟨#[]⟩, .bool false, .bool false, .slice none 0 0, .int .i64 0], .bool false]) ∧ Chg [] w w') := by
  have tt : w.heap.size < w.heap.size + 1 := Nat.lt_succ_self _
  have KF := Lib.hid (fun W => (kindFace_spec_any k W).mono (OptPost.none_ hk))
  clear hk
  go_enter Tryd.func64, Tryd.ntmps64
  go_wp2_with fail
  refine (KF.out _).mono ?_
  rintro e w1 ⟨rfl, c1⟩
  obtain ⟨y1, z1, s1⟩ := c1.cells
  have t1 : w.heap.size < w1.heap.size := by simp at s1; omega
  go_wp2_with fail
  refine bodyPost_ret (v := .tuple #[.agg #[.string ⟨#[]⟩, .bool false, .bool false, .slice none 0 0, .int .i64 0], .bool false]) (by simp only [results, Tryd.results64]; go_simp) rfl ⟨rfl, ?_⟩
  have E : Chg [] w w1 := ((Chg.refl _ _).alloc _).trans0 c1
  repeat (first | with_reducible exact E | with_reducible refine Chg.setCell ?_ (.inr (by simp)) _)
set_option maxRecDepth 100000 in
set_option maxHeartbeats 1000000 in
theorem newPart_impl_some_any (k : ByteArray) {f : Int} (hk : kindOf k = some f) (w : World) :
    Calls Tryd.prog 48 #[.string k] w (fun e w' => e = .returned (.tuple #[.agg #[.string k, .bool false, .bool false, .slice none 0 0, .int .i64 0, .slice none 0 0], .bool true]) ∧ Chg [] w w') := by
  have tt : w.heap.size < w.heap.size + 1 := Nat.lt_succ_self _
  have NC := Lib.hid (fun W => newCore_impl_some_any k hk W)
  clear hk
  go_enter Tryd.func48, Tryd.ntmps48
  go_wp2_with fail
  refine (NC.out _).mono ?_
  rintro e w1 ⟨rfl, c1⟩
  have E : Chg [] w w1 := ((Chg.refl _ _).alloc _).trans0 c1
  have t1 : w.heap.size < w1.heap.size := by have := c1.size; simp at this; omega
  have x0 : w1.cell? ⟨w.heap.size, 0, none⟩ = some (.string ⟨#[]⟩) := (c1.cell (p := ⟨w.heap.size, 0, none⟩) (by simp) (by simp)).trans (by go_simp)
  have x1 : w1.cell? ⟨w.heap.size, 1, none⟩ = some (.bool false) := (c1.cell (p := ⟨w.heap.size, 1, none⟩) (by simp) (by simp)).trans (by go_simp)
  have x2 : w1.cell? ⟨w.heap.size, 2, none⟩ = some (.bool false) := (c1.cell (p := ⟨w.heap.size, 2, none⟩) (by simp) (by simp)).trans (by go_simp)
  have x3 : w1.cell? ⟨w.heap.size, 3, none⟩ = some (.slice none 0 0) := (c1.cell (p := ⟨w.heap.size, 3, none⟩) (by simp) (by simp)).trans (by go_simp)
  have x4 : w1.cell? ⟨w.heap.size, 4, none⟩ = some (.int .i64 0) := (c1.cell (p := ⟨w.heap.size, 4, none⟩) (by simp) (by simp)).trans (by go_simp)
  have x5 : w1.cell? ⟨w.heap.size, 5, none⟩ = some (.slice none 0 0) := (c1.cell (p := ⟨w.heap.size, 5, none⟩) (by simp) (by simp)).trans (by go_simp)
  have xf0 : w1.frozen? ⟨w.heap.size, 0, none⟩ = false := (c1.frozen (p := ⟨w.heap.size, 0, none⟩) (by simp) (by simp)).trans (by go_simp)
  have xf1 : w1.frozen? ⟨w.heap.size, 1, none⟩ = false := (c1.frozen (p := ⟨w.heap.size, 1, none⟩) (by simp) (by simp)).trans (by go_simp)
  have xf2 : w1.frozen? ⟨w.heap.size, 2, none⟩ = false := (c1.frozen (p := ⟨w.heap.size, 2, none⟩) (by simp) (by simp)).trans (by go_simp)
  have xf3 : w1.frozen? ⟨w.heap.size, 3, none⟩ = false := (c1.frozen (p := ⟨w.heap.size, 3, none⟩) (by simp) (by simp)).trans (by go_simp)
  have xf4 : w1.frozen? ⟨w.heap.size, 4, none⟩ = false := (c1.frozen (p := ⟨w.heap.size, 4, none⟩) (by simp) (by simp)).trans (by go_simp)
  have xf5 : w1.frozen? ⟨w.heap.size, 5, none⟩ = false := (c1.frozen (p := ⟨w.heap.size, 5, none⟩) (by simp) (by simp)).trans (by go_simp)
  have t2 : w.heap.size < w1.heap.size + 1 := by omega
  have t3 : w.heap.size ≠ w1.heap.size := by omega
  go_wp2_with fail
  refine bodyPost_ret (v := .tuple #[.agg #[.string k, .bool false, .bool false, .slice none 0 0, .int .i64 0, .slice none 0 0], .bool true]) (by simp only [results, Tryd.results48]; go_simp) rfl ⟨rfl, ?_⟩
  repeat (first | with_reducible exact E | with_reducible refine Chg.alloc ?_ _ | with_reducible refine Chg.setCell ?_ (.inr (by simp)) _)
set_option maxRecDepth 100000 in
set_option maxHeartbeats 1000000 in
theorem newPart_impl_none_any (k : ByteArray) (hk : kindOf k = none) (w : World) :
    Calls Tryd.prog 48 #[.string k] w (fun e w' => e = .returned (.tuple #[.agg #[.string ⟨#[]⟩, .bool false, .bool false, .slice none 0 0, .int .i64 0, .slice none 0 0], .bool false]) ∧ Chg [] w w') := by
  have tt : w.heap.size < w.heap.size + 1 := Nat.lt_succ_self _
  have NC := Lib.hid (fun W => newCore_impl_none_any k hk W)
  clear hk
  go_enter Tryd.func48, Tryd.ntmps48
  go_wp2_with fail
  refine (NC.out _).mono ?_
  rintro e w1 ⟨rfl, c1⟩
  have E : Chg [] w w1 := ((Chg.refl _ _).alloc _).trans0 c1
  have t1 : w.heap.size < w1.heap.size := by have := c1.size; simp at this; omega
  have x0 : w1.cell? ⟨w.heap.size, 0, none⟩ = some (.string ⟨#[]⟩) := (c1.cell (p := ⟨w.heap.size, 0, none⟩) (by simp) (by simp)).trans (by go_simp)
  have x1 : w1.cell? ⟨w.heap.size, 1, none⟩ = some (.bool false) := (c1.cell (p := ⟨w.heap.size, 1, none⟩) (by simp) (by simp)).trans (by go_simp)
  have x2 : w1.cell? ⟨w.heap.size, 2, none⟩ = some (.bool false) := (c1.cell (p := ⟨w.heap.size, 2, none⟩) (by simp) (by simp)).trans (by go_simp)
  have x3 : w1.cell? ⟨w.heap.size, 3, none⟩ = some (.slice none 0 0) := (c1.cell (p := ⟨w.heap.size, 3, none⟩) (by simp) (by simp)).trans (by go_simp)
  have x4 : w1.cell? ⟨w.heap.size, 4, none⟩ = some (.int .i64 0) := (c1.cell (p := ⟨w.heap.size, 4, none⟩) (by simp) (by simp)).trans (by go_simp)
  have x5 : w1.cell? ⟨w.heap.size, 5, none⟩ = some (.slice none 0 0) := (c1.cell (p := ⟨w.heap.size, 5, none⟩) (by simp) (by simp)).trans (by go_simp)
  have xf0 : w1.frozen? ⟨w.heap.size, 0, none⟩ = false := (c1.frozen (p := ⟨w.heap.size, 0, none⟩) (by simp) (by simp)).trans (by go_simp)
  have xf1 : w1.frozen? ⟨w.heap.size, 1, none⟩ = false := (c1.frozen (p := ⟨w.heap.size, 1, none⟩) (by simp) (by simp)).trans (by go_simp)
  have xf2 : w1.frozen? ⟨w.heap.size, 2, none⟩ = false := (c1.frozen (p := ⟨w.heap.size, 2, none⟩) (by simp) (by simp)).trans (by go_simp)
  have xf3 : w1.frozen? ⟨w.heap.size, 3, none⟩ = false := (c1.frozen (p := ⟨w.heap.size, 3, none⟩) (by simp) (by simp)).trans (by go_simp)
  have xf4 : w1.frozen? ⟨w.heap.size, 4, none⟩ = false := (c1.frozen (p := ⟨w.heap.size, 4, none⟩) (by simp) (by simp)).trans (by go_simp)
  have xf5 : w1.frozen? ⟨w.heap.size, 5, none⟩ = false := (c1.frozen (p := ⟨w.heap.size, 5, none⟩) (by simp) (by simp)).trans (by go_simp)
  have t2 : w.heap.size < w1.heap.size + 1 := by omega
  have t3 : w.heap.size ≠ w1.heap.size := by omega
  go_wp2_with fail
  refine bodyPost_ret (v := .tuple #[.agg #[.string ⟨#[]⟩, .bool false, .bool false, .slice none 0 0, .int .i64 0, .slice none 0 0], .bool false]) (by simp only [results, Tryd.results48]; go_simp) rfl ⟨rfl, ?_⟩
  repeat (first | with_reducible exact E | with_reducible refine Chg.alloc ?_ _ | with_reducible refine Chg.setCell ?_ (.inr (by simp)) _)
set_option maxRecDepth 100000 in
set_option maxHeartbeats 1000000 in
theorem newPart_spec_some_any (k : ByteArray) {f : Int} (hk : kindOf k = some f) (w : World) :
    Calls Tryd.prog 45 #[.string k] w (fun e w' => e = .returned (.tuple #[.agg #[.string k, .bool false, .bool false, .slice none 0 0, .int .i64 0, .slice none 0 0], .bool true]) ∧ Chg [] w w') := by
  have tt : w.heap.size < w.heap.size + 1 := Nat.lt_succ_self _
  have NC := Lib.hid (fun W => newCore_spec_some_any k hk W)
  clear hk
  go_enter Tryd.func45, Tryd.ntmps45
  go_wp2_with fail
  refine (NC.out _).mono ?_
  rintro e w1 ⟨rfl, c1⟩
  have E : Chg [] w w1 := ((Chg.refl _ _).alloc _).trans0 c1
  have t1 : w.heap.size < w1.heap.size := by have := c1.size; simp at this; omega
  have x0 : w1.cell? ⟨w.heap.size, 0, none⟩ = some (.string ⟨#[]⟩) := (c1.cell (p := ⟨w.heap.size, 0, none⟩) (by simp) (by simp)).trans (by go_simp)
  have x1 : w1.cell? ⟨w.heap.size, 1, none⟩ = some (.bool false) := (c1.cell (p := ⟨w.heap.size, 1, none⟩) (by simp) (by simp)).trans (by go_simp)
  have x2 : w1.cell? ⟨w.heap.size, 2, none⟩ = some (.bool false) := (c1.cell (p := ⟨w.heap.size, 2, none⟩) (by simp) (by simp)).trans (by go_simp)
  have x3 : w1.cell? ⟨w.heap.size, 3, none⟩ = some (.slice none 0 0) := (c1.cell (p := ⟨w.heap.size, 3, none⟩) (by simp) (by simp)).trans (by go_simp)
  have x4 : w1.cell? ⟨w.heap.size, 4, none⟩ = some (.int .i64 0) := (c1.cell (p := ⟨w.heap.size, 4, none⟩) (by simp) (by simp)).trans (by go_simp)
  have x5 : w1.cell? ⟨w.heap.size, 5, none⟩ = some (.slice none 0 0) := (c1.cell (p := ⟨w.heap.size, 5, none⟩) (by simp) (by simp)).trans (by go_simp)
  have xf0 : w1.frozen? ⟨w.heap.size, 0, none⟩ = false := (c1.frozen (p := ⟨w.heap.size, 0, none⟩) (by simp) (by simp)).trans (by go_simp)
  have xf1 : w1.frozen? ⟨w.heap.size, 1, none⟩ = false := (c1.frozen (p := ⟨w.heap.size, 1, none⟩) (by simp) (by simp)).trans (by go_simp)
  have xf2 : w1.frozen? ⟨w.heap.size, 2, none⟩ = false := (c1.frozen (p := ⟨w.heap.size, 2, none⟩) (by simp) (by simp)).trans (by go_simp)
  have xf3 : w1.frozen? ⟨w.heap.size, 3, none⟩ = false := (c1.frozen (p := ⟨w.heap.size, 3, none⟩) (by simp) (by simp)).trans (by go_simp)
  have xf4 : w1.frozen? ⟨w.heap.size, 4, none⟩ = false := (c1.frozen (p := ⟨w.heap.size, 4, none⟩) (by simp) (by simp)).trans (by go_simp)
  have xf5 : w1.frozen? ⟨w.heap.size, 5, none⟩ = false := (c1.frozen (p := ⟨w.heap.size, 5, none⟩) (by simp) (by simp)).trans (by go_simp)
  have t2 : w.heap.size < w1.heap.size + 1 := by omega
  have t3 : w.heap.size ≠ w1.heap.size := by omega
  go_wp2_with fail
  refine bodyPost_ret (v := .tuple #[.agg #[.string k, .bool false, .bool false, .slice none 0 0, .int .i64 0, .slice none 0 0], .bool true]) (by simp only [results, Tryd.results45]; go_simp) rfl ⟨rfl, ?_⟩
  repeat (first | with_reducible exact E | with_reducible refine Chg.alloc ?_ _ | with_reducible refine Chg.setCell ?_ (.inr (by simp)) _)
set_option maxRecDepth 100000 in
set_option maxHeartbeats 1000000 in
theorem newPart_spec_none_any (k : ByteArray) (hk : kindOf k = none) (w : World) :
    Calls Tryd.prog 45 #[.string k] w (fun e w' => e = .returned (.tuple #[.agg #[.string ⟨#[]⟩, .bool false, .bool false, .slice none 0 0, .int .i64 0, .slice none 0 0], .bool false]) ∧ Chg [] w w') := by
  have tt : w.heap.size < w.heap.size + 1 := Nat.lt_succ_self _
  have NC := Lib.hid (fun W => newCore_spec_none_any k hk W)
  clear hk
  go_enter Tryd.func45, Tryd.ntmps45
  go_wp2_with fail
  refine (NC.out _).mono ?_
  rintro e w1 ⟨rfl, c1⟩
  have E : Chg [] w w1 := ((Chg.refl _ _).alloc _).trans0 c1
  have t1 : w.heap.size < w1.heap.size := by have := c1.size; simp at this; omega
  have x0 : w1.cell? ⟨w.heap.size, 0, none⟩ = some (.string ⟨#[]⟩) := (c1.cell (p := ⟨w.heap.size, 0, none⟩) (by simp) (by simp)).trans (by go_simp)
  have x1 : w1.cell? ⟨w.heap.size, 1, none⟩ = some (.bool false) := (c1.cell (p := ⟨w.heap.size, 1, none⟩) (by simp) (by simp)).trans (by go_simp)
  have x2 : w1.cell? ⟨w.heap.size, 2, none⟩ = some (.bool false) := (c1.cell (p := ⟨w.heap.size, 2, none⟩) (by simp) (by simp)).trans (by go_simp)
  have x3 : w1.cell? ⟨w.heap.size, 3, none⟩ = some (.slice none 0 0) := (c1.cell (p := ⟨w.heap.size, 3, none⟩) (by simp) (by simp)).trans (by go_simp)
  have x4 : w1.cell? ⟨w.heap.size, 4, none⟩ = some (.int .i64 0) := (c1.cell (p := ⟨w.heap.size, 4, none⟩) (by simp) (by simp)).trans (by go_simp)
  have x5 : w1.cell? ⟨w.heap.size, 5, none⟩ = some (.slice none 0 0) := (c1.cell (p := ⟨w.heap.size, 5, none⟩) (by simp) (by simp)).trans (by go_simp)
  have xf0 : w1.frozen? ⟨w.heap.size, 0, none⟩ = false := (c1.frozen (p := ⟨w.heap.size, 0, none⟩) (by simp) (by simp)).trans (by go_simp)
  have xf1 : w1.frozen? ⟨w.heap.size, 1, none⟩ = false := (c1.frozen (p := ⟨w.heap.size, 1, none⟩) (by simp) (by simp)).trans (by go_simp)
  have xf2 : w1.frozen? ⟨w.heap.size, 2, none⟩ = false := (c1.frozen (p := ⟨w.heap.size, 2, none⟩) (by simp) (by simp)).trans (by go_simp)
  have xf3 : w1.frozen? ⟨w.heap.size, 3, none⟩ = false := (c1.frozen (p := ⟨w.heap.size, 3, none⟩) (by simp) (by simp)).trans (by go_simp)
  have xf4 : w1.frozen? ⟨w.heap.size, 4, none⟩ = false := (c1.frozen (p := ⟨w.heap.size, 4, none⟩) (by simp) (by simp)).trans (by go_simp)
  have xf5 : w1.frozen? ⟨w.heap.size, 5, none⟩ = false := (c1.frozen (p := ⟨w.heap.size, 5, none⟩) (by simp) (by simp)).trans (by go_simp)
  have t2 : w.heap.size < w1.heap.size + 1 := by omega
  have t3 : w.heap.size ≠ w1.heap.size := by omega
  go_wp2_with fail
  refine bodyPost_ret (v := .tuple #[.agg #[.string ⟨#[]⟩, .bool false, .bool false, .slice none 0 0, .int .i64 0, .slice none 0 0], .bool false]) (by simp only [results, Tryd.results45]; go_simp) rfl ⟨rfl, ?_⟩
  repeat (first | with_reducible exact E | with_reducible refine Chg.alloc ?_ _ | with_reducible refine Chg.setCell ?_ (.inr (by simp)) _)
end Go.Proofs.YtapmknkelihacaaDoor
