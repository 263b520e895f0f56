/- l8Simple of the reference: the action of some words. Conditions: the words are not too long. Written by a program. -/
import Derived.Test.YtldpibnfhomfgaaGreatDoorCallS
import Derived.Test.YtldpibnfhomfgaaGreatDoorFaceQ
namespace Go.Proofs.YtldpibnfhomfgaaGreatDoor
open Go.RowKit

def ActIs (a : ActionT) (w : World) (e : Ending) (w' : World) : Prop := e = .returned (.agg #[.int .i64 a.op, .int .i64 a.slot, .int .i64 a.other, .string a.word, .string a.call.method, .string a.call.key, .int .i64 a.call.value, .string a.call.text, .int .i64 a.face, .slice none 0 0, .slice none 0 0]) ∧ Chg [] w w'
theorem ActIs.of {a b : ActionT} {w w' : World} {e : Ending} (h : a = b) (k : ActIs b w e w') : ActIs a w e w' := h ▸ k
/-- Which word it is. -/
theorem wordCases (x : ByteArray) : (x = wordT 1 ∨ x = wordT 2 ∨ x = wordT 3 ∨ x = wordT 4 ∨ x = wordT 5 ∨ x = wordT 6 ∨ x = wordT 7) ∨ (x ≠ wordT 1 ∧ x ≠ wordT 2 ∧ x ≠ wordT 3 ∧ x ≠ wordT 4 ∧ x ≠ wordT 5 ∧ x ≠ wordT 6 ∧ x ≠ wordT 7) := by
  by_cases h1 : x = wordT 1
  · exact .inl (.inl h1)
  by_cases h2 : x = wordT 2
  · exact .inl (.inr (.inl h2))
  by_cases h3 : x = wordT 3
  · exact .inl (.inr (.inr (.inl h3)))
  by_cases h4 : x = wordT 4
  · exact .inl (.inr (.inr (.inr (.inl h4))))
  by_cases h5 : x = wordT 5
  · exact .inl (.inr (.inr (.inr (.inr (.inl h5)))))
  by_cases h6 : x = wordT 6
  · exact .inl (.inr (.inr (.inr (.inr (.inr (.inl h6))))))
  by_cases h7 : x = wordT 7
  · exact .inl (.inr (.inr (.inr (.inr (.inr (.inr h7))))))
  exact .inr ⟨h1, h2, h3, h4, h5, h6, h7⟩
theorem word_eq {x : ByteArray} {k : Int} {l : List UInt8} (h : x = wordT k) (hl : (wordT k).data.toList = l) : (x.toList == l) = true := by
  rw [h, ByteArray.toList_eq, hl]; exact beq_self_eq_true _
theorem word_no {x : ByteArray} {k : Int} {l : List UInt8} (h : x ≠ wordT k) (hl : (wordT k).data.toList = l) : (x.toList == l) = false := by
  have := str_ne h
  rwa [ByteArray.toList_eq (wordT k), hl] at this
/-- What the walk of l8Simple needs to know of its words. -/
structure SimpH (w : World) (b off M cap : Nat) (x y Lw R : ByteArray) (A3 : Option Addr) (n3 c3v : Nat) (n : Int) (f1 : Bool) : Prop where
  q0 : w.cell? ⟨b, off, none⟩ = some (.string x)
  q1 : w.cell? ⟨b, off + 1, none⟩ = some (.string y)
  qm : w.cell? ⟨b, off + (M + 1), none⟩ = some (.string Lw)
  hwl : b < w.heap.size
  hM : M ≤ 1000
  hcap : M + 2 ≤ cap
  PN : ∀ W, Calls Tryz.prog 30 #[.string y] W (fun e w1 => e = .returned (.tuple #[.int .i64 n, .bool f1]) ∧ Chg [] W w1)
  JW : ∀ W, Chg [] w W → Calls Tryz.prog 21 #[.slice A3 n3 c3v, .string spB] W (fun e w1 => e = .returned (.string R) ∧ Chg [] W w1)
  SLW : ∀ W, (Instr.slice 30 (.slice (some ⟨b, off, none⟩) (M + 2) cap) (some (.int .i64 2)) none none).run Tryz.prog W = .ok (.slice A3 n3 c3v) W
set_option maxRecDepth 100000 in
set_option maxHeartbeats 4000000 in
theorem l8Simple_1 {w : World} {b off M cap : Nat} {x y Lw R : ByteArray} {A3 : Option Addr} {n3 c3v : Nat} {n : Int} {f1 : Bool} (S : SimpH w b off M cap x y Lw R A3 n3 c3v n f1)  (h : x = wordT 1) :
    Calls Tryz.prog 18 #[.slice (some ⟨b, off, none⟩) (M + 2) cap] w (ActIs (mkA 1 n 0 R zeroC 0) w) := by
  obtain ⟨q0, q1, qm, hwl, hM, hcap, PN, JW, SLW2⟩ := S
  have PN := Lib.hid PN
  have JW := Lib.hid JW
  have SAW2 : ∀ W, (Instr.sliceAt 30 (.slice (some ⟨b, off, none⟩) (M + 2) cap) (some (.int .i64 2)) none none).run Tryz.prog W = .ok (.slice A3 n3 c3v) W := fun W => by
    rw [run_sliceAt_slice (h := by rw [elem_strs]; exact Tryz.underlying30)]
    exact SLW2 W
  have t1 : (x.toList == [109, 97, 107, 101]) = true := word_eq h rfl
  have t2 : (x.toList == [119, 114, 97, 112]) = false := by rw [h, ByteArray.toList_eq]; rfl
  have t3 : (x.toList == [117, 110, 119, 114, 97, 112]) = false := by rw [h, ByteArray.toList_eq]; rfl
  have t4 : (x.toList == [99, 111, 112, 121]) = false := by rw [h, ByteArray.toList_eq]; rfl
  have t5 : (x.toList == [100, 114, 111, 112]) = false := by rw [h, ByteArray.toList_eq]; rfl
  have t6 : (x.toList == [97, 115, 107]) = false := by rw [h, ByteArray.toList_eq]; rfl
  have t7 : (x.toList == [99, 97, 108, 108]) = false := by rw [h, ByteArray.toList_eq]; rfl
  clear h
  obtain ⟨a, ha⟩ : ∃ a, a = mkA 1 n 0 R zeroC 0 := ⟨_, rfl⟩
  rw [← ha]
  have HKH := Lib.hid ha
  clear ha
  go_enter Tryz.func18, Tryz.ntmps18
  go_wp2_with fail
  refine (PN.out _).mono ?_
  rintro e w1 ⟨rfl, c1⟩
  obtain ⟨wz, hwz⟩ : ∃ x, x = (w.alloc (.cells #[.int .i64 0, .int .i64 0, .int .i64 0, .string ⟨#[]⟩, .string ⟨#[]⟩, .string ⟨#[]⟩, .int .i64 0, .string ⟨#[]⟩, .int .i64 0, .slice none 0 0, .slice none 0 0] 41)).alloc (.cells #[.int .i64 0, .int .i64 0, .int .i64 0, .string ⟨#[]⟩, .string ⟨#[]⟩, .string ⟨#[]⟩, .int .i64 0, .string ⟨#[]⟩, .int .i64 0, .slice none 0 0, .slice none 0 0] 41) := ⟨_, rfl⟩
  have dz : Chg [] w wz := by rw [hwz]; exact ((Chg.refl _ _).alloc _).alloc _
  have c1 : Chg [] wz w1 := by rw [hwz]; exact c1
  have sz : wz.heap.size = w.heap.size + 1 + 1 := by rw [hwz]; simp
  have gz : ∀ o, wz.cell? ⟨w.heap.size, o, none⟩ = (w.alloc (.cells #[.int .i64 0, .int .i64 0, .int .i64 0, .string ⟨#[]⟩, .string ⟨#[]⟩, .string ⟨#[]⟩, .int .i64 0, .string ⟨#[]⟩, .int .i64 0, .slice none 0 0, .slice none 0 0] 41)).cell? ⟨w.heap.size, o, none⟩ := fun o => by rw [hwz]; exact ((Chg.refl [] (w.alloc (.cells #[.int .i64 0, .int .i64 0, .int .i64 0, .string ⟨#[]⟩, .string ⟨#[]⟩, .string ⟨#[]⟩, .int .i64 0, .string ⟨#[]⟩, .int .i64 0, .slice none 0 0, .slice none 0 0] 41))).alloc _).cell (p := ⟨w.heap.size, o, none⟩) (by simp) (by simp)
  have hz : ∀ o, wz.frozen? ⟨w.heap.size, o, none⟩ = (w.alloc (.cells #[.int .i64 0, .int .i64 0, .int .i64 0, .string ⟨#[]⟩, .string ⟨#[]⟩, .string ⟨#[]⟩, .int .i64 0, .string ⟨#[]⟩, .int .i64 0, .slice none 0 0, .slice none 0 0] 41)).frozen? ⟨w.heap.size, o, none⟩ := fun o => by rw [hwz]; exact ((Chg.refl [] (w.alloc (.cells #[.int .i64 0, .int .i64 0, .int .i64 0, .string ⟨#[]⟩, .string ⟨#[]⟩, .string ⟨#[]⟩, .int .i64 0, .string ⟨#[]⟩, .int .i64 0, .slice none 0 0, .slice none 0 0] 41))).alloc _).frozen (p := ⟨w.heap.size, o, none⟩) (by simp) (by simp)
  have s1 := c1.size
  have d1 : Chg [] w w1 := dz.trans0 c1
  have t1x : w.heap.size < w1.heap.size := by omega
  have u1 : w.heap.size + 1 < w1.heap.size := by omega
  have g1 : ∀ o, w1.cell? ⟨w.heap.size, o, none⟩ = (w.alloc (.cells #[.int .i64 0, .int .i64 0, .int .i64 0, .string ⟨#[]⟩, .string ⟨#[]⟩, .string ⟨#[]⟩, .int .i64 0, .string ⟨#[]⟩, .int .i64 0, .slice none 0 0, .slice none 0 0] 41)).cell? ⟨w.heap.size, o, none⟩ := fun o => (c1.cell (p := ⟨w.heap.size, o, none⟩) (by simp; omega) (by simp)).trans (gz o)
  have h1 : ∀ o, w1.frozen? ⟨w.heap.size, o, none⟩ = (w.alloc (.cells #[.int .i64 0, .int .i64 0, .int .i64 0, .string ⟨#[]⟩, .string ⟨#[]⟩, .string ⟨#[]⟩, .int .i64 0, .string ⟨#[]⟩, .int .i64 0, .slice none 0 0, .slice none 0 0] 41)).frozen? ⟨w.heap.size, o, none⟩ := fun o => (c1.frozen (p := ⟨w.heap.size, o, none⟩) (by simp; omega) (by simp)).trans (hz o)
  have fz : ∀ o, wz.frozen? ⟨w.heap.size + 1, o, none⟩ = false := fun o => by rw [hwz]; go_simp
  have f1x : ∀ o, w1.frozen? ⟨w.heap.size + 1, o, none⟩ = false := fun o => (c1.frozen (p := ⟨w.heap.size + 1, o, none⟩) (by simp; omega) (by simp)).trans (fz o)
  have b10 : w1.cell? ⟨w.heap.size + 1, 0, none⟩ = some (.int .i64 0) := (c1.cell (p := ⟨w.heap.size + 1, 0, none⟩) (by simp; omega) (by simp)).trans (by rw [hwz]; go_simp)
  have b11 : w1.cell? ⟨w.heap.size + 1, 1, none⟩ = some (.int .i64 0) := (c1.cell (p := ⟨w.heap.size + 1, 1, none⟩) (by simp; omega) (by simp)).trans (by rw [hwz]; go_simp)
  have b12 : w1.cell? ⟨w.heap.size + 1, 2, none⟩ = some (.int .i64 0) := (c1.cell (p := ⟨w.heap.size + 1, 2, none⟩) (by simp; omega) (by simp)).trans (by rw [hwz]; go_simp)
  have b13 : w1.cell? ⟨w.heap.size + 1, 3, none⟩ = some (.string ⟨#[]⟩) := (c1.cell (p := ⟨w.heap.size + 1, 3, none⟩) (by simp; omega) (by simp)).trans (by rw [hwz]; go_simp)
  have b14 : w1.cell? ⟨w.heap.size + 1, 4, none⟩ = some (.string ⟨#[]⟩) := (c1.cell (p := ⟨w.heap.size + 1, 4, none⟩) (by simp; omega) (by simp)).trans (by rw [hwz]; go_simp)
  have b15 : w1.cell? ⟨w.heap.size + 1, 5, none⟩ = some (.string ⟨#[]⟩) := (c1.cell (p := ⟨w.heap.size + 1, 5, none⟩) (by simp; omega) (by simp)).trans (by rw [hwz]; go_simp)
  have b16 : w1.cell? ⟨w.heap.size + 1, 6, none⟩ = some (.int .i64 0) := (c1.cell (p := ⟨w.heap.size + 1, 6, none⟩) (by simp; omega) (by simp)).trans (by rw [hwz]; go_simp)
  have b17 : w1.cell? ⟨w.heap.size + 1, 7, none⟩ = some (.string ⟨#[]⟩) := (c1.cell (p := ⟨w.heap.size + 1, 7, none⟩) (by simp; omega) (by simp)).trans (by rw [hwz]; go_simp)
  have b18 : w1.cell? ⟨w.heap.size + 1, 8, none⟩ = some (.int .i64 0) := (c1.cell (p := ⟨w.heap.size + 1, 8, none⟩) (by simp; omega) (by simp)).trans (by rw [hwz]; go_simp)
  have b19 : w1.cell? ⟨w.heap.size + 1, 9, none⟩ = some (.slice none 0 0) := (c1.cell (p := ⟨w.heap.size + 1, 9, none⟩) (by simp; omega) (by simp)).trans (by rw [hwz]; go_simp)
  have b110 : w1.cell? ⟨w.heap.size + 1, 10, none⟩ = some (.slice none 0 0) := (c1.cell (p := ⟨w.heap.size + 1, 10, none⟩) (by simp; omega) (by simp)).trans (by rw [hwz]; go_simp)
  have q01 : w1.cell? ⟨b, off, none⟩ = some (.string x) := (d1.cell (p := ⟨b, off, none⟩) hwl (by simp)).trans q0
  have qm1 : w1.cell? ⟨b, off + (M + 1), none⟩ = some (.string Lw) := (d1.cell (p := ⟨b, off + (M + 1), none⟩) hwl (by simp)).trans qm
  clear hwz c1 gz hz fz q0 q1 qm sz dz s1
  obtain ⟨w1b, hw1b⟩ : ∃ x, x = w1.setCell ⟨w.heap.size + 1, 1, none⟩ (.int .i64 n) := ⟨_, rfl⟩
  have D1b : Chg [] w w1b := by rw [hw1b]; exact d1.setCell (.inr (by simp)) _
  have s1b : w1b.heap.size = w1.heap.size := by rw [hw1b]; simp
  have B10 : w1b.cell? ⟨w.heap.size + 1, 0, none⟩ = some (.int .i64 0) := by rw [hw1b, World.cell?_setCell_other _ _ _ _ (by simp)]; exact b10
  have B11 : w1b.cell? ⟨w.heap.size + 1, 1, none⟩ = some (.int .i64 n) := by rw [hw1b]; exact World.cell?_setCell_same _ _ _ b11
  have B12 : w1b.cell? ⟨w.heap.size + 1, 2, none⟩ = some (.int .i64 0) := by rw [hw1b, World.cell?_setCell_other _ _ _ _ (by simp)]; exact b12
  have B13 : w1b.cell? ⟨w.heap.size + 1, 3, none⟩ = some (.string ⟨#[]⟩) := by rw [hw1b, World.cell?_setCell_other _ _ _ _ (by simp)]; exact b13
  have B14 : w1b.cell? ⟨w.heap.size + 1, 4, none⟩ = some (.string ⟨#[]⟩) := by rw [hw1b, World.cell?_setCell_other _ _ _ _ (by simp)]; exact b14
  have B15 : w1b.cell? ⟨w.heap.size + 1, 5, none⟩ = some (.string ⟨#[]⟩) := by rw [hw1b, World.cell?_setCell_other _ _ _ _ (by simp)]; exact b15
  have B16 : w1b.cell? ⟨w.heap.size + 1, 6, none⟩ = some (.int .i64 0) := by rw [hw1b, World.cell?_setCell_other _ _ _ _ (by simp)]; exact b16
  have B17 : w1b.cell? ⟨w.heap.size + 1, 7, none⟩ = some (.string ⟨#[]⟩) := by rw [hw1b, World.cell?_setCell_other _ _ _ _ (by simp)]; exact b17
  have B18 : w1b.cell? ⟨w.heap.size + 1, 8, none⟩ = some (.int .i64 0) := by rw [hw1b, World.cell?_setCell_other _ _ _ _ (by simp)]; exact b18
  have B19 : w1b.cell? ⟨w.heap.size + 1, 9, none⟩ = some (.slice none 0 0) := by rw [hw1b, World.cell?_setCell_other _ _ _ _ (by simp)]; exact b19
  have B110 : w1b.cell? ⟨w.heap.size + 1, 10, none⟩ = some (.slice none 0 0) := by rw [hw1b, World.cell?_setCell_other _ _ _ _ (by simp)]; exact b110
  have G1 : ∀ o, w1b.cell? ⟨w.heap.size, o, none⟩ = (w.alloc (.cells #[.int .i64 0, .int .i64 0, .int .i64 0, .string ⟨#[]⟩, .string ⟨#[]⟩, .string ⟨#[]⟩, .int .i64 0, .string ⟨#[]⟩, .int .i64 0, .slice none 0 0, .slice none 0 0] 41)).cell? ⟨w.heap.size, o, none⟩ := fun o => by rw [hw1b, World.cell?_setCell_other _ _ _ _ (by simp)]; exact g1 o
  have H1 : ∀ o, w1b.frozen? ⟨w.heap.size, o, none⟩ = (w.alloc (.cells #[.int .i64 0, .int .i64 0, .int .i64 0, .string ⟨#[]⟩, .string ⟨#[]⟩, .string ⟨#[]⟩, .int .i64 0, .string ⟨#[]⟩, .int .i64 0, .slice none 0 0, .slice none 0 0] 41)).frozen? ⟨w.heap.size, o, none⟩ := fun o => by rw [hw1b, ← h1 o]; simp
  have F1 : ∀ o, w1b.frozen? ⟨w.heap.size + 1, o, none⟩ = false := fun o => by rw [hw1b, ← f1x o]; simp
  have Q0 : w1b.cell? ⟨b, off, none⟩ = some (.string x) := by rw [hw1b, World.cell?_setCell_other _ _ _ _ (by first | (simp; done) | (simp; omega))]; exact q01
  have QM : w1b.cell? ⟨b, off + (M + 1), none⟩ = some (.string Lw) := by rw [hw1b, World.cell?_setCell_other _ _ _ _ (by first | (simp; done) | (simp; omega))]; exact qm1
  have JX := Lib.hid (JW.out w1b D1b)
  go_wp2_with fail
  rw [← hw1b]
  clear b10 b11 b12 b13 b14 b15 b16 b17 b18 b19 b110 g1 h1 f1x q01 qm1 hw1b
  refine JX.out.mono ?_
  rintro e w2 ⟨rfl, c2⟩
  have s2 := c2.size
  have d2 : Chg [] w w2 := D1b.trans0 c2
  have t2x : w.heap.size < w2.heap.size := by omega
  have u2 : w.heap.size + 1 < w2.heap.size := by omega
  have b20 : w2.cell? ⟨w.heap.size + 1, 0, none⟩ = some (.int .i64 0) := (c2.cell (p := ⟨w.heap.size + 1, 0, none⟩) (by simp; omega) (by simp)).trans B10
  have b21 : w2.cell? ⟨w.heap.size + 1, 1, none⟩ = some (.int .i64 n) := (c2.cell (p := ⟨w.heap.size + 1, 1, none⟩) (by simp; omega) (by simp)).trans B11
  have b22 : w2.cell? ⟨w.heap.size + 1, 2, none⟩ = some (.int .i64 0) := (c2.cell (p := ⟨w.heap.size + 1, 2, none⟩) (by simp; omega) (by simp)).trans B12
  have b23 : w2.cell? ⟨w.heap.size + 1, 3, none⟩ = some (.string ⟨#[]⟩) := (c2.cell (p := ⟨w.heap.size + 1, 3, none⟩) (by simp; omega) (by simp)).trans B13
  have b24 : w2.cell? ⟨w.heap.size + 1, 4, none⟩ = some (.string ⟨#[]⟩) := (c2.cell (p := ⟨w.heap.size + 1, 4, none⟩) (by simp; omega) (by simp)).trans B14
  have b25 : w2.cell? ⟨w.heap.size + 1, 5, none⟩ = some (.string ⟨#[]⟩) := (c2.cell (p := ⟨w.heap.size + 1, 5, none⟩) (by simp; omega) (by simp)).trans B15
  have b26 : w2.cell? ⟨w.heap.size + 1, 6, none⟩ = some (.int .i64 0) := (c2.cell (p := ⟨w.heap.size + 1, 6, none⟩) (by simp; omega) (by simp)).trans B16
  have b27 : w2.cell? ⟨w.heap.size + 1, 7, none⟩ = some (.string ⟨#[]⟩) := (c2.cell (p := ⟨w.heap.size + 1, 7, none⟩) (by simp; omega) (by simp)).trans B17
  have b28 : w2.cell? ⟨w.heap.size + 1, 8, none⟩ = some (.int .i64 0) := (c2.cell (p := ⟨w.heap.size + 1, 8, none⟩) (by simp; omega) (by simp)).trans B18
  have b29 : w2.cell? ⟨w.heap.size + 1, 9, none⟩ = some (.slice none 0 0) := (c2.cell (p := ⟨w.heap.size + 1, 9, none⟩) (by simp; omega) (by simp)).trans B19
  have b210 : w2.cell? ⟨w.heap.size + 1, 10, none⟩ = some (.slice none 0 0) := (c2.cell (p := ⟨w.heap.size + 1, 10, none⟩) (by simp; omega) (by simp)).trans B110
  have g2 : ∀ o, w2.cell? ⟨w.heap.size, o, none⟩ = (w.alloc (.cells #[.int .i64 0, .int .i64 0, .int .i64 0, .string ⟨#[]⟩, .string ⟨#[]⟩, .string ⟨#[]⟩, .int .i64 0, .string ⟨#[]⟩, .int .i64 0, .slice none 0 0, .slice none 0 0] 41)).cell? ⟨w.heap.size, o, none⟩ := fun o => (c2.cell (p := ⟨w.heap.size, o, none⟩) (by simp; omega) (by simp)).trans (G1 o)
  have h2 : ∀ o, w2.frozen? ⟨w.heap.size, o, none⟩ = (w.alloc (.cells #[.int .i64 0, .int .i64 0, .int .i64 0, .string ⟨#[]⟩, .string ⟨#[]⟩, .string ⟨#[]⟩, .int .i64 0, .string ⟨#[]⟩, .int .i64 0, .slice none 0 0, .slice none 0 0] 41)).frozen? ⟨w.heap.size, o, none⟩ := fun o => (c2.frozen (p := ⟨w.heap.size, o, none⟩) (by simp; omega) (by simp)).trans (H1 o)
  have f2x : ∀ o, w2.frozen? ⟨w.heap.size + 1, o, none⟩ = false := fun o => (c2.frozen (p := ⟨w.heap.size + 1, o, none⟩) (by simp; omega) (by simp)).trans (F1 o)
  have q02 : w2.cell? ⟨b, off, none⟩ = some (.string x) := (c2.cell (p := ⟨b, off, none⟩) (by simp; omega) (by simp)).trans Q0
  have qm2 : w2.cell? ⟨b, off + (M + 1), none⟩ = some (.string Lw) := (c2.cell (p := ⟨b, off + (M + 1), none⟩) (by simp; omega) (by simp)).trans QM
  have p02 : ∀ o u, (w2.setCell ⟨w.heap.size + 1, o, none⟩ u).cell? ⟨b, off, none⟩ = some (.string x) := fun o u => by rw [World.cell?_setCell_other _ _ _ _ (by first | (simp; done) | (simp; omega))]; exact q02
  have pm2 : ∀ o u, (w2.setCell ⟨w.heap.size + 1, o, none⟩ u).cell? ⟨b, off + (M + 1), none⟩ = some (.string Lw) := fun o u => by rw [World.cell?_setCell_other _ _ _ _ (by first | (simp; done) | (simp; omega))]; exact qm2
  clear c2 B10 B11 B12 B13 B14 B15 B16 B17 B18 B19 B110 G1 H1 F1 Q0 QM s1b JX t1x u1
  go_wp2_with fail
  refine bodyPost_ret (v := .agg #[.int .i64 1, .int .i64 n, .int .i64 0, .string R, .string ⟨#[]⟩, .string ⟨#[]⟩, .int .i64 0, .string ⟨#[]⟩, .int .i64 0, .slice none 0 0, .slice none 0 0]) (by simp only [results, Tryz.results18]; go_simp) rfl ?_
  exact ActIs.of HKH.out ⟨rfl, by repeat (first | with_reducible exact d2 | with_reducible exact Chg.refl _ _ | with_reducible refine Chg.drew ?_ | with_reducible refine Chg.alloc ?_ _ | with_reducible refine Chg.setCell ?_ (.inr (by simp; try omega)) _)⟩
set_option maxRecDepth 100000 in
set_option maxHeartbeats 4000000 in
theorem l8Simple_2 {w : World} {b off M cap : Nat} {x y Lw R : ByteArray} {A3 : Option Addr} {n3 c3v : Nat} {n : Int} {f1 : Bool} (S : SimpH w b off M cap x y Lw R A3 n3 c3v n f1)  (h : x = wordT 2) :
    Calls Tryz.prog 18 #[.slice (some ⟨b, off, none⟩) (M + 2) cap] w (ActIs (mkA 2 n 0 R zeroC 0) w) := by
  obtain ⟨q0, q1, qm, hwl, hM, hcap, PN, JW, SLW2⟩ := S
  have PN := Lib.hid PN
  have JW := Lib.hid JW
  have SAW2 : ∀ W, (Instr.sliceAt 30 (.slice (some ⟨b, off, none⟩) (M + 2) cap) (some (.int .i64 2)) none none).run Tryz.prog W = .ok (.slice A3 n3 c3v) W := fun W => by
    rw [run_sliceAt_slice (h := by rw [elem_strs]; exact Tryz.underlying30)]
    exact SLW2 W
  have t1 : (x.toList == [109, 97, 107, 101]) = false := by rw [h, ByteArray.toList_eq]; rfl
  have t2 : (x.toList == [119, 114, 97, 112]) = true := word_eq h rfl
  have t3 : (x.toList == [117, 110, 119, 114, 97, 112]) = false := by rw [h, ByteArray.toList_eq]; rfl
  have t4 : (x.toList == [99, 111, 112, 121]) = false := by rw [h, ByteArray.toList_eq]; rfl
  have t5 : (x.toList == [100, 114, 111, 112]) = false := by rw [h, ByteArray.toList_eq]; rfl
  have t6 : (x.toList == [97, 115, 107]) = false := by rw [h, ByteArray.toList_eq]; rfl
  have t7 : (x.toList == [99, 97, 108, 108]) = false := by rw [h, ByteArray.toList_eq]; rfl
  clear h
  obtain ⟨a, ha⟩ : ∃ a, a = mkA 2 n 0 R zeroC 0 := ⟨_, rfl⟩
  rw [← ha]
  have HKH := Lib.hid ha
  clear ha
  go_enter Tryz.func18, Tryz.ntmps18
  go_wp2_with fail
  refine (PN.out _).mono ?_
  rintro e w1 ⟨rfl, c1⟩
  obtain ⟨wz, hwz⟩ : ∃ x, x = (w.alloc (.cells #[.int .i64 0, .int .i64 0, .int .i64 0, .string ⟨#[]⟩, .string ⟨#[]⟩, .string ⟨#[]⟩, .int .i64 0, .string ⟨#[]⟩, .int .i64 0, .slice none 0 0, .slice none 0 0] 41)).alloc (.cells #[.int .i64 0, .int .i64 0, .int .i64 0, .string ⟨#[]⟩, .string ⟨#[]⟩, .string ⟨#[]⟩, .int .i64 0, .string ⟨#[]⟩, .int .i64 0, .slice none 0 0, .slice none 0 0] 41) := ⟨_, rfl⟩
  have dz : Chg [] w wz := by rw [hwz]; exact ((Chg.refl _ _).alloc _).alloc _
  have c1 : Chg [] wz w1 := by rw [hwz]; exact c1
  have sz : wz.heap.size = w.heap.size + 1 + 1 := by rw [hwz]; simp
  have gz : ∀ o, wz.cell? ⟨w.heap.size, o, none⟩ = (w.alloc (.cells #[.int .i64 0, .int .i64 0, .int .i64 0, .string ⟨#[]⟩, .string ⟨#[]⟩, .string ⟨#[]⟩, .int .i64 0, .string ⟨#[]⟩, .int .i64 0, .slice none 0 0, .slice none 0 0] 41)).cell? ⟨w.heap.size, o, none⟩ := fun o => by rw [hwz]; exact ((Chg.refl [] (w.alloc (.cells #[.int .i64 0, .int .i64 0, .int .i64 0, .string ⟨#[]⟩, .string ⟨#[]⟩, .string ⟨#[]⟩, .int .i64 0, .string ⟨#[]⟩, .int .i64 0, .slice none 0 0, .slice none 0 0] 41))).alloc _).cell (p := ⟨w.heap.size, o, none⟩) (by simp) (by simp)
  have hz : ∀ o, wz.frozen? ⟨w.heap.size, o, none⟩ = (w.alloc (.cells #[.int .i64 0, .int .i64 0, .int .i64 0, .string ⟨#[]⟩, .string ⟨#[]⟩, .string ⟨#[]⟩, .int .i64 0, .string ⟨#[]⟩, .int .i64 0, .slice none 0 0, .slice none 0 0] 41)).frozen? ⟨w.heap.size, o, none⟩ := fun o => by rw [hwz]; exact ((Chg.refl [] (w.alloc (.cells #[.int .i64 0, .int .i64 0, .int .i64 0, .string ⟨#[]⟩, .string ⟨#[]⟩, .string ⟨#[]⟩, .int .i64 0, .string ⟨#[]⟩, .int .i64 0, .slice none 0 0, .slice none 0 0] 41))).alloc _).frozen (p := ⟨w.heap.size, o, none⟩) (by simp) (by simp)
  have s1 := c1.size
  have d1 : Chg [] w w1 := dz.trans0 c1
  have t1x : w.heap.size < w1.heap.size := by omega
  have u1 : w.heap.size + 1 < w1.heap.size := by omega
  have g1 : ∀ o, w1.cell? ⟨w.heap.size, o, none⟩ = (w.alloc (.cells #[.int .i64 0, .int .i64 0, .int .i64 0, .string ⟨#[]⟩, .string ⟨#[]⟩, .string ⟨#[]⟩, .int .i64 0, .string ⟨#[]⟩, .int .i64 0, .slice none 0 0, .slice none 0 0] 41)).cell? ⟨w.heap.size, o, none⟩ := fun o => (c1.cell (p := ⟨w.heap.size, o, none⟩) (by simp; omega) (by simp)).trans (gz o)
  have h1 : ∀ o, w1.frozen? ⟨w.heap.size, o, none⟩ = (w.alloc (.cells #[.int .i64 0, .int .i64 0, .int .i64 0, .string ⟨#[]⟩, .string ⟨#[]⟩, .string ⟨#[]⟩, .int .i64 0, .string ⟨#[]⟩, .int .i64 0, .slice none 0 0, .slice none 0 0] 41)).frozen? ⟨w.heap.size, o, none⟩ := fun o => (c1.frozen (p := ⟨w.heap.size, o, none⟩) (by simp; omega) (by simp)).trans (hz o)
  have fz : ∀ o, wz.frozen? ⟨w.heap.size + 1, o, none⟩ = false := fun o => by rw [hwz]; go_simp
  have f1x : ∀ o, w1.frozen? ⟨w.heap.size + 1, o, none⟩ = false := fun o => (c1.frozen (p := ⟨w.heap.size + 1, o, none⟩) (by simp; omega) (by simp)).trans (fz o)
  have b10 : w1.cell? ⟨w.heap.size + 1, 0, none⟩ = some (.int .i64 0) := (c1.cell (p := ⟨w.heap.size + 1, 0, none⟩) (by simp; omega) (by simp)).trans (by rw [hwz]; go_simp)
  have b11 : w1.cell? ⟨w.heap.size + 1, 1, none⟩ = some (.int .i64 0) := (c1.cell (p := ⟨w.heap.size + 1, 1, none⟩) (by simp; omega) (by simp)).trans (by rw [hwz]; go_simp)
  have b12 : w1.cell? ⟨w.heap.size + 1, 2, none⟩ = some (.int .i64 0) := (c1.cell (p := ⟨w.heap.size + 1, 2, none⟩) (by simp; omega) (by simp)).trans (by rw [hwz]; go_simp)
  have b13 : w1.cell? ⟨w.heap.size + 1, 3, none⟩ = some (.string ⟨#[]⟩) := (c1.cell (p := ⟨w.heap.size + 1, 3, none⟩) (by simp; omega) (by simp)).trans (by rw [hwz]; go_simp)
  have b14 : w1.cell? ⟨w.heap.size + 1, 4, none⟩ = some (.string ⟨#[]⟩) := (c1.cell (p := ⟨w.heap.size + 1, 4, none⟩) (by simp; omega) (by simp)).trans (by rw [hwz]; go_simp)
  have b15 : w1.cell? ⟨w.heap.size + 1, 5, none⟩ = some (.string ⟨#[]⟩) := (c1.cell (p := ⟨w.heap.size + 1, 5, none⟩) (by simp; omega) (by simp)).trans (by rw [hwz]; go_simp)
  have b16 : w1.cell? ⟨w.heap.size + 1, 6, none⟩ = some (.int .i64 0) := (c1.cell (p := ⟨w.heap.size + 1, 6, none⟩) (by simp; omega) (by simp)).trans (by rw [hwz]; go_simp)
  have b17 : w1.cell? ⟨w.heap.size + 1, 7, none⟩ = some (.string ⟨#[]⟩) := (c1.cell (p := ⟨w.heap.size + 1, 7, none⟩) (by simp; omega) (by simp)).trans (by rw [hwz]; go_simp)
  have b18 : w1.cell? ⟨w.heap.size + 1, 8, none⟩ = some (.int .i64 0) := (c1.cell (p := ⟨w.heap.size + 1, 8, none⟩) (by simp; omega) (by simp)).trans (by rw [hwz]; go_simp)
  have b19 : w1.cell? ⟨w.heap.size + 1, 9, none⟩ = some (.slice none 0 0) := (c1.cell (p := ⟨w.heap.size + 1, 9, none⟩) (by simp; omega) (by simp)).trans (by rw [hwz]; go_simp)
  have b110 : w1.cell? ⟨w.heap.size + 1, 10, none⟩ = some (.slice none 0 0) := (c1.cell (p := ⟨w.heap.size + 1, 10, none⟩) (by simp; omega) (by simp)).trans (by rw [hwz]; go_simp)
  have q01 : w1.cell? ⟨b, off, none⟩ = some (.string x) := (d1.cell (p := ⟨b, off, none⟩) hwl (by simp)).trans q0
  have qm1 : w1.cell? ⟨b, off + (M + 1), none⟩ = some (.string Lw) := (d1.cell (p := ⟨b, off + (M + 1), none⟩) hwl (by simp)).trans qm
  clear hwz c1 gz hz fz q0 q1 qm sz dz s1
  obtain ⟨w1b, hw1b⟩ : ∃ x, x = w1.setCell ⟨w.heap.size + 1, 1, none⟩ (.int .i64 n) := ⟨_, rfl⟩
  have D1b : Chg [] w w1b := by rw [hw1b]; exact d1.setCell (.inr (by simp)) _
  have s1b : w1b.heap.size = w1.heap.size := by rw [hw1b]; simp
  have B10 : w1b.cell? ⟨w.heap.size + 1, 0, none⟩ = some (.int .i64 0) := by rw [hw1b, World.cell?_setCell_other _ _ _ _ (by simp)]; exact b10
  have B11 : w1b.cell? ⟨w.heap.size + 1, 1, none⟩ = some (.int .i64 n) := by rw [hw1b]; exact World.cell?_setCell_same _ _ _ b11
  have B12 : w1b.cell? ⟨w.heap.size + 1, 2, none⟩ = some (.int .i64 0) := by rw [hw1b, World.cell?_setCell_other _ _ _ _ (by simp)]; exact b12
  have B13 : w1b.cell? ⟨w.heap.size + 1, 3, none⟩ = some (.string ⟨#[]⟩) := by rw [hw1b, World.cell?_setCell_other _ _ _ _ (by simp)]; exact b13
  have B14 : w1b.cell? ⟨w.heap.size + 1, 4, none⟩ = some (.string ⟨#[]⟩) := by rw [hw1b, World.cell?_setCell_other _ _ _ _ (by simp)]; exact b14
  have B15 : w1b.cell? ⟨w.heap.size + 1, 5, none⟩ = some (.string ⟨#[]⟩) := by rw [hw1b, World.cell?_setCell_other _ _ _ _ (by simp)]; exact b15
  have B16 : w1b.cell? ⟨w.heap.size + 1, 6, none⟩ = some (.int .i64 0) := by rw [hw1b, World.cell?_setCell_other _ _ _ _ (by simp)]; exact b16
  have B17 : w1b.cell? ⟨w.heap.size + 1, 7, none⟩ = some (.string ⟨#[]⟩) := by rw [hw1b, World.cell?_setCell_other _ _ _ _ (by simp)]; exact b17
  have B18 : w1b.cell? ⟨w.heap.size + 1, 8, none⟩ = some (.int .i64 0) := by rw [hw1b, World.cell?_setCell_other _ _ _ _ (by simp)]; exact b18
  have B19 : w1b.cell? ⟨w.heap.size + 1, 9, none⟩ = some (.slice none 0 0) := by rw [hw1b, World.cell?_setCell_other _ _ _ _ (by simp)]; exact b19
  have B110 : w1b.cell? ⟨w.heap.size + 1, 10, none⟩ = some (.slice none 0 0) := by rw [hw1b, World.cell?_setCell_other _ _ _ _ (by simp)]; exact b110
  have G1 : ∀ o, w1b.cell? ⟨w.heap.size, o, none⟩ = (w.alloc (.cells #[.int .i64 0, .int .i64 0, .int .i64 0, .string ⟨#[]⟩, .string ⟨#[]⟩, .string ⟨#[]⟩, .int .i64 0, .string ⟨#[]⟩, .int .i64 0, .slice none 0 0, .slice none 0 0] 41)).cell? ⟨w.heap.size, o, none⟩ := fun o => by rw [hw1b, World.cell?_setCell_other _ _ _ _ (by simp)]; exact g1 o
  have H1 : ∀ o, w1b.frozen? ⟨w.heap.size, o, none⟩ = (w.alloc (.cells #[.int .i64 0, .int .i64 0, .int .i64 0, .string ⟨#[]⟩, .string ⟨#[]⟩, .string ⟨#[]⟩, .int .i64 0, .string ⟨#[]⟩, .int .i64 0, .slice none 0 0, .slice none 0 0] 41)).frozen? ⟨w.heap.size, o, none⟩ := fun o => by rw [hw1b, ← h1 o]; simp
  have F1 : ∀ o, w1b.frozen? ⟨w.heap.size + 1, o, none⟩ = false := fun o => by rw [hw1b, ← f1x o]; simp
  have Q0 : w1b.cell? ⟨b, off, none⟩ = some (.string x) := by rw [hw1b, World.cell?_setCell_other _ _ _ _ (by first | (simp; done) | (simp; omega))]; exact q01
  have QM : w1b.cell? ⟨b, off + (M + 1), none⟩ = some (.string Lw) := by rw [hw1b, World.cell?_setCell_other _ _ _ _ (by first | (simp; done) | (simp; omega))]; exact qm1
  have JX := Lib.hid (JW.out w1b D1b)
  go_wp2_with fail
  rw [← hw1b]
  clear b10 b11 b12 b13 b14 b15 b16 b17 b18 b19 b110 g1 h1 f1x q01 qm1 hw1b
  refine JX.out.mono ?_
  rintro e w2 ⟨rfl, c2⟩
  have s2 := c2.size
  have d2 : Chg [] w w2 := D1b.trans0 c2
  have t2x : w.heap.size < w2.heap.size := by omega
  have u2 : w.heap.size + 1 < w2.heap.size := by omega
  have b20 : w2.cell? ⟨w.heap.size + 1, 0, none⟩ = some (.int .i64 0) := (c2.cell (p := ⟨w.heap.size + 1, 0, none⟩) (by simp; omega) (by simp)).trans B10
  have b21 : w2.cell? ⟨w.heap.size + 1, 1, none⟩ = some (.int .i64 n) := (c2.cell (p := ⟨w.heap.size + 1, 1, none⟩) (by simp; omega) (by simp)).trans B11
  have b22 : w2.cell? ⟨w.heap.size + 1, 2, none⟩ = some (.int .i64 0) := (c2.cell (p := ⟨w.heap.size + 1, 2, none⟩) (by simp; omega) (by simp)).trans B12
  have b23 : w2.cell? ⟨w.heap.size + 1, 3, none⟩ = some (.string ⟨#[]⟩) := (c2.cell (p := ⟨w.heap.size + 1, 3, none⟩) (by simp; omega) (by simp)).trans B13
  have b24 : w2.cell? ⟨w.heap.size + 1, 4, none⟩ = some (.string ⟨#[]⟩) := (c2.cell (p := ⟨w.heap.size + 1, 4, none⟩) (by simp; omega) (by simp)).trans B14
  have b25 : w2.cell? ⟨w.heap.size + 1, 5, none⟩ = some (.string ⟨#[]⟩) := (c2.cell (p := ⟨w.heap.size + 1, 5, none⟩) (by simp; omega) (by simp)).trans B15
  have b26 : w2.cell? ⟨w.heap.size + 1, 6, none⟩ = some (.int .i64 0) := (c2.cell (p := ⟨w.heap.size + 1, 6, none⟩) (by simp; omega) (by simp)).trans B16
  have b27 : w2.cell? ⟨w.heap.size + 1, 7, none⟩ = some (.string ⟨#[]⟩) := (c2.cell (p := ⟨w.heap.size + 1, 7, none⟩) (by simp; omega) (by simp)).trans B17
  have b28 : w2.cell? ⟨w.heap.size + 1, 8, none⟩ = some (.int .i64 0) := (c2.cell (p := ⟨w.heap.size + 1, 8, none⟩) (by simp; omega) (by simp)).trans B18
  have b29 : w2.cell? ⟨w.heap.size + 1, 9, none⟩ = some (.slice none 0 0) := (c2.cell (p := ⟨w.heap.size + 1, 9, none⟩) (by simp; omega) (by simp)).trans B19
  have b210 : w2.cell? ⟨w.heap.size + 1, 10, none⟩ = some (.slice none 0 0) := (c2.cell (p := ⟨w.heap.size + 1, 10, none⟩) (by simp; omega) (by simp)).trans B110
  have g2 : ∀ o, w2.cell? ⟨w.heap.size, o, none⟩ = (w.alloc (.cells #[.int .i64 0, .int .i64 0, .int .i64 0, .string ⟨#[]⟩, .string ⟨#[]⟩, .string ⟨#[]⟩, .int .i64 0, .string ⟨#[]⟩, .int .i64 0, .slice none 0 0, .slice none 0 0] 41)).cell? ⟨w.heap.size, o, none⟩ := fun o => (c2.cell (p := ⟨w.heap.size, o, none⟩) (by simp; omega) (by simp)).trans (G1 o)
  have h2 : ∀ o, w2.frozen? ⟨w.heap.size, o, none⟩ = (w.alloc (.cells #[.int .i64 0, .int .i64 0, .int .i64 0, .string ⟨#[]⟩, .string ⟨#[]⟩, .string ⟨#[]⟩, .int .i64 0, .string ⟨#[]⟩, .int .i64 0, .slice none 0 0, .slice none 0 0] 41)).frozen? ⟨w.heap.size, o, none⟩ := fun o => (c2.frozen (p := ⟨w.heap.size, o, none⟩) (by simp; omega) (by simp)).trans (H1 o)
  have f2x : ∀ o, w2.frozen? ⟨w.heap.size + 1, o, none⟩ = false := fun o => (c2.frozen (p := ⟨w.heap.size + 1, o, none⟩) (by simp; omega) (by simp)).trans (F1 o)
  have q02 : w2.cell? ⟨b, off, none⟩ = some (.string x) := (c2.cell (p := ⟨b, off, none⟩) (by simp; omega) (by simp)).trans Q0
  have qm2 : w2.cell? ⟨b, off + (M + 1), none⟩ = some (.string Lw) := (c2.cell (p := ⟨b, off + (M + 1), none⟩) (by simp; omega) (by simp)).trans QM
  have p02 : ∀ o u, (w2.setCell ⟨w.heap.size + 1, o, none⟩ u).cell? ⟨b, off, none⟩ = some (.string x) := fun o u => by rw [World.cell?_setCell_other _ _ _ _ (by first | (simp; done) | (simp; omega))]; exact q02
  have pm2 : ∀ o u, (w2.setCell ⟨w.heap.size + 1, o, none⟩ u).cell? ⟨b, off + (M + 1), none⟩ = some (.string Lw) := fun o u => by rw [World.cell?_setCell_other _ _ _ _ (by first | (simp; done) | (simp; omega))]; exact qm2
  clear c2 B10 B11 B12 B13 B14 B15 B16 B17 B18 B19 B110 G1 H1 F1 Q0 QM s1b JX t1x u1
  go_wp2_with fail
  refine bodyPost_ret (v := .agg #[.int .i64 2, .int .i64 n, .int .i64 0, .string R, .string ⟨#[]⟩, .string ⟨#[]⟩, .int .i64 0, .string ⟨#[]⟩, .int .i64 0, .slice none 0 0, .slice none 0 0]) (by simp only [results, Tryz.results18]; go_simp) rfl ?_
  exact ActIs.of HKH.out ⟨rfl, by repeat (first | with_reducible exact d2 | with_reducible exact Chg.refl _ _ | with_reducible refine Chg.drew ?_ | with_reducible refine Chg.alloc ?_ _ | with_reducible refine Chg.setCell ?_ (.inr (by simp; try omega)) _)⟩
set_option maxRecDepth 100000 in
set_option maxHeartbeats 4000000 in
theorem l8Simple_3 {w : World} {b off M cap : Nat} {x y Lw R : ByteArray} {A3 : Option Addr} {n3 c3v : Nat} {n : Int} {f1 : Bool} (S : SimpH w b off M cap x y Lw R A3 n3 c3v n f1)  (h : x = wordT 3) :
    Calls Tryz.prog 18 #[.slice (some ⟨b, off, none⟩) (M + 2) cap] w (ActIs (mkA 3 n 0 noB zeroC 0) w) := by
  obtain ⟨q0, q1, qm, hwl, hM, hcap, PN, JW, SLW2⟩ := S
  have PN := Lib.hid PN
  have JW := Lib.hid JW
  have SAW2 : ∀ W, (Instr.sliceAt 30 (.slice (some ⟨b, off, none⟩) (M + 2) cap) (some (.int .i64 2)) none none).run Tryz.prog W = .ok (.slice A3 n3 c3v) W := fun W => by
    rw [run_sliceAt_slice (h := by rw [elem_strs]; exact Tryz.underlying30)]
    exact SLW2 W
  have t1 : (x.toList == [109, 97, 107, 101]) = false := by rw [h, ByteArray.toList_eq]; rfl
  have t2 : (x.toList == [119, 114, 97, 112]) = false := by rw [h, ByteArray.toList_eq]; rfl
  have t3 : (x.toList == [117, 110, 119, 114, 97, 112]) = true := word_eq h rfl
  have t4 : (x.toList == [99, 111, 112, 121]) = false := by rw [h, ByteArray.toList_eq]; rfl
  have t5 : (x.toList == [100, 114, 111, 112]) = false := by rw [h, ByteArray.toList_eq]; rfl
  have t6 : (x.toList == [97, 115, 107]) = false := by rw [h, ByteArray.toList_eq]; rfl
  have t7 : (x.toList == [99, 97, 108, 108]) = false := by rw [h, ByteArray.toList_eq]; rfl
  clear h
  obtain ⟨a, ha⟩ : ∃ a, a = mkA 3 n 0 noB zeroC 0 := ⟨_, rfl⟩
  rw [← ha]
  have HKH := Lib.hid ha
  clear ha
  go_enter Tryz.func18, Tryz.ntmps18
  go_wp2_with fail
  refine (PN.out _).mono ?_
  rintro e w1 ⟨rfl, c1⟩
  obtain ⟨wz, hwz⟩ : ∃ x, x = (w.alloc (.cells #[.int .i64 0, .int .i64 0, .int .i64 0, .string ⟨#[]⟩, .string ⟨#[]⟩, .string ⟨#[]⟩, .int .i64 0, .string ⟨#[]⟩, .int .i64 0, .slice none 0 0, .slice none 0 0] 41)).alloc (.cells #[.int .i64 0, .int .i64 0, .int .i64 0, .string ⟨#[]⟩, .string ⟨#[]⟩, .string ⟨#[]⟩, .int .i64 0, .string ⟨#[]⟩, .int .i64 0, .slice none 0 0, .slice none 0 0] 41) := ⟨_, rfl⟩
  have dz : Chg [] w wz := by rw [hwz]; exact ((Chg.refl _ _).alloc _).alloc _
  have c1 : Chg [] wz w1 := by rw [hwz]; exact c1
  have sz : wz.heap.size = w.heap.size + 1 + 1 := by rw [hwz]; simp
  have gz : ∀ o, wz.cell? ⟨w.heap.size, o, none⟩ = (w.alloc (.cells #[.int .i64 0, .int .i64 0, .int .i64 0, .string ⟨#[]⟩, .string ⟨#[]⟩, .string ⟨#[]⟩, .int .i64 0, .string ⟨#[]⟩, .int .i64 0, .slice none 0 0, .slice none 0 0] 41)).cell? ⟨w.heap.size, o, none⟩ := fun o => by rw [hwz]; exact ((Chg.refl [] (w.alloc (.cells #[.int .i64 0, .int .i64 0, .int .i64 0, .string ⟨#[]⟩, .string ⟨#[]⟩, .string ⟨#[]⟩, .int .i64 0, .string ⟨#[]⟩, .int .i64 0, .slice none 0 0, .slice none 0 0] 41))).alloc _).cell (p := ⟨w.heap.size, o, none⟩) (by simp) (by simp)
  have hz : ∀ o, wz.frozen? ⟨w.heap.size, o, none⟩ = (w.alloc (.cells #[.int .i64 0, .int .i64 0, .int .i64 0, .string ⟨#[]⟩, .string ⟨#[]⟩, .string ⟨#[]⟩, .int .i64 0, .string ⟨#[]⟩, .int .i64 0, .slice none 0 0, .slice none 0 0] 41)).frozen? ⟨w.heap.size, o, none⟩ := fun o => by rw [hwz]; exact ((Chg.refl [] (w.alloc (.cells #[.int .i64 0, .int .i64 0, .int .i64 0, .string ⟨#[]⟩, .string ⟨#[]⟩, .string ⟨#[]⟩, .int .i64 0, .string ⟨#[]⟩, .int .i64 0, .slice none 0 0, .slice none 0 0] 41))).alloc _).frozen (p := ⟨w.heap.size, o, none⟩) (by simp) (by simp)
  have s1 := c1.size
  have d1 : Chg [] w w1 := dz.trans0 c1
  have t1x : w.heap.size < w1.heap.size := by omega
  have u1 : w.heap.size + 1 < w1.heap.size := by omega
  have g1 : ∀ o, w1.cell? ⟨w.heap.size, o, none⟩ = (w.alloc (.cells #[.int .i64 0, .int .i64 0, .int .i64 0, .string ⟨#[]⟩, .string ⟨#[]⟩, .string ⟨#[]⟩, .int .i64 0, .string ⟨#[]⟩, .int .i64 0, .slice none 0 0, .slice none 0 0] 41)).cell? ⟨w.heap.size, o, none⟩ := fun o => (c1.cell (p := ⟨w.heap.size, o, none⟩) (by simp; omega) (by simp)).trans (gz o)
  have h1 : ∀ o, w1.frozen? ⟨w.heap.size, o, none⟩ = (w.alloc (.cells #[.int .i64 0, .int .i64 0, .int .i64 0, .string ⟨#[]⟩, .string ⟨#[]⟩, .string ⟨#[]⟩, .int .i64 0, .string ⟨#[]⟩, .int .i64 0, .slice none 0 0, .slice none 0 0] 41)).frozen? ⟨w.heap.size, o, none⟩ := fun o => (c1.frozen (p := ⟨w.heap.size, o, none⟩) (by simp; omega) (by simp)).trans (hz o)
  have fz : ∀ o, wz.frozen? ⟨w.heap.size + 1, o, none⟩ = false := fun o => by rw [hwz]; go_simp
  have f1x : ∀ o, w1.frozen? ⟨w.heap.size + 1, o, none⟩ = false := fun o => (c1.frozen (p := ⟨w.heap.size + 1, o, none⟩) (by simp; omega) (by simp)).trans (fz o)
  have b10 : w1.cell? ⟨w.heap.size + 1, 0, none⟩ = some (.int .i64 0) := (c1.cell (p := ⟨w.heap.size + 1, 0, none⟩) (by simp; omega) (by simp)).trans (by rw [hwz]; go_simp)
  have b11 : w1.cell? ⟨w.heap.size + 1, 1, none⟩ = some (.int .i64 0) := (c1.cell (p := ⟨w.heap.size + 1, 1, none⟩) (by simp; omega) (by simp)).trans (by rw [hwz]; go_simp)
  have b12 : w1.cell? ⟨w.heap.size + 1, 2, none⟩ = some (.int .i64 0) := (c1.cell (p := ⟨w.heap.size + 1, 2, none⟩) (by simp; omega) (by simp)).trans (by rw [hwz]; go_simp)
  have b13 : w1.cell? ⟨w.heap.size + 1, 3, none⟩ = some (.string ⟨#[]⟩) := (c1.cell (p := ⟨w.heap.size + 1, 3, none⟩) (by simp; omega) (by simp)).trans (by rw [hwz]; go_simp)
  have b14 : w1.cell? ⟨w.heap.size + 1, 4, none⟩ = some (.string ⟨#[]⟩) := (c1.cell (p := ⟨w.heap.size + 1, 4, none⟩) (by simp; omega) (by simp)).trans (by rw [hwz]; go_simp)
  have b15 : w1.cell? ⟨w.heap.size + 1, 5, none⟩ = some (.string ⟨#[]⟩) := (c1.cell (p := ⟨w.heap.size + 1, 5, none⟩) (by simp; omega) (by simp)).trans (by rw [hwz]; go_simp)
  have b16 : w1.cell? ⟨w.heap.size + 1, 6, none⟩ = some (.int .i64 0) := (c1.cell (p := ⟨w.heap.size + 1, 6, none⟩) (by simp; omega) (by simp)).trans (by rw [hwz]; go_simp)
  have b17 : w1.cell? ⟨w.heap.size + 1, 7, none⟩ = some (.string ⟨#[]⟩) := (c1.cell (p := ⟨w.heap.size + 1, 7, none⟩) (by simp; omega) (by simp)).trans (by rw [hwz]; go_simp)
  have b18 : w1.cell? ⟨w.heap.size + 1, 8, none⟩ = some (.int .i64 0) := (c1.cell (p := ⟨w.heap.size + 1, 8, none⟩) (by simp; omega) (by simp)).trans (by rw [hwz]; go_simp)
  have b19 : w1.cell? ⟨w.heap.size + 1, 9, none⟩ = some (.slice none 0 0) := (c1.cell (p := ⟨w.heap.size + 1, 9, none⟩) (by simp; omega) (by simp)).trans (by rw [hwz]; go_simp)
  have b110 : w1.cell? ⟨w.heap.size + 1, 10, none⟩ = some (.slice none 0 0) := (c1.cell (p := ⟨w.heap.size + 1, 10, none⟩) (by simp; omega) (by simp)).trans (by rw [hwz]; go_simp)
  have q01 : w1.cell? ⟨b, off, none⟩ = some (.string x) := (d1.cell (p := ⟨b, off, none⟩) hwl (by simp)).trans q0
  have qm1 : w1.cell? ⟨b, off + (M + 1), none⟩ = some (.string Lw) := (d1.cell (p := ⟨b, off + (M + 1), none⟩) hwl (by simp)).trans qm
  clear hwz c1 gz hz fz q0 q1 qm sz dz s1
  obtain ⟨w1b, hw1b⟩ : ∃ x, x = w1.setCell ⟨w.heap.size + 1, 1, none⟩ (.int .i64 n) := ⟨_, rfl⟩
  have D1b : Chg [] w w1b := by rw [hw1b]; exact d1.setCell (.inr (by simp)) _
  have s1b : w1b.heap.size = w1.heap.size := by rw [hw1b]; simp
  have B10 : w1b.cell? ⟨w.heap.size + 1, 0, none⟩ = some (.int .i64 0) := by rw [hw1b, World.cell?_setCell_other _ _ _ _ (by simp)]; exact b10
  have B11 : w1b.cell? ⟨w.heap.size + 1, 1, none⟩ = some (.int .i64 n) := by rw [hw1b]; exact World.cell?_setCell_same _ _ _ b11
  have B12 : w1b.cell? ⟨w.heap.size + 1, 2, none⟩ = some (.int .i64 0) := by rw [hw1b, World.cell?_setCell_other _ _ _ _ (by simp)]; exact b12
  have B13 : w1b.cell? ⟨w.heap.size + 1, 3, none⟩ = some (.string ⟨#[]⟩) := by rw [hw1b, World.cell?_setCell_other _ _ _ _ (by simp)]; exact b13
  have B14 : w1b.cell? ⟨w.heap.size + 1, 4, none⟩ = some (.string ⟨#[]⟩) := by rw [hw1b, World.cell?_setCell_other _ _ _ _ (by simp)]; exact b14
  have B15 : w1b.cell? ⟨w.heap.size + 1, 5, none⟩ = some (.string ⟨#[]⟩) := by rw [hw1b, World.cell?_setCell_other _ _ _ _ (by simp)]; exact b15
  have B16 : w1b.cell? ⟨w.heap.size + 1, 6, none⟩ = some (.int .i64 0) := by rw [hw1b, World.cell?_setCell_other _ _ _ _ (by simp)]; exact b16
  have B17 : w1b.cell? ⟨w.heap.size + 1, 7, none⟩ = some (.string ⟨#[]⟩) := by rw [hw1b, World.cell?_setCell_other _ _ _ _ (by simp)]; exact b17
  have B18 : w1b.cell? ⟨w.heap.size + 1, 8, none⟩ = some (.int .i64 0) := by rw [hw1b, World.cell?_setCell_other _ _ _ _ (by simp)]; exact b18
  have B19 : w1b.cell? ⟨w.heap.size + 1, 9, none⟩ = some (.slice none 0 0) := by rw [hw1b, World.cell?_setCell_other _ _ _ _ (by simp)]; exact b19
  have B110 : w1b.cell? ⟨w.heap.size + 1, 10, none⟩ = some (.slice none 0 0) := by rw [hw1b, World.cell?_setCell_other _ _ _ _ (by simp)]; exact b110
  have G1 : ∀ o, w1b.cell? ⟨w.heap.size, o, none⟩ = (w.alloc (.cells #[.int .i64 0, .int .i64 0, .int .i64 0, .string ⟨#[]⟩, .string ⟨#[]⟩, .string ⟨#[]⟩, .int .i64 0, .string ⟨#[]⟩, .int .i64 0, .slice none 0 0, .slice none 0 0] 41)).cell? ⟨w.heap.size, o, none⟩ := fun o => by rw [hw1b, World.cell?_setCell_other _ _ _ _ (by simp)]; exact g1 o
  have H1 : ∀ o, w1b.frozen? ⟨w.heap.size, o, none⟩ = (w.alloc (.cells #[.int .i64 0, .int .i64 0, .int .i64 0, .string ⟨#[]⟩, .string ⟨#[]⟩, .string ⟨#[]⟩, .int .i64 0, .string ⟨#[]⟩, .int .i64 0, .slice none 0 0, .slice none 0 0] 41)).frozen? ⟨w.heap.size, o, none⟩ := fun o => by rw [hw1b, ← h1 o]; simp
  have F1 : ∀ o, w1b.frozen? ⟨w.heap.size + 1, o, none⟩ = false := fun o => by rw [hw1b, ← f1x o]; simp
  have Q0 : w1b.cell? ⟨b, off, none⟩ = some (.string x) := by rw [hw1b, World.cell?_setCell_other _ _ _ _ (by first | (simp; done) | (simp; omega))]; exact q01
  have QM : w1b.cell? ⟨b, off + (M + 1), none⟩ = some (.string Lw) := by rw [hw1b, World.cell?_setCell_other _ _ _ _ (by first | (simp; done) | (simp; omega))]; exact qm1
  have JX := Lib.hid (JW.out w1b D1b)
  go_wp2_with fail
  rw [← hw1b]
  clear b10 b11 b12 b13 b14 b15 b16 b17 b18 b19 b110 g1 h1 f1x q01 qm1 hw1b
  refine JX.out.mono ?_
  rintro e w2 ⟨rfl, c2⟩
  have s2 := c2.size
  have d2 : Chg [] w w2 := D1b.trans0 c2
  have t2x : w.heap.size < w2.heap.size := by omega
  have u2 : w.heap.size + 1 < w2.heap.size := by omega
  have b20 : w2.cell? ⟨w.heap.size + 1, 0, none⟩ = some (.int .i64 0) := (c2.cell (p := ⟨w.heap.size + 1, 0, none⟩) (by simp; omega) (by simp)).trans B10
  have b21 : w2.cell? ⟨w.heap.size + 1, 1, none⟩ = some (.int .i64 n) := (c2.cell (p := ⟨w.heap.size + 1, 1, none⟩) (by simp; omega) (by simp)).trans B11
  have b22 : w2.cell? ⟨w.heap.size + 1, 2, none⟩ = some (.int .i64 0) := (c2.cell (p := ⟨w.heap.size + 1, 2, none⟩) (by simp; omega) (by simp)).trans B12
  have b23 : w2.cell? ⟨w.heap.size + 1, 3, none⟩ = some (.string ⟨#[]⟩) := (c2.cell (p := ⟨w.heap.size + 1, 3, none⟩) (by simp; omega) (by simp)).trans B13
  have b24 : w2.cell? ⟨w.heap.size + 1, 4, none⟩ = some (.string ⟨#[]⟩) := (c2.cell (p := ⟨w.heap.size + 1, 4, none⟩) (by simp; omega) (by simp)).trans B14
  have b25 : w2.cell? ⟨w.heap.size + 1, 5, none⟩ = some (.string ⟨#[]⟩) := (c2.cell (p := ⟨w.heap.size + 1, 5, none⟩) (by simp; omega) (by simp)).trans B15
  have b26 : w2.cell? ⟨w.heap.size + 1, 6, none⟩ = some (.int .i64 0) := (c2.cell (p := ⟨w.heap.size + 1, 6, none⟩) (by simp; omega) (by simp)).trans B16
  have b27 : w2.cell? ⟨w.heap.size + 1, 7, none⟩ = some (.string ⟨#[]⟩) := (c2.cell (p := ⟨w.heap.size + 1, 7, none⟩) (by simp; omega) (by simp)).trans B17
  have b28 : w2.cell? ⟨w.heap.size + 1, 8, none⟩ = some (.int .i64 0) := (c2.cell (p := ⟨w.heap.size + 1, 8, none⟩) (by simp; omega) (by simp)).trans B18
  have b29 : w2.cell? ⟨w.heap.size + 1, 9, none⟩ = some (.slice none 0 0) := (c2.cell (p := ⟨w.heap.size + 1, 9, none⟩) (by simp; omega) (by simp)).trans B19
  have b210 : w2.cell? ⟨w.heap.size + 1, 10, none⟩ = some (.slice none 0 0) := (c2.cell (p := ⟨w.heap.size + 1, 10, none⟩) (by simp; omega) (by simp)).trans B110
  have g2 : ∀ o, w2.cell? ⟨w.heap.size, o, none⟩ = (w.alloc (.cells #[.int .i64 0, .int .i64 0, .int .i64 0, .string ⟨#[]⟩, .string ⟨#[]⟩, .string ⟨#[]⟩, .int .i64 0, .string ⟨#[]⟩, .int .i64 0, .slice none 0 0, .slice none 0 0] 41)).cell? ⟨w.heap.size, o, none⟩ := fun o => (c2.cell (p := ⟨w.heap.size, o, none⟩) (by simp; omega) (by simp)).trans (G1 o)
  have h2 : ∀ o, w2.frozen? ⟨w.heap.size, o, none⟩ = (w.alloc (.cells #[.int .i64 0, .int .i64 0, .int .i64 0, .string ⟨#[]⟩, .string ⟨#[]⟩, .string ⟨#[]⟩, .int .i64 0, .string ⟨#[]⟩, .int .i64 0, .slice none 0 0, .slice none 0 0] 41)).frozen? ⟨w.heap.size, o, none⟩ := fun o => (c2.frozen (p := ⟨w.heap.size, o, none⟩) (by simp; omega) (by simp)).trans (H1 o)
  have f2x : ∀ o, w2.frozen? ⟨w.heap.size + 1, o, none⟩ = false := fun o => (c2.frozen (p := ⟨w.heap.size + 1, o, none⟩) (by simp; omega) (by simp)).trans (F1 o)
  have q02 : w2.cell? ⟨b, off, none⟩ = some (.string x) := (c2.cell (p := ⟨b, off, none⟩) (by simp; omega) (by simp)).trans Q0
  have qm2 : w2.cell? ⟨b, off + (M + 1), none⟩ = some (.string Lw) := (c2.cell (p := ⟨b, off + (M + 1), none⟩) (by simp; omega) (by simp)).trans QM
  have p02 : ∀ o u, (w2.setCell ⟨w.heap.size + 1, o, none⟩ u).cell? ⟨b, off, none⟩ = some (.string x) := fun o u => by rw [World.cell?_setCell_other _ _ _ _ (by first | (simp; done) | (simp; omega))]; exact q02
  have pm2 : ∀ o u, (w2.setCell ⟨w.heap.size + 1, o, none⟩ u).cell? ⟨b, off + (M + 1), none⟩ = some (.string Lw) := fun o u => by rw [World.cell?_setCell_other _ _ _ _ (by first | (simp; done) | (simp; omega))]; exact qm2
  clear c2 B10 B11 B12 B13 B14 B15 B16 B17 B18 B19 B110 G1 H1 F1 Q0 QM s1b JX t1x u1
  go_wp2_with fail
  refine bodyPost_ret (v := .agg #[.int .i64 3, .int .i64 n, .int .i64 0, .string ⟨#[]⟩, .string ⟨#[]⟩, .string ⟨#[]⟩, .int .i64 0, .string ⟨#[]⟩, .int .i64 0, .slice none 0 0, .slice none 0 0]) (by simp only [results, Tryz.results18]; go_simp) rfl ?_
  exact ActIs.of HKH.out ⟨rfl, by repeat (first | with_reducible exact d2 | with_reducible exact Chg.refl _ _ | with_reducible refine Chg.drew ?_ | with_reducible refine Chg.alloc ?_ _ | with_reducible refine Chg.setCell ?_ (.inr (by simp; try omega)) _)⟩
set_option maxRecDepth 100000 in
set_option maxHeartbeats 4000000 in
theorem l8Simple_4 {w : World} {b off M cap : Nat} {x y Lw R : ByteArray} {A3 : Option Addr} {n3 c3v : Nat} {n : Int} {f1 : Bool} (S : SimpH w b off M cap x y Lw R A3 n3 c3v n f1) {n2 : Int} {f2 : Bool} (PX : ∀ W, Calls Tryz.prog 30 #[.string Lw] W (fun e w1 => e = .returned (.tuple #[.int .i64 n2, .bool f2]) ∧ Chg [] W w1)) (h : x = wordT 4) :
    Calls Tryz.prog 18 #[.slice (some ⟨b, off, none⟩) (M + 2) cap] w (ActIs (mkA 4 n n2 noB zeroC 0) w) := by
  obtain ⟨q0, q1, qm, hwl, hM, hcap, PN, JW, SLW2⟩ := S
  have PN := Lib.hid PN
  have JW := Lib.hid JW
  have SAW2 : ∀ W, (Instr.sliceAt 30 (.slice (some ⟨b, off, none⟩) (M + 2) cap) (some (.int .i64 2)) none none).run Tryz.prog W = .ok (.slice A3 n3 c3v) W := fun W => by
    rw [run_sliceAt_slice (h := by rw [elem_strs]; exact Tryz.underlying30)]
    exact SLW2 W
  have PX := Lib.hid PX
  have t1 : (x.toList == [109, 97, 107, 101]) = false := by rw [h, ByteArray.toList_eq]; rfl
  have t2 : (x.toList == [119, 114, 97, 112]) = false := by rw [h, ByteArray.toList_eq]; rfl
  have t3 : (x.toList == [117, 110, 119, 114, 97, 112]) = false := by rw [h, ByteArray.toList_eq]; rfl
  have t4 : (x.toList == [99, 111, 112, 121]) = true := word_eq h rfl
  have t5 : (x.toList == [100, 114, 111, 112]) = false := by rw [h, ByteArray.toList_eq]; rfl
  have t6 : (x.toList == [97, 115, 107]) = false := by rw [h, ByteArray.toList_eq]; rfl
  have t7 : (x.toList == [99, 97, 108, 108]) = false := by rw [h, ByteArray.toList_eq]; rfl
  clear h
  obtain ⟨a, ha⟩ : ∃ a, a = mkA 4 n n2 noB zeroC 0 := ⟨_, rfl⟩
  rw [← ha]
  have HKH := Lib.hid ha
  clear ha
  go_enter Tryz.func18, Tryz.ntmps18
  go_wp2_with fail
  refine (PN.out _).mono ?_
  rintro e w1 ⟨rfl, c1⟩
  obtain ⟨wz, hwz⟩ : ∃ x, x = (w.alloc (.cells #[.int .i64 0, .int .i64 0, .int .i64 0, .string ⟨#[]⟩, .string ⟨#[]⟩, .string ⟨#[]⟩, .int .i64 0, .string ⟨#[]⟩, .int .i64 0, .slice none 0 0, .slice none 0 0] 41)).alloc (.cells #[.int .i64 0, .int .i64 0, .int .i64 0, .string ⟨#[]⟩, .string ⟨#[]⟩, .string ⟨#[]⟩, .int .i64 0, .string ⟨#[]⟩, .int .i64 0, .slice none 0 0, .slice none 0 0] 41) := ⟨_, rfl⟩
  have dz : Chg [] w wz := by rw [hwz]; exact ((Chg.refl _ _).alloc _).alloc _
  have c1 : Chg [] wz w1 := by rw [hwz]; exact c1
  have sz : wz.heap.size = w.heap.size + 1 + 1 := by rw [hwz]; simp
  have gz : ∀ o, wz.cell? ⟨w.heap.size, o, none⟩ = (w.alloc (.cells #[.int .i64 0, .int .i64 0, .int .i64 0, .string ⟨#[]⟩, .string ⟨#[]⟩, .string ⟨#[]⟩, .int .i64 0, .string ⟨#[]⟩, .int .i64 0, .slice none 0 0, .slice none 0 0] 41)).cell? ⟨w.heap.size, o, none⟩ := fun o => by rw [hwz]; exact ((Chg.refl [] (w.alloc (.cells #[.int .i64 0, .int .i64 0, .int .i64 0, .string ⟨#[]⟩, .string ⟨#[]⟩, .string ⟨#[]⟩, .int .i64 0, .string ⟨#[]⟩, .int .i64 0, .slice none 0 0, .slice none 0 0] 41))).alloc _).cell (p := ⟨w.heap.size, o, none⟩) (by simp) (by simp)
  have hz : ∀ o, wz.frozen? ⟨w.heap.size, o, none⟩ = (w.alloc (.cells #[.int .i64 0, .int .i64 0, .int .i64 0, .string ⟨#[]⟩, .string ⟨#[]⟩, .string ⟨#[]⟩, .int .i64 0, .string ⟨#[]⟩, .int .i64 0, .slice none 0 0, .slice none 0 0] 41)).frozen? ⟨w.heap.size, o, none⟩ := fun o => by rw [hwz]; exact ((Chg.refl [] (w.alloc (.cells #[.int .i64 0, .int .i64 0, .int .i64 0, .string ⟨#[]⟩, .string ⟨#[]⟩, .string ⟨#[]⟩, .int .i64 0, .string ⟨#[]⟩, .int .i64 0, .slice none 0 0, .slice none 0 0] 41))).alloc _).frozen (p := ⟨w.heap.size, o, none⟩) (by simp) (by simp)
  have s1 := c1.size
  have d1 : Chg [] w w1 := dz.trans0 c1
  have t1x : w.heap.size < w1.heap.size := by omega
  have u1 : w.heap.size + 1 < w1.heap.size := by omega
  have g1 : ∀ o, w1.cell? ⟨w.heap.size, o, none⟩ = (w.alloc (.cells #[.int .i64 0, .int .i64 0, .int .i64 0, .string ⟨#[]⟩, .string ⟨#[]⟩, .string ⟨#[]⟩, .int .i64 0, .string ⟨#[]⟩, .int .i64 0, .slice none 0 0, .slice none 0 0] 41)).cell? ⟨w.heap.size, o, none⟩ := fun o => (c1.cell (p := ⟨w.heap.size, o, none⟩) (by simp; omega) (by simp)).trans (gz o)
  have h1 : ∀ o, w1.frozen? ⟨w.heap.size, o, none⟩ = (w.alloc (.cells #[.int .i64 0, .int .i64 0, .int .i64 0, .string ⟨#[]⟩, .string ⟨#[]⟩, .string ⟨#[]⟩, .int .i64 0, .string ⟨#[]⟩, .int .i64 0, .slice none 0 0, .slice none 0 0] 41)).frozen? ⟨w.heap.size, o, none⟩ := fun o => (c1.frozen (p := ⟨w.heap.size, o, none⟩) (by simp; omega) (by simp)).trans (hz o)
  have fz : ∀ o, wz.frozen? ⟨w.heap.size + 1, o, none⟩ = false := fun o => by rw [hwz]; go_simp
  have f1x : ∀ o, w1.frozen? ⟨w.heap.size + 1, o, none⟩ = false := fun o => (c1.frozen (p := ⟨w.heap.size + 1, o, none⟩) (by simp; omega) (by simp)).trans (fz o)
  have b10 : w1.cell? ⟨w.heap.size + 1, 0, none⟩ = some (.int .i64 0) := (c1.cell (p := ⟨w.heap.size + 1, 0, none⟩) (by simp; omega) (by simp)).trans (by rw [hwz]; go_simp)
  have b11 : w1.cell? ⟨w.heap.size + 1, 1, none⟩ = some (.int .i64 0) := (c1.cell (p := ⟨w.heap.size + 1, 1, none⟩) (by simp; omega) (by simp)).trans (by rw [hwz]; go_simp)
  have b12 : w1.cell? ⟨w.heap.size + 1, 2, none⟩ = some (.int .i64 0) := (c1.cell (p := ⟨w.heap.size + 1, 2, none⟩) (by simp; omega) (by simp)).trans (by rw [hwz]; go_simp)
  have b13 : w1.cell? ⟨w.heap.size + 1, 3, none⟩ = some (.string ⟨#[]⟩) := (c1.cell (p := ⟨w.heap.size + 1, 3, none⟩) (by simp; omega) (by simp)).trans (by rw [hwz]; go_simp)
  have b14 : w1.cell? ⟨w.heap.size + 1, 4, none⟩ = some (.string ⟨#[]⟩) := (c1.cell (p := ⟨w.heap.size + 1, 4, none⟩) (by simp; omega) (by simp)).trans (by rw [hwz]; go_simp)
  have b15 : w1.cell? ⟨w.heap.size + 1, 5, none⟩ = some (.string ⟨#[]⟩) := (c1.cell (p := ⟨w.heap.size + 1, 5, none⟩) (by simp; omega) (by simp)).trans (by rw [hwz]; go_simp)
  have b16 : w1.cell? ⟨w.heap.size + 1, 6, none⟩ = some (.int .i64 0) := (c1.cell (p := ⟨w.heap.size + 1, 6, none⟩) (by simp; omega) (by simp)).trans (by rw [hwz]; go_simp)
  have b17 : w1.cell? ⟨w.heap.size + 1, 7, none⟩ = some (.string ⟨#[]⟩) := (c1.cell (p := ⟨w.heap.size + 1, 7, none⟩) (by simp; omega) (by simp)).trans (by rw [hwz]; go_simp)
  have b18 : w1.cell? ⟨w.heap.size + 1, 8, none⟩ = some (.int .i64 0) := (c1.cell (p := ⟨w.heap.size + 1, 8, none⟩) (by simp; omega) (by simp)).trans (by rw [hwz]; go_simp)
  have b19 : w1.cell? ⟨w.heap.size + 1, 9, none⟩ = some (.slice none 0 0) := (c1.cell (p := ⟨w.heap.size + 1, 9, none⟩) (by simp; omega) (by simp)).trans (by rw [hwz]; go_simp)
  have b110 : w1.cell? ⟨w.heap.size + 1, 10, none⟩ = some (.slice none 0 0) := (c1.cell (p := ⟨w.heap.size + 1, 10, none⟩) (by simp; omega) (by simp)).trans (by rw [hwz]; go_simp)
  have q01 : w1.cell? ⟨b, off, none⟩ = some (.string x) := (d1.cell (p := ⟨b, off, none⟩) hwl (by simp)).trans q0
  have qm1 : w1.cell? ⟨b, off + (M + 1), none⟩ = some (.string Lw) := (d1.cell (p := ⟨b, off + (M + 1), none⟩) hwl (by simp)).trans qm
  clear hwz c1 gz hz fz q0 q1 qm sz dz s1
  obtain ⟨w1b, hw1b⟩ : ∃ x, x = w1.setCell ⟨w.heap.size + 1, 1, none⟩ (.int .i64 n) := ⟨_, rfl⟩
  have D1b : Chg [] w w1b := by rw [hw1b]; exact d1.setCell (.inr (by simp)) _
  have s1b : w1b.heap.size = w1.heap.size := by rw [hw1b]; simp
  have B10 : w1b.cell? ⟨w.heap.size + 1, 0, none⟩ = some (.int .i64 0) := by rw [hw1b, World.cell?_setCell_other _ _ _ _ (by simp)]; exact b10
  have B11 : w1b.cell? ⟨w.heap.size + 1, 1, none⟩ = some (.int .i64 n) := by rw [hw1b]; exact World.cell?_setCell_same _ _ _ b11
  have B12 : w1b.cell? ⟨w.heap.size + 1, 2, none⟩ = some (.int .i64 0) := by rw [hw1b, World.cell?_setCell_other _ _ _ _ (by simp)]; exact b12
  have B13 : w1b.cell? ⟨w.heap.size + 1, 3, none⟩ = some (.string ⟨#[]⟩) := by rw [hw1b, World.cell?_setCell_other _ _ _ _ (by simp)]; exact b13
  have B14 : w1b.cell? ⟨w.heap.size + 1, 4, none⟩ = some (.string ⟨#[]⟩) := by rw [hw1b, World.cell?_setCell_other _ _ _ _ (by simp)]; exact b14
  have B15 : w1b.cell? ⟨w.heap.size + 1, 5, none⟩ = some (.string ⟨#[]⟩) := by rw [hw1b, World.cell?_setCell_other _ _ _ _ (by simp)]; exact b15
  have B16 : w1b.cell? ⟨w.heap.size + 1, 6, none⟩ = some (.int .i64 0) := by rw [hw1b, World.cell?_setCell_other _ _ _ _ (by simp)]; exact b16
  have B17 : w1b.cell? ⟨w.heap.size + 1, 7, none⟩ = some (.string ⟨#[]⟩) := by rw [hw1b, World.cell?_setCell_other _ _ _ _ (by simp)]; exact b17
  have B18 : w1b.cell? ⟨w.heap.size + 1, 8, none⟩ = some (.int .i64 0) := by rw [hw1b, World.cell?_setCell_other _ _ _ _ (by simp)]; exact b18
  have B19 : w1b.cell? ⟨w.heap.size + 1, 9, none⟩ = some (.slice none 0 0) := by rw [hw1b, World.cell?_setCell_other _ _ _ _ (by simp)]; exact b19
  have B110 : w1b.cell? ⟨w.heap.size + 1, 10, none⟩ = some (.slice none 0 0) := by rw [hw1b, World.cell?_setCell_other _ _ _ _ (by simp)]; exact b110
  have G1 : ∀ o, w1b.cell? ⟨w.heap.size, o, none⟩ = (w.alloc (.cells #[.int .i64 0, .int .i64 0, .int .i64 0, .string ⟨#[]⟩, .string ⟨#[]⟩, .string ⟨#[]⟩, .int .i64 0, .string ⟨#[]⟩, .int .i64 0, .slice none 0 0, .slice none 0 0] 41)).cell? ⟨w.heap.size, o, none⟩ := fun o => by rw [hw1b, World.cell?_setCell_other _ _ _ _ (by simp)]; exact g1 o
  have H1 : ∀ o, w1b.frozen? ⟨w.heap.size, o, none⟩ = (w.alloc (.cells #[.int .i64 0, .int .i64 0, .int .i64 0, .string ⟨#[]⟩, .string ⟨#[]⟩, .string ⟨#[]⟩, .int .i64 0, .string ⟨#[]⟩, .int .i64 0, .slice none 0 0, .slice none 0 0] 41)).frozen? ⟨w.heap.size, o, none⟩ := fun o => by rw [hw1b, ← h1 o]; simp
  have F1 : ∀ o, w1b.frozen? ⟨w.heap.size + 1, o, none⟩ = false := fun o => by rw [hw1b, ← f1x o]; simp
  have Q0 : w1b.cell? ⟨b, off, none⟩ = some (.string x) := by rw [hw1b, World.cell?_setCell_other _ _ _ _ (by first | (simp; done) | (simp; omega))]; exact q01
  have QM : w1b.cell? ⟨b, off + (M + 1), none⟩ = some (.string Lw) := by rw [hw1b, World.cell?_setCell_other _ _ _ _ (by first | (simp; done) | (simp; omega))]; exact qm1
  have JX := Lib.hid (JW.out w1b D1b)
  go_wp2_with fail
  rw [← hw1b]
  clear b10 b11 b12 b13 b14 b15 b16 b17 b18 b19 b110 g1 h1 f1x q01 qm1 hw1b
  refine JX.out.mono ?_
  rintro e w2 ⟨rfl, c2⟩
  have s2 := c2.size
  have d2 : Chg [] w w2 := D1b.trans0 c2
  have t2x : w.heap.size < w2.heap.size := by omega
  have u2 : w.heap.size + 1 < w2.heap.size := by omega
  have b20 : w2.cell? ⟨w.heap.size + 1, 0, none⟩ = some (.int .i64 0) := (c2.cell (p := ⟨w.heap.size + 1, 0, none⟩) (by simp; omega) (by simp)).trans B10
  have b21 : w2.cell? ⟨w.heap.size + 1, 1, none⟩ = some (.int .i64 n) := (c2.cell (p := ⟨w.heap.size + 1, 1, none⟩) (by simp; omega) (by simp)).trans B11
  have b22 : w2.cell? ⟨w.heap.size + 1, 2, none⟩ = some (.int .i64 0) := (c2.cell (p := ⟨w.heap.size + 1, 2, none⟩) (by simp; omega) (by simp)).trans B12
  have b23 : w2.cell? ⟨w.heap.size + 1, 3, none⟩ = some (.string ⟨#[]⟩) := (c2.cell (p := ⟨w.heap.size + 1, 3, none⟩) (by simp; omega) (by simp)).trans B13
  have b24 : w2.cell? ⟨w.heap.size + 1, 4, none⟩ = some (.string ⟨#[]⟩) := (c2.cell (p := ⟨w.heap.size + 1, 4, none⟩) (by simp; omega) (by simp)).trans B14
  have b25 : w2.cell? ⟨w.heap.size + 1, 5, none⟩ = some (.string ⟨#[]⟩) := (c2.cell (p := ⟨w.heap.size + 1, 5, none⟩) (by simp; omega) (by simp)).trans B15
  have b26 : w2.cell? ⟨w.heap.size + 1, 6, none⟩ = some (.int .i64 0) := (c2.cell (p := ⟨w.heap.size + 1, 6, none⟩) (by simp; omega) (by simp)).trans B16
  have b27 : w2.cell? ⟨w.heap.size + 1, 7, none⟩ = some (.string ⟨#[]⟩) := (c2.cell (p := ⟨w.heap.size + 1, 7, none⟩) (by simp; omega) (by simp)).trans B17
  have b28 : w2.cell? ⟨w.heap.size + 1, 8, none⟩ = some (.int .i64 0) := (c2.cell (p := ⟨w.heap.size + 1, 8, none⟩) (by simp; omega) (by simp)).trans B18
  have b29 : w2.cell? ⟨w.heap.size + 1, 9, none⟩ = some (.slice none 0 0) := (c2.cell (p := ⟨w.heap.size + 1, 9, none⟩) (by simp; omega) (by simp)).trans B19
  have b210 : w2.cell? ⟨w.heap.size + 1, 10, none⟩ = some (.slice none 0 0) := (c2.cell (p := ⟨w.heap.size + 1, 10, none⟩) (by simp; omega) (by simp)).trans B110
  have g2 : ∀ o, w2.cell? ⟨w.heap.size, o, none⟩ = (w.alloc (.cells #[.int .i64 0, .int .i64 0, .int .i64 0, .string ⟨#[]⟩, .string ⟨#[]⟩, .string ⟨#[]⟩, .int .i64 0, .string ⟨#[]⟩, .int .i64 0, .slice none 0 0, .slice none 0 0] 41)).cell? ⟨w.heap.size, o, none⟩ := fun o => (c2.cell (p := ⟨w.heap.size, o, none⟩) (by simp; omega) (by simp)).trans (G1 o)
  have h2 : ∀ o, w2.frozen? ⟨w.heap.size, o, none⟩ = (w.alloc (.cells #[.int .i64 0, .int .i64 0, .int .i64 0, .string ⟨#[]⟩, .string ⟨#[]⟩, .string ⟨#[]⟩, .int .i64 0, .string ⟨#[]⟩, .int .i64 0, .slice none 0 0, .slice none 0 0] 41)).frozen? ⟨w.heap.size, o, none⟩ := fun o => (c2.frozen (p := ⟨w.heap.size, o, none⟩) (by simp; omega) (by simp)).trans (H1 o)
  have f2x : ∀ o, w2.frozen? ⟨w.heap.size + 1, o, none⟩ = false := fun o => (c2.frozen (p := ⟨w.heap.size + 1, o, none⟩) (by simp; omega) (by simp)).trans (F1 o)
  have q02 : w2.cell? ⟨b, off, none⟩ = some (.string x) := (c2.cell (p := ⟨b, off, none⟩) (by simp; omega) (by simp)).trans Q0
  have qm2 : w2.cell? ⟨b, off + (M + 1), none⟩ = some (.string Lw) := (c2.cell (p := ⟨b, off + (M + 1), none⟩) (by simp; omega) (by simp)).trans QM
  have p02 : ∀ o u, (w2.setCell ⟨w.heap.size + 1, o, none⟩ u).cell? ⟨b, off, none⟩ = some (.string x) := fun o u => by rw [World.cell?_setCell_other _ _ _ _ (by first | (simp; done) | (simp; omega))]; exact q02
  have pm2 : ∀ o u, (w2.setCell ⟨w.heap.size + 1, o, none⟩ u).cell? ⟨b, off + (M + 1), none⟩ = some (.string Lw) := fun o u => by rw [World.cell?_setCell_other _ _ _ _ (by first | (simp; done) | (simp; omega))]; exact qm2
  clear c2 B10 B11 B12 B13 B14 B15 B16 B17 B18 B19 B110 G1 H1 F1 Q0 QM s1b JX t1x u1
  go_wp2_with fail
  obtain ⟨w2b, hw2b⟩ : ∃ x, x = w2.setCell ⟨w.heap.size + 1, 0, none⟩ (.int .i64 4) := ⟨_, rfl⟩
  have D2b : Chg [] w w2b := by rw [hw2b]; exact d2.setCell (.inr (by simp)) _
  have s2b : w2b.heap.size = w2.heap.size := by rw [hw2b]; simp
  have B20 : w2b.cell? ⟨w.heap.size + 1, 0, none⟩ = some (.int .i64 4) := by rw [hw2b]; exact World.cell?_setCell_same _ _ _ b20
  have B21 : w2b.cell? ⟨w.heap.size + 1, 1, none⟩ = some (.int .i64 n) := by rw [hw2b, World.cell?_setCell_other _ _ _ _ (by simp)]; exact b21
  have B22 : w2b.cell? ⟨w.heap.size + 1, 2, none⟩ = some (.int .i64 0) := by rw [hw2b, World.cell?_setCell_other _ _ _ _ (by simp)]; exact b22
  have B23 : w2b.cell? ⟨w.heap.size + 1, 3, none⟩ = some (.string ⟨#[]⟩) := by rw [hw2b, World.cell?_setCell_other _ _ _ _ (by simp)]; exact b23
  have B24 : w2b.cell? ⟨w.heap.size + 1, 4, none⟩ = some (.string ⟨#[]⟩) := by rw [hw2b, World.cell?_setCell_other _ _ _ _ (by simp)]; exact b24
  have B25 : w2b.cell? ⟨w.heap.size + 1, 5, none⟩ = some (.string ⟨#[]⟩) := by rw [hw2b, World.cell?_setCell_other _ _ _ _ (by simp)]; exact b25
  have B26 : w2b.cell? ⟨w.heap.size + 1, 6, none⟩ = some (.int .i64 0) := by rw [hw2b, World.cell?_setCell_other _ _ _ _ (by simp)]; exact b26
  have B27 : w2b.cell? ⟨w.heap.size + 1, 7, none⟩ = some (.string ⟨#[]⟩) := by rw [hw2b, World.cell?_setCell_other _ _ _ _ (by simp)]; exact b27
  have B28 : w2b.cell? ⟨w.heap.size + 1, 8, none⟩ = some (.int .i64 0) := by rw [hw2b, World.cell?_setCell_other _ _ _ _ (by simp)]; exact b28
  have B29 : w2b.cell? ⟨w.heap.size + 1, 9, none⟩ = some (.slice none 0 0) := by rw [hw2b, World.cell?_setCell_other _ _ _ _ (by simp)]; exact b29
  have B210 : w2b.cell? ⟨w.heap.size + 1, 10, none⟩ = some (.slice none 0 0) := by rw [hw2b, World.cell?_setCell_other _ _ _ _ (by simp)]; exact b210
  have G2 : ∀ o, w2b.cell? ⟨w.heap.size, o, none⟩ = (w.alloc (.cells #[.int .i64 0, .int .i64 0, .int .i64 0, .string ⟨#[]⟩, .string ⟨#[]⟩, .string ⟨#[]⟩, .int .i64 0, .string ⟨#[]⟩, .int .i64 0, .slice none 0 0, .slice none 0 0] 41)).cell? ⟨w.heap.size, o, none⟩ := fun o => by rw [hw2b, World.cell?_setCell_other _ _ _ _ (by simp)]; exact g2 o
  have H2 : ∀ o, w2b.frozen? ⟨w.heap.size, o, none⟩ = (w.alloc (.cells #[.int .i64 0, .int .i64 0, .int .i64 0, .string ⟨#[]⟩, .string ⟨#[]⟩, .string ⟨#[]⟩, .int .i64 0, .string ⟨#[]⟩, .int .i64 0, .slice none 0 0, .slice none 0 0] 41)).frozen? ⟨w.heap.size, o, none⟩ := fun o => by rw [hw2b, ← h2 o]; simp
  have F2 : ∀ o, w2b.frozen? ⟨w.heap.size + 1, o, none⟩ = false := fun o => by rw [hw2b, ← f2x o]; simp
  rw [← hw2b]
  clear b20 b21 b22 b23 b24 b25 b26 b27 b28 b29 b210 g2 h2 f2x q02 qm2 p02 pm2 hw2b
  refine (PX.out _).mono ?_
  rintro e w3 ⟨rfl, c3⟩
  have s3 := c3.size
  have d3 : Chg [] w w3 := D2b.trans0 c3
  have t3x : w.heap.size < w3.heap.size := by omega
  have u3 : w.heap.size + 1 < w3.heap.size := by omega
  have b30 : w3.cell? ⟨w.heap.size + 1, 0, none⟩ = some (.int .i64 4) := (c3.cell (p := ⟨w.heap.size + 1, 0, none⟩) (by simp; omega) (by simp)).trans B20
  have b31 : w3.cell? ⟨w.heap.size + 1, 1, none⟩ = some (.int .i64 n) := (c3.cell (p := ⟨w.heap.size + 1, 1, none⟩) (by simp; omega) (by simp)).trans B21
  have b32 : w3.cell? ⟨w.heap.size + 1, 2, none⟩ = some (.int .i64 0) := (c3.cell (p := ⟨w.heap.size + 1, 2, none⟩) (by simp; omega) (by simp)).trans B22
  have b33 : w3.cell? ⟨w.heap.size + 1, 3, none⟩ = some (.string ⟨#[]⟩) := (c3.cell (p := ⟨w.heap.size + 1, 3, none⟩) (by simp; omega) (by simp)).trans B23
  have b34 : w3.cell? ⟨w.heap.size + 1, 4, none⟩ = some (.string ⟨#[]⟩) := (c3.cell (p := ⟨w.heap.size + 1, 4, none⟩) (by simp; omega) (by simp)).trans B24
  have b35 : w3.cell? ⟨w.heap.size + 1, 5, none⟩ = some (.string ⟨#[]⟩) := (c3.cell (p := ⟨w.heap.size + 1, 5, none⟩) (by simp; omega) (by simp)).trans B25
  have b36 : w3.cell? ⟨w.heap.size + 1, 6, none⟩ = some (.int .i64 0) := (c3.cell (p := ⟨w.heap.size + 1, 6, none⟩) (by simp; omega) (by simp)).trans B26
  have b37 : w3.cell? ⟨w.heap.size + 1, 7, none⟩ = some (.string ⟨#[]⟩) := (c3.cell (p := ⟨w.heap.size + 1, 7, none⟩) (by simp; omega) (by simp)).trans B27
  have b38 : w3.cell? ⟨w.heap.size + 1, 8, none⟩ = some (.int .i64 0) := (c3.cell (p := ⟨w.heap.size + 1, 8, none⟩) (by simp; omega) (by simp)).trans B28
  have b39 : w3.cell? ⟨w.heap.size + 1, 9, none⟩ = some (.slice none 0 0) := (c3.cell (p := ⟨w.heap.size + 1, 9, none⟩) (by simp; omega) (by simp)).trans B29
  have b310 : w3.cell? ⟨w.heap.size + 1, 10, none⟩ = some (.slice none 0 0) := (c3.cell (p := ⟨w.heap.size + 1, 10, none⟩) (by simp; omega) (by simp)).trans B210
  have g3 : ∀ o, w3.cell? ⟨w.heap.size, o, none⟩ = (w.alloc (.cells #[.int .i64 0, .int .i64 0, .int .i64 0, .string ⟨#[]⟩, .string ⟨#[]⟩, .string ⟨#[]⟩, .int .i64 0, .string ⟨#[]⟩, .int .i64 0, .slice none 0 0, .slice none 0 0] 41)).cell? ⟨w.heap.size, o, none⟩ := fun o => (c3.cell (p := ⟨w.heap.size, o, none⟩) (by simp; omega) (by simp)).trans (G2 o)
  have h3 : ∀ o, w3.frozen? ⟨w.heap.size, o, none⟩ = (w.alloc (.cells #[.int .i64 0, .int .i64 0, .int .i64 0, .string ⟨#[]⟩, .string ⟨#[]⟩, .string ⟨#[]⟩, .int .i64 0, .string ⟨#[]⟩, .int .i64 0, .slice none 0 0, .slice none 0 0] 41)).frozen? ⟨w.heap.size, o, none⟩ := fun o => (c3.frozen (p := ⟨w.heap.size, o, none⟩) (by simp; omega) (by simp)).trans (H2 o)
  have f3x : ∀ o, w3.frozen? ⟨w.heap.size + 1, o, none⟩ = false := fun o => (c3.frozen (p := ⟨w.heap.size + 1, o, none⟩) (by simp; omega) (by simp)).trans (F2 o)
  have e30 : ∀ u, (w3.setCell ⟨w.heap.size + 1, 2, none⟩ u).cell? ⟨w.heap.size + 1, 0, none⟩ = some (.int .i64 4) := fun u => by rw [World.cell?_setCell_other _ _ _ _ (by simp)]; exact b30
  have e31 : ∀ u, (w3.setCell ⟨w.heap.size + 1, 2, none⟩ u).cell? ⟨w.heap.size + 1, 1, none⟩ = some (.int .i64 n) := fun u => by rw [World.cell?_setCell_other _ _ _ _ (by simp)]; exact b31
  have e32 : ∀ u, (w3.setCell ⟨w.heap.size + 1, 2, none⟩ u).cell? ⟨w.heap.size + 1, 2, none⟩ = some u := fun u => World.cell?_setCell_same _ _ _ b32
  have e33 : ∀ u, (w3.setCell ⟨w.heap.size + 1, 2, none⟩ u).cell? ⟨w.heap.size + 1, 3, none⟩ = some (.string ⟨#[]⟩) := fun u => by rw [World.cell?_setCell_other _ _ _ _ (by simp)]; exact b33
  have e34 : ∀ u, (w3.setCell ⟨w.heap.size + 1, 2, none⟩ u).cell? ⟨w.heap.size + 1, 4, none⟩ = some (.string ⟨#[]⟩) := fun u => by rw [World.cell?_setCell_other _ _ _ _ (by simp)]; exact b34
  have e35 : ∀ u, (w3.setCell ⟨w.heap.size + 1, 2, none⟩ u).cell? ⟨w.heap.size + 1, 5, none⟩ = some (.string ⟨#[]⟩) := fun u => by rw [World.cell?_setCell_other _ _ _ _ (by simp)]; exact b35
  have e36 : ∀ u, (w3.setCell ⟨w.heap.size + 1, 2, none⟩ u).cell? ⟨w.heap.size + 1, 6, none⟩ = some (.int .i64 0) := fun u => by rw [World.cell?_setCell_other _ _ _ _ (by simp)]; exact b36
  have e37 : ∀ u, (w3.setCell ⟨w.heap.size + 1, 2, none⟩ u).cell? ⟨w.heap.size + 1, 7, none⟩ = some (.string ⟨#[]⟩) := fun u => by rw [World.cell?_setCell_other _ _ _ _ (by simp)]; exact b37
  have e38 : ∀ u, (w3.setCell ⟨w.heap.size + 1, 2, none⟩ u).cell? ⟨w.heap.size + 1, 8, none⟩ = some (.int .i64 0) := fun u => by rw [World.cell?_setCell_other _ _ _ _ (by simp)]; exact b38
  have e39 : ∀ u, (w3.setCell ⟨w.heap.size + 1, 2, none⟩ u).cell? ⟨w.heap.size + 1, 9, none⟩ = some (.slice none 0 0) := fun u => by rw [World.cell?_setCell_other _ _ _ _ (by simp)]; exact b39
  have e310 : ∀ u, (w3.setCell ⟨w.heap.size + 1, 2, none⟩ u).cell? ⟨w.heap.size + 1, 10, none⟩ = some (.slice none 0 0) := fun u => by rw [World.cell?_setCell_other _ _ _ _ (by simp)]; exact b310
  clear c3 B20 B21 B22 B23 B24 B25 B26 B27 B28 B29 B210 G2 H2 F2 s2b t2x u2
  go_wp2_with fail
  refine bodyPost_ret (v := .agg #[.int .i64 4, .int .i64 n, .int .i64 n2, .string ⟨#[]⟩, .string ⟨#[]⟩, .string ⟨#[]⟩, .int .i64 0, .string ⟨#[]⟩, .int .i64 0, .slice none 0 0, .slice none 0 0]) (by simp only [results, Tryz.results18]; go_simp) rfl ?_
  exact ActIs.of HKH.out ⟨rfl, by repeat (first | with_reducible exact d3 | with_reducible exact Chg.refl _ _ | with_reducible refine Chg.drew ?_ | with_reducible refine Chg.alloc ?_ _ | with_reducible refine Chg.setCell ?_ (.inr (by simp; try omega)) _)⟩
set_option maxRecDepth 100000 in
set_option maxHeartbeats 4000000 in
theorem l8Simple_5 {w : World} {b off M cap : Nat} {x y Lw R : ByteArray} {A3 : Option Addr} {n3 c3v : Nat} {n : Int} {f1 : Bool} (S : SimpH w b off M cap x y Lw R A3 n3 c3v n f1)  (h : x = wordT 5) :
    Calls Tryz.prog 18 #[.slice (some ⟨b, off, none⟩) (M + 2) cap] w (ActIs (mkA 5 n 0 noB zeroC 0) w) := by
  obtain ⟨q0, q1, qm, hwl, hM, hcap, PN, JW, SLW2⟩ := S
  have PN := Lib.hid PN
  have JW := Lib.hid JW
  have SAW2 : ∀ W, (Instr.sliceAt 30 (.slice (some ⟨b, off, none⟩) (M + 2) cap) (some (.int .i64 2)) none none).run Tryz.prog W = .ok (.slice A3 n3 c3v) W := fun W => by
    rw [run_sliceAt_slice (h := by rw [elem_strs]; exact Tryz.underlying30)]
    exact SLW2 W
  have t1 : (x.toList == [109, 97, 107, 101]) = false := by rw [h, ByteArray.toList_eq]; rfl
  have t2 : (x.toList == [119, 114, 97, 112]) = false := by rw [h, ByteArray.toList_eq]; rfl
  have t3 : (x.toList == [117, 110, 119, 114, 97, 112]) = false := by rw [h, ByteArray.toList_eq]; rfl
  have t4 : (x.toList == [99, 111, 112, 121]) = false := by rw [h, ByteArray.toList_eq]; rfl
  have t5 : (x.toList == [100, 114, 111, 112]) = true := word_eq h rfl
  have t6 : (x.toList == [97, 115, 107]) = false := by rw [h, ByteArray.toList_eq]; rfl
  have t7 : (x.toList == [99, 97, 108, 108]) = false := by rw [h, ByteArray.toList_eq]; rfl
  clear h
  obtain ⟨a, ha⟩ : ∃ a, a = mkA 5 n 0 noB zeroC 0 := ⟨_, rfl⟩
  rw [← ha]
  have HKH := Lib.hid ha
  clear ha
  go_enter Tryz.func18, Tryz.ntmps18
  go_wp2_with fail
  refine (PN.out _).mono ?_
  rintro e w1 ⟨rfl, c1⟩
  obtain ⟨wz, hwz⟩ : ∃ x, x = (w.alloc (.cells #[.int .i64 0, .int .i64 0, .int .i64 0, .string ⟨#[]⟩, .string ⟨#[]⟩, .string ⟨#[]⟩, .int .i64 0, .string ⟨#[]⟩, .int .i64 0, .slice none 0 0, .slice none 0 0] 41)).alloc (.cells #[.int .i64 0, .int .i64 0, .int .i64 0, .string ⟨#[]⟩, .string ⟨#[]⟩, .string ⟨#[]⟩, .int .i64 0, .string ⟨#[]⟩, .int .i64 0, .slice none 0 0, .slice none 0 0] 41) := ⟨_, rfl⟩
  have dz : Chg [] w wz := by rw [hwz]; exact ((Chg.refl _ _).alloc _).alloc _
  have c1 : Chg [] wz w1 := by rw [hwz]; exact c1
  have sz : wz.heap.size = w.heap.size + 1 + 1 := by rw [hwz]; simp
  have gz : ∀ o, wz.cell? ⟨w.heap.size, o, none⟩ = (w.alloc (.cells #[.int .i64 0, .int .i64 0, .int .i64 0, .string ⟨#[]⟩, .string ⟨#[]⟩, .string ⟨#[]⟩, .int .i64 0, .string ⟨#[]⟩, .int .i64 0, .slice none 0 0, .slice none 0 0] 41)).cell? ⟨w.heap.size, o, none⟩ := fun o => by rw [hwz]; exact ((Chg.refl [] (w.alloc (.cells #[.int .i64 0, .int .i64 0, .int .i64 0, .string ⟨#[]⟩, .string ⟨#[]⟩, .string ⟨#[]⟩, .int .i64 0, .string ⟨#[]⟩, .int .i64 0, .slice none 0 0, .slice none 0 0] 41))).alloc _).cell (p := ⟨w.heap.size, o, none⟩) (by simp) (by simp)
  have hz : ∀ o, wz.frozen? ⟨w.heap.size, o, none⟩ = (w.alloc (.cells #[.int .i64 0, .int .i64 0, .int .i64 0, .string ⟨#[]⟩, .string ⟨#[]⟩, .string ⟨#[]⟩, .int .i64 0, .string ⟨#[]⟩, .int .i64 0, .slice none 0 0, .slice none 0 0] 41)).frozen? ⟨w.heap.size, o, none⟩ := fun o => by rw [hwz]; exact ((Chg.refl [] (w.alloc (.cells #[.int .i64 0, .int .i64 0, .int .i64 0, .string ⟨#[]⟩, .string ⟨#[]⟩, .string ⟨#[]⟩, .int .i64 0, .string ⟨#[]⟩, .int .i64 0, .slice none 0 0, .slice none 0 0] 41))).alloc _).frozen (p := ⟨w.heap.size, o, none⟩) (by simp) (by simp)
  have s1 := c1.size
  have d1 : Chg [] w w1 := dz.trans0 c1
  have t1x : w.heap.size < w1.heap.size := by omega
  have u1 : w.heap.size + 1 < w1.heap.size := by omega
  have g1 : ∀ o, w1.cell? ⟨w.heap.size, o, none⟩ = (w.alloc (.cells #[.int .i64 0, .int .i64 0, .int .i64 0, .string ⟨#[]⟩, .string ⟨#[]⟩, .string ⟨#[]⟩, .int .i64 0, .string ⟨#[]⟩, .int .i64 0, .slice none 0 0, .slice none 0 0] 41)).cell? ⟨w.heap.size, o, none⟩ := fun o => (c1.cell (p := ⟨w.heap.size, o, none⟩) (by simp; omega) (by simp)).trans (gz o)
  have h1 : ∀ o, w1.frozen? ⟨w.heap.size, o, none⟩ = (w.alloc (.cells #[.int .i64 0, .int .i64 0, .int .i64 0, .string ⟨#[]⟩, .string ⟨#[]⟩, .string ⟨#[]⟩, .int .i64 0, .string ⟨#[]⟩, .int .i64 0, .slice none 0 0, .slice none 0 0] 41)).frozen? ⟨w.heap.size, o, none⟩ := fun o => (c1.frozen (p := ⟨w.heap.size, o, none⟩) (by simp; omega) (by simp)).trans (hz o)
  have fz : ∀ o, wz.frozen? ⟨w.heap.size + 1, o, none⟩ = false := fun o => by rw [hwz]; go_simp
  have f1x : ∀ o, w1.frozen? ⟨w.heap.size + 1, o, none⟩ = false := fun o => (c1.frozen (p := ⟨w.heap.size + 1, o, none⟩) (by simp; omega) (by simp)).trans (fz o)
  have b10 : w1.cell? ⟨w.heap.size + 1, 0, none⟩ = some (.int .i64 0) := (c1.cell (p := ⟨w.heap.size + 1, 0, none⟩) (by simp; omega) (by simp)).trans (by rw [hwz]; go_simp)
  have b11 : w1.cell? ⟨w.heap.size + 1, 1, none⟩ = some (.int .i64 0) := (c1.cell (p := ⟨w.heap.size + 1, 1, none⟩) (by simp; omega) (by simp)).trans (by rw [hwz]; go_simp)
  have b12 : w1.cell? ⟨w.heap.size + 1, 2, none⟩ = some (.int .i64 0) := (c1.cell (p := ⟨w.heap.size + 1, 2, none⟩) (by simp; omega) (by simp)).trans (by rw [hwz]; go_simp)
  have b13 : w1.cell? ⟨w.heap.size + 1, 3, none⟩ = some (.string ⟨#[]⟩) := (c1.cell (p := ⟨w.heap.size + 1, 3, none⟩) (by simp; omega) (by simp)).trans (by rw [hwz]; go_simp)
  have b14 : w1.cell? ⟨w.heap.size + 1, 4, none⟩ = some (.string ⟨#[]⟩) := (c1.cell (p := ⟨w.heap.size + 1, 4, none⟩) (by simp; omega) (by simp)).trans (by rw [hwz]; go_simp)
  have b15 : w1.cell? ⟨w.heap.size + 1, 5, none⟩ = some (.string ⟨#[]⟩) := (c1.cell (p := ⟨w.heap.size + 1, 5, none⟩) (by simp; omega) (by simp)).trans (by rw [hwz]; go_simp)
  have b16 : w1.cell? ⟨w.heap.size + 1, 6, none⟩ = some (.int .i64 0) := (c1.cell (p := ⟨w.heap.size + 1, 6, none⟩) (by simp; omega) (by simp)).trans (by rw [hwz]; go_simp)
  have b17 : w1.cell? ⟨w.heap.size + 1, 7, none⟩ = some (.string ⟨#[]⟩) := (c1.cell (p := ⟨w.heap.size + 1, 7, none⟩) (by simp; omega) (by simp)).trans (by rw [hwz]; go_simp)
  have b18 : w1.cell? ⟨w.heap.size + 1, 8, none⟩ = some (.int .i64 0) := (c1.cell (p := ⟨w.heap.size + 1, 8, none⟩) (by simp; omega) (by simp)).trans (by rw [hwz]; go_simp)
  have b19 : w1.cell? ⟨w.heap.size + 1, 9, none⟩ = some (.slice none 0 0) := (c1.cell (p := ⟨w.heap.size + 1, 9, none⟩) (by simp; omega) (by simp)).trans (by rw [hwz]; go_simp)
  have b110 : w1.cell? ⟨w.heap.size + 1, 10, none⟩ = some (.slice none 0 0) := (c1.cell (p := ⟨w.heap.size + 1, 10, none⟩) (by simp; omega) (by simp)).trans (by rw [hwz]; go_simp)
  have q01 : w1.cell? ⟨b, off, none⟩ = some (.string x) := (d1.cell (p := ⟨b, off, none⟩) hwl (by simp)).trans q0
  have qm1 : w1.cell? ⟨b, off + (M + 1), none⟩ = some (.string Lw) := (d1.cell (p := ⟨b, off + (M + 1), none⟩) hwl (by simp)).trans qm
  clear hwz c1 gz hz fz q0 q1 qm sz dz s1
  obtain ⟨w1b, hw1b⟩ : ∃ x, x = w1.setCell ⟨w.heap.size + 1, 1, none⟩ (.int .i64 n) := ⟨_, rfl⟩
  have D1b : Chg [] w w1b := by rw [hw1b]; exact d1.setCell (.inr (by simp)) _
  have s1b : w1b.heap.size = w1.heap.size := by rw [hw1b]; simp
  have B10 : w1b.cell? ⟨w.heap.size + 1, 0, none⟩ = some (.int .i64 0) := by rw [hw1b, World.cell?_setCell_other _ _ _ _ (by simp)]; exact b10
  have B11 : w1b.cell? ⟨w.heap.size + 1, 1, none⟩ = some (.int .i64 n) := by rw [hw1b]; exact World.cell?_setCell_same _ _ _ b11
  have B12 : w1b.cell? ⟨w.heap.size + 1, 2, none⟩ = some (.int .i64 0) := by rw [hw1b, World.cell?_setCell_other _ _ _ _ (by simp)]; exact b12
  have B13 : w1b.cell? ⟨w.heap.size + 1, 3, none⟩ = some (.string ⟨#[]⟩) := by rw [hw1b, World.cell?_setCell_other _ _ _ _ (by simp)]; exact b13
  have B14 : w1b.cell? ⟨w.heap.size + 1, 4, none⟩ = some (.string ⟨#[]⟩) := by rw [hw1b, World.cell?_setCell_other _ _ _ _ (by simp)]; exact b14
  have B15 : w1b.cell? ⟨w.heap.size + 1, 5, none⟩ = some (.string ⟨#[]⟩) := by rw [hw1b, World.cell?_setCell_other _ _ _ _ (by simp)]; exact b15
  have B16 : w1b.cell? ⟨w.heap.size + 1, 6, none⟩ = some (.int .i64 0) := by rw [hw1b, World.cell?_setCell_other _ _ _ _ (by simp)]; exact b16
  have B17 : w1b.cell? ⟨w.heap.size + 1, 7, none⟩ = some (.string ⟨#[]⟩) := by rw [hw1b, World.cell?_setCell_other _ _ _ _ (by simp)]; exact b17
  have B18 : w1b.cell? ⟨w.heap.size + 1, 8, none⟩ = some (.int .i64 0) := by rw [hw1b, World.cell?_setCell_other _ _ _ _ (by simp)]; exact b18
  have B19 : w1b.cell? ⟨w.heap.size + 1, 9, none⟩ = some (.slice none 0 0) := by rw [hw1b, World.cell?_setCell_other _ _ _ _ (by simp)]; exact b19
  have B110 : w1b.cell? ⟨w.heap.size + 1, 10, none⟩ = some (.slice none 0 0) := by rw [hw1b, World.cell?_setCell_other _ _ _ _ (by simp)]; exact b110
  have G1 : ∀ o, w1b.cell? ⟨w.heap.size, o, none⟩ = (w.alloc (.cells #[.int .i64 0, .int .i64 0, .int .i64 0, .string ⟨#[]⟩, .string ⟨#[]⟩, .string ⟨#[]⟩, .int .i64 0, .string ⟨#[]⟩, .int .i64 0, .slice none 0 0, .slice none 0 0] 41)).cell? ⟨w.heap.size, o, none⟩ := fun o => by rw [hw1b, World.cell?_setCell_other _ _ _ _ (by simp)]; exact g1 o
  have H1 : ∀ o, w1b.frozen? ⟨w.heap.size, o, none⟩ = (w.alloc (.cells #[.int .i64 0, .int .i64 0, .int .i64 0, .string ⟨#[]⟩, .string ⟨#[]⟩, .string ⟨#[]⟩, .int .i64 0, .string ⟨#[]⟩, .int .i64 0, .slice none 0 0, .slice none 0 0] 41)).frozen? ⟨w.heap.size, o, none⟩ := fun o => by rw [hw1b, ← h1 o]; simp
  have F1 : ∀ o, w1b.frozen? ⟨w.heap.size + 1, o, none⟩ = false := fun o => by rw [hw1b, ← f1x o]; simp
  have Q0 : w1b.cell? ⟨b, off, none⟩ = some (.string x) := by rw [hw1b, World.cell?_setCell_other _ _ _ _ (by first | (simp; done) | (simp; omega))]; exact q01
  have QM : w1b.cell? ⟨b, off + (M + 1), none⟩ = some (.string Lw) := by rw [hw1b, World.cell?_setCell_other _ _ _ _ (by first | (simp; done) | (simp; omega))]; exact qm1
  have JX := Lib.hid (JW.out w1b D1b)
  go_wp2_with fail
  rw [← hw1b]
  clear b10 b11 b12 b13 b14 b15 b16 b17 b18 b19 b110 g1 h1 f1x q01 qm1 hw1b
  refine JX.out.mono ?_
  rintro e w2 ⟨rfl, c2⟩
  have s2 := c2.size
  have d2 : Chg [] w w2 := D1b.trans0 c2
  have t2x : w.heap.size < w2.heap.size := by omega
  have u2 : w.heap.size + 1 < w2.heap.size := by omega
  have b20 : w2.cell? ⟨w.heap.size + 1, 0, none⟩ = some (.int .i64 0) := (c2.cell (p := ⟨w.heap.size + 1, 0, none⟩) (by simp; omega) (by simp)).trans B10
  have b21 : w2.cell? ⟨w.heap.size + 1, 1, none⟩ = some (.int .i64 n) := (c2.cell (p := ⟨w.heap.size + 1, 1, none⟩) (by simp; omega) (by simp)).trans B11
  have b22 : w2.cell? ⟨w.heap.size + 1, 2, none⟩ = some (.int .i64 0) := (c2.cell (p := ⟨w.heap.size + 1, 2, none⟩) (by simp; omega) (by simp)).trans B12
  have b23 : w2.cell? ⟨w.heap.size + 1, 3, none⟩ = some (.string ⟨#[]⟩) := (c2.cell (p := ⟨w.heap.size + 1, 3, none⟩) (by simp; omega) (by simp)).trans B13
  have b24 : w2.cell? ⟨w.heap.size + 1, 4, none⟩ = some (.string ⟨#[]⟩) := (c2.cell (p := ⟨w.heap.size + 1, 4, none⟩) (by simp; omega) (by simp)).trans B14
  have b25 : w2.cell? ⟨w.heap.size + 1, 5, none⟩ = some (.string ⟨#[]⟩) := (c2.cell (p := ⟨w.heap.size + 1, 5, none⟩) (by simp; omega) (by simp)).trans B15
  have b26 : w2.cell? ⟨w.heap.size + 1, 6, none⟩ = some (.int .i64 0) := (c2.cell (p := ⟨w.heap.size + 1, 6, none⟩) (by simp; omega) (by simp)).trans B16
  have b27 : w2.cell? ⟨w.heap.size + 1, 7, none⟩ = some (.string ⟨#[]⟩) := (c2.cell (p := ⟨w.heap.size + 1, 7, none⟩) (by simp; omega) (by simp)).trans B17
  have b28 : w2.cell? ⟨w.heap.size + 1, 8, none⟩ = some (.int .i64 0) := (c2.cell (p := ⟨w.heap.size + 1, 8, none⟩) (by simp; omega) (by simp)).trans B18
  have b29 : w2.cell? ⟨w.heap.size + 1, 9, none⟩ = some (.slice none 0 0) := (c2.cell (p := ⟨w.heap.size + 1, 9, none⟩) (by simp; omega) (by simp)).trans B19
  have b210 : w2.cell? ⟨w.heap.size + 1, 10, none⟩ = some (.slice none 0 0) := (c2.cell (p := ⟨w.heap.size + 1, 10, none⟩) (by simp; omega) (by simp)).trans B110
  have g2 : ∀ o, w2.cell? ⟨w.heap.size, o, none⟩ = (w.alloc (.cells #[.int .i64 0, .int .i64 0, .int .i64 0, .string ⟨#[]⟩, .string ⟨#[]⟩, .string ⟨#[]⟩, .int .i64 0, .string ⟨#[]⟩, .int .i64 0, .slice none 0 0, .slice none 0 0] 41)).cell? ⟨w.heap.size, o, none⟩ := fun o => (c2.cell (p := ⟨w.heap.size, o, none⟩) (by simp; omega) (by simp)).trans (G1 o)
  have h2 : ∀ o, w2.frozen? ⟨w.heap.size, o, none⟩ = (w.alloc (.cells #[.int .i64 0, .int .i64 0, .int .i64 0, .string ⟨#[]⟩, .string ⟨#[]⟩, .string ⟨#[]⟩, .int .i64 0, .string ⟨#[]⟩, .int .i64 0, .slice none 0 0, .slice none 0 0] 41)).frozen? ⟨w.heap.size, o, none⟩ := fun o => (c2.frozen (p := ⟨w.heap.size, o, none⟩) (by simp; omega) (by simp)).trans (H1 o)
  have f2x : ∀ o, w2.frozen? ⟨w.heap.size + 1, o, none⟩ = false := fun o => (c2.frozen (p := ⟨w.heap.size + 1, o, none⟩) (by simp; omega) (by simp)).trans (F1 o)
  have q02 : w2.cell? ⟨b, off, none⟩ = some (.string x) := (c2.cell (p := ⟨b, off, none⟩) (by simp; omega) (by simp)).trans Q0
  have qm2 : w2.cell? ⟨b, off + (M + 1), none⟩ = some (.string Lw) := (c2.cell (p := ⟨b, off + (M + 1), none⟩) (by simp; omega) (by simp)).trans QM
  have p02 : ∀ o u, (w2.setCell ⟨w.heap.size + 1, o, none⟩ u).cell? ⟨b, off, none⟩ = some (.string x) := fun o u => by rw [World.cell?_setCell_other _ _ _ _ (by first | (simp; done) | (simp; omega))]; exact q02
  have pm2 : ∀ o u, (w2.setCell ⟨w.heap.size + 1, o, none⟩ u).cell? ⟨b, off + (M + 1), none⟩ = some (.string Lw) := fun o u => by rw [World.cell?_setCell_other _ _ _ _ (by first | (simp; done) | (simp; omega))]; exact qm2
  clear c2 B10 B11 B12 B13 B14 B15 B16 B17 B18 B19 B110 G1 H1 F1 Q0 QM s1b JX t1x u1
  go_wp2_with fail
  refine bodyPost_ret (v := .agg #[.int .i64 5, .int .i64 n, .int .i64 0, .string ⟨#[]⟩, .string ⟨#[]⟩, .string ⟨#[]⟩, .int .i64 0, .string ⟨#[]⟩, .int .i64 0, .slice none 0 0, .slice none 0 0]) (by simp only [results, Tryz.results18]; go_simp) rfl ?_
  exact ActIs.of HKH.out ⟨rfl, by repeat (first | with_reducible exact d2 | with_reducible exact Chg.refl _ _ | with_reducible refine Chg.drew ?_ | with_reducible refine Chg.alloc ?_ _ | with_reducible refine Chg.setCell ?_ (.inr (by simp; try omega)) _)⟩
set_option maxRecDepth 100000 in
set_option maxHeartbeats 4000000 in
theorem l8Simple_6 {w : World} {b off M cap : Nat} {x y Lw R : ByteArray} {A3 : Option Addr} {n3 c3v : Nat} {n : Int} {f1 : Bool} (S : SimpH w b off M cap x y Lw R A3 n3 c3v n f1) {fc : Int} {f4 : Bool} (PX : ∀ W, Calls Tryz.prog 31 #[.string R] W (fun e w1 => e = .returned (.tuple #[.int .i64 fc, .bool f4]) ∧ Chg [] W w1)) (h : x = wordT 6) :
    Calls Tryz.prog 18 #[.slice (some ⟨b, off, none⟩) (M + 2) cap] w (ActIs (mkA 6 n 0 noB zeroC fc) w) := by
  obtain ⟨q0, q1, qm, hwl, hM, hcap, PN, JW, SLW2⟩ := S
  have PN := Lib.hid PN
  have JW := Lib.hid JW
  have SAW2 : ∀ W, (Instr.sliceAt 30 (.slice (some ⟨b, off, none⟩) (M + 2) cap) (some (.int .i64 2)) none none).run Tryz.prog W = .ok (.slice A3 n3 c3v) W := fun W => by
    rw [run_sliceAt_slice (h := by rw [elem_strs]; exact Tryz.underlying30)]
    exact SLW2 W
  have PX := Lib.hid PX
  have t1 : (x.toList == [109, 97, 107, 101]) = false := by rw [h, ByteArray.toList_eq]; rfl
  have t2 : (x.toList == [119, 114, 97, 112]) = false := by rw [h, ByteArray.toList_eq]; rfl
  have t3 : (x.toList == [117, 110, 119, 114, 97, 112]) = false := by rw [h, ByteArray.toList_eq]; rfl
  have t4 : (x.toList == [99, 111, 112, 121]) = false := by rw [h, ByteArray.toList_eq]; rfl
  have t5 : (x.toList == [100, 114, 111, 112]) = false := by rw [h, ByteArray.toList_eq]; rfl
  have t6 : (x.toList == [97, 115, 107]) = true := word_eq h rfl
  have t7 : (x.toList == [99, 97, 108, 108]) = false := by rw [h, ByteArray.toList_eq]; rfl
  clear h
  obtain ⟨a, ha⟩ : ∃ a, a = mkA 6 n 0 noB zeroC fc := ⟨_, rfl⟩
  rw [← ha]
  have HKH := Lib.hid ha
  clear ha
  go_enter Tryz.func18, Tryz.ntmps18
  go_wp2_with fail
  refine (PN.out _).mono ?_
  rintro e w1 ⟨rfl, c1⟩
  obtain ⟨wz, hwz⟩ : ∃ x, x = (w.alloc (.cells #[.int .i64 0, .int .i64 0, .int .i64 0, .string ⟨#[]⟩, .string ⟨#[]⟩, .string ⟨#[]⟩, .int .i64 0, .string ⟨#[]⟩, .int .i64 0, .slice none 0 0, .slice none 0 0] 41)).alloc (.cells #[.int .i64 0, .int .i64 0, .int .i64 0, .string ⟨#[]⟩, .string ⟨#[]⟩, .string ⟨#[]⟩, .int .i64 0, .string ⟨#[]⟩, .int .i64 0, .slice none 0 0, .slice none 0 0] 41) := ⟨_, rfl⟩
  have dz : Chg [] w wz := by rw [hwz]; exact ((Chg.refl _ _).alloc _).alloc _
  have c1 : Chg [] wz w1 := by rw [hwz]; exact c1
  have sz : wz.heap.size = w.heap.size + 1 + 1 := by rw [hwz]; simp
  have gz : ∀ o, wz.cell? ⟨w.heap.size, o, none⟩ = (w.alloc (.cells #[.int .i64 0, .int .i64 0, .int .i64 0, .string ⟨#[]⟩, .string ⟨#[]⟩, .string ⟨#[]⟩, .int .i64 0, .string ⟨#[]⟩, .int .i64 0, .slice none 0 0, .slice none 0 0] 41)).cell? ⟨w.heap.size, o, none⟩ := fun o => by rw [hwz]; exact ((Chg.refl [] (w.alloc (.cells #[.int .i64 0, .int .i64 0, .int .i64 0, .string ⟨#[]⟩, .string ⟨#[]⟩, .string ⟨#[]⟩, .int .i64 0, .string ⟨#[]⟩, .int .i64 0, .slice none 0 0, .slice none 0 0] 41))).alloc _).cell (p := ⟨w.heap.size, o, none⟩) (by simp) (by simp)
  have hz : ∀ o, wz.frozen? ⟨w.heap.size, o, none⟩ = (w.alloc (.cells #[.int .i64 0, .int .i64 0, .int .i64 0, .string ⟨#[]⟩, .string ⟨#[]⟩, .string ⟨#[]⟩, .int .i64 0, .string ⟨#[]⟩, .int .i64 0, .slice none 0 0, .slice none 0 0] 41)).frozen? ⟨w.heap.size, o, none⟩ := fun o => by rw [hwz]; exact ((Chg.refl [] (w.alloc (.cells #[.int .i64 0, .int .i64 0, .int .i64 0, .string ⟨#[]⟩, .string ⟨#[]⟩, .string ⟨#[]⟩, .int .i64 0, .string ⟨#[]⟩, .int .i64 0, .slice none 0 0, .slice none 0 0] 41))).alloc _).frozen (p := ⟨w.heap.size, o, none⟩) (by simp) (by simp)
  have s1 := c1.size
  have d1 : Chg [] w w1 := dz.trans0 c1
  have t1x : w.heap.size < w1.heap.size := by omega
  have u1 : w.heap.size + 1 < w1.heap.size := by omega
  have g1 : ∀ o, w1.cell? ⟨w.heap.size, o, none⟩ = (w.alloc (.cells #[.int .i64 0, .int .i64 0, .int .i64 0, .string ⟨#[]⟩, .string ⟨#[]⟩, .string ⟨#[]⟩, .int .i64 0, .string ⟨#[]⟩, .int .i64 0, .slice none 0 0, .slice none 0 0] 41)).cell? ⟨w.heap.size, o, none⟩ := fun o => (c1.cell (p := ⟨w.heap.size, o, none⟩) (by simp; omega) (by simp)).trans (gz o)
  have h1 : ∀ o, w1.frozen? ⟨w.heap.size, o, none⟩ = (w.alloc (.cells #[.int .i64 0, .int .i64 0, .int .i64 0, .string ⟨#[]⟩, .string ⟨#[]⟩, .string ⟨#[]⟩, .int .i64 0, .string ⟨#[]⟩, .int .i64 0, .slice none 0 0, .slice none 0 0] 41)).frozen? ⟨w.heap.size, o, none⟩ := fun o => (c1.frozen (p := ⟨w.heap.size, o, none⟩) (by simp; omega) (by simp)).trans (hz o)
  have fz : ∀ o, wz.frozen? ⟨w.heap.size + 1, o, none⟩ = false := fun o => by rw [hwz]; go_simp
  have f1x : ∀ o, w1.frozen? ⟨w.heap.size + 1, o, none⟩ = false := fun o => (c1.frozen (p := ⟨w.heap.size + 1, o, none⟩) (by simp; omega) (by simp)).trans (fz o)
  have b10 : w1.cell? ⟨w.heap.size + 1, 0, none⟩ = some (.int .i64 0) := (c1.cell (p := ⟨w.heap.size + 1, 0, none⟩) (by simp; omega) (by simp)).trans (by rw [hwz]; go_simp)
  have b11 : w1.cell? ⟨w.heap.size + 1, 1, none⟩ = some (.int .i64 0) := (c1.cell (p := ⟨w.heap.size + 1, 1, none⟩) (by simp; omega) (by simp)).trans (by rw [hwz]; go_simp)
  have b12 : w1.cell? ⟨w.heap.size + 1, 2, none⟩ = some (.int .i64 0) := (c1.cell (p := ⟨w.heap.size + 1, 2, none⟩) (by simp; omega) (by simp)).trans (by rw [hwz]; go_simp)
  have b13 : w1.cell? ⟨w.heap.size + 1, 3, none⟩ = some (.string ⟨#[]⟩) := (c1.cell (p := ⟨w.heap.size + 1, 3, none⟩) (by simp; omega) (by simp)).trans (by rw [hwz]; go_simp)
  have b14 : w1.cell? ⟨w.heap.size + 1, 4, none⟩ = some (.string ⟨#[]⟩) := (c1.cell (p := ⟨w.heap.size + 1, 4, none⟩) (by simp; omega) (by simp)).trans (by rw [hwz]; go_simp)
  have b15 : w1.cell? ⟨w.heap.size + 1, 5, none⟩ = some (.string ⟨#[]⟩) := (c1.cell (p := ⟨w.heap.size + 1, 5, none⟩) (by simp; omega) (by simp)).trans (by rw [hwz]; go_simp)
  have b16 : w1.cell? ⟨w.heap.size + 1, 6, none⟩ = some (.int .i64 0) := (c1.cell (p := ⟨w.heap.size + 1, 6, none⟩) (by simp; omega) (by simp)).trans (by rw [hwz]; go_simp)
  have b17 : w1.cell? ⟨w.heap.size + 1, 7, none⟩ = some (.string ⟨#[]⟩) := (c1.cell (p := ⟨w.heap.size + 1, 7, none⟩) (by simp; omega) (by simp)).trans (by rw [hwz]; go_simp)
  have b18 : w1.cell? ⟨w.heap.size + 1, 8, none⟩ = some (.int .i64 0) := (c1.cell (p := ⟨w.heap.size + 1, 8, none⟩) (by simp; omega) (by simp)).trans (by rw [hwz]; go_simp)
  have b19 : w1.cell? ⟨w.heap.size + 1, 9, none⟩ = some (.slice none 0 0) := (c1.cell (p := ⟨w.heap.size + 1, 9, none⟩) (by simp; omega) (by simp)).trans (by rw [hwz]; go_simp)
  have b110 : w1.cell? ⟨w.heap.size + 1, 10, none⟩ = some (.slice none 0 0) := (c1.cell (p := ⟨w.heap.size + 1, 10, none⟩) (by simp; omega) (by simp)).trans (by rw [hwz]; go_simp)
  have q01 : w1.cell? ⟨b, off, none⟩ = some (.string x) := (d1.cell (p := ⟨b, off, none⟩) hwl (by simp)).trans q0
  have qm1 : w1.cell? ⟨b, off + (M + 1), none⟩ = some (.string Lw) := (d1.cell (p := ⟨b, off + (M + 1), none⟩) hwl (by simp)).trans qm
  clear hwz c1 gz hz fz q0 q1 qm sz dz s1
  obtain ⟨w1b, hw1b⟩ : ∃ x, x = w1.setCell ⟨w.heap.size + 1, 1, none⟩ (.int .i64 n) := ⟨_, rfl⟩
  have D1b : Chg [] w w1b := by rw [hw1b]; exact d1.setCell (.inr (by simp)) _
  have s1b : w1b.heap.size = w1.heap.size := by rw [hw1b]; simp
  have B10 : w1b.cell? ⟨w.heap.size + 1, 0, none⟩ = some (.int .i64 0) := by rw [hw1b, World.cell?_setCell_other _ _ _ _ (by simp)]; exact b10
  have B11 : w1b.cell? ⟨w.heap.size + 1, 1, none⟩ = some (.int .i64 n) := by rw [hw1b]; exact World.cell?_setCell_same _ _ _ b11
  have B12 : w1b.cell? ⟨w.heap.size + 1, 2, none⟩ = some (.int .i64 0) := by rw [hw1b, World.cell?_setCell_other _ _ _ _ (by simp)]; exact b12
  have B13 : w1b.cell? ⟨w.heap.size + 1, 3, none⟩ = some (.string ⟨#[]⟩) := by rw [hw1b, World.cell?_setCell_other _ _ _ _ (by simp)]; exact b13
  have B14 : w1b.cell? ⟨w.heap.size + 1, 4, none⟩ = some (.string ⟨#[]⟩) := by rw [hw1b, World.cell?_setCell_other _ _ _ _ (by simp)]; exact b14
  have B15 : w1b.cell? ⟨w.heap.size + 1, 5, none⟩ = some (.string ⟨#[]⟩) := by rw [hw1b, World.cell?_setCell_other _ _ _ _ (by simp)]; exact b15
  have B16 : w1b.cell? ⟨w.heap.size + 1, 6, none⟩ = some (.int .i64 0) := by rw [hw1b, World.cell?_setCell_other _ _ _ _ (by simp)]; exact b16
  have B17 : w1b.cell? ⟨w.heap.size + 1, 7, none⟩ = some (.string ⟨#[]⟩) := by rw [hw1b, World.cell?_setCell_other _ _ _ _ (by simp)]; exact b17
  have B18 : w1b.cell? ⟨w.heap.size + 1, 8, none⟩ = some (.int .i64 0) := by rw [hw1b, World.cell?_setCell_other _ _ _ _ (by simp)]; exact b18
  have B19 : w1b.cell? ⟨w.heap.size + 1, 9, none⟩ = some (.slice none 0 0) := by rw [hw1b, World.cell?_setCell_other _ _ _ _ (by simp)]; exact b19
  have B110 : w1b.cell? ⟨w.heap.size + 1, 10, none⟩ = some (.slice none 0 0) := by rw [hw1b, World.cell?_setCell_other _ _ _ _ (by simp)]; exact b110
  have G1 : ∀ o, w1b.cell? ⟨w.heap.size, o, none⟩ = (w.alloc (.cells #[.int .i64 0, .int .i64 0, .int .i64 0, .string ⟨#[]⟩, .string ⟨#[]⟩, .string ⟨#[]⟩, .int .i64 0, .string ⟨#[]⟩, .int .i64 0, .slice none 0 0, .slice none 0 0] 41)).cell? ⟨w.heap.size, o, none⟩ := fun o => by rw [hw1b, World.cell?_setCell_other _ _ _ _ (by simp)]; exact g1 o
  have H1 : ∀ o, w1b.frozen? ⟨w.heap.size, o, none⟩ = (w.alloc (.cells #[.int .i64 0, .int .i64 0, .int .i64 0, .string ⟨#[]⟩, .string ⟨#[]⟩, .string ⟨#[]⟩, .int .i64 0, .string ⟨#[]⟩, .int .i64 0, .slice none 0 0, .slice none 0 0] 41)).frozen? ⟨w.heap.size, o, none⟩ := fun o => by rw [hw1b, ← h1 o]; simp
  have F1 : ∀ o, w1b.frozen? ⟨w.heap.size + 1, o, none⟩ = false := fun o => by rw [hw1b, ← f1x o]; simp
  have Q0 : w1b.cell? ⟨b, off, none⟩ = some (.string x) := by rw [hw1b, World.cell?_setCell_other _ _ _ _ (by first | (simp; done) | (simp; omega))]; exact q01
  have QM : w1b.cell? ⟨b, off + (M + 1), none⟩ = some (.string Lw) := by rw [hw1b, World.cell?_setCell_other _ _ _ _ (by first | (simp; done) | (simp; omega))]; exact qm1
  have JX := Lib.hid (JW.out w1b D1b)
  go_wp2_with fail
  rw [← hw1b]
  clear b10 b11 b12 b13 b14 b15 b16 b17 b18 b19 b110 g1 h1 f1x q01 qm1 hw1b
  refine JX.out.mono ?_
  rintro e w2 ⟨rfl, c2⟩
  have s2 := c2.size
  have d2 : Chg [] w w2 := D1b.trans0 c2
  have t2x : w.heap.size < w2.heap.size := by omega
  have u2 : w.heap.size + 1 < w2.heap.size := by omega
  have b20 : w2.cell? ⟨w.heap.size + 1, 0, none⟩ = some (.int .i64 0) := (c2.cell (p := ⟨w.heap.size + 1, 0, none⟩) (by simp; omega) (by simp)).trans B10
  have b21 : w2.cell? ⟨w.heap.size + 1, 1, none⟩ = some (.int .i64 n) := (c2.cell (p := ⟨w.heap.size + 1, 1, none⟩) (by simp; omega) (by simp)).trans B11
  have b22 : w2.cell? ⟨w.heap.size + 1, 2, none⟩ = some (.int .i64 0) := (c2.cell (p := ⟨w.heap.size + 1, 2, none⟩) (by simp; omega) (by simp)).trans B12
  have b23 : w2.cell? ⟨w.heap.size + 1, 3, none⟩ = some (.string ⟨#[]⟩) := (c2.cell (p := ⟨w.heap.size + 1, 3, none⟩) (by simp; omega) (by simp)).trans B13
  have b24 : w2.cell? ⟨w.heap.size + 1, 4, none⟩ = some (.string ⟨#[]⟩) := (c2.cell (p := ⟨w.heap.size + 1, 4, none⟩) (by simp; omega) (by simp)).trans B14
  have b25 : w2.cell? ⟨w.heap.size + 1, 5, none⟩ = some (.string ⟨#[]⟩) := (c2.cell (p := ⟨w.heap.size + 1, 5, none⟩) (by simp; omega) (by simp)).trans B15
  have b26 : w2.cell? ⟨w.heap.size + 1, 6, none⟩ = some (.int .i64 0) := (c2.cell (p := ⟨w.heap.size + 1, 6, none⟩) (by simp; omega) (by simp)).trans B16
  have b27 : w2.cell? ⟨w.heap.size + 1, 7, none⟩ = some (.string ⟨#[]⟩) := (c2.cell (p := ⟨w.heap.size + 1, 7, none⟩) (by simp; omega) (by simp)).trans B17
  have b28 : w2.cell? ⟨w.heap.size + 1, 8, none⟩ = some (.int .i64 0) := (c2.cell (p := ⟨w.heap.size + 1, 8, none⟩) (by simp; omega) (by simp)).trans B18
  have b29 : w2.cell? ⟨w.heap.size + 1, 9, none⟩ = some (.slice none 0 0) := (c2.cell (p := ⟨w.heap.size + 1, 9, none⟩) (by simp; omega) (by simp)).trans B19
  have b210 : w2.cell? ⟨w.heap.size + 1, 10, none⟩ = some (.slice none 0 0) := (c2.cell (p := ⟨w.heap.size + 1, 10, none⟩) (by simp; omega) (by simp)).trans B110
  have g2 : ∀ o, w2.cell? ⟨w.heap.size, o, none⟩ = (w.alloc (.cells #[.int .i64 0, .int .i64 0, .int .i64 0, .string ⟨#[]⟩, .string ⟨#[]⟩, .string ⟨#[]⟩, .int .i64 0, .string ⟨#[]⟩, .int .i64 0, .slice none 0 0, .slice none 0 0] 41)).cell? ⟨w.heap.size, o, none⟩ := fun o => (c2.cell (p := ⟨w.heap.size, o, none⟩) (by simp; omega) (by simp)).trans (G1 o)
  have h2 : ∀ o, w2.frozen? ⟨w.heap.size, o, none⟩ = (w.alloc (.cells #[.int .i64 0, .int .i64 0, .int .i64 0, .string ⟨#[]⟩, .string ⟨#[]⟩, .string ⟨#[]⟩, .int .i64 0, .string ⟨#[]⟩, .int .i64 0, .slice none 0 0, .slice none 0 0] 41)).frozen? ⟨w.heap.size, o, none⟩ := fun o => (c2.frozen (p := ⟨w.heap.size, o, none⟩) (by simp; omega) (by simp)).trans (H1 o)
  have f2x : ∀ o, w2.frozen? ⟨w.heap.size + 1, o, none⟩ = false := fun o => (c2.frozen (p := ⟨w.heap.size + 1, o, none⟩) (by simp; omega) (by simp)).trans (F1 o)
  have q02 : w2.cell? ⟨b, off, none⟩ = some (.string x) := (c2.cell (p := ⟨b, off, none⟩) (by simp; omega) (by simp)).trans Q0
  have qm2 : w2.cell? ⟨b, off + (M + 1), none⟩ = some (.string Lw) := (c2.cell (p := ⟨b, off + (M + 1), none⟩) (by simp; omega) (by simp)).trans QM
  have p02 : ∀ o u, (w2.setCell ⟨w.heap.size + 1, o, none⟩ u).cell? ⟨b, off, none⟩ = some (.string x) := fun o u => by rw [World.cell?_setCell_other _ _ _ _ (by first | (simp; done) | (simp; omega))]; exact q02
  have pm2 : ∀ o u, (w2.setCell ⟨w.heap.size + 1, o, none⟩ u).cell? ⟨b, off + (M + 1), none⟩ = some (.string Lw) := fun o u => by rw [World.cell?_setCell_other _ _ _ _ (by first | (simp; done) | (simp; omega))]; exact qm2
  clear c2 B10 B11 B12 B13 B14 B15 B16 B17 B18 B19 B110 G1 H1 F1 Q0 QM s1b JX t1x u1
  go_wp2_with fail
  obtain ⟨w2b, hw2b⟩ : ∃ x, x = w2.setCell ⟨w.heap.size + 1, 0, none⟩ (.int .i64 6) := ⟨_, rfl⟩
  have D2b : Chg [] w w2b := by rw [hw2b]; exact d2.setCell (.inr (by simp)) _
  have s2b : w2b.heap.size = w2.heap.size := by rw [hw2b]; simp
  have B20 : w2b.cell? ⟨w.heap.size + 1, 0, none⟩ = some (.int .i64 6) := by rw [hw2b]; exact World.cell?_setCell_same _ _ _ b20
  have B21 : w2b.cell? ⟨w.heap.size + 1, 1, none⟩ = some (.int .i64 n) := by rw [hw2b, World.cell?_setCell_other _ _ _ _ (by simp)]; exact b21
  have B22 : w2b.cell? ⟨w.heap.size + 1, 2, none⟩ = some (.int .i64 0) := by rw [hw2b, World.cell?_setCell_other _ _ _ _ (by simp)]; exact b22
  have B23 : w2b.cell? ⟨w.heap.size + 1, 3, none⟩ = some (.string ⟨#[]⟩) := by rw [hw2b, World.cell?_setCell_other _ _ _ _ (by simp)]; exact b23
  have B24 : w2b.cell? ⟨w.heap.size + 1, 4, none⟩ = some (.string ⟨#[]⟩) := by rw [hw2b, World.cell?_setCell_other _ _ _ _ (by simp)]; exact b24
  have B25 : w2b.cell? ⟨w.heap.size + 1, 5, none⟩ = some (.string ⟨#[]⟩) := by rw [hw2b, World.cell?_setCell_other _ _ _ _ (by simp)]; exact b25
  have B26 : w2b.cell? ⟨w.heap.size + 1, 6, none⟩ = some (.int .i64 0) := by rw [hw2b, World.cell?_setCell_other _ _ _ _ (by simp)]; exact b26
  have B27 : w2b.cell? ⟨w.heap.size + 1, 7, none⟩ = some (.string ⟨#[]⟩) := by rw [hw2b, World.cell?_setCell_other _ _ _ _ (by simp)]; exact b27
  have B28 : w2b.cell? ⟨w.heap.size + 1, 8, none⟩ = some (.int .i64 0) := by rw [hw2b, World.cell?_setCell_other _ _ _ _ (by simp)]; exact b28
  have B29 : w2b.cell? ⟨w.heap.size + 1, 9, none⟩ = some (.slice none 0 0) := by rw [hw2b, World.cell?_setCell_other _ _ _ _ (by simp)]; exact b29
  have B210 : w2b.cell? ⟨w.heap.size + 1, 10, none⟩ = some (.slice none 0 0) := by rw [hw2b, World.cell?_setCell_other _ _ _ _ (by simp)]; exact b210
  have G2 : ∀ o, w2b.cell? ⟨w.heap.size, o, none⟩ = (w.alloc (.cells #[.int .i64 0, .int .i64 0, .int .i64 0, .string ⟨#[]⟩, .string ⟨#[]⟩, .string ⟨#[]⟩, .int .i64 0, .string ⟨#[]⟩, .int .i64 0, .slice none 0 0, .slice none 0 0] 41)).cell? ⟨w.heap.size, o, none⟩ := fun o => by rw [hw2b, World.cell?_setCell_other _ _ _ _ (by simp)]; exact g2 o
  have H2 : ∀ o, w2b.frozen? ⟨w.heap.size, o, none⟩ = (w.alloc (.cells #[.int .i64 0, .int .i64 0, .int .i64 0, .string ⟨#[]⟩, .string ⟨#[]⟩, .string ⟨#[]⟩, .int .i64 0, .string ⟨#[]⟩, .int .i64 0, .slice none 0 0, .slice none 0 0] 41)).frozen? ⟨w.heap.size, o, none⟩ := fun o => by rw [hw2b, ← h2 o]; simp
  have F2 : ∀ o, w2b.frozen? ⟨w.heap.size + 1, o, none⟩ = false := fun o => by rw [hw2b, ← f2x o]; simp
  rw [← hw2b]
  clear b20 b21 b22 b23 b24 b25 b26 b27 b28 b29 b210 g2 h2 f2x q02 qm2 p02 pm2 hw2b
  refine (PX.out _).mono ?_
  rintro e w3 ⟨rfl, c3⟩
  have s3 := c3.size
  have d3 : Chg [] w w3 := D2b.trans0 c3
  have t3x : w.heap.size < w3.heap.size := by omega
  have u3 : w.heap.size + 1 < w3.heap.size := by omega
  have b30 : w3.cell? ⟨w.heap.size + 1, 0, none⟩ = some (.int .i64 6) := (c3.cell (p := ⟨w.heap.size + 1, 0, none⟩) (by simp; omega) (by simp)).trans B20
  have b31 : w3.cell? ⟨w.heap.size + 1, 1, none⟩ = some (.int .i64 n) := (c3.cell (p := ⟨w.heap.size + 1, 1, none⟩) (by simp; omega) (by simp)).trans B21
  have b32 : w3.cell? ⟨w.heap.size + 1, 2, none⟩ = some (.int .i64 0) := (c3.cell (p := ⟨w.heap.size + 1, 2, none⟩) (by simp; omega) (by simp)).trans B22
  have b33 : w3.cell? ⟨w.heap.size + 1, 3, none⟩ = some (.string ⟨#[]⟩) := (c3.cell (p := ⟨w.heap.size + 1, 3, none⟩) (by simp; omega) (by simp)).trans B23
  have b34 : w3.cell? ⟨w.heap.size + 1, 4, none⟩ = some (.string ⟨#[]⟩) := (c3.cell (p := ⟨w.heap.size + 1, 4, none⟩) (by simp; omega) (by simp)).trans B24
  have b35 : w3.cell? ⟨w.heap.size + 1, 5, none⟩ = some (.string ⟨#[]⟩) := (c3.cell (p := ⟨w.heap.size + 1, 5, none⟩) (by simp; omega) (by simp)).trans B25
  have b36 : w3.cell? ⟨w.heap.size + 1, 6, none⟩ = some (.int .i64 0) := (c3.cell (p := ⟨w.heap.size + 1, 6, none⟩) (by simp; omega) (by simp)).trans B26
  have b37 : w3.cell? ⟨w.heap.size + 1, 7, none⟩ = some (.string ⟨#[]⟩) := (c3.cell (p := ⟨w.heap.size + 1, 7, none⟩) (by simp; omega) (by simp)).trans B27
  have b38 : w3.cell? ⟨w.heap.size + 1, 8, none⟩ = some (.int .i64 0) := (c3.cell (p := ⟨w.heap.size + 1, 8, none⟩) (by simp; omega) (by simp)).trans B28
  have b39 : w3.cell? ⟨w.heap.size + 1, 9, none⟩ = some (.slice none 0 0) := (c3.cell (p := ⟨w.heap.size + 1, 9, none⟩) (by simp; omega) (by simp)).trans B29
  have b310 : w3.cell? ⟨w.heap.size + 1, 10, none⟩ = some (.slice none 0 0) := (c3.cell (p := ⟨w.heap.size + 1, 10, none⟩) (by simp; omega) (by simp)).trans B210
  have g3 : ∀ o, w3.cell? ⟨w.heap.size, o, none⟩ = (w.alloc (.cells #[.int .i64 0, .int .i64 0, .int .i64 0, .string ⟨#[]⟩, .string ⟨#[]⟩, .string ⟨#[]⟩, .int .i64 0, .string ⟨#[]⟩, .int .i64 0, .slice none 0 0, .slice none 0 0] 41)).cell? ⟨w.heap.size, o, none⟩ := fun o => (c3.cell (p := ⟨w.heap.size, o, none⟩) (by simp; omega) (by simp)).trans (G2 o)
  have h3 : ∀ o, w3.frozen? ⟨w.heap.size, o, none⟩ = (w.alloc (.cells #[.int .i64 0, .int .i64 0, .int .i64 0, .string ⟨#[]⟩, .string ⟨#[]⟩, .string ⟨#[]⟩, .int .i64 0, .string ⟨#[]⟩, .int .i64 0, .slice none 0 0, .slice none 0 0] 41)).frozen? ⟨w.heap.size, o, none⟩ := fun o => (c3.frozen (p := ⟨w.heap.size, o, none⟩) (by simp; omega) (by simp)).trans (H2 o)
  have f3x : ∀ o, w3.frozen? ⟨w.heap.size + 1, o, none⟩ = false := fun o => (c3.frozen (p := ⟨w.heap.size + 1, o, none⟩) (by simp; omega) (by simp)).trans (F2 o)
  have e30 : ∀ u, (w3.setCell ⟨w.heap.size + 1, 8, none⟩ u).cell? ⟨w.heap.size + 1, 0, none⟩ = some (.int .i64 6) := fun u => by rw [World.cell?_setCell_other _ _ _ _ (by simp)]; exact b30
  have e31 : ∀ u, (w3.setCell ⟨w.heap.size + 1, 8, none⟩ u).cell? ⟨w.heap.size + 1, 1, none⟩ = some (.int .i64 n) := fun u => by rw [World.cell?_setCell_other _ _ _ _ (by simp)]; exact b31
  have e32 : ∀ u, (w3.setCell ⟨w.heap.size + 1, 8, none⟩ u).cell? ⟨w.heap.size + 1, 2, none⟩ = some (.int .i64 0) := fun u => by rw [World.cell?_setCell_other _ _ _ _ (by simp)]; exact b32
  have e33 : ∀ u, (w3.setCell ⟨w.heap.size + 1, 8, none⟩ u).cell? ⟨w.heap.size + 1, 3, none⟩ = some (.string ⟨#[]⟩) := fun u => by rw [World.cell?_setCell_other _ _ _ _ (by simp)]; exact b33
  have e34 : ∀ u, (w3.setCell ⟨w.heap.size + 1, 8, none⟩ u).cell? ⟨w.heap.size + 1, 4, none⟩ = some (.string ⟨#[]⟩) := fun u => by rw [World.cell?_setCell_other _ _ _ _ (by simp)]; exact b34
  have e35 : ∀ u, (w3.setCell ⟨w.heap.size + 1, 8, none⟩ u).cell? ⟨w.heap.size + 1, 5, none⟩ = some (.string ⟨#[]⟩) := fun u => by rw [World.cell?_setCell_other _ _ _ _ (by simp)]; exact b35
  have e36 : ∀ u, (w3.setCell ⟨w.heap.size + 1, 8, none⟩ u).cell? ⟨w.heap.size + 1, 6, none⟩ = some (.int .i64 0) := fun u => by rw [World.cell?_setCell_other _ _ _ _ (by simp)]; exact b36
  have e37 : ∀ u, (w3.setCell ⟨w.heap.size + 1, 8, none⟩ u).cell? ⟨w.heap.size + 1, 7, none⟩ = some (.string ⟨#[]⟩) := fun u => by rw [World.cell?_setCell_other _ _ _ _ (by simp)]; exact b37
  have e38 : ∀ u, (w3.setCell ⟨w.heap.size + 1, 8, none⟩ u).cell? ⟨w.heap.size + 1, 8, none⟩ = some u := fun u => World.cell?_setCell_same _ _ _ b38
  have e39 : ∀ u, (w3.setCell ⟨w.heap.size + 1, 8, none⟩ u).cell? ⟨w.heap.size + 1, 9, none⟩ = some (.slice none 0 0) := fun u => by rw [World.cell?_setCell_other _ _ _ _ (by simp)]; exact b39
  have e310 : ∀ u, (w3.setCell ⟨w.heap.size + 1, 8, none⟩ u).cell? ⟨w.heap.size + 1, 10, none⟩ = some (.slice none 0 0) := fun u => by rw [World.cell?_setCell_other _ _ _ _ (by simp)]; exact b310
  clear c3 B20 B21 B22 B23 B24 B25 B26 B27 B28 B29 B210 G2 H2 F2 s2b t2x u2
  go_wp2_with fail
  refine bodyPost_ret (v := .agg #[.int .i64 6, .int .i64 n, .int .i64 0, .string ⟨#[]⟩, .string ⟨#[]⟩, .string ⟨#[]⟩, .int .i64 0, .string ⟨#[]⟩, .int .i64 fc, .slice none 0 0, .slice none 0 0]) (by simp only [results, Tryz.results18]; go_simp) rfl ?_
  exact ActIs.of HKH.out ⟨rfl, by repeat (first | with_reducible exact d3 | with_reducible exact Chg.refl _ _ | with_reducible refine Chg.drew ?_ | with_reducible refine Chg.alloc ?_ _ | with_reducible refine Chg.setCell ?_ (.inr (by simp; try omega)) _)⟩
set_option maxRecDepth 100000 in
set_option maxHeartbeats 4000000 in
theorem l8Simple_7 {w : World} {b off M cap : Nat} {x y Lw R : ByteArray} {A3 : Option Addr} {n3 c3v : Nat} {n : Int} {f1 : Bool} (S : SimpH w b off M cap x y Lw R A3 n3 c3v n f1) {cl : CallT} {f5 : Bool} (PX : ∀ W, Calls Tryz.prog 32 #[.string R] W (fun e w1 => e = .returned (.tuple #[.agg #[.string cl.method, .string cl.key, .int .i64 cl.value, .string cl.text], .bool f5]) ∧ Chg [] W w1)) (h : x = wordT 7) :
    Calls Tryz.prog 18 #[.slice (some ⟨b, off, none⟩) (M + 2) cap] w (ActIs (mkA 7 n 0 noB cl 0) w) := by
  obtain ⟨q0, q1, qm, hwl, hM, hcap, PN, JW, SLW2⟩ := S
  have PN := Lib.hid PN
  have JW := Lib.hid JW
  have SAW2 : ∀ W, (Instr.sliceAt 30 (.slice (some ⟨b, off, none⟩) (M + 2) cap) (some (.int .i64 2)) none none).run Tryz.prog W = .ok (.slice A3 n3 c3v) W := fun W => by
    rw [run_sliceAt_slice (h := by rw [elem_strs]; exact Tryz.underlying30)]
    exact SLW2 W
  have PX := Lib.hid PX
  have t1 : (x.toList == [109, 97, 107, 101]) = false := by rw [h, ByteArray.toList_eq]; rfl
  have t2 : (x.toList == [119, 114, 97, 112]) = false := by rw [h, ByteArray.toList_eq]; rfl
  have t3 : (x.toList == [117, 110, 119, 114, 97, 112]) = false := by rw [h, ByteArray.toList_eq]; rfl
  have t4 : (x.toList == [99, 111, 112, 121]) = false := by rw [h, ByteArray.toList_eq]; rfl
  have t5 : (x.toList == [100, 114, 111, 112]) = false := by rw [h, ByteArray.toList_eq]; rfl
  have t6 : (x.toList == [97, 115, 107]) = false := by rw [h, ByteArray.toList_eq]; rfl
  have t7 : (x.toList == [99, 97, 108, 108]) = true := word_eq h rfl
  clear h
  obtain ⟨a, ha⟩ : ∃ a, a = mkA 7 n 0 noB cl 0 := ⟨_, rfl⟩
  rw [← ha]
  have HKH := Lib.hid ha
  clear ha
  go_enter Tryz.func18, Tryz.ntmps18
  go_wp2_with fail
  refine (PN.out _).mono ?_
  rintro e w1 ⟨rfl, c1⟩
  obtain ⟨wz, hwz⟩ : ∃ x, x = (w.alloc (.cells #[.int .i64 0, .int .i64 0, .int .i64 0, .string ⟨#[]⟩, .string ⟨#[]⟩, .string ⟨#[]⟩, .int .i64 0, .string ⟨#[]⟩, .int .i64 0, .slice none 0 0, .slice none 0 0] 41)).alloc (.cells #[.int .i64 0, .int .i64 0, .int .i64 0, .string ⟨#[]⟩, .string ⟨#[]⟩, .string ⟨#[]⟩, .int .i64 0, .string ⟨#[]⟩, .int .i64 0, .slice none 0 0, .slice none 0 0] 41) := ⟨_, rfl⟩
  have dz : Chg [] w wz := by rw [hwz]; exact ((Chg.refl _ _).alloc _).alloc _
  have c1 : Chg [] wz w1 := by rw [hwz]; exact c1
  have sz : wz.heap.size = w.heap.size + 1 + 1 := by rw [hwz]; simp
  have gz : ∀ o, wz.cell? ⟨w.heap.size, o, none⟩ = (w.alloc (.cells #[.int .i64 0, .int .i64 0, .int .i64 0, .string ⟨#[]⟩, .string ⟨#[]⟩, .string ⟨#[]⟩, .int .i64 0, .string ⟨#[]⟩, .int .i64 0, .slice none 0 0, .slice none 0 0] 41)).cell? ⟨w.heap.size, o, none⟩ := fun o => by rw [hwz]; exact ((Chg.refl [] (w.alloc (.cells #[.int .i64 0, .int .i64 0, .int .i64 0, .string ⟨#[]⟩, .string ⟨#[]⟩, .string ⟨#[]⟩, .int .i64 0, .string ⟨#[]⟩, .int .i64 0, .slice none 0 0, .slice none 0 0] 41))).alloc _).cell (p := ⟨w.heap.size, o, none⟩) (by simp) (by simp)
  have hz : ∀ o, wz.frozen? ⟨w.heap.size, o, none⟩ = (w.alloc (.cells #[.int .i64 0, .int .i64 0, .int .i64 0, .string ⟨#[]⟩, .string ⟨#[]⟩, .string ⟨#[]⟩, .int .i64 0, .string ⟨#[]⟩, .int .i64 0, .slice none 0 0, .slice none 0 0] 41)).frozen? ⟨w.heap.size, o, none⟩ := fun o => by rw [hwz]; exact ((Chg.refl [] (w.alloc (.cells #[.int .i64 0, .int .i64 0, .int .i64 0, .string ⟨#[]⟩, .string ⟨#[]⟩, .string ⟨#[]⟩, .int .i64 0, .string ⟨#[]⟩, .int .i64 0, .slice none 0 0, .slice none 0 0] 41))).alloc _).frozen (p := ⟨w.heap.size, o, none⟩) (by simp) (by simp)
  have s1 := c1.size
  have d1 : Chg [] w w1 := dz.trans0 c1
  have t1x : w.heap.size < w1.heap.size := by omega
  have u1 : w.heap.size + 1 < w1.heap.size := by omega
  have g1 : ∀ o, w1.cell? ⟨w.heap.size, o, none⟩ = (w.alloc (.cells #[.int .i64 0, .int .i64 0, .int .i64 0, .string ⟨#[]⟩, .string ⟨#[]⟩, .string ⟨#[]⟩, .int .i64 0, .string ⟨#[]⟩, .int .i64 0, .slice none 0 0, .slice none 0 0] 41)).cell? ⟨w.heap.size, o, none⟩ := fun o => (c1.cell (p := ⟨w.heap.size, o, none⟩) (by simp; omega) (by simp)).trans (gz o)
  have h1 : ∀ o, w1.frozen? ⟨w.heap.size, o, none⟩ = (w.alloc (.cells #[.int .i64 0, .int .i64 0, .int .i64 0, .string ⟨#[]⟩, .string ⟨#[]⟩, .string ⟨#[]⟩, .int .i64 0, .string ⟨#[]⟩, .int .i64 0, .slice none 0 0, .slice none 0 0] 41)).frozen? ⟨w.heap.size, o, none⟩ := fun o => (c1.frozen (p := ⟨w.heap.size, o, none⟩) (by simp; omega) (by simp)).trans (hz o)
  have fz : ∀ o, wz.frozen? ⟨w.heap.size + 1, o, none⟩ = false := fun o => by rw [hwz]; go_simp
  have f1x : ∀ o, w1.frozen? ⟨w.heap.size + 1, o, none⟩ = false := fun o => (c1.frozen (p := ⟨w.heap.size + 1, o, none⟩) (by simp; omega) (by simp)).trans (fz o)
  have b10 : w1.cell? ⟨w.heap.size + 1, 0, none⟩ = some (.int .i64 0) := (c1.cell (p := ⟨w.heap.size + 1, 0, none⟩) (by simp; omega) (by simp)).trans (by rw [hwz]; go_simp)
  have b11 : w1.cell? ⟨w.heap.size + 1, 1, none⟩ = some (.int .i64 0) := (c1.cell (p := ⟨w.heap.size + 1, 1, none⟩) (by simp; omega) (by simp)).trans (by rw [hwz]; go_simp)
  have b12 : w1.cell? ⟨w.heap.size + 1, 2, none⟩ = some (.int .i64 0) := (c1.cell (p := ⟨w.heap.size + 1, 2, none⟩) (by simp; omega) (by simp)).trans (by rw [hwz]; go_simp)
  have b13 : w1.cell? ⟨w.heap.size + 1, 3, none⟩ = some (.string ⟨#[]⟩) := (c1.cell (p := ⟨w.heap.size + 1, 3, none⟩) (by simp; omega) (by simp)).trans (by rw [hwz]; go_simp)
  have b14 : w1.cell? ⟨w.heap.size + 1, 4, none⟩ = some (.string ⟨#[]⟩) := (c1.cell (p := ⟨w.heap.size + 1, 4, none⟩) (by simp; omega) (by simp)).trans (by rw [hwz]; go_simp)
  have b15 : w1.cell? ⟨w.heap.size + 1, 5, none⟩ = some (.string ⟨#[]⟩) := (c1.cell (p := ⟨w.heap.size + 1, 5, none⟩) (by simp; omega) (by simp)).trans (by rw [hwz]; go_simp)
  have b16 : w1.cell? ⟨w.heap.size + 1, 6, none⟩ = some (.int .i64 0) := (c1.cell (p := ⟨w.heap.size + 1, 6, none⟩) (by simp; omega) (by simp)).trans (by rw [hwz]; go_simp)
  have b17 : w1.cell? ⟨w.heap.size + 1, 7, none⟩ = some (.string ⟨#[]⟩) := (c1.cell (p := ⟨w.heap.size + 1, 7, none⟩) (by simp; omega) (by simp)).trans (by rw [hwz]; go_simp)
  have b18 : w1.cell? ⟨w.heap.size + 1, 8, none⟩ = some (.int .i64 0) := (c1.cell (p := ⟨w.heap.size + 1, 8, none⟩) (by simp; omega) (by simp)).trans (by rw [hwz]; go_simp)
  have b19 : w1.cell? ⟨w.heap.size + 1, 9, none⟩ = some (.slice none 0 0) := (c1.cell (p := ⟨w.heap.size + 1, 9, none⟩) (by simp; omega) (by simp)).trans (by rw [hwz]; go_simp)
  have b110 : w1.cell? ⟨w.heap.size + 1, 10, none⟩ = some (.slice none 0 0) := (c1.cell (p := ⟨w.heap.size + 1, 10, none⟩) (by simp; omega) (by simp)).trans (by rw [hwz]; go_simp)
  have q01 : w1.cell? ⟨b, off, none⟩ = some (.string x) := (d1.cell (p := ⟨b, off, none⟩) hwl (by simp)).trans q0
  have qm1 : w1.cell? ⟨b, off + (M + 1), none⟩ = some (.string Lw) := (d1.cell (p := ⟨b, off + (M + 1), none⟩) hwl (by simp)).trans qm
  clear hwz c1 gz hz fz q0 q1 qm sz dz s1
  obtain ⟨w1b, hw1b⟩ : ∃ x, x = w1.setCell ⟨w.heap.size + 1, 1, none⟩ (.int .i64 n) := ⟨_, rfl⟩
  have D1b : Chg [] w w1b := by rw [hw1b]; exact d1.setCell (.inr (by simp)) _
  have s1b : w1b.heap.size = w1.heap.size := by rw [hw1b]; simp
  have B10 : w1b.cell? ⟨w.heap.size + 1, 0, none⟩ = some (.int .i64 0) := by rw [hw1b, World.cell?_setCell_other _ _ _ _ (by simp)]; exact b10
  have B11 : w1b.cell? ⟨w.heap.size + 1, 1, none⟩ = some (.int .i64 n) := by rw [hw1b]; exact World.cell?_setCell_same _ _ _ b11
  have B12 : w1b.cell? ⟨w.heap.size + 1, 2, none⟩ = some (.int .i64 0) := by rw [hw1b, World.cell?_setCell_other _ _ _ _ (by simp)]; exact b12
  have B13 : w1b.cell? ⟨w.heap.size + 1, 3, none⟩ = some (.string ⟨#[]⟩) := by rw [hw1b, World.cell?_setCell_other _ _ _ _ (by simp)]; exact b13
  have B14 : w1b.cell? ⟨w.heap.size + 1, 4, none⟩ = some (.string ⟨#[]⟩) := by rw [hw1b, World.cell?_setCell_other _ _ _ _ (by simp)]; exact b14
  have B15 : w1b.cell? ⟨w.heap.size + 1, 5, none⟩ = some (.string ⟨#[]⟩) := by rw [hw1b, World.cell?_setCell_other _ _ _ _ (by simp)]; exact b15
  have B16 : w1b.cell? ⟨w.heap.size + 1, 6, none⟩ = some (.int .i64 0) := by rw [hw1b, World.cell?_setCell_other _ _ _ _ (by simp)]; exact b16
  have B17 : w1b.cell? ⟨w.heap.size + 1, 7, none⟩ = some (.string ⟨#[]⟩) := by rw [hw1b, World.cell?_setCell_other _ _ _ _ (by simp)]; exact b17
  have B18 : w1b.cell? ⟨w.heap.size + 1, 8, none⟩ = some (.int .i64 0) := by rw [hw1b, World.cell?_setCell_other _ _ _ _ (by simp)]; exact b18
  have B19 : w1b.cell? ⟨w.heap.size + 1, 9, none⟩ = some (.slice none 0 0) := by rw [hw1b, World.cell?_setCell_other _ _ _ _ (by simp)]; exact b19
  have B110 : w1b.cell? ⟨w.heap.size + 1, 10, none⟩ = some (.slice none 0 0) := by rw [hw1b, World.cell?_setCell_other _ _ _ _ (by simp)]; exact b110
  have G1 : ∀ o, w1b.cell? ⟨w.heap.size, o, none⟩ = (w.alloc (.cells #[.int .i64 0, .int .i64 0, .int .i64 0, .string ⟨#[]⟩, .string ⟨#[]⟩, .string ⟨#[]⟩, .int .i64 0, .string ⟨#[]⟩, .int .i64 0, .slice none 0 0, .slice none 0 0] 41)).cell? ⟨w.heap.size, o, none⟩ := fun o => by rw [hw1b, World.cell?_setCell_other _ _ _ _ (by simp)]; exact g1 o
  have H1 : ∀ o, w1b.frozen? ⟨w.heap.size, o, none⟩ = (w.alloc (.cells #[.int .i64 0, .int .i64 0, .int .i64 0, .string ⟨#[]⟩, .string ⟨#[]⟩, .string ⟨#[]⟩, .int .i64 0, .string ⟨#[]⟩, .int .i64 0, .slice none 0 0, .slice none 0 0] 41)).frozen? ⟨w.heap.size, o, none⟩ := fun o => by rw [hw1b, ← h1 o]; simp
  have F1 : ∀ o, w1b.frozen? ⟨w.heap.size + 1, o, none⟩ = false := fun o => by rw [hw1b, ← f1x o]; simp
  have Q0 : w1b.cell? ⟨b, off, none⟩ = some (.string x) := by rw [hw1b, World.cell?_setCell_other _ _ _ _ (by first | (simp; done) | (simp; omega))]; exact q01
  have QM : w1b.cell? ⟨b, off + (M + 1), none⟩ = some (.string Lw) := by rw [hw1b, World.cell?_setCell_other _ _ _ _ (by first | (simp; done) | (simp; omega))]; exact qm1
  have JX := Lib.hid (JW.out w1b D1b)
  go_wp2_with fail
  rw [← hw1b]
  clear b10 b11 b12 b13 b14 b15 b16 b17 b18 b19 b110 g1 h1 f1x q01 qm1 hw1b
  refine JX.out.mono ?_
  rintro e w2 ⟨rfl, c2⟩
  have s2 := c2.size
  have d2 : Chg [] w w2 := D1b.trans0 c2
  have t2x : w.heap.size < w2.heap.size := by omega
  have u2 : w.heap.size + 1 < w2.heap.size := by omega
  have b20 : w2.cell? ⟨w.heap.size + 1, 0, none⟩ = some (.int .i64 0) := (c2.cell (p := ⟨w.heap.size + 1, 0, none⟩) (by simp; omega) (by simp)).trans B10
  have b21 : w2.cell? ⟨w.heap.size + 1, 1, none⟩ = some (.int .i64 n) := (c2.cell (p := ⟨w.heap.size + 1, 1, none⟩) (by simp; omega) (by simp)).trans B11
  have b22 : w2.cell? ⟨w.heap.size + 1, 2, none⟩ = some (.int .i64 0) := (c2.cell (p := ⟨w.heap.size + 1, 2, none⟩) (by simp; omega) (by simp)).trans B12
  have b23 : w2.cell? ⟨w.heap.size + 1, 3, none⟩ = some (.string ⟨#[]⟩) := (c2.cell (p := ⟨w.heap.size + 1, 3, none⟩) (by simp; omega) (by simp)).trans B13
  have b24 : w2.cell? ⟨w.heap.size + 1, 4, none⟩ = some (.string ⟨#[]⟩) := (c2.cell (p := ⟨w.heap.size + 1, 4, none⟩) (by simp; omega) (by simp)).trans B14
  have b25 : w2.cell? ⟨w.heap.size + 1, 5, none⟩ = some (.string ⟨#[]⟩) := (c2.cell (p := ⟨w.heap.size + 1, 5, none⟩) (by simp; omega) (by simp)).trans B15
  have b26 : w2.cell? ⟨w.heap.size + 1, 6, none⟩ = some (.int .i64 0) := (c2.cell (p := ⟨w.heap.size + 1, 6, none⟩) (by simp; omega) (by simp)).trans B16
  have b27 : w2.cell? ⟨w.heap.size + 1, 7, none⟩ = some (.string ⟨#[]⟩) := (c2.cell (p := ⟨w.heap.size + 1, 7, none⟩) (by simp; omega) (by simp)).trans B17
  have b28 : w2.cell? ⟨w.heap.size + 1, 8, none⟩ = some (.int .i64 0) := (c2.cell (p := ⟨w.heap.size + 1, 8, none⟩) (by simp; omega) (by simp)).trans B18
  have b29 : w2.cell? ⟨w.heap.size + 1, 9, none⟩ = some (.slice none 0 0) := (c2.cell (p := ⟨w.heap.size + 1, 9, none⟩) (by simp; omega) (by simp)).trans B19
  have b210 : w2.cell? ⟨w.heap.size + 1, 10, none⟩ = some (.slice none 0 0) := (c2.cell (p := ⟨w.heap.size + 1, 10, none⟩) (by simp; omega) (by simp)).trans B110
  have g2 : ∀ o, w2.cell? ⟨w.heap.size, o, none⟩ = (w.alloc (.cells #[.int .i64 0, .int .i64 0, .int .i64 0, .string ⟨#[]⟩, .string ⟨#[]⟩, .string ⟨#[]⟩, .int .i64 0, .string ⟨#[]⟩, .int .i64 0, .slice none 0 0, .slice none 0 0] 41)).cell? ⟨w.heap.size, o, none⟩ := fun o => (c2.cell (p := ⟨w.heap.size, o, none⟩) (by simp; omega) (by simp)).trans (G1 o)
  have h2 : ∀ o, w2.frozen? ⟨w.heap.size, o, none⟩ = (w.alloc (.cells #[.int .i64 0, .int .i64 0, .int .i64 0, .string ⟨#[]⟩, .string ⟨#[]⟩, .string ⟨#[]⟩, .int .i64 0, .string ⟨#[]⟩, .int .i64 0, .slice none 0 0, .slice none 0 0] 41)).frozen? ⟨w.heap.size, o, none⟩ := fun o => (c2.frozen (p := ⟨w.heap.size, o, none⟩) (by simp; omega) (by simp)).trans (H1 o)
  have f2x : ∀ o, w2.frozen? ⟨w.heap.size + 1, o, none⟩ = false := fun o => (c2.frozen (p := ⟨w.heap.size + 1, o, none⟩) (by simp; omega) (by simp)).trans (F1 o)
  have q02 : w2.cell? ⟨b, off, none⟩ = some (.string x) := (c2.cell (p := ⟨b, off, none⟩) (by simp; omega) (by simp)).trans Q0
  have qm2 : w2.cell? ⟨b, off + (M + 1), none⟩ = some (.string Lw) := (c2.cell (p := ⟨b, off + (M + 1), none⟩) (by simp; omega) (by simp)).trans QM
  have p02 : ∀ o u, (w2.setCell ⟨w.heap.size + 1, o, none⟩ u).cell? ⟨b, off, none⟩ = some (.string x) := fun o u => by rw [World.cell?_setCell_other _ _ _ _ (by first | (simp; done) | (simp; omega))]; exact q02
  have pm2 : ∀ o u, (w2.setCell ⟨w.heap.size + 1, o, none⟩ u).cell? ⟨b, off + (M + 1), none⟩ = some (.string Lw) := fun o u => by rw [World.cell?_setCell_other _ _ _ _ (by first | (simp; done) | (simp; omega))]; exact qm2
  clear c2 B10 B11 B12 B13 B14 B15 B16 B17 B18 B19 B110 G1 H1 F1 Q0 QM s1b JX t1x u1
  go_wp2_with fail
  obtain ⟨w2b, hw2b⟩ : ∃ x, x = w2.setCell ⟨w.heap.size + 1, 0, none⟩ (.int .i64 7) := ⟨_, rfl⟩
  have D2b : Chg [] w w2b := by rw [hw2b]; exact d2.setCell (.inr (by simp)) _
  have s2b : w2b.heap.size = w2.heap.size := by rw [hw2b]; simp
  have B20 : w2b.cell? ⟨w.heap.size + 1, 0, none⟩ = some (.int .i64 7) := by rw [hw2b]; exact World.cell?_setCell_same _ _ _ b20
  have B21 : w2b.cell? ⟨w.heap.size + 1, 1, none⟩ = some (.int .i64 n) := by rw [hw2b, World.cell?_setCell_other _ _ _ _ (by simp)]; exact b21
  have B22 : w2b.cell? ⟨w.heap.size + 1, 2, none⟩ = some (.int .i64 0) := by rw [hw2b, World.cell?_setCell_other _ _ _ _ (by simp)]; exact b22
  have B23 : w2b.cell? ⟨w.heap.size + 1, 3, none⟩ = some (.string ⟨#[]⟩) := by rw [hw2b, World.cell?_setCell_other _ _ _ _ (by simp)]; exact b23
  have B24 : w2b.cell? ⟨w.heap.size + 1, 4, none⟩ = some (.string ⟨#[]⟩) := by rw [hw2b, World.cell?_setCell_other _ _ _ _ (by simp)]; exact b24
  have B25 : w2b.cell? ⟨w.heap.size + 1, 5, none⟩ = some (.string ⟨#[]⟩) := by rw [hw2b, World.cell?_setCell_other _ _ _ _ (by simp)]; exact b25
  have B26 : w2b.cell? ⟨w.heap.size + 1, 6, none⟩ = some (.int .i64 0) := by rw [hw2b, World.cell?_setCell_other _ _ _ _ (by simp)]; exact b26
  have B27 : w2b.cell? ⟨w.heap.size + 1, 7, none⟩ = some (.string ⟨#[]⟩) := by rw [hw2b, World.cell?_setCell_other _ _ _ _ (by simp)]; exact b27
  have B28 : w2b.cell? ⟨w.heap.size + 1, 8, none⟩ = some (.int .i64 0) := by rw [hw2b, World.cell?_setCell_other _ _ _ _ (by simp)]; exact b28
  have B29 : w2b.cell? ⟨w.heap.size + 1, 9, none⟩ = some (.slice none 0 0) := by rw [hw2b, World.cell?_setCell_other _ _ _ _ (by simp)]; exact b29
  have B210 : w2b.cell? ⟨w.heap.size + 1, 10, none⟩ = some (.slice none 0 0) := by rw [hw2b, World.cell?_setCell_other _ _ _ _ (by simp)]; exact b210
  have G2 : ∀ o, w2b.cell? ⟨w.heap.size, o, none⟩ = (w.alloc (.cells #[.int .i64 0, .int .i64 0, .int .i64 0, .string ⟨#[]⟩, .string ⟨#[]⟩, .string ⟨#[]⟩, .int .i64 0, .string ⟨#[]⟩, .int .i64 0, .slice none 0 0, .slice none 0 0] 41)).cell? ⟨w.heap.size, o, none⟩ := fun o => by rw [hw2b, World.cell?_setCell_other _ _ _ _ (by simp)]; exact g2 o
  have H2 : ∀ o, w2b.frozen? ⟨w.heap.size, o, none⟩ = (w.alloc (.cells #[.int .i64 0, .int .i64 0, .int .i64 0, .string ⟨#[]⟩, .string ⟨#[]⟩, .string ⟨#[]⟩, .int .i64 0, .string ⟨#[]⟩, .int .i64 0, .slice none 0 0, .slice none 0 0] 41)).frozen? ⟨w.heap.size, o, none⟩ := fun o => by rw [hw2b, ← h2 o]; simp
  have F2 : ∀ o, w2b.frozen? ⟨w.heap.size + 1, o, none⟩ = false := fun o => by rw [hw2b, ← f2x o]; simp
  rw [← hw2b]
  clear b20 b21 b22 b23 b24 b25 b26 b27 b28 b29 b210 g2 h2 f2x q02 qm2 p02 pm2 hw2b
  refine (PX.out _).mono ?_
  rintro e w3 ⟨rfl, c3⟩
  have s3 := c3.size
  have d3 : Chg [] w w3 := D2b.trans0 c3
  have t3x : w.heap.size < w3.heap.size := by omega
  have u3 : w.heap.size + 1 < w3.heap.size := by omega
  have b30 : w3.cell? ⟨w.heap.size + 1, 0, none⟩ = some (.int .i64 7) := (c3.cell (p := ⟨w.heap.size + 1, 0, none⟩) (by simp; omega) (by simp)).trans B20
  have b31 : w3.cell? ⟨w.heap.size + 1, 1, none⟩ = some (.int .i64 n) := (c3.cell (p := ⟨w.heap.size + 1, 1, none⟩) (by simp; omega) (by simp)).trans B21
  have b32 : w3.cell? ⟨w.heap.size + 1, 2, none⟩ = some (.int .i64 0) := (c3.cell (p := ⟨w.heap.size + 1, 2, none⟩) (by simp; omega) (by simp)).trans B22
  have b33 : w3.cell? ⟨w.heap.size + 1, 3, none⟩ = some (.string ⟨#[]⟩) := (c3.cell (p := ⟨w.heap.size + 1, 3, none⟩) (by simp; omega) (by simp)).trans B23
  have b34 : w3.cell? ⟨w.heap.size + 1, 4, none⟩ = some (.string ⟨#[]⟩) := (c3.cell (p := ⟨w.heap.size + 1, 4, none⟩) (by simp; omega) (by simp)).trans B24
  have b35 : w3.cell? ⟨w.heap.size + 1, 5, none⟩ = some (.string ⟨#[]⟩) := (c3.cell (p := ⟨w.heap.size + 1, 5, none⟩) (by simp; omega) (by simp)).trans B25
  have b36 : w3.cell? ⟨w.heap.size + 1, 6, none⟩ = some (.int .i64 0) := (c3.cell (p := ⟨w.heap.size + 1, 6, none⟩) (by simp; omega) (by simp)).trans B26
  have b37 : w3.cell? ⟨w.heap.size + 1, 7, none⟩ = some (.string ⟨#[]⟩) := (c3.cell (p := ⟨w.heap.size + 1, 7, none⟩) (by simp; omega) (by simp)).trans B27
  have b38 : w3.cell? ⟨w.heap.size + 1, 8, none⟩ = some (.int .i64 0) := (c3.cell (p := ⟨w.heap.size + 1, 8, none⟩) (by simp; omega) (by simp)).trans B28
  have b39 : w3.cell? ⟨w.heap.size + 1, 9, none⟩ = some (.slice none 0 0) := (c3.cell (p := ⟨w.heap.size + 1, 9, none⟩) (by simp; omega) (by simp)).trans B29
  have b310 : w3.cell? ⟨w.heap.size + 1, 10, none⟩ = some (.slice none 0 0) := (c3.cell (p := ⟨w.heap.size + 1, 10, none⟩) (by simp; omega) (by simp)).trans B210
  have g3 : ∀ o, w3.cell? ⟨w.heap.size, o, none⟩ = (w.alloc (.cells #[.int .i64 0, .int .i64 0, .int .i64 0, .string ⟨#[]⟩, .string ⟨#[]⟩, .string ⟨#[]⟩, .int .i64 0, .string ⟨#[]⟩, .int .i64 0, .slice none 0 0, .slice none 0 0] 41)).cell? ⟨w.heap.size, o, none⟩ := fun o => (c3.cell (p := ⟨w.heap.size, o, none⟩) (by simp; omega) (by simp)).trans (G2 o)
  have h3 : ∀ o, w3.frozen? ⟨w.heap.size, o, none⟩ = (w.alloc (.cells #[.int .i64 0, .int .i64 0, .int .i64 0, .string ⟨#[]⟩, .string ⟨#[]⟩, .string ⟨#[]⟩, .int .i64 0, .string ⟨#[]⟩, .int .i64 0, .slice none 0 0, .slice none 0 0] 41)).frozen? ⟨w.heap.size, o, none⟩ := fun o => (c3.frozen (p := ⟨w.heap.size, o, none⟩) (by simp; omega) (by simp)).trans (H2 o)
  have f3x : ∀ o, w3.frozen? ⟨w.heap.size + 1, o, none⟩ = false := fun o => (c3.frozen (p := ⟨w.heap.size + 1, o, none⟩) (by simp; omega) (by simp)).trans (F2 o)
  clear c3 B20 B21 B22 B23 B24 B25 B26 B27 B28 B29 B210 G2 H2 F2 s2b t2x u2
  go_wp2_with fail
  refine bodyPost_ret (v := .agg #[.int .i64 7, .int .i64 n, .int .i64 0, .string ⟨#[]⟩, .string cl.method, .string cl.key, .int .i64 cl.value, .string cl.text, .int .i64 0, .slice none 0 0, .slice none 0 0]) (by simp only [results, Tryz.results18]; go_simp) rfl ?_
  exact ActIs.of HKH.out ⟨rfl, by repeat (first | with_reducible exact d3 | with_reducible exact Chg.refl _ _ | with_reducible refine Chg.drew ?_ | with_reducible refine Chg.alloc ?_ _ | with_reducible refine Chg.setCell ?_ (.inr (by simp; try omega)) _)⟩
set_option maxRecDepth 100000 in
set_option maxHeartbeats 4000000 in
theorem l8Simple_0 {w : World} {b off M cap : Nat} {x y Lw R : ByteArray} {A3 : Option Addr} {n3 c3v : Nat} {n : Int} {f1 : Bool} (S : SimpH w b off M cap x y Lw R A3 n3 c3v n f1)  (n1 : x ≠ wordT 1) (n2x : x ≠ wordT 2) (n3x : x ≠ wordT 3) (n4x : x ≠ wordT 4) (n5x : x ≠ wordT 5) (n6x : x ≠ wordT 6) (n7x : x ≠ wordT 7) :
    Calls Tryz.prog 18 #[.slice (some ⟨b, off, none⟩) (M + 2) cap] w (ActIs (mkA 0 n 0 noB zeroC 0) w) := by
  obtain ⟨q0, q1, qm, hwl, hM, hcap, PN, JW, SLW2⟩ := S
  have PN := Lib.hid PN
  have JW := Lib.hid JW
  have SAW2 : ∀ W, (Instr.sliceAt 30 (.slice (some ⟨b, off, none⟩) (M + 2) cap) (some (.int .i64 2)) none none).run Tryz.prog W = .ok (.slice A3 n3 c3v) W := fun W => by
    rw [run_sliceAt_slice (h := by rw [elem_strs]; exact Tryz.underlying30)]
    exact SLW2 W
  have t1 : (x.toList == [109, 97, 107, 101]) = false := word_no n1 rfl
  have t2 : (x.toList == [119, 114, 97, 112]) = false := word_no n2x rfl
  have t3 : (x.toList == [117, 110, 119, 114, 97, 112]) = false := word_no n3x rfl
  have t4 : (x.toList == [99, 111, 112, 121]) = false := word_no n4x rfl
  have t5 : (x.toList == [100, 114, 111, 112]) = false := word_no n5x rfl
  have t6 : (x.toList == [97, 115, 107]) = false := word_no n6x rfl
  have t7 : (x.toList == [99, 97, 108, 108]) = false := word_no n7x rfl
  clear n1 n2x n3x n4x n5x n6x n7x
  obtain ⟨a, ha⟩ : ∃ a, a = mkA 0 n 0 noB zeroC 0 := ⟨_, rfl⟩
  rw [← ha]
  have HKH := Lib.hid ha
  clear ha
  go_enter Tryz.func18, Tryz.ntmps18
  go_wp2_with fail
  refine (PN.out _).mono ?_
  rintro e w1 ⟨rfl, c1⟩
  obtain ⟨wz, hwz⟩ : ∃ x, x = (w.alloc (.cells #[.int .i64 0, .int .i64 0, .int .i64 0, .string ⟨#[]⟩, .string ⟨#[]⟩, .string ⟨#[]⟩, .int .i64 0, .string ⟨#[]⟩, .int .i64 0, .slice none 0 0, .slice none 0 0] 41)).alloc (.cells #[.int .i64 0, .int .i64 0, .int .i64 0, .string ⟨#[]⟩, .string ⟨#[]⟩, .string ⟨#[]⟩, .int .i64 0, .string ⟨#[]⟩, .int .i64 0, .slice none 0 0, .slice none 0 0] 41) := ⟨_, rfl⟩
  have dz : Chg [] w wz := by rw [hwz]; exact ((Chg.refl _ _).alloc _).alloc _
  have c1 : Chg [] wz w1 := by rw [hwz]; exact c1
  have sz : wz.heap.size = w.heap.size + 1 + 1 := by rw [hwz]; simp
  have gz : ∀ o, wz.cell? ⟨w.heap.size, o, none⟩ = (w.alloc (.cells #[.int .i64 0, .int .i64 0, .int .i64 0, .string ⟨#[]⟩, .string ⟨#[]⟩, .string ⟨#[]⟩, .int .i64 0, .string ⟨#[]⟩, .int .i64 0, .slice none 0 0, .slice none 0 0] 41)).cell? ⟨w.heap.size, o, none⟩ := fun o => by rw [hwz]; exact ((Chg.refl [] (w.alloc (.cells #[.int .i64 0, .int .i64 0, .int .i64 0, .string ⟨#[]⟩, .string ⟨#[]⟩, .string ⟨#[]⟩, .int .i64 0, .string ⟨#[]⟩, .int .i64 0, .slice none 0 0, .slice none 0 0] 41))).alloc _).cell (p := ⟨w.heap.size, o, none⟩) (by simp) (by simp)
  have hz : ∀ o, wz.frozen? ⟨w.heap.size, o, none⟩ = (w.alloc (.cells #[.int .i64 0, .int .i64 0, .int .i64 0, .string ⟨#[]⟩, .string ⟨#[]⟩, .string ⟨#[]⟩, .int .i64 0, .string ⟨#[]⟩, .int .i64 0, .slice none 0 0, .slice none 0 0] 41)).frozen? ⟨w.heap.size, o, none⟩ := fun o => by rw [hwz]; exact ((Chg.refl [] (w.alloc (.cells #[.int .i64 0, .int .i64 0, .int .i64 0, .string ⟨#[]⟩, .string ⟨#[]⟩, .string ⟨#[]⟩, .int .i64 0, .string ⟨#[]⟩, .int .i64 0, .slice none 0 0, .slice none 0 0] 41))).alloc _).frozen (p := ⟨w.heap.size, o, none⟩) (by simp) (by simp)
  have s1 := c1.size
  have d1 : Chg [] w w1 := dz.trans0 c1
  have t1x : w.heap.size < w1.heap.size := by omega
  have u1 : w.heap.size + 1 < w1.heap.size := by omega
  have g1 : ∀ o, w1.cell? ⟨w.heap.size, o, none⟩ = (w.alloc (.cells #[.int .i64 0, .int .i64 0, .int .i64 0, .string ⟨#[]⟩, .string ⟨#[]⟩, .string ⟨#[]⟩, .int .i64 0, .string ⟨#[]⟩, .int .i64 0, .slice none 0 0, .slice none 0 0] 41)).cell? ⟨w.heap.size, o, none⟩ := fun o => (c1.cell (p := ⟨w.heap.size, o, none⟩) (by simp; omega) (by simp)).trans (gz o)
  have h1 : ∀ o, w1.frozen? ⟨w.heap.size, o, none⟩ = (w.alloc (.cells #[.int .i64 0, .int .i64 0, .int .i64 0, .string ⟨#[]⟩, .string ⟨#[]⟩, .string ⟨#[]⟩, .int .i64 0, .string ⟨#[]⟩, .int .i64 0, .slice none 0 0, .slice none 0 0] 41)).frozen? ⟨w.heap.size, o, none⟩ := fun o => (c1.frozen (p := ⟨w.heap.size, o, none⟩) (by simp; omega) (by simp)).trans (hz o)
  have fz : ∀ o, wz.frozen? ⟨w.heap.size + 1, o, none⟩ = false := fun o => by rw [hwz]; go_simp
  have f1x : ∀ o, w1.frozen? ⟨w.heap.size + 1, o, none⟩ = false := fun o => (c1.frozen (p := ⟨w.heap.size + 1, o, none⟩) (by simp; omega) (by simp)).trans (fz o)
  have b10 : w1.cell? ⟨w.heap.size + 1, 0, none⟩ = some (.int .i64 0) := (c1.cell (p := ⟨w.heap.size + 1, 0, none⟩) (by simp; omega) (by simp)).trans (by rw [hwz]; go_simp)
  have b11 : w1.cell? ⟨w.heap.size + 1, 1, none⟩ = some (.int .i64 0) := (c1.cell (p := ⟨w.heap.size + 1, 1, none⟩) (by simp; omega) (by simp)).trans (by rw [hwz]; go_simp)
  have b12 : w1.cell? ⟨w.heap.size + 1, 2, none⟩ = some (.int .i64 0) := (c1.cell (p := ⟨w.heap.size + 1, 2, none⟩) (by simp; omega) (by simp)).trans (by rw [hwz]; go_simp)
  have b13 : w1.cell? ⟨w.heap.size + 1, 3, none⟩ = some (.string ⟨#[]⟩) := (c1.cell (p := ⟨w.heap.size + 1, 3, none⟩) (by simp; omega) (by simp)).trans (by rw [hwz]; go_simp)
  have b14 : w1.cell? ⟨w.heap.size + 1, 4, none⟩ = some (.string ⟨#[]⟩) := (c1.cell (p := ⟨w.heap.size + 1, 4, none⟩) (by simp; omega) (by simp)).trans (by rw [hwz]; go_simp)
  have b15 : w1.cell? ⟨w.heap.size + 1, 5, none⟩ = some (.string ⟨#[]⟩) := (c1.cell (p := ⟨w.heap.size + 1, 5, none⟩) (by simp; omega) (by simp)).trans (by rw [hwz]; go_simp)
  have b16 : w1.cell? ⟨w.heap.size + 1, 6, none⟩ = some (.int .i64 0) := (c1.cell (p := ⟨w.heap.size + 1, 6, none⟩) (by simp; omega) (by simp)).trans (by rw [hwz]; go_simp)
  have b17 : w1.cell? ⟨w.heap.size + 1, 7, none⟩ = some (.string ⟨#[]⟩) := (c1.cell (p := ⟨w.heap.size + 1, 7, none⟩) (by simp; omega) (by simp)).trans (by rw [hwz]; go_simp)
  have b18 : w1.cell? ⟨w.heap.size + 1, 8, none⟩ = some (.int .i64 0) := (c1.cell (p := ⟨w.heap.size + 1, 8, none⟩) (by simp; omega) (by simp)).trans (by rw [hwz]; go_simp)
  have b19 : w1.cell? ⟨w.heap.size + 1, 9, none⟩ = some (.slice none 0 0) := (c1.cell (p := ⟨w.heap.size + 1, 9, none⟩) (by simp; omega) (by simp)).trans (by rw [hwz]; go_simp)
  have b110 : w1.cell? ⟨w.heap.size + 1, 10, none⟩ = some (.slice none 0 0) := (c1.cell (p := ⟨w.heap.size + 1, 10, none⟩) (by simp; omega) (by simp)).trans (by rw [hwz]; go_simp)
  have q01 : w1.cell? ⟨b, off, none⟩ = some (.string x) := (d1.cell (p := ⟨b, off, none⟩) hwl (by simp)).trans q0
  have qm1 : w1.cell? ⟨b, off + (M + 1), none⟩ = some (.string Lw) := (d1.cell (p := ⟨b, off + (M + 1), none⟩) hwl (by simp)).trans qm
  clear hwz c1 gz hz fz q0 q1 qm sz dz s1
  obtain ⟨w1b, hw1b⟩ : ∃ x, x = w1.setCell ⟨w.heap.size + 1, 1, none⟩ (.int .i64 n) := ⟨_, rfl⟩
  have D1b : Chg [] w w1b := by rw [hw1b]; exact d1.setCell (.inr (by simp)) _
  have s1b : w1b.heap.size = w1.heap.size := by rw [hw1b]; simp
  have B10 : w1b.cell? ⟨w.heap.size + 1, 0, none⟩ = some (.int .i64 0) := by rw [hw1b, World.cell?_setCell_other _ _ _ _ (by simp)]; exact b10
  have B11 : w1b.cell? ⟨w.heap.size + 1, 1, none⟩ = some (.int .i64 n) := by rw [hw1b]; exact World.cell?_setCell_same _ _ _ b11
  have B12 : w1b.cell? ⟨w.heap.size + 1, 2, none⟩ = some (.int .i64 0) := by rw [hw1b, World.cell?_setCell_other _ _ _ _ (by simp)]; exact b12
  have B13 : w1b.cell? ⟨w.heap.size + 1, 3, none⟩ = some (.string ⟨#[]⟩) := by rw [hw1b, World.cell?_setCell_other _ _ _ _ (by simp)]; exact b13
  have B14 : w1b.cell? ⟨w.heap.size + 1, 4, none⟩ = some (.string ⟨#[]⟩) := by rw [hw1b, World.cell?_setCell_other _ _ _ _ (by simp)]; exact b14
  have B15 : w1b.cell? ⟨w.heap.size + 1, 5, none⟩ = some (.string ⟨#[]⟩) := by rw [hw1b, World.cell?_setCell_other _ _ _ _ (by simp)]; exact b15
  have B16 : w1b.cell? ⟨w.heap.size + 1, 6, none⟩ = some (.int .i64 0) := by rw [hw1b, World.cell?_setCell_other _ _ _ _ (by simp)]; exact b16
  have B17 : w1b.cell? ⟨w.heap.size + 1, 7, none⟩ = some (.string ⟨#[]⟩) := by rw [hw1b, World.cell?_setCell_other _ _ _ _ (by simp)]; exact b17
  have B18 : w1b.cell? ⟨w.heap.size + 1, 8, none⟩ = some (.int .i64 0) := by rw [hw1b, World.cell?_setCell_other _ _ _ _ (by simp)]; exact b18
  have B19 : w1b.cell? ⟨w.heap.size + 1, 9, none⟩ = some (.slice none 0 0) := by rw [hw1b, World.cell?_setCell_other _ _ _ _ (by simp)]; exact b19
  have B110 : w1b.cell? ⟨w.heap.size + 1, 10, none⟩ = some (.slice none 0 0) := by rw [hw1b, World.cell?_setCell_other _ _ _ _ (by simp)]; exact b110
  have G1 : ∀ o, w1b.cell? ⟨w.heap.size, o, none⟩ = (w.alloc (.cells #[.int .i64 0, .int .i64 0, .int .i64 0, .string ⟨#[]⟩, .string ⟨#[]⟩, .string ⟨#[]⟩, .int .i64 0, .string ⟨#[]⟩, .int .i64 0, .slice none 0 0, .slice none 0 0] 41)).cell? ⟨w.heap.size, o, none⟩ := fun o => by rw [hw1b, World.cell?_setCell_other _ _ _ _ (by simp)]; exact g1 o
  have H1 : ∀ o, w1b.frozen? ⟨w.heap.size, o, none⟩ = (w.alloc (.cells #[.int .i64 0, .int .i64 0, .int .i64 0, .string ⟨#[]⟩, .string ⟨#[]⟩, .string ⟨#[]⟩, .int .i64 0, .string ⟨#[]⟩, .int .i64 0, .slice none 0 0, .slice none 0 0] 41)).frozen? ⟨w.heap.size, o, none⟩ := fun o => by rw [hw1b, ← h1 o]; simp
  have F1 : ∀ o, w1b.frozen? ⟨w.heap.size + 1, o, none⟩ = false := fun o => by rw [hw1b, ← f1x o]; simp
  have Q0 : w1b.cell? ⟨b, off, none⟩ = some (.string x) := by rw [hw1b, World.cell?_setCell_other _ _ _ _ (by first | (simp; done) | (simp; omega))]; exact q01
  have QM : w1b.cell? ⟨b, off + (M + 1), none⟩ = some (.string Lw) := by rw [hw1b, World.cell?_setCell_other _ _ _ _ (by first | (simp; done) | (simp; omega))]; exact qm1
  have JX := Lib.hid (JW.out w1b D1b)
  go_wp2_with fail
  rw [← hw1b]
  clear b10 b11 b12 b13 b14 b15 b16 b17 b18 b19 b110 g1 h1 f1x q01 qm1 hw1b
  refine JX.out.mono ?_
  rintro e w2 ⟨rfl, c2⟩
  have s2 := c2.size
  have d2 : Chg [] w w2 := D1b.trans0 c2
  have t2x : w.heap.size < w2.heap.size := by omega
  have u2 : w.heap.size + 1 < w2.heap.size := by omega
  have b20 : w2.cell? ⟨w.heap.size + 1, 0, none⟩ = some (.int .i64 0) := (c2.cell (p := ⟨w.heap.size + 1, 0, none⟩) (by simp; omega) (by simp)).trans B10
  have b21 : w2.cell? ⟨w.heap.size + 1, 1, none⟩ = some (.int .i64 n) := (c2.cell (p := ⟨w.heap.size + 1, 1, none⟩) (by simp; omega) (by simp)).trans B11
  have b22 : w2.cell? ⟨w.heap.size + 1, 2, none⟩ = some (.int .i64 0) := (c2.cell (p := ⟨w.heap.size + 1, 2, none⟩) (by simp; omega) (by simp)).trans B12
  have b23 : w2.cell? ⟨w.heap.size + 1, 3, none⟩ = some (.string ⟨#[]⟩) := (c2.cell (p := ⟨w.heap.size + 1, 3, none⟩) (by simp; omega) (by simp)).trans B13
  have b24 : w2.cell? ⟨w.heap.size + 1, 4, none⟩ = some (.string ⟨#[]⟩) := (c2.cell (p := ⟨w.heap.size + 1, 4, none⟩) (by simp; omega) (by simp)).trans B14
  have b25 : w2.cell? ⟨w.heap.size + 1, 5, none⟩ = some (.string ⟨#[]⟩) := (c2.cell (p := ⟨w.heap.size + 1, 5, none⟩) (by simp; omega) (by simp)).trans B15
  have b26 : w2.cell? ⟨w.heap.size + 1, 6, none⟩ = some (.int .i64 0) := (c2.cell (p := ⟨w.heap.size + 1, 6, none⟩) (by simp; omega) (by simp)).trans B16
  have b27 : w2.cell? ⟨w.heap.size + 1, 7, none⟩ = some (.string ⟨#[]⟩) := (c2.cell (p := ⟨w.heap.size + 1, 7, none⟩) (by simp; omega) (by simp)).trans B17
  have b28 : w2.cell? ⟨w.heap.size + 1, 8, none⟩ = some (.int .i64 0) := (c2.cell (p := ⟨w.heap.size + 1, 8, none⟩) (by simp; omega) (by simp)).trans B18
  have b29 : w2.cell? ⟨w.heap.size + 1, 9, none⟩ = some (.slice none 0 0) := (c2.cell (p := ⟨w.heap.size + 1, 9, none⟩) (by simp; omega) (by simp)).trans B19
  have b210 : w2.cell? ⟨w.heap.size + 1, 10, none⟩ = some (.slice none 0 0) := (c2.cell (p := ⟨w.heap.size + 1, 10, none⟩) (by simp; omega) (by simp)).trans B110
  have g2 : ∀ o, w2.cell? ⟨w.heap.size, o, none⟩ = (w.alloc (.cells #[.int .i64 0, .int .i64 0, .int .i64 0, .string ⟨#[]⟩, .string ⟨#[]⟩, .string ⟨#[]⟩, .int .i64 0, .string ⟨#[]⟩, .int .i64 0, .slice none 0 0, .slice none 0 0] 41)).cell? ⟨w.heap.size, o, none⟩ := fun o => (c2.cell (p := ⟨w.heap.size, o, none⟩) (by simp; omega) (by simp)).trans (G1 o)
  have h2 : ∀ o, w2.frozen? ⟨w.heap.size, o, none⟩ = (w.alloc (.cells #[.int .i64 0, .int .i64 0, .int .i64 0, .string ⟨#[]⟩, .string ⟨#[]⟩, .string ⟨#[]⟩, .int .i64 0, .string ⟨#[]⟩, .int .i64 0, .slice none 0 0, .slice none 0 0] 41)).frozen? ⟨w.heap.size, o, none⟩ := fun o => (c2.frozen (p := ⟨w.heap.size, o, none⟩) (by simp; omega) (by simp)).trans (H1 o)
  have f2x : ∀ o, w2.frozen? ⟨w.heap.size + 1, o, none⟩ = false := fun o => (c2.frozen (p := ⟨w.heap.size + 1, o, none⟩) (by simp; omega) (by simp)).trans (F1 o)
  have q02 : w2.cell? ⟨b, off, none⟩ = some (.string x) := (c2.cell (p := ⟨b, off, none⟩) (by simp; omega) (by simp)).trans Q0
  have qm2 : w2.cell? ⟨b, off + (M + 1), none⟩ = some (.string Lw) := (c2.cell (p := ⟨b, off + (M + 1), none⟩) (by simp; omega) (by simp)).trans QM
  have p02 : ∀ o u, (w2.setCell ⟨w.heap.size + 1, o, none⟩ u).cell? ⟨b, off, none⟩ = some (.string x) := fun o u => by rw [World.cell?_setCell_other _ _ _ _ (by first | (simp; done) | (simp; omega))]; exact q02
  have pm2 : ∀ o u, (w2.setCell ⟨w.heap.size + 1, o, none⟩ u).cell? ⟨b, off + (M + 1), none⟩ = some (.string Lw) := fun o u => by rw [World.cell?_setCell_other _ _ _ _ (by first | (simp; done) | (simp; omega))]; exact qm2
  clear c2 B10 B11 B12 B13 B14 B15 B16 B17 B18 B19 B110 G1 H1 F1 Q0 QM s1b JX t1x u1
  go_wp2_with fail
  refine bodyPost_ret (v := .agg #[.int .i64 0, .int .i64 n, .int .i64 0, .string ⟨#[]⟩, .string ⟨#[]⟩, .string ⟨#[]⟩, .int .i64 0, .string ⟨#[]⟩, .int .i64 0, .slice none 0 0, .slice none 0 0]) (by simp only [results, Tryz.results18]; go_simp) rfl ?_
  exact ActIs.of HKH.out ⟨rfl, by repeat (first | with_reducible exact d2 | with_reducible exact Chg.refl _ _ | with_reducible refine Chg.drew ?_ | with_reducible refine Chg.alloc ?_ _ | with_reducible refine Chg.setCell ?_ (.inr (by simp; try omega)) _)⟩
set_option maxRecDepth 100000 in
set_option maxHeartbeats 1000000 in
theorem l8Simple_short (P : List ByteArray) (A : Option Addr) (cap : Nat) (w : World) (h2 : P.length < 2) :
    Calls Tryz.prog 18 #[.slice A P.length cap] w (ActIs (simpleS P) w) := by
  have HS := Lib.hid (simpleS_short h2)
  go_enter Tryz.func18, Tryz.ntmps18
  go_wp2_with fail
  refine bodyPost_ret (v := .agg #[.int .i64 0, .int .i64 0, .int .i64 0, .string ⟨#[]⟩, .string ⟨#[]⟩, .string ⟨#[]⟩, .int .i64 0, .string ⟨#[]⟩, .int .i64 0, .slice none 0 0, .slice none 0 0]) (by simp only [results, Tryz.results18]; go_simp) rfl ?_
  exact ActIs.of HS.out ⟨rfl, by repeat (first | with_reducible exact Chg.refl _ _ | with_reducible exact Chg.refl _ _ | with_reducible refine Chg.drew ?_ | with_reducible refine Chg.alloc ?_ _ | with_reducible refine Chg.setCell ?_ (.inr (by simp; try omega)) _)⟩
theorem l8Simple_any (P : List ByteArray) (u : Value) (B : Nat) (w : World) (hr : Rd w B (strs P) u) (hB : B ≤ w.heap.size) (hT : tot P ≤ 700) :
    Calls Tryz.prog 18 #[u] w (ActIs (simpleS P) w) := by
  obtain ⟨A, cap, rfl, hcap, _, hrow⟩ := strs_row hr
  by_cases h2 : P.length < 2
  · exact l8Simple_short P A cap w h2
  · match P, h2 with
    | [], h2 => exact absurd (by simp) h2
    | [_], h2 => exact absurd (by simp) h2
    | x :: y :: ws, _ =>
      obtain ⟨b, off, rfl, hb, q0⟩ := strs_cells hrow 0 (by simp)
      obtain ⟨b1, off1, e1, _, q1⟩ := strs_cells hrow 1 (by simp)
      cases e1
      obtain ⟨b2, off2, e2, _, qm⟩ := strs_cells hrow (ws.length + 1) (by simp)
      cases e2
      have q0 : w.cell? ⟨b, off, none⟩ = some (.string x) := q0
      have q1 : w.cell? ⟨b, off + 1, none⟩ = some (.string y) := q1
      have hL : (x :: y :: ws)[ws.length + 1]'(by simp) = (x :: y :: ws).getLastD noB := by
        rw [List.getLastD_eq_getLast?, List.getLast?_eq_getElem?, show (x :: y :: ws).length - 1 = ws.length + 1 by simp, List.getElem?_eq_getElem (by simp)]
        rfl
      have zl := tot_mem (List.getElem_mem (show ws.length + 1 < (x :: y :: ws).length by simp))
      rw [hL] at qm zl
      rw [tot_cons, tot_cons] at hT zl
      have zR := joinB_tot ws
      have SR := sub_rd (i := 2) (j := (x :: y :: ws).length) hr (by simp) (Nat.le_refl _)
      rw [List.take_length] at SR
      have SR : Rd w B (strs ws) (subV (some ⟨b, off, none⟩) cap 2 (x :: y :: ws).length) := SR
      have SLW := fun W => sub_l (some ⟨b, off, none⟩) (x :: y :: ws).length cap 2 W (by simp)
      obtain ⟨A3, n3, c3v, hsv⟩ : ∃ A3 n3 c3, subV (some ⟨b, off, none⟩) cap 2 (x :: y :: ws).length = .slice A3 n3 c3 := ⟨_, _, _, rfl⟩
      rw [hsv] at SLW SR
      have hS : SimpH w b off ws.length cap x y ((x :: y :: ws).getLastD noB) (joinB ws spB) A3 n3 c3v ((parseNum y).getD 0) (parseNum y).isSome :=
        ⟨q0, q1, qm, by omega, by have := tot_len ws; omega, hcap, fun W => parseNumber_spec_any y W (by omega),
          fun W hc => joinWith_spec_any ws spB _ B W (by have := tot_len ws; omega) (by decide) (by have := tot_W1 ws; omega) (SR.chg0 hc hB) (by have := hc.size; omega), SLW⟩
      have LST : (wordT 4 :: y :: ws).getLastD noB = (x :: y :: ws).getLastD noB := by cases ws <;> rfl
      have K4 := simpleS_4 (y := y) (ws := ws)
      rw [LST] at K4
      show Calls Tryz.prog 18 #[.slice (some ⟨b, off, none⟩) (ws.length + 2) cap] w (ActIs (simpleS (x :: y :: ws)) w)
      rcases wordCases x with (h | h | h | h | h | h | h) | ⟨n1, n2x, n3x, n4x, n5x, n6x, n7x⟩
      · have HK := simpleS_1 (y := y) (ws := ws)
        rw [← h] at HK
        rw [HK]
        exact l8Simple_1 hS h
      · have HK := simpleS_2 (y := y) (ws := ws)
        rw [← h] at HK
        rw [HK]
        exact l8Simple_2 hS h
      · have HK := simpleS_3 (y := y) (ws := ws)
        rw [← h] at HK
        rw [HK]
        exact l8Simple_3 hS h
      · rw [← h] at K4
        rw [K4]
        exact l8Simple_4 hS (fun W => parseNumber_spec_any _ W (by omega)) h
      · have HK := simpleS_5 (y := y) (ws := ws)
        rw [← h] at HK
        rw [HK]
        exact l8Simple_5 hS h
      · have HK := simpleS_6 (y := y) (ws := ws)
        rw [← h] at HK
        rw [HK]
        exact l8Simple_6 hS (fun W => parseFace_spec_any _ W) h
      · have HK := simpleS_7 (y := y) (ws := ws)
        rw [← h] at HK
        rw [HK]
        exact l8Simple_7 hS (fun W => parseCall_spec_any _ W (by omega)) h
      · rw [simpleS_0 n1 n2x n3x n4x n5x n6x n7x]
        exact l8Simple_0 hS n1 n2x n3x n4x n5x n6x n7x
end Go.Proofs.YtldpibnfhomfgaaGreatDoor
