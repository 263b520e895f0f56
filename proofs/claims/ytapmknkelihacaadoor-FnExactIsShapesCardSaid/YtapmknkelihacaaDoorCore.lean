/- IsCore of both packages. -/
import Derived.Test.YtapmknkelihacaaDoorCells
namespace Go.Proofs.YtapmknkelihacaaDoor
open Go.RowKit

def CoreOk (p : CoreT) : Prop := ∃ f, kindOf p.kind = some f ∧ CellsOk p.cells ∧ (0 < p.cells.length → has f 1 = true) ∧ IsNum p.count ∧ ¬ (p.on = true ∧ p.broken = true) ∧ (has f 0 = true ∨ (p.on = false ∧ p.broken = false))
theorem look_mem {α : Type} {s : List UInt8} {x : α} : ∀ {l : List (List UInt8 × α)}, look s l = some x → ∃ n, (n, x) ∈ l
  | [], h => by simp [look] at h
  | (n, y) :: r, h => by
    rw [look] at h
    split at h
    · cases h; exact ⟨n, by simp⟩
    · obtain ⟨m, hm⟩ := look_mem h
      exact ⟨m, by simp [hm]⟩
theorem kindOf_face {s : ByteArray} {f : Int} (h : kindOf s = some f) : IsF f := by
  obtain ⟨n, hn⟩ := look_mem h
  have : ∀ y ∈ kinds, IsF y.2 := by unfold IsF; decide
  exact this _ hn
theorem layerOf_face {s : ByteArray} {x : Int × Int} (h : layerOf s = some x) : IsF x.1 ∧ IsF x.2 := by
  obtain ⟨n, hn⟩ := look_mem h
  have : ∀ y ∈ layerTab, IsF y.2.1 ∧ IsF y.2.2 := by unfold IsF; decide
  exact this _ hn
theorem and2_bits : ∀ f : Fin 64, (bits .and .i64 ((f.1 : Nat) : Int) 2 == 0) = !(has ((f.1 : Nat) : Int) 1) := by decide +kernel
theorem and1_bits : ∀ f : Fin 64, (bits .and .i64 ((f.1 : Nat) : Int) 1 == 1) = has ((f.1 : Nat) : Int) 0 := by decide +kernel
theorem and2 {f : Int} (h : IsF f) : (bits .and .i64 f 2 == 0) = !(has f 1) := by
  obtain ⟨h0, h1⟩ := h
  have := and2_bits ⟨f.toNat, by omega⟩
  simpa only [Int.toNat_of_nonneg h0] using this
theorem and1 {f : Int} (h : IsF f) : (bits .and .i64 f 1 == 1) = has f 0 := by
  obtain ⟨h0, h1⟩ := h
  have := and1_bits ⟨f.toNat, by omega⟩
  simpa only [Int.toNat_of_nonneg h0] using this
theorem coreOk_none {p : CoreT} (h : kindOf p.kind = none) : ¬ CoreOk p := by
  rintro ⟨f, hf, _⟩
  rw [h] at hf
  cases hf
theorem coreOk_some {p : CoreT} {f : Int} (h : kindOf p.kind = some f) : CoreOk p ↔ (CellsOk p.cells ∧ (0 < p.cells.length → has f 1 = true) ∧ IsNum p.count ∧ ¬ (p.on = true ∧ p.broken = true) ∧ (has f 0 = true ∨ (p.on = false ∧ p.broken = false))) := by
  constructor
  · rintro ⟨g, hg, r⟩
    rw [h] at hg
    cases hg
    exact r
  · exact fun r => ⟨f, h, r⟩
theorem OptIs.some_ {o : Option Int} {f : Int} {w : World} (h : o = some f) (e : Ending) (w' : World) (hb : OptIs o w e w') : e = .returned (.tuple #[.int .i64 f, .bool true]) ∧ w' = w := by subst h; exact hb
theorem OptIs.none_ {o : Option Int} {w : World} (h : o = none) (e : Ending) (w' : World) (hb : OptIs o w e w') : e = .returned (.tuple #[.int .i64 0, .bool false]) ∧ w' = w := by subst h; exact hb
theorem OptPost.some_ {o : Option Int} {f : Int} {w : World} (h : o = some f) (e : Ending) (w' : World) (hb : OptPost o w e w') : e = .returned (.tuple #[.int .i64 f, .bool true]) ∧ Chg [] w w' := by subst h; exact hb
theorem OptPost.none_ {o : Option Int} {w : World} (h : o = none) (e : Ending) (w' : World) (hb : OptPost o w e w') : e = .returned (.tuple #[.int .i64 0, .bool false]) ∧ Chg [] w w' := by subst h; exact hb
theorem BoolIs.eq_ {p : Prop} {w : World} (b : Bool) (h : p = (b = true)) (e : Ending) (w' : World) (hb : BoolIs p w e w') : e = .returned (.bool b) ∧ w' = w := by
  obtain ⟨t, rfl, ht, c⟩ := hb
  refine ⟨?_, c⟩
  subst h
  cases t <;> cases b <;> simp_all

set_option maxRecDepth 100000 in
set_option maxHeartbeats 4000000 in
theorem isCore_impl_any (p : CoreT) (u3 : Value) (B : Nat) (w : World) (r : Rd w B (cells p.cells) u3) (hB : B ≤ w.heap.size) (hl : p.cells.length ≤ 1048576) (hs : ∀ c ∈ p.cells, c.key.size ≤ 1048576) :
    Calls Tryd.prog 94 #[.agg #[.string p.kind, .bool p.on, .bool p.broken, u3, .int .i64 p.count]] w (BoolPost (CoreOk p) w) := by
  obtain ⟨A, cap, rfl, h0, h1, hrow⟩ := cells_row r
  unfold maxLen at h1
  have tt : w.heap.size < w.heap.size + 1 := Nat.lt_succ_self _
  cases hk : kindOf p.kind with
  | none =>
    have KF := Lib.hid (fun W => (kindFace_impl_any p.kind W).mono (OptIs.none_ hk))
    have CA := Lib.hid (coreOk_none hk)
    clear hk
    go_enter Tryd.func94, Tryd.ntmps94
    go_wp2_with fail
    refine (KF.out _).mono ?_
    rintro e w1 ⟨rfl, rfl⟩
    go_wp2_with fail
    go_ret
    exact ⟨_, rfl, ⟨fun h => by simp at h, fun h => (CA.out h).elim⟩, (Chg.refl _ _).alloc _⟩
  | some f =>
    have KF := Lib.hid (fun W => (kindFace_impl_any p.kind W).mono (OptIs.some_ hk))
    have hf := kindOf_face hk
    have hb1 := and1 hf
    have hb2 := and2 hf
    have IFF := Lib.hid (coreOk_some hk)
    clear hk hf
    by_cases n1 : CellsOk p.cells
    · have CC := Lib.hid (fun W (hW : Chg [] w W) => (isCells_impl_any p.cells _ B W (r.chg0 hW hB) (by have := hW.size; omega) hl hs).mono (BoolPost.pos n1))
      have N1 := Lib.hid n1
      clear n1
      go_enter Tryd.func94, Tryd.ntmps94
      go_wp2_with fail
      refine (KF.out _).mono ?_
      rintro e w1 ⟨rfl, rfl⟩
      go_wp2_with fail
      refine (CC.out _ ((Chg.refl _ _).alloc _)).mono ?_
      rintro e w2 ⟨rfl, c2⟩
      have x1 : w2.cell? ⟨w.heap.size, 1, none⟩ = some (.bool p.on) := (c2.cell (p := ⟨w.heap.size, 1, none⟩) (by simp) (by simp)).trans (by go_simp)
      have x2 : w2.cell? ⟨w.heap.size, 2, none⟩ = some (.bool p.broken) := (c2.cell (p := ⟨w.heap.size, 2, none⟩) (by simp) (by simp)).trans (by go_simp)
      have x3 : w2.cell? ⟨w.heap.size, 3, none⟩ = some (.slice A p.cells.length cap) := (c2.cell (p := ⟨w.heap.size, 3, none⟩) (by simp) (by simp)).trans (by go_simp)
      have x4 : w2.cell? ⟨w.heap.size, 4, none⟩ = some (.int .i64 p.count) := (c2.cell (p := ⟨w.heap.size, 4, none⟩) (by simp) (by simp)).trans (by go_simp)
      have E : Chg [] w w2 := ((Chg.refl _ _).alloc _).trans0 c2
      by_cases n0 : 0 < p.cells.length
      · cases hH : has f 1
        · have CA : Hid (¬ CoreOk p) := Lib.hid (fun h => by have := (IFF.out.1 h).2.1 n0; rw [hH] at this; cases this)
          simp only [hH] at hb2
          go_wp2_with fail
          go_ret
          exact ⟨_, rfl, ⟨fun h => by simp at h, fun h => (CA.out h).elim⟩, E⟩
        · simp only [hH] at hb2
          by_cases n2 : IsNum p.count
          · have NU := Lib.hid (fun W => (isNumber_any p.count W).mono (BoolIs.pos n2))
            have N2 := Lib.hid n2
            clear n2
            go_wp2_with fail
            refine (NU.out _).mono ?_
            rintro e w3 ⟨rfl, rfl⟩
            cases hO : p.on <;> cases hR : p.broken <;> cases hF : has f 0
            all_goals
              simp only [hO, hR, hF] at x1 x2 hb1
              go_wp2_with fail
              go_ret
              refine ⟨_, rfl, ?_, E⟩
              rw [IFF.out]
              simp [N1.out, N2.out, hO, hR, hF, n0, hH]

          · have NU := Lib.hid (fun W => (isNumber_any p.count W).mono (BoolIs.neg n2))
            have CA : Hid (¬ CoreOk p) := Lib.hid (fun h => n2 (IFF.out.1 h).2.2.1)
            clear n2
            go_wp2_with fail
            refine (NU.out _).mono ?_
            rintro e w3 ⟨rfl, rfl⟩
            go_wp2_with fail
            go_ret
            exact ⟨_, rfl, ⟨fun h => by simp at h, fun h => (CA.out h).elim⟩, E⟩

      · have hH : (p.cells.length : Int) = 0 := by omega
        have hz : p.cells.length = 0 := by omega
        by_cases n2 : IsNum p.count
        · have NU := Lib.hid (fun W => (isNumber_any p.count W).mono (BoolIs.pos n2))
          have N2 := Lib.hid n2
          clear n2
          go_wp2_with fail
          refine (NU.out _).mono ?_
          rintro e w3 ⟨rfl, rfl⟩
          cases hO : p.on <;> cases hR : p.broken <;> cases hF : has f 0
          all_goals
            simp only [hO, hR, hF] at x1 x2 hb1
            go_wp2_with fail
            go_ret
            refine ⟨_, rfl, ?_, E⟩
            rw [IFF.out]
            simp [N1.out, N2.out, hO, hR, hF, hz]

        · have NU := Lib.hid (fun W => (isNumber_any p.count W).mono (BoolIs.neg n2))
          have CA : Hid (¬ CoreOk p) := Lib.hid (fun h => n2 (IFF.out.1 h).2.2.1)
          clear n2
          go_wp2_with fail
          refine (NU.out _).mono ?_
          rintro e w3 ⟨rfl, rfl⟩
          go_wp2_with fail
          go_ret
          exact ⟨_, rfl, ⟨fun h => by simp at h, fun h => (CA.out h).elim⟩, E⟩

    · have CC := Lib.hid (fun W (hW : Chg [] w W) => (isCells_impl_any p.cells _ B W (r.chg0 hW hB) (by have := hW.size; omega) hl hs).mono (BoolPost.neg n1))
      have CA : Hid (¬ CoreOk p) := Lib.hid (fun h => n1 (IFF.out.1 h).1)
      clear n1
      go_enter Tryd.func94, Tryd.ntmps94
      go_wp2_with fail
      refine (KF.out _).mono ?_
      rintro e w1 ⟨rfl, rfl⟩
      go_wp2_with fail
      refine (CC.out _ ((Chg.refl _ _).alloc _)).mono ?_
      rintro e w2 ⟨rfl, c2⟩
      go_wp2_with fail
      go_ret
      exact ⟨_, rfl, ⟨fun h => by simp at h, fun h => (CA.out h).elim⟩, ((Chg.refl _ _).alloc _).trans0 c2⟩
set_option maxRecDepth 100000 in
set_option maxHeartbeats 4000000 in
theorem isCore_spec_any (p : CoreT) (u3 : Value) (B : Nat) (w : World) (r : Rd w B (cells p.cells) u3) (hB : B ≤ w.heap.size) (hl : p.cells.length ≤ 1048576) (hs : ∀ c ∈ p.cells, c.key.size ≤ 1048576) :
    Calls Tryd.prog 90 #[.agg #[.string p.kind, .bool p.on, .bool p.broken, u3, .int .i64 p.count]] w (BoolPost (CoreOk p) w) := by
  obtain ⟨A, cap, rfl, h0, h1, hrow⟩ := cells_row r
  unfold maxLen at h1
  have tt : w.heap.size < w.heap.size + 1 := Nat.lt_succ_self _
  cases hk : kindOf p.kind with
  | none =>
    have KF := Lib.hid (fun W => (kindFace_spec_any p.kind W).mono (OptPost.none_ hk))
    have L0 := Lib.hid (fun W => (l2Has_any 0 0 W (by unfold IsF; omega) (by omega)).mono (BoolIs.neg (by decide)))
    have CA := Lib.hid (coreOk_none hk)
    clear hk
    go_enter Tryd.func90, Tryd.ntmps90
    go_wp2_with fail
    refine (KF.out _).mono ?_
    rintro e w1 ⟨rfl, c1⟩
    go_wp2_with fail
    refine (L0.out _).mono ?_
    rintro e w2 ⟨rfl, rfl⟩
    go_wp2_with fail
    go_ret
    exact ⟨_, rfl, ⟨fun h => by simp at h, fun h => (CA.out h).elim⟩, ((Chg.refl _ _).alloc _).trans0 c1⟩
  | some f =>
    have KF := Lib.hid (fun W => (kindFace_spec_any p.kind W).mono (OptPost.some_ hk))
    have hf := kindOf_face hk
    have L0 : Hid (∀ W, Calls Tryd.prog 36 #[.int .i64 f, .int .i64 0] W fun e w' => e = .returned (.bool (has f 0)) ∧ w' = W) := Lib.hid (fun W => (l2Has_any f 0 W hf (by omega)).mono (BoolIs.eq_ (has f 0) rfl))
    have L1 : Hid (∀ W, Calls Tryd.prog 36 #[.int .i64 f, .int .i64 1] W fun e w' => e = .returned (.bool (has f 1)) ∧ w' = W) := Lib.hid (fun W => (l2Has_any f 1 W hf (by omega)).mono (BoolIs.eq_ (has f 1) rfl))
    have IFF := Lib.hid (coreOk_some hk)
    clear hk hf
    by_cases n1 : CellsOk p.cells
    · have CC := Lib.hid (fun W (hW : Chg [] w W) => (isCells_spec_any p.cells _ B W (r.chg0 hW hB) (by have := hW.size; omega) hl hs).mono (BoolPost.pos n1))
      have N1 := Lib.hid n1
      clear n1
      go_enter Tryd.func90, Tryd.ntmps90
      go_wp2_with fail
      refine (KF.out _).mono ?_
      rintro e w1 ⟨rfl, c1⟩
      have w1x1 : w1.cell? ⟨w.heap.size, 1, none⟩ = some (.bool p.on) := (c1.cell (p := ⟨w.heap.size, 1, none⟩) (by simp) (by simp)).trans (by go_simp)
      have w1x2 : w1.cell? ⟨w.heap.size, 2, none⟩ = some (.bool p.broken) := (c1.cell (p := ⟨w.heap.size, 2, none⟩) (by simp) (by simp)).trans (by go_simp)
      have w1x3 : w1.cell? ⟨w.heap.size, 3, none⟩ = some (.slice A p.cells.length cap) := (c1.cell (p := ⟨w.heap.size, 3, none⟩) (by simp) (by simp)).trans (by go_simp)
      have w1x4 : w1.cell? ⟨w.heap.size, 4, none⟩ = some (.int .i64 p.count) := (c1.cell (p := ⟨w.heap.size, 4, none⟩) (by simp) (by simp)).trans (by go_simp)
      have tw : w.heap.size < w1.heap.size := by have := c1.size; simp at this; omega
      have E1 : Chg [] w w1 := ((Chg.refl _ _).alloc _).trans0 c1
      go_wp2_with fail
      refine (L0.out _).mono ?_
      rintro e w2 ⟨rfl, rfl⟩
      go_wp2_with fail
      refine (CC.out _ E1).mono ?_
      rintro e w3 ⟨rfl, c3⟩
      have w3x1 : w3.cell? ⟨w.heap.size, 1, none⟩ = some (.bool p.on) := (c3.cell (p := ⟨w.heap.size, 1, none⟩) tw (by simp)).trans (w1x1)
      have w3x2 : w3.cell? ⟨w.heap.size, 2, none⟩ = some (.bool p.broken) := (c3.cell (p := ⟨w.heap.size, 2, none⟩) tw (by simp)).trans (w1x2)
      have w3x3 : w3.cell? ⟨w.heap.size, 3, none⟩ = some (.slice A p.cells.length cap) := (c3.cell (p := ⟨w.heap.size, 3, none⟩) tw (by simp)).trans (w1x3)
      have w3x4 : w3.cell? ⟨w.heap.size, 4, none⟩ = some (.int .i64 p.count) := (c3.cell (p := ⟨w.heap.size, 4, none⟩) tw (by simp)).trans (w1x4)
      by_cases n0 : 0 < p.cells.length
      · cases hH : has f 1
        · have CA : Hid (¬ CoreOk p) := Lib.hid (fun h => by have := (IFF.out.1 h).2.1 n0; rw [hH] at this; cases this)
          simp only [hH] at L1
          go_wp2_with fail
          refine (L1.out _).mono ?_
          rintro e w4 ⟨rfl, rfl⟩
          go_wp2_with fail
          go_ret
          exact ⟨_, rfl, ⟨fun h => by simp at h, fun h => (CA.out h).elim⟩, E1.trans0 c3⟩
        · simp only [hH] at L1
          go_wp2_with fail
          refine (L1.out _).mono ?_
          rintro e w4 ⟨rfl, rfl⟩
          by_cases n2 : IsNum p.count
          · have v1 : 0 ≤ p.count := n2.1
            have v2 : p.count ≤ 999 := n2.2
            have N2 := Lib.hid n2
            clear n2
            have hh0 : has f 0 = has f 0 := rfl
            cases hO : p.on <;> cases hR : p.broken <;> cases hF : has f 0
            all_goals
              simp only [hO, hR, hF] at w3x1 w3x2 hh0
              go_wp2_with fail
              go_ret
              refine ⟨_, rfl, ?_, E1.trans0 c3⟩
              rw [IFF.out]
              simp [N1.out, N2.out, hO, hR, hF, n0, hH]

          · have CA : Hid (¬ CoreOk p) := Lib.hid (fun h => n2 (IFF.out.1 h).2.2.1)
            have v1 : ¬ (0 ≤ p.count ∧ p.count ≤ 999) := n2
            clear n2
            by_cases v2 : p.count < 0
            · clear v1
              go_wp2_with fail
              go_ret
              exact ⟨_, rfl, ⟨fun h => by simp at h, fun h => (CA.out h).elim⟩, E1.trans0 c3⟩
            · have v3 : 0 ≤ p.count := by omega
              have v4 : 999 < p.count := by omega
              clear v1 v2
              go_wp2_with fail
              go_ret
              exact ⟨_, rfl, ⟨fun h => by simp at h, fun h => (CA.out h).elim⟩, E1.trans0 c3⟩

      · have hH : (p.cells.length : Int) = 0 := by omega
        have hz : p.cells.length = 0 := by omega
        by_cases n2 : IsNum p.count
        · have v1 : 0 ≤ p.count := n2.1
          have v2 : p.count ≤ 999 := n2.2
          have N2 := Lib.hid n2
          clear n2
          have hh0 : has f 0 = has f 0 := rfl
          cases hO : p.on <;> cases hR : p.broken <;> cases hF : has f 0
          all_goals
            simp only [hO, hR, hF] at w3x1 w3x2 hh0
            go_wp2_with fail
            go_ret
            refine ⟨_, rfl, ?_, E1.trans0 c3⟩
            rw [IFF.out]
            simp [N1.out, N2.out, hO, hR, hF, hz]

        · have CA : Hid (¬ CoreOk p) := Lib.hid (fun h => n2 (IFF.out.1 h).2.2.1)
          have v1 : ¬ (0 ≤ p.count ∧ p.count ≤ 999) := n2
          clear n2
          by_cases v2 : p.count < 0
          · clear v1
            go_wp2_with fail
            go_ret
            exact ⟨_, rfl, ⟨fun h => by simp at h, fun h => (CA.out h).elim⟩, E1.trans0 c3⟩
          · have v3 : 0 ≤ p.count := by omega
            have v4 : 999 < p.count := by omega
            clear v1 v2
            go_wp2_with fail
            go_ret
            exact ⟨_, rfl, ⟨fun h => by simp at h, fun h => (CA.out h).elim⟩, E1.trans0 c3⟩

    · have CC := Lib.hid (fun W (hW : Chg [] w W) => (isCells_spec_any p.cells _ B W (r.chg0 hW hB) (by have := hW.size; omega) hl hs).mono (BoolPost.neg n1))
      have CA : Hid (¬ CoreOk p) := Lib.hid (fun h => n1 (IFF.out.1 h).1)
      clear n1
      go_enter Tryd.func90, Tryd.ntmps90
      go_wp2_with fail
      refine (KF.out _).mono ?_
      rintro e w1 ⟨rfl, c1⟩
      have w1x1 : w1.cell? ⟨w.heap.size, 1, none⟩ = some (.bool p.on) := (c1.cell (p := ⟨w.heap.size, 1, none⟩) (by simp) (by simp)).trans (by go_simp)
      have w1x2 : w1.cell? ⟨w.heap.size, 2, none⟩ = some (.bool p.broken) := (c1.cell (p := ⟨w.heap.size, 2, none⟩) (by simp) (by simp)).trans (by go_simp)
      have w1x3 : w1.cell? ⟨w.heap.size, 3, none⟩ = some (.slice A p.cells.length cap) := (c1.cell (p := ⟨w.heap.size, 3, none⟩) (by simp) (by simp)).trans (by go_simp)
      have w1x4 : w1.cell? ⟨w.heap.size, 4, none⟩ = some (.int .i64 p.count) := (c1.cell (p := ⟨w.heap.size, 4, none⟩) (by simp) (by simp)).trans (by go_simp)
      have tw : w.heap.size < w1.heap.size := by have := c1.size; simp at this; omega
      have E1 : Chg [] w w1 := ((Chg.refl _ _).alloc _).trans0 c1
      go_wp2_with fail
      refine (L0.out _).mono ?_
      rintro e w2 ⟨rfl, rfl⟩
      go_wp2_with fail
      refine (CC.out _ E1).mono ?_
      rintro e w3 ⟨rfl, c3⟩
      go_wp2_with fail
      go_ret
      exact ⟨_, rfl, ⟨fun h => by simp at h, fun h => (CA.out h).elim⟩, E1.trans0 c3⟩

end Go.Proofs.YtapmknkelihacaaDoor
