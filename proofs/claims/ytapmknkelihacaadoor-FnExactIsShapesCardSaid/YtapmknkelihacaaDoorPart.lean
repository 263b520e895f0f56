/- The face of a part below a layer, IsPart, of both packages. Written by a program. -/
import Derived.Test.YtapmknkelihacaaDoorCore
namespace Go.Proofs.YtapmknkelihacaaDoor
open Go.RowKit
/-- The face of a part without the layers from k on. -/
def faceAt (p : PartT) (k : Nat) : Int := if k = 0 then (kindOf p.core.kind).getD 0 else ((p.layers[k - 1]?.bind fun x => layerOf x.name).getD (0, 0)).2
theorem faceAt_zero (p : PartT) : faceAt p 0 = (kindOf p.core.kind).getD 0 := rfl
theorem faceAt_pos (p : PartT) (k : Nat) (h0 : 0 < k) (h : k - 1 < p.layers.length) : faceAt p k = ((layerOf p.layers[k - 1].name).getD (0, 0)).2 := by
  unfold faceAt
  rw [if_neg (by omega), List.getElem?_eq_getElem h]
  rfl
def IntPost (n : Int) (w : World) (e : Ending) (w' : World) : Prop := e = .returned (.int .i64 n) ∧ Chg [] w w'
def LayerAt (p : PartT) (k : Nat) (h : k < p.layers.length) : Prop := ∃ x, layerOf p.layers[k].name = some x ∧ Offer (faceAt p k) x.1 ∧ IsNum p.layers[k].count ∧ (p.layers[k].count = 0 ∨ p.layers[k].name.toList = [99, 111, 117, 110, 116, 115] ∨ p.layers[k].name.toList = [104, 101, 97, 114, 115])
def PartOk (p : PartT) : Prop := CoreOk p.core ∧ p.layers.length ≤ 3 ∧ ∀ (k : Nat) (h : k < p.layers.length), LayerAt p k h
theorem layerAt_none {p : PartT} {k : Nat} {h : k < p.layers.length} (hx : layerOf p.layers[k].name = none) : ¬ LayerAt p k h := by
  rintro ⟨x, hf, _⟩
  rw [hx] at hf
  cases hf
theorem layerAt_some {p : PartT} {k : Nat} {h : k < p.layers.length} {x : Int × Int} (hx : layerOf p.layers[k].name = some x) : LayerAt p k h ↔ (Offer (faceAt p k) x.1 ∧ IsNum p.layers[k].count ∧ (p.layers[k].count = 0 ∨ p.layers[k].name.toList = [99, 111, 117, 110, 116, 115] ∨ p.layers[k].name.toList = [104, 101, 97, 114, 115])) := by
  constructor
  · rintro ⟨g, hg, r⟩
    rw [hx] at hg
    cases hg
    exact r
  · exact fun r => ⟨x, hx, r⟩
theorem Opt2Is.some_ {o : Option (Int × Int)} {f : Int × Int} {w : World} (h : o = some f) (e : Ending) (w' : World) (hb : Opt2Is o w e w') : e = .returned (.tuple #[.int .i64 f.1, .int .i64 f.2, .bool true]) ∧ w' = w := by subst h; exact hb
theorem Opt2Is.none_ {o : Option (Int × Int)} {w : World} (h : o = none) (e : Ending) (w' : World) (hb : Opt2Is o w e w') : e = .returned (.tuple #[.int .i64 0, .int .i64 0, .bool false]) ∧ w' = w := by subst h; exact hb
theorem OptPost.map1_some {o : Option (Int × Int)} {f : Int × Int} {w : World} (h : o = some f) (e : Ending) (w' : World) (hb : OptPost (o.map (·.1)) w e w') : e = .returned (.tuple #[.int .i64 f.1, .bool true]) ∧ Chg [] w w' := by subst h; exact hb
theorem OptPost.map1_none {o : Option (Int × Int)} {w : World} (h : o = none) (e : Ending) (w' : World) (hb : OptPost (o.map (·.1)) w e w') : e = .returned (.tuple #[.int .i64 0, .bool false]) ∧ Chg [] w w' := by subst h; exact hb
/-- A block that holds a part. -/
def PartBox (W : World) (g : Nat) (a0 a1 a2 a3 a4 a5 : Value) : Prop := W.cell? ⟨g, 0, none⟩ = some a0 ∧ W.cell? ⟨g, 1, none⟩ = some a1 ∧ W.cell? ⟨g, 2, none⟩ = some a2 ∧ W.cell? ⟨g, 3, none⟩ = some a3 ∧ W.cell? ⟨g, 4, none⟩ = some a4 ∧ W.cell? ⟨g, 5, none⟩ = some a5
theorem PartBox.keep {W W' : World} {g : Nat} {a0 a1 a2 a3 a4 a5 : Value} (h : PartBox W g a0 a1 a2 a3 a4 a5) (hc : Chg [] W W') (hg : g < W.heap.size) : PartBox W' g a0 a1 a2 a3 a4 a5 := by
  obtain ⟨h0, h1, h2, h3, h4, h5⟩ := h
  exact ⟨(hc.cell (p := ⟨g, 0, none⟩) hg (by simp)).trans h0, (hc.cell (p := ⟨g, 1, none⟩) hg (by simp)).trans h1, (hc.cell (p := ⟨g, 2, none⟩) hg (by simp)).trans h2, (hc.cell (p := ⟨g, 3, none⟩) hg (by simp)).trans h3, (hc.cell (p := ⟨g, 4, none⟩) hg (by simp)).trans h4, (hc.cell (p := ⟨g, 5, none⟩) hg (by simp)).trans h5⟩
theorem PartBox.new (w : World) (e : TypeId) (a0 a1 a2 a3 a4 a5 : Value) : PartBox (w.alloc (.cells #[a0, a1, a2, a3, a4, a5] e)) w.heap.size a0 a1 a2 a3 a4 a5 :=
  ⟨cell_lit _ _ _ rfl, cell_lit _ _ _ rfl, cell_lit _ _ _ rfl, cell_lit _ _ _ rfl, cell_lit _ _ _ rfl, cell_lit _ _ _ rfl⟩
set_option maxRecDepth 100000 in
set_option maxHeartbeats 1000000 in
theorem faceBelow_any (p : PartT) (k : Nat) (u3 u5 : Value) (B : Nat) (w : World) (r5 : Rd w B (layers p.layers) u5) (hB : B ≤ w.heap.size) (hk : k ≤ p.layers.length) :
    Calls Tryd.prog 75 #[.agg #[.string p.core.kind, .bool p.core.on, .bool p.core.broken, u3, .int .i64 p.core.count, u5], .int .i64 k] w (IntPost (faceAt p k) w) := by
  obtain ⟨A, cap, rfl, h0, h1, hrow⟩ := layers_row r5
  unfold maxLen at h1
  clear r5
  have tt : w.heap.size < w.heap.size + 1 := Nat.lt_succ_self _
  by_cases hk0 : k = 0
  · subst hk0
    go_enter Tryd.func75, Tryd.ntmps75
    go_wp2_with fail
    refine (kindFace_impl_any p.core.kind _).mono ?_
    rintro e w1 ⟨rfl, rfl⟩
    go_wp2_with fail
    go_ret
    exact ⟨rfl, (Chg.refl _ _).alloc _⟩
  · have hk1 : ((k : Int) == 0) = false := by simp; omega
    have hlt : k - 1 < p.layers.length := by omega
    obtain ⟨b, off, rfl, hb, q0, q1⟩ := layers_cells hrow (k - 1) hlt
    have hbw : b < w.heap.size := by omega
    have hne : b ≠ w.heap.size := by omega
    have hi0 : (0 : Int) ≤ (k : Int) - 1 := by omega
    have hi1 : (k : Int) - 1 < (p.layers.length : Int) := by omega
    have hkN : ((k : Int) - 1).toNat = k - 1 := by omega
    have hkz : (k : Int) ≠ 0 := by omega
    go_enter Tryd.func75, Tryd.ntmps75
    go_wp2_with fail
    refine (layerFaces_impl_any p.layers[k - 1].name _).mono ?_
    rintro e w1 ⟨rfl, rfl⟩
    go_wp2_with fail
    go_ret
    refine ⟨?_, (Chg.refl _ _).alloc _⟩
    rw [faceAt_pos p k (by omega) hlt]
    exact rfl
set_option maxRecDepth 100000 in
set_option maxHeartbeats 1000000 in
theorem l4Face_any (p : PartT) (k : Nat) (u3 u5 : Value) (B : Nat) (w : World) (r5 : Rd w B (layers p.layers) u5) (hB : B ≤ w.heap.size) (hk : k ≤ p.layers.length) :
    Calls Tryd.prog 69 #[.agg #[.string p.core.kind, .bool p.core.on, .bool p.core.broken, u3, .int .i64 p.core.count, u5], .int .i64 k] w (IntPost (faceAt p k) w) := by
  obtain ⟨A, cap, rfl, h0, h1, hrow⟩ := layers_row r5
  unfold maxLen at h1
  clear r5
  have tt : w.heap.size < w.heap.size + 1 := Nat.lt_succ_self _
  by_cases hk0 : k = 0
  · subst hk0
    go_enter Tryd.func69, Tryd.ntmps69
    go_wp2_with fail
    refine (kindFace_spec_any p.core.kind _).mono ?_
    rintro e w1 ⟨rfl, c1⟩
    go_wp2_with fail
    go_ret
    exact ⟨rfl, ((Chg.refl _ _).alloc _).trans0 c1⟩
  · have hk1 : ((k : Int) == 0) = false := by simp; omega
    have hlt : k - 1 < p.layers.length := by omega
    obtain ⟨b, off, rfl, hb, q0, q1⟩ := layers_cells hrow (k - 1) hlt
    have hbw : b < w.heap.size := by omega
    have hne : b ≠ w.heap.size := by omega
    have hi0 : (0 : Int) ≤ (k : Int) - 1 := by omega
    have hi1 : (k : Int) - 1 < (p.layers.length : Int) := by omega
    have hkN : ((k : Int) - 1).toNat = k - 1 := by omega
    have hkz : (k : Int) ≠ 0 := by omega
    go_enter Tryd.func69, Tryd.ntmps69
    go_wp2_with fail
    refine (l4Row_any p.layers[k - 1].name _).mono ?_
    rintro e w1 ⟨rfl, c1⟩
    go_wp2_with fail
    go_ret
    refine ⟨?_, ((Chg.refl _ _).alloc _).trans0 c1⟩
    rw [faceAt_pos p k (by omega) hlt]
    exact rfl
set_option maxRecDepth 100000 in
set_option maxHeartbeats 4000000 in
theorem isPart_impl_any (p : PartT) (u3 u5 : Value) (B : Nat) (w : World) (r3 : Rd w B (cells p.core.cells) u3) (r5 : Rd w B (layers p.layers) u5) (hB : B ≤ w.heap.size) (hl : p.layers.length ≤ 1048576) (hcl : p.core.cells.length ≤ 1048576) (hs : ∀ c ∈ p.core.cells, c.key.size ≤ 1048576) :
    Calls Tryd.prog 73 #[.agg #[.string p.core.kind, .bool p.core.on, .bool p.core.broken, u3, .int .i64 p.core.count, u5]] w (BoolPost (PartOk p) w) := by
  obtain ⟨A3, cap3, rfl, _, _, _⟩ := cells_row r3
  obtain ⟨A, cap, rfl, h0, h1, hrow⟩ := layers_row r5
  unfold maxLen at h1
  have tt : w.heap.size < w.heap.size + 1 := Nat.lt_succ_self _
  have icore := fun W (hW : Chg [] w W) => isCore_impl_any p.core _ B W (r3.chg0 hW hB) (by have := hW.size; omega) hcl hs
  by_cases n1 : CoreOk p.core
  · have IC := Lib.hid (fun W (hW : Chg [] w W) => (icore W hW).mono (BoolPost.pos n1))
    have N1 := Lib.hid n1
    clear n1 icore
    go_enter Tryd.func73, Tryd.ntmps73
    go_wp2_with fail
    refine (IC.out _ ((Chg.refl _ _).alloc _)).mono ?_
    rintro e w1 ⟨rfl, c1⟩
    have hbox : PartBox w1 w.heap.size (.string p.core.kind) (.bool p.core.on) (.bool p.core.broken) (.slice A3 p.core.cells.length cap3) (.int .i64 p.core.count) (.slice A p.layers.length cap) := (PartBox.new w _ _ _ _ _ _ _).keep c1 (by simp)
    have E1 : Chg [] w w1 := ((Chg.refl _ _).alloc _).trans0 c1
    have tw : w.heap.size < w1.heap.size := by have := c1.size; simp at this; omega
    obtain ⟨x0, x1, x2, x3, x4, x5⟩ := hbox
    by_cases n3 : p.layers.length ≤ 3
    · have hd3 : ¬ ((3 : Int) < (p.layers.length : Int)) := by omega
      go_wp2_with fail
      go_loopw [21] (fun i wr => ∃ k : Nat, k ≤ p.layers.length ∧ i = .int .i64 k ∧ (∀ (j : Nat) (h : j < p.layers.length), j < k → LayerAt p j h) ∧ Chg [] w wr ∧ w.heap.size < wr.heap.size ∧ PartBox wr w.heap.size (.string p.core.kind) (.bool p.core.on) (.bool p.core.broken) (.slice A3 p.core.cells.length cap3) (.int .i64 p.core.count) (.slice A p.layers.length cap)) (fun i _ => p.layers.length - (intOf i).toNat)
      case atStart => exact ⟨0, Nat.zero_le _, rfl, fun j h h0 => absurd h0 (Nat.not_lt_zero _), E1, tw, x0, x1, x2, x3, x4, x5⟩
      case round =>
        clear x0 x1 x2 x3 x4 x5
        obtain ⟨k, hk, rfl, HN, hc, tw', hbox⟩ := hrel
        have HN := Lib.hid HN
        have HB := Lib.hid hbox
        obtain ⟨x0, x1, x2, x3, x4, x5⟩ := hbox
        by_cases hlt : k < p.layers.length
        · obtain ⟨b, off, rfl, hb, q0, q1⟩ := layers_cells (hrow.chg0 hc hB) k hlt
          have hsz := hc.size
          have hbw : b < wr.heap.size := by omega
          have ttr : wr.heap.size < wr.heap.size + 1 := Nat.lt_succ_self _
          cases hx : layerOf p.layers[k].name with
          | none =>
            have LF := Lib.hid (fun W => (layerFaces_impl_any p.layers[k].name W).mono (Opt2Is.none_ hx))
            have CA := Lib.hid (layerAt_none (h := hlt) hx)
            clear hx
            go_wp2_with fail
            refine (LF.out _).mono ?_
            rintro e w2 ⟨rfl, rfl⟩
            go_wp2_with fail
            go_ret
            exact ⟨_, rfl, ⟨fun h => by simp at h, fun h => (CA.out (h.2.2 k hlt)).elim⟩, (hc.alloc _)⟩
          | some x =>
            have LF := Lib.hid (fun W => (layerFaces_impl_any p.layers[k].name W).mono (Opt2Is.some_ hx))
            have FB := Lib.hid (fun W (hW : Chg [] wr W) => faceBelow_any p k (.slice A3 p.core.cells.length cap3) _ B W (r5.chg0 (hc.trans0 hW) hB) (by have := (hc.trans0 hW).size; omega) hk)
            have IFF := Lib.hid (layerAt_some (h := hlt) hx)
            clear hx
            by_cases n4 : Offer (faceAt p k) x.1
            · have OF := Lib.hid (fun W => (offers_impl_any (faceAt p k) x.1 W).mono (BoolIs.pos n4))
              have N4 := Lib.hid n4
              clear n4
              by_cases n5 : IsNum p.layers[k].count
              · have NU := Lib.hid (fun W => (isNumber_any p.layers[k].count W).mono (BoolIs.pos n5))
                have N5 := Lib.hid n5
                clear n5
                by_cases n6 : p.layers[k].count = 0
                · have CA : Hid (LayerAt p k hlt) := Lib.hid (IFF.out.2 ⟨N4.out, N5.out, .inl n6⟩)
                  simp only [n6] at q1 NU
                  clear n6
                  go_wp2_with fail
                  refine (LF.out _).mono ?_
                  rintro e w2 ⟨rfl, rfl⟩
                  go_wp2_with fail
                  refine (FB.out _ ((Chg.refl _ _).alloc _)).mono ?_
                  rintro e w3 ⟨rfl, c2⟩
                  have y0 : w3.cell? ⟨wr.heap.size, 0, none⟩ = some (.string p.layers[k].name) := (c2.cell (p := ⟨wr.heap.size, 0, none⟩) (by simp) (by simp)).trans (by go_simp)
                  have y1 : w3.cell? ⟨wr.heap.size, 1, none⟩ = some (.int .i64 0) := (c2.cell (p := ⟨wr.heap.size, 1, none⟩) (by simp) (by simp)).trans (by go_simp)
                  go_wp2_with fail
                  refine (OF.out _).mono ?_
                  rintro e w4 ⟨rfl, rfl⟩
                  go_wp2_with fail
                  refine (NU.out _).mono ?_
                  rintro e w5 ⟨rfl, rfl⟩
                  go_wp2_with fail
                  go_roundw
                  case rel => exact ⟨k + 1, by omega, by go_num, fun j h hj => (Nat.lt_succ_iff_lt_or_eq.1 hj).elim (HN.out j h) (fun e => by subst e; exact CA.out), ((hc.alloc _).trans0 c2), Nat.lt_of_lt_of_le tw' ((((Chg.refl [] _).alloc _).trans0 c2)).size, HB.out.keep ((((Chg.refl [] _).alloc _).trans0 c2)) tw'⟩
                  case measure => simp [intOf]; omega
                · cases hC : (p.layers[k].name.toList == [99, 111, 117, 110, 116, 115])
                  · cases hH : (p.layers[k].name.toList == [104, 101, 97, 114, 115])
                    · have CA : Hid (¬ LayerAt p k hlt) := Lib.hid (fun h => by rcases (IFF.out.1 h).2.2 with h | h | h; exact n6 h; (rw [h] at hC; simp at hC); (rw [h] at hH; simp at hH))
                      go_wp2_with fail
                      refine (LF.out _).mono ?_
                      rintro e w2 ⟨rfl, rfl⟩
                      go_wp2_with fail
                      refine (FB.out _ ((Chg.refl _ _).alloc _)).mono ?_
                      rintro e w3 ⟨rfl, c2⟩
                      have y0 : w3.cell? ⟨wr.heap.size, 0, none⟩ = some (.string p.layers[k].name) := (c2.cell (p := ⟨wr.heap.size, 0, none⟩) (by simp) (by simp)).trans (by go_simp)
                      have y1 : w3.cell? ⟨wr.heap.size, 1, none⟩ = some (.int .i64 p.layers[k].count) := (c2.cell (p := ⟨wr.heap.size, 1, none⟩) (by simp) (by simp)).trans (by go_simp)
                      go_wp2_with fail
                      refine (OF.out _).mono ?_
                      rintro e w4 ⟨rfl, rfl⟩
                      go_wp2_with fail
                      refine (NU.out _).mono ?_
                      rintro e w5 ⟨rfl, rfl⟩
                      go_wp2_with fail
                      go_ret
                      exact ⟨_, rfl, ⟨fun h => by simp at h, fun h => (CA.out (h.2.2 k hlt)).elim⟩, ((hc.alloc _).trans0 c2)⟩
                    · have CA : Hid (LayerAt p k hlt) := Lib.hid (IFF.out.2 ⟨N4.out, N5.out, .inr (.inr (by simpa using hH))⟩)
                      go_wp2_with fail
                      refine (LF.out _).mono ?_
                      rintro e w2 ⟨rfl, rfl⟩
                      go_wp2_with fail
                      refine (FB.out _ ((Chg.refl _ _).alloc _)).mono ?_
                      rintro e w3 ⟨rfl, c2⟩
                      have y0 : w3.cell? ⟨wr.heap.size, 0, none⟩ = some (.string p.layers[k].name) := (c2.cell (p := ⟨wr.heap.size, 0, none⟩) (by simp) (by simp)).trans (by go_simp)
                      have y1 : w3.cell? ⟨wr.heap.size, 1, none⟩ = some (.int .i64 p.layers[k].count) := (c2.cell (p := ⟨wr.heap.size, 1, none⟩) (by simp) (by simp)).trans (by go_simp)
                      go_wp2_with fail
                      refine (OF.out _).mono ?_
                      rintro e w4 ⟨rfl, rfl⟩
                      go_wp2_with fail
                      refine (NU.out _).mono ?_
                      rintro e w5 ⟨rfl, rfl⟩
                      go_wp2_with fail
                      go_roundw
                      case rel => exact ⟨k + 1, by omega, by go_num, fun j h hj => (Nat.lt_succ_iff_lt_or_eq.1 hj).elim (HN.out j h) (fun e => by subst e; exact CA.out), ((hc.alloc _).trans0 c2), Nat.lt_of_lt_of_le tw' ((((Chg.refl [] _).alloc _).trans0 c2)).size, HB.out.keep ((((Chg.refl [] _).alloc _).trans0 c2)) tw'⟩
                      case measure => simp [intOf]; omega
                  · have CA : Hid (LayerAt p k hlt) := Lib.hid (IFF.out.2 ⟨N4.out, N5.out, .inr (.inl (by simpa using hC))⟩)
                    go_wp2_with fail
                    refine (LF.out _).mono ?_
                    rintro e w2 ⟨rfl, rfl⟩
                    go_wp2_with fail
                    refine (FB.out _ ((Chg.refl _ _).alloc _)).mono ?_
                    rintro e w3 ⟨rfl, c2⟩
                    have y0 : w3.cell? ⟨wr.heap.size, 0, none⟩ = some (.string p.layers[k].name) := (c2.cell (p := ⟨wr.heap.size, 0, none⟩) (by simp) (by simp)).trans (by go_simp)
                    have y1 : w3.cell? ⟨wr.heap.size, 1, none⟩ = some (.int .i64 p.layers[k].count) := (c2.cell (p := ⟨wr.heap.size, 1, none⟩) (by simp) (by simp)).trans (by go_simp)
                    go_wp2_with fail
                    refine (OF.out _).mono ?_
                    rintro e w4 ⟨rfl, rfl⟩
                    go_wp2_with fail
                    refine (NU.out _).mono ?_
                    rintro e w5 ⟨rfl, rfl⟩
                    go_wp2_with fail
                    go_roundw
                    case rel => exact ⟨k + 1, by omega, by go_num, fun j h hj => (Nat.lt_succ_iff_lt_or_eq.1 hj).elim (HN.out j h) (fun e => by subst e; exact CA.out), ((hc.alloc _).trans0 c2), Nat.lt_of_lt_of_le tw' ((((Chg.refl [] _).alloc _).trans0 c2)).size, HB.out.keep ((((Chg.refl [] _).alloc _).trans0 c2)) tw'⟩
                    case measure => simp [intOf]; omega
              · have NU := Lib.hid (fun W => (isNumber_any p.layers[k].count W).mono (BoolIs.neg n5))
                have CA : Hid (¬ LayerAt p k hlt) := Lib.hid (fun h => n5 (IFF.out.1 h).2.1)
                clear n5
                go_wp2_with fail
                refine (LF.out _).mono ?_
                rintro e w2 ⟨rfl, rfl⟩
                go_wp2_with fail
                refine (FB.out _ ((Chg.refl _ _).alloc _)).mono ?_
                rintro e w3 ⟨rfl, c2⟩
                have y0 : w3.cell? ⟨wr.heap.size, 0, none⟩ = some (.string p.layers[k].name) := (c2.cell (p := ⟨wr.heap.size, 0, none⟩) (by simp) (by simp)).trans (by go_simp)
                have y1 : w3.cell? ⟨wr.heap.size, 1, none⟩ = some (.int .i64 p.layers[k].count) := (c2.cell (p := ⟨wr.heap.size, 1, none⟩) (by simp) (by simp)).trans (by go_simp)
                go_wp2_with fail
                refine (OF.out _).mono ?_
                rintro e w4 ⟨rfl, rfl⟩
                go_wp2_with fail
                refine (NU.out _).mono ?_
                rintro e w5 ⟨rfl, rfl⟩
                go_wp2_with fail
                go_ret
                exact ⟨_, rfl, ⟨fun h => by simp at h, fun h => (CA.out (h.2.2 k hlt)).elim⟩, ((hc.alloc _).trans0 c2)⟩
            · have OF := Lib.hid (fun W => (offers_impl_any (faceAt p k) x.1 W).mono (BoolIs.neg n4))
              have CA : Hid (¬ LayerAt p k hlt) := Lib.hid (fun h => n4 (IFF.out.1 h).1)
              clear n4
              go_wp2_with fail
              refine (LF.out _).mono ?_
              rintro e w2 ⟨rfl, rfl⟩
              go_wp2_with fail
              refine (FB.out _ ((Chg.refl _ _).alloc _)).mono ?_
              rintro e w3 ⟨rfl, c2⟩
              have y0 : w3.cell? ⟨wr.heap.size, 0, none⟩ = some (.string p.layers[k].name) := (c2.cell (p := ⟨wr.heap.size, 0, none⟩) (by simp) (by simp)).trans (by go_simp)
              have y1 : w3.cell? ⟨wr.heap.size, 1, none⟩ = some (.int .i64 p.layers[k].count) := (c2.cell (p := ⟨wr.heap.size, 1, none⟩) (by simp) (by simp)).trans (by go_simp)
              go_wp2_with fail
              refine (OF.out _).mono ?_
              rintro e w4 ⟨rfl, rfl⟩
              go_wp2_with fail
              go_ret
              exact ⟨_, rfl, ⟨fun h => by simp at h, fun h => (CA.out (h.2.2 k hlt)).elim⟩, ((hc.alloc _).trans0 c2)⟩
        · obtain rfl : k = p.layers.length := by omega
          go_wp2_with fail
          go_ret
          exact ⟨_, rfl, ⟨fun _ => ⟨N1.out, n3, fun i h => HN.out i h h⟩, fun _ => rfl⟩, hc⟩
    · have hd3 : (3 : Int) < (p.layers.length : Int) := by omega
      have CA : Hid (¬ PartOk p) := Lib.hid (fun h => n3 h.2.1)
      go_wp2_with fail
      go_ret
      exact ⟨_, rfl, ⟨fun h => by simp at h, fun h => (CA.out h).elim⟩, E1⟩
  · have IC := Lib.hid (fun W (hW : Chg [] w W) => (icore W hW).mono (BoolPost.neg n1))
    have CA : Hid (¬ PartOk p) := Lib.hid (fun h => n1 h.1)
    clear n1 icore
    go_enter Tryd.func73, Tryd.ntmps73
    go_wp2_with fail
    refine (IC.out _ ((Chg.refl _ _).alloc _)).mono ?_
    rintro e w1 ⟨rfl, c1⟩
    go_wp2_with fail
    go_ret
    exact ⟨_, rfl, ⟨fun h => by simp at h, fun h => (CA.out h).elim⟩, ((Chg.refl _ _).alloc _).trans0 c1⟩
set_option maxRecDepth 100000 in
set_option maxHeartbeats 4000000 in
theorem isPart_spec_any (p : PartT) (u3 u5 : Value) (B : Nat) (w : World) (r3 : Rd w B (cells p.core.cells) u3) (r5 : Rd w B (layers p.layers) u5) (hB : B ≤ w.heap.size) (hl : p.layers.length ≤ 1048576) (hcl : p.core.cells.length ≤ 1048576) (hs : ∀ c ∈ p.core.cells, c.key.size ≤ 1048576) :
    Calls Tryd.prog 67 #[.agg #[.string p.core.kind, .bool p.core.on, .bool p.core.broken, u3, .int .i64 p.core.count, u5]] w (BoolPost (PartOk p) w) := by
  obtain ⟨A3, cap3, rfl, _, _, _⟩ := cells_row r3
  obtain ⟨A, cap, rfl, h0, h1, hrow⟩ := layers_row r5
  unfold maxLen at h1
  have tt : w.heap.size < w.heap.size + 1 := Nat.lt_succ_self _
  have icore := fun W (hW : Chg [] w W) => isCore_spec_any p.core _ B W (r3.chg0 hW hB) (by have := hW.size; omega) hcl hs
  by_cases n1 : CoreOk p.core
  · have IC := Lib.hid (fun W (hW : Chg [] w W) => (icore W hW).mono (BoolPost.pos n1))
    have N1 := Lib.hid n1
    clear n1 icore
    go_enter Tryd.func67, Tryd.ntmps67
    go_wp2_with fail
    refine (IC.out _ ((Chg.refl _ _).alloc _)).mono ?_
    rintro e w1 ⟨rfl, c1⟩
    have hbox : PartBox w1 w.heap.size (.string p.core.kind) (.bool p.core.on) (.bool p.core.broken) (.slice A3 p.core.cells.length cap3) (.int .i64 p.core.count) (.slice A p.layers.length cap) := (PartBox.new w _ _ _ _ _ _ _).keep c1 (by simp)
    have E1 : Chg [] w w1 := ((Chg.refl _ _).alloc _).trans0 c1
    have tw : w.heap.size < w1.heap.size := by have := c1.size; simp at this; omega
    obtain ⟨x0, x1, x2, x3, x4, x5⟩ := hbox
    by_cases n3 : p.layers.length ≤ 3
    · have hd3 : ¬ ((3 : Int) < (p.layers.length : Int)) := by omega
      go_wp2_with fail
      go_loopw [21] (fun i wr => ∃ k : Nat, k ≤ p.layers.length ∧ i = .int .i64 k ∧ (∀ (j : Nat) (h : j < p.layers.length), j < k → LayerAt p j h) ∧ Chg [] w wr ∧ w.heap.size < wr.heap.size ∧ PartBox wr w.heap.size (.string p.core.kind) (.bool p.core.on) (.bool p.core.broken) (.slice A3 p.core.cells.length cap3) (.int .i64 p.core.count) (.slice A p.layers.length cap)) (fun i _ => p.layers.length - (intOf i).toNat)
      case atStart => exact ⟨0, Nat.zero_le _, rfl, fun j h h0 => absurd h0 (Nat.not_lt_zero _), E1, tw, x0, x1, x2, x3, x4, x5⟩
      case round =>
        clear x0 x1 x2 x3 x4 x5
        obtain ⟨k, hk, rfl, HN, hc, tw', hbox⟩ := hrel
        have HN := Lib.hid HN
        have HB := Lib.hid hbox
        obtain ⟨x0, x1, x2, x3, x4, x5⟩ := hbox
        by_cases hlt : k < p.layers.length
        · obtain ⟨b, off, rfl, hb, q0, q1⟩ := layers_cells (hrow.chg0 hc hB) k hlt
          have hsz := hc.size
          have hbw : b < wr.heap.size := by omega
          have ttr : wr.heap.size < wr.heap.size + 1 := Nat.lt_succ_self _
          cases hx : layerOf p.layers[k].name with
          | none =>
            have LF := Lib.hid (fun W => (layerNeeds_spec_any p.layers[k].name W).mono (OptPost.map1_none hx))
            have CA := Lib.hid (layerAt_none (h := hlt) hx)
            clear hx
            go_wp2_with fail
            refine (LF.out _).mono ?_
            rintro e w2 ⟨rfl, c2⟩
            have y0 : w2.cell? ⟨wr.heap.size, 0, none⟩ = some (.string p.layers[k].name) := (c2.cell (p := ⟨wr.heap.size, 0, none⟩) (by simp) (by simp)).trans (by go_simp)
            have y1 : w2.cell? ⟨wr.heap.size, 1, none⟩ = some (.int .i64 p.layers[k].count) := (c2.cell (p := ⟨wr.heap.size, 1, none⟩) (by simp) (by simp)).trans (by go_simp)
            have tr2 : wr.heap.size < w2.heap.size := by have := c2.size; simp at this; omega
            go_wp2_with fail
            all_goals
              go_ret
              exact ⟨_, rfl, ⟨fun h => by simp at h, fun h => (CA.out (h.2.2 k hlt)).elim⟩, ((hc.alloc _).trans0 c2)⟩
          | some x =>
            have LF := Lib.hid (fun W => (layerNeeds_spec_any p.layers[k].name W).mono (OptPost.map1_some hx))
            have FB := Lib.hid (fun W (hW : Chg [] wr W) => l4Face_any p k (.slice A3 p.core.cells.length cap3) _ B W (r5.chg0 (hc.trans0 hW) hB) (by have := (hc.trans0 hW).size; omega) hk)
            have IFF := Lib.hid (layerAt_some (h := hlt) hx)
            clear hx
            by_cases n4 : Offer (faceAt p k) x.1
            · have OF := Lib.hid (fun W => (offers_spec_any (faceAt p k) x.1 W).mono (BoolIs.pos n4))
              have N4 := Lib.hid n4
              clear n4
              by_cases n5 : IsNum p.layers[k].count
              · have v1 : 0 ≤ p.layers[k].count := n5.1
                have v2 : p.layers[k].count ≤ 999 := n5.2
                have N5 := Lib.hid n5
                clear n5
                by_cases n6 : p.layers[k].count = 0
                · have CA : Hid (LayerAt p k hlt) := Lib.hid (IFF.out.2 ⟨N4.out, N5.out, .inl n6⟩)
                  simp only [n6] at q1
                  clear n6
                  cases hC : (p.layers[k].name.toList == [99, 111, 117, 110, 116, 115])
                  · cases hH : (p.layers[k].name.toList == [104, 101, 97, 114, 115])
                    · go_wp2_with fail
                      refine (LF.out _).mono ?_
                      rintro e w2 ⟨rfl, c2⟩
                      have y0 : w2.cell? ⟨wr.heap.size, 0, none⟩ = some (.string p.layers[k].name) := (c2.cell (p := ⟨wr.heap.size, 0, none⟩) (by simp) (by simp)).trans (by go_simp)
                      have y1 : w2.cell? ⟨wr.heap.size, 1, none⟩ = some (.int .i64 0) := (c2.cell (p := ⟨wr.heap.size, 1, none⟩) (by simp) (by simp)).trans (by go_simp)
                      have tr2 : wr.heap.size < w2.heap.size := by have := c2.size; simp at this; omega
                      have hbox2 := (HB.out.keep ((Chg.refl [] wr).alloc (.cells #[.string p.layers[k].name, .int .i64 0] 89)) tw').keep c2 (by simp; omega)
                      obtain ⟨z0, z1, z2, z3, z4, z5⟩ := hbox2
                      clear x0 x1 x2 x3 x4 x5
                      go_wp2_with fail
                      refine (FB.out _ (((Chg.refl _ _).alloc _).trans0 c2)).mono ?_
                      rintro e w3 ⟨rfl, c3⟩
                      have y2 : w3.cell? ⟨wr.heap.size, 1, none⟩ = some (.int .i64 0) := (c3.cell (p := ⟨wr.heap.size, 1, none⟩) tr2 (by simp)).trans y1
                      go_wp2_with fail
                      refine (OF.out _).mono ?_
                      rintro e w4 ⟨rfl, rfl⟩
                      go_wp2_with fail
                      go_roundw
                      case rel => exact ⟨k + 1, by omega, by go_num, fun j h hj => (Nat.lt_succ_iff_lt_or_eq.1 hj).elim (HN.out j h) (fun e => by subst e; exact CA.out), (((hc.alloc _).trans0 c2).trans0 c3), Nat.lt_of_lt_of_le tw' (((((Chg.refl [] _).alloc _).trans0 c2).trans0 c3)).size, HB.out.keep (((((Chg.refl [] _).alloc _).trans0 c2).trans0 c3)) tw'⟩
                      case measure => simp [intOf]; omega
                    · go_wp2_with fail
                      refine (LF.out _).mono ?_
                      rintro e w2 ⟨rfl, c2⟩
                      have y0 : w2.cell? ⟨wr.heap.size, 0, none⟩ = some (.string p.layers[k].name) := (c2.cell (p := ⟨wr.heap.size, 0, none⟩) (by simp) (by simp)).trans (by go_simp)
                      have y1 : w2.cell? ⟨wr.heap.size, 1, none⟩ = some (.int .i64 0) := (c2.cell (p := ⟨wr.heap.size, 1, none⟩) (by simp) (by simp)).trans (by go_simp)
                      have tr2 : wr.heap.size < w2.heap.size := by have := c2.size; simp at this; omega
                      have hbox2 := (HB.out.keep ((Chg.refl [] wr).alloc (.cells #[.string p.layers[k].name, .int .i64 0] 89)) tw').keep c2 (by simp; omega)
                      obtain ⟨z0, z1, z2, z3, z4, z5⟩ := hbox2
                      clear x0 x1 x2 x3 x4 x5
                      go_wp2_with fail
                      refine (FB.out _ (((Chg.refl _ _).alloc _).trans0 c2)).mono ?_
                      rintro e w3 ⟨rfl, c3⟩
                      have y2 : w3.cell? ⟨wr.heap.size, 1, none⟩ = some (.int .i64 0) := (c3.cell (p := ⟨wr.heap.size, 1, none⟩) tr2 (by simp)).trans y1
                      go_wp2_with fail
                      refine (OF.out _).mono ?_
                      rintro e w4 ⟨rfl, rfl⟩
                      go_wp2_with fail
                      go_roundw
                      case rel => exact ⟨k + 1, by omega, by go_num, fun j h hj => (Nat.lt_succ_iff_lt_or_eq.1 hj).elim (HN.out j h) (fun e => by subst e; exact CA.out), (((hc.alloc _).trans0 c2).trans0 c3), Nat.lt_of_lt_of_le tw' (((((Chg.refl [] _).alloc _).trans0 c2).trans0 c3)).size, HB.out.keep (((((Chg.refl [] _).alloc _).trans0 c2).trans0 c3)) tw'⟩
                      case measure => simp [intOf]; omega
                  · go_wp2_with fail
                    refine (LF.out _).mono ?_
                    rintro e w2 ⟨rfl, c2⟩
                    have y0 : w2.cell? ⟨wr.heap.size, 0, none⟩ = some (.string p.layers[k].name) := (c2.cell (p := ⟨wr.heap.size, 0, none⟩) (by simp) (by simp)).trans (by go_simp)
                    have y1 : w2.cell? ⟨wr.heap.size, 1, none⟩ = some (.int .i64 0) := (c2.cell (p := ⟨wr.heap.size, 1, none⟩) (by simp) (by simp)).trans (by go_simp)
                    have tr2 : wr.heap.size < w2.heap.size := by have := c2.size; simp at this; omega
                    have hbox2 := (HB.out.keep ((Chg.refl [] wr).alloc (.cells #[.string p.layers[k].name, .int .i64 0] 89)) tw').keep c2 (by simp; omega)
                    obtain ⟨z0, z1, z2, z3, z4, z5⟩ := hbox2
                    clear x0 x1 x2 x3 x4 x5
                    go_wp2_with fail
                    refine (FB.out _ (((Chg.refl _ _).alloc _).trans0 c2)).mono ?_
                    rintro e w3 ⟨rfl, c3⟩
                    have y2 : w3.cell? ⟨wr.heap.size, 1, none⟩ = some (.int .i64 0) := (c3.cell (p := ⟨wr.heap.size, 1, none⟩) tr2 (by simp)).trans y1
                    go_wp2_with fail
                    refine (OF.out _).mono ?_
                    rintro e w4 ⟨rfl, rfl⟩
                    go_wp2_with fail
                    go_roundw
                    case rel => exact ⟨k + 1, by omega, by go_num, fun j h hj => (Nat.lt_succ_iff_lt_or_eq.1 hj).elim (HN.out j h) (fun e => by subst e; exact CA.out), (((hc.alloc _).trans0 c2).trans0 c3), Nat.lt_of_lt_of_le tw' (((((Chg.refl [] _).alloc _).trans0 c2).trans0 c3)).size, HB.out.keep (((((Chg.refl [] _).alloc _).trans0 c2).trans0 c3)) tw'⟩
                    case measure => simp [intOf]; omega
                · have v3 : 0 < p.layers[k].count := by omega
                  cases hC : (p.layers[k].name.toList == [99, 111, 117, 110, 116, 115])
                  · cases hH : (p.layers[k].name.toList == [104, 101, 97, 114, 115])
                    · have CA : Hid (¬ LayerAt p k hlt) := Lib.hid (fun h => by rcases (IFF.out.1 h).2.2 with h | h | h; exact n6 h; (rw [h] at hC; simp at hC); (rw [h] at hH; simp at hH))
                      go_wp2_with fail
                      refine (LF.out _).mono ?_
                      rintro e w2 ⟨rfl, c2⟩
                      have y0 : w2.cell? ⟨wr.heap.size, 0, none⟩ = some (.string p.layers[k].name) := (c2.cell (p := ⟨wr.heap.size, 0, none⟩) (by simp) (by simp)).trans (by go_simp)
                      have y1 : w2.cell? ⟨wr.heap.size, 1, none⟩ = some (.int .i64 p.layers[k].count) := (c2.cell (p := ⟨wr.heap.size, 1, none⟩) (by simp) (by simp)).trans (by go_simp)
                      have tr2 : wr.heap.size < w2.heap.size := by have := c2.size; simp at this; omega
                      have hbox2 := (HB.out.keep ((Chg.refl [] wr).alloc (.cells #[.string p.layers[k].name, .int .i64 p.layers[k].count] 89)) tw').keep c2 (by simp; omega)
                      obtain ⟨z0, z1, z2, z3, z4, z5⟩ := hbox2
                      clear x0 x1 x2 x3 x4 x5
                      go_wp2_with fail
                      refine (FB.out _ (((Chg.refl _ _).alloc _).trans0 c2)).mono ?_
                      rintro e w3 ⟨rfl, c3⟩
                      have y2 : w3.cell? ⟨wr.heap.size, 1, none⟩ = some (.int .i64 p.layers[k].count) := (c3.cell (p := ⟨wr.heap.size, 1, none⟩) tr2 (by simp)).trans y1
                      go_wp2_with fail
                      refine (OF.out _).mono ?_
                      rintro e w4 ⟨rfl, rfl⟩
                      go_wp2_with fail
                      go_ret
                      exact ⟨_, rfl, ⟨fun h => by simp at h, fun h => (CA.out (h.2.2 k hlt)).elim⟩, (((hc.alloc _).trans0 c2).trans0 c3)⟩
                    · have CA : Hid (LayerAt p k hlt) := Lib.hid (IFF.out.2 ⟨N4.out, N5.out, .inr (.inr (by simpa using hH))⟩)
                      go_wp2_with fail
                      refine (LF.out _).mono ?_
                      rintro e w2 ⟨rfl, c2⟩
                      have y0 : w2.cell? ⟨wr.heap.size, 0, none⟩ = some (.string p.layers[k].name) := (c2.cell (p := ⟨wr.heap.size, 0, none⟩) (by simp) (by simp)).trans (by go_simp)
                      have y1 : w2.cell? ⟨wr.heap.size, 1, none⟩ = some (.int .i64 p.layers[k].count) := (c2.cell (p := ⟨wr.heap.size, 1, none⟩) (by simp) (by simp)).trans (by go_simp)
                      have tr2 : wr.heap.size < w2.heap.size := by have := c2.size; simp at this; omega
                      have hbox2 := (HB.out.keep ((Chg.refl [] wr).alloc (.cells #[.string p.layers[k].name, .int .i64 p.layers[k].count] 89)) tw').keep c2 (by simp; omega)
                      obtain ⟨z0, z1, z2, z3, z4, z5⟩ := hbox2
                      clear x0 x1 x2 x3 x4 x5
                      go_wp2_with fail
                      refine (FB.out _ (((Chg.refl _ _).alloc _).trans0 c2)).mono ?_
                      rintro e w3 ⟨rfl, c3⟩
                      have y2 : w3.cell? ⟨wr.heap.size, 1, none⟩ = some (.int .i64 p.layers[k].count) := (c3.cell (p := ⟨wr.heap.size, 1, none⟩) tr2 (by simp)).trans y1
                      go_wp2_with fail
                      refine (OF.out _).mono ?_
                      rintro e w4 ⟨rfl, rfl⟩
                      go_wp2_with fail
                      go_roundw
                      case rel => exact ⟨k + 1, by omega, by go_num, fun j h hj => (Nat.lt_succ_iff_lt_or_eq.1 hj).elim (HN.out j h) (fun e => by subst e; exact CA.out), (((hc.alloc _).trans0 c2).trans0 c3), Nat.lt_of_lt_of_le tw' (((((Chg.refl [] _).alloc _).trans0 c2).trans0 c3)).size, HB.out.keep (((((Chg.refl [] _).alloc _).trans0 c2).trans0 c3)) tw'⟩
                      case measure => simp [intOf]; omega
                  · have CA : Hid (LayerAt p k hlt) := Lib.hid (IFF.out.2 ⟨N4.out, N5.out, .inr (.inl (by simpa using hC))⟩)
                    go_wp2_with fail
                    refine (LF.out _).mono ?_
                    rintro e w2 ⟨rfl, c2⟩
                    have y0 : w2.cell? ⟨wr.heap.size, 0, none⟩ = some (.string p.layers[k].name) := (c2.cell (p := ⟨wr.heap.size, 0, none⟩) (by simp) (by simp)).trans (by go_simp)
                    have y1 : w2.cell? ⟨wr.heap.size, 1, none⟩ = some (.int .i64 p.layers[k].count) := (c2.cell (p := ⟨wr.heap.size, 1, none⟩) (by simp) (by simp)).trans (by go_simp)
                    have tr2 : wr.heap.size < w2.heap.size := by have := c2.size; simp at this; omega
                    have hbox2 := (HB.out.keep ((Chg.refl [] wr).alloc (.cells #[.string p.layers[k].name, .int .i64 p.layers[k].count] 89)) tw').keep c2 (by simp; omega)
                    obtain ⟨z0, z1, z2, z3, z4, z5⟩ := hbox2
                    clear x0 x1 x2 x3 x4 x5
                    go_wp2_with fail
                    refine (FB.out _ (((Chg.refl _ _).alloc _).trans0 c2)).mono ?_
                    rintro e w3 ⟨rfl, c3⟩
                    have y2 : w3.cell? ⟨wr.heap.size, 1, none⟩ = some (.int .i64 p.layers[k].count) := (c3.cell (p := ⟨wr.heap.size, 1, none⟩) tr2 (by simp)).trans y1
                    go_wp2_with fail
                    refine (OF.out _).mono ?_
                    rintro e w4 ⟨rfl, rfl⟩
                    go_wp2_with fail
                    go_roundw
                    case rel => exact ⟨k + 1, by omega, by go_num, fun j h hj => (Nat.lt_succ_iff_lt_or_eq.1 hj).elim (HN.out j h) (fun e => by subst e; exact CA.out), (((hc.alloc _).trans0 c2).trans0 c3), Nat.lt_of_lt_of_le tw' (((((Chg.refl [] _).alloc _).trans0 c2).trans0 c3)).size, HB.out.keep (((((Chg.refl [] _).alloc _).trans0 c2).trans0 c3)) tw'⟩
                    case measure => simp [intOf]; omega
              · have CA : Hid (¬ LayerAt p k hlt) := Lib.hid (fun h => n5 (IFF.out.1 h).2.1)
                have v1 : ¬ (0 ≤ p.layers[k].count ∧ p.layers[k].count ≤ 999) := n5
                clear n5
                by_cases v2 : p.layers[k].count < 0
                · clear v1
                  cases hC : (p.layers[k].name.toList == [99, 111, 117, 110, 116, 115])
                  · cases hH : (p.layers[k].name.toList == [104, 101, 97, 114, 115])
                    · go_wp2_with fail
                      refine (LF.out _).mono ?_
                      rintro e w2 ⟨rfl, c2⟩
                      have y0 : w2.cell? ⟨wr.heap.size, 0, none⟩ = some (.string p.layers[k].name) := (c2.cell (p := ⟨wr.heap.size, 0, none⟩) (by simp) (by simp)).trans (by go_simp)
                      have y1 : w2.cell? ⟨wr.heap.size, 1, none⟩ = some (.int .i64 p.layers[k].count) := (c2.cell (p := ⟨wr.heap.size, 1, none⟩) (by simp) (by simp)).trans (by go_simp)
                      have tr2 : wr.heap.size < w2.heap.size := by have := c2.size; simp at this; omega
                      have hbox2 := (HB.out.keep ((Chg.refl [] wr).alloc (.cells #[.string p.layers[k].name, .int .i64 p.layers[k].count] 89)) tw').keep c2 (by simp; omega)
                      obtain ⟨z0, z1, z2, z3, z4, z5⟩ := hbox2
                      clear x0 x1 x2 x3 x4 x5
                      go_wp2_with fail
                      refine (FB.out _ (((Chg.refl _ _).alloc _).trans0 c2)).mono ?_
                      rintro e w3 ⟨rfl, c3⟩
                      have y2 : w3.cell? ⟨wr.heap.size, 1, none⟩ = some (.int .i64 p.layers[k].count) := (c3.cell (p := ⟨wr.heap.size, 1, none⟩) tr2 (by simp)).trans y1
                      go_wp2_with fail
                      refine (OF.out _).mono ?_
                      rintro e w4 ⟨rfl, rfl⟩
                      go_wp2_with fail
                      go_ret
                      exact ⟨_, rfl, ⟨fun h => by simp at h, fun h => (CA.out (h.2.2 k hlt)).elim⟩, (((hc.alloc _).trans0 c2).trans0 c3)⟩
                    · go_wp2_with fail
                      refine (LF.out _).mono ?_
                      rintro e w2 ⟨rfl, c2⟩
                      have y0 : w2.cell? ⟨wr.heap.size, 0, none⟩ = some (.string p.layers[k].name) := (c2.cell (p := ⟨wr.heap.size, 0, none⟩) (by simp) (by simp)).trans (by go_simp)
                      have y1 : w2.cell? ⟨wr.heap.size, 1, none⟩ = some (.int .i64 p.layers[k].count) := (c2.cell (p := ⟨wr.heap.size, 1, none⟩) (by simp) (by simp)).trans (by go_simp)
                      have tr2 : wr.heap.size < w2.heap.size := by have := c2.size; simp at this; omega
                      have hbox2 := (HB.out.keep ((Chg.refl [] wr).alloc (.cells #[.string p.layers[k].name, .int .i64 p.layers[k].count] 89)) tw').keep c2 (by simp; omega)
                      obtain ⟨z0, z1, z2, z3, z4, z5⟩ := hbox2
                      clear x0 x1 x2 x3 x4 x5
                      go_wp2_with fail
                      refine (FB.out _ (((Chg.refl _ _).alloc _).trans0 c2)).mono ?_
                      rintro e w3 ⟨rfl, c3⟩
                      have y2 : w3.cell? ⟨wr.heap.size, 1, none⟩ = some (.int .i64 p.layers[k].count) := (c3.cell (p := ⟨wr.heap.size, 1, none⟩) tr2 (by simp)).trans y1
                      go_wp2_with fail
                      refine (OF.out _).mono ?_
                      rintro e w4 ⟨rfl, rfl⟩
                      go_wp2_with fail
                      go_ret
                      exact ⟨_, rfl, ⟨fun h => by simp at h, fun h => (CA.out (h.2.2 k hlt)).elim⟩, (((hc.alloc _).trans0 c2).trans0 c3)⟩
                  · go_wp2_with fail
                    refine (LF.out _).mono ?_
                    rintro e w2 ⟨rfl, c2⟩
                    have y0 : w2.cell? ⟨wr.heap.size, 0, none⟩ = some (.string p.layers[k].name) := (c2.cell (p := ⟨wr.heap.size, 0, none⟩) (by simp) (by simp)).trans (by go_simp)
                    have y1 : w2.cell? ⟨wr.heap.size, 1, none⟩ = some (.int .i64 p.layers[k].count) := (c2.cell (p := ⟨wr.heap.size, 1, none⟩) (by simp) (by simp)).trans (by go_simp)
                    have tr2 : wr.heap.size < w2.heap.size := by have := c2.size; simp at this; omega
                    have hbox2 := (HB.out.keep ((Chg.refl [] wr).alloc (.cells #[.string p.layers[k].name, .int .i64 p.layers[k].count] 89)) tw').keep c2 (by simp; omega)
                    obtain ⟨z0, z1, z2, z3, z4, z5⟩ := hbox2
                    clear x0 x1 x2 x3 x4 x5
                    go_wp2_with fail
                    refine (FB.out _ (((Chg.refl _ _).alloc _).trans0 c2)).mono ?_
                    rintro e w3 ⟨rfl, c3⟩
                    have y2 : w3.cell? ⟨wr.heap.size, 1, none⟩ = some (.int .i64 p.layers[k].count) := (c3.cell (p := ⟨wr.heap.size, 1, none⟩) tr2 (by simp)).trans y1
                    go_wp2_with fail
                    refine (OF.out _).mono ?_
                    rintro e w4 ⟨rfl, rfl⟩
                    go_wp2_with fail
                    go_ret
                    exact ⟨_, rfl, ⟨fun h => by simp at h, fun h => (CA.out (h.2.2 k hlt)).elim⟩, (((hc.alloc _).trans0 c2).trans0 c3)⟩
                · have v3 : 0 ≤ p.layers[k].count := by omega
                  have v4 : 999 < p.layers[k].count := by omega
                  clear v1 v2
                  cases hC : (p.layers[k].name.toList == [99, 111, 117, 110, 116, 115])
                  · cases hH : (p.layers[k].name.toList == [104, 101, 97, 114, 115])
                    · go_wp2_with fail
                      refine (LF.out _).mono ?_
                      rintro e w2 ⟨rfl, c2⟩
                      have y0 : w2.cell? ⟨wr.heap.size, 0, none⟩ = some (.string p.layers[k].name) := (c2.cell (p := ⟨wr.heap.size, 0, none⟩) (by simp) (by simp)).trans (by go_simp)
                      have y1 : w2.cell? ⟨wr.heap.size, 1, none⟩ = some (.int .i64 p.layers[k].count) := (c2.cell (p := ⟨wr.heap.size, 1, none⟩) (by simp) (by simp)).trans (by go_simp)
                      have tr2 : wr.heap.size < w2.heap.size := by have := c2.size; simp at this; omega
                      have hbox2 := (HB.out.keep ((Chg.refl [] wr).alloc (.cells #[.string p.layers[k].name, .int .i64 p.layers[k].count] 89)) tw').keep c2 (by simp; omega)
                      obtain ⟨z0, z1, z2, z3, z4, z5⟩ := hbox2
                      clear x0 x1 x2 x3 x4 x5
                      go_wp2_with fail
                      refine (FB.out _ (((Chg.refl _ _).alloc _).trans0 c2)).mono ?_
                      rintro e w3 ⟨rfl, c3⟩
                      have y2 : w3.cell? ⟨wr.heap.size, 1, none⟩ = some (.int .i64 p.layers[k].count) := (c3.cell (p := ⟨wr.heap.size, 1, none⟩) tr2 (by simp)).trans y1
                      go_wp2_with fail
                      refine (OF.out _).mono ?_
                      rintro e w4 ⟨rfl, rfl⟩
                      go_wp2_with fail
                      go_ret
                      exact ⟨_, rfl, ⟨fun h => by simp at h, fun h => (CA.out (h.2.2 k hlt)).elim⟩, (((hc.alloc _).trans0 c2).trans0 c3)⟩
                    · go_wp2_with fail
                      refine (LF.out _).mono ?_
                      rintro e w2 ⟨rfl, c2⟩
                      have y0 : w2.cell? ⟨wr.heap.size, 0, none⟩ = some (.string p.layers[k].name) := (c2.cell (p := ⟨wr.heap.size, 0, none⟩) (by simp) (by simp)).trans (by go_simp)
                      have y1 : w2.cell? ⟨wr.heap.size, 1, none⟩ = some (.int .i64 p.layers[k].count) := (c2.cell (p := ⟨wr.heap.size, 1, none⟩) (by simp) (by simp)).trans (by go_simp)
                      have tr2 : wr.heap.size < w2.heap.size := by have := c2.size; simp at this; omega
                      have hbox2 := (HB.out.keep ((Chg.refl [] wr).alloc (.cells #[.string p.layers[k].name, .int .i64 p.layers[k].count] 89)) tw').keep c2 (by simp; omega)
                      obtain ⟨z0, z1, z2, z3, z4, z5⟩ := hbox2
                      clear x0 x1 x2 x3 x4 x5
                      go_wp2_with fail
                      refine (FB.out _ (((Chg.refl _ _).alloc _).trans0 c2)).mono ?_
                      rintro e w3 ⟨rfl, c3⟩
                      have y2 : w3.cell? ⟨wr.heap.size, 1, none⟩ = some (.int .i64 p.layers[k].count) := (c3.cell (p := ⟨wr.heap.size, 1, none⟩) tr2 (by simp)).trans y1
                      go_wp2_with fail
                      refine (OF.out _).mono ?_
                      rintro e w4 ⟨rfl, rfl⟩
                      go_wp2_with fail
                      go_ret
                      exact ⟨_, rfl, ⟨fun h => by simp at h, fun h => (CA.out (h.2.2 k hlt)).elim⟩, (((hc.alloc _).trans0 c2).trans0 c3)⟩
                  · go_wp2_with fail
                    refine (LF.out _).mono ?_
                    rintro e w2 ⟨rfl, c2⟩
                    have y0 : w2.cell? ⟨wr.heap.size, 0, none⟩ = some (.string p.layers[k].name) := (c2.cell (p := ⟨wr.heap.size, 0, none⟩) (by simp) (by simp)).trans (by go_simp)
                    have y1 : w2.cell? ⟨wr.heap.size, 1, none⟩ = some (.int .i64 p.layers[k].count) := (c2.cell (p := ⟨wr.heap.size, 1, none⟩) (by simp) (by simp)).trans (by go_simp)
                    have tr2 : wr.heap.size < w2.heap.size := by have := c2.size; simp at this; omega
                    have hbox2 := (HB.out.keep ((Chg.refl [] wr).alloc (.cells #[.string p.layers[k].name, .int .i64 p.layers[k].count] 89)) tw').keep c2 (by simp; omega)
                    obtain ⟨z0, z1, z2, z3, z4, z5⟩ := hbox2
                    clear x0 x1 x2 x3 x4 x5
                    go_wp2_with fail
                    refine (FB.out _ (((Chg.refl _ _).alloc _).trans0 c2)).mono ?_
                    rintro e w3 ⟨rfl, c3⟩
                    have y2 : w3.cell? ⟨wr.heap.size, 1, none⟩ = some (.int .i64 p.layers[k].count) := (c3.cell (p := ⟨wr.heap.size, 1, none⟩) tr2 (by simp)).trans y1
                    go_wp2_with fail
                    refine (OF.out _).mono ?_
                    rintro e w4 ⟨rfl, rfl⟩
                    go_wp2_with fail
                    go_ret
                    exact ⟨_, rfl, ⟨fun h => by simp at h, fun h => (CA.out (h.2.2 k hlt)).elim⟩, (((hc.alloc _).trans0 c2).trans0 c3)⟩
            · have OF := Lib.hid (fun W => (offers_spec_any (faceAt p k) x.1 W).mono (BoolIs.neg n4))
              have CA : Hid (¬ LayerAt p k hlt) := Lib.hid (fun h => n4 (IFF.out.1 h).1)
              clear n4
              cases hC : (p.layers[k].name.toList == [99, 111, 117, 110, 116, 115])
              · cases hH : (p.layers[k].name.toList == [104, 101, 97, 114, 115])
                · go_wp2_with fail
                  refine (LF.out _).mono ?_
                  rintro e w2 ⟨rfl, c2⟩
                  have y0 : w2.cell? ⟨wr.heap.size, 0, none⟩ = some (.string p.layers[k].name) := (c2.cell (p := ⟨wr.heap.size, 0, none⟩) (by simp) (by simp)).trans (by go_simp)
                  have y1 : w2.cell? ⟨wr.heap.size, 1, none⟩ = some (.int .i64 p.layers[k].count) := (c2.cell (p := ⟨wr.heap.size, 1, none⟩) (by simp) (by simp)).trans (by go_simp)
                  have tr2 : wr.heap.size < w2.heap.size := by have := c2.size; simp at this; omega
                  have hbox2 := (HB.out.keep ((Chg.refl [] wr).alloc (.cells #[.string p.layers[k].name, .int .i64 p.layers[k].count] 89)) tw').keep c2 (by simp; omega)
                  obtain ⟨z0, z1, z2, z3, z4, z5⟩ := hbox2
                  clear x0 x1 x2 x3 x4 x5
                  go_wp2_with fail
                  refine (FB.out _ (((Chg.refl _ _).alloc _).trans0 c2)).mono ?_
                  rintro e w3 ⟨rfl, c3⟩
                  have y2 : w3.cell? ⟨wr.heap.size, 1, none⟩ = some (.int .i64 p.layers[k].count) := (c3.cell (p := ⟨wr.heap.size, 1, none⟩) tr2 (by simp)).trans y1
                  go_wp2_with fail
                  refine (OF.out _).mono ?_
                  rintro e w4 ⟨rfl, rfl⟩
                  go_wp2_with fail
                  go_ret
                  exact ⟨_, rfl, ⟨fun h => by simp at h, fun h => (CA.out (h.2.2 k hlt)).elim⟩, (((hc.alloc _).trans0 c2).trans0 c3)⟩
                · go_wp2_with fail
                  refine (LF.out _).mono ?_
                  rintro e w2 ⟨rfl, c2⟩
                  have y0 : w2.cell? ⟨wr.heap.size, 0, none⟩ = some (.string p.layers[k].name) := (c2.cell (p := ⟨wr.heap.size, 0, none⟩) (by simp) (by simp)).trans (by go_simp)
                  have y1 : w2.cell? ⟨wr.heap.size, 1, none⟩ = some (.int .i64 p.layers[k].count) := (c2.cell (p := ⟨wr.heap.size, 1, none⟩) (by simp) (by simp)).trans (by go_simp)
                  have tr2 : wr.heap.size < w2.heap.size := by have := c2.size; simp at this; omega
                  have hbox2 := (HB.out.keep ((Chg.refl [] wr).alloc (.cells #[.string p.layers[k].name, .int .i64 p.layers[k].count] 89)) tw').keep c2 (by simp; omega)
                  obtain ⟨z0, z1, z2, z3, z4, z5⟩ := hbox2
                  clear x0 x1 x2 x3 x4 x5
                  go_wp2_with fail
                  refine (FB.out _ (((Chg.refl _ _).alloc _).trans0 c2)).mono ?_
                  rintro e w3 ⟨rfl, c3⟩
                  have y2 : w3.cell? ⟨wr.heap.size, 1, none⟩ = some (.int .i64 p.layers[k].count) := (c3.cell (p := ⟨wr.heap.size, 1, none⟩) tr2 (by simp)).trans y1
                  go_wp2_with fail
                  refine (OF.out _).mono ?_
                  rintro e w4 ⟨rfl, rfl⟩
                  go_wp2_with fail
                  go_ret
                  exact ⟨_, rfl, ⟨fun h => by simp at h, fun h => (CA.out (h.2.2 k hlt)).elim⟩, (((hc.alloc _).trans0 c2).trans0 c3)⟩
              · go_wp2_with fail
                refine (LF.out _).mono ?_
                rintro e w2 ⟨rfl, c2⟩
                have y0 : w2.cell? ⟨wr.heap.size, 0, none⟩ = some (.string p.layers[k].name) := (c2.cell (p := ⟨wr.heap.size, 0, none⟩) (by simp) (by simp)).trans (by go_simp)
                have y1 : w2.cell? ⟨wr.heap.size, 1, none⟩ = some (.int .i64 p.layers[k].count) := (c2.cell (p := ⟨wr.heap.size, 1, none⟩) (by simp) (by simp)).trans (by go_simp)
                have tr2 : wr.heap.size < w2.heap.size := by have := c2.size; simp at this; omega
                have hbox2 := (HB.out.keep ((Chg.refl [] wr).alloc (.cells #[.string p.layers[k].name, .int .i64 p.layers[k].count] 89)) tw').keep c2 (by simp; omega)
                obtain ⟨z0, z1, z2, z3, z4, z5⟩ := hbox2
                clear x0 x1 x2 x3 x4 x5
                go_wp2_with fail
                refine (FB.out _ (((Chg.refl _ _).alloc _).trans0 c2)).mono ?_
                rintro e w3 ⟨rfl, c3⟩
                have y2 : w3.cell? ⟨wr.heap.size, 1, none⟩ = some (.int .i64 p.layers[k].count) := (c3.cell (p := ⟨wr.heap.size, 1, none⟩) tr2 (by simp)).trans y1
                go_wp2_with fail
                refine (OF.out _).mono ?_
                rintro e w4 ⟨rfl, rfl⟩
                go_wp2_with fail
                go_ret
                exact ⟨_, rfl, ⟨fun h => by simp at h, fun h => (CA.out (h.2.2 k hlt)).elim⟩, (((hc.alloc _).trans0 c2).trans0 c3)⟩
        · obtain rfl : k = p.layers.length := by omega
          go_wp2_with fail
          go_ret
          exact ⟨_, rfl, ⟨fun _ => ⟨N1.out, n3, fun i h => HN.out i h h⟩, fun _ => rfl⟩, hc⟩
    · have hd3 : (3 : Int) < (p.layers.length : Int) := by omega
      have CA : Hid (¬ PartOk p) := Lib.hid (fun h => n3 h.2.1)
      go_wp2_with fail
      go_ret
      exact ⟨_, rfl, ⟨fun h => by simp at h, fun h => (CA.out h).elim⟩, E1⟩
  · have IC := Lib.hid (fun W (hW : Chg [] w W) => (icore W hW).mono (BoolPost.neg n1))
    have CA : Hid (¬ PartOk p) := Lib.hid (fun h => n1 h.1)
    clear n1 icore
    go_enter Tryd.func67, Tryd.ntmps67
    go_wp2_with fail
    refine (IC.out _ ((Chg.refl _ _).alloc _)).mono ?_
    rintro e w1 ⟨rfl, c1⟩
    go_wp2_with fail
    go_ret
    exact ⟨_, rfl, ⟨fun h => by simp at h, fun h => (CA.out h).elim⟩, ((Chg.refl _ _).alloc _).trans0 c1⟩
end Go.Proofs.YtapmknkelihacaaDoor
