/- Copies of cores and parts, of the program and of the reference. Written by a program. -/
import Derived.Test.YtapmknkelihacaaDoorAppN
import Derived.Deep.RegionLaw
namespace Go.Proofs.YtapmknkelihacaaDoor
open Go.RowKit

def cellU (l : List CellT) : List Value := l.flatMap fun c => [.string c.key, .int .i64 c.value]
def layerU (l : List LayerT) : List Value := l.flatMap fun c => [.string c.name, .int .i64 c.count]
theorem cells_plain (l : List CellT) : cells l = .s l.length ((cellU l).map Dat.v) := by
  unfold cells cellU
  congr 1
  induction l with
  | nil => rfl
  | cons a l ih => simp [ih, cellF_eq]
theorem layers_plain (l : List LayerT) : layers l = .s l.length ((layerU l).map Dat.v) := by
  unfold layers layerU
  congr 1
  induction l with
  | nil => rfl
  | cons a l ih => simp [ih, layerF_eq]
theorem cellU_len (l : List CellT) : (cellU l).length = l.length * 2 := by
  unfold cellU
  induction l with
  | nil => rfl
  | cons a l ih => simp [ih]; omega
theorem layerU_len (l : List LayerT) : (layerU l).length = l.length * 2 := by
  unfold layerU
  induction l with
  | nil => rfl
  | cons a l ih => simp [ih]; omega
theorem cellU_one (l : List CellT) : ∀ u ∈ cellU l, u.oneCell' = true := by
  intro u hu
  unfold cellU at hu
  simp only [List.mem_flatMap] at hu
  obtain ⟨c, _, hc⟩ := hu
  simp at hc
  rcases hc with rfl | rfl <;> rfl
theorem layerU_one (l : List LayerT) : ∀ u ∈ layerU l, u.oneCell' = true := by
  intro u hu
  unfold layerU at hu
  simp only [List.mem_flatMap] at hu
  obtain ⟨c, _, hc⟩ := hu
  simp at hc
  rcases hc with rfl | rfl <;> rfl
/-- .. behind stores into two blocks of the call's own. -/
theorem New.two {w wb w2 w3 : World} {d : Dat} {u : Value} (h : New wb w2 d u) (h0 : Chg [] w wb) {g0 g1 : Nat} (a0 : w.heap.size ≤ g0) (a1 : w.heap.size ≤ g1) (b0 : g0 < wb.heap.size) (b1 : g1 < wb.heap.size) (hc : Chg [g0, g1] w2 w3) : New w w3 d u := by
  obtain ⟨S, h1, h2, h3⟩ := h
  exact ⟨S, h1.keep hc (fun x hx => by have := h2 x hx; simp; omega), fun x hx => Nat.le_trans h0.size (h2 x hx), (h0.trans0 h3).trans hc (by simp; omega)⟩
/-- A part of one's own: its cells, and its layers, which can still grow. -/
def PartNew (p : PartT) (w w' : World) (s3 s5 : Value) : Prop := (∃ S3, Has w' (cells p.core.cells) s3 S3 ∧ ∀ x, x ∈ S3 → w.heap.size ≤ x ∧ x ∉ ownL s5) ∧ App w w' 89 2 s5 p.layers.length ((layerU p.layers).map Dat.v)
def PartGives (p : PartT) (w : World) (e : Ending) (w' : World) : Prop := ∃ A3 c3 A5 c5, e = .returned (.agg #[.string p.core.kind, .bool p.core.on, .bool p.core.broken, .slice A3 p.core.cells.length c3, .int .i64 p.core.count, .slice A5 p.layers.length c5]) ∧ PartNew p w w' (.slice A3 p.core.cells.length c3) (.slice A5 p.layers.length c5)
theorem ownL_mem {v : Value} {x : Nat} : x ∈ ownL v ↔ v.ownBlock = some x := by
  unfold ownL
  cases h : v.ownBlock with
  | none => simp
  | some k => simp [eq_comm]
theorem PartNew.mk {p : PartT} {w wb W w1 w2 w3 : World} {s3 s5 : Value} {g1 : Nat} {T : List Nat} (h0 : Chg [] w wb) (hW : Chg [] wb W) (n1 : New W w1 (cells p.core.cells) s3) (c12 : Chg T w1 w2) (hT : ∀ x, x ∈ T → x < W.heap.size ∨ w1.heap.size ≤ x)
    (hA : App wb w2 89 2 s5 p.layers.length ((layerU p.layers).map Dat.v)) (hs : ∀ x, x ∈ ownL s5 → x < W.heap.size ∨ w1.heap.size ≤ x) (hg : w.heap.size ≤ g1) (hg1 : g1 < wb.heap.size) (c23 : Chg [g1] w2 w3) : PartNew p w w3 s3 s5 := by
  obtain ⟨S, h1, h2, h3⟩ := n1
  have e0 := h0.size
  have eW := hW.size
  refine ⟨⟨S, (h1.keep c12 (fun x hx hxT => by have := h2 x hx; have := h1.lt x hx; have := hT x hxT; omega)).keep c23 (fun x hx => by simp; rintro rfl; have := h2 x hx; omega), fun x hx => ⟨by have := h2 x hx; omega, fun hxs => by have := h2 x hx; have := h1.lt x hx; have := hs x hxs; omega⟩⟩, hA.out h0 c23 hg hg1⟩
/-- A core of one's own is given. -/
def CoreGives (p : CoreT) (w : World) (e : Ending) (w' : World) : Prop := ∃ A cap, e = .returned (.agg #[.string p.kind, .bool p.on, .bool p.broken, .slice A p.cells.length cap, .int .i64 p.count]) ∧ New w w' (cells p.cells) (.slice A p.cells.length cap)
set_option maxRecDepth 100000 in
set_option maxHeartbeats 2000000 in
theorem copyCore_any (p : CoreT) (u3 : Value) (B : Nat) (w : World) (hl : p.cells.length ≤ 1048576) (r3 : Rd w B (cells p.cells) u3) (hB : B ≤ w.heap.size) :
    Calls Tryd.prog 93 #[.agg #[.string p.kind, .bool p.on, .bool p.broken, u3, .int .i64 p.count]] w (CoreGives p w) := by
  rw [cells_plain] at r3
  obtain ⟨A, cap, rfl, h0, h1, hrow⟩ := r3.plain
  unfold maxLen at h1
  have tt : w.heap.size < w.heap.size + 1 := Nat.lt_succ_self _
  have tt2 : w.heap.size < w.heap.size + 1 + 1 := by omega
  have HROW := Lib.hid hrow
  clear hrow
  go_enter Tryd.func93, Tryd.ntmps93
  go_wp2_with (at_builtin; refine wpList_appN rfl (.const (.slice none 0 0)) (.tmp 4) _ rfl rfl rfl (run_appN _ _ 132 _ 2 24 Tryd.underlying57 cell_info rfl (by omega) (App.nil ((w.alloc (.cells #[.string p.kind, .bool p.on, .bool p.broken, .slice A p.cells.length cap, .int .i64 p.count] 59)).alloc (.cells #[.string ⟨#[]⟩, .bool false, .bool false, .slice none 0 0, .int .i64 0] 59)) 132 2 (Chg.refl _ _)) (Chg.refl _ _) A p.cells.length cap (cellU p.cells) (cellU_len _) (fun hne => by obtain ⟨b, off, e, hb, hc⟩ := HROW.out hne; exact ⟨b, off, e, fun j x hj => ((((Chg.refl [] w).alloc _).alloc _).cell (p := ⟨b, off + j, none⟩) (show b < w.heap.size by omega) (by simp)).trans (hc j x hj)⟩) (cellU_one _) (by omega) (by omega)) ?_; rintro A2 cap2 w2 ⟨hA2, hc2, hat2⟩; have c2 : Chg [] _ w2 := hc2; obtain ⟨y2, z2, s2⟩ := c2.cells; have t2 : w.heap.size + 1 < w2.heap.size := (by simp at s2; omega); have t2' : w.heap.size < w2.heap.size := (by omega); have x3 : w2.cell? ⟨w.heap.size, 3, none⟩ = some (.slice A p.cells.length cap) := (by rw [y2 _ _ (by simp; omega)]; go_simp))
  refine bodyPost_ret (v := .agg #[.string p.kind, .bool p.on, .bool p.broken, .slice A2 p.cells.length cap2, .int .i64 p.count]) (by simp only [results, Tryd.results93]; go_simp) rfl ⟨A2, cap2, rfl, ?_⟩
  have hn := hA2.new
  rw [List.nil_append, Nat.zero_add, ← cells_plain] at hn
  exact hn.two ((Chg.refl _ _).alloc _ |>.alloc _) (g0 := w.heap.size) (g1 := w.heap.size + 1) (Nat.le_refl _) (by omega) (by simp; omega) (by simp) (by repeat (first | with_reducible exact Chg.refl _ _ | with_reducible refine Chg.setCell ?_ (.inl (by simp)) _))
set_option maxRecDepth 100000 in
set_option maxHeartbeats 2000000 in
theorem l3Copy_any (p : CoreT) (u3 : Value) (B : Nat) (w : World) (hl : p.cells.length ≤ 1048576) (r3 : Rd w B (cells p.cells) u3) (hB : B ≤ w.heap.size) :
    Calls Tryd.prog 89 #[.agg #[.string p.kind, .bool p.on, .bool p.broken, u3, .int .i64 p.count]] w (CoreGives p w) := by
  rw [cells_plain] at r3
  obtain ⟨A, cap, rfl, h0, h1, hrow⟩ := r3.plain
  unfold maxLen at h1
  have tt : w.heap.size < w.heap.size + 1 := Nat.lt_succ_self _
  have tt2 : w.heap.size < w.heap.size + 1 + 1 := by omega
  have HROW := Lib.hid hrow
  clear hrow
  go_enter Tryd.func89, Tryd.ntmps89
  go_wp2_with (at_builtin; refine wpList_appN rfl (.tmp 3) (.tmp 5) _ rfl rfl rfl (run_appN _ _ 132 _ 2 24 Tryd.underlying57 cell_info rfl (by omega) (App.emptyAt ((w.alloc (.cells #[.string p.kind, .bool p.on, .bool p.broken, .slice A p.cells.length cap, .int .i64 p.count] 59)).alloc (.cells #[.string ⟨#[]⟩, .bool false, .bool false, .slice none 0 0, .int .i64 0] 59)) 132 2 (w.heap.size + 1 + 1) (Chg.refl _ _) (by simp)) (Chg.refl _ _) A p.cells.length cap (cellU p.cells) (cellU_len _) (fun hne => by obtain ⟨b, off, e, hb, hc⟩ := HROW.out hne; exact ⟨b, off, e, fun j x hj => (((((Chg.refl [] w).alloc _).alloc _).alloc _).cell (p := ⟨b, off + j, none⟩) (show b < w.heap.size by omega) (by simp)).trans (hc j x hj)⟩) (cellU_one _) (by omega) (by omega)) ?_; rintro A2 cap2 w2 ⟨hA2, hc2, hat2⟩; have c2 : Chg [] _ w2 := hA2.chg; obtain ⟨y2, z2, s2⟩ := c2.cells; have t2 : w.heap.size + 1 < w2.heap.size := (by simp at s2; omega); have t2' : w.heap.size < w2.heap.size := (by omega); have x3 : w2.cell? ⟨w.heap.size, 3, none⟩ = some (.slice A p.cells.length cap) := (by rw [y2 _ _ (by simp; omega)]; go_simp))
  refine bodyPost_ret (v := .agg #[.string p.kind, .bool p.on, .bool p.broken, .slice A2 p.cells.length cap2, .int .i64 p.count]) (by simp only [results, Tryd.results89]; go_simp) rfl ⟨A2, cap2, rfl, ?_⟩
  have hn := hA2.new
  rw [List.nil_append, Nat.zero_add, ← cells_plain] at hn
  exact hn.two ((Chg.refl _ _).alloc _ |>.alloc _) (g0 := w.heap.size) (g1 := w.heap.size + 1) (Nat.le_refl _) (by omega) (by simp; omega) (by simp) (by repeat (first | with_reducible exact Chg.refl _ _ | with_reducible refine Chg.setCell ?_ (.inl (by simp)) _))
set_option maxRecDepth 100000 in
set_option maxHeartbeats 2000000 in
theorem copyPart_any (p : PartT) (u3 u5 : Value) (B : Nat) (w : World) (hl : p.layers.length ≤ 1048576) (hcl : p.core.cells.length ≤ 1048576) (r3 : Rd w B (cells p.core.cells) u3) (r5 : Rd w B (layers p.layers) u5) (hB : B ≤ w.heap.size) :
    Calls Tryd.prog 71 #[.agg #[.string p.core.kind, .bool p.core.on, .bool p.core.broken, u3, .int .i64 p.core.count, u5]] w (PartGives p w) := by
  obtain ⟨A3, cap3, rfl, _, _, _⟩ := cells_row r3
  rw [layers_plain] at r5
  obtain ⟨A5, cap5, rfl, h0, h1, hrow⟩ := r5.plain
  unfold maxLen at h1
  have tt : w.heap.size < w.heap.size + 1 := Nat.lt_succ_self _
  have tt2 : w.heap.size < w.heap.size + 1 + 1 := by omega
  have HROW := Lib.hid hrow
  have CC := Lib.hid (fun W (hW : Chg [] ((w.alloc (.cells #[.string p.core.kind, .bool p.core.on, .bool p.core.broken, .slice A3 p.core.cells.length cap3, .int .i64 p.core.count, .slice A5 p.layers.length cap5] 62)).alloc (.cells #[.string ⟨#[]⟩, .bool false, .bool false, .slice none 0 0, .int .i64 0, .slice none 0 0] 62)) W) => copyCore_any p.core _ B W hcl (r3.chg0 (((Chg.refl [] w).alloc _).alloc _ |>.trans0 hW) hB) (by have := hW.size; simp at this; omega))
  clear hrow r3 r5
  go_enter Tryd.func71, Tryd.ntmps71
  go_wp2_with fail
  go_region_law (first | (go_simp; go_at_call 93; (with_reducible refine (CC.out _ (by repeat (first | with_reducible exact Chg.refl _ _ | with_reducible exact n1.chg | with_reducible exact N1C | with_reducible exact hA2.chg | with_reducible refine Chg.drew ?_ | with_reducible refine Chg.alloc ?_ _))).mono ?_); rintro e w1 ⟨A4, cap4, rfl, n1⟩; have N1C : Chg [] ((w.alloc (.cells #[.string p.core.kind, .bool p.core.on, .bool p.core.broken, .slice A3 p.core.cells.length cap3, .int .i64 p.core.count, .slice A5 p.layers.length cap5] 62)).alloc (.cells #[.string ⟨#[]⟩, .bool false, .bool false, .slice none 0 0, .int .i64 0, .slice none 0 0] 62)) w1 := ((by repeat (first | with_reducible exact Chg.refl _ _ | with_reducible exact n1.chg | with_reducible exact N1C | with_reducible exact hA2.chg | with_reducible refine Chg.drew ?_ | with_reducible refine Chg.alloc ?_ _)) : Chg [] ((w.alloc (.cells #[.string p.core.kind, .bool p.core.on, .bool p.core.broken, .slice A3 p.core.cells.length cap3, .int .i64 p.core.count, .slice A5 p.layers.length cap5] 62)).alloc (.cells #[.string ⟨#[]⟩, .bool false, .bool false, .slice none 0 0, .int .i64 0, .slice none 0 0] 62)) _).trans0 n1.chg; obtain ⟨y1, z1, s1⟩ := N1C.cells; have s1' : w.heap.size + 1 + 1 ≤ w1.heap.size := (by simpa using s1); have t1 : w.heap.size + 1 < w1.heap.size := (by omega); have t1' : w.heap.size < w1.heap.size := (by omega); clear s1; simp only []) | (refine step_appN rfl (.const (.slice none 0 0)) (.tmp 7) _ rfl rfl rfl (run_appN _ _ 89 _ 2 24 Tryd.underlying60 layer_info rfl (by omega) (App.nil ((w.alloc (.cells #[.string p.core.kind, .bool p.core.on, .bool p.core.broken, .slice A3 p.core.cells.length cap3, .int .i64 p.core.count, .slice A5 p.layers.length cap5] 62)).alloc (.cells #[.string ⟨#[]⟩, .bool false, .bool false, .slice none 0 0, .int .i64 0, .slice none 0 0] 62)) 89 2 (by repeat (first | with_reducible exact Chg.refl _ _ | with_reducible exact n1.chg | with_reducible exact N1C | with_reducible exact hA2.chg | with_reducible refine Chg.drew ?_ | with_reducible refine Chg.alloc ?_ _))) (Chg.refl _ _) A5 p.layers.length cap5 (layerU p.layers) (layerU_len _) (fun hne => by obtain ⟨b, off, e, hb, hc⟩ := HROW.out hne; exact ⟨b, off, e, fun j x hj => ((((Chg.refl [] w).alloc _).alloc _ |>.trans0 (by repeat (first | with_reducible exact Chg.refl _ _ | with_reducible exact n1.chg | with_reducible exact N1C | with_reducible exact hA2.chg | with_reducible refine Chg.drew ?_ | with_reducible refine Chg.alloc ?_ _))).cell (p := ⟨b, off + j, none⟩) (show b < w.heap.size by omega) (by simp)).trans (hc j x hj)⟩) (layerU_one _) (by omega) (by omega)) ?_; rintro A6 cap6 w2 ⟨hA2, hc2, hat2⟩; simp only [Nat.zero_add, List.nil_append] at hA2 hat2; obtain ⟨y2, z2, s2⟩ := hA2.chg.cells; have s2' : w.heap.size + 1 + 1 ≤ w2.heap.size := (by simpa using s2); have t2 : w.heap.size + 1 < w2.heap.size := (by omega); have t2' : w.heap.size < w2.heap.size := (by omega); clear s2; simp only []) | fail)
  all_goals
    go_wp2_with fail
    refine bodyPost_ret (v := .agg #[.string p.core.kind, .bool p.core.on, .bool p.core.broken, .slice A4 p.core.cells.length cap4, .int .i64 p.core.count, .slice A6 p.layers.length cap6]) (by simp only [results, Tryd.results71]; go_simp) rfl ⟨A4, cap4, A6, cap6, rfl, ?_⟩
    refine PartNew.mk (wb := ((w.alloc (.cells #[.string p.core.kind, .bool p.core.on, .bool p.core.broken, .slice A3 p.core.cells.length cap3, .int .i64 p.core.count, .slice A5 p.layers.length cap5] 62)).alloc (.cells #[.string ⟨#[]⟩, .bool false, .bool false, .slice none 0 0, .int .i64 0, .slice none 0 0] 62))) (g1 := w.heap.size + 1) (((Chg.refl _ _).alloc _).alloc _) (by repeat (first | with_reducible exact Chg.refl _ _ | with_reducible refine Chg.drew ?_ | with_reducible refine Chg.alloc ?_ _)) n1 (T := _) hc2 (by intro x hx; simp [ownL, Value.ownBlock] at hx) hA2 (fun x hx => by rw [ownL_mem] at hx; rcases hat2 with h | h <;> (rw [hx] at h; simp [Value.ownBlock] at h); exact .inr (by omega)) (by omega) (by simp) (by repeat (first | with_reducible exact Chg.refl _ _ | with_reducible refine Chg.setCell ?_ (.inl (by simp)) _))
set_option maxRecDepth 100000 in
set_option maxHeartbeats 2000000 in
theorem l4Copy_any (p : PartT) (u3 u5 : Value) (B : Nat) (w : World) (hl : p.layers.length ≤ 1048576) (hcl : p.core.cells.length ≤ 1048576) (r3 : Rd w B (cells p.core.cells) u3) (r5 : Rd w B (layers p.layers) u5) (hB : B ≤ w.heap.size) :
    Calls Tryd.prog 65 #[.agg #[.string p.core.kind, .bool p.core.on, .bool p.core.broken, u3, .int .i64 p.core.count, u5]] w (PartGives p w) := by
  obtain ⟨A3, cap3, rfl, _, _, _⟩ := cells_row r3
  rw [layers_plain] at r5
  obtain ⟨A5, cap5, rfl, h0, h1, hrow⟩ := r5.plain
  unfold maxLen at h1
  have tt : w.heap.size < w.heap.size + 1 := Nat.lt_succ_self _
  have tt2 : w.heap.size < w.heap.size + 1 + 1 := by omega
  have HROW := Lib.hid hrow
  have CC := Lib.hid (fun W (hW : Chg [] ((w.alloc (.cells #[.string p.core.kind, .bool p.core.on, .bool p.core.broken, .slice A3 p.core.cells.length cap3, .int .i64 p.core.count, .slice A5 p.layers.length cap5] 62)).alloc (.cells #[.string ⟨#[]⟩, .bool false, .bool false, .slice none 0 0, .int .i64 0, .slice none 0 0] 62)) W) => l3Copy_any p.core _ B W hcl (r3.chg0 (((Chg.refl [] w).alloc _).alloc _ |>.trans0 hW) hB) (by have := hW.size; simp at this; omega))
  clear hrow r3 r5
  go_enter Tryd.func65, Tryd.ntmps65
  go_wp2_with fail
  go_region_law (first | (go_simp; go_at_call 89; (with_reducible refine (CC.out _ (by repeat (first | with_reducible exact Chg.refl _ _ | with_reducible exact n1.chg | with_reducible exact N1C | with_reducible exact hA2.chg | with_reducible refine Chg.drew ?_ | with_reducible refine Chg.alloc ?_ _))).mono ?_); rintro e w1 ⟨A4, cap4, rfl, n1⟩; have N1C : Chg [] ((w.alloc (.cells #[.string p.core.kind, .bool p.core.on, .bool p.core.broken, .slice A3 p.core.cells.length cap3, .int .i64 p.core.count, .slice A5 p.layers.length cap5] 62)).alloc (.cells #[.string ⟨#[]⟩, .bool false, .bool false, .slice none 0 0, .int .i64 0, .slice none 0 0] 62)) w1 := ((by repeat (first | with_reducible exact Chg.refl _ _ | with_reducible exact n1.chg | with_reducible exact N1C | with_reducible exact hA2.chg | with_reducible refine Chg.drew ?_ | with_reducible refine Chg.alloc ?_ _)) : Chg [] ((w.alloc (.cells #[.string p.core.kind, .bool p.core.on, .bool p.core.broken, .slice A3 p.core.cells.length cap3, .int .i64 p.core.count, .slice A5 p.layers.length cap5] 62)).alloc (.cells #[.string ⟨#[]⟩, .bool false, .bool false, .slice none 0 0, .int .i64 0, .slice none 0 0] 62)) _).trans0 n1.chg; obtain ⟨y1, z1, s1⟩ := N1C.cells; have s1' : w.heap.size + 1 + 1 ≤ w1.heap.size := (by simpa using s1); have t1 : w.heap.size + 1 < w1.heap.size := (by omega); have t1' : w.heap.size < w1.heap.size := (by omega); clear s1; simp only []) | (refine step_appN rfl (.tmp 6) (.tmp 8) _ rfl rfl rfl (run_appN _ _ 89 _ 2 24 Tryd.underlying60 layer_info rfl (by omega) (App.emptyAt ((w.alloc (.cells #[.string p.core.kind, .bool p.core.on, .bool p.core.broken, .slice A3 p.core.cells.length cap3, .int .i64 p.core.count, .slice A5 p.layers.length cap5] 62)).alloc (.cells #[.string ⟨#[]⟩, .bool false, .bool false, .slice none 0 0, .int .i64 0, .slice none 0 0] 62)) 89 2 _ (by repeat (first | with_reducible exact Chg.refl _ _ | with_reducible exact n1.chg | with_reducible exact N1C | with_reducible exact hA2.chg | with_reducible refine Chg.drew ?_ | with_reducible refine Chg.alloc ?_ _)) (by simp)) (Chg.refl _ _) A5 p.layers.length cap5 (layerU p.layers) (layerU_len _) (fun hne => by obtain ⟨b, off, e, hb, hc⟩ := HROW.out hne; exact ⟨b, off, e, fun j x hj => ((((Chg.refl [] w).alloc _).alloc _ |>.trans0 (by repeat (first | with_reducible exact Chg.refl _ _ | with_reducible exact n1.chg | with_reducible exact N1C | with_reducible exact hA2.chg | with_reducible refine Chg.drew ?_ | with_reducible refine Chg.alloc ?_ _))).cell (p := ⟨b, off + j, none⟩) (show b < w.heap.size by omega) (by simp)).trans (hc j x hj)⟩) (layerU_one _) (by omega) (by omega)) ?_; rintro A6 cap6 w2 ⟨hA2, hc2, hat2⟩; simp only [Nat.zero_add, List.nil_append] at hA2 hat2; obtain ⟨y2, z2, s2⟩ := hA2.chg.cells; have s2' : w.heap.size + 1 + 1 ≤ w2.heap.size := (by simpa using s2); have t2 : w.heap.size + 1 < w2.heap.size := (by omega); have t2' : w.heap.size < w2.heap.size := (by omega); clear s2; simp only []) | (refine step_appN rfl (.tmp 6) (.tmp 8) _ rfl rfl rfl (run_appN _ _ 89 _ 2 24 Tryd.underlying60 layer_info rfl (by omega) ((App.emptyAt ((w.alloc (.cells #[.string p.core.kind, .bool p.core.on, .bool p.core.broken, .slice A3 p.core.cells.length cap3, .int .i64 p.core.count, .slice A5 p.layers.length cap5] 62)).alloc (.cells #[.string ⟨#[]⟩, .bool false, .bool false, .slice none 0 0, .int .i64 0, .slice none 0 0] 62)) 89 2 _ (Chg.refl _ _) (by simp)).later n1.chg) (Chg.refl _ _) A5 p.layers.length cap5 (layerU p.layers) (layerU_len _) (fun hne => by obtain ⟨b, off, e, hb, hc⟩ := HROW.out hne; exact ⟨b, off, e, fun j x hj => ((((Chg.refl [] w).alloc _).alloc _ |>.trans0 (by repeat (first | with_reducible exact Chg.refl _ _ | with_reducible exact n1.chg | with_reducible exact N1C | with_reducible exact hA2.chg | with_reducible refine Chg.drew ?_ | with_reducible refine Chg.alloc ?_ _))).cell (p := ⟨b, off + j, none⟩) (show b < w.heap.size by omega) (by simp)).trans (hc j x hj)⟩) (layerU_one _) (by omega) (by omega)) ?_; rintro A6 cap6 w2 ⟨hA2, hc2, hat2⟩; simp only [Nat.zero_add, List.nil_append] at hA2 hat2; obtain ⟨y2, z2, s2⟩ := hA2.chg.cells; have s2' : w.heap.size + 1 + 1 ≤ w2.heap.size := (by simpa using s2); have t2 : w.heap.size + 1 < w2.heap.size := (by omega); have t2' : w.heap.size < w2.heap.size := (by omega); clear s2; simp only []) | (refine step_appN rfl (.tmp 6) (.tmp 8) _ rfl rfl rfl (run_appN _ _ 89 _ 2 24 Tryd.underlying60 layer_info rfl (by omega) ((App.emptyAt ((w.alloc (.cells #[.string p.core.kind, .bool p.core.on, .bool p.core.broken, .slice A3 p.core.cells.length cap3, .int .i64 p.core.count, .slice A5 p.layers.length cap5] 62)).alloc (.cells #[.string ⟨#[]⟩, .bool false, .bool false, .slice none 0 0, .int .i64 0, .slice none 0 0] 62)) 89 2 _ (Chg.refl _ _) (by simp)).later ((Chg.refl [] _).drew.trans0 n1.chg)) (Chg.refl _ _) A5 p.layers.length cap5 (layerU p.layers) (layerU_len _) (fun hne => by obtain ⟨b, off, e, hb, hc⟩ := HROW.out hne; exact ⟨b, off, e, fun j x hj => ((((Chg.refl [] w).alloc _).alloc _ |>.trans0 (by repeat (first | with_reducible exact Chg.refl _ _ | with_reducible exact n1.chg | with_reducible exact N1C | with_reducible exact hA2.chg | with_reducible refine Chg.drew ?_ | with_reducible refine Chg.alloc ?_ _))).cell (p := ⟨b, off + j, none⟩) (show b < w.heap.size by omega) (by simp)).trans (hc j x hj)⟩) (layerU_one _) (by omega) (by omega)) ?_; rintro A6 cap6 w2 ⟨hA2, hc2, hat2⟩; simp only [Nat.zero_add, List.nil_append] at hA2 hat2; obtain ⟨y2, z2, s2⟩ := hA2.chg.cells; have s2' : w.heap.size + 1 + 1 ≤ w2.heap.size := (by simpa using s2); have t2 : w.heap.size + 1 < w2.heap.size := (by omega); have t2' : w.heap.size < w2.heap.size := (by omega); clear s2; simp only []) | fail)
  all_goals
    go_wp2_with fail
    refine bodyPost_ret (v := .agg #[.string p.core.kind, .bool p.core.on, .bool p.core.broken, .slice A4 p.core.cells.length cap4, .int .i64 p.core.count, .slice A6 p.layers.length cap6]) (by simp only [results, Tryd.results65]; go_simp) rfl ⟨A4, cap4, A6, cap6, rfl, ?_⟩
    refine PartNew.mk (wb := ((w.alloc (.cells #[.string p.core.kind, .bool p.core.on, .bool p.core.broken, .slice A3 p.core.cells.length cap3, .int .i64 p.core.count, .slice A5 p.layers.length cap5] 62)).alloc (.cells #[.string ⟨#[]⟩, .bool false, .bool false, .slice none 0 0, .int .i64 0, .slice none 0 0] 62))) (g1 := w.heap.size + 1) (((Chg.refl _ _).alloc _).alloc _) (by repeat (first | with_reducible exact Chg.refl _ _ | with_reducible refine Chg.drew ?_ | with_reducible refine Chg.alloc ?_ _)) n1 (T := _) (by first | exact hc2 | exact Chg.trans1 (by repeat (first | with_reducible exact Chg.refl _ _ | with_reducible refine Chg.drew ?_ | with_reducible refine Chg.alloc ?_ _)) hc2) (by intro x hx; rw [ownL_mem] at hx; simp [Value.ownBlock] at hx; subst hx; first | (refine .inl ?_; simp; done) | (refine .inr ?_; simp; done) | (refine .inr ?_; simp; omega) | (refine .inl ?_; simp; omega)) hA2 (fun x hx => by rw [ownL_mem] at hx; rcases hat2 with h | h <;> (rw [hx] at h; simp [Value.ownBlock] at h; subst h; first | (refine .inl ?_; simp; done) | (refine .inr ?_; simp; done) | (refine .inr ?_; simp; omega) | (refine .inl ?_; simp; omega))) (by omega) (by simp) (by repeat (first | with_reducible exact Chg.refl _ _ | with_reducible refine Chg.setCell ?_ (.inl (by simp)) _))
end Go.Proofs.YtapmknkelihacaaDoor
