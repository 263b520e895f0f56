/- RecipeOf of both packages: the names of a part's kind and of its layers. Written by a program. -/
import Derived.Test.YtapmknkelihacaaDoorTPart
import Derived.Test.YtapmknkelihacaaDoorApp
import Derived.Test.YtapmknkelihacaaDoorStrs2
namespace Go.Proofs.YtapmknkelihacaaDoor
open Go.RowKit

theorem App.one (w0 : World) (e : TypeId) {w : World} (x : Value) (h : Chg [] w0 w) : App w0 (w.alloc (.cells #[x] e)) e 1 (.slice (some ⟨w.heap.size, 0, none⟩) 1 1) 1 [.v x] :=
  ⟨[x], [], ⟨by simp, .inr ⟨w.heap.size, 1, #[x], rfl, h.size, heap_alloc_new w _, Nat.le_refl _, by simp [maxLen], rfl, by simp⟩⟩, (HasL.cons_v (HasL.nil _)).1, List.nodup_nil, by simp, by simp, h.alloc _⟩
/-- The recipe of a part. -/
def recipe (p : PartT) : List ByteArray := p.core.kind :: p.layers.map (·.name)
theorem recipe_W (p : PartT) : strsW (recipe p) ≤ 1 + partW p := by
  unfold strsW strsW1 recipe partW coreW layersW layersW1
  rw [List.length_cons, List.map_cons, List.sum_cons, List.length_map, List.map_map]
  have e : (ByteArray.size ∘ fun x : LayerT => x.name) = layerW := rfl
  rw [e]
  omega
set_option maxRecDepth 100000 in
set_option maxHeartbeats 1000000 in
theorem recipeOf_spec_any (p : PartT) (u3 u5 : Value) (B : Nat) (w : World) (hl : p.layers.length ≤ 1048576) (r5 : Rd w B (layers p.layers) u5) (hB : B ≤ w.heap.size) :
    Calls Tryd.prog 38 #[.agg #[.string p.core.kind, .bool p.core.on, .bool p.core.broken, u3, .int .i64 p.core.count, u5]] w (Gives (strs (recipe p)) w) := by
  obtain ⟨A, cap, rfl, h0, h1, hrow⟩ := layers_row r5
  unfold maxLen at h1
  clear r5
  go_enter Tryd.func38, Tryd.ntmps38
  go_wp2_with fail
  go_loopw [3, 13] (fun v i wr => ∃ (k : Nat) (A' : Option Addr) (cap' : Nat), k ≤ p.layers.length ∧ i = .int .i64 k ∧ v = .slice A' (k + 1) cap' ∧ App w wr 9 1 (.slice A' (k + 1) cap') (k + 1) ((p.core.kind :: (p.layers.take k).map (·.name)).flatMap strC)) (fun _ i _ => p.layers.length - (intOf i).toNat)
  case atStart => exact ⟨0, _, 1, Nat.zero_le _, rfl, rfl, by have := App.one w 9 (.string p.core.kind) ((Chg.refl [] w).alloc (.cells #[.string p.core.kind, .bool p.core.on, .bool p.core.broken, u3, .int .i64 p.core.count, .slice A p.layers.length cap] 62)); simpa [strC] using this⟩
  case round =>
    obtain ⟨k, A', cap', hk, rfl, rfl, hh⟩ := hrel
    by_cases hlt : k < p.layers.length
    · obtain ⟨b, off, rfl, hb, q0, q1⟩ := layers_cells (hrow.chg0 hh.chg hB) k hlt
      have hsz := hh.chg.size
      go_wp2_with (at_builtin; refine wpList_app rfl (.tmp 17) (.tmp 20) _ rfl 9 _ 1 16 Tryd.underlying22 string_info rfl (by omega) hh (us := [.string p.layers[k].name]) (dsE := strC p.layers[k].name) ⟨[], HasL.cons_v (HasL.nil _), by simp, ((Chg.refl _ _).alloc _).alloc _⟩ rfl (wr.heap.size + 1) 1 rfl rfl (by intro j u hj; cases j with | zero => cases hj; go_simp | succ j => simp at hj) (by intro u hu; simp at hu; subst hu; rfl) (by omega) (by omega) ?_; intro A2 cap2 w2 hA2)
      go_roundw
      case rel => exact ⟨k + 1, A2, cap2, by omega, by go_num, by go_num, by rw [List.take_succ_eq_append_getElem hlt, List.map_append, ← List.cons_append, List.flatMap_append]; simpa using hA2⟩
      case measure => simp [intOf]; omega
    · obtain rfl : k = p.layers.length := by omega
      rw [List.take_length] at hh
      go_wp2_with fail
      go_ret
      exact ⟨_, rfl, by have := hh.new; unfold strs recipe; rw [List.length_cons, List.length_map]; exact this⟩
set_option maxRecDepth 100000 in
set_option maxHeartbeats 1000000 in
theorem recipeOf_impl_any (p : PartT) (u3 u5 : Value) (B : Nat) (w : World) (hl : p.layers.length ≤ 1048576) (r5 : Rd w B (layers p.layers) u5) (hB : B ≤ w.heap.size) :
    Calls Tryd.prog 40 #[.agg #[.string p.core.kind, .bool p.core.on, .bool p.core.broken, u3, .int .i64 p.core.count, u5]] w (Gives (strs (recipe p)) w) := by
  obtain ⟨A, cap, rfl, h0, h1, hrow⟩ := layers_row r5
  unfold maxLen at h1
  clear r5
  go_enter Tryd.func40, Tryd.ntmps40
  go_wp2_with fail
  go_loopw [3, 13] (fun v i wr => ∃ (k : Nat) (A' : Option Addr) (cap' : Nat), k ≤ p.layers.length ∧ i = .int .i64 k ∧ v = .slice A' (k + 1) cap' ∧ App w wr 9 1 (.slice A' (k + 1) cap') (k + 1) ((p.core.kind :: (p.layers.take k).map (·.name)).flatMap strC)) (fun _ i _ => p.layers.length - (intOf i).toNat)
  case atStart => exact ⟨0, _, 1, Nat.zero_le _, rfl, rfl, by have := App.one w 9 (.string p.core.kind) ((Chg.refl [] w).alloc (.cells #[.string p.core.kind, .bool p.core.on, .bool p.core.broken, u3, .int .i64 p.core.count, .slice A p.layers.length cap] 62)); simpa [strC] using this⟩
  case round =>
    obtain ⟨k, A', cap', hk, rfl, rfl, hh⟩ := hrel
    by_cases hlt : k < p.layers.length
    · obtain ⟨b, off, rfl, hb, q0, q1⟩ := layers_cells (hrow.chg0 hh.chg hB) k hlt
      have hsz := hh.chg.size
      go_wp2_with (at_builtin; refine wpList_app rfl (.tmp 17) (.tmp 20) _ rfl 9 _ 1 16 Tryd.underlying22 string_info rfl (by omega) hh (us := [.string p.layers[k].name]) (dsE := strC p.layers[k].name) ⟨[], HasL.cons_v (HasL.nil _), by simp, ((Chg.refl _ _).alloc _).alloc _⟩ rfl (wr.heap.size + 1) 1 rfl rfl (by intro j u hj; cases j with | zero => cases hj; go_simp | succ j => simp at hj) (by intro u hu; simp at hu; subst hu; rfl) (by omega) (by omega) ?_; intro A2 cap2 w2 hA2)
      go_roundw
      case rel => exact ⟨k + 1, A2, cap2, by omega, by go_num, by go_num, by rw [List.take_succ_eq_append_getElem hlt, List.map_append, ← List.cons_append, List.flatMap_append]; simpa using hA2⟩
      case measure => simp [intOf]; omega
    · obtain rfl : k = p.layers.length := by omega
      rw [List.take_length] at hh
      go_wp2_with fail
      go_ret
      exact ⟨_, rfl, by have := hh.new; unfold strs recipe; rw [List.length_cons, List.length_map]; exact this⟩
end Go.Proofs.YtapmknkelihacaaDoor
