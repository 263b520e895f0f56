/- Recipes of shapes, of the program: recipesOf, IsShapes. -/
import Derived.Test.YtapmknkelihacaaDoorShp
import Derived.Test.YtapmknkelihacaaDoorSplitLib
import Derived.Test.YtapmknkelihacaaDoorShSplit
namespace Go.Proofs.YtapmknkelihacaaDoor
open Go.RowKit

theorem fillOk_shapes (l : List ByteArray) : FillOk (l.map rcp) ↔ ShapesOk l := by
  have hne : ∀ s : ByteArray, rcp s = [] ↔ s.size = 0 := by
    intro s
    unfold rcp
    split
    · rename_i h; simp [h]
    · rename_i h
      have : splitS 32 s ≠ [] := by
        unfold splitS
        cases s.data.toList with
        | nil => simp [spAux]
        | cons b r =>
          rw [spAux]
          split
          · simp
          · intro h0
            have := List.map_eq_nil_iff.1 h0
            have hl : ∀ (l cur : List UInt8), spAux 32 cur l ≠ [] := by
              intro l
              induction l with
              | nil => intro cur; simp [spAux]
              | cons b l ih =>
                intro cur
                rw [spAux]
                split
                · simp
                · exact ih _
            exact hl _ _ this
      simp [h, this]
  have hs : ∀ s : ByteArray, (slotOf (rcp s)).isSome = true ↔ (s.size = 0 ∨ (makeOf (rcp s)).2.code = 0) := by
    intro s
    cases h : rcp s with
    | nil => simp [slotOf_nil, (hne s).1 h]
    | cons k r =>
      have h0 : ¬ s.size = 0 := fun h0 => by rw [(hne s).2 h0] at h; cases h
      rw [slotOf]
      split
      · rename_i hc; simp [hc]
      · rename_i hc; simp [hc, h0]
  unfold FillOk ShapesOk
  rw [List.length_map]
  refine and_congr Iff.rfl ⟨fun h k hk => (hs _).1 (h _ (List.mem_map.2 ⟨_, List.getElem_mem hk, rfl⟩)), fun h x hx => ?_⟩
  obtain ⟨s, hm, rfl⟩ := List.mem_map.1 hx
  obtain ⟨k, hk, rfl⟩ := List.mem_iff_getElem.1 hm
  exact (hs _).2 (h k hk)
/-- A block of strings, just laid. -/
theorem new_strs (w : World) (l : List ByteArray) (e : TypeId) (h : l.length ≤ maxLen) : New w (w.alloc (.cells (l.map Value.string).toArray e)) (strs l) (.slice (some ⟨w.heap.size, 0, none⟩) l.length l.length) := by
  refine ⟨[w.heap.size], ⟨?_, by simp⟩, by simp, (Chg.refl _ _).alloc _⟩
  unfold strs
  have hc : l.flatMap strC = (l.map Value.string).map Dat.v := by
    induction l with
    | nil => rfl
    | cons a l ih => simp [strC, ih (by simp at h; omega)]
  rw [hc, Own]
  refine .inr ⟨w.heap.size, l.length, _, e, l.map Value.string, [], rfl, Nat.le_refl _, h, heap_alloc_new w _, ?_, by simp, OwnL.plainN _ _, rfl⟩
  simp
  exact List.take_of_length_le (by simp)
theorem strs1_info : (Tryd.prog.info? 22).map (fun i => (i.zero, i.size, i.bytes)) = some (some (.slice none 0 0), 1, 24) := by kernel_rfl
set_option maxRecDepth 100000 in
set_option maxHeartbeats 2000000 in
theorem recipesOf_any (l : List ByteArray) (u : Value) (B : Nat) (w : World) (m : Int) (hm : w.cell? ⟨1, 0, none⟩ = some (.int .i64 m)) (hw : 1 < w.heap.size) (r : Rd w B (strs l) u) (hB : B ≤ w.heap.size) (hl : l.length ≤ 1048576) (hs : ∀ s ∈ l, s.size ≤ 1048575) :
    Calls Tryd.prog 19 #[u] w (Gives (strss (l.map rcp)) w) := by
  obtain ⟨A, cap, rfl, h0, h1, hrow⟩ := strs_row r
  unfold maxLen at h1
  clear r
  go_enter Tryd.func19, Tryd.ntmps19
  go_wp2_with fail
  go_loopw [3, 8] (fun v i wr => ∃ (j : Nat) (A' : Option Addr) (cap' : Nat), j ≤ l.length ∧ i = .int .i64 j ∧ v = .slice A' j cap' ∧ App w wr 22 1 (.slice A' j cap') j (((l.take j).map rcp).flatMap strssC)) (fun _ i _ => l.length - (intOf i).toNat)
  case atStart => exact ⟨0, none, 0, Nat.zero_le _, rfl, rfl, App.nil w _ _ (Chg.refl _ _)⟩
  case round =>
    obtain ⟨j, A', cap', hj, rfl, rfl, hh⟩ := hrel
    have HA := Lib.hid hh
    have hcg := hh.chg
    have hsz := hcg.size
    have hmr : wr.cell? ⟨1, 0, none⟩ = some (.int .i64 m) := (hcg.cell (p := ⟨1, 0, none⟩) hw (by simp)).trans hm
    clear hh
    by_cases hlt : j < l.length
    · obtain ⟨b, off, rfl, hb, q0⟩ := strs_cells (hrow.chg0 hcg hB) j hlt
      have hsj := hs _ (List.getElem_mem hlt)
      cases hz : (l[j].toList == [])
      · have hr : rcp l[j] = splitS 32 l[j] := by unfold rcp; rw [if_neg (empty_list_not hz)]
        have hlen := rcp_len l[j]
        have SP := Tryd.strings_Split l[j] ⟨#[32]⟩ m wr (by omega) hmr (by decide)
        rw [splitB_one 32 _ _ rfl, ← hr] at SP
        have hcn : Lib.countB l[j] ⟨#[32]⟩ + 1 = (rcp l[j]).length := by rw [hr, ← splitB_one 32 _ _ rfl, Lib.splitB_all _ (by decide) _ _ _ rfl]
        rw [hcn] at SP
        have SP := Lib.hid SP
        clear hr hcn
        go_wp2_with fail
        refine SP.out.mono ?_
        rintro e w2 ⟨rfl, hw2⟩
        have n2 := new_strs wr (rcp l[j]) 9 (by unfold maxLen; omega)
        rw [← hw2] at n2
        have N2 := Lib.hid n2
        have c2 := n2.chg
        have HW := Lib.hid hw2
        clear n2 hw2
        have nl : NewL wr (w2.alloc (.cells #[.slice (some ⟨wr.heap.size, 0, none⟩) (rcp l[j]).length (rcp l[j]).length] 22)) (strssC (rcp l[j])) [.slice (some ⟨wr.heap.size, 0, none⟩) (rcp l[j]).length (rcp l[j]).length] := ((N2.out.later ((Chg.refl _ _).alloc _)).elim fun S x => ⟨S, HasL.one x.1, x.2⟩)
        have NLH := Lib.hid nl
        clear nl
        go_wp2_with (at_builtin; refine wpList_app rfl (.tmp 17) (.tmp 20) _ rfl 22 _ 1 24 Tryd.underlying43 strs1_info rfl (by omega) HA.out (us := [.slice (some ⟨wr.heap.size, 0, none⟩) (rcp l[j]).length (rcp l[j]).length]) (dsE := strssC (rcp l[j])) NLH.out rfl w2.heap.size 1 rfl rfl (by intro i u hi; exact cell_litAt _ _ _ _ rfl (by simpa using hi)) (by intro u hu; simp at hu; subst hu; rfl) (by omega) (by omega) ?_; intro A2 cap2 w5 hA2)
        go_roundw
        case rel => exact ⟨j + 1, A2, cap2, by omega, by go_num, by go_num, by rw [List.take_succ_eq_append_getElem hlt, List.map_append, List.flatMap_append]; simpa using hA2⟩
        case measure => simp [intOf]; omega
      · have hr : rcp l[j] = [] := by unfold rcp; rw [if_pos (empty_list hz)]
        have nl : NewL wr (wr.alloc (.cells #[.slice none 0 0] 22)) (strssC (rcp l[j])) [.slice none 0 0] := by rw [hr]; exact ⟨[], HasL.cons_nil (HasL.nil _), by simp, (Chg.refl _ _).alloc _⟩
        have NLH := Lib.hid nl
        clear nl hr
        go_wp2_with (at_builtin; refine wpList_app rfl (.tmp 14) (.tmp 15) _ rfl 22 _ 1 24 Tryd.underlying43 strs1_info rfl (by omega) HA.out (us := [.slice none 0 0]) (dsE := strssC (rcp l[j])) NLH.out rfl wr.heap.size 1 rfl rfl (by intro i u hi; exact cell_litAt _ _ _ _ rfl (by simpa using hi)) (by intro u hu; simp at hu; subst hu; rfl) (by omega) (by omega) ?_; intro A2 cap2 w5 hA2)
        go_roundw
        case rel => exact ⟨j + 1, A2, cap2, by omega, by go_num, by go_num, by rw [List.take_succ_eq_append_getElem hlt, List.map_append, List.flatMap_append]; simpa using hA2⟩
        case measure => simp [intOf]; omega
    · obtain rfl : j = l.length := by omega
      have HA2 := HA.out
      rw [List.take_length] at HA2
      go_wp2_with fail
      go_ret
      exact ⟨_, rfl, by have := HA2.new; unfold strss; rw [List.length_map]; exact this⟩
set_option maxRecDepth 100000 in
set_option maxHeartbeats 1000000 in
theorem isShapes_impl_any (l : List ByteArray) (u : Value) (B : Nat) (w : World) (m : Int) (hm : w.cell? ⟨1, 0, none⟩ = some (.int .i64 m)) (hw : 1 < w.heap.size) (r : Rd w B (strs l) u) (hB : B ≤ w.heap.size) (hl : l.length ≤ 1048576) (hs : ∀ s ∈ l, s.size ≤ 1048575) :
    Calls Tryd.prog 8 #[u] w (BoolPost (ShapesOk l) w) := by
  have ro := recipesOf_any l u B w m hm hw r hB hl hs
  obtain ⟨x, hx⟩ : ∃ x, x = l.map rcp := ⟨_, rfl⟩
  rw [← hx] at ro
  have RO := Lib.hid ro
  have hxl : x.length ≤ 1048576 := by rw [hx, List.length_map]; exact hl
  have hxs : ∀ y ∈ x, y.length ≤ 1048576 := fun y hy => by
    rw [hx] at hy
    obtain ⟨s, hsm, rfl⟩ := List.mem_map.1 hy
    have := rcp_len s
    have := hs s hsm
    omega
  have HX := Lib.hid hx
  clear ro hx
  obtain ⟨A, cap, rfl, _, _, _⟩ := strs_row r
  go_enter Tryd.func8, Tryd.ntmps8
  go_wp2_with fail
  refine RO.out.mono ?_
  intro e w1 G1
  obtain ⟨A1, cap1, rfl, n1⟩ := G1.sl
  have c1 := n1.chg
  have FS := Lib.hid (fillSlots_impl_any x _ w1.heap.size w1 hxl hxs n1.rd (Nat.le_refl _))
  clear n1
  go_wp2_with fail
  refine FS.out.mono ?_
  rintro e w2 ⟨A2, cap2, rfl, n2⟩
  have c2 := n2.chg
  clear n2
  go_wp2_with fail
  go_ret
  refine ⟨_, rfl, ?_, c1.trans0 c2⟩
  rw [← fillOk_shapes, ← HX.out]
  by_cases h : FillOk x
  · rw [fillRes_ok h]; simp [h]
  · rw [fillRes_no h]; simp [h]
end Go.Proofs.YtapmknkelihacaaDoor
