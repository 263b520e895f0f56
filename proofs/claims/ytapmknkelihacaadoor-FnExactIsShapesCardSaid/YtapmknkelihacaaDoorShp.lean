/- Recipes of shapes, of the reference: l9Recipe, RecipeFace, IsShapes. -/
import Derived.Test.YtapmknkelihacaaDoorSplit
import Derived.Test.YtapmknkelihacaaDoorFill2
namespace Go.Proofs.YtapmknkelihacaaDoor
open Go.RowKit

/-- The recipe of a shape. -/
def rcp (s : ByteArray) : List ByteArray := if s.size = 0 then [] else splitS 32 s
theorem rcp_len (s : ByteArray) : (rcp s).length ≤ s.size + 1 := by
  unfold rcp
  split
  · simp
  · unfold splitS
    rw [List.length_map]
    have := spAux_len 32 s.data.toList []
    rw [size_list] at this
    exact this
open Classical in
noncomputable def faceRes (l : List ByteArray) : Int × Bool := if (makeOf l).2.code = 0 then ((makeOf l).2.value, true) else (0, false)
def ShapesOk (l : List ByteArray) : Prop := l.length = 3 ∧ ∀ (k : Nat) (h : k < l.length), l[k].size = 0 ∨ (makeOf (rcp l[k])).2.code = 0
theorem empty_list {s : ByteArray} (h : (s.toList == []) = true) : s.size = 0 := by
  have h1 := beq_iff_eq.1 h
  rw [ByteArray.toList_eq] at h1
  rw [← size_list, h1]
  rfl
theorem empty_list_not {s : ByteArray} (h : (s.toList == []) = false) : ¬ s.size = 0 := fun h0 => by
  rw [ByteArray.toList_eq, List.eq_nil_of_length_eq_zero ((size_list s).trans h0)] at h
  cases h
set_option maxRecDepth 100000 in
set_option maxHeartbeats 1000000 in
theorem l9Recipe_any (s : ByteArray) (w : World) (hs : s.size ≤ 1048576) :
    Calls Tryd.prog 17 #[.string s] w (Gives (strs (rcp s)) w) := by
  have SP := Lib.hid (fun W => splitAt_one_any s 32 W hs)
  cases hb : (s.toList == [])
  · have HZ := Lib.hid (empty_list_not hb)
    go_enter Tryd.func17, Tryd.ntmps17
    go_wp2_with fail
    refine (SP.out _).mono ?_
    intro e w1 G1
    obtain ⟨A1, cap1, rfl, n1⟩ := G1.sl
    go_wp2_with fail
    go_ret
    have hr : rcp s = splitS 32 s := by unfold rcp; rw [if_neg HZ.out]
    rw [hr]
    exact ⟨_, rfl, n1⟩
  · have HZ := Lib.hid (empty_list hb)
    go_enter Tryd.func17, Tryd.ntmps17
    go_wp2_with fail
    go_ret
    have hr : rcp s = [] := by unfold rcp; rw [if_pos HZ.out]
    rw [hr]
    exact ⟨_, rfl, (App.empty w 9 1 (Chg.refl _ _)).new⟩
set_option maxRecDepth 100000 in
set_option maxHeartbeats 1000000 in
theorem recipeFace_spec_any (l : List ByteArray) (u : Value) (B : Nat) (w : World) (r : Rd w B (strs l) u) (hB : B ≤ w.heap.size) (hl : l.length ≤ 1048576) :
    Calls Tryd.prog 16 #[u] w (fun e w' => e = .returned (.tuple #[.int .i64 (faceRes l).1, .bool (faceRes l).2]) ∧ Chg [] w w') := by
  obtain ⟨q, rp, hq⟩ : ∃ q rp, makeOf l = (q, rp) := ⟨_, _, rfl⟩
  have mp := makePart_spec_any l u B w r hB hl
  obtain ⟨A, cap, rfl, _, _, _⟩ := strs_row r
  rw [hq] at mp
  have MP := Lib.hid mp
  clear mp
  by_cases hcode : rp.code = 0
  · have hd : (rp.code != 0) = false := by simp [hcode]
    have hf : faceRes l = (rp.value, true) := by unfold faceRes; rw [hq]; simp only [hcode, if_true]
    rw [hf]
    clear hcode hq hf
    go_enter Tryd.func16, Tryd.ntmps16
    go_wp2_with fail
    refine MP.out.mono ?_
    rintro e w2 ⟨A7, cap7, A8, cap8, rfl, hN⟩
    have c2 := hN.chg
    clear hN
    go_wp2_with fail
    go_ret2
    exact ⟨rfl, (c2.alloc _).alloc _⟩
  · have hd : (rp.code != 0) = true := by simp [hcode]
    have hf : faceRes l = (0, false) := by unfold faceRes; rw [hq]; simp only [hcode, if_false]
    rw [hf]
    clear hcode hq hf
    go_enter Tryd.func16, Tryd.ntmps16
    go_wp2_with fail
    refine MP.out.mono ?_
    rintro e w2 ⟨A7, cap7, A8, cap8, rfl, hN⟩
    have c2 := hN.chg
    clear hN
    go_wp2_with fail
    go_ret2
    exact ⟨rfl, (c2.alloc _).alloc _⟩
set_option maxRecDepth 100000 in
set_option maxHeartbeats 2000000 in
theorem isShapes_spec_any (l : List ByteArray) (u : Value) (B : Nat) (w : World) (r : Rd w B (strs l) u) (hB : B ≤ w.heap.size) (hs : ∀ s ∈ l, s.size ≤ 1048575) :
    Calls Tryd.prog 6 #[u] w (BoolPost (ShapesOk l) w) := by
  obtain ⟨A, cap, rfl, h0, h1, hrow⟩ := strs_row r
  unfold maxLen at h1
  clear r
  go_enter Tryd.func6, Tryd.ntmps6
  go_wp2_with fail
  go_loopw [9] (fun i wr => ∃ k : Nat, k ≤ l.length ∧ i = .int .i64 k ∧ (∀ (j : Nat) (h : j < l.length), j < k → l[j].size = 0 ∨ (makeOf (rcp l[j])).2.code = 0) ∧ Chg [] w wr) (fun i _ => l.length - (intOf i).toNat)
  case atStart => exact ⟨0, Nat.zero_le _, rfl, fun j h h0 => absurd h0 (Nat.not_lt_zero _), Chg.refl _ _⟩
  case round =>
    obtain ⟨k, hk, rfl, HN, hc⟩ := hrel
    have HN := Lib.hid HN
    by_cases hlt : k < l.length
    · obtain ⟨b, off, rfl, hb, q0⟩ := strs_cells (hrow.chg0 hc hB) k hlt
      have hsk := hs _ (List.getElem_mem hlt)
      have hrl := rcp_len l[k]
      go_wp2_with fail
      refine (l9Recipe_any l[k] wr (by omega)).mono ?_
      intro e w1 G1
      obtain ⟨A1, cap1, rfl, n1⟩ := G1.sl
      have c1 := n1.chg
      have RF := Lib.hid (recipeFace_spec_any (rcp l[k]) _ w1.heap.size w1 n1.rd (Nat.le_refl _) (by omega))
      clear n1
      go_wp2_with fail
      refine RF.out.mono ?_
      rintro e w2 ⟨rfl, c2⟩
      obtain ⟨v, ok, hf⟩ : ∃ v ok, faceRes (rcp l[k]) = (v, ok) := ⟨_, _, rfl⟩
      have hok : ok = true ↔ (makeOf (rcp l[k])).2.code = 0 := by
        unfold faceRes at hf
        split at hf
        · cases hf; rename_i h; exact ⟨fun _ => h, fun _ => rfl⟩
        · cases hf; rename_i h; exact ⟨fun h2 => by simp at h2, fun h2 => absurd h2 h⟩
      have HO := Lib.hid hok
      rw [hf]
      clear hf hok
      cases hz : (l[k].toList == [])
      · cases ok
        · have CA : Hid (¬ (l[k].size = 0 ∨ (makeOf (rcp l[k])).2.code = 0)) := Lib.hid (fun h => h.elim (empty_list_not hz) (fun h2 => by have := HO.out.2 h2; simp at this))
          go_wp2_with fail
          go_ret
          exact ⟨_, rfl, ⟨fun h => by simp at h, fun h => (CA.out (h.2 k hlt)).elim⟩, (hc.trans0 c1).trans0 c2⟩
        · have CA := Lib.hid (HO.out.1 rfl)
          go_wp2_with fail
          go_roundw
          case rel => exact ⟨k + 1, by omega, by go_num, fun j h hj => (Nat.lt_succ_iff_lt_or_eq.1 hj).elim (HN.out j h) (fun e => by subst e; exact .inr CA.out), (hc.trans0 c1).trans0 c2⟩
          case measure => simp [intOf]; omega
      · have CA := Lib.hid (empty_list hz)
        go_wp2_with fail
        go_roundw
        case rel => exact ⟨k + 1, by omega, by go_num, fun j h hj => (Nat.lt_succ_iff_lt_or_eq.1 hj).elim (HN.out j h) (fun e => by subst e; exact .inl CA.out), (hc.trans0 c1).trans0 c2⟩
        case measure => simp [intOf]; omega
    · obtain rfl : k = l.length := by omega
      go_wp2_with fail
      go_ret
      exact ⟨_, rfl, ⟨fun h => ⟨by simp at h; omega, fun i h => HN.out i h h⟩, fun h => by have := h.1; simp; omega⟩, hc⟩
end Go.Proofs.YtapmknkelihacaaDoor
