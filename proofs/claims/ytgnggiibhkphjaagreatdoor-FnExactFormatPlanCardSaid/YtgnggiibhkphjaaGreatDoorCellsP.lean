/- Cells that are read from texts, in plain Lean. -/
import Derived.Test.YtgnggiibhkphjaaGreatDoorCells
import Derived.Test.YtgnggiibhkphjaaGreatDoorNumP
import Derived.Test.YtgnggiibhkphjaaGreatDoorSplitLib
namespace Go.Proofs.YtgnggiibhkphjaaGreatDoor
open Go.RowKit

theorem sp_no (c : UInt8) : ∀ (l cur : List UInt8), c ∉ l → spAux c cur l = [cur ++ l]
  | [], cur, _ => by simp [spAux]
  | b :: l, cur, h => by
    rw [spAux, if_neg (fun e => h (by simp [e])), sp_no c l _ (fun hx => h (by simp [hx]))]
    simp
theorem sp_some (c : UInt8) : ∀ (l cur : List UInt8), 1 ≤ (spAux c cur l).length
  | [], cur => by simp [spAux]
  | b :: l, cur => by
    rw [spAux]
    split
    · simp
    · exact sp_some c l _
theorem sp_yes (c : UInt8) : ∀ (l cur : List UInt8), c ∈ l → 2 ≤ (spAux c cur l).length
  | b :: l, cur, h => by
    rw [spAux]
    split
    · have := sp_some c l []; simp; omega
    · rename_i hb
      exact sp_yes c l _ ((List.mem_cons.1 h).elim (fun e => absurd e.symm hb) id)
theorem sp_piece (c : UInt8) : ∀ (l cur x : List UInt8), x ∈ spAux c cur l → x.length ≤ cur.length + l.length
  | [], cur, x, h => by rw [spAux, List.mem_singleton] at h; subst h; simp
  | b :: l, cur, x, h => by
    rw [spAux] at h
    split at h
    · rcases List.mem_cons.1 h with rfl | h
      · omega
      · have := sp_piece c l [] x h; simp at this ⊢; omega
    · have := sp_piece c l _ x h; simp at this ⊢; omega
theorem bytesOf_size (l : List UInt8) : (bytesOf l).size = l.length := rfl
theorem splitS_piece {c : UInt8} {s x : ByteArray} (h : x ∈ splitS c s) : x.size ≤ s.size := by
  unfold splitS at h
  obtain ⟨y, hy, rfl⟩ := List.mem_map.1 h
  have := sp_piece c _ _ y hy
  rw [size_list] at this
  rw [bytesOf_size]
  simpa using this
theorem splitS_len (c : UInt8) (s : ByteArray) : 1 ≤ (splitS c s).length ∧ (splitS c s).length ≤ s.size + 1 := by
  unfold splitS
  rw [List.length_map]
  have h1 := sp_some c s.data.toList []
  have h2 := spAux_len c s.data.toList []
  rw [size_list] at h2
  exact ⟨h1, h2⟩
theorem splitS_no {c : UInt8} {s : ByteArray} (h : c ∉ s.data.toList) : splitS c s = [s] := by
  unfold splitS
  rw [sp_no c _ _ h]
  simp [bytes_list]
theorem splitS_one {c : UInt8} {s x : ByteArray} (h : splitS c s = [x]) : x = s ∧ c ∉ s.data.toList := by
  by_cases hc : c ∈ s.data.toList
  · have := sp_yes c _ [] hc
    have h2 := congrArg List.length h
    unfold splitS at h2
    rw [List.length_map] at h2
    simp at h2; omega
  · rw [splitS_no hc] at h
    simp at h
    exact ⟨h.symm, hc⟩
theorem cut_no {c : UInt8} {s : ByteArray} (h : (Lib.cut s.data.toList [c]).2.2 = false) : splitS c s = [s] := by
  unfold Lib.cut at h
  split at h
  · cases h
  · rename_i hi
    have hge := Lib.index_ge s.data.toList [c]
    have := (index_sp c s.data.toList []).1 (by omega)
    unfold splitS
    rw [this]
    simp [bytes_list]
theorem cut_yes {c : UInt8} {s : ByteArray} (h : (Lib.cut s.data.toList [c]).2.2 = true) : splitS c s = ⟨(Lib.cut s.data.toList [c]).1.toArray⟩ :: splitS c ⟨(Lib.cut s.data.toList [c]).2.1.toArray⟩ := by
  unfold Lib.cut at h ⊢
  split
  · rename_i hi
    have := (index_sp c s.data.toList []).2 (Lib.index s.data.toList [c]).toNat (by omega)
    unfold splitS
    rw [this]
    simp [bytesOf]
  · rename_i hi
    rw [if_neg hi] at h
    cases h
/-- The cell of a text. -/
noncomputable def cellOf (p : ByteArray) : Option CellT := match splitS 61 p with
  | [k, t] => (parseNum t).map fun n => ⟨k, n⟩
  | _ => none
theorem cellOf_two {p k t : ByteArray} (h : splitS 61 p = [k, t]) : cellOf p = (parseNum t).map fun n => ⟨k, n⟩ := by unfold cellOf; rw [h]
theorem cellOf_len {p : ByteArray} (h : (splitS 61 p).length ≠ 2) : cellOf p = none := by
  unfold cellOf
  split
  · rename_i hh; rw [hh] at h; simp at h
  · rfl
theorem cellOf_no {p : ByteArray} (h : (Lib.cut p.data.toList [61]).2.2 = false) : cellOf p = none := cellOf_len (by rw [cut_no h]; simp)
theorem cellOf_bad {p : ByteArray} (h : (Lib.cut p.data.toList [61]).2.2 = true) (hn : parseNum ⟨(Lib.cut p.data.toList [61]).2.1.toArray⟩ = none) : cellOf p = none := by
  have hs := cut_yes h
  obtain ⟨t, ht⟩ : ∃ t, t = (⟨(Lib.cut p.data.toList [61]).2.1.toArray⟩ : ByteArray) := ⟨_, rfl⟩
  rw [← ht] at hs hn
  by_cases hl : (splitS 61 t).length = 1
  · obtain ⟨x, hx⟩ := List.length_eq_one_iff.1 hl
    rw [hx, (splitS_one hx).1] at hs
    rw [cellOf_two hs, hn]
    rfl
  · exact cellOf_len (by rw [hs, List.length_cons]; omega)
theorem cellOf_good {p : ByteArray} {n : Int} (h : (Lib.cut p.data.toList [61]).2.2 = true) (hn : parseNum ⟨(Lib.cut p.data.toList [61]).2.1.toArray⟩ = some n) : cellOf p = some ⟨⟨(Lib.cut p.data.toList [61]).1.toArray⟩, n⟩ := by
  have hs := cut_yes h
  obtain ⟨t, ht⟩ : ∃ t, t = (⟨(Lib.cut p.data.toList [61]).2.1.toArray⟩ : ByteArray) := ⟨_, rfl⟩
  rw [← ht] at hs hn
  have hd := (parseNum_of hn).digit
  rw [splitS_no (c := 61) (s := t) (fun hm => by have := hd _ hm; simp at this)] at hs
  rw [cellOf_two hs, hn]
  rfl
open Classical in
/-- The cells of a text. -/
noncomputable def parseCells (s : ByteArray) : Option (List CellT) :=
  if s = ⟨#[45]⟩ then some [] else if h : ∃ out, (splitS 44 s).map cellOf = out.map some ∧ CellsOk out then some h.choose else none
theorem parseCells_dash : parseCells ⟨#[45]⟩ = some [] := by unfold parseCells; rw [if_pos rfl]
theorem map_some_inj {α : Type} : ∀ {a b : List α}, a.map some = b.map some → a = b
  | [], [], _ => rfl
  | [], _ :: _, h => by simp at h
  | _ :: _, [], h => by simp at h
  | x :: a, y :: b, h => by
    simp only [List.map_cons, List.cons.injEq, Option.some.injEq] at h
    rw [h.1, map_some_inj h.2]
theorem parseCells_some {s : ByteArray} {out : List CellT} (h0 : s ≠ ⟨#[45]⟩) (h : (splitS 44 s).map cellOf = out.map some) (hok : CellsOk out) : parseCells s = some out := by
  unfold parseCells
  have he : ∃ out, (splitS 44 s).map cellOf = out.map some ∧ CellsOk out := ⟨out, h, hok⟩
  rw [if_neg h0, dif_pos he, map_some_inj (he.choose_spec.1.symm.trans h)]
theorem parseCells_not {s : ByteArray} {out : List CellT} (h0 : s ≠ ⟨#[45]⟩) (h : (splitS 44 s).map cellOf = out.map some) (hok : ¬ CellsOk out) : parseCells s = none := by
  unfold parseCells
  rw [if_neg h0, dif_neg]
  rintro ⟨x, h1, h2⟩
  rw [map_some_inj (h1.symm.trans h)] at h2
  exact hok h2
theorem parseCells_bad {s : ByteArray} (h0 : s ≠ ⟨#[45]⟩) {k : Nat} (hk : k < (splitS 44 s).length) (hb : cellOf (splitS 44 s)[k] = none) : parseCells s = none := by
  unfold parseCells
  rw [if_neg h0, dif_neg]
  rintro ⟨x, h1, _⟩
  have := congrArg (fun l => l[k]?) h1
  simp only [List.getElem?_map, List.getElem?_eq_getElem hk, Option.map_some, hb] at this
  cases hx : x[k]? with
  | none => rw [hx] at this; simp at this
  | some y => rw [hx] at this; simp at this
theorem parseCells_long {s : ByteArray} (h0 : s ≠ ⟨#[45]⟩) (hl : 4 < (splitS 44 s).length) : parseCells s = none := by
  unfold parseCells
  rw [if_neg h0, dif_neg]
  rintro ⟨x, h1, h2⟩
  have := congrArg List.length h1
  simp at this
  have := h2.1
  omega
theorem splitS_take {s : ByteArray} {out : List CellT} {k : Nat} (hk : k < (splitS 44 s).length) (h : ((splitS 44 s).take k).map cellOf = out.map some) {c : CellT} (hc : cellOf (splitS 44 s)[k] = some c) : ((splitS 44 s).take (k + 1)).map cellOf = (out ++ [c]).map some := by
  rw [List.take_succ_eq_append_getElem hk, List.map_append, h, List.map_append]
  simp [hc]
end Go.Proofs.YtgnggiibhkphjaaGreatDoor
