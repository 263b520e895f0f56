/- Bytes looked for in a text: where a piece ends. Plain Lean. -/
import Derived.Test.YtldpibnfhomfgaaGreatDoorCellsAll
import Derived.Test.YtldpibnfhomfgaaGreatDoorTxt
namespace Go.Proofs.YtldpibnfhomfgaaGreatDoor
open Go.RowKit

theorem app_list (a b : ByteArray) : (a ++ b).data.toList = a.data.toList ++ b.data.toList := by rw [ByteArray.data_append, Array.toList_append]
theorem list_inj {a b : ByteArray} (h : a.data.toList = b.data.toList) : a = b := ByteArray.ext (Array.toList_inj.1 h)
theorem index_skip {sub : List UInt8} : ∀ (l r : List UInt8), (∀ i, i < l.length → sub.isPrefixOf ((l ++ r).drop i) = false) → Lib.index (l ++ r) sub = if Lib.index r sub = -1 then -1 else (l.length : Int) + Lib.index r sub
  | [], r, _ => by
    by_cases hr : Lib.index r sub = -1
    · rw [if_pos hr]; exact hr
    · rw [if_neg hr]; simp
  | b :: l, r, h => by
    have h0 := h 0 (by simp)
    have ih := index_skip l r (fun i hi => by have := h (i + 1) (by simpa using hi); simpa using this)
    have e : Lib.index (b :: (l ++ r)) sub = if Lib.index (l ++ r) sub == -1 then -1 else Lib.index (l ++ r) sub + 1 := by
      conv => lhs; unfold Lib.index
      rw [if_neg (by rw [show sub.isPrefixOf (b :: (l ++ r)) = false from h0]; simp)]
    rw [List.cons_append, e, ih]
    have hge := Lib.index_ge r sub
    by_cases hr : Lib.index r sub = -1
    · rw [if_pos hr, if_pos hr]; rfl
    · rw [if_neg hr, if_neg hr]
      have hne : ¬ ((l.length : Int) + Lib.index r sub == -1) = true := by simp; omega
      rw [if_neg hne]
      simp; omega
theorem one_no {c : UInt8} {t l x : List UInt8} (h : c ∉ l) : ∀ i, i < l.length → (c :: t).isPrefixOf ((l ++ x).drop i) = false := by
  intro i hi
  rw [List.drop_append_of_le_length (by omega), List.drop_eq_getElem_cons hi, List.cons_append]
  show (c == l[i] && _) = false
  rw [beq_eq_false_iff_ne.2 (fun e : c = l[i] => h (by rw [e]; exact List.getElem_mem hi))]
  rfl
theorem sp_brace {d : UInt8} {l x : List UInt8} (h : d ∉ l) (hx : x.head? ≠ some d) : ∀ i, i < l.length → [32, d].isPrefixOf ((l ++ x).drop i) = false := by
  intro i hi
  rw [List.drop_append_of_le_length (by omega), List.drop_eq_getElem_cons hi, List.cons_append]
  have h2 : [d].isPrefixOf (l.drop (i + 1) ++ x) = false := by
    cases e : l.drop (i + 1) with
    | nil =>
      cases x with
      | nil => rfl
      | cons y x =>
        show (d == y && _) = false
        rw [beq_eq_false_iff_ne.2 (fun e2 => hx (by rw [← e2]; rfl))]
        rfl
    | cons y l' =>
      show (d == y && _) = false
      have hy : y ∈ l := List.mem_of_mem_drop (by rw [e]; simp)
      rw [beq_eq_false_iff_ne.2 (fun e2 : d = y => h (by rw [e2]; exact hy))]
      rfl
  show (_ && [d].isPrefixOf (l.drop (i + 1) ++ x)) = false
  rw [h2, Bool.and_false]
theorem cut_at {c : UInt8} {l r : List UInt8} (h : c ∉ l) : Lib.cut (l ++ c :: r) [c] = (l, r, true) := by
  have h1 : Lib.index (c :: r) [c] = 0 := by unfold Lib.index; rw [if_pos (by simp)]
  have hi : Lib.index (l ++ c :: r) [c] = l.length := by
    rw [index_skip l (c :: r) (one_no h), h1]
    simp
  unfold Lib.cut
  rw [if_pos (by omega), hi]
  simp
theorem cut_miss {c : UInt8} {l : List UInt8} (h : c ∉ l) : Lib.cut l [c] = (l, [], false) := by
  have hi : Lib.index l [c] = -1 := by
    have := index_skip l [] (one_no (t := []) h)
    rw [List.append_nil] at this
    rw [this]
    rfl
  unfold Lib.cut
  rw [if_neg (by omega)]
/-- Where a simple action ends: at the first "; " or " }". -/
def stopAt (r : List UInt8) : Nat :=
  let e := if 0 ≤ Lib.index r [59, 32] then min r.length (Lib.index r [59, 32]).toNat else r.length
  if 0 ≤ Lib.index r [32, 125] then min e (Lib.index r [32, 125]).toNat else e
theorem stopAt_le (r : List UInt8) : stopAt r ≤ r.length := by
  unfold stopAt
  dsimp only
  split <;> split <;> omega
/-- What may stand behind an action. -/
def EndOk (x : List UInt8) : Prop := x = [] ∨ (∃ y, x = 59 :: 32 :: y) ∨ ∃ y, x = 32 :: 125 :: y
theorem stopAt_eq {l x : List UInt8} (h1 : 59 ∉ l) (h2 : 125 ∉ l) (hx : EndOk x) : stopAt (l ++ x) = l.length := by
  have i1 := index_skip l x (one_no (c := 59) (t := [32]) h1)
  have i2 := index_skip l x (sp_brace (d := 125) h2 (by rcases hx with rfl | ⟨y, rfl⟩ | ⟨y, rfl⟩ <;> simp))
  unfold stopAt
  rw [i1, i2]
  have g1 := Lib.index_ge x [59, 32]
  have g2 := Lib.index_ge x [32, 125]
  rcases hx with rfl | ⟨y, rfl⟩ | ⟨y, rfl⟩
  · have e1 : Lib.index ([] : List UInt8) [59, 32] = -1 := rfl
    have e2 : Lib.index ([] : List UInt8) [32, 125] = -1 := rfl
    rw [e1, e2]
    simp
  · have e1 : Lib.index (59 :: 32 :: y) [59, 32] = 0 := by unfold Lib.index; rw [if_pos (by simp)]
    rw [e1]
    by_cases e2 : Lib.index (59 :: 32 :: y) [32, 125] = -1
    · rw [e2]; simp
    · rw [if_neg e2]; simp; intro _; omega
  · have e2 : Lib.index (32 :: 125 :: y) [32, 125] = 0 := by unfold Lib.index; rw [if_pos (by simp)]
    rw [e2]
    by_cases e1 : Lib.index (32 :: 125 :: y) [59, 32] = -1
    · rw [e1]; simp
    · rw [if_neg e1]; simp; split <;> omega

/-- No byte that ends an action. -/
def Pl (l : List UInt8) : Prop := 59 ∉ l ∧ 125 ∉ l
instance (l : List UInt8) : Decidable (Pl l) := inferInstanceAs (Decidable (59 ∉ l ∧ 125 ∉ l))
theorem Pl.app {a b : List UInt8} (h : Pl a) (k : Pl b) : Pl (a ++ b) := ⟨by simp [h.1, k.1], by simp [h.2, k.2]⟩
theorem Pl.num {n : Int} (h0 : 0 ≤ n) (h1 : n ≤ 999) : Pl (numT n).data.toList ∧ 32 ∉ (numT n).data.toList := by
  have hd := (show NumOf (numT n) n from ⟨h0, h1, rfl⟩).digit
  refine ⟨⟨fun h => ?_, fun h => ?_⟩, fun h => ?_⟩ <;> (have := hd _ h; simp at this)
/-- The bytes of a name. -/
theorem nm_byte {s : ByteArray} (h : IsNm s) : ∀ b ∈ s.data.toList, (97 ≤ b.toNat ∧ b.toNat ≤ 122) ∨ (48 ≤ b.toNat ∧ b.toNat ≤ 57) := by
  intro b hb
  obtain ⟨i, hi, rfl⟩ := List.getElem_of_mem hb
  have hs : i < s.size := by rw [size_list] at hi; exact hi
  have := h.2.2 i hs
  have e : s.data.toList[i] = s[i] := by rw [Array.getElem_toList]; rfl
  rw [e]
  unfold nmByte at this
  omega
theorem Pl.nm {s : ByteArray} (h : IsNm s) : Pl s.data.toList ∧ 32 ∉ s.data.toList ∧ 61 ∉ s.data.toList := by
  have hd := nm_byte h
  refine ⟨⟨fun h => ?_, fun h => ?_⟩, fun h => ?_, fun h => ?_⟩ <;> (have := hd _ h; simp at this)
theorem sp_mem {c b : UInt8} : ∀ (l cur : List UInt8), b ∈ cur ++ l → b = c ∨ ∃ p ∈ spAux c cur l, b ∈ p
  | [], cur, h => .inr ⟨cur, by simp [spAux], by simpa using h⟩
  | a :: l, cur, h => by
    rw [spAux]
    by_cases ha : a = c
    · rw [if_pos ha]
      rcases List.mem_append.1 h with h | h
      · exact .inr ⟨cur, by simp, h⟩
      · rcases List.mem_cons.1 h with rfl | h
        · exact .inl ha
        · rcases sp_mem l [] (by simpa using h) with h | ⟨p, h1, h2⟩
          · exact .inl h
          · exact .inr ⟨p, by simp [h1], h2⟩
    · rw [if_neg ha]
      exact sp_mem l (cur ++ [a]) (by simpa using h)
theorem splitS_mem {c b : UInt8} {s : ByteArray} (h : b ∈ s.data.toList) : b = c ∨ ∃ p ∈ splitS c s, b ∈ p.data.toList := by
  rcases sp_mem (c := c) s.data.toList [] (by simpa using h) with h | ⟨p, h1, h2⟩
  · exact .inl h
  · exact .inr ⟨bytesOf p, by unfold splitS; exact List.mem_map_of_mem h1, h2⟩
/-- The bytes of cells as a text. -/
theorem cells_byte {s : ByteArray} (h : s.size = 0 ∨ parseCells s ≠ none) : ∀ b ∈ s.data.toList, (97 ≤ b.toNat ∧ b.toNat ≤ 122) ∨ (44 ≤ b.toNat ∧ b.toNat ≤ 57) ∨ b.toNat = 61 := by
  intro b hb
  rcases h with h | h
  · rw [← size_list] at h
    rw [List.eq_nil_of_length_eq_zero h] at hb
    cases hb
  · by_cases h0 : s = ⟨#[45]⟩
    · subst h0
      simp at hb
      subst hb
      decide
    · unfold parseCells at h
      rw [if_neg h0] at h
      by_cases he : ∃ out, (splitS 44 s).map cellOf = out.map some ∧ CellsOk out
      · obtain ⟨out, h1, h2⟩ := he
        rcases splitS_mem (c := 44) hb with rfl | ⟨p, hp, hbp⟩
        · decide
        · have hm : cellOf p ∈ (splitS 44 s).map cellOf := List.mem_map_of_mem hp
          rw [h1] at hm
          obtain ⟨c, hc, hcp⟩ := List.mem_map.1 hm
          have hcell := hcp.symm
          unfold cellOf at hcell
          split at hcell
          · rename_i k t hkt
            cases ht : parseNum t with
            | none => rw [ht] at hcell; cases hcell
            | some n =>
              rw [ht] at hcell
              cases hcell
              obtain ⟨i, hi, hci⟩ := List.getElem_of_mem hc
              have hnm := (h2.2 i hi).1
              rw [hci] at hnm
              rcases splitS_mem (c := 61) hbp with rfl | ⟨q, hq, hbq⟩
              · decide
              · rw [hkt] at hq
                simp at hq
                rcases hq with rfl | rfl
                · have := nm_byte hnm b hbq; omega
                · have := (parseNum_of ht).digit b hbq; omega
          · cases hcell
      · rw [dif_neg he] at h
        exact absurd rfl h
theorem look_mem {α : Type} {s : List UInt8} : ∀ {l : List (List UInt8 × α)}, look s l ≠ none → ∃ x ∈ l, s = x.1
  | [], h => absurd rfl h
  | (n, x) :: r, h => by
    by_cases hs : s = n
    · exact ⟨(n, x), by simp, hs⟩
    · rw [look, if_neg hs] at h
      obtain ⟨y, hy, e⟩ := look_mem h
      exact ⟨y, by simp [hy], e⟩
def Low (l : List UInt8) : Prop := Pl l ∧ 32 ∉ l ∧ l ≠ []
instance (l : List UInt8) : Decidable (Low l) := inferInstanceAs (Decidable ((59 ∉ l ∧ 125 ∉ l) ∧ 32 ∉ l ∧ l ≠ []))
theorem kinds_low : ∀ x ∈ kinds, Low x.1 := by decide
theorem layers_low : ∀ x ∈ layerTab, Low x.1 := by decide
theorem kind_low {s : ByteArray} (h : kindOf s ≠ none) : Low s.data.toList := by
  unfold kindOf at h
  rw [ByteArray.toList_eq] at h
  obtain ⟨x, hx, e⟩ := look_mem h
  rw [e]
  exact kinds_low x hx
theorem layer_low {s : ByteArray} (h : layerOf s ≠ none) : Low s.data.toList := by
  unfold layerOf at h
  rw [ByteArray.toList_eq] at h
  obtain ⟨x, hx, e⟩ := look_mem h
  rw [e]
  exact layers_low x hx
theorem face_fin : ∀ f : Fin 64, Low (faceT (f.1 : Nat)).data.toList := by decide +kernel
theorem face_low {f : Int} (h : IsF f) : Low (faceT f).data.toList := by
  have h0 : 0 ≤ f ∧ f ≤ 63 := h
  have := face_fin ⟨f.toNat, by omega⟩
  have e : ((f.toNat : Nat) : Int) = f := by omega
  simp only [e] at this
  exact this
end Go.Proofs.YtldpibnfhomfgaaGreatDoor
