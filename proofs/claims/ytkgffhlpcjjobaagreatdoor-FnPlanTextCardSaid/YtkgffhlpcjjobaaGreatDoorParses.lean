/- Bytes looked for in a text: where a piece ends. Plain Lean. / Plans as the program reads them, in plain Lean: what is written is read again. / Plans with blocks as the program reads them: what is written is read again. Plain Lean. / How much the program's reading of a plan gives: at most twice the text. Plain Lean. -/
import Derived.Test.YtkgffhlpcjjobaaGreatDoorCellsAll
import Derived.Test.YtkgffhlpcjjobaaGreatDoorWritten
import Derived.Test.YtkgffhlpcjjobaaGreatDoorTexts2
namespace Go.Proofs.YtkgffhlpcjjobaaGreatDoor
open Go.RowKit

theorem app_list (a b : ByteArray) : (a ++ b).data.toList = a.data.toList ++ b.data.toList := by rw [ByteArray.data_append, Array.toList_append]
theorem bytesOf_list (l : List UInt8) : (bytesOf l).data.toList = l := rfl
theorem list_inj {a b : ByteArray} (h : a.data.toList = b.data.toList) : a = b := ByteArray.ext (Array.toList_inj.1 h)
theorem index_skip {sub : List UInt8} : ∀ (l r : List UInt8), (∀ i, i < l.length → sub.isPrefixOf ((l ++ r).drop i) = false) → Lib.index (l ++ r) sub = if Lib.index r sub = -1 then -1 else (l.length : Int) + Lib.index r sub
  | [], r, _ => by
    by_cases hr : Lib.index r sub = -1
    · rw [if_pos hr]; exact hr
    · rw [if_neg hr]; simp
  | b :: l, r, h => by
    have h0 := h 0 (by simp)
    have ih := index_skip l r (fun i hi => by have := h (i + 1) (by simpa using hi); simpa using this)
    have e : Lib.index (b :: (l ++ r)) sub = if Lib.index (l ++ r) sub == -1 then -1 else Lib.index (l ++ r) sub + 1 := by
      conv => lhs; unfold Lib.index
      rw [if_neg (by rw [show sub.isPrefixOf (b :: (l ++ r)) = false from h0]; simp)]
    rw [List.cons_append, e, ih]
    have hge := Lib.index_ge r sub
    by_cases hr : Lib.index r sub = -1
    · rw [if_pos hr, if_pos hr]; rfl
    · rw [if_neg hr, if_neg hr]
      have hne : ¬ ((l.length : Int) + Lib.index r sub == -1) = true := by simp; omega
      rw [if_neg hne]
      simp; omega
theorem one_no {c : UInt8} {t l x : List UInt8} (h : c ∉ l) : ∀ i, i < l.length → (c :: t).isPrefixOf ((l ++ x).drop i) = false := by
  intro i hi
  rw [List.drop_append_of_le_length (by omega), List.drop_eq_getElem_cons hi, List.cons_append]
  show (c == l[i] && _) = false
  rw [beq_eq_false_iff_ne.2 (fun e : c = l[i] => h (by rw [e]; exact List.getElem_mem hi))]
  rfl
theorem sp_brace {d : UInt8} {l x : List UInt8} (h : d ∉ l) (hx : x.head? ≠ some d) : ∀ i, i < l.length → [32, d].isPrefixOf ((l ++ x).drop i) = false := by
  intro i hi
  rw [List.drop_append_of_le_length (by omega), List.drop_eq_getElem_cons hi, List.cons_append]
  have h2 : [d].isPrefixOf (l.drop (i + 1) ++ x) = false := by
    cases e : l.drop (i + 1) with
    | nil =>
      cases x with
      | nil => rfl
      | cons y x =>
        show (d == y && _) = false
        rw [beq_eq_false_iff_ne.2 (fun e2 => hx (by rw [← e2]; rfl))]
        rfl
    | cons y l' =>
      show (d == y && _) = false
      have hy : y ∈ l := List.mem_of_mem_drop (by rw [e]; simp)
      rw [beq_eq_false_iff_ne.2 (fun e2 : d = y => h (by rw [e2]; exact hy))]
      rfl
  show (_ && [d].isPrefixOf (l.drop (i + 1) ++ x)) = false
  rw [h2, Bool.and_false]
theorem cut_at {c : UInt8} {l r : List UInt8} (h : c ∉ l) : Lib.cut (l ++ c :: r) [c] = (l, r, true) := by
  have h1 : Lib.index (c :: r) [c] = 0 := by unfold Lib.index; rw [if_pos (by simp)]
  have hi : Lib.index (l ++ c :: r) [c] = l.length := by
    rw [index_skip l (c :: r) (one_no h), h1]
    simp
  unfold Lib.cut
  rw [if_pos (by omega), hi]
  simp
theorem cut_miss {c : UInt8} {l : List UInt8} (h : c ∉ l) : Lib.cut l [c] = (l, [], false) := by
  have hi : Lib.index l [c] = -1 := by
    have := index_skip l [] (one_no (t := []) h)
    rw [List.append_nil] at this
    rw [this]
    rfl
  unfold Lib.cut
  rw [if_neg (by omega)]
/-- Where a simple action ends: at the first "; " or " }". -/
def stopAt (r : List UInt8) : Nat :=
  let e := if 0 ≤ Lib.index r [59, 32] then min r.length (Lib.index r [59, 32]).toNat else r.length
  if 0 ≤ Lib.index r [32, 125] then min e (Lib.index r [32, 125]).toNat else e
theorem stopAt_le (r : List UInt8) : stopAt r ≤ r.length := by
  unfold stopAt
  dsimp only
  split <;> split <;> omega
/-- What may stand behind an action. -/
def EndOk (x : List UInt8) : Prop := x = [] ∨ (∃ y, x = 59 :: 32 :: y) ∨ ∃ y, x = 32 :: 125 :: y
theorem stopAt_eq {l x : List UInt8} (h1 : 59 ∉ l) (h2 : 125 ∉ l) (hx : EndOk x) : stopAt (l ++ x) = l.length := by
  have i1 := index_skip l x (one_no (c := 59) (t := [32]) h1)
  have i2 := index_skip l x (sp_brace (d := 125) h2 (by rcases hx with rfl | ⟨y, rfl⟩ | ⟨y, rfl⟩ <;> simp))
  unfold stopAt
  rw [i1, i2]
  have g1 := Lib.index_ge x [59, 32]
  have g2 := Lib.index_ge x [32, 125]
  rcases hx with rfl | ⟨y, rfl⟩ | ⟨y, rfl⟩
  · have e1 : Lib.index ([] : List UInt8) [59, 32] = -1 := rfl
    have e2 : Lib.index ([] : List UInt8) [32, 125] = -1 := rfl
    rw [e1, e2]
    simp
  · have e1 : Lib.index (59 :: 32 :: y) [59, 32] = 0 := by unfold Lib.index; rw [if_pos (by simp)]
    rw [e1]
    by_cases e2 : Lib.index (59 :: 32 :: y) [32, 125] = -1
    · rw [e2]; simp
    · rw [if_neg e2]; simp; intro _; omega
  · have e2 : Lib.index (32 :: 125 :: y) [32, 125] = 0 := by unfold Lib.index; rw [if_pos (by simp)]
    rw [e2]
    by_cases e1 : Lib.index (32 :: 125 :: y) [59, 32] = -1
    · rw [e1]; simp
    · rw [if_neg e1]; simp; split <;> omega

/-- No byte that ends an action. -/
def Pl (l : List UInt8) : Prop := 59 ∉ l ∧ 125 ∉ l
instance (l : List UInt8) : Decidable (Pl l) := inferInstanceAs (Decidable (59 ∉ l ∧ 125 ∉ l))
theorem Pl.app {a b : List UInt8} (h : Pl a) (k : Pl b) : Pl (a ++ b) := ⟨by simp [h.1, k.1], by simp [h.2, k.2]⟩
theorem Pl.nil : Pl [] := ⟨by simp, by simp⟩
theorem Pl.num {n : Int} (h0 : 0 ≤ n) (h1 : n ≤ 999) : Pl (numT n).data.toList ∧ 32 ∉ (numT n).data.toList := by
  have hd := (show NumOf (numT n) n from ⟨h0, h1, rfl⟩).digit
  refine ⟨⟨fun h => ?_, fun h => ?_⟩, fun h => ?_⟩ <;> (have := hd _ h; simp at this)
/-- The bytes of a name. -/
theorem nm_byte {s : ByteArray} (h : IsNm s) : ∀ b ∈ s.data.toList, (97 ≤ b.toNat ∧ b.toNat ≤ 122) ∨ (48 ≤ b.toNat ∧ b.toNat ≤ 57) := by
  intro b hb
  obtain ⟨i, hi, rfl⟩ := List.getElem_of_mem hb
  have hs : i < s.size := by rw [size_list] at hi; exact hi
  have := h.2.2 i hs
  have e : s.data.toList[i] = s[i] := by rw [Array.getElem_toList]; rfl
  rw [e]
  unfold nmByte at this
  omega
theorem Pl.nm {s : ByteArray} (h : IsNm s) : Pl s.data.toList ∧ 32 ∉ s.data.toList ∧ 61 ∉ s.data.toList := by
  have hd := nm_byte h
  refine ⟨⟨fun h => ?_, fun h => ?_⟩, fun h => ?_, fun h => ?_⟩ <;> (have := hd _ h; simp at this)
theorem sp_mem {c b : UInt8} : ∀ (l cur : List UInt8), b ∈ cur ++ l → b = c ∨ ∃ p ∈ spAux c cur l, b ∈ p
  | [], cur, h => .inr ⟨cur, by simp [spAux], by simpa using h⟩
  | a :: l, cur, h => by
    rw [spAux]
    by_cases ha : a = c
    · rw [if_pos ha]
      rcases List.mem_append.1 h with h | h
      · exact .inr ⟨cur, by simp, h⟩
      · rcases List.mem_cons.1 h with rfl | h
        · exact .inl ha
        · rcases sp_mem l [] (by simpa using h) with h | ⟨p, h1, h2⟩
          · exact .inl h
          · exact .inr ⟨p, by simp [h1], h2⟩
    · rw [if_neg ha]
      exact sp_mem l (cur ++ [a]) (by simpa using h)
theorem splitS_mem {c b : UInt8} {s : ByteArray} (h : b ∈ s.data.toList) : b = c ∨ ∃ p ∈ splitS c s, b ∈ p.data.toList := by
  rcases sp_mem (c := c) s.data.toList [] (by simpa using h) with h | ⟨p, h1, h2⟩
  · exact .inl h
  · exact .inr ⟨bytesOf p, by unfold splitS; exact List.mem_map_of_mem h1, h2⟩
/-- The bytes of cells as a text. -/
theorem cells_byte {s : ByteArray} (h : s.size = 0 ∨ parseCells s ≠ none) : ∀ b ∈ s.data.toList, (97 ≤ b.toNat ∧ b.toNat ≤ 122) ∨ (44 ≤ b.toNat ∧ b.toNat ≤ 57) ∨ b.toNat = 61 := by
  intro b hb
  rcases h with h | h
  · rw [← size_list] at h
    rw [List.eq_nil_of_length_eq_zero h] at hb
    cases hb
  · by_cases h0 : s = ⟨#[45]⟩
    · subst h0
      simp at hb
      subst hb
      decide
    · unfold parseCells at h
      rw [if_neg h0] at h
      by_cases he : ∃ out, (splitS 44 s).map cellOf = out.map some ∧ CellsOk out
      · obtain ⟨out, h1, h2⟩ := he
        rcases splitS_mem (c := 44) hb with rfl | ⟨p, hp, hbp⟩
        · decide
        · have hm : cellOf p ∈ (splitS 44 s).map cellOf := List.mem_map_of_mem hp
          rw [h1] at hm
          obtain ⟨c, hc, hcp⟩ := List.mem_map.1 hm
          have hcell := hcp.symm
          unfold cellOf at hcell
          split at hcell
          · rename_i k t hkt
            cases ht : parseNum t with
            | none => rw [ht] at hcell; cases hcell
            | some n =>
              rw [ht] at hcell
              cases hcell
              obtain ⟨i, hi, hci⟩ := List.getElem_of_mem hc
              have hnm := (h2.2 i hi).1
              rw [hci] at hnm
              rcases splitS_mem (c := 61) hbp with rfl | ⟨q, hq, hbq⟩
              · decide
              · rw [hkt] at hq
                simp at hq
                rcases hq with rfl | rfl
                · have := nm_byte hnm b hbq; omega
                · have := (parseNum_of ht).digit b hbq; omega
          · cases hcell
      · rw [dif_neg he] at h
        exact absurd rfl h
theorem look_mem {α : Type} {s : List UInt8} : ∀ {l : List (List UInt8 × α)}, look s l ≠ none → ∃ x ∈ l, s = x.1
  | [], h => absurd rfl h
  | (n, x) :: r, h => by
    by_cases hs : s = n
    · exact ⟨(n, x), by simp, hs⟩
    · rw [look, if_neg hs] at h
      obtain ⟨y, hy, e⟩ := look_mem h
      exact ⟨y, by simp [hy], e⟩
def Low (l : List UInt8) : Prop := Pl l ∧ 32 ∉ l ∧ l ≠ []
instance (l : List UInt8) : Decidable (Low l) := inferInstanceAs (Decidable ((59 ∉ l ∧ 125 ∉ l) ∧ 32 ∉ l ∧ l ≠ []))
theorem kinds_low : ∀ x ∈ kinds, Low x.1 := by decide
theorem layers_low : ∀ x ∈ layerTab, Low x.1 := by decide
theorem kind_low {s : ByteArray} (h : kindOf s ≠ none) : Low s.data.toList := by
  unfold kindOf at h
  rw [ByteArray.toList_eq] at h
  obtain ⟨x, hx, e⟩ := look_mem h
  rw [e]
  exact kinds_low x hx
theorem layer_low {s : ByteArray} (h : layerOf s ≠ none) : Low s.data.toList := by
  unfold layerOf at h
  rw [ByteArray.toList_eq] at h
  obtain ⟨x, hx, e⟩ := look_mem h
  rw [e]
  exact layers_low x hx
theorem face_fin : ∀ f : Fin 64, Low (faceT (f.1 : Nat)).data.toList := by decide +kernel
theorem face_low {f : Int} (h : IsF f) : Low (faceT f).data.toList := by
  have h0 : 0 ≤ f ∧ f ≤ 63 := h
  have := face_fin ⟨f.toNat, by omega⟩
  have e : ((f.toNat : Nat) : Int) = f := by omega
  simp only [e] at this
  exact this
end Go.Proofs.YtkgffhlpcjjobaaGreatDoor
namespace Go.Proofs.YtkgffhlpcjjobaaGreatDoor
open Go.RowKit

def noB : ByteArray := ⟨#[]⟩
def zeroC : CallT := ⟨noB, noB, 0, noB⟩
def mkA (op slot other : Int) (word : ByteArray) (call : CallT) (face : Int) : ActionT := .mk op slot other word call face [] []
/-- The face of a text: the first one with this text. -/
def faceOf (t : ByteArray) : Option Int := ((List.range 64).find? (fun k => decide ((faceT (k : Nat)).data.toList = t.data.toList))).map (fun k => (k : Int))
theorem faceOf_none {t : ByteArray} (h : ∀ k : Nat, k < 64 → faceT k ≠ t) : faceOf t = none := by
  unfold faceOf
  rw [List.find?_eq_none.2 (fun k hk => by
    simp only [decide_eq_true_eq]
    exact fun e => h k (List.mem_range.1 hk) (list_inj e))]
  rfl
theorem faceOf_some {t : ByteArray} {k : Nat} (hk : k < 64) (h : faceT k = t) (hn : ∀ j : Nat, j < k → faceT j ≠ t) : faceOf t = some (k : Int) := by
  unfold faceOf
  have : (List.range 64).find? (fun k => decide ((faceT (k : Nat)).data.toList = t.data.toList)) = some k := by
    rw [List.find?_range_eq_some]
    refine ⟨by simp [h], by simpa using hk, fun j hj => ?_⟩
    simp only [Bool.not_eq_true', decide_eq_false_iff_not]
    exact fun e => hn j hj (list_inj e)
  rw [this]
  rfl
theorem faceT_inj : ∀ a b : Fin 64, (faceT (a.1 : Nat)).data.toList = (faceT (b.1 : Nat)).data.toList → a = b := by decide +kernel
theorem faceOf_face {f : Int} (h : IsF f) : faceOf (faceT f) = some f := by
  have h0 : 0 ≤ f ∧ f ≤ 63 := h
  obtain ⟨k, rfl⟩ : ∃ k : Nat, f = k := ⟨f.toNat, by omega⟩
  refine faceOf_some (by omega) rfl (fun j hj e => ?_)
  have := faceT_inj ⟨j, by omega⟩ ⟨k, by omega⟩ (by rw [e])
  simp at this
  omega
theorem faceOf_is {t : ByteArray} {f : Int} (h : faceOf t = some f) : IsF f ∧ faceT f = t := by
  unfold faceOf at h
  cases e : (List.range 64).find? (fun k => decide ((faceT (k : Nat)).data.toList = t.data.toList)) with
  | none => rw [e] at h; cases h
  | some k =>
    rw [e] at h
    cases h
    have h1 := List.find?_some e
    have h2 := List.mem_range.1 (List.mem_of_find?_eq_some e)
    simp only [decide_eq_true_eq] at h1
    exact ⟨⟨by show (0 : Int) ≤ (k : Int); omega, by show (k : Int) ≤ 63; omega⟩, list_inj h1⟩

open Classical in
/-- The call that the program tries for a text. -/
noncomputable def rawI (s : ByteArray) : CallT :=
  let m := bytesOf (Lib.cut s.data.toList [32]).1
  let r := (Lib.cut s.data.toList [32]).2.1
  if m = mPut then ⟨m, bytesOf (Lib.cut r [32]).1, (parseNum (bytesOf (Lib.cut r [32]).2.1)).getD 0, noB⟩
  else if m = mGet then ⟨m, bytesOf r, 0, noB⟩
  else if m = mHear then ⟨m, noB, (parseNum (bytesOf r)).getD 0, noB⟩
  else if m = mLoad then ⟨m, noB, 0, bytesOf r⟩
  else ⟨m, noB, 0, noB⟩
open Classical in
noncomputable def callI (s : ByteArray) : Option CallT := if CallOk (rawI s) ∧ callT (rawI s) = s then some (rawI s) else none
theorem callI_is {s : ByteArray} {x : CallT} (h : callI s = some x) : CallOk x ∧ callT x = s := by
  unfold callI at h
  split at h
  · rename_i k; cases h; exact k
  · cases h
theorem noB_of {s : ByteArray} (h : s.size = 0) : s = noB := by
  apply list_inj
  rw [← size_list] at h
  rw [List.eq_nil_of_length_eq_zero h]
  rfl
theorem call_ext {x : CallT} {m k t : ByteArray} {v : Int} (h1 : m = x.method) (h2 : k = x.key) (h3 : v = x.value) (h4 : t = x.text) : (⟨m, k, v, t⟩ : CallT) = x := by
  cases x; simp at h1 h2 h3 h4; simp [h1, h2, h3, h4]
theorem meth_low : ∀ k, k < 6 → ∀ m ∈ methL k, Low m.data.toList := by decide
/-- What a valid call looks like, by its method. -/
theorem callOk_parts {x : CallT} (h : CallOk x) : (x.method ≠ mLoad → x.text = noB) ∧ (x.method = mGet → IsNm x.key ∧ x.value = 0) ∧ (x.method = mPut → IsNm x.key ∧ IsNum x.value) ∧ (x.method = mHear → x.key = noB ∧ IsNum x.value) ∧
    (x.method ≠ mGet → x.method ≠ mPut → x.method ≠ mHear → x.key = noB ∧ x.value = 0) ∧ Low x.method.data.toList := by
  obtain ⟨h1, h2, h3⟩ := h
  have g1 : mGet ≠ mPut := by decide
  have g2 : mGet ≠ mHear := by decide
  have g3 : mPut ≠ mHear := by decide
  refine ⟨fun hn => noB_of (h2.elim id (fun e => absurd e hn)), fun e => ?_, fun e => ?_, fun e => ?_, fun e1 e2 e3 => ?_, ?_⟩
  · rcases h3 with h | h | h | h
    · exact h.2
    · exact absurd (e.symm.trans h.1) g1
    · exact absurd (e.symm.trans h.1) g2
    · exact absurd e h.1
  · rcases h3 with h | h | h | h
    · exact absurd (h.1.symm.trans e) g1
    · exact h.2
    · exact absurd (e.symm.trans h.1) g3
    · exact absurd e h.2.1
  · rcases h3 with h | h | h | h
    · exact absurd (h.1.symm.trans e) g2
    · exact absurd (h.1.symm.trans e) g3
    · exact ⟨noB_of h.2.1, h.2.2⟩
    · exact absurd e h.2.2.1
  · rcases h3 with h | h | h | h
    · exact absurd h.1 e1
    · exact absurd h.1 e2
    · exact absurd h.1 e3
    · exact ⟨noB_of h.2.2.2.1, h.2.2.2.2⟩
  · cases hm : abilOf x.method with
    | none => exact absurd hm h1
    | some k =>
      obtain ⟨j, hj, _, hmem⟩ := abilOf_some hm
      exact meth_low j hj _ hmem
theorem parseNum_numT {n : Int} (h : IsNum n) : parseNum (numT n) = some n := parseNum_some ⟨h.1, h.2, rfl⟩
theorem bytesOf_of (s : ByteArray) : bytesOf s.data.toList = s := list_inj rfl
/-- What is written of a call is read again. -/
theorem rawI_callT {x : CallT} (h : CallOk x) : rawI (callT x) = x := by
  obtain ⟨p1, p2, p3, p4, p5, pm⟩ := callOk_parts h
  have g1 : mGet ≠ mPut := by decide
  have g2 : mHear ≠ mPut := by decide
  have g3 : mHear ≠ mGet := by decide
  have g4 : mLoad ≠ mPut := by decide
  have g5 : mLoad ≠ mGet := by decide
  have g6 : mLoad ≠ mHear := by decide
  by_cases hp : x.method = mPut
  · have hl : x.method ≠ mLoad := by rw [hp]; decide
    obtain ⟨hk, hv⟩ := p3 hp
    have e : (callT x).data.toList = mPut.data.toList ++ 32 :: (x.key.data.toList ++ 32 :: (numT x.value).data.toList) := by
      rw [callT_put h hp]
      simp only [app_list]
      simp [mPut]
    unfold rawI
    rw [e, cut_at (show (32 : UInt8) ∉ mPut.data.toList by decide)]
    simp only [bytesOf_of]
    rw [if_pos trivial, cut_at (Pl.nm hk).2.1]
    simp only [bytesOf_of, parseNum_numT hv, Option.getD_some]
    exact call_ext hp.symm rfl rfl (p1 hl).symm
  · by_cases hg : x.method = mGet
    · have hl : x.method ≠ mLoad := by rw [hg]; decide
      obtain ⟨hk, hv⟩ := p2 hg
      have e : (callT x).data.toList = mGet.data.toList ++ 32 :: x.key.data.toList := by
        rw [callT_get h hg]
        simp only [app_list]
        simp [mGet]
      unfold rawI
      rw [e, cut_at (show (32 : UInt8) ∉ mGet.data.toList by decide)]
      simp only [bytesOf_of]
      rw [if_neg g1, if_pos trivial]
      exact call_ext hg.symm rfl hv.symm (p1 hl).symm
    · by_cases hh : x.method = mHear
      · have hl : x.method ≠ mLoad := by rw [hh]; decide
        obtain ⟨hk, hv⟩ := p4 hh
        have e : (callT x).data.toList = mHear.data.toList ++ 32 :: (numT x.value).data.toList := by
          rw [callT_hear h hh]
          simp only [app_list]
          simp [mHear]
        unfold rawI
        rw [e, cut_at (show (32 : UInt8) ∉ mHear.data.toList by decide)]
        simp only [bytesOf_of]
        rw [if_neg g2, if_neg g3, if_pos trivial, parseNum_numT hv]
        exact call_ext hh.symm hk.symm rfl (p1 hl).symm
      · obtain ⟨hk, hv⟩ := p5 hg hp hh
        by_cases hl : x.method = mLoad
        · have e : (callT x).data.toList = mLoad.data.toList ++ 32 :: x.text.data.toList := by
            rw [callT_load h hl]
            simp only [app_list]
            simp [mLoad]
          unfold rawI
          rw [e, cut_at (show (32 : UInt8) ∉ mLoad.data.toList by decide)]
          simp only [bytesOf_of]
          rw [if_neg g4, if_neg g5, if_neg g6, if_pos trivial]
          exact call_ext hl.symm hk.symm hv.symm rfl
        · have e : callT x = x.method := callT_other h ⟨hg, hp, hh, hl⟩
          unfold rawI
          rw [e, cut_miss pm.2.1]
          simp only [bytesOf_of]
          rw [if_neg hp, if_neg hg, if_neg hh, if_neg hl]
          exact call_ext rfl hk.symm hv.symm (p1 hl).symm
theorem callI_callT {x : CallT} (h : CallOk x) : callI (callT x) = some x := by
  unfold callI
  rw [rawI_callT h, if_pos ⟨h, rfl⟩]

/-- The words of kinds, as bytes. -/
def wl (k : Nat) : List UInt8 := (wordT (k : Int)).data.toList
/-- An action without blocks, of which the word, the number and what follows are known. -/
noncomputable def readW (w : List UInt8) (n : Int) (t : List UInt8) : Option ActionT :=
  if w = wl 1 then some (mkA 1 n 0 (bytesOf t) zeroC 0)
  else if w = wl 2 then some (mkA 2 n 0 (bytesOf t) zeroC 0)
  else if w = wl 3 then some (mkA 3 n 0 noB zeroC 0)
  else if w = wl 4 then (if [102, 114, 111, 109, 32].isPrefixOf t then (parseNum (bytesOf (t.drop 5))).map (fun m => mkA 4 n m noB zeroC 0) else none)
  else if w = wl 5 then some (mkA 5 n 0 noB zeroC 0)
  else if w = wl 6 then (faceOf (bytesOf t)).map (fun f => mkA 6 n 0 noB zeroC f)
  else if w = wl 7 then (callI (bytesOf t)).map (fun x => mkA 7 n 0 noB x 0)
  else none
/-- An action without blocks, of a text. -/
noncomputable def readAct (s : List UInt8) : Option ActionT :=
  (parseNum (bytesOf (Lib.cut (Lib.cut s [32]).2.1 [32]).1)).bind fun n => readW (Lib.cut s [32]).1 n (Lib.cut (Lib.cut s [32]).2.1 [32]).2.1
theorem act_ext {a : ActionT} {op slot other face : Int} {word : ByteArray} {call : CallT} (h1 : op = a.op) (h2 : slot = a.slot) (h3 : other = a.other) (h4 : word = a.word) (h5 : call = a.call) (h6 : face = a.face) (h7 : a.A.length = 0) (h8 : a.B.length = 0) : mkA op slot other word call face = a := by
  cases a with | mk o s ot w c f A B =>
  have hA : A = [] := List.eq_nil_of_length_eq_zero h7
  have hB : B = [] := List.eq_nil_of_length_eq_zero h8
  subst hA hB
  simp only [ActionT.op, ActionT.slot, ActionT.other, ActionT.word, ActionT.call, ActionT.face] at h1 h2 h3 h4 h5 h6
  subst h1 h2 h3 h4 h5 h6
  rfl
theorem callZ_of {x : CallT} (h : CallZ x) : x = zeroC := (call_ext (x := x) (noB_of h.1).symm (noB_of h.2.1).symm h.2.2.1.symm (noB_of h.2.2.2).symm).symm
theorem fields_word {a : ActionT} {o c f p q : Bool} (h : FieldsOk a o false c f p q) : a.word = noB := noB_of (h.2.1.elim (fun e => by cases e) id)
theorem fields_call {a : ActionT} {o w f p q : Bool} (h : FieldsOk a o w false f p q) : a.call = zeroC := callZ_of (h.2.2.1.elim (fun e => by cases e) id)
theorem fields_other {a : ActionT} {w c f p q : Bool} (h : FieldsOk a false w c f p q) : a.other = 0 := h.1.elim (fun e => by cases e) id
theorem fields_face {a : ActionT} {o w c p q : Bool} (h : FieldsOk a o w c false p q) : a.face = 0 := h.2.2.2.1.elim (fun e => by cases e) id
theorem wl_sp : ∀ k, k < 11 → (32 : UInt8) ∉ wl k ∧ Pl (wl k) := by decide
/-- A text of three words is taken apart. -/
theorem readAct_of {w t : List UInt8} {n : Int} (hw : 32 ∉ w) (hn : IsNum n) : readAct (w ++ 32 :: ((numT n).data.toList ++ 32 :: t)) = readW w n t := by
  unfold readAct
  rw [cut_at hw]
  dsimp only
  rw [cut_at (Pl.num hn.1 hn.2).2]
  dsimp only
  rw [bytesOf_of, parseNum_numT hn]
  rfl
theorem readAct_two {w : List UInt8} {n : Int} (hw : 32 ∉ w) (hn : IsNum n) : readAct (w ++ 32 :: (numT n).data.toList) = readW w n [] := by
  unfold readAct
  rw [cut_at hw]
  dsimp only
  rw [cut_miss (Pl.num hn.1 hn.2).2]
  dsimp only
  rw [bytesOf_of, parseNum_numT hn]
  rfl
/-- The text of an action without blocks: its word, its number, and what follows. -/
def tailT (a : ActionT) : List UInt8 → Prop := fun t => (a.op = 1 ∧ t = a.word.data.toList) ∨ (a.op = 2 ∧ t = a.word.data.toList) ∨ (a.op = 4 ∧ t = [102, 114, 111, 109, 32] ++ (numT a.other).data.toList) ∨ (a.op = 6 ∧ t = (faceT a.face).data.toList) ∨ (a.op = 7 ∧ t = (callT a.call).data.toList)
theorem slot_num {n : Int} (h : SlotNo n) : IsNum n := ⟨h.1, by have := h.2; omega⟩
theorem txt_tail {a : ActionT} {t : List UInt8} (h : tailT a t) : a.txt.data.toList = wl a.op.toNat ++ 32 :: ((numT a.slot).data.toList ++ 32 :: t) := by
  have hw : wl a.op.toNat = (wordT a.op).data.toList := by
    unfold wl
    have : ((a.op.toNat : Nat) : Int) = a.op := by rcases h with h | h | h | h | h <;> omega
    rw [this]
  rw [hw]
  rcases h with ⟨h, rfl⟩ | ⟨h, rfl⟩ | ⟨h, rfl⟩ | ⟨h, rfl⟩ | ⟨h, rfl⟩
  · rw [txt_1 (.inl h)]; simp only [app_list]; simp
  · rw [txt_1 (.inr h)]; simp only [app_list]; simp
  · rw [txt_4 h]; simp only [app_list]; simp
  · rw [txt_6 h]; simp only [app_list]; simp
  · rw [txt_7 h]; simp only [app_list]; simp
theorem txt_two {a : ActionT} (h : a.op = 3 ∨ a.op = 5) : a.txt.data.toList = wl a.op.toNat ++ 32 :: (numT a.slot).data.toList := by
  have hw : wl a.op.toNat = (wordT a.op).data.toList := by
    unfold wl
    have : ((a.op.toNat : Nat) : Int) = a.op := by omega
    rw [this]
  rw [hw, txt_3 h]
  simp only [app_list]
  simp
theorem simple_cases {a : ActionT} (hok : a.ok) (h7 : a.op ≤ 7) : a.op = 1 ∨ a.op = 2 ∨ a.op = 3 ∨ a.op = 4 ∨ a.op = 5 ∨ a.op = 6 ∨ a.op = 7 := by
  have := ok_op hok; omega
theorem wl_op {a : ActionT} {k : Nat} (h : a.op = k) : wl a.op.toNat = wl k := by rw [h]; rfl
/-- What is written of an action without blocks is read again. -/
theorem readAct_txt {a : ActionT} (hok : a.ok) (h7 : a.op ≤ 7) : readAct a.txt.data.toList = some a := by
  have hs := slot_num (ok_slot hok)
  rcases simple_cases hok h7 with h | h | h | h | h | h | h
  · obtain ⟨_, _, hf⟩ := (okS_1 h).1 hok
    rw [txt_tail (t := a.word.data.toList) (.inl ⟨h, rfl⟩), wl_op (k := 1) h, readAct_of (wl_sp 1 (by omega)).1 hs]
    unfold readW
    rw [if_pos rfl, bytesOf_of, act_ext h.symm rfl (fields_other hf).symm rfl (fields_call hf).symm (fields_face hf).symm hf.A hf.B]
  · obtain ⟨_, _, hf⟩ := (okS_2 h).1 hok
    rw [txt_tail (t := a.word.data.toList) (.inr (.inl ⟨h, rfl⟩)), wl_op (k := 2) h, readAct_of (wl_sp 2 (by omega)).1 hs]
    unfold readW
    rw [if_neg (by decide), if_pos rfl, bytesOf_of, act_ext h.symm rfl (fields_other hf).symm rfl (fields_call hf).symm (fields_face hf).symm hf.A hf.B]
  · obtain ⟨_, hf⟩ := (okS_3 (.inl h)).1 hok
    rw [txt_two (.inl h), wl_op (k := 3) h, readAct_two (wl_sp 3 (by omega)).1 hs]
    unfold readW
    rw [if_neg (by decide), if_neg (by decide), if_pos rfl, act_ext h.symm rfl (fields_other hf).symm (fields_word hf).symm (fields_call hf).symm (fields_face hf).symm hf.A hf.B]
  · obtain ⟨_, ho, _, hf⟩ := (okS_4 h).1 hok
    rw [txt_tail (t := [102, 114, 111, 109, 32] ++ (numT a.other).data.toList) (.inr (.inr (.inl ⟨h, rfl⟩))), wl_op (k := 4) h, readAct_of (wl_sp 4 (by omega)).1 hs]
    unfold readW
    rw [if_neg (by decide), if_neg (by decide), if_neg (by decide), if_pos rfl, if_pos (by simp)]
    have e5 : List.drop 5 (([102, 114, 111, 109, 32] : List UInt8) ++ (numT a.other).data.toList) = (numT a.other).data.toList := rfl
    rw [e5, bytesOf_of, parseNum_numT (slot_num ho), Option.map_some, act_ext h.symm rfl rfl (fields_word hf).symm (fields_call hf).symm (fields_face hf).symm hf.A hf.B]
  · obtain ⟨_, hf⟩ := (okS_3 (.inr h)).1 hok
    rw [txt_two (.inr h), wl_op (k := 5) h, readAct_two (wl_sp 5 (by omega)).1 hs]
    unfold readW
    rw [if_neg (by decide), if_neg (by decide), if_neg (by decide), if_neg (by decide), if_pos rfl, act_ext h.symm rfl (fields_other hf).symm (fields_word hf).symm (fields_call hf).symm (fields_face hf).symm hf.A hf.B]
  · obtain ⟨_, hi, hf⟩ := (okS_6 h).1 hok
    rw [txt_tail (t := (faceT a.face).data.toList) (.inr (.inr (.inr (.inl ⟨h, rfl⟩)))), wl_op (k := 6) h, readAct_of (wl_sp 6 (by omega)).1 hs]
    unfold readW
    rw [if_neg (by decide), if_neg (by decide), if_neg (by decide), if_neg (by decide), if_neg (by decide), if_pos rfl, bytesOf_of, faceOf_face hi, Option.map_some, act_ext h.symm rfl (fields_other hf).symm (fields_word hf).symm (fields_call hf).symm rfl hf.A hf.B]
  · obtain ⟨_, hc, hf⟩ := (okS_7 h).1 hok
    rw [txt_tail (t := (callT a.call).data.toList) (.inr (.inr (.inr (.inr ⟨h, rfl⟩)))), wl_op (k := 7) h, readAct_of (wl_sp 7 (by omega)).1 hs]
    unfold readW
    rw [if_neg (by decide), if_neg (by decide), if_neg (by decide), if_neg (by decide), if_neg (by decide), if_neg (by decide), if_pos rfl, bytesOf_of, callI_callT hc.1, Option.map_some, act_ext h.symm rfl (fields_other hf).symm (fields_word hf).symm rfl (fields_face hf).symm hf.A hf.B]
theorem call_plain {x : CallT} (h : PlanCall x) : Pl (callT x).data.toList := by
  obtain ⟨p1, p2, p3, p4, p5, pm⟩ := callOk_parts h.1
  by_cases hp : x.method = mPut
  · obtain ⟨hk, hv⟩ := p3 hp
    rw [callT_put h.1 hp]
    simp only [app_list]
    exact (((show Pl [80, 117, 116, 32] by decide).app (Pl.nm hk).1).app (show Pl [32] by decide)).app (Pl.num hv.1 hv.2).1
  · by_cases hg : x.method = mGet
    · rw [callT_get h.1 hg]
      simp only [app_list]
      exact (show Pl [71, 101, 116, 32] by decide).app (Pl.nm (p2 hg).1).1
    · by_cases hh : x.method = mHear
      · have hv := (p4 hh).2
        rw [callT_hear h.1 hh]
        simp only [app_list]
        exact (show Pl [72, 101, 97, 114, 32] by decide).app (Pl.num hv.1 hv.2).1
      · by_cases hl : x.method = mLoad
        · rw [callT_load h.1 hl]
          simp only [app_list]
          have hb := cells_byte h.2
          refine (show Pl [76, 111, 97, 100, 32] by decide).app ⟨fun hm => ?_, fun hm => ?_⟩ <;> (have := hb _ hm; simp at this)
        · rw [callT_other h.1 ⟨hg, hp, hh, hl⟩]
          exact pm.1
theorem txt_plain {a : ActionT} (hok : a.ok) (h7 : a.op ≤ 7) : Pl a.txt.data.toList := by
  have hs := slot_num (ok_slot hok)
  have hn := (Pl.num hs.1 hs.2).1
  have s1 : Pl [32] := by decide
  have build : ∀ t, Pl t → tailT a t → Pl a.txt.data.toList := fun t ht h => by
    rw [txt_tail h]
    have hk : a.op.toNat < 11 := by omega
    exact (wl_sp _ hk).2.app (s1.app (hn.app (s1.app ht)))
  rcases simple_cases hok h7 with h | h | h | h | h | h | h
  · exact build _ (kind_low ((okS_1 h).1 hok).2.1).1 (.inl ⟨h, rfl⟩)
  · exact build _ (layer_low ((okS_2 h).1 hok).2.1).1 (.inr (.inl ⟨h, rfl⟩))
  · rw [txt_two (.inl h)]
    exact (wl_sp _ (by omega)).2.app (s1.app hn)
  · have ho := slot_num ((okS_4 h).1 hok).2.1
    exact build _ ((show Pl [102, 114, 111, 109, 32] by decide).app (Pl.num ho.1 ho.2).1) (.inr (.inr (.inl ⟨h, rfl⟩)))
  · rw [txt_two (.inr h)]
    exact (wl_sp _ (by omega)).2.app (s1.app hn)
  · exact build _ (face_low ((okS_6 h).1 hok).2.1).1 (.inr (.inr (.inr (.inl ⟨h, rfl⟩))))
  · exact build _ (call_plain ((okS_7 h).1 hok).2.1) (.inr (.inr (.inr (.inr ⟨h, rfl⟩))))
end Go.Proofs.YtkgffhlpcjjobaaGreatDoor
namespace Go.Proofs.YtkgffhlpcjjobaaGreatDoor
open Go.RowKit

def wIf : List UInt8 := [105, 102, 32]
def wLoop : List UInt8 := [108, 111, 111, 112, 32]
def wTry : List UInt8 := [116, 114, 121, 32]
def wElse : List UInt8 := [32, 101, 108, 115, 101, 32]
/-- Actions one behind the other. -/
noncomputable def pL (act : List UInt8 → Option (ActionT × List UInt8)) : Nat → List ActionT → List UInt8 → Option (List ActionT × List UInt8)
  | 0, _, _ => none
  | f + 1, acc, s => match act s with
    | none => none
    | some (a, r) => if [59, 32].isPrefixOf r then pL act f (acc ++ [a]) (r.drop 2) else some (acc ++ [a], r)
/-- A block. -/
noncomputable def pB (lst : List UInt8 → Option (List ActionT × List UInt8)) (s : List UInt8) : Option (List ActionT × List UInt8) :=
  if [123, 32, 125].isPrefixOf s then some ([], s.drop 3)
  else if [123, 32].isPrefixOf s then match lst (s.drop 2) with
    | none => none
    | some (l, r) => if [32, 125].isPrefixOf r then some (l, r.drop 2) else none
  else none
def blkA (op : Int) (A B : List ActionT) : ActionT := .mk op 0 0 noB zeroC 0 A B
noncomputable def pTwo (op : Int) (blk : List UInt8 → Option (List ActionT × List UInt8)) (s : List UInt8) : Option (ActionT × List UInt8) := match blk s with
  | none => none
  | some (A, r) => if wElse.isPrefixOf r then (match blk (r.drop 6) with | none => none | some (B, q) => some (blkA op A B, q)) else none
noncomputable def pA (blk : List UInt8 → Option (List ActionT × List UInt8)) (s : List UInt8) : Option (ActionT × List UInt8) :=
  if wIf.isPrefixOf s then pTwo 8 blk (s.drop 3)
  else if wLoop.isPrefixOf s then (match blk (s.drop 5) with | none => none | some (A, r) => some (blkA 9 A [], r))
  else if wTry.isPrefixOf s then pTwo 10 blk (s.drop 4)
  else match readAct (s.take (stopAt s)) with | none => none | some a => some (a, s.drop (stopAt s))
/-- An action; the number is how deep it may go. -/
noncomputable def pAct : Nat → List UInt8 → Option (ActionT × List UInt8)
  | 0, _ => none
  | n + 1, s => pA (pB (fun r => pL (pAct n) (r.length + 1) [] r)) s
noncomputable def pLst (n : Nat) (r : List UInt8) : Option (List ActionT × List UInt8) := pL (pAct n) (r.length + 1) [] r
noncomputable def pBlk (n : Nat) : List UInt8 → Option (List ActionT × List UInt8) := pB (pLst n)
theorem pAct_succ (n : Nat) (s : List UInt8) : pAct (n + 1) s = pA (pBlk n) s := rfl

/-- The texts of actions, as bytes. -/
noncomputable def jl : List ActionT → List UInt8
  | [] => []
  | [a] => a.txt.data.toList
  | a :: b :: l => a.txt.data.toList ++ 59 :: 32 :: jl (b :: l)
theorem jl_join : ∀ l : List ActionT, (joinB (txtL l) ⟨#[59, 32]⟩).data.toList = jl l
  | [] => rfl
  | [a] => by
    rw [txtL, txtL, joinB_one]; rfl
  | a :: b :: l => by
    have ih := jl_join (b :: l)
    rw [jl, ← ih]
    rw [txtL]
    unfold joinB
    show Lib.join (bl (a.txt :: txtL (b :: l))) [59, 32] = a.txt.data.toList ++ 59 :: 32 :: (Lib.join (bl (txtL (b :: l))) [59, 32])
    rw [show bl (a.txt :: txtL (b :: l)) = a.txt.data.toList :: bl (txtL (b :: l)) from rfl, Lib.join_cons]
    rw [txtL, show bl (b.txt :: txtL l) = b.txt.data.toList :: bl (txtL l) from rfl, Lib.join_cons]
    simp [Lib.joinTail]
theorem jl_len : ∀ l : List ActionT, l.length ≤ (jl l).length + 1
  | [] => by simp
  | [a] => by simp
  | a :: b :: l => by
    have := jl_len (b :: l)
    rw [jl]
    simp at this ⊢
    omega
/-- The text of an action begins with its word. -/
theorem txt_head {a : ActionT} (hok : a.ok) : ∃ b t, a.txt.data.toList = b :: t ∧ (wl a.op.toNat).head? = some b := by
  have hsome : ∃ k t, a.txt.data.toList = wl a.op.toNat ++ t ∧ a.op = (k : Nat) ∧ 1 ≤ k ∧ k ≤ 10 := by
    have ho := ok_op hok
    have hw : wl a.op.toNat = (wordT a.op).data.toList := by
      unfold wl
      have : ((a.op.toNat : Nat) : Int) = a.op := by omega
      rw [this]
    rw [hw]
    refine ⟨a.op.toNat, ?_⟩
    rcases op_cases a.op with (h | h | h | h | h | h | h | h | h | h) | h
    · exact ⟨_, by rw [txt_1 (.inl h)]; simp only [app_list, List.append_assoc]; rfl, by omega, by omega, by omega⟩
    · exact ⟨_, by rw [txt_1 (.inr h)]; simp only [app_list, List.append_assoc]; rfl, by omega, by omega, by omega⟩
    · exact ⟨_, by rw [txt_3 (.inl h)]; simp only [app_list, List.append_assoc]; rfl, by omega, by omega, by omega⟩
    · exact ⟨_, by rw [txt_4 h]; simp only [app_list, List.append_assoc]; rfl, by omega, by omega, by omega⟩
    · exact ⟨_, by rw [txt_3 (.inr h)]; simp only [app_list, List.append_assoc]; rfl, by omega, by omega, by omega⟩
    · exact ⟨_, by rw [txt_6 h]; simp only [app_list, List.append_assoc]; rfl, by omega, by omega, by omega⟩
    · exact ⟨_, by rw [txt_7 h]; simp only [app_list, List.append_assoc]; rfl, by omega, by omega, by omega⟩
    · exact ⟨_, by rw [txt_8 (.inl h)]; simp only [app_list, List.append_assoc]; rfl, by omega, by omega, by omega⟩
    · exact ⟨_, by rw [txt_9 h]; simp only [app_list, List.append_assoc]; rfl, by omega, by omega, by omega⟩
    · exact ⟨_, by rw [txt_8 (.inr h)]; simp only [app_list, List.append_assoc]; rfl, by omega, by omega, by omega⟩
    · exact absurd ho h.1
  obtain ⟨k, t, e, hk, h1, h2⟩ := hsome
  have hkk : a.op.toNat = k := by omega
  rw [hkk] at e ⊢
  have hne : ∀ k, k < 11 → 1 ≤ k → wl k ≠ [] := by decide
  cases hw : wl k with
  | nil => exact absurd hw (hne k (by omega) h1)
  | cons b r => exact ⟨b, r ++ t, by rw [e, hw]; rfl, rfl⟩
theorem head_w1 : ∀ k : Fin 11, 1 ≤ k.1 → (wl k.1).head? ≠ some 125 ∧ (wl k.1).head? ≠ some 110 := by decide
theorem head_w2 : ∀ k : Fin 8, 1 ≤ k.1 → (wl k.1).head? ≠ some 105 ∧ (wl k.1).head? ≠ some 108 ∧ (wl k.1).head? ≠ some 116 := by decide
theorem head_word (k : Nat) (h : k < 11) (h1 : 1 ≤ k) : (wl k).head? ≠ some 125 ∧ (wl k).head? ≠ some 110 ∧ (k ≤ 7 → (wl k).head? ≠ some 105 ∧ (wl k).head? ≠ some 108 ∧ (wl k).head? ≠ some 116) :=
  ⟨(head_w1 ⟨k, h⟩ h1).1, (head_w1 ⟨k, h⟩ h1).2, fun h7 => head_w2 ⟨k, by omega⟩ h1⟩
theorem not_pre {c : UInt8} {t x : List UInt8} (h : x.head? ≠ some c) : (c :: t).isPrefixOf x = false := by
  cases x with
  | nil => rfl
  | cons b x =>
    show (c == b && _) = false
    rw [beq_eq_false_iff_ne.2 (fun e => h (by rw [← e]; rfl))]
    rfl
theorem pre_app (p x : List UInt8) : p.isPrefixOf (p ++ x) = true := by simp
theorem txt_head_app {a : ActionT} (hok : a.ok) (x : List UInt8) : (a.txt.data.toList ++ x).head? = (wl a.op.toNat).head? := by
  obtain ⟨b, t, e, h⟩ := txt_head hok
  rw [e, h]
  rfl
theorem jl_head {a : ActionT} {l : List ActionT} (hok : a.ok) (x : List UInt8) : (jl (a :: l) ++ x).head? = (wl a.op.toNat).head? := by
  cases l with
  | nil => exact txt_head_app hok x
  | cons b l => rw [jl, List.append_assoc]; exact txt_head_app hok _
theorem pL_txt {act : List UInt8 → Option (ActionT × List UInt8)} : ∀ (l : List ActionT) (f : Nat) (acc : List ActionT) (x : List UInt8), l ≠ [] → l.length ≤ f → (∀ a ∈ l, ∀ y, EndOk y → act (a.txt.data.toList ++ y) = some (a, y)) → (x = [] ∨ ∃ y, x = 32 :: 125 :: y) → pL act f acc (jl l ++ x) = some (acc ++ l, x)
  | [], _, _, _, h, _, _, _ => absurd rfl h
  | [a], 0, acc, x, _, hf, _, _ => by simp at hf
  | [a], f + 1, acc, x, _, _, ha, hx => by
    have := ha a (by simp) x (by rcases hx with h | h <;> simp [EndOk, h])
    rw [jl, pL, this]
    have hp : ([59, 32] : List UInt8).isPrefixOf x = false := not_pre (by rcases hx with rfl | ⟨y, rfl⟩ <;> simp)
    dsimp only
    rw [hp]
    rfl
  | a :: b :: l, 0, acc, x, _, hf, _, _ => by simp at hf
  | a :: b :: l, f + 1, acc, x, _, hf, ha, hx => by
    have h1 := ha a (by simp) (59 :: 32 :: (jl (b :: l) ++ x)) (.inr (.inl ⟨_, rfl⟩))
    have ih := pL_txt (b :: l) f (acc ++ [a]) x (by simp) (by simp at hf ⊢; omega) (fun c hc => ha c (List.mem_cons_of_mem _ hc)) hx
    have e : jl (a :: b :: l) ++ x = a.txt.data.toList ++ (59 :: 32 :: (jl (b :: l) ++ x)) := by rw [jl]; simp
    rw [e, pL, h1]
    dsimp only
    rw [if_pos (by simp), show (59 :: 32 :: (jl (b :: l) ++ x)).drop 2 = jl (b :: l) ++ x from rfl, ih]
    simp
theorem blkT_list (l : List ActionT) : (blkT (txtL l)).data.toList = if l = [] then [123, 32, 125] else 123 :: 32 :: (jl l ++ [32, 125]) := by
  cases l with
  | nil => rfl
  | cons a l =>
    rw [if_neg (by simp), txtL, blkT, ← txtL]
    simp only [app_list]
    rw [jl_join]
    simp
/-- What is written of a block is read again. -/
theorem pB_txt {n : Nat} {l : List ActionT} (hok : okL l) (hP : ∀ a ∈ l, ∀ y, EndOk y → pAct n (a.txt.data.toList ++ y) = some (a, y)) (x : List UInt8) : pBlk n ((blkT (txtL l)).data.toList ++ x) = some (l, x) := by
  rw [blkT_list]
  cases l with
  | nil =>
    rw [if_pos rfl]
    unfold pBlk pB
    rw [if_pos (by simp)]
    rfl
  | cons a l =>
    have ha := (okL_iff _).1 hok a (by simp)
    have ho := ok_op ha
    have hh := head_word a.op.toNat (by omega) (by omega)
    have e : (123 :: 32 :: (jl (a :: l) ++ [32, 125])) ++ x = 123 :: 32 :: (jl (a :: l) ++ (32 :: 125 :: x)) := by simp
    rw [if_neg (by simp), e]
    unfold pBlk pB
    have h1 : ([123, 32, 125] : List UInt8).isPrefixOf (123 :: 32 :: (jl (a :: l) ++ (32 :: 125 :: x))) = false := by
      show (true && (true && [125].isPrefixOf (jl (a :: l) ++ (32 :: 125 :: x)))) = false
      rw [not_pre (by rw [jl_head ha]; exact hh.1)]
      rfl
    rw [h1, if_neg (by simp), if_pos (by simp), show (123 :: 32 :: (jl (a :: l) ++ (32 :: 125 :: x))).drop 2 = jl (a :: l) ++ (32 :: 125 :: x) from rfl]
    unfold pLst
    rw [pL_txt (a :: l) _ [] (32 :: 125 :: x) (by simp) (by have := jl_len (a :: l); simp only [List.length_append]; omega) hP (.inr ⟨x, rfl⟩)]
    dsimp only
    rw [if_pos (by simp)]
    rfl
theorem depthL_in {l : List ActionT} {n : Nat} (h : depthL l ≤ n) : ∀ a ∈ l, a.depth ≤ n := fun a ha => by have := depthL_mem ha; omega
theorem blk_ext {a : ActionT} {op : Int} {A B : List ActionT} (h1 : op = a.op) (h2 : a.slot = 0) (h3 : a.other = 0) (h4 : a.word = noB) (h5 : a.call = zeroC) (h6 : a.face = 0) (h7 : A = a.A) (h8 : B = a.B) : blkA op A B = a := by
  cases a with | mk o s ot w c f A' B' =>
  simp only [ActionT.op, ActionT.slot, ActionT.other, ActionT.word, ActionT.call, ActionT.face, ActionT.A, ActionT.B] at h1 h2 h3 h4 h5 h6 h7 h8
  subst h1 h2 h3 h4 h5 h6 h7 h8
  rfl
/-- What is written of an action is read again. -/
theorem pAct_txt : ∀ (n : Nat) (a : ActionT), a.ok → a.depth ≤ n → ∀ x, EndOk x → pAct n (a.txt.data.toList ++ x) = some (a, x)
  | 0, a, _, hd, _, _ => by rw [a.depth_eq] at hd; omega
  | n + 1, a, hok, hd, x, hx => by
    have ho := ok_op hok
    rw [a.depth_eq] at hd
    have hin := (a.ok_iff).1 hok
    have pA_ : ∀ b ∈ a.A, ∀ y, EndOk y → pAct n (b.txt.data.toList ++ y) = some (b, y) := fun b hb => pAct_txt n b ((okL_iff _).1 hin.2.1 b hb) (depthL_in (by omega) b hb)
    have pB_ : ∀ b ∈ a.B, ∀ y, EndOk y → pAct n (b.txt.data.toList ++ y) = some (b, y) := fun b hb => pAct_txt n b ((okL_iff _).1 hin.2.2 b hb) (depthL_in (by omega) b hb)
    rw [pAct_succ]
    by_cases h7 : a.op ≤ 7
    · have hh := (head_word a.op.toNat (by omega) (by omega)).2.2 (by omega)
      have hp := txt_plain hok h7
      have he := txt_head_app hok x
      unfold pA wIf wLoop wTry
      rw [not_pre (by rw [he]; exact hh.1), if_neg (by simp), not_pre (by rw [he]; exact hh.2.1), if_neg (by simp), not_pre (by rw [he]; exact hh.2.2), if_neg (by simp), stopAt_eq hp.1 hp.2 hx, List.take_left, readAct_txt hok h7, List.drop_left]
    · have two : ∀ op : Nat, (op = 8 ∨ op = 10) → a.op = op → pTwo op (pBlk n) ((blkT (txtL a.A)).data.toList ++ (wElse ++ ((blkT (txtL a.B)).data.toList ++ x))) = some (a, x) := by
        intro op h10 hop
        have hf := ((okS_8 (by omega)).1 hok).1
        unfold pTwo
        rw [pB_txt hin.2.1 pA_]
        dsimp only
        rw [if_pos (pre_app _ _), show (wElse ++ ((blkT (txtL a.B)).data.toList ++ x)).drop 6 = (blkT (txtL a.B)).data.toList ++ x from rfl, pB_txt hin.2.2 pB_]
        dsimp only
        rw [blk_ext hop.symm hf.1 (fields_other hf.2) (fields_word hf.2) (fields_call hf.2) (fields_face hf.2) rfl rfl]
      have h89 : a.op = 8 ∨ a.op = 9 ∨ a.op = 10 := by omega
      rcases h89 with h | h | h
      · have e : a.txt.data.toList ++ x = wIf ++ ((blkT (txtL a.A)).data.toList ++ (wElse ++ ((blkT (txtL a.B)).data.toList ++ x))) := by
          rw [txt_8 (.inl h), h]
          simp only [app_list]
          simp [wIf, wElse, wordT, planWordsL]
        unfold pA
        rw [e, if_pos (pre_app _ _)]
        exact two 8 (.inl rfl) h
      · have hf := ((okS_9 h).1 hok).1
        have e : a.txt.data.toList ++ x = wLoop ++ ((blkT (txtL a.A)).data.toList ++ x) := by
          rw [txt_9 h, h]
          simp only [app_list]
          simp [wLoop, wordT, planWordsL]
        have hB : a.B = [] := List.eq_nil_of_length_eq_zero hf.2.B
        unfold pA wIf
        rw [e, not_pre (by simp [wLoop]), if_neg (by simp), if_pos (pre_app _ _), show (wLoop ++ ((blkT (txtL a.A)).data.toList ++ x)).drop 5 = (blkT (txtL a.A)).data.toList ++ x from rfl, pB_txt hin.2.1 pA_]
        dsimp only
        rw [blk_ext h.symm hf.1 (fields_other hf.2) (fields_word hf.2) (fields_call hf.2) (fields_face hf.2) rfl hB.symm]
      · have e : a.txt.data.toList ++ x = wTry ++ ((blkT (txtL a.A)).data.toList ++ (wElse ++ ((blkT (txtL a.B)).data.toList ++ x))) := by
          rw [txt_8 (.inr h), h]
          simp only [app_list]
          simp [wTry, wElse, wordT, planWordsL]
        unfold pA wIf wLoop
        rw [e, not_pre (by simp [wTry]), if_neg (by simp), not_pre (by simp [wTry]), if_neg (by simp), if_pos (pre_app _ _)]
        exact two 10 (.inr rfl) h
/-- What is written of a plan is read again. -/
theorem pLst_txt {n : Nat} {l : List ActionT} (hok : okL l) (hd : depthL l ≤ n) (hl : l.length ≠ 0) : pLst n (joinB (txtL l) ⟨#[59, 32]⟩).data.toList = some (l, []) := by
  unfold pLst
  rw [jl_join]
  have := pL_txt (act := pAct n) l ((jl l).length + 1) [] [] (by intro e; rw [e] at hl; exact hl rfl) (jl_len l) (fun a ha y hy => pAct_txt n a ((okL_iff _).1 hok a ha) (depthL_in hd a ha) y hy) (.inl rfl)
  rw [List.append_nil] at this
  exact this
theorem planT_list {l : List ActionT} (h : PlanOk l) (h0 : l.length ≠ 0) : ∃ b t, (planT l).data.toList = b :: t ∧ b ≠ 110 := by
  rw [planT_pos h h0, jl_join]
  cases l with
  | nil => exact absurd rfl h0
  | cons a l =>
    have ha := (okL_iff _).1 h.2.2 a (by simp)
    have ho := ok_op ha
    have hh := (head_word a.op.toNat (by omega) (by omega)).2.1
    have he := jl_head (l := l) ha []
    rw [List.append_nil] at he
    cases e : jl (a :: l) with
    | nil => rw [e] at he; rw [← he] at hh; obtain ⟨b, t, h1, h2⟩ := txt_head ha; rw [h2] at he; simp at he
    | cons b t =>
      refine ⟨b, t, rfl, ?_⟩
      rintro rfl
      rw [e] at he
      exact hh he.symm
def nothingT : ByteArray := ⟨#[110, 111, 116, 104, 105, 110, 103]⟩
theorem planT_inj {l m : List ActionT} (hl : PlanOk l) (hm : PlanOk m) (h : planT l = planT m) : l = m := by
  by_cases h0 : l.length = 0
  · by_cases h1 : m.length = 0
    · rw [List.eq_nil_of_length_eq_zero h0, List.eq_nil_of_length_eq_zero h1]
    · obtain ⟨b, t, e, hb⟩ := planT_list hm h1
      rw [← h, planT_nil hl h0] at e
      simp at e
      exact absurd e.1.symm hb
  · by_cases h1 : m.length = 0
    · obtain ⟨b, t, e, hb⟩ := planT_list hl h0
      rw [h, planT_nil hm h1] at e
      simp at e
      exact absurd e.1.symm hb
    · have e1 := pLst_txt (n := 3) hl.2.2 hl.2.1 h0
      have e2 := pLst_txt (n := 3) hm.2.2 hm.2.1 h1
      rw [← planT_pos hl h0, h, planT_pos hm h1, e2] at e1
      simp at e1
      exact e1.symm
theorem planT_some {l : List ActionT} (h : PlanOk l) : (planT l).size ≠ 0 := by
  by_cases h0 : l.length = 0
  · rw [planT_nil h h0]; decide
  · obtain ⟨b, t, e, _⟩ := planT_list h h0
    rw [← size_list, e]
    simp
open Classical in
/-- The plan of a text. -/
noncomputable def parseT (s : ByteArray) : Option (List ActionT) := if h : s.size ≤ 600 ∧ ∃ l, PlanOk l ∧ planT l = s then some h.2.choose else none
theorem parseT_some {s : ByteArray} {l : List ActionT} (h1 : s.size ≤ 600) (h2 : PlanOk l) (h3 : planT l = s) : parseT s = some l := by
  have h : s.size ≤ 600 ∧ ∃ l, PlanOk l ∧ planT l = s := ⟨h1, l, h2, h3⟩
  unfold parseT
  rw [dif_pos h]
  congr 1
  exact planT_inj h.2.choose_spec.1 h2 (h.2.choose_spec.2.trans h3.symm)
theorem parseT_none {s : ByteArray} (h : s.size ≤ 600 → ∀ l, PlanOk l → planT l ≠ s) : parseT s = none := by
  unfold parseT
  rw [dif_neg]
  rintro ⟨h1, l, h2, h3⟩
  exact h h1 l h2 h3
theorem parseT_is {s : ByteArray} {l : List ActionT} (h : parseT s = some l) : s.size ≤ 600 ∧ PlanOk l ∧ planT l = s := by
  unfold parseT at h
  split at h
  · rename_i k
    cases h
    exact ⟨k.1, k.2.choose_spec⟩
  · cases h
/-- The parser's answer, where it finds one. -/
theorem parse_hit {s : ByteArray} (hn : s ≠ nothingT) {l : List ActionT} (h1 : PlanOk l) (h2 : planT l = s) : pLst 601 s.data.toList = some (l, []) := by
  have h0 : l.length ≠ 0 := fun e => hn (by rw [← h2, planT_nil h1 e]; rfl)
  rw [← h2, planT_pos h1 h0]
  exact pLst_txt h1.2.2 (by have := h1.2.1; omega) h0
end Go.Proofs.YtkgffhlpcjjobaaGreatDoor
namespace Go.Proofs.YtkgffhlpcjjobaaGreatDoor
open Go.RowKit

theorem callT_parts {x : CallT} (h : CallOk x) : callW x ≤ (callT x).size := by
  obtain ⟨p1, p2, p3, p4, p5, pm⟩ := callOk_parts h
  have z : noB.size = 0 := rfl
  unfold callW
  by_cases hp : x.method = mPut
  · rw [callT_put h hp, p1 (by rw [hp]; decide), z]
    simp only [ByteArray.size_append]
    have e1 : x.method.size = 3 := by rw [hp]; rfl
    have e2 : (⟨#[80, 117, 116, 32]⟩ : ByteArray).size = 4 := rfl
    omega
  · by_cases hg : x.method = mGet
    · rw [callT_get h hg, p1 (by rw [hg]; decide), z]
      simp only [ByteArray.size_append]
      have e1 : x.method.size = 3 := by rw [hg]; rfl
      have e2 : (⟨#[71, 101, 116, 32]⟩ : ByteArray).size = 4 := rfl
      omega
    · by_cases hh : x.method = mHear
      · rw [callT_hear h hh, p1 (by rw [hh]; decide), (p4 hh).1, z]
        simp only [ByteArray.size_append]
        have e1 : x.method.size = 4 := by rw [hh]; rfl
        have e2 : (⟨#[72, 101, 97, 114, 32]⟩ : ByteArray).size = 5 := rfl
        omega
      · obtain ⟨hk, _⟩ := p5 hg hp hh
        by_cases hl : x.method = mLoad
        · rw [callT_load h hl, hk, z]
          simp only [ByteArray.size_append]
          have e1 : x.method.size = 4 := by rw [hl]; rfl
          have e2 : (⟨#[76, 111, 97, 100, 32]⟩ : ByteArray).size = 5 := rfl
          omega
        · rw [callT_other h ⟨hg, hp, hh, hl⟩, hk, p1 hl, z]
          omega
theorem mkA_W {op slot other face : Int} {word : ByteArray} {call : CallT} : actionW (mkA op slot other word call face) = word.size + callW call := by
  rw [actionW_eq]
  show word.size + callW call + actionsW [] + actionsW [] = _
  simp [actionsW, actionsW1]
theorem zeroC_W : callW zeroC = 0 := rfl
theorem readW_W {w t : List UInt8} {n : Int} {a : ActionT} (h : readW w n t = some a) : actionW a ≤ t.length := by
  unfold readW at h
  have z : noB.size = 0 := rfl
  have zc : callW zeroC = 0 := rfl
  split at h
  · cases h; rw [mkA_W, zc, bytesOf_size]; omega
  · split at h
    · cases h; rw [mkA_W, zc, bytesOf_size]; omega
    · split at h
      · cases h; rw [mkA_W, zc, z]; omega
      · split at h
        · split at h
          · obtain ⟨m, _, rfl⟩ := Option.map_eq_some_iff.1 h
            rw [mkA_W, zc, z]; omega
          · cases h
        · split at h
          · cases h; rw [mkA_W, zc, z]; omega
          · split at h
            · obtain ⟨m, _, rfl⟩ := Option.map_eq_some_iff.1 h
              rw [mkA_W, zc, z]; omega
            · split at h
              · obtain ⟨x, hx, rfl⟩ := Option.map_eq_some_iff.1 h
                have k := callI_is hx
                have := callT_parts k.1
                rw [k.2, bytesOf_size] at this
                rw [mkA_W, z]; omega
              · cases h
theorem cut_le (s c : List UInt8) : (Lib.cut s c).1.length ≤ s.length ∧ (Lib.cut s c).2.1.length ≤ s.length := by
  unfold Lib.cut
  split
  · simp only [List.length_take, List.length_drop]; omega
  · simp
theorem readAct_W {s : List UInt8} {a : ActionT} (h : readAct s = some a) : actionW a ≤ s.length ∧ 1 ≤ s.length := by
  unfold readAct at h
  obtain ⟨n, hn, ha⟩ := Option.bind_eq_some_iff.1 h
  have h1 := readW_W ha
  have c1 := cut_le s [32]
  have c2 := cut_le (Lib.cut s [32]).2.1 [32]
  have hz := (parseNum_of hn).size.1
  rw [bytesOf_size] at hz
  omega
theorem pre_len {p s : List UInt8} (h : p.isPrefixOf s = true) : p.length ≤ s.length := (List.isPrefixOf_iff_prefix.1 h).length_le
theorem actionsW_snoc (l : List ActionT) (a : ActionT) : actionsW (l ++ [a]) = actionsW l + (actionW a + 1) := by
  unfold actionsW actionsW1
  simp
  omega
/-- How much a reading of actions gives. -/
def LW (f : List UInt8 → Option (List ActionT × List UInt8)) : Prop := ∀ s l r, f s = some (l, r) → actionsW l + 2 * r.length ≤ 2 * s.length
def AW (f : List UInt8 → Option (ActionT × List UInt8)) : Prop := ∀ s a r, f s = some (a, r) → actionW a + 1 + 2 * r.length ≤ 2 * s.length
theorem blkA_W {op : Int} {A B : List ActionT} : actionW (blkA op A B) = actionsW A + actionsW B := by
  rw [actionW_eq]
  show noB.size + callW zeroC + actionsW A + actionsW B = _
  simp [show noB.size = 0 from rfl, zeroC_W]
theorem pTwo_W {blk : List UInt8 → Option (List ActionT × List UInt8)} (hb : LW blk) {op : Int} {s r : List UInt8} {a : ActionT} (h : pTwo op blk s = some (a, r)) : actionW a + 2 * r.length ≤ 2 * s.length := by
  unfold pTwo at h
  split at h
  · cases h
  · rename_i A r1 h1
    split at h
    · split at h
      · cases h
      · rename_i B q h2
        cases h
        have k1 := hb _ _ _ h1
        have k2 := hb _ _ _ h2
        rw [List.length_drop] at k2
        rw [blkA_W]
        omega
    · cases h
theorem pA_W {blk : List UInt8 → Option (List ActionT × List UInt8)} (hb : LW blk) : AW (pA blk) := by
  intro s a r h
  unfold pA at h
  split at h
  · rename_i hp
    have h0 := pre_len hp
    have h1 := pTwo_W hb h
    rw [List.length_drop] at h1
    simp only [wIf, List.length_cons, List.length_nil] at h0
    omega
  · split at h
    · rename_i hp
      have h0 := pre_len hp
      simp only [wLoop, List.length_cons, List.length_nil] at h0
      split at h
      · cases h
      · rename_i A q h1
        cases h
        have k1 := hb _ _ _ h1
        rw [List.length_drop] at k1
        rw [blkA_W]
        have : actionsW [] = 0 := rfl
        omega
    · split at h
      · rename_i hp
        have h0 := pre_len hp
        have h1 := pTwo_W hb h
        rw [List.length_drop] at h1
        simp only [wTry, List.length_cons, List.length_nil] at h0
        omega
      · split at h
        · cases h
        · rename_i x hx
          cases h
          have k := readAct_W hx
          have e := stopAt_le s
          rw [List.length_take] at k
          rw [List.length_drop]
          omega
theorem pL_W {act : List UInt8 → Option (ActionT × List UInt8)} (ha : AW act) : ∀ (f : Nat) (acc : List ActionT) (s : List UInt8) (l : List ActionT) (r : List UInt8), pL act f acc s = some (l, r) → actionsW l + 2 * r.length ≤ actionsW acc + 2 * s.length
  | 0, _, _, _, _, h => by rw [pL] at h; cases h
  | f + 1, acc, s, l, r, h => by
    rw [pL] at h
    split at h
    · cases h
    · rename_i a q h1
      have k1 := ha _ _ _ h1
      split at h
      · have k2 := pL_W ha f _ _ _ _ h
        rw [actionsW_snoc, List.length_drop] at k2
        omega
      · cases h
        rw [actionsW_snoc]
        omega
theorem pB_W {lst : List UInt8 → Option (List ActionT × List UInt8)} (hl : LW lst) : LW (pB lst) := by
  intro s l r h
  unfold pB at h
  split at h
  · cases h
    rw [List.length_drop]
    have : actionsW [] = 0 := rfl
    omega
  · split at h
    · split at h
      · cases h
      · rename_i q r1 h1
        have k1 := hl _ _ _ h1
        rw [List.length_drop] at k1
        split at h
        · cases h
          rw [List.length_drop]
          omega
        · cases h
    · cases h
theorem pAct_W : ∀ n, AW (pAct n)
  | 0 => fun s a r h => by rw [pAct] at h; cases h
  | n + 1 => by
    have ih := pAct_W n
    show AW (pA (pBlk n))
    refine pA_W (pB_W (fun s l r h => ?_))
    have := pL_W ih _ _ _ _ _ h
    have e : actionsW [] = 0 := rfl
    omega
theorem pLst_W (n : Nat) : LW (pLst n) := fun s l r h => by
  have := pL_W (pAct_W n) _ _ _ _ _ h
  have e : actionsW [] = 0 := rfl
  omega
theorem pBlk_W (n : Nat) : LW (pBlk n) := pB_W (pLst_W n)
end Go.Proofs.YtkgffhlpcjjobaaGreatDoor
