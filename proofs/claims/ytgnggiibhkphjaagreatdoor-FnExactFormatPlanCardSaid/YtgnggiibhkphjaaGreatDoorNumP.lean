/- Numbers of up to three digits, read from texts, in plain Lean. -/
import Derived.Test.YtgnggiibhkphjaaGreatDoorNumT
import Derived.Lib.Atoi
namespace Go.Proofs.YtgnggiibhkphjaaGreatDoor
open Go.RowKit

/-- What the bytes of a text are reckoned to, whatever they are. -/
def valL : Int → List UInt8 → Int
  | v, [] => v
  | v, b :: l => valL (10 * v + b.toNat - 48) l
theorem valL_snoc : ∀ (l : List UInt8) (v : Int) (b : UInt8), valL v (l ++ [b]) = 10 * valL v l + b.toNat - 48
  | [], v, b => rfl
  | a :: l, v, b => by rw [List.cons_append, valL, valL_snoc l, valL]
/-- The text is that of the number n, which has at most three digits. -/
def NumOf (s : ByteArray) (n : Int) : Prop := 0 ≤ n ∧ n ≤ 999 ∧ numT n = s
def dg (k : Nat) : UInt8 := UInt8.ofNat (48 + k)
theorem dg_toNat {k : Nat} (h : k ≤ 9) : (dg k).toNat = 48 + k := by
  unfold dg
  rw [UInt8.toNat_ofNat']
  omega
theorem dig3 {u : Nat} (h : u ≤ 999) : Lib.decDigits u = if u < 10 then [dg u] else if u < 100 then [dg (u / 10), dg (u % 10)] else [dg (u / 100), dg (u / 10 % 10), dg (u % 10)] := by
  by_cases h1 : u < 10
  · rw [if_pos h1, Lib.decDigits, dif_pos h1]; rfl
  · rw [if_neg h1, Lib.decDigits, dif_neg h1]
    by_cases h2 : u < 100
    · rw [if_pos h2, Lib.decDigits, dif_pos (by omega)]; rfl
    · rw [if_neg h2, Lib.decDigits, dif_neg (by omega), Lib.decDigits, dif_pos (by omega)]
      have e : u / 10 / 10 = u / 100 := by omega
      rw [e]; rfl
theorem num_list {n : Int} (h0 : 0 ≤ n) : (numT n).data.toList = Lib.decDigits n.toNat := by
  unfold numT Lib.itoa
  rw [if_neg (by omega)]
theorem valL_dig {u : Nat} (h : u ≤ 999) : valL 0 (Lib.decDigits u) = u := by
  rw [dig3 h]
  split
  · rename_i h1
    simp only [valL, dg_toNat (show u ≤ 9 by omega)]
    omega
  · split
    · simp only [valL, dg_toNat (show u / 10 ≤ 9 by omega), dg_toNat (show u % 10 ≤ 9 by omega)]
      omega
    · simp only [valL, dg_toNat (show u / 100 ≤ 9 by omega), dg_toNat (show u / 10 % 10 ≤ 9 by omega), dg_toNat (show u % 10 ≤ 9 by omega)]
      omega
theorem dig_len {u : Nat} (h : u ≤ 999) : 1 ≤ (Lib.decDigits u).length ∧ (Lib.decDigits u).length ≤ 3 := by
  rw [dig3 h]
  split
  · simp
  · split <;> simp
theorem dig_digit {u : Nat} (h : u ≤ 999) : ∀ b ∈ Lib.decDigits u, 48 ≤ b.toNat ∧ b.toNat ≤ 57 := by
  intro b hb
  rw [dig3 h] at hb
  split at hb
  · simp at hb; subst hb; rw [dg_toNat (by omega)]; omega
  · split at hb
    · simp at hb
      rcases hb with rfl | rfl
      · rw [dg_toNat (by omega)]; omega
      · rw [dg_toNat (by omega)]; omega
    · simp at hb
      rcases hb with rfl | rfl | rfl
      · rw [dg_toNat (by omega)]; omega
      · rw [dg_toNat (by omega)]; omega
      · rw [dg_toNat (by omega)]; omega
theorem NumOf.list {s : ByteArray} {n : Int} (h : NumOf s n) : s.data.toList = Lib.decDigits n.toNat ∧ n.toNat ≤ 999 := by
  obtain ⟨h0, h1, rfl⟩ := h
  exact ⟨num_list h0, by omega⟩
theorem NumOf.size {s : ByteArray} {n : Int} (h : NumOf s n) : 1 ≤ s.size ∧ s.size ≤ 3 := by
  have h1 := h.list
  have h2 := dig_len h1.2
  rw [← h1.1] at h2
  rw [Array.length_toList] at h2
  exact h2
theorem NumOf.val {s : ByteArray} {n : Int} (h : NumOf s n) : valL 0 s.data.toList = n := by
  have h1 := h.list
  rw [h1.1, valL_dig h1.2]
  have := h.1
  omega
theorem NumOf.digit {s : ByteArray} {n : Int} (h : NumOf s n) : ∀ b ∈ s.data.toList, 48 ≤ b.toNat ∧ b.toNat ≤ 57 := by
  have h1 := h.list
  rw [h1.1]
  exact dig_digit h1.2
theorem NumOf.unique {s : ByteArray} {n m : Int} (h : NumOf s n) (k : NumOf s m) : n = m := h.val.symm.trans k.val
theorem decFrom_val : ∀ (l : List UInt8) (acc : Nat), (∀ b ∈ l, 48 ≤ b.toNat ∧ b.toNat ≤ 57) → Lib.decFrom acc l = some (valL acc l).toNat ∧ 0 ≤ valL acc l
  | [], acc, _ => ⟨by simp [Lib.decFrom, valL], by simp [valL]⟩
  | b :: l, acc, h => by
    have hb := h b (by simp)
    have hd : Lib.digitVal b = some (b.toNat - 48) := by unfold Lib.digitVal; rw [if_pos hb]
    have ih := decFrom_val l (acc * 10 + (b.toNat - 48)) (fun x hx => h x (by simp [hx]))
    have e : ((acc * 10 + (b.toNat - 48) : Nat) : Int) = 10 * (acc : Int) + b.toNat - 48 := by omega
    rw [e] at ih
    rw [Lib.decFrom, hd, valL]
    exact ih
theorem NumOf.atoi {s : ByteArray} {n : Int} (h : NumOf s n) : Lib.atoi s.data.toList = some n := by
  have hs := h.size
  have hd := h.digit
  have hv := h.val
  have hl : s.data.toList.length = s.size := Array.length_toList
  cases hL : s.data.toList with
  | nil => rw [hL] at hl; simp at hl; omega
  | cons b r =>
    rw [hL] at hd hv
    have hb := hd b (by simp)
    have hv2 := decFrom_val (b :: r) 0 hd
    rw [Lib.atoi, if_neg (by intro e; have : b = 45 := by simpa using e
                             subst this; simp at hb), if_neg (by intro e; have : b = 43 := by simpa using e
                                                                 subst this; simp at hb)]
    unfold Lib.decNat
    rw [List.isEmpty_cons, if_neg (by simp), hv2.1]
    have e0 : ((0 : Nat) : Int) = 0 := rfl
    rw [e0, hv]
    have := h.1
    simp; omega
open Classical in
/-- The number of a text, if it is that of one of at most three digits. -/
noncomputable def parseNum (s : ByteArray) : Option Int := if h : ∃ n, NumOf s n then some h.choose else none
theorem parseNum_some {s : ByteArray} {n : Int} (h : NumOf s n) : parseNum s = some n := by
  unfold parseNum
  have he : ∃ n, NumOf s n := ⟨n, h⟩
  rw [dif_pos he, he.choose_spec.unique h]
theorem parseNum_none {s : ByteArray} (h : ¬ ∃ n, NumOf s n) : parseNum s = none := by
  unfold parseNum
  rw [dif_neg h]
theorem parseNum_of {s : ByteArray} {n : Int} (h : parseNum s = some n) : NumOf s n := by
  unfold parseNum at h
  split at h
  · rename_i he
    cases h
    exact he.choose_spec
  · cases h
end Go.Proofs.YtgnggiibhkphjaaGreatDoor
