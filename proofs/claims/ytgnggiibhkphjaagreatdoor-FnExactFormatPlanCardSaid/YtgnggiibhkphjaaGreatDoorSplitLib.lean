/- strings.Split at one byte, in the shelf's words, gives the pieces between the bytes. -/
import Derived.Test.YtgnggiibhkphjaaGreatDoorSplit
import Derived.Lib.Split
import Derived.Lib.SplitLaws
namespace Go.Proofs.YtgnggiibhkphjaaGreatDoor
open Go.RowKit

theorem index_sp (c : UInt8) : ∀ (l cur : List UInt8), (Lib.index l [c] = -1 → spAux c cur l = [cur ++ l]) ∧ ∀ i : Nat, Lib.index l [c] = i → spAux c cur l = (cur ++ l.take i) :: spAux c [] (l.drop (i + 1))
  | [], cur => by
    have h0 : Lib.index [] [c] = -1 := rfl
    refine ⟨fun _ => by simp [spAux], fun i hi => ?_⟩
    rw [h0] at hi
    omega
  | b :: l, cur => by
    by_cases hb : b = c
    · subst hb
      have h0 : Lib.index (b :: l) [b] = 0 := by unfold Lib.index; rw [if_pos (by simp)]
      refine ⟨fun h => by rw [h0] at h; omega, fun i hi => ?_⟩
      rw [h0] at hi
      obtain rfl : i = 0 := by omega
      rw [spAux, if_pos rfl]
      simp
    · have hp : ([c].isPrefixOf (b :: l)) = false := by
        show (c == b && List.isPrefixOf [] l) = false
        rw [beq_eq_false_iff_ne.2 (fun e => hb e.symm)]
        rfl
      have ih := index_sp c l (cur ++ [b])
      have hs : spAux c cur (b :: l) = spAux c (cur ++ [b]) l := by rw [spAux, if_neg hb]
      by_cases hm : Lib.index l [c] = -1
      · have h0 : Lib.index (b :: l) [c] = -1 := by unfold Lib.index; rw [hp, hm]; rfl
        refine ⟨fun _ => by rw [hs, ih.1 hm]; simp, fun i hi => ?_⟩
        rw [h0] at hi
        omega
      · have h0 : Lib.index (b :: l) [c] = Lib.index l [c] + 1 := by
          conv => lhs; unfold Lib.index
          rw [hp]
          simp [hm]
        have hge := Lib.index_ge l [c]
        refine ⟨fun h => by omega, fun i hi => ?_⟩
        obtain ⟨j, hj⟩ : ∃ j : Nat, Lib.index l [c] = j := ⟨(Lib.index l [c]).toNat, by omega⟩
        obtain rfl : i = j + 1 := by omega
        rw [hs, ih.2 j hj]
        simp
theorem bytes_list (s : ByteArray) : bytesOf s.data.toList = s := by
  apply ByteArray.ext
  simp [bytesOf]
theorem splitB_one (c : UInt8) : ∀ (k : Nat) (s : ByteArray), Lib.countB s ⟨#[c]⟩ = k → Lib.splitB ⟨#[c]⟩ 0 k s = splitS c s := by
  intro k
  induction k with
  | zero =>
    intro s hk
    rw [Lib.splitB_zero]
    rcases Lib.indexB_cases s ⟨#[c]⟩ with h | ⟨i, h, _⟩
    · have := (index_sp c s.data.toList []).1 h
      unfold splitS
      rw [this]
      simp [bytes_list]
    · have := Lib.countB_hit s ⟨#[c]⟩ i (by simp [ByteArray.size]) h
      omega
  | succ k ih =>
    intro s hk
    rcases Lib.indexB_cases s ⟨#[c]⟩ with h | ⟨i, h, _⟩
    · have := Lib.countB_miss s ⟨#[c]⟩ h
      omega
    · have hc := Lib.countB_hit s ⟨#[c]⟩ i (by simp [ByteArray.size]) h
      have hsz : (⟨#[c]⟩ : ByteArray).size = 1 := rfl
      rw [hsz] at hc
      rw [Lib.splitB_hit _ _ _ _ i h, hsz, ih _ (by omega)]
      have := (index_sp c s.data.toList []).2 i h
      unfold splitS
      rw [this, List.map_cons]
      congr 1
      · rw [Nat.add_zero, extract_cut]
        simp [cut]
      · rw [extract_list]
        unfold cut
        congr 2
        rw [List.take_of_length_le]
        rw [List.length_drop, size_list]
        exact Nat.le_refl _
end Go.Proofs.YtgnggiibhkphjaaGreatDoor
