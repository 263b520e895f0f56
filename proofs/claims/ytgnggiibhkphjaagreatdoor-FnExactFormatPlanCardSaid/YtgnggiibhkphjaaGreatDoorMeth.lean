/- The abilities that methods belong to, in plain Lean. -/
import Derived.Test.YtgnggiibhkphjaaGreatDoorKinds
namespace Go.Proofs.YtgnggiibhkphjaaGreatDoor
open Go.RowKit

def mStart : ByteArray := ⟨#[83, 116, 97, 114, 116]⟩
def mStop : ByteArray := ⟨#[83, 116, 111, 112]⟩
def mGet : ByteArray := ⟨#[71, 101, 116]⟩
def mPut : ByteArray := ⟨#[80, 117, 116]⟩
def mTell : ByteArray := ⟨#[84, 101, 108, 108]⟩
def mHear : ByteArray := ⟨#[72, 101, 97, 114]⟩
def mLoad : ByteArray := ⟨#[76, 111, 97, 100]⟩
def mSave : ByteArray := ⟨#[83, 97, 118, 101]⟩
def mHeal : ByteArray := ⟨#[72, 101, 97, 108]⟩
/-- The methods of an ability. -/
def methL : Nat → List ByteArray
  | 0 => [mStart, mStop]
  | 1 => [mGet, mPut]
  | 2 => [mTell]
  | 3 => [mHear]
  | 4 => [mLoad, mSave]
  | 5 => [mHeal]
  | _ => []
def methTab : List (List UInt8 × Int) := [(mStart.data.toList, 0), (mStop.data.toList, 0), (mGet.data.toList, 1), (mPut.data.toList, 1), (mTell.data.toList, 2), (mHear.data.toList, 3), (mLoad.data.toList, 4), (mSave.data.toList, 4), (mHeal.data.toList, 5)]
/-- The ability of a method. -/
def abilOf (s : ByteArray) : Option Int := look s.toList methTab
theorem abilOf_mem {s : ByteArray} {k : Nat} (h : s ∈ methL k) : k < 6 ∧ abilOf s = some k := by
  unfold abilOf
  rw [ByteArray.toList_eq]
  match k, h with
  | 0, h | 1, h | 4, h =>
    simp only [methL, List.mem_cons, List.not_mem_nil, or_false] at h
    rcases h with rfl | rfl <;> exact ⟨by decide, rfl⟩
  | 2, h | 3, h | 5, h =>
    simp only [methL, List.mem_cons, List.not_mem_nil, or_false] at h
    subst h
    exact ⟨by decide, rfl⟩
  | k + 6, h => simp [methL] at h
theorem bytes_ne {s t : ByteArray} (h : s ≠ t) : s.toList ≠ t.data.toList := by
  intro e
  rw [ByteArray.toList_eq] at e
  exact h (ByteArray.ext (Array.toList_inj.1 e))
theorem abilOf_none {s : ByteArray} (h : ∀ k, k < 6 → s ∉ methL k) : abilOf s = none := by
  unfold abilOf
  have h0 := h 0 (by decide); have h1 := h 1 (by decide); have h2 := h 2 (by decide); have h3 := h 3 (by decide); have h4 := h 4 (by decide); have h5 := h 5 (by decide)
  simp only [methL, List.mem_cons, List.not_mem_nil, or_false, not_or] at h0 h1 h2 h3 h4 h5
  unfold methTab
  rw [look, if_neg (bytes_ne h0.1), look, if_neg (bytes_ne h0.2), look, if_neg (bytes_ne h1.1), look, if_neg (bytes_ne h1.2), look, if_neg (bytes_ne h2), look, if_neg (bytes_ne h3), look, if_neg (bytes_ne h4.1), look, if_neg (bytes_ne h4.2), look, if_neg (bytes_ne h5), look]
theorem abilOf_some {s : ByteArray} {k : Int} (h : abilOf s = some k) : ∃ j : Nat, j < 6 ∧ k = j ∧ s ∈ methL j := by
  by_cases hn : ∃ j, j < 6 ∧ s ∈ methL j
  · obtain ⟨j, hj, hm⟩ := hn
    have := (abilOf_mem hm).2
    rw [h] at this
    exact ⟨j, hj, Option.some.inj this, hm⟩
  · have := abilOf_none (s := s) (fun k hk hm => hn ⟨k, hk, hm⟩)
    rw [h] at this; cases this
end Go.Proofs.YtgnggiibhkphjaaGreatDoor
