/- Small things that all walks over typed data use. -/
import Derived.Test.YtgnggiibhkphjaaGreatDoorInts
import Derived.Test.YtgnggiibhkphjaaGreatDoorOpen
import Derived.Test.YtgnggiibhkphjaaGreatDoorText
import Derived.StillTailTactics
namespace Go.Proofs.YtgnggiibhkphjaaGreatDoor
open Go.RowKit

/-- What a size function leaves. -/
def Left (left : Int) (wt : Nat) (r : Int) : Prop := ((wt : Int) ≤ left ∧ r = left - wt) ∨ (left < wt ∧ r = -1)
def SzPost (left : Int) (wt : Nat) (w : World) (e : Ending) (w' : World) : Prop := ∃ r, e = .returned (.int .i64 r) ∧ Left left wt r ∧ Chg [] w w'
theorem Left.no {left : Int} {wt : Nat} (h : left < wt) : Left left wt (-1) := .inr ⟨h, rfl⟩
theorem Left.ok {left : Int} {wt : Nat} {r : Int} (h : (wt : Int) ≤ left) (hr : r = left - wt) : Left left wt r := .inl ⟨h, hr⟩
theorem Left.bd {left : Int} {wt : Nat} {r : Int} (h : Left left wt r) (h0 : 0 ≤ left) : -1 ≤ r ∧ r ≤ left := by unfold Left at h; omega

theorem sum_mem {α : Type} {l : List α} {a : α} (f : α → Nat) (h : a ∈ l) : f a ≤ (l.map f).sum := by
  induction l with
  | nil => cases h
  | cons b l ih =>
    rw [List.map_cons, List.sum_cons]
    rcases List.mem_cons.1 h with rfl | h
    · omega
    · have := ih h; omega
theorem sum_append {α : Type} (f : α → Nat) (l m : List α) : ((l ++ m).map f).sum = (l.map f).sum + (m.map f).sum := by simp
theorem sum_take {α : Type} (f : α → Nat) (l : List α) (k : Nat) (h : k < l.length) : ((l.take (k + 1)).map f).sum = ((l.take k).map f).sum + f l[k] := by
  rw [List.take_succ_eq_append_getElem h, sum_append]; simp
theorem sum_le {α : Type} (f : α → Nat) (l : List α) (k : Nat) : ((l.take k).map f).sum ≤ (l.map f).sum := by
  have := sum_append f (l.take k) (l.drop k)
  rw [List.take_append_drop] at this
  omega
theorem FitL_slice {n : Nat} {cs : List Dat} (h : FitL [.s n cs]) : FitL cs := by
  simp only [FitL, FitD] at h
  exact h.1.2

/-- Elements marked one behind the other, from a number on. -/
def mapK {α : Type} (M : α → Int → α) (N : α → Nat) : List α → Int → List α
  | [], _ => []
  | a :: l, k => M a k :: mapK M N l (k + N a)
section
variable {α : Type} {M : α → Int → α} {N : α → Nat}
theorem mapK_length : ∀ (l : List α) (k : Int), (mapK M N l k).length = l.length
  | [], _ => rfl
  | a :: l, k => by rw [mapK, List.length_cons, mapK_length l, List.length_cons]
theorem mapK_append : ∀ (l m : List α) (k : Int), mapK M N (l ++ m) k = mapK M N l k ++ mapK M N m (k + (l.map N).sum)
  | [], m, k => by simp [mapK]
  | a :: l, m, k => by rw [List.cons_append, mapK, mapK_append l m, mapK, List.cons_append, List.map_cons, List.sum_cons]; simp [Int.add_assoc]
theorem mapK_at (l : List α) (k : Int) (i : Nat) (h : i < l.length) : mapK M N l k = mapK M N (l.take i) k ++ (M l[i] (k + ((l.take i).map N).sum) :: mapK M N (l.drop (i + 1)) (k + ((l.take (i + 1)).map N).sum)) := by
  have e : l = l.take i ++ l[i] :: l.drop (i + 1) := by rw [← List.drop_eq_getElem_cons h, List.take_append_drop]
  have e2 : ((l.take (i + 1)).map N).sum = ((l.take i).map N).sum + N l[i] := sum_take N l i h
  rw [e2]
  conv => lhs; rw [e]
  rw [mapK_append, mapK]
  simp [Int.add_assoc]
theorem mapK_get (l : List α) (k : Int) (i : Nat) (h : i < l.length) (h' : i < (mapK M N l k).length) : (mapK M N l k)[i] = M l[i] (k + ((l.take i).map N).sum) := by
  have e := mapK_at (M := M) (N := N) l k i h
  have hl : (mapK M N (l.take i) k).length = i := by rw [mapK_length, List.length_take, Nat.min_eq_left (by omega)]
  have : (mapK M N l k)[i]? = some (M l[i] (k + ((l.take i).map N).sum)) := by
    rw [e, List.getElem?_append_right (by omega), hl]; simp
  rw [List.getElem?_eq_getElem h'] at this
  exact Option.some.inj this
variable {F : α → List Dat}
theorem marking_at (l : List α) (k : Int) (i : Nat) (h : i < l.length) : (mapK M N (l.take i) k ++ l.drop i).flatMap F = (mapK M N (l.take i) k).flatMap F ++ (F l[i] ++ (l.drop (i + 1)).flatMap F) := by
  rw [List.drop_eq_getElem_cons h, List.flatMap_append, List.flatMap_cons]
theorem marking_next (l : List α) (k : Int) (i : Nat) (h : i < l.length) : (mapK M N (l.take (i + 1)) k ++ l.drop (i + 1)).flatMap F = (mapK M N (l.take i) k).flatMap F ++ (F (M l[i] (k + ((l.take i).map N).sum)) ++ (l.drop (i + 1)).flatMap F) := by
  rw [List.take_succ_eq_append_getElem h, mapK_append, List.flatMap_append, List.flatMap_append]; simp [mapK]
theorem marking_X {c : Nat} (hF : ∀ a, (F a).length = c) (l : List α) (k : Int) (i : Nat) (h : i < l.length) : ((mapK M N (l.take i) k).flatMap F).length = i * c := by
  rw [flatMap_length_of hF, mapK_length, List.length_take, Nat.min_eq_left (by omega)]
end
/-- The slice that is marked is one of its own. -/
theorem Has.own {w : World} {n : Nat} {cs : List Dat} {A : Option Addr} {cap : Nat} {S : List Nat} (h : Has w (.s n cs) (.slice A n cap) S) (hn : 0 < n) : ∃ g, A = some ⟨g, 0, none⟩ ∧ g ∈ S := by
  rcases h.cases_ with ⟨_, h2, _⟩ | ⟨g, cap', S', hu, _, _, rfl, _⟩
  · omega
  · simp only [Value.slice.injEq] at hu
    exact ⟨g, hu.1, by simp⟩

end Go.Proofs.YtgnggiibhkphjaaGreatDoor
