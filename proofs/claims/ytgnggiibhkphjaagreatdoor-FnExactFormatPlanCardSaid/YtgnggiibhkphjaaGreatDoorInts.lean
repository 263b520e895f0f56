/- Walks over slices of integers: copies, comparison. Conditions: at most 1048576 elements. -/
import Derived.Test.YtgnggiibhkphjaaGreatDoorRows
import Derived.Test.YtgnggiibhkphjaaGreatDoorMem
import Derived.WalkKit
import Derived.WalkSpells
import Derived.WalkLawsBesides
import Derived.Lib.Hide
import Derived.Deep.LoopGhost
import Derived.Deep.OwnRows
import Derived.BigQuiet
import Derived.Deep.QuietTactic
namespace Go.Proofs.YtgnggiibhkphjaaGreatDoor
open Go.RowKit

def intC (x : Int) : List Dat := [.v (.int .i64 x)]
def ints (l : List Int) : Dat := .s l.length (l.flatMap intC)
theorem intC_len (x : Int) : (intC x).length = 1 := rfl
theorem intC_at (l : List Int) (k : Nat) (h : k < l.length) : (l.flatMap intC)[k]? = some (.v (.int .i64 l[k])) := by
  have := flatMap_at intC_len l k 0 h (by omega)
  rw [Nat.mul_one, Nat.add_zero] at this
  exact this

theorem int_info : (Tryz.prog.info? 3).map (fun i => (i.zero, i.size, i.bytes)) = some (some (.int .i64 0), 1, 8) := by kernel_rfl

theorem ints_row {w : World} {B : Nat} {l : List Int} {u : Value} (h : Rd w B (ints l) u) : ∃ A cap, u = .slice A l.length cap ∧ l.length ≤ cap ∧ cap ≤ maxLen ∧ RowAt w B intC 1 l A := h.row intC_len (by omega)
theorem ints_cell {w : World} {B : Nat} {l : List Int} {A : Option Addr} (h : RowAt w B intC 1 l A) (k : Nat) (hk : k < l.length) : ∃ b off, A = some ⟨b, off, none⟩ ∧ b < B ∧ w.cell? ⟨b, off + k, none⟩ = some (.int .i64 l[k]) := by
  obtain ⟨b, off, rfl, hb, hx⟩ := h k hk
  obtain ⟨u, hu, hd⟩ := hx 0 _ rfl
  rw [Rd] at hd
  subst hd
  exact ⟨b, off, rfl, hb, by simpa using hu⟩



theorem ret_int {k : IntKind} {a b : Int} (h : a = b) : Ending.returned (.int k a) = .returned (.int k b) := by rw [h]
/-- The first difference decides. -/
def cmpL : List Int → List Int → Int
  | a :: l, b :: m => if a < b then -1 else if b < a then 1 else cmpL l m
  | _, _ => 0
def cmpI (l m : List Int) : Int := if l.length < m.length then -1 else if m.length < l.length then 1 else cmpL l m
theorem cmpL_drop (l m : List Int) (k : Nat) (h : k < l.length) (h' : k < m.length) : cmpL (l.drop k) (m.drop k) = if l[k] < m[k] then -1 else if m[k] < l[k] then 1 else cmpL (l.drop (k + 1)) (m.drop (k + 1)) := by
  rw [List.drop_eq_getElem_cons h, List.drop_eq_getElem_cons h', cmpL]
theorem cmpL_end (l m : List Int) : cmpL (l.drop l.length) m = 0 := by
  rw [List.drop_of_length_le (Nat.le_refl _)]; cases m <;> rfl



end Go.Proofs.YtgnggiibhkphjaaGreatDoor
