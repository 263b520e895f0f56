/- markText: a text that depends on the number alone. Conditions: the number is at most 100000000. -/
import Derived.Test.YtgnggiibhkphjaaGreatDoorInts
import Derived.Laws.BytesArg
namespace Go.Proofs.YtgnggiibhkphjaaGreatDoor
open Go.RowKit

/-- The digits in front of a text. -/
def mtL : Nat → Int → ByteArray → ByteArray
  | 0, _, s => s
  | f + 1, n, s => if 0 < n then mtL f (n / 10) (strOfNums [48 + n % 10] ++ s) else s
/-- The text of a number. -/
def mt (k : Int) : ByteArray := if k ≤ 0 then ⟨#[109, 48]⟩ else ⟨#[109]⟩ ++ mtL k.toNat k ⟨#[]⟩

theorem ret_str {a b : ByteArray} (h : a = b) : Ending.returned (.string a) = .returned (.string b) := by rw [h]


end Go.Proofs.YtgnggiibhkphjaaGreatDoor
