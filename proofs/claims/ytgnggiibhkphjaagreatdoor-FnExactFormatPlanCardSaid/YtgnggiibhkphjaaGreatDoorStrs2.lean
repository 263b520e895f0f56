/- Lists of texts: the walks of copy, equality, mark and held. -/
import Derived.Test.YtgnggiibhkphjaaGreatDoorStrs
import Derived.Deep.RegionHeld3
import Derived.StillTailTactics
import Derived.Test.YtgnggiibhkphjaaGreatDoorText
namespace Go.Proofs.YtgnggiibhkphjaaGreatDoor
open Go.RowKit

def strN (_ : ByteArray) : Nat := 1
def strM (_ : ByteArray) (k : Int) : ByteArray := mt k
def strsN (l : List ByteArray) : Nat := (l.map strN).sum
def strsM (l : List ByteArray) (k : Int) : List ByteArray := mapK strM strN l k
theorem strsN_length (l : List ByteArray) : strsN l = l.length := by
  induction l with
  | nil => rfl
  | cons a l ih =>
    unfold strsN at ih ⊢
    rw [List.map_cons, List.sum_cons, ih, List.length_cons]
    show 1 + _ = _
    omega
theorem ret_text {k : IntKind} {a b : Int} (h : a = b) : Ending.returned (.int k a) = .returned (.int k b) := by rw [h]
theorem strC_eq (s : ByteArray) : strC s = [.v (.string s)] := rfl

end Go.Proofs.YtgnggiibhkphjaaGreatDoor
