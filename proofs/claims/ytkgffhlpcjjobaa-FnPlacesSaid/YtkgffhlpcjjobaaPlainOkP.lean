/- No action of two kinds, at any depth: plain Lean. Conditions: none. -/
import Derived.Test.YtkgffhlpcjjobaaTypes
namespace Go.Proofs.Ytkgffhlpcjjobaa
open Go.RowKit

mutual
/-- No action of two kinds, at any depth. -/
def ActionT.no (p q : Int) : ActionT → Prop
  | .mk op _ _ _ _ _ A B => (op ≠ p ∧ op ≠ q) ∧ noL p q A ∧ noL p q B
def noL (p q : Int) : List ActionT → Prop
  | [] => True
  | a :: l => a.no p q ∧ noL p q l
end
theorem ActionT.no_iff (p q : Int) (a : ActionT) : a.no p q ↔ (a.op ≠ p ∧ a.op ≠ q) ∧ noL p q a.A ∧ noL p q a.B := by
  cases a; rw [ActionT.no]; rfl
theorem noL_iff (p q : Int) : ∀ l : List ActionT, noL p q l ↔ ∀ a ∈ l, a.no p q
  | [] => by simp [noL]
  | a :: l => by rw [noL, noL_iff p q l]; simp
end Go.Proofs.Ytkgffhlpcjjobaa
