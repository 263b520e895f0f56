/- SameCore, SamePart, SameSlots, of the reference and of the program: they tell whether the data are the same. Written by a program. -/
import Derived.Test.YtgnggiibhkphjaaGreatDoorTSlot
import Derived.Deep.RegionHeld3
namespace Go.Proofs.YtgnggiibhkphjaaGreatDoor
open Go.RowKit

def BoolPost (p : Prop) (w : World) (e : Ending) (w' : World) : Prop := ∃ t : Bool, e = .returned (.bool t) ∧ (t = true ↔ p) ∧ Chg [] w w'
theorem str_ext {a b : ByteArray} (h : a.toList = b.toList) : a = b := by
  rw [ByteArray.toList_eq, ByteArray.toList_eq] at h
  exact ByteArray.ext (Array.toList_inj.1 h)
theorem cell_ext {c d : CellT} (h1 : (!(c.key.toList == d.key.toList)) = false) (h2 : (!(c.value == d.value)) = false) : c = d := by
  cases c; cases d
  simp at h1 h2
  simp [str_ext h1, h2]
theorem neq_cell (c d : CellT) (W : World) : (binOp .neq 72 (.agg #[.string c.key, .int .i64 c.value]) (.agg #[.string d.key, .int .i64 d.value])).run Tryz.prog W = .ok (.bool (!(c.key.toList == d.key.toList && c.value == d.value))) W := by
  have h : ∀ n : Nat, (Op.equalIn (n + 2) 72 (.agg #[.string c.key, .int .i64 c.value]) (.agg #[.string d.key, .int .i64 d.value])).run Tryz.prog W = .ok (c.key.toList == d.key.toList && c.value == d.value) W := fun n => by
    rw [run_equalIn_struct W (n + 1) 72 _ _ (by simp only [Program.fieldsOf, Tryz.underlying72]) (by kernel_rfl)]
    simp [go_sem, Program.fieldsOf, Tryz.underlying72]
    by_cases h1 : c.key.toList = d.key.toList <;> by_cases h2 : c.value = d.value <;> simp [h1, h2]
  simp only [binOp]
  simp [Op.equal, Op.maxDepth, h 9998]
theorem slot_ext {c d : SlotT} (h1 : c.full = d.full) (h2 : c.part = d.part) : c = d := by
  cases c; cases d
  simp only [SlotT.mk.injEq]
  exact ⟨h1, h2⟩
theorem take_next {α : Type} {l m : List α} {k : Nat} (h : l.take k = m.take k) (hl : k < l.length) (hm : k < m.length) (e : l[k] = m[k]) : l.take (k + 1) = m.take (k + 1) := by
  rw [List.take_succ_eq_append_getElem hl, List.take_succ_eq_append_getElem hm, h, e]

end Go.Proofs.YtgnggiibhkphjaaGreatDoor
