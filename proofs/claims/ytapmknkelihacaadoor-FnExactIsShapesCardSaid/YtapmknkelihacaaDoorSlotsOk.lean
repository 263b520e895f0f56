/- IsSlots of both packages. Written by a program. -/
import Derived.Test.YtapmknkelihacaaDoorPart
namespace Go.Proofs.YtapmknkelihacaaDoor
open Go.RowKit

def zeroPart : PartT := ⟨⟨⟨#[]⟩, false, false, [], 0⟩, []⟩
theorem zeroPart_cells (W : World) : Rd W W.heap.size (cells zeroPart.core.cells) (.slice none 0 0) := by
  show Rd W W.heap.size (.s 0 []) _
  rw [Rd]
  exact ⟨none, 0, rfl, Nat.le_refl _, by simp [maxLen], .inl rfl⟩
theorem zeroPart_layers (W : World) : Rd W W.heap.size (layers zeroPart.layers) (.slice none 0 0) := by
  show Rd W W.heap.size (.s 0 []) _
  rw [Rd]
  exact ⟨none, 0, rfl, Nat.le_refl _, by simp [maxLen], .inl rfl⟩
def SlotOk (s : SlotT) : Prop := (s.full = true → PartOk s.part) ∧ (s.full = false → s.part = zeroPart)
def SlotsOk (l : List SlotT) : Prop := l.length = 3 ∧ ∀ (k : Nat) (h : k < l.length), SlotOk l[k]
def SlotSmall (s : SlotT) : Prop := s.part.core.cells.length ≤ 1048576 ∧ s.part.layers.length ≤ 1048576 ∧ ∀ c ∈ s.part.core.cells, c.key.size ≤ 1048576
theorem slotOk_off {s : SlotT} (h : s.full = false) (h1 : s.part = zeroPart) : SlotOk s := ⟨fun e => (by rw [h] at e; cases e), fun _ => h1⟩
theorem slotOk_on {s : SlotT} (h : s.full = true) (h1 : PartOk s.part) : SlotOk s := ⟨fun _ => h1, fun e => (by rw [h] at e; cases e)⟩
theorem slotOk_off_not {s : SlotT} (h : s.full = false) (h1 : ¬ s.part = zeroPart) : ¬ SlotOk s := fun hs => h1 (hs.2 h)
theorem slotOk_on_not {s : SlotT} (h : s.full = true) (h1 : ¬ PartOk s.part) : ¬ SlotOk s := fun hs => h1 (hs.1 h)
end Go.Proofs.YtapmknkelihacaaDoor
