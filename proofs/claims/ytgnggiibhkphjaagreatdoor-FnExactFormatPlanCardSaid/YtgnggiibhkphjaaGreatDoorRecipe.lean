/- RecipeOf of both packages: the names of a part's kind and of its layers. Written by a program. -/
import Derived.Test.YtgnggiibhkphjaaGreatDoorTPart
import Derived.Test.YtgnggiibhkphjaaGreatDoorApp
import Derived.Test.YtgnggiibhkphjaaGreatDoorStrs2
namespace Go.Proofs.YtgnggiibhkphjaaGreatDoor
open Go.RowKit

theorem App.one (w0 : World) (e : TypeId) {w : World} (x : Value) (h : Chg [] w0 w) : App w0 (w.alloc (.cells #[x] e)) e 1 (.slice (some ⟨w.heap.size, 0, none⟩) 1 1) 1 [.v x] :=
  ⟨[x], [], ⟨by simp, .inr ⟨w.heap.size, 1, #[x], rfl, h.size, heap_alloc_new w _, Nat.le_refl _, by simp [maxLen], rfl, by simp⟩⟩, (HasL.cons_v (HasL.nil _)).1, List.nodup_nil, by simp, by simp, h.alloc _⟩
/-- The recipe of a part. -/
def recipe (p : PartT) : List ByteArray := p.core.kind :: p.layers.map (·.name)
theorem recipe_W (p : PartT) : strsW (recipe p) ≤ 1 + partW p := by
  unfold strsW strsW1 recipe partW coreW layersW layersW1
  rw [List.length_cons, List.map_cons, List.sum_cons, List.length_map, List.map_map]
  have e : (ByteArray.size ∘ fun x : LayerT => x.name) = layerW := rfl
  rw [e]
  omega
end Go.Proofs.YtgnggiibhkphjaaGreatDoor
