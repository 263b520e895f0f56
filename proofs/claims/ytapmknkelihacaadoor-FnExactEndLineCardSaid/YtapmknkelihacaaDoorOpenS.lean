/- Arguments that are structs, read as plain typed data. Conditions: none. -/
import Derived.Test.YtapmknkelihacaaDoorOpen
namespace Go.Proofs.YtapmknkelihacaaDoor
open Go.ChangeShapes Go.WideShapes Go.RowKit Go.Deep

theorem RdV.nil_inv {w : World} {cs : List Value} (h : RdV w [] cs) : cs = [] := List.eq_nil_of_length_eq_zero h.1
theorem RdV.cons_inv {w : World} {d : Dat} {ds : List Dat} {cs : List Value} (h : RdV w (d :: ds) cs) : ∃ u cs', cs = u :: cs' ∧ Rd w w.heap.size d u ∧ RdV w ds cs' := by
  obtain ⟨h1, h2⟩ := h
  match cs, h1 with
  | u :: cs', h1 =>
    obtain ⟨u', hu, hd⟩ := h2 0 d rfl
    simp at hu; subst hu
    refine ⟨_, _, rfl, hd, by simpa using h1, fun j x hx => ?_⟩
    obtain ⟨u', hu, hd⟩ := h2 (j + 1) x (by simpa using hx)
    exact ⟨u', by simpa using hu, hd⟩
theorem RdV.cons_v {w : World} {x : Value} {ds : List Dat} {cs : List Value} (h : RdV w (.v x :: ds) cs) : ∃ cs', cs = x :: cs' ∧ RdV w ds cs' := by
  obtain ⟨u, cs', e, hd, hr⟩ := h.cons_inv
  rw [Rd] at hd
  subst hd
  exact ⟨cs', e, hr⟩
theorem Opens.argS {H : Type} {enc : TypeId × Value → H} {α : Type} {P : Program} {t : TypeId} {fs : Array Field} {F : α → List Dat} (hO : ∀ N, Opens P N t F) (ht : P.underlying t = some (.struct fs)) {W : World} {r : Reach} {b0 : Nat} {v : Value} {d : DataW H} {ps : List MemPlace}
    (hv : Value.okWide P W r b0 t v) (h : DataW.Trod enc P W 0 (fun _ => true) true t v d ps) : ∃ (a : α) (cs : Array Value), FitL (F a) ∧ v = .agg cs ∧ RdV W (F a) cs.toList := by
  obtain ⟨cs, rfl, _⟩ := okWide_struct ht hv
  obtain ⟨n, hn⟩ := h
  obtain ⟨a, h1, h2⟩ := hO n enc W n _ _ (Nat.le_refl _) hn
  exact ⟨a, cs, h1, rfl, by simpa [Value.cells] using h2⟩
end Go.Proofs.YtapmknkelihacaaDoor
