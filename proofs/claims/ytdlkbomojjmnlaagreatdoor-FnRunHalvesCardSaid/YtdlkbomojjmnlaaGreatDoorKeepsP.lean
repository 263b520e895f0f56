/- Plain Lean: where a run ends: an action that asks stands there, and what was wanted is not offered. Conditions: the actions and the slots are valid. -/
import Derived.Test.YtdlkbomojjmnlaaGreatDoorPlains
import Derived.Test.YtdlkbomojjmnlaaGreatDoorActAt
namespace Go.Proofs.YtdlkbomojjmnlaaGreatDoor
open Go.RowKit

/-- The action at which a run has ended, and how. -/
def FitEnd (a : ActionT) (S : List SlotT) (e : EndT) : Prop :=
 (e.code = 2 ∧ (a.op = 2 ∨ a.op = 3 ∨ a.op = 6 ∨ a.op = 7) ∧ (slotAt S a.slot).full = false) ∨
 (e.code = 1 ∧ (a.op = 2 ∨ a.op = 6 ∨ a.op = 7) ∧ (slotAt S a.slot).full = true ∧ faceAt (slotAt S a.slot).part (slotAt S a.slot).part.layers.length = e.had ∧ ¬ Offer e.had e.want)
theorem slotAt_set {l : List SlotT} {i : Int} (h : l.length = 3) (hi : SlotNo i) (x : SlotT) : slotAt (l.set i.toNat x) i = x := by
 unfold slotAt
 have : i.toNat < l.length := by have := hi.1; have := hi.2; omega
 rw [List.getElem?_set_self this]
 rfl
theorem stepT_end {a : ActionT} (ha : ActOk a) (h8 : a.op ≠ 8) (h9 : a.op ≠ 9) (h10 : a.op ≠ 10) (place : Int) (s : RunT) (hs : SlotsOk s.slots) (hc : (stepT a place s).2.code ≠ 0) :
  FitEnd a (stepT a place s).1.slots (stepT a place s).2 ∧ (stepT a place s).2.place = place := by
 have hop := actOk_op ha
 by_cases h1 : a.op = 1
 ·rw [stepT_1 h1] at hc; exact absurd rfl hc
 by_cases h5 : a.op = 5
 ·rw [stepT_5 h5] at hc; exact absurd rfl hc
 by_cases h4 : a.op = 4
 ·rw [stepT_4 h4] at hc; exact absurd rfl hc
 by_cases hf : (slotAt s.slots a.slot).full = false
 ·rw [stepT_e h1 h5 h4 hf]
  exact ⟨.inl ⟨rfl, by omega, hf⟩, rfl⟩
 by_cases h : (withT a (slotAt s.slots a.slot).part).2.code = 1
 ·rw [stepT_f h1 h5 h4 hf h]
  have hsl := actOk_slot ha
  have hp : PartOk (slotAt s.slots a.slot).part := (slotAt_ok hs hsl).1 (by simpa using hf)
  have key : (withT a (slotAt s.slots a.slot).part).1 = (slotAt s.slots a.slot).part ∧ (a.op = 2 ∨ a.op = 6 ∨ a.op = 7) ∧ faceAt (slotAt s.slots a.slot).part (slotAt s.slots a.slot).part.layers.length = (withT a (slotAt s.slots a.slot).part).2.had ∧ ¬ Offer (withT a (slotAt s.slots a.slot).part).2.had (withT a (slotAt s.slots a.slot).part).2.want := by
   by_cases h3 : a.op = 3
   ·rw [withT_3 h3] at h; cases h
   by_cases h2 : a.op = 2
   ·rw [withT_2 h2] at h ⊢
    cases hx : layerOf a.word with
    | none => rw [wrapOf_none hx] at h; cases h
    | some x =>
     by_cases hl : 3 ≤ (slotAt s.slots a.slot).part.layers.length
     ·rw [wrapOf_full hx hp hl] at h; cases h
     by_cases ho : Offer (faceAt (slotAt s.slots a.slot).part (slotAt s.slots a.slot).part.layers.length) x.1
     ·rw [wrapOf_done hx hp hl ho] at h; cases h
     ·rw [wrapOf_lacks hx hp hl ho]; exact ⟨rfl, .inl h2, rfl, ho⟩
   by_cases h6 : a.op = 6
   ·rw [withT_6 h6] at h ⊢
    by_cases ho : Offer (faceAt (slotAt s.slots a.slot).part (slotAt s.slots a.slot).part.layers.length) a.face
    ·rw [if_pos ho] at h; cases h
    ·rw [if_neg ho]; exact ⟨rfl, .inr (.inl h6), rfl, ho⟩
   by_cases h7 : a.op = 7
   ·rw [withT_7 h7] at h ⊢
    rcases callPartT_cases (slotAt s.slots a.slot).part a.call hp with ⟨e1, e2, _⟩ | ⟨e1, e2, _, ho⟩ | ⟨e1, _⟩
    ·rw [e2] at h; cases h
    ·rw [e1, e2]; exact ⟨rfl, .inr (.inr h7), rfl, ho⟩
    ·rw [e1] at h; exact absurd h (thr_code _ _ _)
   ·omega
  refine ⟨.inr ⟨rfl, key.2.1, ?_, ?_, key.2.2.2⟩, rfl⟩
  ·simp only []; rw [slotAt_set hs.1 hsl]
  ·simp only []; rw [slotAt_set hs.1 hsl, key.1]; exact key.2.2.1
 ·rw [stepT_g h1 h5 h4 hf h] at hc; exact absurd rfl hc
/-- Where a run of actions has ended. -/
def EndAt (l : List ActionT) (base : Int) (r : RunT × EndT) : Prop := r.2.code ≠ 0 → ∃ (k : Nat) (a : ActionT), atL l k = some a ∧ SlotNo a.slot ∧ r.2.place = base + k ∧ FitEnd a r.1.slots r.2
def EndOne (a : ActionT) (base : Int) (r : RunT × EndT) : Prop := r.2.code ≠ 0 → ∃ (k : Nat) (x : ActionT), k < a.size ∧ a.at k = some x ∧ SlotNo x.slot ∧ r.2.place = base + k ∧ FitEnd x r.1.slots r.2
theorem atL_lt {l : List ActionT} {k : Nat} {a : ActionT} (h : atL l k = some a) : k < sizeL l := by
 rcases Nat.lt_or_ge k (sizeL l) with h1 | h1
 ·exact h1
 ·rw [atL_none l k h1] at h; cases h
theorem EndAt.inA {a : ActionT} {place : Int} {r : RunT × EndT} (h : EndAt a.A (place + 1) r) : EndOne a place r := fun hc => by
 obtain ⟨k, x, h1, h2, h3, h4⟩ := h hc
 have hk := atL_lt h1
 refine ⟨k + 1, x, by rw [a.size_eq]; omega, ?_, h2, by omega, h4⟩
 rw [a.at_eq, if_neg (by omega), if_pos (by omega)]
 simpa using h1
theorem EndAt.inB {a : ActionT} {place : Int} {r : RunT × EndT} (h : EndAt a.B (place + 1 + sizeL a.A) r) : EndOne a place r := fun hc => by
 obtain ⟨k, x, h1, h2, h3, h4⟩ := h hc
 have hk := atL_lt h1
 refine ⟨k + 1 + sizeL a.A, x, by rw [a.size_eq]; omega, ?_, h2, by omega, h4⟩
 rw [a.at_eq, if_neg (by omega), if_neg (by omega), show k + 1 + sizeL a.A - 1 - sizeL a.A = k by omega]
 exact h1
theorem loopN_end {P : RunT × EndT → Prop} {f : RunT → RunT × EndT} (h0 : ∀ s, P (s, okEnd)) (h : ∀ s, SlotsOk s.slots → P (f s) ∧ SlotsOk (f s).1.slots) : ∀ n s, SlotsOk s.slots → P (loopN n f s)
 | 0, s, _ => by rw [loopN]; exact h0 s
 | n + 1, s, hs => by
  rw [loopN]
  split
  ·exact loopN_end h0 h n _ (h s hs).2
  ·exact (h s hs).1
theorem runL_end (input : List Int) (l : List ActionT) : okL l → ∀ (place : Int) (s : RunT), SlotsOk s.slots → EndAt l place (runL input l place s) := by
 refine run_ind (PL := fun l => okL l → ∀ (place : Int) (s : RunT), SlotsOk s.slots → EndAt l place (runL input l place s)) (PA := fun a => a.ok → ∀ (place : Int) (s : RunT), SlotsOk s.slots → EndOne a place (a.run input place s)) (fun a hA hB hok place s hs => ?_) (fun _ place s _ hc => ?_) (fun a l ha hl hok place s hs => ?_) l
 ·rw [ActionT.ok_iff] at hok
  obtain ⟨ha, h1, h2⟩ := hok
  by_cases h8 : a.op = 8
  ·rw [run_8 h8]
   split
   ·exact (hA h1 (place + 1) ⟨s.slots, s.taken + 1⟩ hs).inA
   ·exact (hB h2 (place + 1 + sizeL a.A) ⟨s.slots, s.taken + 1⟩ hs).inB
  by_cases h9 : a.op = 9
  ·rw [run_9 h9]
   exact loopN_end (P := EndOne a place) (fun s hc => absurd rfl hc) (fun t ht => ⟨(hA h1 _ _ ht).inA, runL_ok input a.A h1 _ _ ht⟩) _ _ hs
  by_cases h10 : a.op = 10
  ·rw [run_10 h10]
   split
   ·exact (hB h2 _ _ (runL_ok input a.A h1 _ _ hs)).inB
   ·exact (hA h1 _ _ hs).inA
  ·rw [run_s h8 h9 h10]
   intro hc
   obtain ⟨h3, h4⟩ := stepT_end ha h8 h9 h10 place s hs hc
   exact ⟨0, a, by rw [a.size_eq]; omega, by rw [a.at_eq, if_pos rfl], actOk_slot ha, by omega, h3⟩
 ·rw [runL] at hc; exact absurd rfl hc
 ·rw [okL] at hok
  rw [runL]
  split
  ·intro hc
   obtain ⟨k, x, h1, h2, h3, h4⟩ := hl hok.2 _ _ (run_ok input a hok.1 place s hs) hc
   refine ⟨a.size + k, x, ?_, h2, by omega, h4⟩
   rw [atL, if_neg (by omega), show a.size + k - a.size = k by omega]
   exact h1
  ·intro hc
   obtain ⟨k, x, h0, h1, h2, h3, h4⟩ := ha hok.1 place s hs hc
   exact ⟨k, x, by rw [atL, if_pos h0]; exact h1, h2, h3, h4⟩
end Go.Proofs.YtdlkbomojjmnlaaGreatDoor
