/- Plain Lean: the order of inputs (shorter ones first, then number by number) is an order that fits joining; least inputs; lists that hold a least input for each key. Conditions: none. / Plain Lean: all runs of actions from a state, with the numbers that they take: those that go on, and those that end. Conditions: none. / Plain Lean: the shapes of slots: their recipes, joined. Conditions: none. / Plain Lean: going through a plain plan with slots of which little may be known: what is reached, what is asked of what is given, whether an assertion fails; and that this does not hang on how a slot is told. Conditions: none. / Plain Lean: what an action of a plain plan does to slots of which little may be known: as the program tells them (where a slot was given, and words) and as the reference does (a number of layers and a face); both go alike. Conditions: none. / Plain Lean: what a simple action does to the shapes of slots: by parts made from the shapes (the program) and by the recipes alone (the reference); both are the same. Conditions: the action is valid, the shapes are shapes. / Plain Lean: the reference's lists of ways: one with the least input for each shapes and end. Conditions: none. / Plain Lean: the least inputs of all runs, action by action, as the reference's lists of ways hold them. Conditions: none. / Plain Lean: bounds on all runs of actions on shapes: what is reached are shapes; how a run may end; how many numbers it takes. Conditions: the actions are valid. / Plain Lean: there are 738 shapes; so lists of ways without a key twice are not long. Conditions: none. / Plain Lean: what a run does (runL) is one of all runs (exL) on the shapes of its slots, and each of those is a run. Conditions: the actions and the slots are valid. / Plain Lean: each of all runs (exL) on shapes is what a run (runL) does on slots of these shapes, with an input that begins so. Conditions: the actions and the slots are valid. / Plain Lean: inputs of numbers that are not below zero have a least one; the numbers of all runs are 0 to 3; the program's rounds: candidates out of least fronts and least rests. Conditions: none. / Plain Lean: what the checker's least inputs say of runs: a plan without failures never fails; an input that it tells fails so; no lesser one does. Conditions: the plan is a plan. / A plan that is tried, in plain Lean. Conditions: none. / Plain Lean: slots that are filled with the recipes of others have their shapes, and a plan runs alike on both. Conditions: the slots and the plan are valid. -/
import Derived.Test.YtdlkbomojjmnlaaGreatDoorGround
import Derived.Test.YtdlkbomojjmnlaaGreatDoorTypesA
import Derived.Test.YtdlkbomojjmnlaaGreatDoorPlains
import Derived.Test.YtdlkbomojjmnlaaGreatDoorTypes
import Derived.Test.YtdlkbomojjmnlaaGreatDoorTexts
import Derived.Test.YtdlkbomojjmnlaaGreatDoorBuilders
import Derived.Test.YtdlkbomojjmnlaaGreatDoorActOks
import Derived.Test.YtdlkbomojjmnlaaGreatDoorMakes
namespace Go.Proofs.YtdlkbomojjmnlaaGreatDoor
open Go.RowKit

/-- i is the least of these inputs. -/
def Least (X : List Int → Prop) (i : List Int) : Prop := X i ∧ ∀ j, X j → cmpI i j ≤ 0
section
variable {κ : Type} {E E' : List (κ × List Int)} {X Y : κ → List Int → Prop}
/-- E holds, for each key that X has, the least input of X, and nothing else. -/
structure MinMap (E : List (κ × List Int)) (X : κ → List Int → Prop) : Prop where
 least : ∀ {k i}, (k, i) ∈ E → Least (X k) i
 all : ∀ {k i}, X k i → ∃ j, (k, j) ∈ E
end
end Go.Proofs.YtdlkbomojjmnlaaGreatDoor
namespace Go.Proofs.YtdlkbomojjmnlaaGreatDoor
open Go.RowKit

/-- Runs from a state: the numbers taken and the state reached; 'bad': those that end. -/
structure Rn (σ : Type) where
 ok : σ → List Int → σ → Prop
 bad : σ → List Int → σ → EndT → Prop
section
variable {σ τ : Type}
def Rn.skip : Rn σ := ⟨fun s i t => i = [] ∧ t = s, fun _ _ _ _ => False⟩
def Rn.seq (X Y : Rn σ) : Rn σ := ⟨fun s i t => ∃ i1 i2 u, i = i1 ++ i2 ∧ X.ok s i1 u ∧ Y.ok u i2 t, fun s i t e => X.bad s i t e ∨ ∃ i1 i2 u, i = i1 ++ i2 ∧ X.ok s i1 u ∧ Y.bad u i2 t e⟩
def Rn.alt (X Y : Rn σ) : Rn σ := ⟨fun s i t => X.ok s i t ∨ Y.ok s i t, fun s i t e => X.bad s i t e ∨ Y.bad s i t e⟩
def Rn.took (n : Int) (X : Rn σ) : Rn σ := ⟨fun s i t => ∃ j, i = n :: j ∧ X.ok s j t, fun s i t e => ∃ j, i = n :: j ∧ X.bad s j t e⟩
def Rn.pow (X : Rn σ) : Nat → Rn σ
 | 0 => Rn.skip
 | n + 1 => Rn.seq (Rn.pow X n) X
/-- A number up to 3 is taken, and as many rounds are done. -/
def Rn.loop (X : Rn σ) : Rn σ := ⟨fun s i t => ∃ n : Nat, n ≤ 3 ∧ ((X.pow n).took n).ok s i t, fun s i t e => ∃ n : Nat, n ≤ 3 ∧ ((X.pow n).took n).bad s i t e⟩
/-- What ends with an assertion goes on with Y. -/
def Rn.tried (X Y : Rn σ) : Rn σ := ⟨fun s i t => X.ok s i t ∨ ∃ i1 i2 u e, i = i1 ++ i2 ∧ X.bad s i1 u e ∧ e.code = 1 ∧ Y.ok u i2 t,
 fun s i t e => (X.bad s i t e ∧ e.code ≠ 1) ∨ ∃ i1 i2 u e', i = i1 ++ i2 ∧ X.bad s i1 u e' ∧ e'.code = 1 ∧ Y.bad u i2 t e⟩
mutual
def ActionT.ex (f : ActionT → Int → Rn σ) : ActionT → Int → Rn σ
 | .mk op slot other word call face A B, p =>
  if op = 8 then Rn.alt ((exL f A (p + 1)).took 1) ((exL f B (p + 1 + sizeL A)).took 0)
  else if op = 9 then (exL f A (p + 1)).loop
  else if op = 10 then (exL f A (p + 1)).tried (exL f B (p + 1 + sizeL A))
  else f (.mk op slot other word call face A B) p
def exL (f : ActionT → Int → Rn σ) : List ActionT → Int → Rn σ
 | [], _ => Rn.skip
 | a :: l, p => (a.ex f p).seq (exL f l (p + a.size))
end
variable {F : σ → List Int → Prop} {X Y : Rn σ}
end
end Go.Proofs.YtdlkbomojjmnlaaGreatDoor
namespace Go.Proofs.YtdlkbomojjmnlaaGreatDoor
open Go.RowKit

def shapeOf (s : SlotT) : ByteArray := if s.full then joinB (recipe s.part) ⟨#[32]⟩ else ⟨#[]⟩
def shapes (l : List SlotT) : List ByteArray := l.map shapeOf
end Go.Proofs.YtdlkbomojjmnlaaGreatDoor
namespace Go.Proofs.YtdlkbomojjmnlaaGreatDoor
open Go.RowKit

/-- What is reached from a state, what is asked there of which slot that was given, and whether an assertion fails on the way. -/
structure W3 (σ : Type) where
 reach : σ → σ → Prop
 ask : σ → Nat → Int → Prop
 fail : σ → Prop
section
variable {σ τ : Type}
/-- The same, in other words: the states of both sides tied by α; 'I' holds of all states that are met. -/
structure Sim (I : σ → Prop) (α : σ → τ) (X : W3 σ) (Y : W3 τ) : Prop where
 keep : ∀ {s t}, I s → X.reach s t → I t
 fwd : ∀ {s t}, I s → X.reach s t → Y.reach (α s) (α t)
 back : ∀ {s t'}, I s → Y.reach (α s) t' → ∃ t, X.reach s t ∧ α t = t'
 ask : ∀ {s i w}, I s → (X.ask s i w ↔ Y.ask (α s) i w)
 fail : ∀ {s}, I s → (X.fail s ↔ Y.fail (α s))
variable {I : σ → Prop} {α : σ → τ} {X X' : W3 σ} {Y Y' : W3 τ}
end
end Go.Proofs.YtdlkbomojjmnlaaGreatDoor
namespace Go.Proofs.YtdlkbomojjmnlaaGreatDoor
open Go.RowKit

/-- Three of a kind. -/
structure Tri (α : Type) where
 a : α
 b : α
 c : α
section
variable {α β : Type}
def Tri.All (P : α → Prop) (t : Tri α) : Prop := P t.a ∧ P t.b ∧ P t.c
end

/-- A slot as the reference tells it: empty, given, or with a number of layers and a face. -/
inductive Kn where
 | no
 | giv (i : Nat)
 | known (layers : Nat) (face : Int)
/-- A slot as the program tells it. -/
structure GivT where
 given : Nat
 shape : ByteArray
def spc : ByteArray := ⟨#[32]⟩

theorem look_in {α : Type} {s : List UInt8} : ∀ {l : List (List UInt8 × α)} {x : α}, look s l = some x → (s, x) ∈ l
 | [], _, h => by cases h
 | (n, y) :: r, x, h => by
  rw [look] at h
  by_cases e : s = n
  ·rw [if_pos e] at h
   cases h
   rw [e]
   exact List.mem_cons_self
  ·rw [if_neg e] at h
   exact List.mem_cons_of_mem _ (look_in h)
theorem toList_data (s : ByteArray) : s.toList = s.data.toList := ByteArray.toList_eq s
end Go.Proofs.YtdlkbomojjmnlaaGreatDoor
namespace Go.Proofs.YtdlkbomojjmnlaaGreatDoor
open Go.RowKit

/-! ### texts of words -/
/-! ### parts made from recipes -/
theorem wrapOf_cases (p : PartT) (hp : PartOk p) (n : ByteArray) (x : Int × Int) (hx : layerOf n = some x) :
  (3 ≤ p.layers.length ∧ wrapOf p n = (p, repOf 5 0 0 0)) ∨ (¬ 3 ≤ p.layers.length ∧ ¬ Offer (faceAt p p.layers.length) x.1 ∧ wrapOf p n = (p, repOf 1 0 x.1 (faceAt p p.layers.length))) ∨
  (¬ 3 ≤ p.layers.length ∧ Offer (faceAt p p.layers.length) x.1 ∧ wrapOf p n = (⟨p.core, p.layers ++ [⟨n, 0⟩]⟩, repOf 0 x.2 0 0)) := by
 by_cases h : 3 ≤ p.layers.length
 ·exact .inl ⟨h, wrapOf_full hx hp h⟩
 ·by_cases ho : Offer (faceAt p p.layers.length) x.1
  ·exact .inr (.inr ⟨h, ho, wrapOf_done hx hp h ho⟩)
  ·exact .inr (.inl ⟨h, ho, wrapOf_lacks hx hp h ho⟩)
theorem faceAt_app (p : PartT) (y : LayerT) : faceAt ⟨p.core, p.layers ++ [y]⟩ (p.layers.length + 1) = ((layerOf y.name).getD (0, 0)).2 := by
 rw [faceAt_pos _ _ (by omega) (by simp)]
 simp
theorem faceAt_low (p : PartT) (y : LayerT) (k : Nat) (hk : k ≤ p.layers.length) : faceAt ⟨p.core, p.layers ++ [y]⟩ k = faceAt p k := by
 rcases Nat.eq_zero_or_pos k with rfl | h0
 ·rfl
 ·rw [faceAt_pos _ k h0 (by simp; omega), faceAt_pos p k h0 (by omega)]
  simp only
  rw [List.getElem_append_left (by omega)]
theorem partOk_app {p : PartT} (hp : PartOk p) {n : ByteArray} {x : Int × Int} (hx : layerOf n = some x) (h3 : ¬ 3 ≤ p.layers.length) (ho : Offer (faceAt p p.layers.length) x.1) : PartOk ⟨p.core, p.layers ++ [⟨n, 0⟩]⟩ := by
 refine ⟨hp.1, by simp; omega, fun k hk => ?_⟩
 have hk' : k < p.layers.length + 1 := by simpa using hk
 by_cases hl : k < p.layers.length
 ·obtain ⟨y, h1, h2, h4, h5⟩ := hp.2.2 k hl
  refine ⟨y, ?_, ?_, ?_, ?_⟩
  ·simpa [List.getElem_append_left hl] using h1
  ·rw [faceAt_low p _ k (by omega)]; exact h2
  ·simpa [List.getElem_append_left hl] using h4
  ·simpa [List.getElem_append_left hl] using h5
 ·obtain rfl : k = p.layers.length := by omega
  refine ⟨x, by simpa using hx, ?_, ?_, ?_⟩
  ·rw [faceAt_low p _ _ (Nat.le_refl _)]; exact ho
  ·simp [IsNum]
  ·simp
theorem makeFold_ok : ∀ (l : List ByteArray) (p : PartT), PartOk p → (makeFold p l).2.code = 0 → PartOk (makeFold p l).1 ∧ recipe (makeFold p l).1 = recipe p ++ l ∧ (makeFold p l).2.value = faceAt (makeFold p l).1 (makeFold p l).1.layers.length
 | [], p, hp, _ => ⟨hp, by rw [makeFold]; simp, rfl⟩
 | n :: r, p, hp, h => by
  rw [makeFold] at h ⊢
  by_cases hc : (wrapOf p n).2.code = 0
  ·rw [if_pos hc] at h ⊢
   cases hx : layerOf n with
   | none => rw [wrapOf_none hx] at hc; cases hc
   | some x =>
    rcases wrapOf_cases p hp n x hx with ⟨_, e⟩ | ⟨_, _, e⟩ | ⟨h3, ho, e⟩
    ·rw [e] at hc; cases hc
    ·rw [e] at hc; cases hc
    ·rw [e] at h ⊢
     obtain ⟨h1, h2, h4⟩ := makeFold_ok r _ (partOk_app hp hx h3 ho) h
     exact ⟨h1, by rw [h2]; simp [recipe], h4⟩
  ·rw [if_neg hc] at h
   exact absurd h hc
theorem makeFold_done : ∀ (l : List ByteArray) (p : PartT), PartOk p → (∀ (k : Nat) (h : k < l.length), ∃ x, layerOf l[k] = some x ∧ Offer (if k = 0 then faceAt p p.layers.length else ((layerOf (l[k - 1]'(by omega))).getD (0, 0)).2) x.1) → p.layers.length + l.length ≤ 3 → (makeFold p l).2.code = 0
 | [], _, _, _, _ => rfl
 | n :: r, p, hp, h, h3 => by
  obtain ⟨x, hx, ho⟩ := h 0 (by simp)
  simp only [List.getElem_cons_zero, if_true] at hx ho
  have e := wrapOf_done hx hp (by simp at h3; omega) ho
  rw [makeFold, e, if_pos]
  ·refine makeFold_done r _ (partOk_app hp hx (by simp at h3; omega) ho) (fun k hk => ?_) (by simp at h3 ⊢; omega)
   obtain ⟨y, hy, hoy⟩ := h (k + 1) (by simp; omega)
   refine ⟨y, by simpa using hy, ?_⟩
   rw [if_neg (by omega)] at hoy
   rcases Nat.eq_zero_or_pos k with rfl | h0
   ·simp only [if_true, List.length_append, List.length_cons, List.length_nil, Nat.zero_add]
    rw [faceAt_app]
    simpa using hoy
   ·rw [if_neg (by omega)]
    have e1 : (n :: r)[k + 1 - 1]'(by simp; omega) = r[k - 1]'(by omega) := by
     rw [List.getElem_cons]
     rw [dif_neg (by omega)]
     congr 1
    rw [e1] at hoy
    exact hoy
  ·rfl
/-- A valid part can be made from its recipe. -/
theorem make_recipe {p : PartT} (hp : PartOk p) : (makeOf (recipe p)).2.code = 0 ∧ recipe (makeOf (recipe p)).1 = recipe p ∧ PartOk (makeOf (recipe p)).1 := by
 obtain ⟨f, hf, _⟩ := hp.1
 unfold recipe
 rw [makeOf_some hf]
 have hn := newPart_ok (k := p.core.kind) (by rw [hf]; simp)
 have hc : (makeFold (newPart p.core.kind) (p.layers.map (·.name))).2.code = 0 := by
  refine makeFold_done _ _ hn (fun k hk => ?_) (by simpa [newPart] using hp.2.1)
  have hk' : k < p.layers.length := by simpa using hk
  obtain ⟨x, hx, ho, _⟩ := hp.2.2 k hk'
  refine ⟨x, by simpa using hx, ?_⟩
  rcases Nat.eq_zero_or_pos k with rfl | h0
  ·simpa [newPart, faceAt_zero] using ho
  ·rw [if_neg (by omega)]
   rw [faceAt_pos p k h0 (by omega)] at ho
   simpa using ho
 obtain ⟨h1, h2, _⟩ := makeFold_ok _ _ hn hc
 refine ⟨hc, ?_, h1⟩
 have h3 := h2
 unfold recipe at h3
 rw [h3]
 simp [newPart]
/-! ### shapes -/
def ShOk (s : ByteArray) : Prop := s.size = 0 ∨ (makeOf (rcp s)).2.code = 0
theorem joinB_recipe {p q : PartT} (h : SameP p q) : joinB (recipe q) spc = joinB (recipe p) spc := by unfold recipe; rw [h.1, h.2]
end Go.Proofs.YtdlkbomojjmnlaaGreatDoor
namespace Go.Proofs.YtdlkbomojjmnlaaGreatDoor
open Go.RowKit

/-- Shapes that a run can have, with an input for which it has them; and its end. -/
structure WayT where
 shapes : Tri ByteArray
 input : List Int
 fin : EndT
variable {X Y : Tri ByteArray × EndT → List Int → Prop}
end Go.Proofs.YtdlkbomojjmnlaaGreatDoor
namespace Go.Proofs.YtdlkbomojjmnlaaGreatDoor
open Go.RowKit

abbrev Fr := Tri ByteArray → List Int → Prop
section
variable {F : Fr} {L : List WayT} {X Y : Rn (Tri ByteArray)}
end
end Go.Proofs.YtdlkbomojjmnlaaGreatDoor
namespace Go.Proofs.YtdlkbomojjmnlaaGreatDoor
open Go.RowKit

/-- What is known of runs. -/
structure Good (X : Rn (Tri ByteArray)) (n : Nat) (E : Tri ByteArray → EndT → Prop) : Prop where
 ok : ∀ {s i t}, s.All ShOk → X.ok s i t → t.All ShOk ∧ i.length ≤ n
 bad : ∀ {s i t e}, s.All ShOk → X.bad s i t e → t.All ShOk ∧ i.length ≤ n ∧ E t e
section
variable {X Y : Rn (Tri ByteArray)} {n m : Nat} {E E' : Tri ByteArray → EndT → Prop}
end
end Go.Proofs.YtdlkbomojjmnlaaGreatDoor
namespace Go.Proofs.YtdlkbomojjmnlaaGreatDoor
open Go.RowKit

end Go.Proofs.YtdlkbomojjmnlaaGreatDoor
namespace Go.Proofs.YtdlkbomojjmnlaaGreatDoor
open Go.RowKit

/-- The shapes of three slots. -/
def shT (l : List SlotT) : Tri ByteArray := ⟨shapeOf (slotAt l 0), shapeOf (slotAt l 1), shapeOf (slotAt l 2)⟩
theorem recipe_same {p q : PartT} (h : recipe q = recipe p) : SameP p q := by
 unfold recipe at h
 obtain ⟨h1, h2⟩ := List.cons.inj h
 exact ⟨h1, h2⟩
section
variable {X : Rn (Tri ByteArray)}
end
end Go.Proofs.YtdlkbomojjmnlaaGreatDoor
namespace Go.Proofs.YtdlkbomojjmnlaaGreatDoor
open Go.RowKit

/-- These numbers are taken from t on. -/
def Reads (input : List Int) (t : Int) (i : List Int) : Prop := ∀ (j : Nat) (h : j < i.length), takeN input (t + j) = i[j]
/-- What all runs say of a run. -/
structure HasRun (input : List Int) (X : Rn (Tri ByteArray)) (f : RunT → RunT × EndT) : Prop where
 good : ∀ {s}, SlotsOk s.slots → SlotsOk (f s).1.slots
 ok : ∀ {s i t}, SlotsOk s.slots → X.ok (shT s.slots) i t → Reads input s.taken i → (f s).2 = okEnd ∧ shT (f s).1.slots = t ∧ (f s).1.taken = s.taken + i.length
 bad : ∀ {s i t e}, SlotsOk s.slots → X.bad (shT s.slots) i t e → Reads input s.taken i → (f s).2 = e ∧ e.code ≠ 0 ∧ shT (f s).1.slots = t ∧ (f s).1.taken = s.taken + i.length
section
variable {input : List Int} {X Y : Rn (Tri ByteArray)} {f g : RunT → RunT × EndT}
end
end Go.Proofs.YtdlkbomojjmnlaaGreatDoor
namespace Go.Proofs.YtdlkbomojjmnlaaGreatDoor
open Go.RowKit

/-- Numbers from 0 to 3. -/
def Dig (i : List Int) : Prop := ∀ x ∈ i, 0 ≤ x ∧ x ≤ 3
structure Digs (X : Rn (Tri ByteArray)) : Prop where
 ok : ∀ {s i t}, X.ok s i t → Dig i
 bad : ∀ {s i t e}, X.bad s i t e → Dig i
section
variable {X Y : Rn (Tri ByteArray)}
end
/-! ### the program's rounds -/
section
variable {κ σ : Type} {F : σ → List Int → Prop} {R : σ → κ → List Int → Prop}
end
end Go.Proofs.YtdlkbomojjmnlaaGreatDoor
namespace Go.Proofs.YtdlkbomojjmnlaaGreatDoor
open Go.RowKit

end Go.Proofs.YtdlkbomojjmnlaaGreatDoor
namespace Go.Proofs.YtdlkbomojjmnlaaGreatDoor
open Go.RowKit

/-- A plan, tried. -/
def tryA (p : List ActionT) : ActionT := .mk 10 0 0 ⟨#[]⟩ ⟨⟨#[]⟩, ⟨#[]⟩, 0, ⟨#[]⟩⟩ 0 p []
theorem try_run (input : List Int) (p : List ActionT) (s : RunT) : runL input [tryA p] 0 s = ((runL input p 0 s).1, if (runL input p 0 s).2.code = 1 then okEnd else (runL input p 0 s).2.up 1) := by
 have hup := runL_up input p 0 1 s
 rw [Int.zero_add] at hup
 have h10 : (tryA p).run input 0 s = ((runL input p 0 s).1, if (runL input p 0 s).2.code = 1 then okEnd else (runL input p 0 s).2.up 1) := by
  rw [run_10 (a := tryA p) rfl]
  show (if (runL input p (0 + 1) s).2.code = 1 then runL input [] (0 + 1 + sizeL p) (runL input p (0 + 1) s).1 else runL input p (0 + 1) s) = _
  rw [Int.zero_add, hup]
  simp only [EndT.up_code]
  split
  ·rw [runL]
  ·rfl
 rw [runL, h10]
 simp only
 by_cases h : (runL input p 0 s).2.code = 1
 ·simp only [h, if_true]
  rw [if_pos (show okEnd.code = 0 from rfl), runL]
 ·simp only [h, if_false]
  by_cases h0 : ((runL input p 0 s).2.up 1).code = 0
  ·rw [if_pos h0, runL]
   rw [EndT.up_code] at h0
   rw [runL_okEnd input p 0 s h0, okEnd_up]
  ·rw [if_neg h0]
end Go.Proofs.YtdlkbomojjmnlaaGreatDoor
namespace Go.Proofs.YtdlkbomojjmnlaaGreatDoor
open Go.RowKit

/-- The recipe of a slot. -/
def rcpOf (x : SlotT) : List ByteArray := if x.full = true then recipe x.part else []
theorem slotOf_rcpOf {x : SlotT} (h : SlotOk x) : ∃ y, slotOf (rcpOf x) = some y ∧ SlotOk y ∧ SameSh x y := by
 unfold rcpOf
 by_cases hf : x.full = true
 ·rw [if_pos hf]
  obtain ⟨h1, h2, h3⟩ := make_recipe (h.1 hf)
  refine ⟨⟨true, (makeOf (recipe x.part)).1⟩, ?_, slotOk_on rfl h3, hf.symm, recipe_same h2⟩
  unfold recipe at h1 ⊢
  exact if_pos h1
 ·have hf : x.full = false := by simpa using hf
  rw [if_neg (by rw [hf]; decide)]
  exact ⟨⟨false, zeroPart⟩, rfl, slotOk_off rfl rfl, hf.symm, by rw [h.2 hf]; exact SameP.refl _⟩
theorem fill_rcps {l : List SlotT} (h : SlotsOk l) : FillOk (l.map rcpOf) ∧ SlotsOk (fillSl (l.map rcpOf)) ∧ SameS l (fillSl (l.map rcpOf)) := by
 obtain ⟨h3, h⟩ := h
 have hat : ∀ (k : Nat) (hk : k < l.length) (hk' : k < (fillSl (l.map rcpOf)).length), ∃ y, (fillSl (l.map rcpOf))[k] = y ∧ SlotOk y ∧ SameSh l[k] y := by
  intro k hk hk'
  obtain ⟨y, e, h1, h2⟩ := slotOf_rcpOf (h k hk)
  exact ⟨y, by simp [fillSl, e], h1, h2⟩
 refine ⟨⟨by simpa using h3, fun x hx => ?_⟩, ⟨by simp [fillSl, h3], fun k hk => ?_⟩, ⟨by simp [fillSl], fun k hk hk' => ?_⟩⟩
 ·obtain ⟨s, hs, rfl⟩ := List.mem_map.1 hx
  obtain ⟨k, hk, rfl⟩ := List.getElem_of_mem hs
  obtain ⟨y, e, _⟩ := slotOf_rcpOf (h k hk)
  rw [e]
  rfl
 ·obtain ⟨y, e, h1, _⟩ := hat k (by simpa [fillSl] using hk) hk
  rw [e]; exact h1
 ·obtain ⟨y, e, _, h1⟩ := hat k hk hk'
  rw [e]; exact h1
theorem shapeOf_same {x y : SlotT} (h : SameSh x y) : shapeOf y = shapeOf x := by
 unfold shapeOf
 rw [h.1]
 split
 ·exact joinB_recipe h.2
 ·rfl
theorem shapes_same {l m : List SlotT} (h : SameS l m) : shapes m = shapes l := by
 unfold shapes
 apply List.ext_getElem
 ·simpa using h.1
 ·intro k h1 h2
  simp only [List.getElem_map]
  exact shapeOf_same (h.2 k (by simpa using h2) (by simpa using h1))
/-- How a run ends hangs on the shapes alone. -/
theorem runL_shapes {l m : List SlotT} {p : List ActionT} (input : List Int) (hl : SlotsOk l) (hm : SlotsOk m) (h : SameS l m) (hp : PlanOk p) :
  (runL input p 0 ⟨m, 0⟩).2 = (runL input p 0 ⟨l, 0⟩).2 ∧ (runL input p 0 ⟨m, 0⟩).1.taken = (runL input p 0 ⟨l, 0⟩).1.taken ∧ shapes (runL input p 0 ⟨m, 0⟩).1.slots = shapes (runL input p 0 ⟨l, 0⟩).1.slots := by
 obtain ⟨h1, h2⟩ := runL_same input p hp.2.2 0 ⟨l, 0⟩ ⟨m, 0⟩ ⟨hl, hm, h, rfl⟩
 exact ⟨h2, h1.2.2.2, shapes_same h1.2.2.1⟩
end Go.Proofs.YtdlkbomojjmnlaaGreatDoor
