/- Memory that reads as plain data: a datum is a value of one cell, or a slice with its cells; 'Rd' says that a value reads as a datum below a block number, 'Own' that it does so through blocks of its own, each named once; 'Chg' says which blocks may have turned. Conditions: none. / Walks over slices of integers: copies, comparison. Conditions: at most 1048576 elements. / Readings of arguments as plain typed data: integers, bools, strings, slices, structs, and types that hold slices of themselves. Conditions: none. / markText: a text that depends on the number alone. Conditions: the number is at most 100000000. / Small things that all walks over typed data use. / Lists of texts: as plain data; the walks of their size, copy and equality. -/
import Derived.Below
import Derived.OneCell
import Derived.Deep.Draws
import Derived.Laws.MakeOwn
import Derived.Laws.Entries
import Derived.Test.YtldpibnfhomfgaaGreatDoorRows
import Derived.WalkKit
import Derived.WalkSpells
import Derived.WalkLawsBesides
import Derived.Lib.Hide
import Derived.Deep.LoopGhost
import Derived.Deep.OwnRows
import Derived.BigQuiet
import Derived.Deep.QuietTactic
import Derived.ProofKit
import Derived.Deep.Slices
import Derived.OpenShut
import Derived.Laws.BytesArg
import Derived.StillTailTactics
namespace Go.Proofs.YtldpibnfhomfgaaGreatDoor
open Go.RowKit

/-- A datum: one cell, or a slice of n elements, of which the cells are told in order. -/
inductive Dat where
  | v (x : Value)
  | s (n : Nat) (cs : List Dat)

/-- Which blocks may have turned (beside new ones). -/
structure Chg (S : List Nat) (w w' : World) : Prop where
  os : w'.os = w.os
  tape : w'.tape = w.tape
  output : w'.output = w.output
  size : w.heap.size ≤ w'.heap.size
  block : ∀ k, k < w.heap.size → k ∉ S → w'.heap[k]? = w.heap[k]?

theorem Chg.refl (S : List Nat) (w : World) : Chg S w w := ⟨rfl, rfl, rfl, Nat.le_refl _, fun _ _ _ => rfl⟩
theorem Chg.trans {S T : List Nat} {a b c : World} (h : Chg S a b) (k : Chg T b c) (hT : ∀ x, x ∈ T → x ∈ S ∨ a.heap.size ≤ x) : Chg S a c :=
  ⟨k.os.trans h.os, k.tape.trans h.tape, k.output.trans h.output, Nat.le_trans h.size k.size, fun i hi hn =>
    (k.block i (Nat.lt_of_lt_of_le hi h.size) (fun hx => (hT i hx).elim hn (fun h1 => by omega))).trans (h.block i hi hn)⟩
theorem Chg.trans0 {S : List Nat} {a b c : World} (h : Chg S a b) (k : Chg [] b c) : Chg S a c := h.trans k (fun _ hx => by cases hx)
theorem Chg.mono {S T : List Nat} {a b : World} (h : Chg S a b) (hT : ∀ x, x ∈ S → x ∈ T ∨ a.heap.size ≤ x) : Chg T a b :=
  ⟨h.os, h.tape, h.output, h.size, fun i hi hn => h.block i hi (fun hx => (hT i hx).elim hn (fun h1 => by omega))⟩
theorem Chg.drew {S : List Nat} {a b : World} (h : Chg S a b) : Chg S a b.drew := ⟨h.os, h.tape, h.output, h.size, h.block⟩
theorem Chg.drewN {S : List Nat} {a b : World} (h : Chg S a b) (n : Nat) : Chg S a (b.drewN n) := ⟨h.os, h.tape, h.output, h.size, h.block⟩
theorem Chg.alloc {S : List Nat} {a b : World} (h : Chg S a b) (o : Obj) : Chg S a (b.alloc o) :=
  ⟨h.os, h.tape, h.output, Nat.le_trans h.size (by simp), fun i hi hn => (Below.heap_alloc b o i (Nat.lt_of_lt_of_le hi h.size)).trans (h.block i hi hn)⟩
theorem Chg.setCell {S : List Nat} {a b : World} (h : Chg S a b) {p : Addr} (hp : p.block ∈ S ∨ a.heap.size ≤ p.block) (u : Value) : Chg S a (b.setCell p u) :=
  ⟨h.os, h.tape, h.output, by simpa [World.setCell] using h.size, fun i hi hn => (Below.heap_setCell b p u i (by
    rintro rfl
    rcases hp with hp | hp
    · exact hn hp
    · omega)).trans (h.block i hi hn)⟩
theorem Chg.below {B : Nat} {S : List Nat} {a b : World} (h : Chg S a b) (hS : ∀ x, x ∈ S → B ≤ x) (hB : B ≤ a.heap.size) : Below B a b :=
  ⟨h.os, h.tape, h.output, h.size, fun k hk => h.block k (by omega) (fun hx => by have := hS k hx; omega)⟩
theorem Chg.toBelow {a b : World} (h : Chg [] a b) : Below a.heap.size a b := h.below (by simp) (Nat.le_refl _)
theorem Chg.of_below {a b : World} (h : Below a.heap.size a b) (S : List Nat) : Chg S a b := ⟨h.os, h.tape, h.output, h.size, fun k hk _ => h.block k hk⟩
theorem Chg.cell {S : List Nat} {a b : World} (h : Chg S a b) {p : Addr} (hp : p.block < a.heap.size) (hn : p.block ∉ S) : b.cell? p = a.cell? p :=
  World.cell?_of_block (h.block _ hp hn)
theorem Chg.frozen {S : List Nat} {a b : World} (h : Chg S a b) {p : Addr} (hp : p.block < a.heap.size) (hn : p.block ∉ S) : b.frozen? p = a.frozen? p :=
  World.frozen?_of_block (h.block _ hp hn)

theorem lt_of_cell {w : World} {p : Addr} {u : Value} (h : w.cell? p = some u) : p.block < w.heap.size := World.block_lt_of_cell? w p h

mutual
/-- The value u reads, in world w, as the datum, through blocks below B. -/
def Rd (w : World) (B : Nat) : Dat → Value → Prop
  | .v x, u => u = x
  | .s n cs, u => ∃ A cap, u = .slice A n cap ∧ n ≤ cap ∧ cap ≤ maxLen ∧ (cs = [] ∨ ∃ b off, A = some ⟨b, off, none⟩ ∧ b < B ∧ RdL w B cs b off)
/-- .. and so on, cell by cell. -/
def RdL (w : World) (B : Nat) : List Dat → Nat → Nat → Prop
  | [], _, _ => True
  | d :: ds, b, off => (∃ u, w.cell? ⟨b, off, none⟩ = some u ∧ Rd w B d u) ∧ RdL w B ds b (off + 1)
end

theorem RdL_iff {w : World} {B b : Nat} : ∀ {ds : List Dat} {off : Nat}, RdL w B ds b off ↔ ∀ j d, ds[j]? = some d → ∃ u, w.cell? ⟨b, off + j, none⟩ = some u ∧ Rd w B d u
  | [], off => by simp [RdL]
  | d :: ds, off => by
    rw [RdL, RdL_iff (ds := ds)]
    constructor
    · rintro ⟨h1, h2⟩ j x hx
      match j, hx with
      | 0, hx => simp at hx; subst hx; exact h1
      | j + 1, hx => have := h2 j x (by simpa using hx); rwa [Nat.add_assoc, Nat.add_comm 1 j] at this
    · intro h
      refine ⟨h 0 d (by simp), fun j x hx => ?_⟩
      have := h (j + 1) x (by simpa using hx)
      rwa [Nat.add_assoc, Nat.add_comm 1 j]

mutual
theorem Rd.keep {w w' : World} {B B' : Nat} (hB : B ≤ B') (hk : ∀ p : Addr, p.block < B → w'.cell? p = w.cell? p) : ∀ (d : Dat) (u : Value), Rd w B d u → Rd w' B' d u
  | .v x, u, h => by rw [Rd] at h ⊢; exact h
  | .s n cs, u, h => by
    rw [Rd] at h ⊢
    obtain ⟨A, cap, e, h0, h1, h2⟩ := h
    refine ⟨A, cap, e, h0, h1, ?_⟩
    rcases h2 with h2 | ⟨b, off, e2, hb, hl⟩
    · exact .inl h2
    · exact .inr ⟨b, off, e2, by omega, RdL.keep hB hk cs b off hb hl⟩
theorem RdL.keep {w w' : World} {B B' : Nat} (hB : B ≤ B') (hk : ∀ p : Addr, p.block < B → w'.cell? p = w.cell? p) : ∀ (ds : List Dat) (b off : Nat), b < B → RdL w B ds b off → RdL w' B' ds b off
  | [], _, _, _, _ => by rw [RdL]; trivial
  | d :: ds, b, off, hb, h => by
    rw [RdL] at h ⊢
    obtain ⟨⟨u, hu, hd⟩, hr⟩ := h
    exact ⟨⟨u, (hk _ hb).trans hu, Rd.keep hB hk d u hd⟩, RdL.keep hB hk ds b (off + 1) hb hr⟩
end

theorem Rd.below {w w' : World} {B : Nat} {d : Dat} {u : Value} (h : Rd w B d u) (hb : Below B w w') : Rd w' B d u := Rd.keep (Nat.le_refl _) (fun _ hp => hb.cell hp) d u h
theorem Rd.chg {w w' : World} {B : Nat} {S : List Nat} {d : Dat} {u : Value} (h : Rd w B d u) (hc : Chg S w w') (hB : B ≤ w.heap.size) (hS : ∀ x, x ∈ S → B ≤ x) : Rd w' B d u := h.below (hc.below hS hB)
theorem Rd.chg0 {w w' : World} {B : Nat} {d : Dat} {u : Value} (h : Rd w B d u) (hc : Chg [] w w') (hB : B ≤ w.heap.size) : Rd w' B d u := h.chg hc hB (by simp)
/-- A slice that reads as cells, opened at one of them. -/
theorem Rd.at_ {w : World} {B n : Nat} {cs : List Dat} {u : Value} (h : Rd w B (.s n cs) u) : ∃ A cap, u = .slice A n cap ∧ n ≤ cap ∧ cap ≤ maxLen ∧
    (cs ≠ [] → ∃ b off, A = some ⟨b, off, none⟩ ∧ b < B ∧ ∀ j d, cs[j]? = some d → ∃ u, w.cell? ⟨b, off + j, none⟩ = some u ∧ Rd w B d u) := by
  rw [Rd] at h
  obtain ⟨A, cap, e, h0, h1, h2⟩ := h
  refine ⟨A, cap, e, h0, h1, fun hne => ?_⟩
  rcases h2 with h2 | ⟨b, off, e2, hb, hl⟩
  · exact absurd h2 hne
  · exact ⟨b, off, e2, hb, RdL_iff.1 hl⟩

mutual
/-- The value u reads, in world w, as the datum, through blocks of its own: S. -/
def Own (w : World) : Dat → Value → List Nat → Prop
  | .v x, u, S => u = x ∧ S = []
  | .s n cs, u, S => (u = .slice none 0 0 ∧ n = 0 ∧ cs = [] ∧ S = []) ∨
      ∃ g cap cur e us S', u = .slice (some ⟨g, 0, none⟩) n cap ∧ n ≤ cap ∧ cap ≤ maxLen ∧ w.heap[g]? = some (.cells cur e (0, 0)) ∧ cur.toList.take cs.length = us ∧ us.length = cs.length ∧ OwnL w cs us S' ∧ S = g :: S'
def OwnL (w : World) : List Dat → List Value → List Nat → Prop
  | [], us, S => us = [] ∧ S = []
  | d :: ds, us, S => ∃ u us' S1 S2, us = u :: us' ∧ S = S1 ++ S2 ∧ Own w d u S1 ∧ OwnL w ds us' S2
end

mutual
theorem Own.lt {w : World} : ∀ (d : Dat) (u : Value) (S : List Nat), Own w d u S → ∀ x, x ∈ S → x < w.heap.size
  | .v x, u, S, h => by rw [Own] at h; rw [h.2]; simp
  | .s n cs, u, S, h => by
    rw [Own] at h
    rcases h with ⟨_, _, _, rfl⟩ | ⟨g, cap, cur, e, us, S', _, _, _, hg, _, _, hl, rfl⟩
    · simp
    · intro x hx
      rcases List.mem_cons.1 hx with rfl | hx
      · exact (Array.getElem?_eq_some_iff.1 hg).1
      · exact OwnL.lt cs us S' hl x hx
theorem OwnL.lt {w : World} : ∀ (ds : List Dat) (us : List Value) (S : List Nat), OwnL w ds us S → ∀ x, x ∈ S → x < w.heap.size
  | [], us, S, h => by rw [OwnL] at h; rw [h.2]; simp
  | d :: ds, us, S, h => by
    rw [OwnL] at h
    obtain ⟨u, us', S1, S2, _, rfl, h1, h2⟩ := h
    intro x hx
    rcases List.mem_append.1 hx with hx | hx
    · exact Own.lt d u S1 h1 x hx
    · exact OwnL.lt ds us' S2 h2 x hx
end

mutual
theorem Own.keep {w w' : World} {S0 : List Nat} (hc : Chg S0 w w') : ∀ (d : Dat) (u : Value) (S : List Nat), (∀ x, x ∈ S → x ∉ S0) → Own w d u S → Own w' d u S
  | .v x, u, S, _, h => by rw [Own] at h ⊢; exact h
  | .s n cs, u, S, hS, h => by
    rw [Own] at h ⊢
    rcases h with h | ⟨g, cap, cur, e, us, S', h1, h2, h3, hg, h4, h5, hl, rfl⟩
    · exact .inl h
    · exact .inr ⟨g, cap, cur, e, us, S', h1, h2, h3, (hc.block g (Array.getElem?_eq_some_iff.1 hg).1 (hS g (by simp))).trans hg, h4, h5, OwnL.keep hc cs us S' (fun x hx => hS x (by simp [hx])) hl, rfl⟩
theorem OwnL.keep {w w' : World} {S0 : List Nat} (hc : Chg S0 w w') : ∀ (ds : List Dat) (us : List Value) (S : List Nat), (∀ x, x ∈ S → x ∉ S0) → OwnL w ds us S → OwnL w' ds us S
  | [], us, S, _, h => by rw [OwnL] at h ⊢; exact h
  | d :: ds, us, S, hS, h => by
    rw [OwnL] at h ⊢
    obtain ⟨u, us', S1, S2, e1, rfl, h1, h2⟩ := h
    exact ⟨u, us', S1, S2, e1, rfl, Own.keep hc d u S1 (fun x hx => hS x (by simp [hx])) h1, OwnL.keep hc ds us' S2 (fun x hx => hS x (by simp [hx])) h2⟩
end

theorem OwnL.length {w : World} : ∀ (ds : List Dat) (us : List Value) (S : List Nat), OwnL w ds us S → us.length = ds.length
  | [], us, S, h => by rw [OwnL] at h; rw [h.1]; rfl
  | d :: ds, us, S, h => by
    rw [OwnL] at h
    obtain ⟨u, us', S1, S2, rfl, _, _, h2⟩ := h
    simp [OwnL.length ds us' S2 h2]

theorem OwnL.append {w : World} : ∀ {ds ds' : List Dat} {us us' : List Value} {S S' : List Nat}, OwnL w ds us S → OwnL w ds' us' S' → OwnL w (ds ++ ds') (us ++ us') (S ++ S')
  | [], ds', us, us', S, S', h, h' => by rw [OwnL] at h; simpa [h.1, h.2] using h'
  | d :: ds, ds', us, us', S, S', h, h' => by
    rw [OwnL] at h
    obtain ⟨u, us1, S1, S2, rfl, rfl, h1, h2⟩ := h
    rw [List.cons_append, OwnL]
    exact ⟨u, us1 ++ us', S1, S2 ++ S', by simp, by simp, h1, OwnL.append h2 h'⟩

/-- One cell of several: what it is, its blocks, and how it is put back. -/
theorem OwnL.split {w : World} : ∀ {ds : List Dat} {us : List Value} {S : List Nat} {j : Nat} {d : Dat}, OwnL w ds us S → ds[j]? = some d →
    ∃ u Sa Sj Sb, us[j]? = some u ∧ S = Sa ++ (Sj ++ Sb) ∧ Own w d u Sj ∧
      ∀ (w' : World) (d' : Dat) (u' : Value) (Sj' S0 : List Nat), Chg S0 w w' → (∀ x, x ∈ Sa ++ Sb → x ∉ S0) → Own w' d' u' Sj' → OwnL w' (ds.set j d') (us.set j u') (Sa ++ (Sj' ++ Sb))
  | [], us, S, j, d, h, hj => by simp at hj
  | d0 :: ds, us, S, j, d, h, hj => by
    rw [OwnL] at h
    obtain ⟨u, us1, S1, S2, rfl, rfl, h1, h2⟩ := h
    match j, hj with
    | 0, hj =>
      simp at hj; subst hj
      refine ⟨u, [], S1, S2, rfl, by simp, h1, fun w' d' u' Sj' S0 hc hn ho => ?_⟩
      simp only [List.set_cons_zero, List.nil_append]
      rw [OwnL]
      exact ⟨u', us1, Sj', S2, rfl, rfl, ho, OwnL.keep hc ds us1 S2 (fun x hx => hn x (by simpa using hx)) h2⟩
    | j + 1, hj =>
      obtain ⟨u1, Sa, Sj, Sb, e1, rfl, h3, h4⟩ := OwnL.split h2 (by simpa using hj)
      refine ⟨u1, S1 ++ Sa, Sj, Sb, by simpa using e1, by simp, h3, fun w' d' u' Sj' S0 hc hn ho => ?_⟩
      simp only [List.set_cons_succ]
      rw [OwnL]
      refine ⟨u, us1.set j u', S1, Sa ++ (Sj' ++ Sb), rfl, by simp, Own.keep hc d0 u S1 (fun x hx => hn x (by simp [hx])) h1, h4 w' d' u' Sj' S0 hc (fun x hx => hn x ?_) ho⟩
      rcases List.mem_append.1 hx with hx | hx <;> simp [hx]

/-- Owned through blocks that are all different. -/
def Has (w : World) (d : Dat) (u : Value) (S : List Nat) : Prop := Own w d u S ∧ S.Nodup

theorem Has.lt {w : World} {d : Dat} {u : Value} {S : List Nat} (h : Has w d u S) : ∀ x, x ∈ S → x < w.heap.size := Own.lt d u S h.1
theorem Has.keep {w w' : World} {d : Dat} {u : Value} {S S0 : List Nat} (h : Has w d u S) (hc : Chg S0 w w') (hS : ∀ x, x ∈ S → x ∉ S0) : Has w' d u S := ⟨Own.keep hc d u S hS h.1, h.2⟩
theorem Has.keep0 {w w' : World} {d : Dat} {u : Value} {S : List Nat} (h : Has w d u S) (hc : Chg [] w w') : Has w' d u S := h.keep hc (by simp)

mutual
theorem Own.rd {w : World} : ∀ (d : Dat) (u : Value) (S : List Nat), Own w d u S → Rd w w.heap.size d u
  | .v x, u, S, h => by rw [Own] at h; rw [Rd]; exact h.1
  | .s n cs, u, S, h => by
    rw [Own] at h
    rw [Rd]
    rcases h with ⟨rfl, rfl, rfl, rfl⟩ | ⟨g, cap, cur, e, us, S', rfl, h2, h3, hg, h4, h5, hl, rfl⟩
    · exact ⟨none, 0, rfl, Nat.le_refl _, by simp [maxLen], .inl rfl⟩
    · refine ⟨_, cap, rfl, h2, h3, .inr ⟨g, 0, rfl, (Array.getElem?_eq_some_iff.1 hg).1, OwnL.rd cs us S' g 0 hl (fun j u hu => ?_)⟩⟩
      rw [cell_of_row w g (0 + j) cur e (0, 0) hg, Nat.zero_add]
      rw [← h4, List.getElem?_take] at hu
      split at hu
      · simpa using hu
      · cases hu
theorem OwnL.rd {w : World} : ∀ (ds : List Dat) (us : List Value) (S : List Nat) (b off : Nat), OwnL w ds us S → (∀ j u, us[j]? = some u → w.cell? ⟨b, off + j, none⟩ = some u) → RdL w w.heap.size ds b off
  | [], us, S, b, off, h, _ => by rw [RdL]; trivial
  | d :: ds, us, S, b, off, h, hc => by
    rw [OwnL] at h
    obtain ⟨u, us1, S1, S2, rfl, rfl, h1, h2⟩ := h
    rw [RdL]
    refine ⟨⟨u, hc 0 u rfl, Own.rd d u S1 h1⟩, OwnL.rd ds us1 S2 b (off + 1) h2 (fun j x hx => ?_)⟩
    have := hc (j + 1) x (by simpa using hx)
    rwa [Nat.add_assoc, Nat.add_comm 1 j]
end
theorem Has.rd {w : World} {d : Dat} {u : Value} {S : List Nat} (h : Has w d u S) : Rd w w.heap.size d u := Own.rd d u S h.1

/-- A slice that is owned: its value; each cell; a store; a cell's own blocks and the way back. -/
theorem Has.cases_ {w : World} {n : Nat} {cs : List Dat} {u : Value} {S : List Nat} (h : Has w (.s n cs) u S) :
    (u = .slice none 0 0 ∧ n = 0 ∧ cs = [] ∧ S = []) ∨ ∃ g cap S', u = .slice (some ⟨g, 0, none⟩) n cap ∧ n ≤ cap ∧ cap ≤ maxLen ∧ S = g :: S' ∧ g < w.heap.size ∧ g ∉ S' := by
  obtain ⟨h, hn⟩ := h
  rw [Own] at h
  rcases h with h | ⟨g, cap, cur, e, us, S', rfl, h2, h3, hg, _, _, _, rfl⟩
  · exact .inl h
  · exact .inr ⟨g, cap, S', rfl, h2, h3, rfl, (Array.getElem?_eq_some_iff.1 hg).1, (List.nodup_cons.1 hn).1⟩

theorem take_set_of {α : Type} (l : List α) (n j : Nat) (y : α) (hj : j < n) : (l.set j y).take n = (l.take n).set j y := by
  apply List.ext_getElem?
  intro i
  simp only [List.getElem?_take, List.getElem?_set, List.length_take]
  by_cases hi : i < n
  · by_cases hij : j = i
    · subst hij; simp [hi]
      by_cases hl : j < l.length
      · rw [if_pos hl, if_pos (by omega)]
      · rw [if_neg hl, if_neg (by omega)]
    · simp [hi, hij]
  · simp [hi]; intro hij; omega

/-- Any one cell of an owned slice is set: to another plain value, or (where it was a slice) to what has been made of it. -/
theorem Has.at_ {w : World} {n g cap : Nat} {cs : List Dat} {S : List Nat} {j : Nat} {d : Dat} (h : Has w (.s n cs) (.slice (some ⟨g, 0, none⟩) n cap) S) (hj : cs[j]? = some d) :
    ∃ u Sj, w.cell? ⟨g, j, none⟩ = some u ∧ w.frozen? ⟨g, j, none⟩ = false ∧ Has w d u Sj ∧ (∀ x, x ∈ Sj → x ∈ S) ∧ g ∈ S ∧ g ∉ Sj ∧
      (∀ (w' : World) (d' : Dat), Chg Sj w w' → Has w' d' u Sj → Has w' (.s n (cs.set j d')) (.slice (some ⟨g, 0, none⟩) n cap) S) := by
  obtain ⟨h, hn⟩ := h
  rw [Own] at h
  rcases h with ⟨h0, _⟩ | ⟨g', cap', cur, e, us, S', h1, h2, h3, hg, h4, h5, hl, rfl⟩
  · simp at h0
  · simp only [Value.slice.injEq, Option.some.injEq, Addr.mk.injEq] at h1
    obtain ⟨⟨rfl, _⟩, _, rfl⟩ := h1
    obtain ⟨u, Sa, Sj, Sb, e1, rfl, ho, hback⟩ := hl.split hj
    obtain ⟨hng, hnS⟩ := List.nodup_cons.1 hn
    have hcu : w.cell? ⟨g, j, none⟩ = some u := by
      rw [cell_of_row w g j cur e (0, 0) hg]
      rw [← h4, List.getElem?_take] at e1
      split at e1
      · simpa using e1
      · cases e1
    have hnd : Sj.Nodup := (List.nodup_append.1 (List.nodup_append.1 hnS).2.1).1
    have hdis : ∀ x, x ∈ Sa ++ Sb → x ∉ Sj := by
      intro x hx hxj
      rcases List.mem_append.1 hx with hx | hx
      · exact (List.nodup_append.1 hnS).2.2 x hx x (by simp [hxj]) rfl
      · exact (List.nodup_append.1 (List.nodup_append.1 hnS).2.1).2.2 x hxj x hx rfl
    have hgj : g ∉ Sj := fun hx => hng (by simp [hx])
    refine ⟨u, Sj, hcu, by simp [World.frozen?, hg], ⟨ho, hnd⟩, fun x hx => by simp [hx], by simp, hgj, fun w' d' hc hO => ⟨?_, hn⟩⟩
    rw [Own]
    have hb := hback w' d' u Sj Sj hc hdis hO.1
    have hu : us.set j u = us := by
      apply List.ext_getElem?
      intro i
      rw [List.getElem?_set]
      split
      · rename_i hij; subst hij
        split
        · exact e1.symm
        · rename_i hge; rw [List.getElem?_eq_none (by omega)] at e1; cases e1
      · rfl
    rw [hu] at hb
    exact .inr ⟨g, cap, cur, e, us, Sa ++ (Sj ++ Sb), rfl, h2, h3, (hc.block g (Array.getElem?_eq_some_iff.1 hg).1 hgj).trans hg, by simpa using h4, by simpa using h5, hb, rfl⟩

theorem Has.set_ {w : World} {n g cap : Nat} {cs : List Dat} {S : List Nat} {j : Nat} {x : Value} (h : Has w (.s n cs) (.slice (some ⟨g, 0, none⟩) n cap) S) (hj : cs[j]? = some (.v x)) (y : Value) :
    w.cell? ⟨g, j, none⟩ = some x ∧ w.frozen? ⟨g, j, none⟩ = false ∧ g ∈ S ∧ Has (w.setCell ⟨g, j, none⟩ y) (.s n (cs.set j (.v y))) (.slice (some ⟨g, 0, none⟩) n cap) S := by
  obtain ⟨h, hn⟩ := h
  rw [Own] at h
  rcases h with ⟨h0, _⟩ | ⟨g', cap', cur, e, us, S', h1, h2, h3, hg, h4, h5, hl, rfl⟩
  · simp at h0
  · simp only [Value.slice.injEq, Option.some.injEq, Addr.mk.injEq] at h1
    obtain ⟨⟨rfl, _⟩, _, rfl⟩ := h1
    obtain ⟨u, Sa, Sj, Sb, e1, rfl, ho, hback⟩ := hl.split hj
    obtain ⟨hng, hnS⟩ := List.nodup_cons.1 hn
    rw [Own] at ho
    obtain ⟨rfl, rfl⟩ := ho
    have hjl : j < cs.length := by
      rcases Nat.lt_or_ge j cs.length with h | h
      · exact h
      · rw [List.getElem?_eq_none h] at hj; cases hj
    have hcu : w.cell? ⟨g, j, none⟩ = some u := by
      rw [cell_of_row w g j cur e (0, 0) hg]
      rw [← h4, List.getElem?_take, if_pos hjl] at e1
      simpa using e1
    have hfr : w.frozen? ⟨g, j, none⟩ = false := by simp [World.frozen?, hg]
    have hchg : Chg [g] w (w.setCell ⟨g, j, none⟩ y) := (Chg.refl _ _).setCell (.inl (by simp)) y
    refine ⟨hcu, hfr, by simp, ?_, hn⟩
    show Own _ _ _ _
    rw [Own]
    have hb := hback (w.setCell ⟨g, j, none⟩ y) (.v y) y [] [g] hchg (fun x hx hxg => by simp at hxg; subst hxg; exact hng (by simpa using hx)) (by rw [Own]; exact ⟨rfl, rfl⟩)
    refine .inr ⟨g, cap, cur.setIfInBounds j y, e, us.set j y, Sa ++ ([] ++ Sb), rfl, h2, h3, by simp [World.setCell, Array.getElem?_modify, hg], ?_, by simpa using h5, hb, rfl⟩
    rw [List.length_set, ← h4, Array.toList_setIfInBounds, take_set_of _ _ _ _ hjl]


/-- A cell of an owned slice can be written. -/
theorem Has.room {w : World} {n g cap : Nat} {cs : List Dat} {S : List Nat} (h : Has w (.s n cs) (.slice (some ⟨g, 0, none⟩) n cap) S) {j : Nat} (hj : j < cs.length) :
    w.frozen? ⟨g, j, none⟩ = false ∧ ∃ x, w.cell? ⟨g, j, none⟩ = some x := by
  obtain ⟨u, Sj, h1, h2, _⟩ := h.at_ (List.getElem?_eq_getElem hj)
  exact ⟨h2, u, h1⟩

def HasL (w : World) (ds : List Dat) (us : List Value) (S : List Nat) : Prop := OwnL w ds us S ∧ S.Nodup

theorem HasL.keep {w w' : World} {ds : List Dat} {us : List Value} {S S0 : List Nat} (h : HasL w ds us S) (hc : Chg S0 w w') (hS : ∀ x, x ∈ S → x ∉ S0) : HasL w' ds us S := ⟨OwnL.keep hc ds us S hS h.1, h.2⟩
theorem HasL.lt {w : World} {ds : List Dat} {us : List Value} {S : List Nat} (h : HasL w ds us S) : ∀ x, x ∈ S → x < w.heap.size := OwnL.lt ds us S h.1
theorem HasL.nil (w : World) : HasL w [] [] [] := ⟨by rw [OwnL]; exact ⟨rfl, rfl⟩, List.nodup_nil⟩
theorem HasL.cons {w : World} {d : Dat} {ds : List Dat} {u : Value} {us : List Value} {S T : List Nat} (h : Has w d u S) (h' : HasL w ds us T) (hd : ∀ x, x ∈ S → x ∉ T) : HasL w (d :: ds) (u :: us) (S ++ T) :=
  ⟨by rw [OwnL]; exact ⟨u, us, S, T, rfl, rfl, h.1, h'.1⟩, List.nodup_append.2 ⟨h.2, h'.2, fun a ha b hb e => by subst e; exact hd a ha hb⟩⟩
theorem HasL.cons_v {w : World} {x : Value} {ds : List Dat} {us : List Value} {T : List Nat} (h' : HasL w ds us T) : HasL w (.v x :: ds) (x :: us) T :=
  HasL.cons (S := []) ⟨by rw [Own]; exact ⟨rfl, rfl⟩, List.nodup_nil⟩ h' (by simp)
theorem HasL.cons_nil {w : World} {ds : List Dat} {us : List Value} {T : List Nat} (h' : HasL w ds us T) : HasL w (.s 0 [] :: ds) (.slice none 0 0 :: us) T :=
  HasL.cons (S := []) ⟨by rw [Own]; exact .inl ⟨rfl, rfl, rfl, rfl⟩, List.nodup_nil⟩ h' (by simp)
theorem flatMap_length_of {α : Type} {F : α → List Dat} {c : Nat} (hF : ∀ a, (F a).length = c) : ∀ l : List α, (l.flatMap F).length = l.length * c
  | [] => by simp
  | a :: l => by rw [List.flatMap_cons, List.length_append, flatMap_length_of hF l, hF a, List.length_cons, Nat.succ_mul, Nat.add_comm]
/-- One element's cells among all. -/
theorem flatMap_at {α : Type} {F : α → List Dat} {c : Nat} (hF : ∀ a, (F a).length = c) : ∀ (l : List α) (i j : Nat) (hi : i < l.length), j < c → (l.flatMap F)[i * c + j]? = (F l[i])[j]?
  | a :: l, 0, j, _, hj => by rw [List.flatMap_cons, Nat.zero_mul, Nat.zero_add, List.getElem?_append_left (by rw [hF]; exact hj)]; rfl
  | a :: l, i + 1, j, hi, hj => by
    rw [List.flatMap_cons, List.getElem?_append_right (by rw [hF, Nat.succ_mul]; omega), hF, show (i + 1) * c + j - c = i * c + j from by rw [Nat.succ_mul]; omega]
    exact flatMap_at hF l i j (by simpa using hi) hj


/-- A slice of elements that are typed data: each element's cells, and what they read as. -/
def RowAt {α : Type} (w : World) (B : Nat) (F : α → List Dat) (c : Nat) (l : List α) (A : Option Addr) : Prop :=
  ∀ (k : Nat) (h : k < l.length), ∃ b off, A = some ⟨b, off, none⟩ ∧ b < B ∧ ∀ j d, (F l[k])[j]? = some d → ∃ u, w.cell? ⟨b, off + k * c + j, none⟩ = some u ∧ Rd w B d u

theorem Rd.row {α : Type} {w : World} {B c : Nat} {F : α → List Dat} (hF : ∀ a, (F a).length = c) (hc : 0 < c) {l : List α} {u : Value} (h : Rd w B (.s l.length (l.flatMap F)) u) :
    ∃ A cap, u = .slice A l.length cap ∧ l.length ≤ cap ∧ cap ≤ maxLen ∧ RowAt w B F c l A := by
  obtain ⟨A, cap, rfl, h0, h1, h2⟩ := h.at_
  refine ⟨A, cap, rfl, h0, h1, fun k hk => ?_⟩
  have hlen := flatMap_length_of hF l
  have hpos : 0 < l.length * c := Nat.mul_pos (by omega) hc
  obtain ⟨b, off, rfl, hb, hx⟩ := h2 (fun e => by rw [e] at hlen; simp at hlen; omega)
  refine ⟨b, off, rfl, hb, fun j d hj => ?_⟩
  have hjc : j < c := by
    rcases Nat.lt_or_ge j c with h | h
    · exact h
    · rw [List.getElem?_eq_none (by rw [hF]; exact h)] at hj; cases hj
  rw [Nat.add_assoc]
  exact hx (k * c + j) d (by rw [flatMap_at hF l k j hk hjc]; exact hj)

theorem RowAt.below {α : Type} {w w' : World} {B c : Nat} {F : α → List Dat} {l : List α} {A : Option Addr} (h : RowAt w B F c l A) (hb : Below B w w') : RowAt w' B F c l A := by
  intro k hk
  obtain ⟨b, off, e, h1, h2⟩ := h k hk
  refine ⟨b, off, e, h1, fun j d hj => ?_⟩
  obtain ⟨u, hu, hd⟩ := h2 j d hj
  exact ⟨u, (hb.cell (p := ⟨b, _, none⟩) h1).trans hu, hd.below hb⟩
theorem RowAt.chg {α : Type} {w w' : World} {B c : Nat} {F : α → List Dat} {l : List α} {A : Option Addr} {S : List Nat} (h : RowAt w B F c l A) (hc : Chg S w w') (hB : B ≤ w.heap.size) (hS : ∀ x, x ∈ S → B ≤ x) : RowAt w' B F c l A :=
  h.below (hc.below hS hB)
theorem RowAt.chg0 {α : Type} {w w' : World} {B c : Nat} {F : α → List Dat} {l : List α} {A : Option Addr} (h : RowAt w B F c l A) (hc : Chg [] w w') (hB : B ≤ w.heap.size) : RowAt w' B F c l A := h.chg hc hB (by simp)


/-- A datum in new memory: since the world w nothing that was there has turned, and the value u owns the datum through blocks that were not there. -/
def New (w w' : World) (d : Dat) (u : Value) : Prop := ∃ S, Has w' d u S ∧ (∀ x, x ∈ S → w.heap.size ≤ x) ∧ Chg [] w w'
/-- The call gives a new datum. -/
def Gives (d : Dat) (w : World) (e : Ending) (w' : World) : Prop := ∃ u, e = .returned u ∧ New w w' d u
/-- .. a struct of new cells. -/
def NewL (w w' : World) (ds : List Dat) (us : List Value) : Prop := ∃ S, HasL w' ds us S ∧ (∀ x, x ∈ S → w.heap.size ≤ x) ∧ Chg [] w w'

theorem New.chg {w w' : World} {d : Dat} {u : Value} (h : New w w' d u) : Chg [] w w' := h.elim fun _ x => x.2.2
theorem New.rd {w w' : World} {d : Dat} {u : Value} (h : New w w' d u) : Rd w' w'.heap.size d u := h.elim fun _ x => x.1.rd
theorem New.later {w w' w2 : World} {d : Dat} {u : Value} (h : New w w' d u) (hc : Chg [] w' w2) : New w w2 d u :=
  h.elim fun S x => ⟨S, x.1.keep0 hc, x.2.1, x.2.2.trans0 hc⟩
theorem New.sooner {w0 w w' : World} {d : Dat} {u : Value} (h : New w w' d u) (hc : Chg [] w0 w) : New w0 w' d u :=
  h.elim fun S x => ⟨S, x.1, fun y hy => Nat.le_trans hc.size (x.2.1 y hy), hc.trans0 x.2.2⟩
/-- Old cells and old marks read as before. -/
theorem Chg.cells {a b : World} (h : Chg [] a b) : (∀ x o, x < a.heap.size → b.cell? ⟨x, o, none⟩ = a.cell? ⟨x, o, none⟩) ∧ (∀ x o, x < a.heap.size → b.frozen? ⟨x, o, none⟩ = a.frozen? ⟨x, o, none⟩) ∧ a.heap.size ≤ b.heap.size :=
  ⟨fun x o hx => h.cell (p := ⟨x, o, none⟩) hx (by simp), fun x o hx => h.frozen (p := ⟨x, o, none⟩) hx (by simp), h.size⟩


/-- A slice given: what its value looks like. -/
theorem Gives.sl {n : Nat} {cs : List Dat} {w w' : World} {e : Ending} (h : Gives (.s n cs) w e w') : ∃ A cap, e = .returned (.slice A n cap) ∧ New w w' (.s n cs) (.slice A n cap) := by
  obtain ⟨u, rfl, S, h1, h2, h3⟩ := h
  rcases h1.cases_ with ⟨rfl, rfl, _⟩ | ⟨g, cap, S', rfl, _⟩
  · exact ⟨none, 0, rfl, S, h1, h2, h3⟩
  · exact ⟨_, cap, rfl, S, h1, h2, h3⟩


/-- .. while some boxes of the call's own (T) are written. -/
def NewT (T : List Nat) (w w' : World) (ds : List Dat) (us : List Value) : Prop := ∃ S, HasL w' ds us S ∧ (∀ x, x ∈ S → w.heap.size ≤ x) ∧ Chg T w w'
theorem NewT.nil {T : List Nat} {w w' : World} (h : Chg T w w') : NewT T w w' [] [] := ⟨[], HasL.nil _, by simp, h⟩
theorem NewT.cons_v {T : List Nat} {w w' : World} {x : Value} {ds : List Dat} {us : List Value} (h : NewT T w w' ds us) : NewT T w w' (.v x :: ds) (x :: us) := h.elim fun S k => ⟨S, HasL.cons_v k.1, k.2⟩
theorem NewT.done {T : List Nat} {w w0 w' : World} {ds : List Dat} {us : List Value} (h : NewT T w0 w' ds us) (hT : ∀ x, x ∈ T → w.heap.size ≤ x) (h0 : Chg [] w w0) : NewL w w' ds us := by
  obtain ⟨S, h1, h2, h3⟩ := h
  exact ⟨S, h1, fun x hx => Nat.le_trans h0.size (h2 x hx), h0.trans h3 (fun x hx => .inr (hT x hx))⟩


theorem set_mid {X row Y : List Dat} {c j : Nat} {d : Dat} (hX : X.length = c) (hj : j < row.length) : (X ++ (row ++ Y)).set (c + j) d = X ++ (row.set j d ++ Y) := by
  subst hX
  rw [List.set_append_right _ _ (by omega), List.set_append_left _ _ (by omega)]
  simp
theorem get_mid {X row Y : List Dat} {c j : Nat} (hX : X.length = c) (hj : j < row.length) : (X ++ (row ++ Y))[c + j]? = row[j]? := by
  subst hX
  rw [List.getElem?_append_right (by omega), List.getElem?_append_left (by omega)]
  simp

/-- A store into the element at hand. -/
theorem Has.setAt {w : World} {n g cap c j : Nat} {X row Y : List Dat} {S : List Nat} {x : Value} (h : Has w (.s n (X ++ (row ++ Y))) (.slice (some ⟨g, 0, none⟩) n cap) S) (hX : X.length = c) (hj : row[j]? = some (.v x)) (y : Value) :
    Has (w.setCell ⟨g, c + j, none⟩ y) (.s n (X ++ (row.set j (.v y) ++ Y))) (.slice (some ⟨g, 0, none⟩) n cap) S := by
  have hjl : j < row.length := by
    rcases Nat.lt_or_ge j row.length with h | h
    · exact h
    · rw [List.getElem?_eq_none h] at hj; cases hj
  have := (h.set_ (j := c + j) (by rw [get_mid hX hjl]; exact hj) y).2.2.2
  rwa [set_mid hX hjl] at this
theorem Has.set0 {w : World} {n g cap c : Nat} {X row Y : List Dat} {S : List Nat} {x : Value} (h : Has w (.s n (X ++ (row ++ Y))) (.slice (some ⟨g, 0, none⟩) n cap) S) (hX : X.length = c) (hj : row[0]? = some (.v x)) (y : Value) :
    Has (w.setCell ⟨g, c, none⟩ y) (.s n (X ++ (row.set 0 (.v y) ++ Y))) (.slice (some ⟨g, 0, none⟩) n cap) S := h.setAt hX hj y
theorem Has.roomAt {w : World} {n g cap c : Nat} {X row Y : List Dat} {S : List Nat} (h : Has w (.s n (X ++ (row ++ Y))) (.slice (some ⟨g, 0, none⟩) n cap) S) (hX : X.length = c) (j : Nat) (hj : j < row.length) :
    w.frozen? ⟨g, c + j, none⟩ = false ∧ ∃ x, w.cell? ⟨g, c + j, none⟩ = some x := h.room (by simp; omega)
/-- A slice within the element at hand: its value, its own blocks, and how it is put back. -/
theorem Has.subAt {w : World} {n g cap c j : Nat} {X row Y : List Dat} {S : List Nat} {d : Dat} (h : Has w (.s n (X ++ (row ++ Y))) (.slice (some ⟨g, 0, none⟩) n cap) S) (hX : X.length = c) (hj : row[j]? = some d) :
    ∃ u Sj, w.cell? ⟨g, c + j, none⟩ = some u ∧ Has w d u Sj ∧ (∀ x, x ∈ Sj → x ∈ S) ∧
      (∀ (w' : World) (d' : Dat), Chg Sj w w' → Has w' d' u Sj → Has w' (.s n (X ++ (row.set j d' ++ Y))) (.slice (some ⟨g, 0, none⟩) n cap) S) := by
  have hjl : j < row.length := by
    rcases Nat.lt_or_ge j row.length with h | h
    · exact h
    · rw [List.getElem?_eq_none h] at hj; cases hj
  obtain ⟨u, Sj, h1, _, h3, h4, _, _, h7⟩ := h.at_ (j := c + j) (by rw [get_mid hX hjl]; exact hj)
  refine ⟨u, Sj, h1, h3, h4, fun w' d' hc hh => ?_⟩
  have := h7 w' d' hc hh
  rwa [set_mid hX hjl] at this


theorem NewL.nil {w w' : World} (h : Chg [] w w') : NewL w w' [] [] := ⟨[], HasL.nil _, by simp, h⟩
theorem NewL.cons_v {w w' : World} {x : Value} {ds : List Dat} {us : List Value} (h : NewL w w' ds us) : NewL w w' (.v x :: ds) (x :: us) := h.elim fun S k => ⟨S, HasL.cons_v k.1, k.2⟩
theorem NewT.start {T : List Nat} {w w' : World} {ds : List Dat} {us : List Value} (h : NewT T w w' ds us) (hT : ∀ x, x ∈ T → w.heap.size ≤ x) : NewL w w' ds us := h.done hT (Chg.refl _ _)
theorem Has.room0 {w : World} {n g cap c : Nat} {X row Y : List Dat} {S : List Nat} (h : Has w (.s n (X ++ (row ++ Y))) (.slice (some ⟨g, 0, none⟩) n cap) S) (hX : X.length = c) (hj : 0 < row.length) :
    w.frozen? ⟨g, c, none⟩ = false ∧ ∃ x, w.cell? ⟨g, c, none⟩ = some x := h.roomAt hX 0 hj
/-- .. whose value is known. -/
theorem Has.subOf {w : World} {n g cap c j : Nat} {X row Y : List Dat} {S : List Nat} {d : Dat} {u : Value} (h : Has w (.s n (X ++ (row ++ Y))) (.slice (some ⟨g, 0, none⟩) n cap) S) (hX : X.length = c) (hj : row[j]? = some d) (hu : w.cell? ⟨g, c + j, none⟩ = some u) :
    ∃ Sj, Has w d u Sj ∧ (∀ x, x ∈ Sj → x ∈ S) ∧
      (∀ (w' : World) (d' : Dat), Chg Sj w w' → Has w' d' u Sj → Has w' (.s n (X ++ (row.set j d' ++ Y))) (.slice (some ⟨g, 0, none⟩) n cap) S) := by
  obtain ⟨u', Sj, h1, h2, h3, h4⟩ := h.subAt hX hj
  rw [hu] at h1
  cases h1
  exact ⟨Sj, h2, h3, h4⟩
end Go.Proofs.YtldpibnfhomfgaaGreatDoor
namespace Go.Proofs.YtldpibnfhomfgaaGreatDoor
open Go.RowKit

def intC (x : Int) : List Dat := [.v (.int .i64 x)]
def ints (l : List Int) : Dat := .s l.length (l.flatMap intC)
theorem intC_len (x : Int) : (intC x).length = 1 := rfl
theorem ints_row {w : World} {B : Nat} {l : List Int} {u : Value} (h : Rd w B (ints l) u) : ∃ A cap, u = .slice A l.length cap ∧ l.length ≤ cap ∧ cap ≤ maxLen ∧ RowAt w B intC 1 l A := h.row intC_len (by omega)


theorem ret_int {k : IntKind} {a b : Int} (h : a = b) : Ending.returned (.int k a) = .returned (.int k b) := by rw [h]


end Go.Proofs.YtldpibnfhomfgaaGreatDoor
namespace Go.Proofs.YtldpibnfhomfgaaGreatDoor
open Go.ChangeShapes Go.WideShapes Go.RowKit Go.Deep

end Go.Proofs.YtldpibnfhomfgaaGreatDoor
namespace Go.Proofs.YtldpibnfhomfgaaGreatDoor
open Go.RowKit

/-- The digits in front of a text. -/
def mtL : Nat → Int → ByteArray → ByteArray
  | 0, _, s => s
  | f + 1, n, s => if 0 < n then mtL f (n / 10) (strOfNums [48 + n % 10] ++ s) else s
/-- The text of a number. -/
def mt (k : Int) : ByteArray := if k ≤ 0 then ⟨#[109, 48]⟩ else ⟨#[109]⟩ ++ mtL k.toNat k ⟨#[]⟩

theorem ret_str {a b : ByteArray} (h : a = b) : Ending.returned (.string a) = .returned (.string b) := by rw [h]

set_option maxRecDepth 100000 in
set_option maxHeartbeats 400000 in
theorem markText_any (k : Int) (w : World) (h : k ≤ 100000000) :
    Calls Tryz.prog 16 #[.int .i64 k] w fun e w' => e = .returned (.string (mt k)) ∧ Chg [] w w' := by
  by_cases h0 : k ≤ 0
  · go_enter Tryz.func16, Tryz.ntmps16
    go_wp2_with fail
    go_ret
    exact ⟨ret_str (by rw [mt, if_pos h0]), Chg.refl _ _⟩
  · have hm0 : Hid (mt k = ⟨#[109]⟩ ++ mtL k.toNat k ⟨#[]⟩) := by show mt k = _; rw [mt, if_neg h0]
    go_enter Tryz.func16, Tryz.ntmps16
    go_wp2_with fail
    go_loopw [0, 3] (fun n s wr => ∃ (m : Int) (t : ByteArray) (f : Nat), n = .int .i64 m ∧ s = .string t ∧ 0 ≤ m ∧ m ≤ 100000000 ∧ Chg [] w wr ∧ m + t.size ≤ 100000000 ∧ m ≤ f ∧ Hid (mt k = ⟨#[109]⟩ ++ mtL f m t)) (fun n _ _ => (intOf n).toNat)
    case atStart => exact ⟨k, _, k.toNat, rfl, rfl, by omega, by omega, Chg.refl _ _, by show k + ((0 : Nat) : Int) ≤ _; omega, by omega, hm0⟩
    case round =>
      obtain ⟨m, t, f, rfl, rfl, m0, m1, hc, ht, hf, hq⟩ := hrel
      by_cases hm : 0 < m
      · have hce : ∀ i, i < 1 → (wr.alloc (.cells #[.int .u8 (48 + m % 10)] 5)).cell? ⟨wr.heap.size, 0 + i, none⟩ = some (.int .u8 ([48 + m % 10].getD i 0)) := by
          intro i hi
          obtain rfl : i = 0 := by omega
          rw [Nat.zero_add, World.cell?_alloc_mark]
          rfl
        have hcv := run_convert_bytes_arg (P := Tryz.prog) (wr.alloc (.cells #[.int .u8 (48 + m % 10)] 5)) 53 5 Tryz.underlying53 Tryz.underlying5 wr.heap.size 0 1 1 [48 + m % 10] rfl hce 9 Tryz.underlying9
        clear hce
        have hsz : (strOfNums [48 + m % 10]).size = 1 := strOfNums_size _
        obtain ⟨d, hd⟩ : ∃ d, d = strOfNums [48 + m % 10] := ⟨_, rfl⟩
        rw [← hd] at hcv hsz
        have HD := Lib.hid hd
        have hsz1 : d.size ≤ 1 := by omega
        have HS := Lib.hid hsz
        clear hd hsz
        go_wp2_with fail
        go_roundw
        case rel =>
          refine ⟨m / 10, d ++ t, f - 1, rfl, rfl, by omega, by omega, hc.alloc _, ?_, by omega, ?_⟩
          · rw [ByteArray.size_append, HS.out]; omega
          · obtain ⟨f', rfl⟩ : ∃ f', f = f' + 1 := ⟨f - 1, by omega⟩
            show mt k = _
            rw [hq.out, mtL, if_pos hm, ← HD.out]
            rfl
        case measure => simp [intOf]; omega
      · go_wp2_with fail
        go_ret
        refine ⟨ret_str ?_, hc⟩
        rw [hq.out]
        cases f with
        | zero => rfl
        | succ f => rw [mtL, if_neg (by omega)]

end Go.Proofs.YtldpibnfhomfgaaGreatDoor
namespace Go.Proofs.YtldpibnfhomfgaaGreatDoor
open Go.RowKit

theorem sum_mem {α : Type} {l : List α} {a : α} (f : α → Nat) (h : a ∈ l) : f a ≤ (l.map f).sum := by
  induction l with
  | nil => cases h
  | cons b l ih =>
    rw [List.map_cons, List.sum_cons]
    rcases List.mem_cons.1 h with rfl | h
    · omega
    · have := ih h; omega
theorem sum_append {α : Type} (f : α → Nat) (l m : List α) : ((l ++ m).map f).sum = (l.map f).sum + (m.map f).sum := by simp
theorem sum_take {α : Type} (f : α → Nat) (l : List α) (k : Nat) (h : k < l.length) : ((l.take (k + 1)).map f).sum = ((l.take k).map f).sum + f l[k] := by
  rw [List.take_succ_eq_append_getElem h, sum_append]; simp
theorem sum_le {α : Type} (f : α → Nat) (l : List α) (k : Nat) : ((l.take k).map f).sum ≤ (l.map f).sum := by
  have := sum_append f (l.take k) (l.drop k)
  rw [List.take_append_drop] at this
  omega
/-- Elements marked one behind the other, from a number on. -/
def mapK {α : Type} (M : α → Int → α) (N : α → Nat) : List α → Int → List α
  | [], _ => []
  | a :: l, k => M a k :: mapK M N l (k + N a)
section
variable {α : Type} {M : α → Int → α} {N : α → Nat}
theorem mapK_length : ∀ (l : List α) (k : Int), (mapK M N l k).length = l.length
  | [], _ => rfl
  | a :: l, k => by rw [mapK, List.length_cons, mapK_length l, List.length_cons]
theorem mapK_append : ∀ (l m : List α) (k : Int), mapK M N (l ++ m) k = mapK M N l k ++ mapK M N m (k + (l.map N).sum)
  | [], m, k => by simp [mapK]
  | a :: l, m, k => by rw [List.cons_append, mapK, mapK_append l m, mapK, List.cons_append, List.map_cons, List.sum_cons]; simp [Int.add_assoc]
theorem mapK_at (l : List α) (k : Int) (i : Nat) (h : i < l.length) : mapK M N l k = mapK M N (l.take i) k ++ (M l[i] (k + ((l.take i).map N).sum) :: mapK M N (l.drop (i + 1)) (k + ((l.take (i + 1)).map N).sum)) := by
  have e : l = l.take i ++ l[i] :: l.drop (i + 1) := by rw [← List.drop_eq_getElem_cons h, List.take_append_drop]
  have e2 : ((l.take (i + 1)).map N).sum = ((l.take i).map N).sum + N l[i] := sum_take N l i h
  rw [e2]
  conv => lhs; rw [e]
  rw [mapK_append, mapK]
  simp [Int.add_assoc]
theorem mapK_get (l : List α) (k : Int) (i : Nat) (h : i < l.length) (h' : i < (mapK M N l k).length) : (mapK M N l k)[i] = M l[i] (k + ((l.take i).map N).sum) := by
  have e := mapK_at (M := M) (N := N) l k i h
  have hl : (mapK M N (l.take i) k).length = i := by rw [mapK_length, List.length_take, Nat.min_eq_left (by omega)]
  have : (mapK M N l k)[i]? = some (M l[i] (k + ((l.take i).map N).sum)) := by
    rw [e, List.getElem?_append_right (by omega), hl]; simp
  rw [List.getElem?_eq_getElem h'] at this
  exact Option.some.inj this
variable {F : α → List Dat}
theorem marking_at (l : List α) (k : Int) (i : Nat) (h : i < l.length) : (mapK M N (l.take i) k ++ l.drop i).flatMap F = (mapK M N (l.take i) k).flatMap F ++ (F l[i] ++ (l.drop (i + 1)).flatMap F) := by
  rw [List.drop_eq_getElem_cons h, List.flatMap_append, List.flatMap_cons]
theorem marking_next (l : List α) (k : Int) (i : Nat) (h : i < l.length) : (mapK M N (l.take (i + 1)) k ++ l.drop (i + 1)).flatMap F = (mapK M N (l.take i) k).flatMap F ++ (F (M l[i] (k + ((l.take i).map N).sum)) ++ (l.drop (i + 1)).flatMap F) := by
  rw [List.take_succ_eq_append_getElem h, mapK_append, List.flatMap_append, List.flatMap_append]; simp [mapK]
theorem marking_X {c : Nat} (hF : ∀ a, (F a).length = c) (l : List α) (k : Int) (i : Nat) (h : i < l.length) : ((mapK M N (l.take i) k).flatMap F).length = i * c := by
  rw [flatMap_length_of hF, mapK_length, List.length_take, Nat.min_eq_left (by omega)]
end
/-- The slice that is marked is one of its own. -/
theorem Has.own {w : World} {n : Nat} {cs : List Dat} {A : Option Addr} {cap : Nat} {S : List Nat} (h : Has w (.s n cs) (.slice A n cap) S) (hn : 0 < n) : ∃ g, A = some ⟨g, 0, none⟩ ∧ g ∈ S := by
  rcases h.cases_ with ⟨_, h2, _⟩ | ⟨g, cap', S', hu, _, _, rfl, _⟩
  · omega
  · simp only [Value.slice.injEq] at hu
    exact ⟨g, hu.1, by simp⟩

end Go.Proofs.YtldpibnfhomfgaaGreatDoor
namespace Go.Proofs.YtldpibnfhomfgaaGreatDoor
open Go.RowKit

def strC (s : ByteArray) : List Dat := [.v (.string s)]
def strs (l : List ByteArray) : Dat := .s l.length (l.flatMap strC)
theorem strC_len (s : ByteArray) : (strC s).length = 1 := rfl
theorem strs_row {w : World} {B : Nat} {l : List ByteArray} {u : Value} (h : Rd w B (strs l) u) : ∃ A cap, u = .slice A l.length cap ∧ l.length ≤ cap ∧ cap ≤ maxLen ∧ RowAt w B strC 1 l A := h.row strC_len (by omega)
theorem strs_cells {w : World} {B : Nat} {l : List ByteArray} {A : Option Addr} (h : RowAt w B strC 1 l A) (k : Nat) (hk : k < l.length) : ∃ b off, A = some ⟨b, off, none⟩ ∧ b < B ∧ w.cell? ⟨b, off + k, none⟩ = some (.string l[k]) := by
  obtain ⟨b, off, rfl, hb, hx⟩ := h k hk
  obtain ⟨u, hu, hd⟩ := hx 0 _ rfl
  rw [Rd] at hd
  subst hd
  exact ⟨b, off, rfl, hb, by simpa using hu⟩
def strsW1 (l : List ByteArray) : Nat := (l.map ByteArray.size).sum
theorem string_info : (Tryz.prog.info? 9).map (fun i => (i.zero, i.size, i.bytes)) = some (some (.string ⟨#[]⟩), 1, 16) := by kernel_rfl


end Go.Proofs.YtldpibnfhomfgaaGreatDoor
