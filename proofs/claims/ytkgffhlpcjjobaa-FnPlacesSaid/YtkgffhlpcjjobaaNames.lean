/- SameCore, SamePart, SameSlots, of the reference and of the program: they tell whether the data are the same. Written by a program. / Names and numbers: IsName of both packages, isNumber. / Tables of names: KindFace, layerFaces, l4Row, LayerNeeds of both packages. / Faces: IsFace, Offers of both packages, l2Has. / IsCells of both packages. Written by a program. -/
import Derived.Test.YtkgffhlpcjjobaaTypes
import Derived.Deep.RegionHeld3
namespace Go.Proofs.Ytkgffhlpcjjobaa
open Go.RowKit

def BoolPost (p : Prop) (w : World) (e : Ending) (w' : World) : Prop := ∃ t : Bool, e = .returned (.bool t) ∧ (t = true ↔ p) ∧ Chg [] w w'
theorem str_ext {a b : ByteArray} (h : a.toList = b.toList) : a = b := by
  rw [ByteArray.toList_eq, ByteArray.toList_eq] at h
  exact ByteArray.ext (Array.toList_inj.1 h)
theorem cell_ext {c d : CellT} (h1 : (!(c.key.toList == d.key.toList)) = false) (h2 : (!(c.value == d.value)) = false) : c = d := by
  cases c; cases d
  simp at h1 h2
  simp [str_ext h1, h2]
theorem neq_cell (c d : CellT) (W : World) : (binOp .neq 69 (.agg #[.string c.key, .int .i64 c.value]) (.agg #[.string d.key, .int .i64 d.value])).run Try.prog W = .ok (.bool (!(c.key.toList == d.key.toList && c.value == d.value))) W := by
  have h : ∀ n : Nat, (Op.equalIn (n + 2) 69 (.agg #[.string c.key, .int .i64 c.value]) (.agg #[.string d.key, .int .i64 d.value])).run Try.prog W = .ok (c.key.toList == d.key.toList && c.value == d.value) W := fun n => by
    rw [run_equalIn_struct W (n + 1) 69 _ _ (by simp only [Program.fieldsOf, Try.underlying69]) (by kernel_rfl)]
    simp [go_sem, Program.fieldsOf, Try.underlying69]
    by_cases h1 : c.key.toList = d.key.toList <;> by_cases h2 : c.value = d.value <;> simp [h1, h2]
  simp only [binOp]
  simp [Op.equal, Op.maxDepth, h 9998]
theorem slot_ext {c d : SlotT} (h1 : c.full = d.full) (h2 : c.part = d.part) : c = d := by
  cases c; cases d
  simp only [SlotT.mk.injEq]
  exact ⟨h1, h2⟩
theorem take_next {α : Type} {l m : List α} {k : Nat} (h : l.take k = m.take k) (hl : k < l.length) (hm : k < m.length) (e : l[k] = m[k]) : l.take (k + 1) = m.take (k + 1) := by
  rw [List.take_succ_eq_append_getElem hl, List.take_succ_eq_append_getElem hm, h, e]

end Go.Proofs.Ytkgffhlpcjjobaa
namespace Go.Proofs.Ytkgffhlpcjjobaa
open Go.RowKit

/-- The world stands as it was. -/
def Still (w wr : World) : Prop := wr = w
/-- A bool that tells p; the world stands as it is. -/
def BoolIs (p : Prop) (w : World) (e : Ending) (w' : World) : Prop := ∃ t : Bool, e = .returned (.bool t) ∧ (t = true ↔ p) ∧ w' = w
theorem BoolIs.pos {p : Prop} {w : World} (h : p) (e : Ending) (w' : World) (hb : BoolIs p w e w') : e = .returned (.bool true) ∧ w' = w := by
  obtain ⟨t, rfl, ht, c⟩ := hb
  obtain rfl : t = true := ht.2 h
  exact ⟨rfl, c⟩
theorem BoolIs.neg {p : Prop} {w : World} (h : ¬ p) (e : Ending) (w' : World) (hb : BoolIs p w e w') : e = .returned (.bool false) ∧ w' = w := by
  obtain ⟨t, rfl, ht, c⟩ := hb
  cases t
  · exact ⟨rfl, c⟩
  · exact absurd (ht.1 rfl) h
theorem BoolPost.pos {p : Prop} {w : World} (h : p) (e : Ending) (w' : World) (hb : BoolPost p w e w') : e = .returned (.bool true) ∧ Chg [] w w' := by
  obtain ⟨t, rfl, ht, c⟩ := hb
  obtain rfl : t = true := ht.2 h
  exact ⟨rfl, c⟩
theorem BoolPost.neg {p : Prop} {w : World} (h : ¬ p) (e : Ending) (w' : World) (hb : BoolPost p w e w') : e = .returned (.bool false) ∧ Chg [] w w' := by
  obtain ⟨t, rfl, ht, c⟩ := hb
  cases t
  · exact ⟨rfl, c⟩
  · exact absurd (ht.1 rfl) h
theorem BoolIs.chg {p : Prop} {w : World} (e : Ending) (w' : World) (hb : BoolIs p w e w') : BoolPost p w e w' := by
  obtain ⟨t, rfl, ht, rfl⟩ := hb
  exact ⟨t, rfl, ht, Chg.refl _ _⟩
/-- May byte b stand in place i of a name? -/
def nmByte (i : Nat) (b : UInt8) : Prop := (97 ≤ b.toNat ∧ b.toNat ≤ 122) ∨ (0 < i ∧ 48 ≤ b.toNat ∧ b.toNat ≤ 57)
/-- A name. -/
def IsNm (s : ByteArray) : Prop := 1 ≤ s.size ∧ s.size ≤ 8 ∧ ∀ (i : Nat) (h : i < s.size), nmByte i s[i]
/-- A number of the program. -/
def IsNum (n : Int) : Prop := 0 ≤ n ∧ n ≤ 999

set_option maxRecDepth 100000 in
theorem l1Letter_any (b : UInt8) (first : Bool) (w : World) :
    Calls Try.prog 57 #[.int .u8 b.toNat, .bool first] w (BoolIs ((97 ≤ b.toNat ∧ b.toNat ≤ 122) ∨ (first = false ∧ 48 ≤ b.toNat ∧ b.toNat ≤ 57)) w) := by
  go_enter Try.func57, Try.ntmps57
  go_wp2_with fail
  all_goals (go_ret; refine ⟨_, rfl, ?_, rfl⟩; simp; try omega)
set_option maxRecDepth 100000 in
theorem isName_spec_any (s : ByteArray) (w : World) (hs : s.size ≤ 1048576) :
    Calls Try.prog 50 #[.string s] w (BoolIs (IsNm s) w) := by
  go_enter Try.func50, Try.ntmps50
  go_wp2_with fail
  go_loopw [3] (fun i wr => ∃ k : Nat, k ≤ s.size ∧ i = .int .i64 k ∧ (∀ (j : Nat) (h : j < s.size), j < k → nmByte j s[j]) ∧ Still w wr) (fun i _ => s.size - (intOf i).toNat)
  case atStart => exact ⟨0, Nat.zero_le _, rfl, fun j h h0 => absurd h0 (Nat.not_lt_zero _), rfl⟩
  case round =>
    obtain ⟨k, hk, rfl, HN, rfl⟩ := hrel
    have HN := Lib.hid HN
    by_cases hlt : k < s.size
    · go_wp2_with fail
      refine (l1Letter_any s[k] ((k : Int) == 0) wr).mono ?_
      rintro e w1 ⟨t, rfl, ht, rfl⟩
      have hb : t = true ↔ nmByte k s[k] := by
        rw [ht]; unfold nmByte
        rw [beq_eq_false_iff_ne]
        omega
      have HT := Lib.hid hb
      clear ht hb
      cases t
      · go_wp2_with fail
        go_ret
        refine ⟨_, rfl, ⟨fun h => by simp at h, fun h => ?_⟩, rfl⟩
        have := HT.out.2 (h.2.2 k hlt)
        simp at this
      · go_wp2_with fail
        go_roundw
        case rel => exact ⟨k + 1, by omega, by go_num, fun j h hj => (Nat.lt_succ_iff_lt_or_eq.1 hj).elim (HN.out j h) (fun e => by subst e; exact HT.out.1 (by simp)), rfl⟩
        case measure => simp [intOf]; omega
    · obtain rfl : k = s.size := by omega
      go_wp2_with fail
      all_goals (go_ret; refine ⟨_, rfl, ?_, rfl⟩; have hall : ∀ (i : Nat) (h : i < s.size), nmByte i s[i] := fun i h => HN.out i h h; unfold IsNm; simp [hall]; try omega)
end Go.Proofs.Ytkgffhlpcjjobaa
namespace Go.Proofs.Ytkgffhlpcjjobaa
open Go.RowKit

/-- What a table of names tells. -/
def look {α : Type} (s : List UInt8) : List (List UInt8 × α) → Option α
  | [] => none
  | (n, x) :: r => if s = n then some x else look s r
def kinds : List (List UInt8 × Int) := [([115, 116, 111, 110, 101], 0), ([108, 97, 109, 112], 1), ([115, 104, 101, 108, 102], 2), ([109, 101, 116, 101, 114], 5), ([100, 114, 97, 119, 101, 114], 3), ([104, 111, 114, 110], 9), ([118, 97, 117, 108, 116], 19), ([114, 111, 98, 111, 116], 63)]
def kindOf (s : ByteArray) : Option Int := look s.toList kinds
def layerTab : List (List UInt8 × (Int × Int)) := [([112, 108, 97, 105, 110], (0, 0)), ([114, 117, 110, 115], (1, 1)), ([107, 101, 101, 112, 115], (2, 2)), ([99, 111, 117, 110, 116, 115], (2, 6)), ([108, 97, 122, 121], (3, 3)), ([114, 101, 97, 100, 115], (2, 2)), ([104, 101, 97, 114, 115], (1, 9)), ([104, 101, 97, 108, 115], (1, 33)), ([116, 119, 105, 99, 101], (4, 4))]
def layerOf (s : ByteArray) : Option (Int × Int) := look s.toList layerTab
/-- A number, and whether there is one; the world stands as it is. -/
def OptIs (o : Option Int) (w : World) (e : Ending) (w' : World) : Prop := e = .returned (.tuple #[.int .i64 (o.getD 0), .bool o.isSome]) ∧ w' = w
def Opt2Is (o : Option (Int × Int)) (w : World) (e : Ending) (w' : World) : Prop := e = .returned (.tuple #[.int .i64 (o.getD (0, 0)).1, .int .i64 (o.getD (0, 0)).2, .bool o.isSome]) ∧ w' = w
/-- A number, and whether there is one. -/
def OptPost (o : Option Int) (w : World) (e : Ending) (w' : World) : Prop := e = .returned (.tuple #[.int .i64 (o.getD 0), .bool o.isSome]) ∧ Chg [] w w'
/-- Two numbers, and whether there are any. -/
def Opt2Post (o : Option (Int × Int)) (w : World) (e : Ending) (w' : World) : Prop := e = .returned (.tuple #[.int .i64 (o.getD (0, 0)).1, .int .i64 (o.getD (0, 0)).2, .bool o.isSome]) ∧ Chg [] w w'
theorem OptPost.of {f o : Option Int} {w w' : World} {e : Ending} (h : f = o) (he : e = .returned (.tuple #[.int .i64 (o.getD 0), .bool o.isSome])) (hc : Chg [] w w') : OptPost f w e w' := by subst h; exact ⟨he, hc⟩
theorem Opt2Post.of {f o : Option (Int × Int)} {w w' : World} {e : Ending} (h : f = o) (he : e = .returned (.tuple #[.int .i64 (o.getD (0, 0)).1, .int .i64 (o.getD (0, 0)).2, .bool o.isSome])) (hc : Chg [] w w') : Opt2Post f w e w' := by subst h; exact ⟨he, hc⟩
theorem OptIs.of {f o : Option Int} {w w' : World} {e : Ending} (h : f = o) (he : e = .returned (.tuple #[.int .i64 (o.getD 0), .bool o.isSome])) (hc : w' = w) : OptIs f w e w' := by subst h; exact ⟨he, hc⟩
theorem Opt2Is.of {f o : Option (Int × Int)} {w w' : World} {e : Ending} (h : f = o) (he : e = .returned (.tuple #[.int .i64 (o.getD (0, 0)).1, .int .i64 (o.getD (0, 0)).2, .bool o.isSome])) (hc : w' = w) : Opt2Is f w e w' := by subst h; exact ⟨he, hc⟩
theorem look_hit {α : Type} {s n : List UInt8} {x : α} {r : List (List UInt8 × α)} (h : (s == n) = true) : look s ((n, x) :: r) = some x := if_pos (by simpa using h)
theorem look_miss {α : Type} {s n : List UInt8} {x : α} {r : List (List UInt8 × α)} (h : (s == n) = false) : look s ((n, x) :: r) = look s r := if_neg (by simpa using h)
theorem look_nil {α : Type} {s : List UInt8} : look s ([] : List (List UInt8 × α)) = none := rfl
theorem layerOf_hit {s : ByteArray} {l : List UInt8} {x : Int × Int} (h : look l layerTab = some x) (hs : (s.toList == l) = true) : layerOf s = some x := by
  rw [layerOf, beq_iff_eq.1 hs, h]
theorem look_at {α : Type} {s : List UInt8} : ∀ {l : List (List UInt8 × α)} {k : Nat} {x : List UInt8 × α}, l[k]? = some x → (∀ j y, j < k → l[j]? = some y → s ≠ y.1) → s = x.1 → look s l = some x.2
  | [], k, x, h, _, _ => by simp at h
  | y :: l, 0, x, h, _, e => by simp at h; subst h; rw [look, if_pos e]
  | y :: l, k + 1, x, h, hn, e => by
    rw [look, if_neg (hn 0 y (by omega) rfl)]
    exact look_at (k := k) (by simpa using h) (fun j z hj hz => hn (j + 1) z (by omega) (by simpa using hz)) e
theorem look_none {α : Type} {s : List UInt8} : ∀ {l : List (List UInt8 × α)}, (∀ j y, j < l.length → l[j]? = some y → s ≠ y.1) → look s l = none
  | [], _ => rfl
  | y :: l, h => by
    rw [look, if_neg (h 0 y (by simp) rfl)]
    exact look_none (fun j z hj hz => h (j + 1) z (by simpa using hj) (by simpa using hz))
theorem cell_lit (w : World) (vs : Array Value) (e : TypeId) {k : Nat} {v : Value} (h : vs[k]? = some v) : (w.alloc (.cells vs e)).cell? ⟨w.heap.size, k, none⟩ = some v := by
  rw [cell_of_row (w.alloc (.cells vs e)) w.heap.size k vs e (0, 0) (heap_alloc_new w _)]
  exact h

/-- A block that holds the names of a table. -/
def NamesAt {α : Type} (w : World) (g : Nat) (l : List (List UInt8 × α)) : Prop := ∀ j y, l[j]? = some y → w.cell? ⟨g, j, none⟩ = some (.string ⟨y.1.toArray⟩)
theorem NamesAt.keep {α : Type} {w w' : World} {g : Nat} {l : List (List UInt8 × α)} (h : NamesAt w g l) (hc : Chg [] w w') (hg : g < w.heap.size) : NamesAt w' g l :=
  fun j y hj => (hc.cell (p := ⟨g, j, none⟩) hg (by simp)).trans (h j y hj)
theorem namesAt_kinds (w : World) (e : TypeId) : NamesAt (w.alloc (.cells (kinds.map fun y => Value.string ⟨y.1.toArray⟩).toArray e)) w.heap.size kinds := by
  intro j y hj
  exact cell_lit _ _ _ (by simp [hj])
theorem namesAt_layers (w : World) (e : TypeId) : NamesAt (w.alloc (.cells (layerTab.map fun y => Value.string ⟨y.1.toArray⟩).toArray e)) w.heap.size layerTab := by
  intro j y hj
  exact cell_lit _ _ _ (by simp [hj])
theorem bytes_toList (l : List UInt8) : ByteArray.toList ⟨l.toArray⟩ = l := by rw [ByteArray.toList_eq]
set_option maxRecDepth 100000 in
theorem kindFace_spec_any (s : ByteArray) (w : World) :
    Calls Try.prog 41 #[.string s] w (OptPost (kindOf s) w) := by
  go_enter Try.func41, Try.ntmps41
  go_wp2_with fail
  go_loopw [8] (fun i wr => ∃ k : Nat, k ≤ 8 ∧ i = .int .i64 k ∧ (∀ j y, j < k → kinds[j]? = some y → s.toList ≠ y.1) ∧ Chg [] w wr ∧ w.heap.size < wr.heap.size ∧ NamesAt wr w.heap.size kinds) (fun i _ => 8 - (intOf i).toNat)
  case atStart => exact ⟨0, by omega, rfl, fun j y h => absurd h (Nat.not_lt_zero _), (Chg.refl _ _).alloc _, by simp, namesAt_kinds w _⟩
  case round =>
    obtain ⟨k, hk, rfl, HN, hc, hg, HA⟩ := hrel
    have HN := Lib.hid HN
    have HA := Lib.hid HA
    by_cases hlt : k < 8
    · obtain ⟨y, hy⟩ : ∃ y, kinds[k]? = some y := ⟨kinds[k]'hlt, List.getElem?_eq_getElem hlt⟩
      have hcell := HA.out k y hy
      have HY := Lib.hid hy
      clear hy
      go_wp2_with fail
      · go_ret2
        apply OptPost.of
        case h => exact look_at HY.out HN.out (beq_iff_eq.1 (by assumption)).symm
        case he =>
          have hy := HY.out
          match k, hlt, hy with
          | 0, _, hy | 1, _, hy | 2, _, hy | 3, _, hy | 4, _, hy | 5, _, hy | 6, _, hy | 7, _, hy => cases hy; rfl
        case hc => exact hc.alloc _
      · go_roundw
        case rel => exact ⟨k + 1, by omega, by go_num, fun j z hj hz => (Nat.lt_succ_iff_lt_or_eq.1 hj).elim (fun h => HN.out j z h hz) (fun e => by subst e; have := HY.out; rw [hz] at this; cases this; exact fun e => by simp_all), hc, hg, HA.out⟩
        case measure => simp [intOf]; omega
    · obtain rfl : k = 8 := by omega
      go_wp2_with fail
      go_ret2
      exact OptPost.of (look_none (fun j y hj hy => HN.out j y (by simpa [kinds] using hj) hy)) rfl hc
set_option maxRecDepth 100000 in
theorem l4Row_any (s : ByteArray) (w : World) :
    Calls Try.prog 55 #[.string s] w (Opt2Post (layerOf s) w) := by
  go_enter Try.func55, Try.ntmps55
  go_wp2_with fail
  go_loopw [11] (fun i wr => ∃ k : Nat, k ≤ 9 ∧ i = .int .i64 k ∧ (∀ j y, j < k → layerTab[j]? = some y → s.toList ≠ y.1) ∧ Chg [] w wr ∧ w.heap.size < wr.heap.size ∧ NamesAt wr w.heap.size layerTab) (fun i _ => 9 - (intOf i).toNat)
  case atStart => exact ⟨0, by omega, rfl, fun j y h => absurd h (Nat.not_lt_zero _), (Chg.refl _ _).alloc _, by simp, namesAt_layers w _⟩
  case round =>
    obtain ⟨k, hk, rfl, HN, hc, hg, HA⟩ := hrel
    have HN := Lib.hid HN
    have HA := Lib.hid HA
    by_cases hlt : k < 9
    · obtain ⟨y, hy⟩ : ∃ y, layerTab[k]? = some y := ⟨layerTab[k]'hlt, List.getElem?_eq_getElem hlt⟩
      have hcell := HA.out k y hy
      have HY := Lib.hid hy
      clear hy
      go_wp2_with fail
      · go_region
        all_goals (try go_wp2)
        all_goals
          go_ret3
          apply Opt2Post.of
          case h => exact look_at HY.out HN.out (beq_iff_eq.1 (by assumption)).symm
          case he =>
            have hy := HY.out
            match k, hlt, hy with
            | 0, _, hy | 1, _, hy | 2, _, hy | 3, _, hy | 4, _, hy | 5, _, hy | 6, _, hy | 7, _, hy | 8, _, hy => cases hy; rfl
          case hc => first | exact ((hc.drew.alloc _).alloc _) | exact ((hc.alloc _).alloc _).drew | exact ((hc.alloc _).drew.alloc _)
      · go_roundw
        case rel => exact ⟨k + 1, by omega, by go_num, fun j z hj hz => (Nat.lt_succ_iff_lt_or_eq.1 hj).elim (fun h => HN.out j z h hz) (fun e => by subst e; have := HY.out; rw [hz] at this; cases this; exact fun e => by simp_all), hc, hg, HA.out⟩
        case measure => simp [intOf]; omega
    · obtain rfl : k = 9 := by omega
      go_wp2_with fail
      go_ret3
      exact Opt2Post.of (look_none (fun j y hj hy => HN.out j y (by simpa [layerTab] using hj) hy)) rfl hc
set_option maxRecDepth 100000 in
theorem layerNeeds_spec_any (s : ByteArray) (w : World) :
    Calls Try.prog 42 #[.string s] w (OptPost ((layerOf s).map (·.1)) w) := by
  go_enter Try.func42, Try.ntmps42
  go_wp2_with fail
  refine (l4Row_any s w).mono ?_
  rintro e w1 ⟨rfl, c1⟩
  go_wp2_with fail
  go_ret2
  refine ⟨?_, c1⟩
  cases layerOf s <;> rfl
end Go.Proofs.Ytkgffhlpcjjobaa
namespace Go.Proofs.Ytkgffhlpcjjobaa
open Go.RowKit

def IsF (f : Int) : Prop := 0 ≤ f ∧ f ≤ 63
/-- Is ability k in face f? -/
def has (f : Int) (k : Nat) : Bool := f / (2 ^ k : Nat) % 2 == 1
def Offer (f want : Int) : Prop := IsF f ∧ IsF want ∧ ∀ k : Fin 6, has want k = true → has f k = true
instance (f want : Int) : Decidable (Offer f want) := inferInstanceAs (Decidable ((_ ∧ _) ∧ (_ ∧ _) ∧ _))

theorem offer_bits : ∀ f g : Fin 64, (bits .andNot .i64 ((g.1 : Nat) : Int) ((f.1 : Nat) : Int) == 0) = decide (∀ k : Fin 6, has ((g.1 : Nat) : Int) k = true → has ((f.1 : Nat) : Int) k = true) := by decide +kernel

set_option maxRecDepth 100000 in
theorem isFace_spec_any (f : Int) (w : World) :
    Calls Try.prog 45 #[.int .i64 f] w (BoolIs (IsF f) w) := by
  go_enter Try.func45, Try.ntmps45
  go_wp2_with fail
  all_goals (go_ret; refine ⟨_, rfl, ?_, rfl⟩; unfold IsF; simp; try omega)
end Go.Proofs.Ytkgffhlpcjjobaa
namespace Go.Proofs.Ytkgffhlpcjjobaa
open Go.RowKit

/-- What is asked of cell k of a list. -/
def CellAt (l : List CellT) (k : Nat) (h : k < l.length) : Prop := IsNm l[k].key ∧ IsNum l[k].value ∧ (0 < k → Op.bytesLess (l[k - 1]'(by omega)).key.toList l[k].key.toList = true)
def CellsOk (l : List CellT) : Prop := l.length ≤ 4 ∧ ∀ (k : Nat) (h : k < l.length), CellAt l k h
theorem geq_string (a b : ByteArray) (W : World) : (binOp .geq 9 (.string a) (.string b)).run Try.prog W = .ok (.bool (!Op.bytesLess a.toList b.toList)) W := by
  simp [binOp, go_sem, Op.stringOp]
set_option maxRecDepth 100000 in
set_option maxHeartbeats 4000000 in
theorem isCells_spec_any (l : List CellT) (u : Value) (B : Nat) (w : World) (r : Rd w B (cells l) u) (hB : B ≤ w.heap.size) (hl : l.length ≤ 1048576) (hs : ∀ c ∈ l, c.key.size ≤ 1048576) :
    Calls Try.prog 48 #[u] w (BoolPost (CellsOk l) w) := by
  obtain ⟨A, cap, rfl, h0, h1, hrow⟩ := cells_row r
  unfold maxLen at h1
  clear r
  go_enter Try.func48, Try.ntmps48
  go_wp2_with fail
  go_loopw [7] (fun i wr => ∃ k : Nat, k ≤ l.length ∧ i = .int .i64 k ∧ (∀ (j : Nat) (h : j < l.length), j < k → CellAt l j h) ∧ Chg [] w wr) (fun i _ => l.length - (intOf i).toNat)
  case atStart => exact ⟨0, Nat.zero_le _, rfl, fun j h h0 => absurd h0 (Nat.not_lt_zero _), Chg.refl _ _⟩
  case round =>
    obtain ⟨k, hk, rfl, HN, hc⟩ := hrel
    have HN := Lib.hid HN
    by_cases hlt : k < l.length
    · obtain ⟨b, off, rfl, hb, q0, q1⟩ := cells_cells (hrow.chg0 hc hB) k hlt
      have hsz := hc.size
      have hbw : b < wr.heap.size := by omega
      have hnm := fun W => isName_spec_any l[k].key W (hs _ (List.getElem_mem hlt))
      by_cases n1 : IsNm l[k].key
      · have NM := Lib.hid (fun W => (hnm W).mono (BoolIs.pos n1))
        clear hnm
        by_cases n2 : IsNum l[k].value
        · have v1 : 0 ≤ l[k].value := n2.1
          have v2 : l[k].value ≤ 999 := n2.2
          have v3 : decide (l[k].value < 0) = false := by simp; omega
          have v4 : decide (999 < l[k].value) = false := by simp; omega
          by_cases hk0 : k = 0
          · have CA : Hid (CellAt l k hlt) := Lib.hid ⟨n1, n2, fun h => absurd hk0 (by omega)⟩
            subst hk0
            simp only [Nat.zero_mul, Nat.add_zero] at q0 q1
            clear n1 n2
            go_wp2_with fail
            go_quiet (first | (go_at_call 50; exact Calls.quiet_of_same (NM.out _)) | fail)
            go_wp2_with fail
            go_roundw
            case rel => exact ⟨0 + 1, by omega, by go_num, fun j h hj => (Nat.lt_succ_iff_lt_or_eq.1 hj).elim (HN.out j h) (fun e => by subst e; exact CA.out), hc.trans0 (((Chg.refl _ _).alloc _).drewN _)⟩
            case measure => simp [intOf]; omega
          · have hkB : 0 < k := by omega
            have hkD : decide (0 < k) = true := by simp; omega
            have hk1 : (0 : Int) < (k : Int) := by omega
            obtain ⟨b', off', e', hb', p0, p1⟩ := cells_cells (hrow.chg0 hc hB) (k - 1) (by omega)
            cases e'
            have hgeq := geq_string (l[k - 1]'(by omega)).key l[k].key
            have hkN : ((k : Int) - 1).toNat = k - 1 := by omega
            have hi0 : (0 : Int) ≤ (k : Int) - 1 := by omega
            have hi1 : (k : Int) - 1 < (l.length : Int) := by omega
            have hiw : IntKind.i64.wrap ((k : Int) - 1) = (k : Int) - 1 := by simp [IntKind.wrap, IntKind.bits, IntKind.signed]; omega
            by_cases n3 : Op.bytesLess (l[k - 1]'(by omega)).key.toList l[k].key.toList = true
            · have CA : Hid (CellAt l k hlt) := Lib.hid ⟨n1, n2, fun _ => n3⟩
              clear n1 n2
              go_wp2_with fail
              go_quiet (first | (go_at_call 50; exact Calls.quiet_of_same (NM.out _)) | fail)
              go_wp2_with fail
              go_roundw
              case rel => exact ⟨k + 1, by omega, by go_num, fun j h hj => (Nat.lt_succ_iff_lt_or_eq.1 hj).elim (HN.out j h) (fun e => by subst e; exact CA.out), hc.trans0 (((Chg.refl _ _).alloc _).drewN _)⟩
              case measure => simp [intOf]; omega
            · have CA : Hid (¬ CellAt l k hlt) := Lib.hid (fun h => n3 (h.2.2 (by omega)))
              clear n1 n2
              go_wp2_with fail
              go_quiet (first | (go_at_call 50; exact Calls.quiet_of_same (NM.out _)) | fail)
              go_wp2_with fail
              go_ret
              refine ⟨_, rfl, ⟨fun h => by simp at h, fun h => ?_⟩, hc.trans0 (((Chg.refl _ _).alloc _).drewN _)⟩
              exact (CA.out (h.2 k hlt)).elim
        · have CA : Hid (¬ CellAt l k hlt) := Lib.hid (fun h => n2 h.2.1)
          by_cases v1 : l[k].value < 0
          · have v2 : decide (l[k].value < 0) = true := by simp; omega
            clear n1 n2
            go_wp2_with fail
            go_quiet (first | (go_at_call 50; exact Calls.quiet_of_same (NM.out _)) | fail)
            go_wp2_with fail
            go_ret
            refine ⟨_, rfl, ⟨fun h => by simp at h, fun h => ?_⟩, hc.trans0 (((Chg.refl _ _).alloc _).drewN _)⟩
            exact (CA.out (h.2 k hlt)).elim
          · have v2 : 999 < l[k].value := by unfold IsNum at n2; omega
            have v3 : 0 ≤ l[k].value := by omega
            have v4 : decide (l[k].value < 0) = false := by simp; omega
            have v5 : decide (999 < l[k].value) = true := by simp; omega
            clear n1 n2 v1
            go_wp2_with fail
            go_quiet (first | (go_at_call 50; exact Calls.quiet_of_same (NM.out _)) | fail)
            go_wp2_with fail
            go_ret
            refine ⟨_, rfl, ⟨fun h => by simp at h, fun h => ?_⟩, hc.trans0 (((Chg.refl _ _).alloc _).drewN _)⟩
            exact (CA.out (h.2 k hlt)).elim
      · have CA : Hid (¬ CellAt l k hlt) := Lib.hid (fun h => n1 h.1)
        have NM := Lib.hid (fun W => (hnm W).mono (BoolIs.neg n1))
        clear hnm n1
        go_wp2_with fail
        go_quiet (first | (go_at_call 50; exact Calls.quiet_of_same (NM.out _)) | fail)
        go_wp2_with fail
        go_ret
        refine ⟨_, rfl, ⟨fun h => by simp at h, fun h => ?_⟩, hc.trans0 (((Chg.refl _ _).alloc _).drewN _)⟩
        exact (CA.out (h.2 k hlt)).elim
    · obtain rfl : k = l.length := by omega
      go_wp2_with fail
      go_ret
      refine ⟨_, rfl, ⟨fun h => ⟨by simp at h; omega, fun i h => HN.out i h h⟩, fun h => by have := h.1; simp; omega⟩, hc⟩
end Go.Proofs.Ytkgffhlpcjjobaa
