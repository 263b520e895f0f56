/- Tables of names: KindFace, layerFaces, l4Row, LayerNeeds of both packages. -/
import Derived.Test.YtgnggiibhkphjaaGreatDoorName
namespace Go.Proofs.YtgnggiibhkphjaaGreatDoor
open Go.RowKit

/-- What a table of names tells. -/
def look {α : Type} (s : List UInt8) : List (List UInt8 × α) → Option α
  | [] => none
  | (n, x) :: r => if s = n then some x else look s r
def kinds : List (List UInt8 × Int) := [([115, 116, 111, 110, 101], 0), ([108, 97, 109, 112], 1), ([115, 104, 101, 108, 102], 2), ([109, 101, 116, 101, 114], 5), ([100, 114, 97, 119, 101, 114], 3), ([104, 111, 114, 110], 9), ([118, 97, 117, 108, 116], 19), ([114, 111, 98, 111, 116], 63)]
def kindOf (s : ByteArray) : Option Int := look s.toList kinds
def layerTab : List (List UInt8 × (Int × Int)) := [([112, 108, 97, 105, 110], (0, 0)), ([114, 117, 110, 115], (1, 1)), ([107, 101, 101, 112, 115], (2, 2)), ([99, 111, 117, 110, 116, 115], (2, 6)), ([108, 97, 122, 121], (3, 3)), ([114, 101, 97, 100, 115], (2, 2)), ([104, 101, 97, 114, 115], (1, 9)), ([104, 101, 97, 108, 115], (1, 33)), ([116, 119, 105, 99, 101], (4, 4))]
def layerOf (s : ByteArray) : Option (Int × Int) := look s.toList layerTab
/-- A number, and whether there is one; the world stands as it is. -/
def OptIs (o : Option Int) (w : World) (e : Ending) (w' : World) : Prop := e = .returned (.tuple #[.int .i64 (o.getD 0), .bool o.isSome]) ∧ w' = w
def Opt2Is (o : Option (Int × Int)) (w : World) (e : Ending) (w' : World) : Prop := e = .returned (.tuple #[.int .i64 (o.getD (0, 0)).1, .int .i64 (o.getD (0, 0)).2, .bool o.isSome]) ∧ w' = w
/-- A number, and whether there is one. -/
def OptPost (o : Option Int) (w : World) (e : Ending) (w' : World) : Prop := e = .returned (.tuple #[.int .i64 (o.getD 0), .bool o.isSome]) ∧ Chg [] w w'
/-- Two numbers, and whether there are any. -/
def Opt2Post (o : Option (Int × Int)) (w : World) (e : Ending) (w' : World) : Prop := e = .returned (.tuple #[.int .i64 (o.getD (0, 0)).1, .int .i64 (o.getD (0, 0)).2, .bool o.isSome]) ∧ Chg [] w w'
theorem OptPost.of {f o : Option Int} {w w' : World} {e : Ending} (h : f = o) (he : e = .returned (.tuple #[.int .i64 (o.getD 0), .bool o.isSome])) (hc : Chg [] w w') : OptPost f w e w' := by subst h; exact ⟨he, hc⟩
theorem Opt2Post.of {f o : Option (Int × Int)} {w w' : World} {e : Ending} (h : f = o) (he : e = .returned (.tuple #[.int .i64 (o.getD (0, 0)).1, .int .i64 (o.getD (0, 0)).2, .bool o.isSome])) (hc : Chg [] w w') : Opt2Post f w e w' := by subst h; exact ⟨he, hc⟩
theorem OptIs.of {f o : Option Int} {w w' : World} {e : Ending} (h : f = o) (he : e = .returned (.tuple #[.int .i64 (o.getD 0), .bool o.isSome])) (hc : w' = w) : OptIs f w e w' := by subst h; exact ⟨he, hc⟩
theorem Opt2Is.of {f o : Option (Int × Int)} {w w' : World} {e : Ending} (h : f = o) (he : e = .returned (.tuple #[.int .i64 (o.getD (0, 0)).1, .int .i64 (o.getD (0, 0)).2, .bool o.isSome])) (hc : w' = w) : Opt2Is f w e w' := by subst h; exact ⟨he, hc⟩
theorem look_hit {α : Type} {s n : List UInt8} {x : α} {r : List (List UInt8 × α)} (h : (s == n) = true) : look s ((n, x) :: r) = some x := if_pos (by simpa using h)
theorem look_miss {α : Type} {s n : List UInt8} {x : α} {r : List (List UInt8 × α)} (h : (s == n) = false) : look s ((n, x) :: r) = look s r := if_neg (by simpa using h)
theorem look_nil {α : Type} {s : List UInt8} : look s ([] : List (List UInt8 × α)) = none := rfl
theorem layerOf_hit {s : ByteArray} {l : List UInt8} {x : Int × Int} (h : look l layerTab = some x) (hs : (s.toList == l) = true) : layerOf s = some x := by
  rw [layerOf, beq_iff_eq.1 hs, h]
theorem look_at {α : Type} {s : List UInt8} : ∀ {l : List (List UInt8 × α)} {k : Nat} {x : List UInt8 × α}, l[k]? = some x → (∀ j y, j < k → l[j]? = some y → s ≠ y.1) → s = x.1 → look s l = some x.2
  | [], k, x, h, _, _ => by simp at h
  | y :: l, 0, x, h, _, e => by simp at h; subst h; rw [look, if_pos e]
  | y :: l, k + 1, x, h, hn, e => by
    rw [look, if_neg (hn 0 y (by omega) rfl)]
    exact look_at (k := k) (by simpa using h) (fun j z hj hz => hn (j + 1) z (by omega) (by simpa using hz)) e
theorem look_none {α : Type} {s : List UInt8} : ∀ {l : List (List UInt8 × α)}, (∀ j y, j < l.length → l[j]? = some y → s ≠ y.1) → look s l = none
  | [], _ => rfl
  | y :: l, h => by
    rw [look, if_neg (h 0 y (by simp) rfl)]
    exact look_none (fun j z hj hz => h (j + 1) z (by simpa using hj) (by simpa using hz))
theorem cell_lit (w : World) (vs : Array Value) (e : TypeId) {k : Nat} {v : Value} (h : vs[k]? = some v) : (w.alloc (.cells vs e)).cell? ⟨w.heap.size, k, none⟩ = some v := by
  rw [cell_of_row (w.alloc (.cells vs e)) w.heap.size k vs e (0, 0) (heap_alloc_new w _)]
  exact h

set_option maxRecDepth 100000 in
theorem kindFace_impl_any (s : ByteArray) (w : World) :
    Calls Tryz.prog 48 #[.string s] w (OptIs (kindOf s) w) := by
  go_enter Tryz.func48, Tryz.ntmps48
  go_wp2_with fail
  · go_ret2
    exact OptIs.of (o := some 0) (by unfold kindOf kinds; repeat (first | exact look_hit (by assumption) | refine Eq.trans (look_miss (by assumption)) ?_ | exact look_nil)) rfl rfl
  · go_ret2
    exact OptIs.of (o := some 1) (by unfold kindOf kinds; repeat (first | exact look_hit (by assumption) | refine Eq.trans (look_miss (by assumption)) ?_ | exact look_nil)) rfl rfl
  · go_ret2
    exact OptIs.of (o := some 2) (by unfold kindOf kinds; repeat (first | exact look_hit (by assumption) | refine Eq.trans (look_miss (by assumption)) ?_ | exact look_nil)) rfl rfl
  · go_ret2
    exact OptIs.of (o := some 5) (by unfold kindOf kinds; repeat (first | exact look_hit (by assumption) | refine Eq.trans (look_miss (by assumption)) ?_ | exact look_nil)) rfl rfl
  · go_ret2
    exact OptIs.of (o := some 3) (by unfold kindOf kinds; repeat (first | exact look_hit (by assumption) | refine Eq.trans (look_miss (by assumption)) ?_ | exact look_nil)) rfl rfl
  · go_ret2
    exact OptIs.of (o := some 9) (by unfold kindOf kinds; repeat (first | exact look_hit (by assumption) | refine Eq.trans (look_miss (by assumption)) ?_ | exact look_nil)) rfl rfl
  · go_ret2
    exact OptIs.of (o := some 19) (by unfold kindOf kinds; repeat (first | exact look_hit (by assumption) | refine Eq.trans (look_miss (by assumption)) ?_ | exact look_nil)) rfl rfl
  · go_ret2
    exact OptIs.of (o := some 63) (by unfold kindOf kinds; repeat (first | exact look_hit (by assumption) | refine Eq.trans (look_miss (by assumption)) ?_ | exact look_nil)) rfl rfl
  · go_ret2
    exact OptIs.of (o := none) (by unfold kindOf kinds; repeat (first | exact look_hit (by assumption) | refine Eq.trans (look_miss (by assumption)) ?_ | exact look_nil)) rfl rfl
set_option maxRecDepth 100000 in
theorem layerFaces_impl_any (s : ByteArray) (w : World) :
    Calls Tryz.prog 50 #[.string s] w (Opt2Is (layerOf s) w) := by
  go_enter Tryz.func50, Tryz.ntmps50
  go_wp2_with fail
  all_goals
    go_ret3
    first
      | (exfalso
         have h1 : (s.toList == [107, 101, 101, 112, 115]) = true := by assumption
         have h2 : (s.toList == [107, 101, 101, 112, 115]) = false := by assumption
         rw [h1] at h2
         cases h2)
      | exact Opt2Is.of (o := some (0, 0)) (layerOf_hit (l := [112, 108, 97, 105, 110]) rfl (by assumption)) rfl rfl
      | exact Opt2Is.of (o := some (1, 1)) (layerOf_hit (l := [114, 117, 110, 115]) rfl (by assumption)) rfl rfl
      | exact Opt2Is.of (o := some (2, 2)) (layerOf_hit (l := [107, 101, 101, 112, 115]) rfl (by assumption)) rfl rfl
      | exact Opt2Is.of (o := some (2, 6)) (layerOf_hit (l := [99, 111, 117, 110, 116, 115]) rfl (by assumption)) rfl rfl
      | exact Opt2Is.of (o := some (3, 3)) (layerOf_hit (l := [108, 97, 122, 121]) rfl (by assumption)) rfl rfl
      | exact Opt2Is.of (o := some (2, 2)) (layerOf_hit (l := [114, 101, 97, 100, 115]) rfl (by assumption)) rfl rfl
      | exact Opt2Is.of (o := some (1, 9)) (layerOf_hit (l := [104, 101, 97, 114, 115]) rfl (by assumption)) rfl rfl
      | exact Opt2Is.of (o := some (1, 33)) (layerOf_hit (l := [104, 101, 97, 108, 115]) rfl (by assumption)) rfl rfl
      | exact Opt2Is.of (o := some (4, 4)) (layerOf_hit (l := [116, 119, 105, 99, 101]) rfl (by assumption)) rfl rfl
      | exact Opt2Is.of (o := none) (by unfold layerOf layerTab; repeat (first | refine Eq.trans (look_miss (by assumption)) ?_ | exact look_nil)) rfl rfl
/-- A block that holds the names of a table. -/
def NamesAt {α : Type} (w : World) (g : Nat) (l : List (List UInt8 × α)) : Prop := ∀ j y, l[j]? = some y → w.cell? ⟨g, j, none⟩ = some (.string ⟨y.1.toArray⟩)
theorem NamesAt.keep {α : Type} {w w' : World} {g : Nat} {l : List (List UInt8 × α)} (h : NamesAt w g l) (hc : Chg [] w w') (hg : g < w.heap.size) : NamesAt w' g l :=
  fun j y hj => (hc.cell (p := ⟨g, j, none⟩) hg (by simp)).trans (h j y hj)
theorem namesAt_kinds (w : World) (e : TypeId) : NamesAt (w.alloc (.cells (kinds.map fun y => Value.string ⟨y.1.toArray⟩).toArray e)) w.heap.size kinds := by
  intro j y hj
  exact cell_lit _ _ _ (by simp [hj])
theorem namesAt_layers (w : World) (e : TypeId) : NamesAt (w.alloc (.cells (layerTab.map fun y => Value.string ⟨y.1.toArray⟩).toArray e)) w.heap.size layerTab := by
  intro j y hj
  exact cell_lit _ _ _ (by simp [hj])
theorem bytes_toList (l : List UInt8) : ByteArray.toList ⟨l.toArray⟩ = l := by rw [ByteArray.toList_eq]
set_option maxRecDepth 100000 in
theorem kindFace_spec_any (s : ByteArray) (w : World) :
    Calls Tryz.prog 41 #[.string s] w (OptPost (kindOf s) w) := by
  go_enter Tryz.func41, Tryz.ntmps41
  go_wp2_with fail
  go_loopw [8] (fun i wr => ∃ k : Nat, k ≤ 8 ∧ i = .int .i64 k ∧ (∀ j y, j < k → kinds[j]? = some y → s.toList ≠ y.1) ∧ Chg [] w wr ∧ w.heap.size < wr.heap.size ∧ NamesAt wr w.heap.size kinds) (fun i _ => 8 - (intOf i).toNat)
  case atStart => exact ⟨0, by omega, rfl, fun j y h => absurd h (Nat.not_lt_zero _), (Chg.refl _ _).alloc _, by simp, namesAt_kinds w _⟩
  case round =>
    obtain ⟨k, hk, rfl, HN, hc, hg, HA⟩ := hrel
    have HN := Lib.hid HN
    have HA := Lib.hid HA
    by_cases hlt : k < 8
    · obtain ⟨y, hy⟩ : ∃ y, kinds[k]? = some y := ⟨kinds[k]'hlt, List.getElem?_eq_getElem hlt⟩
      have hcell := HA.out k y hy
      have HY := Lib.hid hy
      clear hy
      go_wp2_with fail
      · go_ret2
        apply OptPost.of
        case h => exact look_at HY.out HN.out (beq_iff_eq.1 (by assumption)).symm
        case he =>
          have hy := HY.out
          match k, hlt, hy with
          | 0, _, hy | 1, _, hy | 2, _, hy | 3, _, hy | 4, _, hy | 5, _, hy | 6, _, hy | 7, _, hy => cases hy; rfl
        case hc => exact hc.alloc _
      · go_roundw
        case rel => exact ⟨k + 1, by omega, by go_num, fun j z hj hz => (Nat.lt_succ_iff_lt_or_eq.1 hj).elim (fun h => HN.out j z h hz) (fun e => by subst e; have := HY.out; rw [hz] at this; cases this; exact fun e => by simp_all), hc, hg, HA.out⟩
        case measure => simp [intOf]; omega
    · obtain rfl : k = 8 := by omega
      go_wp2_with fail
      go_ret2
      exact OptPost.of (look_none (fun j y hj hy => HN.out j y (by simpa [kinds] using hj) hy)) rfl hc
set_option maxRecDepth 100000 in
theorem l4Row_any (s : ByteArray) (w : World) :
    Calls Tryz.prog 62 #[.string s] w (Opt2Post (layerOf s) w) := by
  go_enter Tryz.func62, Tryz.ntmps62
  go_wp2_with fail
  go_loopw [11] (fun i wr => ∃ k : Nat, k ≤ 9 ∧ i = .int .i64 k ∧ (∀ j y, j < k → layerTab[j]? = some y → s.toList ≠ y.1) ∧ Chg [] w wr ∧ w.heap.size < wr.heap.size ∧ NamesAt wr w.heap.size layerTab) (fun i _ => 9 - (intOf i).toNat)
  case atStart => exact ⟨0, by omega, rfl, fun j y h => absurd h (Nat.not_lt_zero _), (Chg.refl _ _).alloc _, by simp, namesAt_layers w _⟩
  case round =>
    obtain ⟨k, hk, rfl, HN, hc, hg, HA⟩ := hrel
    have HN := Lib.hid HN
    have HA := Lib.hid HA
    by_cases hlt : k < 9
    · obtain ⟨y, hy⟩ : ∃ y, layerTab[k]? = some y := ⟨layerTab[k]'hlt, List.getElem?_eq_getElem hlt⟩
      have hcell := HA.out k y hy
      have HY := Lib.hid hy
      clear hy
      go_wp2_with fail
      · go_region
        all_goals (try go_wp2)
        all_goals
          go_ret3
          apply Opt2Post.of
          case h => exact look_at HY.out HN.out (beq_iff_eq.1 (by assumption)).symm
          case he =>
            have hy := HY.out
            match k, hlt, hy with
            | 0, _, hy | 1, _, hy | 2, _, hy | 3, _, hy | 4, _, hy | 5, _, hy | 6, _, hy | 7, _, hy | 8, _, hy => cases hy; rfl
          case hc => first | exact ((hc.drew.alloc _).alloc _) | exact ((hc.alloc _).alloc _).drew | exact ((hc.alloc _).drew.alloc _)
      · go_roundw
        case rel => exact ⟨k + 1, by omega, by go_num, fun j z hj hz => (Nat.lt_succ_iff_lt_or_eq.1 hj).elim (fun h => HN.out j z h hz) (fun e => by subst e; have := HY.out; rw [hz] at this; cases this; exact fun e => by simp_all), hc, hg, HA.out⟩
        case measure => simp [intOf]; omega
    · obtain rfl : k = 9 := by omega
      go_wp2_with fail
      go_ret3
      exact Opt2Post.of (look_none (fun j y hj hy => HN.out j y (by simpa [layerTab] using hj) hy)) rfl hc
set_option maxRecDepth 100000 in
theorem layerNeeds_spec_any (s : ByteArray) (w : World) :
    Calls Tryz.prog 42 #[.string s] w (OptPost ((layerOf s).map (·.1)) w) := by
  go_enter Tryz.func42, Tryz.ntmps42
  go_wp2_with fail
  refine (l4Row_any s w).mono ?_
  rintro e w1 ⟨rfl, c1⟩
  go_wp2_with fail
  go_ret2
  refine ⟨?_, c1⟩
  cases layerOf s <;> rfl
end Go.Proofs.YtgnggiibhkphjaaGreatDoor
