/- FillSlots of both packages. Written by a program. -/
import Derived.Test.YtapmknkelihacaaDoorMake
namespace Go.Proofs.YtapmknkelihacaaDoor
open Go.RowKit
def strssC (l : List ByteArray) : List Dat := [strs l]
def strss (l : List (List ByteArray)) : Dat := .s l.length (l.flatMap strssC)
theorem strssC_len (l : List ByteArray) : (strssC l).length = 1 := rfl
theorem strss_row {w : World} {B : Nat} {l : List (List ByteArray)} {u : Value} (h : Rd w B (strss l) u) : ∃ A cap, u = .slice A l.length cap ∧ l.length ≤ cap ∧ cap ≤ maxLen ∧ RowAt w B strssC 1 l A := h.row strssC_len (by omega)
theorem strss_cells {w : World} {B : Nat} {l : List (List ByteArray)} {A : Option Addr} (h : RowAt w B strssC 1 l A) (k : Nat) (hk : k < l.length) : ∃ b off u, A = some ⟨b, off, none⟩ ∧ b < B ∧ w.cell? ⟨b, off + k, none⟩ = some u ∧ Rd w B (strs l[k]) u := by
  obtain ⟨b, off, e, hb, hx⟩ := h k hk
  obtain ⟨u, e0, d0⟩ := hx 0 _ rfl
  exact ⟨b, off, u, e, hb, by simpa using e0, d0⟩
open Classical in
noncomputable def fillRes (l : List (List ByteArray)) : List SlotT × Bool := if FillOk l then (fillSl l, true) else ([], false)
theorem fillRes_ok {l : List (List ByteArray)} (h : FillOk l) : fillRes l = (fillSl l, true) := by unfold fillRes; rw [if_pos h]
theorem fillRes_no {l : List (List ByteArray)} (h : ¬ FillOk l) : fillRes l = ([], false) := by unfold fillRes; rw [if_neg h]
def FillGives (r : List SlotT × Bool) (w : World) (e : Ending) (w' : World) : Prop := ∃ A cap, e = .returned (.tuple #[.slice A r.1.length cap, .bool r.2]) ∧ New w w' (slots r.1) (.slice A r.1.length cap)
theorem slotOf_nil : slotOf [] = some ⟨false, zeroPart⟩ := rfl
theorem slotOf_bad {x : List ByteArray} {q : PartT} {rp : RepT} (h0 : 0 < x.length) (hm : makeOf x = (q, rp)) (hc : ¬ rp.code = 0) : slotOf x = none := by
  cases x with
  | nil => simp at h0
  | cons k r => rw [slotOf, hm]; simp only [hc, if_false]
theorem slotOf_good {x : List ByteArray} {q : PartT} {rp : RepT} (h0 : 0 < x.length) (hm : makeOf x = (q, rp)) (hc : rp.code = 0) : slotOf x = some ⟨true, q⟩ := by
  cases x with
  | nil => simp at h0
  | cons k r => rw [slotOf, hm]; simp only [hc, if_true]
theorem fill_next {l : List (List ByteArray)} {j : Nat} (hj : j < l.length) {s : SlotT} (hs : slotOf l[j] = some s) : (fillSl (l.take (j + 1))).flatMap slotF = (fillSl (l.take j)).flatMap slotF ++ slotF s := by
  unfold fillSl
  rw [List.take_succ_eq_append_getElem hj, List.map_append, List.flatMap_append]
  simp [hs]
theorem some_next {l : List (List ByteArray)} {j : Nat} (hj : j < l.length) (h : ∀ (i : Nat) (hi : i < l.length), i < j → (slotOf l[i]).isSome = true) {s : SlotT} (hs : slotOf l[j] = some s) : ∀ (i : Nat) (hi : i < l.length), i < j + 1 → (slotOf l[i]).isSome = true := by
  intro i hi hij
  rcases Nat.lt_succ_iff_lt_or_eq.1 hij with h1 | h1
  · exact h i hi h1
  · subst h1; rw [hs]; rfl
theorem fillOk_of {l : List (List ByteArray)} (h3 : l.length = 3) (h : ∀ (i : Nat) (hi : i < l.length), i < l.length → (slotOf l[i]).isSome = true) : FillOk l :=
  ⟨h3, fun x hx => by obtain ⟨i, hi, rfl⟩ := List.mem_iff_getElem.1 hx; exact h i hi hi⟩
theorem fillOk_not {l : List (List ByteArray)} {j : Nat} (hj : j < l.length) (h : slotOf l[j] = none) : ¬ FillOk l := fun hf => by
  have := hf.2 _ (List.getElem_mem hj)
  rw [h] at this
  cases this
theorem newL_slot {w w' : World} {f : Bool} {p : PartT} {us : List Value} (h : NewL w w' (partF p) us) : NewL w w' (slotF ⟨f, p⟩) (.bool f :: us) := h.cons_v
theorem newL_zero {w w' : World} (h : Chg [] w w') : NewL w w' (partF zeroPart) [.string ⟨#[]⟩, .bool false, .bool false, .slice none 0 0, .int .i64 0, .slice none 0 0] :=
  (newT_bare [] h zeroPart rfl rfl).start (by simp)
theorem cell_litAt (w : World) (vs : Array Value) (e : TypeId) (g : Nat) (hg : g = w.heap.size) {k : Nat} {v : Value} (h : vs[k]? = some v) : (w.alloc (.cells vs e)).cell? ⟨g, k, none⟩ = some v := by subst hg; exact cell_lit w vs e h
theorem seven_one (f : Bool) (a : ByteArray) (b c : Bool) (A B : Option Addr) (n1 c1 n2 c2 : Nat) (m : Int) : ∀ u ∈ ([.bool f, .string a, .bool b, .bool c, .slice A n1 c1, .int .i64 m, .slice B n2 c2] : List Value), u.oneCell' = true := by
  intro u hu
  simp at hu
  rcases hu with rfl | rfl | rfl | rfl | rfl | rfl | rfl <;> rfl
set_option maxRecDepth 100000 in
set_option maxHeartbeats 4000000 in
theorem fillSlots_impl_any (l : List (List ByteArray)) (u : Value) (B : Nat) (w : World) (hl : l.length ≤ 1048576) (hs : ∀ x ∈ l, x.length ≤ 1048576) (r : Rd w B (strss l) u) (hB : B ≤ w.heap.size) :
    Calls Tryd.prog 18 #[u] w (FillGives (fillRes l) w) := by
  obtain ⟨A, cap, rfl, h0, h1, hrow⟩ := strss_row r
  unfold maxLen at h1
  clear r
  by_cases n3 : l.length = 3
  · have hi3 : ((l.length : Int) != 3) = false := by simp; omega
    have N3 := Lib.hid n3
    clear n3
    go_enter Tryd.func18, Tryd.ntmps18
    go_wp2_with fail
    go_loopw [4, 14] (fun v i wr => ∃ (j : Nat) (A' : Option Addr) (cap' : Nat), j ≤ l.length ∧ i = .int .i64 j ∧ v = .slice A' j cap' ∧ App w wr 64 7 (.slice A' j cap') j ((fillSl (l.take j)).flatMap slotF) ∧ ∀ (i : Nat) (hi : i < l.length), i < j → (slotOf l[i]).isSome = true) (fun _ i _ => l.length - (intOf i).toNat)
    case atStart => exact ⟨0, none, 0, Nat.zero_le _, rfl, rfl, App.nil w _ _ (Chg.refl _ _), fun i hi h => absurd h (Nat.not_lt_zero _)⟩
    case round =>
      obtain ⟨j, A', cap', hj, rfl, rfl, hh, HN⟩ := hrel
      have HN := Lib.hid HN
      have HA := Lib.hid hh
      have hcg := hh.chg
      have hsz := hcg.size
      clear hh
      by_cases hlt : j < l.length
      · obtain ⟨b, off, u1, rfl, hb, q0, r1⟩ := strss_cells (hrow.chg0 hcg hB) j hlt
        obtain ⟨A1, cap1, rfl, _, _, _⟩ := strs_row r1
        have hx := hs _ (List.getElem_mem hlt)
        by_cases hz : l[j].length = 0
        · have hnil : l[j] = [] := List.eq_nil_of_length_eq_zero hz
          have HS := Lib.hid (show slotOf l[j] = some ⟨false, zeroPart⟩ by rw [hnil]; rfl)
          have hzI : ((l[j].length : Int) == 0) = true := by simp; omega
          clear hnil hz
          go_wp2_with (at_builtin; refine wpList_app rfl (.tmp 21) (.tmp 23) _ rfl 64 _ 7 88 Tryd.underlying34 slot_info rfl (by omega) HA.out (us := [.bool false, .string ⟨#[]⟩, .bool false, .bool false, .slice none 0 0, .int .i64 0, .slice none 0 0]) (dsE := slotF ⟨false, zeroPart⟩) (newL_slot (newL_zero ((Chg.refl _ _).alloc _))) rfl (wr.heap.size) 1 rfl rfl (by intro i u hi; exact cell_litAt _ _ _ _ (by simp) (by simpa using hi)) (seven_one _ _ _ _ _ _ _ _ _ _ _) (by omega) (by omega) ?_; intro A2 cap2 w5 hA2)
          go_roundw
          case rel => exact ⟨j + 1, A2, cap2, by omega, by go_num, by go_num, by rw [fill_next hlt HS.out]; exact hA2, some_next hlt HN.out HS.out⟩
          case measure => simp [intOf]; omega
        · have hzI : ((l[j].length : Int) == 0) = false := beq_eq_false_iff_ne.2 (by omega)
          have hpos : 0 < l[j].length := by omega
          obtain ⟨q, rp, hq⟩ : ∃ q rp, makeOf l[j] = (q, rp) := ⟨_, _, rfl⟩
          have mp := makePart_impl_any l[j] _ B wr r1 (by omega) hx
          rw [hq] at mp
          have MP := Lib.hid mp
          have HQ := Lib.hid hq
          clear mp hq hz
          go_wp2_with fail
          refine MP.out.mono ?_
          rintro e w2 ⟨A7, cap7, A8, cap8, rfl, hN⟩
          have c2 := hN.chg
          have HN2 := Lib.hid hN
          have t2 : wr.heap.size ≤ w2.heap.size := c2.size
          clear hN
          by_cases hcode : rp.code = 0
          · have hd : (rp.code != 0) = false := by simp [hcode]
            have HS := Lib.hid (slotOf_good hpos HQ.out hcode)
            clear hcode
            go_wp2_with (at_builtin; refine wpList_app rfl (.tmp 33) (.tmp 36) _ rfl 64 _ 7 88 Tryd.underlying34 slot_info rfl (by omega) HA.out (us := [.bool true, .string q.core.kind, .bool q.core.on, .bool q.core.broken, .slice A7 q.core.cells.length cap7, .int .i64 q.core.count, .slice A8 q.layers.length cap8]) (dsE := slotF ⟨true, q⟩) (newL_slot (HN2.out.later (((Chg.refl _ _).alloc _).alloc _ |>.alloc _))) rfl (w2.heap.size + 1 + 1) 1 rfl rfl (by intro i u hi; exact cell_litAt _ _ _ _ (by simp) (by simpa using hi)) (seven_one _ _ _ _ _ _ _ _ _ _ _) (by omega) (by omega) ?_; intro A2 cap2 w5 hA2)
            go_roundw
            case rel => exact ⟨j + 1, A2, cap2, by omega, by go_num, by go_num, by rw [fill_next hlt HS.out]; exact hA2, some_next hlt HN.out HS.out⟩
            case measure => simp [intOf]; omega
          · have hd : (rp.code != 0) = true := by simp [hcode]
            have HS := Lib.hid (fillOk_not hlt (slotOf_bad hpos HQ.out hcode))
            clear hcode
            go_wp2_with fail
            go_ret2
            rw [fillRes_no HS.out]
            exact ⟨none, 0, rfl, (App.nil w 64 7 (((hcg.trans0 c2).alloc _).alloc _)).new⟩
      · obtain rfl : j = l.length := by omega
        have HA2 := HA.out
        rw [List.take_length] at HA2
        go_wp2_with fail
        go_ret2
        rw [fillRes_ok (fillOk_of N3.out HN.out)]
        have hlen : (fillSl l).length = l.length := by unfold fillSl; simp
        refine ⟨A', cap', ?_, ?_⟩
        · dsimp only
          rw [hlen]
          rfl
        · dsimp only
          rw [hlen]
          have := HA2.new
          unfold slots
          rw [hlen]
          exact this
  · have hi3 : ((l.length : Int) != 3) = true := by simp; omega
    go_enter Tryd.func18, Tryd.ntmps18
    go_wp2_with fail
    go_ret2
    rw [fillRes_no (fun h => n3 h.1)]
    exact ⟨none, 0, rfl, (App.nil w 64 7 (Chg.refl _ _)).new⟩
end Go.Proofs.YtapmknkelihacaaDoor
