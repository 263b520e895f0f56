/- IsPlan of the program. Conditions: the library's variables stand. / Copies of slots, of both packages. Conditions: none. Written by a program. -/
import Derived.Test.YtdlkbomojjmnlaaGreatDoorIsActP
import Derived.Test.YtdlkbomojjmnlaaGreatDoorIsActs
import Derived.Test.YtdlkbomojjmnlaaGreatDoorWraps
import Derived.Test.YtdlkbomojjmnlaaGreatDoorParts
import Derived.BigRegion
import Derived.Deep.RegionLaw
set_option maxRecDepth 100000
set_option maxHeartbeats 4000000
namespace Go.Proofs.YtdlkbomojjmnlaaGreatDoor
open Go.RowKit

theorem isPlan_impl_any (l : List ActionT) (u : Value) (B : Nat) (w : World) (hE : Env w) (hW : actionsW l ≤ 1048576) (hr : Rd w B (actions l) u) (hB : B ≤ w.heap.size) :
  Calls Tryz.prog 11 #[u] w (BoolPost (PlanOk l) w) := by
 have PS := Lib.hid (planSize_impl_law l u B w hW hr hB)
 have PD := Lib.hid (fun W (hc : Chg [] w W) => planDepth_impl_law l u B W hW (hr.chg0 hc hB) (Nat.le_trans hB hc.size))
 have PA := Lib.hid (fun W (hc : Chg [] w W) => areActions_any l u B W (hE.keep hc) hW (hr.chg0 hc hB) (Nat.le_trans hB hc.size))
 obtain ⟨A, cap, rfl, _, _, _⟩ := actions_row hr
 clear hr hW hE
 go_enter Tryz.func11, Tryz.ntmps11
 go_wp2_with fail
 refine PS.out.mono ?_
 rintro e w1 ⟨rfl, c1⟩
 by_cases h1 : sizeL l ≤ 14
 ·go_wp2_with fail
  refine (PD.out _ c1).mono ?_
  rintro e w2 ⟨rfl, c2⟩
  by_cases h2 : depthL l ≤ 3
  ·go_wp2_with fail
   refine (PA.out _ (c1.trans0 c2)).mono ?_
   rintro e w3 ⟨t, rfl, ht, c3⟩
   have HT := Lib.hid ht
   clear ht
   go_wp2_with fail
   all_goals (go_ret; exact BoolPost.of (by unfold PlanOk; have := HT.out; simp [h1, h2, this]) ((c1.trans0 c2).trans0 c3))
  ·go_wp2_with fail
   go_ret
   exact BoolPost.of ⟨fun h => by simp at h, fun h => absurd h.2.1 h2⟩ (c1.trans0 c2)
 ·go_wp2_with fail
  go_ret
  exact BoolPost.of ⟨fun h => by simp at h, fun h => absurd h.1 h1⟩ c1
end Go.Proofs.YtdlkbomojjmnlaaGreatDoor
namespace Go.Proofs.YtdlkbomojjmnlaaGreatDoor
open Go.RowKit

theorem PartNew.newL {p : PartT} {w w1 : World} {A3 : Option Addr} {c3 : Nat} {A5 : Option Addr} {c5 : Nat} (h : PartNew p w w1 (.slice A3 p.core.cells.length c3) (.slice A5 p.layers.length c5)) :
  NewL w w1 (partF p) [.string p.core.kind, .bool p.core.on, .bool p.core.broken, .slice A3 p.core.cells.length c3, .int .i64 p.core.count, .slice A5 p.layers.length c5] := by
 obtain ⟨⟨S3, h3, hS⟩, hA⟩ := h
 exact part_newL h3 (fun x hx => (hS x hx).1) hA (fun x hx => (hS x hx).2)
theorem newL_slotC {w w' : World} {f : Bool} {p : PartT} {us : List Value} (h : NewL w w' (partF p) us) : NewL w w' (slotF ⟨f, p⟩) (.bool f :: us) := h.cons_v
theorem cell_litC (w : World) (vs : Array Value) (e : TypeId) (g : Nat) (hg : g = w.heap.size) (j : Nat) (u : Value) (h : vs.toList[j]? = some u) : (w.alloc (.cells vs e)).cell? ((⟨g, 0, none⟩ : Addr).add j) = some u := by
 have hadd : (⟨g, 0, none⟩ : Addr).add j = ⟨g, j, none⟩ := by unfold Addr.add; split <;> simp_all
 rw [hadd]
 subst hg
 exact cell_lit w vs e (by simpa using h)
theorem seven_oneC (f : Bool) (a : ByteArray) (b c : Bool) (A B : Option Addr) (n1 c1 n2 c2 : Nat) (m : Int) : ∀ u ∈ ([.bool f, .string a, .bool b, .bool c, .slice A n1 c1, .int .i64 m, .slice B n2 c2] : List Value), u.oneCell' = true := by
 intro u hu
 simp at hu
 rcases hu with rfl | rfl | rfl | rfl | rfl | rfl | rfl <;> rfl
theorem copySlots_any (l : List SlotT) (u : Value) (B : Nat) (w : World) (hl : l.length ≤ 1048576) (sm : ∀ s ∈ l, SlotSmall s) (r : Rd w B (slots l) u) (hB : B ≤ w.heap.size) :
  Calls Tryz.prog 48 #[u] w (Gives (slots l) w) := by
 obtain ⟨A, cap, rfl, h0, h1, hrow⟩ := slots_row r
 unfold maxLen at h1
 clear r
 go_enter Tryz.func48, Tryz.ntmps48
 go_wp2_with fail
 go_loopw [3, 8] (fun v i wr => ∃ (j : Nat) (A' : Option Addr) (cap' : Nat), j ≤ l.length ∧ i = .int .i64 j ∧ v = .slice A' j cap' ∧ App w wr 52 7 (.slice A' j cap') j ((l.take j).flatMap slotF)) (fun _ i _ => l.length - (intOf i).toNat)
 case atStart => exact ⟨0, none, 0, Nat.zero_le _, rfl, rfl, App.nil w _ _ (Chg.refl _ _)⟩
 case round =>
  obtain ⟨j, A', cap', hj, rfl, rfl, hh⟩ := hrel
  have HA := Lib.hid hh
  have hcg := hh.chg
  have hsz := hcg.size
  clear hh
  by_cases hlt : j < l.length
  ·obtain ⟨b, off, u4, u6, rfl, hb, q0, q1, q2, q3, q4, q5, q6, r4, r6⟩ := slots_cells (hrow.chg0 hcg hB) j hlt
   obtain ⟨A4, cap4, rfl, _, _, _⟩ := cells_row r4
   obtain ⟨A6, cap6, rfl, _, _, _⟩ := layers_row r6
   obtain ⟨sm2, sm1, _⟩ := sm _ (List.getElem_mem hlt)
   have hlt2 : (j : Int) < (l.length : Int) := by omega
   have CP := Lib.hid (fun W (hW : Chg [] wr W) => copyPart_any l[j].part _ _ B W sm1 sm2 (r4.chg0 hW (by omega)) (r6.chg0 hW (by omega)) (by have := hW.size; omega))
   have hnx : Hid ((l.take (j + 1)).flatMap slotF = (l.take j).flatMap slotF ++ slotF l[j]) := Lib.hid (by rw [List.take_succ_eq_append_getElem hlt, List.flatMap_append, List.flatMap_cons, List.flatMap_nil, List.append_nil])
   have hbw : b < wr.heap.size := by omega
   clear r4 r6 sm1 sm2 hcg
   go_wp2_with fail
   go_region_law (first | (go_simp; go_at_call 81; (with_reducible refine (CP.out _ Chg.now).mono ?_); rintro e w2 ⟨P3, f3, P5, f5, rfl, n1⟩; (have n2 := n1.newL); (have c2 := n2.chg); (have s2 := c2.size); (have v2 : wr.heap.size + 1 ≤ w2.heap.size := by (try simp at s2) <;> omega); (have yn2 := c2.ce wr.heap.size); (have HN2 := Lib.hid (n2.sooner (show Chg [] wr _ from Chg.now))); clear c2 n1 n2 s2; simp only []) | (refine step_appN rfl (.tmp 12) (.tmp 19) _ rfl rfl rfl (run_appM _ _ 52 _ 7 88 Tryz.underlying26 slot_info rfl (by omega) HA.out (us := [.bool l[j].full, .string l[j].part.core.kind, .bool l[j].part.core.on, .bool l[j].part.core.broken, .slice P3 l[j].part.core.cells.length f3, .int .i64 l[j].part.core.count, .slice P5 l[j].part.layers.length f5]) (dsE := slotF l[j]) (newL_slotC (HN2.out.later Chg.now)) ⟨w2.heap.size, 0, none⟩ 1 1 rfl (fun i u hi => cell_litC _ _ _ _ (by simp) i u hi) (seven_oneC _ _ _ _ _ _ _ _ _ _ _) (by omega) (by omega)) ?_; rintro A2 cap2 w5 ⟨hA2, _, _⟩; simp only []) | fail)
   all_goals
    go_wp2_with fail
    go_roundw
    case rel => exact ⟨j + 1, A2, cap2, by omega, by go_num, by go_num, by rw [hnx.out]; exact hA2⟩
    case measure => simp [intOf]; omega
  ·obtain rfl : j = l.length := by omega
   have HA2 := HA.out
   rw [List.take_length] at HA2
   go_wp2_with fail
   go_ret
   exact ⟨_, rfl, HA2.new⟩
end Go.Proofs.YtdlkbomojjmnlaaGreatDoor
