/- FillSlots of the reference. Written by a program. -/
import Derived.Test.YtaegngbedeggbaaFill
namespace Go.Proofs.Ytaegngbedeggbaa
open Go.RowKit

set_option maxRecDepth 100000 in
set_option maxHeartbeats 1000000 in
theorem fillSlots_spec_any (l : List (List ByteArray)) (u : Value) (B : Nat) (w : World) (hl : l.length ≤ 1048576) (hs : ∀ x ∈ l, x.length ≤ 1048576) (r : Rd w B (strss l) u) (hB : B ≤ w.heap.size) :
    Calls Try.prog 18 #[u] w (FillGives (fillRes l) w) := by
  obtain ⟨A, cap, rfl, h0, h1, hrow⟩ := strss_row r
  unfold maxLen at h1
  clear r
  go_enter Try.func18, Try.ntmps18
  go_wp2_with fail
  go_loopw [4, 12] (fun v i wr => ∃ (j : Nat) (A' : Option Addr) (cap' : Nat), j ≤ l.length ∧ i = .int .i64 j ∧ v = .slice A' j cap' ∧ App w wr 65 7 (.slice A' j cap') j ((fillSl (l.take j)).flatMap slotF) ∧ ∀ (i : Nat) (hi : i < l.length), i < j → (slotOf l[i]).isSome = true) (fun _ i _ => l.length - (intOf i).toNat)
  case atStart => exact ⟨0, _, 0, Nat.zero_le _, rfl, rfl, App.empty w 65 7 (Chg.refl _ _), fun i hi h => absurd h (Nat.not_lt_zero _)⟩
  case round =>
    obtain ⟨j, A', cap', hj, rfl, rfl, hh, HN⟩ := hrel
    have HN := Lib.hid HN
    have HA := Lib.hid hh
    have hcg := hh.chg
    have hsz := hcg.size
    clear hh
    by_cases hlt : j < l.length
    · obtain ⟨b, off, u1, rfl, hb, q0, r1⟩ := strss_cells (hrow.chg0 hcg hB) j hlt
      obtain ⟨A1, cap1, rfl, _, _, _⟩ := strs_row r1
      have hx := hs _ (List.getElem_mem hlt)
      obtain ⟨q, rp, hq⟩ : ∃ q rp, makeOf l[j] = (q, rp) := ⟨_, _, rfl⟩
      have mp := makePart_spec_any l[j] _ B wr r1 (by omega) hx
      rw [hq] at mp
      have MP := Lib.hid mp
      have HQ := Lib.hid hq
      clear mp hq
      by_cases hz : l[j].length = 0
      · have hnil : l[j] = [] := List.eq_nil_of_length_eq_zero hz
        have HS := Lib.hid (show slotOf l[j] = some ⟨false, q⟩ by have := HQ.out; rw [hnil] at this ⊢; rw [makeOf] at this; cases this; rfl)
        have HZ := Lib.hid hz
        clear hnil hz
        go_wp2_with fail
        refine MP.out.mono ?_
        rintro e w2 ⟨A7, cap7, A8, cap8, rfl, hN⟩
        have HN2 := Lib.hid hN
        clear hN
        obtain ⟨n, hn⟩ : ∃ n, n = l[j].length := ⟨_, rfl⟩
        have hn0 : n = 0 := hn.trans HZ.out
        rw [← hn]
        clear hn
        subst hn0
        go_wp2_with (at_builtin; refine wpList_app rfl (.tmp 30) (.tmp 36) _ rfl 65 _ 7 88 Try.underlying25 slot_info rfl (by omega) HA.out (us := [.bool false, .string q.core.kind, .bool q.core.on, .bool q.core.broken, .slice A7 q.core.cells.length cap7, .int .i64 q.core.count, .slice A8 q.layers.length cap8]) (dsE := slotF ⟨false, q⟩) (newL_slot (HN2.out.later (((Chg.refl _ _).alloc _).alloc _ |>.alloc _))) rfl (w2.heap.size + 1 + 1) 1 rfl rfl (by intro i u hi; exact cell_litAt _ _ _ _ (by simp) (by simpa using hi)) (seven_one _ _ _ _ _ _ _ _ _ _ _) (by omega) (by omega) ?_; intro A2 cap2 w5 hA2)
        go_roundw
        case rel => exact ⟨j + 1, A2, cap2, by omega, by go_num, by go_num, by rw [fill_next hlt HS.out]; exact hA2, some_next hlt HN.out HS.out⟩
        case measure => simp [intOf]; omega
      · have hzI : (0 : Int) < (l[j].length : Int) := by omega
        have hpos : 0 < l[j].length := by omega
        clear hz
        go_wp2_with fail
        refine MP.out.mono ?_
        rintro e w2 ⟨A7, cap7, A8, cap8, rfl, hN⟩
        have c2 := hN.chg
        have HN2 := Lib.hid hN
        clear hN
        by_cases hcode : rp.code = 0
        · have hd : (rp.code != 0) = false := by simp [hcode]
          have HS := Lib.hid (slotOf_good hpos HQ.out hcode)
          clear hcode
          go_wp2_with (at_builtin; refine wpList_app rfl (.tmp 30) (.tmp 36) _ rfl 65 _ 7 88 Try.underlying25 slot_info rfl (by omega) HA.out (us := [.bool true, .string q.core.kind, .bool q.core.on, .bool q.core.broken, .slice A7 q.core.cells.length cap7, .int .i64 q.core.count, .slice A8 q.layers.length cap8]) (dsE := slotF ⟨true, q⟩) (newL_slot (HN2.out.later (((Chg.refl _ _).alloc _).alloc _ |>.alloc _))) rfl (w2.heap.size + 1 + 1) 1 rfl rfl (by intro i u hi; exact cell_litAt _ _ _ _ (by simp) (by simpa using hi)) (seven_one _ _ _ _ _ _ _ _ _ _ _) (by omega) (by omega) ?_; intro A2 cap2 w5 hA2)
          go_roundw
          case rel => exact ⟨j + 1, A2, cap2, by omega, by go_num, by go_num, by rw [fill_next hlt HS.out]; exact hA2, some_next hlt HN.out HS.out⟩
          case measure => simp [intOf]; omega
        · have hd : (rp.code != 0) = true := by simp [hcode]
          have HS := Lib.hid (fillOk_not hlt (slotOf_bad hpos HQ.out hcode))
          clear hcode
          go_wp2_with fail
          go_ret2
          rw [fillRes_no HS.out]
          exact ⟨_, 0, rfl, (App.emptyAt w 65 7 _ (((hcg.trans0 c2).alloc _).alloc _) (by simp)).new⟩
    · obtain rfl : j = l.length := by omega
      have HA2 := HA.out
      rw [List.take_length] at HA2
      by_cases n3 : l.length = 3
      · have hi3 : ((l.length : Int) != 3) = false := by simp; omega
        have N3 := Lib.hid n3
        clear n3
        go_wp2_with fail
        go_ret2
        rw [fillRes_ok (fillOk_of N3.out HN.out)]
        have hlen : (fillSl l).length = l.length := by unfold fillSl; simp
        refine ⟨A', cap', ?_, ?_⟩
        · dsimp only
          rw [hlen]
          rfl
        · dsimp only
          rw [hlen]
          have := HA2.new
          unfold slots
          rw [hlen]
          exact this
      · have hi3 : ((l.length : Int) != 3) = true := by simp; omega
        go_wp2_with fail
        go_ret2
        rw [fillRes_no (fun h => n3 h.1)]
        exact ⟨_, 0, rfl, (App.emptyAt w 65 7 _ hcg rfl).new⟩
end Go.Proofs.Ytaegngbedeggbaa
