/- Lists of lists of texts: their size, copies, comparison, marks. -/
import Derived.Test.YtaegngbedeggbaaFill2
import Derived.Test.YtaegngbedeggbaaStrs2
namespace Go.Proofs.Ytaegngbedeggbaa
open Go.RowKit

def strssW1 (l : List (List ByteArray)) : Nat := (l.map strsW).sum
def strssW (l : List (List ByteArray)) : Nat := l.length + strssW1 l
theorem strssW_mem {l : List (List ByteArray)} {a : List ByteArray} (h : a ∈ l) : strsW a ≤ strssW1 l := sum_mem strsW h
def strssN (l : List (List ByteArray)) : Nat := (l.map strsN).sum
def strssM (l : List (List ByteArray)) (k : Int) : List (List ByteArray) := mapK strsM strsN l k
theorem strssN_le (l : List (List ByteArray)) : strssN l ≤ strssW l := by
  unfold strssN strssW strssW1
  induction l with
  | nil => simp
  | cons a l ih =>
    simp only [List.map_cons, List.sum_cons, List.length_cons]
    have : strsN a ≤ strsW a := by rw [strsN_length]; unfold strsW; omega
    omega
theorem strssC_eq (s : List ByteArray) : strssC s = [strs s] := rfl
theorem strs_info : (Try.prog.info? 78).map (fun i => (i.zero, i.size, i.bytes)) = some (some (.slice none 0 0), 1, 24) := by kernel_rfl
set_option maxRecDepth 100000 in
set_option maxHeartbeats 1000000 in
theorem szStringSS_any (l : List (List ByteArray)) (left : Int) (u : Value) (B : Nat) (w : World) (h0 : 0 ≤ left) (hl : left ≤ 1048576) (hf : FitL [strss l]) (hr : Rd w B (strss l) u) (hBw : B ≤ w.heap.size) :
    Calls Try.prog 17 #[u, .int .i64 left] w (SzPost left (strssW l) w) := by
  obtain ⟨A, cap, rfl, h1, h2, hrow⟩ := strss_row hr
  unfold maxLen at h2
  have HF := Lib.hid hf
  clear hr hf
  go_enter Try.func17, Try.ntmps17
  go_wp2_with fail
  · go_ret
    exact ⟨_, rfl, Left.no (by unfold strssW; omega), Chg.refl _ _⟩
  go_loopw [1, 5] (fun r i wr => ∃ (k : Nat) (x : Int), k ≤ l.length ∧ i = .int .i64 k ∧ r = .int .i64 x ∧ Chg [] w wr ∧ 0 ≤ x ∧ x ≤ left ∧ Hid (x = left - l.length - strssW1 (l.take k))) (fun _ i _ => l.length - (intOf i).toNat)
  case atStart => exact ⟨0, _, Nat.zero_le _, rfl, rfl, Chg.refl _ _, by omega, by omega, by simp [strssW1, Hid]⟩
  case round =>
    obtain ⟨k, x, hk, rfl, rfl, hc, hx0, hxl, HX⟩ := hrel
    by_cases hlt : k < l.length
    · obtain ⟨b, off, u1, rfl, hb, q0, r1⟩ := strss_cells (hrow.chg0 hc hBw) k hlt
      obtain ⟨A1, cap1, rfl, _, _, _⟩ := strs_row r1
      have hsz : Hid (strssW1 (l.take (k + 1)) = strssW1 (l.take k) + strsW l[k] ∧ strssW1 (l.take (k + 1)) ≤ strssW1 l) := ⟨sum_take strsW l k hlt, sum_le strsW l (k + 1)⟩
      have hfk := Lib.hid (FitL_flatMap.1 (FitL_slice HF.out) _ (List.getElem_mem hlt))
      go_wp2_with fail
      refine (szStringS_any l[k] _ _ B _ (by omega) (by omega) hfk.out r1 (by have := hc.size; omega)).mono ?_
      rintro e w1 ⟨r1_, rfl, L1, C1⟩
      have D1 : Chg [] w w1 := hc.trans0 C1
      have bd1 := L1.bd (by omega)
      go_wp2_with fail
      · go_ret
        refine ⟨_, rfl, Left.no ?_, D1⟩
        have := HX.out; have := hsz.out
        simp only [Left] at L1
        unfold strssW
        omega
      · go_roundw
        case rel =>
          refine ⟨k + 1, r1_, by omega, by go_num, rfl, D1, by omega, by omega, ?_⟩
          have := HX.out; have := hsz.out
          simp only [Left] at L1
          show r1_ = _
          omega
        case measure => simp [intOf]; omega
    · go_wp2_with fail
      go_ret
      obtain rfl : k = l.length := by omega
      have h5 := HX.out
      rw [List.take_length] at h5
      exact ⟨_, rfl, Left.ok (by unfold strssW; omega) (by unfold strssW; omega), hc⟩
set_option maxRecDepth 100000 in
set_option maxHeartbeats 1000000 in
theorem toStringSS_any (l : List (List ByteArray)) (u : Value) (B : Nat) (w : World) (hl : strssW l ≤ 1048576) (hr : Rd w B (strss l) u) (hB : B ≤ w.heap.size) :
    Calls Try.prog 19 #[u] w (Gives (strss l) w) := by
  obtain ⟨A, cap, rfl, h0, h1, hrow⟩ := strss_row hr
  have hll : l.length ≤ 1048576 := by unfold strssW at hl; omega
  have hmk := fun W => run_make_row' (P := Try.prog) 41 78 (.slice none 0 0) 24 Try.underlying41 strs_info rfl .i64 .i64 l.length (by omega) (by omega) W
  unfold maxLen at h1
  clear hr
  go_enter Try.func19, Try.ntmps19
  go_wp2_with fail
  go_loopw [4] (fun i wr => ∃ k : Nat, k ≤ l.length ∧ i = .int .i64 k ∧ New w wr (.s l.length (filled strssC [.s 0 []] l k)) (.slice (some ⟨w.heap.size, 0, none⟩) l.length l.length)) (fun i _ => l.length - (intOf i).toNat)
  case atStart => exact ⟨0, Nat.zero_le _, rfl, by have := New.make w 78 #[.slice none 0 0] 1 rfl (by omega) [.s 0 []] (fun w => (show HasL w [.s 0 []] [.slice none 0 0] [] from HasL.cons_nil (HasL.nil _)).1) strssC l l.length rfl (by unfold maxLen; omega); rwa [Nat.mul_one] at this⟩
  case round =>
    obtain ⟨k, hk, rfl, hh⟩ := hrel
    by_cases hlt : k < l.length
    · obtain ⟨b, off, u1, rfl, hb, q0, r1⟩ := strss_cells (hrow.chg0 hh.chg hB) k hlt
      obtain ⟨A1, cap1, rfl, _, _, _⟩ := strs_row r1
      have hwt := strssW_mem (List.getElem_mem hlt)
      go_wp2_with fail
      refine (toStringS_any l[k] _ B _ (by unfold strssW at hl; omega) r1 (by have := hh.chg.size; omega)).mono ?_
      intro e w1 G1
      obtain ⟨A2, cap2, rfl, n1⟩ := G1.sl
      have nl : NewL wr w1 (strssC l[k]) [.slice A2 l[k].length cap2] := n1.elim fun S x => ⟨S, HasL.one x.1, x.2⟩
      have hset := hh.fill strssC_len rfl hlt nl
      have hh1 := hh.later n1.chg
      obtain ⟨rm0, x0, rc0⟩ := hh1.room (j := k) (by rw [filled_length strssC_len rfl _ _ hk]; omega)
      rw [Nat.mul_one] at hset
      go_wp2_with fail
      go_roundw
      case rel => exact ⟨k + 1, by omega, by go_num, hset⟩
      case measure => simp [intOf]; omega
    · obtain rfl : k = l.length := by omega
      rw [filled_all] at hh
      go_wp2_with fail
      go_ret
      exact ⟨_, rfl, hh⟩
set_option maxRecDepth 100000 in
set_option maxHeartbeats 1000000 in
theorem eqStringSS_same (l : List (List ByteArray)) (u v : Value) (B B' : Nat) (w : World) (hr : Rd w B (strss l) u) (hs : Rd w B' (strss l) v) (hB : B ≤ w.heap.size) (hB' : B' ≤ w.heap.size) :
    Calls Try.prog 21 #[u, v] w fun e w' => e = .returned (.bool true) ∧ Chg [] w w' := by
  obtain ⟨A, cap, rfl, h0, h1, hrow⟩ := strss_row hr
  obtain ⟨A', cap', rfl, h0', h1', hrow'⟩ := strss_row hs
  unfold maxLen at h1 h1'
  clear hr hs
  go_enter Try.func21, Try.ntmps21
  go_wp2_with fail
  go_loopw [5] (fun i wr => ∃ k : Nat, k ≤ l.length ∧ i = .int .i64 k ∧ Chg [] w wr) (fun i _ => l.length - (intOf i).toNat)
  case atStart => exact ⟨0, Nat.zero_le _, rfl, Chg.refl _ _⟩
  case round =>
    obtain ⟨k, hk, rfl, hc⟩ := hrel
    by_cases hlt : k < l.length
    · obtain ⟨b, off, u1, rfl, hb, q0, r1⟩ := strss_cells (hrow.chg0 hc hB) k hlt
      obtain ⟨b', off', v1, rfl, hb', p0, s1⟩ := strss_cells (hrow'.chg0 hc hB') k hlt
      obtain ⟨A1, cap1, rfl, _, _, _⟩ := strs_row r1
      obtain ⟨A2, cap2, rfl, _, _, _⟩ := strs_row s1
      have el := fun W (hW : Chg [] wr W) => eqStringS_same l[k] _ _ B B' W (r1.chg0 hW (by have := hc.size; omega)) (s1.chg0 hW (by have := hc.size; omega)) (by have := hc.size; have := hW.size; omega) (by have := hc.size; have := hW.size; omega)
      have EL := Lib.hid el
      clear el
      go_wp2_with fail
      go_still_tail 8, (by kernel_rfl)
      change wpList _ _ _ _ _ wr.drew
      go_wp2_with fail
      refine (EL.out _ ((Chg.refl _ _).drew)).mono ?_; rintro e w1 ⟨rfl, c1⟩
      go_wp2_with fail
      go_roundw
      case rel => exact ⟨k + 1, by omega, by go_num, hc.drew.trans0 c1⟩
      case measure => simp [intOf]; omega
    · obtain rfl : k = l.length := by omega
      go_wp2_with fail
      go_ret
      exact ⟨rfl, hc⟩
set_option maxRecDepth 100000 in
set_option maxHeartbeats 2000000 in
theorem markStringSS_any (l : List (List ByteArray)) (u : Value) (S : List Nat) (k0 : Int) (w : World) (hk0 : 0 ≤ k0) (hkb : k0 + strssN l ≤ 100000000) (hh : Has w (strss l) u S) :
    Calls Try.prog 22 #[u, .int .i64 k0] w fun e w' => e = .returned (.int .i64 (k0 + strssN l)) ∧ Has w' (strss (strssM l k0)) u S ∧ Chg S w w' := by
  obtain ⟨A, cap, rfl, h0, h1, _⟩ := hh.rd.at_
  unfold maxLen at h1
  go_enter Try.func22, Try.ntmps22
  go_wp2_with fail
  go_loopw [1, 5] (fun r i wr => ∃ (i' : Nat) (k : Int), i' ≤ l.length ∧ i = .int .i64 i' ∧ r = .int .i64 k ∧ 0 ≤ k ∧ k ≤ 100000000 ∧ Hid (k = k0 + ((l.take i').map strsN).sum) ∧ Has wr (.s l.length ((mapK strsM strsN (l.take i') k0 ++ l.drop i').flatMap strssC)) (.slice A l.length cap) S ∧ Chg S w wr) (fun _ i _ => l.length - (intOf i).toNat)
  case atStart => exact ⟨0, k0, Nat.zero_le _, rfl, rfl, hk0, by omega, by simp [Hid], by simp only [List.take_zero, mapK, List.nil_append, List.drop_zero]; exact hh, Chg.refl _ _⟩
  case round =>
    obtain ⟨i, k, hi, rfl, rfl, hk1, hk2, hkq, H0, hc⟩ := hrel
    by_cases hlt : i < l.length
    · obtain ⟨g, rfl, hgS⟩ := H0.own (by omega)
      have hn1 : k + strsN l[i] ≤ 100000000 := by
        have := sum_take strsN l i hlt; have := sum_le strsN l (i + 1); have := hkq.out; unfold strssN at hkb; omega
      rw [marking_at l k0 i hlt, strssC_eq] at H0
      have hX := marking_X (M := strsM) (N := strsN) strssC_len l k0 i hlt
      rw [Nat.mul_one] at hX
      obtain ⟨u1, _, q1, _, _, _⟩ := H0.subAt hX (j := 0) rfl
      rw [Nat.add_zero] at q1
      go_wp2_with fail
      obtain ⟨S1, hs1, hS1, back1⟩ := H0.subOf hX (j := 0) rfl (u := u1) (by rw [Nat.add_zero]; exact q1)
      refine (markStringS_any l[i] _ _ _ _ (by omega) (by omega) hs1).mono ?_; rintro e w2 ⟨rfl, hm2, c2⟩
      have H2 := back1 _ _ c2 hm2
      have D2 : Chg S w w2 := Chg.trans hc c2 (fun x hx => .inl (hS1 x hx))
      go_wp2_with fail
      go_roundw
      case rel =>
        have e1 : ((l.take (i + 1)).map strsN).sum = ((l.take i).map strsN).sum + strsN l[i] := sum_take strsN l i hlt
        have e2 := hkq.out
        refine ⟨i + 1, _, by omega, by go_num, rfl, by omega, by omega, ?_, ?_, D2⟩
        · show _ = _
          rw [e1]; omega
        · rw [marking_next l k0 i hlt, ← e2]; exact H2
      case measure => simp [intOf]; omega
    · obtain rfl : i = l.length := by omega
      go_wp2_with fail
      go_ret
      have h5 := hkq.out
      rw [List.take_length, List.drop_length, List.append_nil] at H0
      rw [List.take_length] at h5
      refine ⟨ret_text h5, ?_, hc⟩
      show Has _ (.s (mapK strsM strsN l k0).length ((mapK strsM strsN l k0).flatMap strssC)) _ _
      rw [mapK_length]
      exact H0
end Go.Proofs.Ytaegngbedeggbaa
