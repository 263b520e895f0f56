/- l3At and l3Put of the reference: what they answer. Conditions: none. Written by a program. / Names of kinds and of adapters, drawn: l3Kind, l4Name of the reference. Conditions: none. Written by a program. / l4Fitting of the reference: an adapter, drawn. Conditions: none. Written by a program. / Inputs, and plans with inputs, drawn: l8Input, DrawPlan of the reference. Conditions: for DrawPlan, at most 5000 bytes, which read as bytes. Written by a program. / Valid cells, drawn: l3Cells of the reference. Conditions: none. Written by a program. -/
import Derived.Test.YtdlkbomojjmnlaaGreatDoorPlains
import Derived.Test.YtdlkbomojjmnlaaGreatDoorApps
import Derived.Test.YtdlkbomojjmnlaaGreatDoorCurs
import Derived.Test.YtdlkbomojjmnlaaGreatDoorNames
import Derived.Deep.Cut
import Derived.Test.YtdlkbomojjmnlaaGreatDoorDraw5
set_option maxRecDepth 100000
set_option maxHeartbeats 8000000
namespace Go.Proofs.YtdlkbomojjmnlaaGreatDoor
open Go.RowKit

theorem putS_first {k : ByteArray} {v : Int} {c : CellT} {l : List CellT} (h : Op.bytesLess c.key.toList k.toList = false) : putS k v false (c :: l) = [⟨k, v⟩] ++ ((if c.key = k then [] else [c]) ++ putS k v true l) := by
 rw [putS, h]; simp
theorem putS_lt {k : ByteArray} {v : Int} {c : CellT} {l : List CellT} (h : Op.bytesLess c.key.toList k.toList = true) : putS k v false (c :: l) = (if c.key = k then [] else [c]) ++ putS k v false l := by
 rw [putS, h]; simp
theorem putS_more {k : ByteArray} {v : Int} {c : CellT} {l : List CellT} : putS k v true (c :: l) = (if c.key = k then [] else [c]) ++ putS k v true l := by
 rw [putS]; simp
theorem geq_strs (a b : ByteArray) (W : World) : (binOp .geq 9 (.string a) (.string b)).run Tryz.prog W = .ok (.bool (!Op.bytesLess a.toList b.toList)) W := by
 simp [binOp, go_sem, Op.stringOp]
theorem l3At_is (l : List CellT) (key : ByteArray) (u : Value) (B : Nat) (w : World) (hr : Rd w B (cells l) u) (hB : B ≤ w.heap.size) :
  Calls Tryz.prog 161 #[u, .string key] w fun e w' => ((∃ (k : Nat) (hk : k < l.length), e = .returned (.int .i64 k) ∧ findC l key = some l[k].value) ∨ (e = .returned (.int .i64 (-1)) ∧ findC l key = none)) ∧ Chg [] w w' := by
 obtain ⟨A, cap, rfl, h0, h1, hrow⟩ := cells_row hr
 unfold maxLen at h1
 clear hr
 go_enter Tryz.func161, Tryz.ntmps161
 go_wp2_with fail
 go_loopw [9] (fun i wr => ∃ k : Nat, k ≤ l.length ∧ i = .int .i64 k ∧ Hid (∀ j (hj : j < l.length), j < k → l[j].key ≠ key) ∧ Chg [] w wr) (fun i _ => l.length - (intOf i).toNat)
 case atStart => exact ⟨0, Nat.zero_le _, rfl, Lib.hid (fun j _ h => absurd h (Nat.not_lt_zero _)), Chg.refl _ _⟩
 case round =>
  obtain ⟨k, hk, rfl, HN, hc⟩ := hrel
  by_cases hlt : k < l.length
  ·obtain ⟨b, off, rfl, hb, q0, q1⟩ := cells_cells (hrow.chg0 hc hB) k hlt
   have hcs := hc.size
   cases hq : (l[k].key.toList == key.toList)
   ·have hne : l[k].key ≠ key := fun e => by rw [e] at hq; simp at hq
    have HN2 := Lib.hid (fun j (hj : j < l.length) (hjk : j < k + 1) => (Nat.lt_succ_iff_lt_or_eq.1 hjk).elim (HN.out j hj) (fun e => by subst e; exact hne))
    clear hne
    go_wp2_with fail
    go_roundw
    case rel => exact ⟨k + 1, by omega, by go_num, HN2, hc.alloc _⟩
    case measure => simp [intOf]; omega
   ·have HF := Lib.hid (findC_at hlt HN.out (key_eq.1 (by simpa using hq)))
    go_wp2_with fail
    go_ret
    exact ⟨.inl ⟨k, hlt, rfl, HF.out⟩, hc.alloc _⟩
  ·obtain rfl : k = l.length := by omega
   have HF := Lib.hid (findC_none (k := key) fun c hc => by obtain ⟨j, hj, rfl⟩ := List.getElem_of_mem hc; exact HN.out j hj hj)
   go_wp2_with fail
   go_ret
   exact ⟨.inr ⟨rfl, HF.out⟩, hc⟩
theorem l3Put_is (l : List CellT) (key : ByteArray) (v : Int) (u : Value) (B : Nat) (w : World) (hr : Rd w B (cells l) u) (hB : B ≤ w.heap.size) (hl : l.length ≤ 1000) :
  Calls Tryz.prog 162 #[u, .string key, .int .i64 v] w (Gives (cells (putS key v false l)) w) := by
 obtain ⟨A, cap, rfl, h0, h1, hrow⟩ := cells_row hr
 unfold maxLen at h1
 clear hr
 go_enter Tryz.func162, Tryz.ntmps162
 go_wp2_with fail
 go_loopw [7, 8, 14] (fun o d i wr => ∃ (k : Nat) (A' : Option Addr) (cap' : Nat) (out : List CellT) (t : Bool), k ≤ l.length ∧ i = .int .i64 k ∧ d = .bool t ∧ o = .slice A' out.length cap' ∧ App w wr 188 2 (.slice A' out.length cap') out.length (out.flatMap cellF) ∧ out.length ≤ k + (if t then 1 else 0) ∧ Hid (putS key v false l = out ++ putS key v t (l.drop k))) (fun _ _ i _ => l.length - (intOf i).toNat)
 case atStart => exact ⟨0, _, 0, [], false, Nat.zero_le _, rfl, rfl, rfl, App.empty w _ _ (Chg.refl _ _), by simp, Lib.hid rfl⟩
 case round =>
  obtain ⟨k, A', cap', out, t, hkl, rfl, rfl, rfl, hh, hol, HO⟩ := hrel
  have hcg := hh.chg
  by_cases hlt : k < l.length
  ·obtain ⟨b, off, rfl, hb, q0, q1⟩ := cells_cells (hrow.chg0 hcg hB) k hlt
   have HD := Lib.hid (List.drop_eq_getElem_cons hlt)
   have hsz := hcg.size
   have hge := fun W => geq_strs l[k].key key W
   obtain ⟨c, hc⟩ : ∃ c, c = l[k] := ⟨_, rfl⟩
   rw [← hc] at q0 q1 HD hge
   clear hc
   have hob : out.length ≤ k + 1 := by cases t <;> simp at hol <;> omega
   cases t
   ·cases hg : Op.bytesLess c.key.toList key.toList
    ·have HG := Lib.hid hg
     rw [hg] at hge
     cases hq : (c.key.toList == key.toList)
     ·go_wp2_with (at_builtin; first | (refine wpList_appX rfl (.tmp 26) (.tmp 30) _ rfl 188 _ 2 24 Tryz.underlying45 cell_info rfl (by omega) hh (us := [.string key, .int .i64 v]) (dsE := cellF ⟨key, v⟩) ⟨[], HasL.cons_v (HasL.cons_v (HasL.nil _)), by simp, ((Chg.refl _ _).alloc _).alloc _⟩ rfl (wr.heap.size + 1) 1 rfl rfl (by intro j u hj; match j with | 0 | 1 => cases hj; go_simp | j + 2 => simp at hj) (by intro u hu; simp at hu; rcases hu with rfl | rfl <;> rfl) (by omega) (by omega) ?_; intro A2 cap2 w2 hA2 hst; obtain ⟨hs2, hst⟩ := hst; have b0 := (hst wr.heap.size (Nat.le_refl _) (by simp; omega) 0).trans (show _ = some (.string c.key) by go_simp); have b1 := (hst wr.heap.size (Nat.le_refl _) (by simp; omega) 1).trans (show _ = some (.int .i64 c.value) by go_simp)) | (refine wpList_app rfl (.tmp 36) (.tmp 38) _ rfl 188 _ 2 24 Tryz.underlying45 cell_info rfl (by omega) hA2 (us := [.string c.key, .int .i64 c.value]) (dsE := cellF c) ⟨[], HasL.cons_v (HasL.cons_v (HasL.nil _)), by simp, (Chg.refl _ _).alloc _⟩ rfl w2.heap.size 1 rfl rfl (by intro j u hj; match j with | 0 | 1 => cases hj; go_simp | j + 2 => simp at hj) (by intro u hu; simp at hu; rcases hu with rfl | rfl <;> rfl) (by omega) (by omega) ?_; intro A3 cap3 w3 hA3))
      go_roundw
      case rel => exact ⟨k + 1, A3, cap3, out ++ [⟨key, v⟩, c], true, by omega, by go_num, rfl, by simp, by simpa using hA3, by simp at hol ⊢; omega, (Lib.hid (by rw [HO.out, HD.out, putS_first HG.out, if_neg (fun e => by rw [e] at hq; simp at hq)]; simp))⟩
      case measure => simp [intOf]; omega
     ·go_wp2_with (at_builtin; first | (refine wpList_appX rfl (.tmp 26) (.tmp 30) _ rfl 188 _ 2 24 Tryz.underlying45 cell_info rfl (by omega) hh (us := [.string key, .int .i64 v]) (dsE := cellF ⟨key, v⟩) ⟨[], HasL.cons_v (HasL.cons_v (HasL.nil _)), by simp, ((Chg.refl _ _).alloc _).alloc _⟩ rfl (wr.heap.size + 1) 1 rfl rfl (by intro j u hj; match j with | 0 | 1 => cases hj; go_simp | j + 2 => simp at hj) (by intro u hu; simp at hu; rcases hu with rfl | rfl <;> rfl) (by omega) (by omega) ?_; intro A2 cap2 w2 hA2 hst; obtain ⟨hs2, hst⟩ := hst; have b0 := (hst wr.heap.size (Nat.le_refl _) (by simp; omega) 0).trans (show _ = some (.string c.key) by go_simp); have b1 := (hst wr.heap.size (Nat.le_refl _) (by simp; omega) 1).trans (show _ = some (.int .i64 c.value) by go_simp)))
      go_roundw
      case rel => exact ⟨k + 1, A2, cap2, out ++ [⟨key, v⟩], true, by omega, by go_num, rfl, by simp, by simpa using hA2, by simp at hol ⊢; omega, (Lib.hid (by rw [HO.out, HD.out, putS_first HG.out, if_pos (key_eq.1 (by simpa using hq))]; simp))⟩
      case measure => simp [intOf]; omega
    ·have HG := Lib.hid hg
     rw [hg] at hge
     cases hq : (c.key.toList == key.toList)
     ·go_wp2_with (at_builtin; first | (refine wpList_app rfl (.tmp 36) (.tmp 38) _ rfl 188 _ 2 24 Tryz.underlying45 cell_info rfl (by omega) hh (us := [.string c.key, .int .i64 c.value]) (dsE := cellF c) ⟨[], HasL.cons_v (HasL.cons_v (HasL.nil _)), by simp, ((Chg.refl _ _).alloc _).alloc _⟩ rfl (wr.heap.size + 1) 1 rfl rfl (by intro j u hj; match j with | 0 | 1 => cases hj; go_simp | j + 2 => simp at hj) (by intro u hu; simp at hu; rcases hu with rfl | rfl <;> rfl) (by omega) (by omega) ?_; intro A3 cap3 w3 hA3))
      go_roundw
      case rel => exact ⟨k + 1, A3, cap3, out ++ [c], false, by omega, by go_num, rfl, by simp, by simpa using hA3, by simp at hol ⊢; omega, (Lib.hid (by rw [HO.out, HD.out, putS_lt HG.out, if_neg (fun e => by rw [e] at hq; simp at hq)]; simp))⟩
      case measure => simp [intOf]; omega
     ·go_wp2_with fail
      go_roundw
      case rel => exact ⟨k + 1, A', cap', out, false, by omega, by go_num, rfl, by simp, by simpa using (hh.later ((Chg.refl _ _).alloc _)), by simp at hol ⊢; omega, Lib.hid (by rw [HO.out, HD.out, putS_lt HG.out, if_pos (key_eq.1 (by simpa using hq))]; simp)⟩
      case measure => simp [intOf]; omega
   ·cases hq : (c.key.toList == key.toList)
    ·go_wp2_with (at_builtin; first | (refine wpList_app rfl (.tmp 36) (.tmp 38) _ rfl 188 _ 2 24 Tryz.underlying45 cell_info rfl (by omega) hh (us := [.string c.key, .int .i64 c.value]) (dsE := cellF c) ⟨[], HasL.cons_v (HasL.cons_v (HasL.nil _)), by simp, ((Chg.refl _ _).alloc _).alloc _⟩ rfl (wr.heap.size + 1) 1 rfl rfl (by intro j u hj; match j with | 0 | 1 => cases hj; go_simp | j + 2 => simp at hj) (by intro u hu; simp at hu; rcases hu with rfl | rfl <;> rfl) (by omega) (by omega) ?_; intro A3 cap3 w3 hA3))
     go_roundw
     case rel => exact ⟨k + 1, A3, cap3, out ++ [c], true, by omega, by go_num, rfl, by simp, by simpa using hA3, by simp at hol ⊢; omega, (Lib.hid (by rw [HO.out, HD.out, putS_more, if_neg (fun e => by rw [e] at hq; simp at hq)]; simp))⟩
     case measure => simp [intOf]; omega
    ·go_wp2_with fail
     go_roundw
     case rel => exact ⟨k + 1, A', cap', out, true, by omega, by go_num, rfl, by simp, by simpa using (hh.later ((Chg.refl _ _).alloc _)), by simp at hol ⊢; omega, Lib.hid (by rw [HO.out, HD.out, putS_more, if_pos (key_eq.1 (by simpa using hq))]; simp)⟩
     case measure => simp [intOf]; omega
  ·obtain rfl : k = l.length := by omega
   have hob : out.length ≤ l.length + 1 := by cases t <;> simp at hol <;> omega
   cases t
   ·go_wp2_with (at_builtin; (refine wpList_app rfl (.tmp 43) (.tmp 47) _ rfl 188 _ 2 24 Tryz.underlying45 cell_info rfl (by omega) hh (us := [.string key, .int .i64 v]) (dsE := cellF ⟨key, v⟩) ⟨[], HasL.cons_v (HasL.cons_v (HasL.nil _)), by simp, (Chg.refl _ _).alloc _⟩ rfl wr.heap.size 1 rfl rfl (by intro j u hj; match j with | 0 | 1 => cases hj; go_simp | j + 2 => simp at hj) (by intro u hu; simp at hu; rcases hu with rfl | rfl <;> rfl) (by omega) (by omega) ?_; intro A3 cap3 w3 hA3))
    go_ret
    have e : putS key v false l = out ++ [⟨key, v⟩] := by have := HO.out; rw [List.drop_length] at this; exact this
    rw [e]
    exact ⟨_, rfl, by have := hA3.new; unfold cells; simpa using this⟩
   ·go_wp2_with fail
    go_ret
    have e : putS key v false l = out := by have := HO.out; rw [List.drop_length] at this; simpa [putS] using this
    rw [e]
    exact ⟨_, rfl, by have := hh.new; unfold cells; simpa using this⟩
end Go.Proofs.YtdlkbomojjmnlaaGreatDoor
namespace Go.Proofs.YtdlkbomojjmnlaaGreatDoor
open Go.RowKit

theorem l3Kind_any (k : Nat) (w : World) (hcur : Cur w k) :
  Calls Tryz.prog 111 #[.pointer (some ⟨k, 0, none⟩)] w (DrS k (fun s => s.size ≤ 16) w) := by
 have HM := Lib.hid (show ∀ x ∈ ([⟨#[115, 116, 111, 110, 101]⟩, ⟨#[108, 97, 109, 112]⟩, ⟨#[115, 104, 101, 108, 102]⟩, ⟨#[109, 101, 116, 101, 114]⟩, ⟨#[100, 114, 97, 119, 101, 114]⟩, ⟨#[100, 114, 97, 119, 101, 114]⟩, ⟨#[104, 111, 114, 110]⟩, ⟨#[118, 97, 117, 108, 116]⟩, ⟨#[118, 97, 117, 108, 116]⟩, ⟨#[114, 111, 98, 111, 116]⟩, ⟨#[114, 111, 98, 111, 116]⟩] : List ByteArray), x.size ≤ 16 from by decide)
 have HN := Lib.hid (show ∀ x ∈ ([⟨#[]⟩, ⟨#[76, 97, 109, 112]⟩, ⟨#[108, 97, 109, 112, 115]⟩, ⟨#[114, 111, 99, 107]⟩, ⟨#[107, 101, 101, 112]⟩] : List ByteArray), x.size ≤ 16 from by decide)
 go_enter Tryz.func111, Tryz.ntmps111
 go_wp2_with fail
 refine (l1Once_any k 14 w hcur).mono ?_
 rintro e w1 ⟨t, rfl, q1, k1⟩
 have hk := q1.lt
 cases t
 ·go_wp2_with fail
  refine (l1Str_any k [⟨#[115, 116, 111, 110, 101]⟩, ⟨#[108, 97, 109, 112]⟩, ⟨#[115, 104, 101, 108, 102]⟩, ⟨#[109, 101, 116, 101, 114]⟩, ⟨#[100, 114, 97, 119, 101, 114]⟩, ⟨#[100, 114, 97, 119, 101, 114]⟩, ⟨#[104, 111, 114, 110]⟩, ⟨#[118, 97, 117, 108, 116]⟩, ⟨#[118, 97, 117, 108, 116]⟩, ⟨#[114, 111, 98, 111, 116]⟩, ⟨#[114, 111, 98, 111, 116]⟩] w1.heap.size 11 _ (q1.keep0 ((Chg.refl _ _).alloc _)) (by decide) (by decide) (by omega) (by simp) (lit_strs rfl)).mono ?_
  rintro e w2 ⟨r, rfl, hr, q2, k2⟩
  go_wp2_with fail
  go_ret
  exact ⟨_, rfl, HM.out _ hr, q2, Chg.trans (k1.alloc _) k2 (fun x hx => .inl hx)⟩
 ·go_wp2_with fail
  refine (l1Str_any k [⟨#[]⟩, ⟨#[76, 97, 109, 112]⟩, ⟨#[108, 97, 109, 112, 115]⟩, ⟨#[114, 111, 99, 107]⟩, ⟨#[107, 101, 101, 112]⟩] w1.heap.size 5 _ (q1.keep0 ((Chg.refl _ _).alloc _)) (by decide) (by decide) (by omega) (by simp) (lit_strs rfl)).mono ?_
  rintro e w2 ⟨r, rfl, hr, q2, k2⟩
  go_wp2_with fail
  go_ret
  exact ⟨_, rfl, HN.out _ hr, q2, Chg.trans (k1.alloc _) k2 (fun x hx => .inl hx)⟩
theorem l4Name_any (k : Nat) (w : World) (hcur : Cur w k) :
  Calls Tryz.prog 119 #[.pointer (some ⟨k, 0, none⟩)] w (DrS k (fun s => s.size ≤ 16) w) := by
 have HM := Lib.hid (show ∀ x ∈ ([⟨#[112, 108, 97, 105, 110]⟩, ⟨#[114, 117, 110, 115]⟩, ⟨#[107, 101, 101, 112, 115]⟩, ⟨#[99, 111, 117, 110, 116, 115]⟩, ⟨#[99, 111, 117, 110, 116, 115]⟩, ⟨#[108, 97, 122, 121]⟩, ⟨#[108, 97, 122, 121]⟩, ⟨#[114, 101, 97, 100, 115]⟩, ⟨#[104, 101, 97, 114, 115]⟩, ⟨#[104, 101, 97, 108, 115]⟩, ⟨#[116, 119, 105, 99, 101]⟩] : List ByteArray), x.size ≤ 16 from by decide)
 have HN := Lib.hid (show ∀ x ∈ ([⟨#[]⟩, ⟨#[80, 108, 97, 105, 110]⟩, ⟨#[115, 97, 118, 101]⟩, ⟨#[99, 111, 117, 110, 116]⟩, ⟨#[108, 97, 109, 112]⟩] : List ByteArray), x.size ≤ 16 from by decide)
 go_enter Tryz.func119, Tryz.ntmps119
 go_wp2_with fail
 refine (l1Once_any k 16 w hcur).mono ?_
 rintro e w1 ⟨t, rfl, q1, k1⟩
 have hk := q1.lt
 cases t
 ·go_wp2_with fail
  refine (l1Str_any k [⟨#[112, 108, 97, 105, 110]⟩, ⟨#[114, 117, 110, 115]⟩, ⟨#[107, 101, 101, 112, 115]⟩, ⟨#[99, 111, 117, 110, 116, 115]⟩, ⟨#[99, 111, 117, 110, 116, 115]⟩, ⟨#[108, 97, 122, 121]⟩, ⟨#[108, 97, 122, 121]⟩, ⟨#[114, 101, 97, 100, 115]⟩, ⟨#[104, 101, 97, 114, 115]⟩, ⟨#[104, 101, 97, 108, 115]⟩, ⟨#[116, 119, 105, 99, 101]⟩] w1.heap.size 11 _ (q1.keep0 ((Chg.refl _ _).alloc _)) (by decide) (by decide) (by omega) (by simp) (lit_strs rfl)).mono ?_
  rintro e w2 ⟨r, rfl, hr, q2, k2⟩
  go_wp2_with fail
  go_ret
  exact ⟨_, rfl, HM.out _ hr, q2, Chg.trans (k1.alloc _) k2 (fun x hx => .inl hx)⟩
 ·go_wp2_with fail
  refine (l1Str_any k [⟨#[]⟩, ⟨#[80, 108, 97, 105, 110]⟩, ⟨#[115, 97, 118, 101]⟩, ⟨#[99, 111, 117, 110, 116]⟩, ⟨#[108, 97, 109, 112]⟩] w1.heap.size 5 _ (q1.keep0 ((Chg.refl _ _).alloc _)) (by decide) (by decide) (by omega) (by simp) (lit_strs rfl)).mono ?_
  rintro e w2 ⟨r, rfl, hr, q2, k2⟩
  go_wp2_with fail
  go_ret
  exact ⟨_, rfl, HN.out _ hr, q2, Chg.trans (k1.alloc _) k2 (fun x hx => .inl hx)⟩
end Go.Proofs.YtdlkbomojjmnlaaGreatDoor
namespace Go.Proofs.YtdlkbomojjmnlaaGreatDoor
open Go.RowKit

theorem l4Fitting_any (k : Nat) (f : Int) (w : World) (hcur : Cur w k) :
  Calls Tryz.prog 76 #[.pointer (some ⟨k, 0, none⟩), .int .i64 f] w (DrS k (fun s => s.size ≤ 16) w) := by
 have LN := Lib.hid (fun s W => layerNeeds_spec_any s W)
 have OF := Lib.hid (fun n W => offers_spec_any f n W)
 have NA := Lib.hid (fun W (hc : Cur W k) => l4Name_any k W hc)
 go_enter Tryz.func76, Tryz.ntmps76
 go_wp2_with fail
 refine (NA.out _ hcur).mono ?_
 rintro e w1 ⟨s, rfl, hs, q1, c1⟩
 have d1 := Lib.hid c1
 clear c1
 go_wp2_with fail
 go_loopw [5, 6] (fun v i wr => ∃ (z : ByteArray) (j : Nat), v = .string z ∧ i = .int .i64 (j : Int) ∧ j ≤ 6 ∧ Hid (z.size ≤ 16) ∧ Cur wr k ∧ Hid (Chg [k] w wr)) (fun _ i _ => 6 - (intOf i).toNat)
 case atStart => exact ⟨s, 0, rfl, rfl, by omega, Lib.hid hs, q1, d1⟩
 case round =>
  obtain ⟨z, j, rfl, rfl, hj, hz, hq, hd⟩ := hrel
  by_cases hj6 : j < 6
  case neg =>
   have hj6i : ¬ (j : Int) < 6 := by omega
   go_wp2_with fail
   go_ret
   exact ⟨z, rfl, hz.out, hq, hd.out⟩
  case pos =>
   have hj6i : (j : Int) < 6 := by omega
   have wj : IntKind.i64.wrap ((j : Int) + 1) = (j : Int) + 1 := wr_id (by omega) (by omega)
   go_wp2_with fail
   refine (LN.out z _).mono ?_
   rintro e w2 ⟨rfl, c2⟩
   have q2 := hq.keep0 c2
   have d2 := Lib.hid (hd.out.trans0 c2)
   obtain ⟨n, hn⟩ : ∃ n, n = ((layerOf z).map (·.1)).getD 0 := ⟨_, rfl⟩
   obtain ⟨ok, hok⟩ : ∃ ok, ok = ((layerOf z).map (·.1)).isSome := ⟨_, rfl⟩
   rw [← hn, ← hok]
   clear hn hok c2 hq hd
   cases ok
   case' false =>
    go_upto_region 8 with fail
    refine wp_called ?_
    intro x hx
    have K : Cur x k ∧ Chg [k] w x := by rw [hx]; exact ⟨q2.keep0 Chg.now, Chg.to d2.out⟩
    clear hx q2 d2
   case' true =>
    go_wp2_with fail
    refine (OF.out n _).mono ?_
    rintro e w3 ⟨t, rfl, ht, rfl⟩
    clear ht
    cases t
    case' false =>
     go_upto_region 8 with fail
     refine wp_called ?_
     intro x hx
     have K : Cur x k ∧ Chg [k] w x := by rw [hx]; exact ⟨q2.keep0 Chg.now, Chg.to d2.out⟩
     clear hx q2 d2
    case' true =>
     by_cases hp : z.toList = [112, 108, 97, 105, 110]
     case neg =>
      have hp2 : (z.toList == [112, 108, 97, 105, 110]) = false := by rw [beq_eq_false_iff_ne]; exact hp
      go_wp2_with fail
      go_ret
      exact ⟨z, rfl, hz.out, q2, d2.out⟩
     case' pos =>
      have hp2 : (z.toList == [112, 108, 97, 105, 110]) = true := by rw [hp]; rfl
      by_cases h4 : 4 < j
      case' pos =>
       have h4i : (4 : Int) < (j : Int) := by omega
       go_wp2_with fail
       go_ret
       exact ⟨z, rfl, hz.out, q2, d2.out⟩
      case' neg =>
       have h4i : ¬ (4 : Int) < (j : Int) := by omega
       go_upto_region 8 with fail
       refine wp_called ?_
       intro x hx
       have K : Cur x k ∧ Chg [k] w x := by rw [hx]; exact ⟨q2.keep0 Chg.now, Chg.to d2.out⟩
       clear hx q2 d2 hp hp2 h4 h4i
   all_goals
    obtain ⟨qx, dx⟩ := K
    have DX := Lib.hid dx
    clear dx
    go_wp2_with fail
    refine (NA.out _ qx).mono ?_
    rintro e w4 ⟨y, rfl, hy, q4, c4⟩
    have D4 := Lib.hid (DX.out.trans c4 (fun x hx => .inl hx))
    have HY := Lib.hid hy
    clear c4 DX qx hy
    go_wp2_with fail
    go_roundw
    case rel => exact ⟨y, j + 1, rfl, by first | rfl | go_num, by omega, HY, q4, D4⟩
    case measure => first | (simp [intOf]; omega) | (simp [intOf])
end Go.Proofs.YtdlkbomojjmnlaaGreatDoor
namespace Go.Proofs.YtdlkbomojjmnlaaGreatDoor
open Go.RowKit

theorem int_one {k : Nat} (w : World) (x : Int) : NewT [k] w (w.alloc (.cells #[.int .i64 x] 3)) (intC x) [.int .i64 x] := ⟨[], HasL.cons_v (HasL.nil _), by simp, (Chg.refl _ _).alloc _⟩
/-- A drawn input: ints. -/
def DrInts (k : Nat) (w : World) (e : Ending) (w' : World) : Prop := ∃ (l : List Int) (A : Option Addr) (cap : Nat), e = .returned (.slice A l.length cap) ∧ NewS [k] w w' (ints l) (.slice A l.length cap) ∧ l.length ≤ 10 ∧ Cur w' k
theorem l8Input_any (k : Nat) (w : World) (hcur : Cur w k) :
  Calls Tryz.prog 38 #[.pointer (some ⟨k, 0, none⟩)] w (DrInts k w) := by
 have hk := hcur.lt
 have BL := Lib.hid (fun n W (hc : Cur W k) => l1Below_any k n W hc)
 have ON := Lib.hid (fun n W (hc : Cur W k) => l1Once_any k n W hc)
 have OD := Lib.hid (fun W (hc : Cur W k) => l1Odd_any k W hc)
 have hT : Hid (∀ x ∈ [k], x < w.heap.size) := Lib.hid (by simpa using hk)
 go_enter Tryz.func38, Tryz.ntmps38
 go_wp2_with fail
 refine (BL.out 8 _ (hcur.keep0 ((Chg.refl _ _).alloc _))).mono ?_
 rintro e w1 ⟨r, rfl, ⟨r0, r1⟩, q1, c1⟩
 have r1 := r1 (by omega)
 obtain ⟨n, rfl⟩ : ∃ n : Nat, r = (n : Int) := ⟨r.toNat, by omega⟩
 have nm : n ≤ 9 := by omega
 have hA0 := Lib.hid ((AppT.empty (T := [k]) w 3 1 (Chg.refl _ _)).later c1 hT.out)
 clear r0 r1 c1
 go_wp2_with fail
 go_loopw [3, 4] (fun v n wr => ∃ (j : Nat) (l : List Int) (A : Option Addr) (cap : Nat), n = .int .i64 (j : Int) ∧ v = .slice A l.length cap ∧ l.length + j ≤ 9 ∧ Hid (AppT [k] w wr 3 1 (.slice A l.length cap) l.length (l.flatMap intC)) ∧ Hid (∀ x ∈ l, 0 ≤ x ∧ x ≤ 3) ∧ Cur wr k) (fun v n _ => (intOf n).toNat)
 case atStart => exact ⟨n, [], _, _, rfl, rfl, by simpa using nm, hA0, Lib.hid (by simp), q1⟩
 case round =>
  obtain ⟨j, l, A, cap, rfl, rfl, hlj, hA, hL, hq⟩ := hrel
  by_cases hj : 0 < j
  case neg =>
   obtain rfl : j = 0 := by omega
   go_wp2_with fail
   refine (ON.out 9 _ hq).mono ?_
   rintro e w2 ⟨ok, rfl, q2, c2⟩
   have hA2 := Lib.hid (hA.out.later c2 hT.out)
   clear c2 hA hq
   cases ok
   ·go_wp2_with fail
    go_ret
    exact ⟨l, A, cap, rfl, hA2.out.new, by omega, q2⟩
   ·go_wp2_with fail
    refine (OD.out _ q2).mono ?_
    rintro e w3 ⟨x, rfl, hx, q3, c3⟩
    have hA3 := Lib.hid (hA2.out.later c3 hT.out)
    have NT := Lib.hid (int_one (k := k) w3 x)
    have NW := Lib.hid ((Box.new w3 #[.int .i64 x] 3).c)
    have HONE := Lib.hid (show ∀ u ∈ ([.int .i64 x] : List Value), u.oneCell' = true by intro u hu; simp at hu; subst hu; rfl)
    clear c3 hA2 q2
    go_wp2_with (at_builtin; refine wpList_appT (T := [k]) rfl (.tmp 19) (.tmp 22) _ rfl 3 _ 1 8 Tryz.underlying25 int_info rfl (by omega) hA3.out hT.out NT.out rfl w3.heap.size 1 1 rfl rfl NW.out HONE.out (by omega) (by omega) ?_; intro A6 cap6 w6 hA6 hM6)
    go_ret
    exact ⟨l ++ [x], A6, cap6, by simp, by have := hA6.new; unfold ints; rw [List.flatMap_append, List.length_append]; simpa [intC] using this, by simp; omega, (q3.keep0 ((Chg.refl _ _).alloc _)).mid hM6 hk⟩
  case pos =>
   obtain ⟨j, rfl⟩ : ∃ m, j = m + 1 := ⟨j - 1, by omega⟩
   have hj0 : (0 : Int) < ((j + 1 : Nat) : Int) := by omega
   have wj : IntKind.i64.wrap (((j + 1 : Nat) : Int) - 1) = (j : Int) := by rw [wr_id (by omega) (by omega)]; omega
   go_wp2_with fail
   refine (BL.out 4 _ hq).mono ?_
   rintro e w2 ⟨x, rfl, ⟨x0, x4⟩, q2, c2⟩
   have x4 := x4 (by omega)
   have hA2 := Lib.hid (hA.out.later c2 hT.out)
   have NT := Lib.hid (int_one (k := k) w2 x)
   have NW := Lib.hid ((Box.new w2 #[.int .i64 x] 3).c)
   have HONE := Lib.hid (show ∀ u ∈ ([.int .i64 x] : List Value), u.oneCell' = true by intro u hu; simp at hu; subst hu; rfl)
   clear c2 hA hq
   go_wp2_with (at_builtin; refine wpList_appT (T := [k]) rfl (.tmp 12) (.tmp 15) _ rfl 3 _ 1 8 Tryz.underlying25 int_info rfl (by omega) hA2.out hT.out NT.out rfl w2.heap.size 1 1 rfl rfl NW.out HONE.out (by omega) (by omega) ?_; intro A6 cap6 w6 hA6 hM6)
   go_roundw
   case rel => exact ⟨j, l ++ [x], A6, cap6, by first | rfl | go_num, by simp, by simp; omega, Lib.hid (by simpa [List.flatMap_append, intC] using hA6), Lib.hid (fun y hy => by rcases List.mem_append.1 hy with hy | hy; exact hL.out y hy; simp at hy; omega), (q2.keep0 ((Chg.refl _ _).alloc _)).mid hM6 hk⟩
   case measure => first | (simp [intOf]; done) | (simp [intOf]; omega)
/-- A plan and an input, drawn. -/
def DrPI (w : World) (e : Ending) (w' : World) : Prop := ∃ (p : List ActionT) (A1 : Option Addr) (cap1 : Nat) (l : List Int) (A : Option Addr) (cap : Nat), e = .returned (.tuple #[.slice A1 p.length cap1, .slice A l.length cap]) ∧ PlanOk p ∧ actionsW p ≤ 26000 ∧ (∀ x ∈ l, 0 ≤ x ∧ x ≤ 3) ∧ l.length ≤ 9 ∧ ∃ S1 S2, Has w' (actions p) (.slice A1 p.length cap1) S1 ∧ Has w' (ints l) (.slice A l.length cap) S2 ∧ (∀ x, x ∈ S1 → w.heap.size ≤ x) ∧ (∀ x, x ∈ S2 → w.heap.size ≤ x) ∧ (∀ x, x ∈ S1 → x ∉ S2) ∧ Chg [] w w'
theorem drawPlan_any (A0 : Option Addr) (n0 cap0 : Nat) (w0 : World) (hn : n0 ≤ 5000) (hb : BytesAt w0 w0.heap.size A0 n0) :
  Calls Tryz.prog 15 #[.slice A0 n0 cap0] w0 (DrPI w0) := by
 have NE := Lib.hid (l1New_any A0 n0 cap0 w0 hn hb)
 clear hb
 go_enter Tryz.func15, Tryz.ntmps15
 go_wp2_with fail
 refine NE.out.mono ?_
 rintro e w1 ⟨k, rfl, hk0, q1, c1⟩
 have C1 := Lib.hid c1
 have DR := Lib.hid (l8Draw_any k w1 q1)
 have BL := Lib.hid (fun n W (hc : Cur W k) => l1Below_any k n W hc)
 clear NE c1
 go_wp2_with fail
 refine DR.out.mono ?_
 rintro e w ⟨p, A1, cap1, rfl, hAp, hok, hW, _, q2⟩
 have hk := q2.lt
 have hT : Hid (∀ x ∈ [k], x < w.heap.size) := Lib.hid (by simpa using hk)
 have NP := Lib.hid hAp.new
 have q1k := q1.lt
 clear hAp q1 DR
 go_wp2_with fail
 refine (BL.out 9 _ (q2.keep0 ((Chg.refl _ _).alloc _))).mono ?_
 rintro e w3 ⟨r, rfl, ⟨r0, r1⟩, q3, c3⟩
 have r1 := r1 (by omega)
 obtain ⟨n, rfl⟩ : ∃ n : Nat, r = (n : Int) := ⟨r.toNat, by omega⟩
 have nm : n ≤ 9 := by omega
 have hA0 := Lib.hid ((AppT.empty (T := [k]) w 3 1 (Chg.refl _ _)).later c3 hT.out)
 clear r0 r1 c3
 go_wp2_with fail
 go_loopw [6, 7] (fun v n wr => ∃ (j : Nat) (l : List Int) (A : Option Addr) (cap : Nat), n = .int .i64 (j : Int) ∧ v = .slice A l.length cap ∧ l.length + j ≤ 9 ∧ Hid (AppT [k] w wr 3 1 (.slice A l.length cap) l.length (l.flatMap intC)) ∧ Hid (∀ x ∈ l, 0 ≤ x ∧ x ≤ 3) ∧ Cur wr k) (fun v n _ => (intOf n).toNat)
 case atStart => exact ⟨n, [], _, _, rfl, rfl, by simpa using nm, hA0, Lib.hid (by simp), q3⟩
 case round =>
  obtain ⟨j, l, A, cap, rfl, rfl, hlj, hA, hL, hq⟩ := hrel
  by_cases hj : 0 < j
  case neg =>
   obtain rfl : j = 0 := by omega
   go_wp2_with fail
   go_ret2
   obtain ⟨S2, s1, s2, s3⟩ := hA.out.new
   obtain ⟨S1, p1, p2, p3⟩ := NP.out
   have lw := p1.lt
   have l1 := C1.out.size
   have l2 := p3.size
   exact ⟨p, A1, cap1, l, A, cap, rfl, hok, hW, hL.out, by omega, S1, S2, p1.keep s3 (fun x hx hy => by have := p2 x hx; have := q1k; simp at hy; omega), s1, fun x hx => Nat.le_trans l1 (p2 x hx), fun x hx => by have := s2 x hx; omega, fun x hx hy => by have := lw x hx; have := s2 x hy; omega, ((C1.out.mono (T := [k]) (by simp)).trans (p3.trans s3 (fun _ h => .inl h)) (fun _ h => .inl h)).mono (fun y hy => .inr (by simp at hy; omega))⟩
  case pos =>
   obtain ⟨j, rfl⟩ : ∃ m, j = m + 1 := ⟨j - 1, by omega⟩
   have hj0 : (0 : Int) < ((j + 1 : Nat) : Int) := by omega
   have wj : IntKind.i64.wrap (((j + 1 : Nat) : Int) - 1) = (j : Int) := by rw [wr_id (by omega) (by omega)]; omega
   go_wp2_with fail
   refine (BL.out 4 _ hq).mono ?_
   rintro e w2 ⟨x, rfl, ⟨x0, x4⟩, q2, c2⟩
   have x4 := x4 (by omega)
   have hA2 := Lib.hid (hA.out.later c2 hT.out)
   have NT := Lib.hid (int_one (k := k) w2 x)
   have NW := Lib.hid ((Box.new w2 #[.int .i64 x] 3).c)
   have HONE := Lib.hid (show ∀ u ∈ ([.int .i64 x] : List Value), u.oneCell' = true by intro u hu; simp at hu; subst hu; rfl)
   clear c2 hA hq
   go_wp2_with (at_builtin; refine wpList_appT (T := [k]) rfl (.tmp 19) (.tmp 22) _ rfl 3 _ 1 8 Tryz.underlying25 int_info rfl (by omega) hA2.out hT.out NT.out rfl w2.heap.size 1 1 rfl rfl NW.out HONE.out (by omega) (by omega) ?_; intro A6 cap6 w6 hA6 hM6)
   go_roundw
   case rel => exact ⟨j, l ++ [x], A6, cap6, by first | rfl | go_num, by simp, by simp; omega, Lib.hid (by simpa [List.flatMap_append, intC] using hA6), Lib.hid (fun y hy => by rcases List.mem_append.1 hy with hy | hy; exact hL.out y hy; simp at hy; omega), (q2.keep0 ((Chg.refl _ _).alloc _)).mid hM6 hk⟩
   case measure => first | (simp [intOf]; done) | (simp [intOf]; omega)
end Go.Proofs.YtdlkbomojjmnlaaGreatDoor
namespace Go.Proofs.YtdlkbomojjmnlaaGreatDoor
open Go.RowKit

theorem key_nm {s : ByteArray} (h : s ∈ ([⟨#[97]⟩, ⟨#[98]⟩, ⟨#[99]⟩, ⟨#[107]⟩, ⟨#[107, 50]⟩, ⟨#[122]⟩] : List ByteArray)) : IsNm s := by
 simp only [List.mem_cons, List.not_mem_nil, or_false] at h
 rcases h with rfl | rfl | rfl | rfl | rfl | rfl
 ·exact ⟨by decide, by decide, fun i h => match i, h with
  | 0, _ => .inl (show 97 ≤ (97 : UInt8).toNat ∧ (97 : UInt8).toNat ≤ 122 from by decide)
  | n + 1, h => absurd h (by show ¬ n + 1 < 1; omega)⟩
 ·exact ⟨by decide, by decide, fun i h => match i, h with
  | 0, _ => .inl (show 97 ≤ (98 : UInt8).toNat ∧ (98 : UInt8).toNat ≤ 122 from by decide)
  | n + 1, h => absurd h (by show ¬ n + 1 < 1; omega)⟩
 ·exact ⟨by decide, by decide, fun i h => match i, h with
  | 0, _ => .inl (show 97 ≤ (99 : UInt8).toNat ∧ (99 : UInt8).toNat ≤ 122 from by decide)
  | n + 1, h => absurd h (by show ¬ n + 1 < 1; omega)⟩
 ·exact ⟨by decide, by decide, fun i h => match i, h with
  | 0, _ => .inl (show 97 ≤ (107 : UInt8).toNat ∧ (107 : UInt8).toNat ≤ 122 from by decide)
  | n + 1, h => absurd h (by show ¬ n + 1 < 1; omega)⟩
 ·exact ⟨by decide, by decide, fun i h => match i, h with
  | 0, _ => .inl (show 97 ≤ (107 : UInt8).toNat ∧ (107 : UInt8).toNat ≤ 122 from by decide)
  | 1, _ => .inr ⟨by decide, show 48 ≤ (50 : UInt8).toNat ∧ (50 : UInt8).toNat ≤ 57 from by decide⟩
  | n + 2, h => absurd h (by show ¬ n + 2 < 2; omega)⟩
 ·exact ⟨by decide, by decide, fun i h => match i, h with
  | 0, _ => .inl (show 97 ≤ (122 : UInt8).toNat ∧ (122 : UInt8).toNat ≤ 122 from by decide)
  | n + 1, h => absurd h (by show ¬ n + 1 < 1; omega)⟩
theorem l3Key_nm (k : Nat) (w : World) (hcur : Cur w k) :
  Calls Tryz.prog 160 #[.pointer (some ⟨k, 0, none⟩)] w (DrS k IsNm w) := by
 have hk := hcur.lt
 have HL := Lib.hid (fun x (h : x ∈ ([⟨#[97]⟩, ⟨#[98]⟩, ⟨#[99]⟩, ⟨#[107]⟩, ⟨#[107, 50]⟩, ⟨#[122]⟩] : List ByteArray)) => key_nm h)
 go_enter Tryz.func160, Tryz.ntmps160
 go_wp2_with fail
 refine (l1Str_any k [⟨#[97]⟩, ⟨#[98]⟩, ⟨#[99]⟩, ⟨#[107]⟩, ⟨#[107, 50]⟩, ⟨#[122]⟩] w.heap.size 6 _ (hcur.keep0 ((Chg.refl _ _).alloc _)) (by decide) (by decide) (by omega) (by simp) (lit_strs rfl)).mono ?_
 rintro e w1 ⟨r, rfl, hr, q1, k1⟩
 go_wp2_with fail
 go_ret
 exact ⟨_, rfl, HL.out _ hr, q1, Chg.trans ((Chg.refl [k] w).alloc _) k1 (fun x hx => .inl hx)⟩
/-- Valid cells, drawn. -/
def DrCellsOk (k : Nat) (w : World) (e : Ending) (w' : World) : Prop := ∃ (l : List CellT) (A : Option Addr) (cap : Nat), e = .returned (.slice A l.length cap) ∧ NewS [k] w w' (cells l) (.slice A l.length cap) ∧ CellsOk l ∧ Cur w' k
theorem cellsOk_nil : CellsOk [] := ⟨by simp, fun k h => by simp at h⟩
theorem l3CellsOk_any (k : Nat) (w : World) (hcur : Cur w k) :
  Calls Tryz.prog 114 #[.pointer (some ⟨k, 0, none⟩)] w (DrCellsOk k w) := by
 have hk := hcur.lt
 have BL := Lib.hid (fun n W (hc : Cur W k) => l1Below_any k n W hc)
 have KY := Lib.hid (fun W (hc : Cur W k) => l3Key_nm k W hc)
 have HT := Lib.hid (show ∀ x ∈ [k], x < w.heap.size by simpa using hk)
 go_enter Tryz.func114, Tryz.ntmps114
 go_wp2_with fail
 refine (BL.out 6 _ (hcur.keep0 ((Chg.refl _ _).alloc _))).mono ?_
 rintro e w1 ⟨r, rfl, ⟨hr0, hr6⟩, q1, c1⟩
 have hr6 := hr6 (by omega)
 obtain ⟨n, rfl⟩ : ∃ n : Nat, r = (n : Int) := ⟨r.toNat, by omega⟩
 have hN0 := Lib.hid (((App.empty w 188 2 (Chg.refl [] w)).new.newS (T := [k])).later c1 HT.out)
 clear c1
 go_wp2_with fail
 go_loopw [3, 4] (fun v n wr => ∃ (j : Nat) (l : List CellT) (A : Option Addr) (cap : Nat), n = .int .i64 (j : Int) ∧ v = .slice A l.length cap ∧ j ≤ 5 ∧ Hid (NewS [k] w wr (cells l) (.slice A l.length cap)) ∧ Hid (CellsOk l) ∧ Cur wr k) (fun _ n _ => (intOf n).toNat)
 case atStart => exact ⟨n, [], _, _, rfl, rfl, by omega, hN0, Lib.hid cellsOk_nil, q1⟩
 case round =>
  obtain ⟨j, l, A, cap, rfl, rfl, hlj, hN, HOK, hq⟩ := hrel
  by_cases hj : 0 < j
  case neg =>
   obtain rfl : j = 0 := by omega
   go_wp2_with fail
   go_ret
   exact ⟨l, A, cap, rfl, hN.out, HOK.out, hq⟩
  case pos =>
   obtain ⟨i, rfl⟩ : ∃ i, j = i + 1 := ⟨j - 1, by omega⟩
   have hji : (0 : Int) < ((i + 1 : Nat) : Int) := by omega
   have wj : IntKind.i64.wrap (((i + 1 : Nat) : Int) - 1) = (i : Int) := by rw [wr_id (by omega) (by omega)]; omega
   go_wp2_with fail
   refine (KY.out _ hq).mono ?_
   rintro e w2 ⟨key, rfl, hkey, q2, c2⟩
   have HKEY := Lib.hid hkey
   have n2 := hN.out.later c2 HT.out
   have AT := Lib.hid (l3At_is l key _ _ w2 n2.rd (Nat.le_refl _))
   have n2 := Lib.hid n2
   clear c2 hN hkey
   go_wp2_with fail
   refine AT.out.mono ?_
   rintro e w3 ⟨hat, c3⟩
   have n3 := Lib.hid (n2.out.later (c3.mono (by simp)) HT.out)
   have q3 := q2.keep0 c3
   clear c3 AT n2 q2
   rcases hat with ⟨m, hm, rfl, hf⟩ | ⟨rfl, hf⟩
   ·have HF := Lib.hid (show findC l key ≠ none ∨ l.length < 4 from .inl (by rw [hf]; simp))
    have hm0 : (0 : Int) ≤ (m : Int) := by omega
    clear hf hm
    go_wp2_with fail
    refine (BL.out 30 _ q3).mono ?_
    rintro e w4 ⟨v, rfl, ⟨v0, v30⟩, q4, c4⟩
    have v30 := v30 (by omega)
    have n4 := n3.out.later c4 HT.out
    have PT := Lib.hid (l3Put_is l key v _ _ w4 n4.rd (Nat.le_refl _) (by have := HOK.out.1; omega))
    rw [putS_eq (cellsOk_asc HOK.out)] at PT
    have n4 := Lib.hid n4
    have HOK2 := Lib.hid (putC_ok HOK.out HKEY.out (show IsNum v from ⟨v0, by omega⟩) HF.out)
    clear c4
    go_wp2_with fail
    refine PT.out.mono ?_
    rintro e w5 G
    obtain ⟨A5, cap5, rfl, hN5⟩ := G.sl
    go_wp2_with fail
    go_roundw
    case rel => exact ⟨i, putC l key v, A5, cap5, by first | rfl | go_num, rfl, by omega, Lib.hid (hN5.newS.sooner n4.out.chg), HOK2, q4.keep0 hN5.chg⟩
    case measure => first | (simp [intOf]; done) | (simp [intOf]; omega)
   ·by_cases h4 : l.length < 4
    case pos =>
     have HF := Lib.hid (show findC l key ≠ none ∨ l.length < 4 from .inr h4)
     have h4i : (l.length : Int) < 4 := by omega
     clear hf
     go_wp2_with fail
     refine (BL.out 30 _ q3).mono ?_
     rintro e w4 ⟨v, rfl, ⟨v0, v30⟩, q4, c4⟩
     have v30 := v30 (by omega)
     have n4 := n3.out.later c4 HT.out
     have PT := Lib.hid (l3Put_is l key v _ _ w4 n4.rd (Nat.le_refl _) (by have := HOK.out.1; omega))
     rw [putS_eq (cellsOk_asc HOK.out)] at PT
     have n4 := Lib.hid n4
     have HOK2 := Lib.hid (putC_ok HOK.out HKEY.out (show IsNum v from ⟨v0, by omega⟩) HF.out)
     clear c4
     go_wp2_with fail
     refine PT.out.mono ?_
     rintro e w5 G
     obtain ⟨A5, cap5, rfl, hN5⟩ := G.sl
     go_wp2_with fail
     go_roundw
     case rel => exact ⟨i, putC l key v, A5, cap5, by first | rfl | go_num, rfl, by omega, Lib.hid (hN5.newS.sooner n4.out.chg), HOK2, q4.keep0 hN5.chg⟩
     case measure => first | (simp [intOf]; done) | (simp [intOf]; omega)
    case neg =>
     have h4i : ¬ (l.length : Int) < 4 := by omega
     clear hf
     go_wp2_with fail
     go_roundw
     case rel => exact ⟨i, l, A, cap, by first | rfl | go_num, rfl, by omega, n3, HOK, q3⟩
     case measure => first | (simp [intOf]; done) | (simp [intOf]; omega)
end Go.Proofs.YtdlkbomojjmnlaaGreatDoor
