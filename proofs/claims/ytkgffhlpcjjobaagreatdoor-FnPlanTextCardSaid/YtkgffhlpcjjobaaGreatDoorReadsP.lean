/- The program's reader of plans: take, list and block, from what action does. Conditions: the tables, variables and words stand as they are laid. / The program's reader of plans: a block, from what list does. Conditions: the tables, variables and words stand as they are laid. / The program's reader of plans: an action, from what block does. Conditions: the tables, variables and words stand as they are laid. Written by a program. / ParsePlan of the program. Conditions: the tables, variables and words stand as they are laid. -/
import Derived.Test.YtkgffhlpcjjobaaGreatDoorCallsP
import Derived.Test.YtkgffhlpcjjobaaGreatDoorParses
import Derived.Test.YtkgffhlpcjjobaaGreatDoorApps
import Derived.LoopN
import Derived.Lib.MinMax
import Derived.Test.YtkgffhlpcjjobaaGreatDoorPlanOk
import Derived.Test.YtkgffhlpcjjobaaGreatDoorTexts2
namespace Go.Proofs.YtkgffhlpcjjobaaGreatDoor
open Go.RowKit

/-- A reader in block k: what is left of the text. -/
structure Rdr (w : World) (k : Nat) (s : ByteArray) : Prop where
  c : w.cell? ⟨k, 0, none⟩ = some (.string s)
  f : w.frozen? ⟨k, 0, none⟩ = false
theorem Rdr.lt {w : World} {k : Nat} {s : ByteArray} (h : Rdr w k s) : k < w.heap.size := lt_of_cell h.c
theorem Rdr.keep {w w' : World} {k : Nat} {s : ByteArray} {S : List Nat} (h : Rdr w k s) (hc : Chg S w w') (hS : k ∉ S) : Rdr w' k s :=
  ⟨(hc.cell (p := ⟨k, 0, none⟩) h.lt hS).trans h.c, (hc.frozen (p := ⟨k, 0, none⟩) h.lt hS).trans h.f⟩
theorem Rdr.keep0 {w w' : World} {k : Nat} {s : ByteArray} (h : Rdr w k s) (hc : Chg [] w w') : Rdr w' k s := h.keep hc (by simp)
theorem Rdr.set {w : World} {k : Nat} {s : ByteArray} (h : Rdr w k s) (t : ByteArray) : Rdr (w.setCell ⟨k, 0, none⟩ (.string t)) k t :=
  ⟨World.cell?_setCell_same _ _ _ h.c, by simpa using h.f⟩
theorem Rdr.mid {w w' : World} {k a b : Nat} {s : ByteArray} (h : Rdr w k s) (hm : Mid a b w w') (hk : k < a) : Rdr w' k s :=
  ⟨(hm.cell (.inl hk) h.lt 0).trans h.c, (hm.frozen (.inl hk) h.lt 0).trans h.f⟩
def rdSz (w : World) (k : Nat) : Nat := match w.cell? ⟨k, 0, none⟩ with | some (.string s) => s.size | _ => 0
theorem Rdr.sz {w : World} {k : Nat} {s : ByteArray} (h : Rdr w k s) : rdSz w k = s.size := by unfold rdSz; rw [h.c]
/-- What 'take' does. -/
def TakeP (k : Nat) (s p : ByteArray) (w : World) (e : Ending) (w' : World) : Prop :=
  e = .returned (.bool (p.data.toList.isPrefixOf s.data.toList)) ∧ w' = if p.data.toList.isPrefixOf s.data.toList then w.setCell ⟨k, 0, none⟩ (.string (bytesOf (s.data.toList.drop p.size))) else w
set_option maxRecDepth 100000 in
set_option maxHeartbeats 4000000 in
theorem take_any (k : Nat) (s p : ByteArray) (w : World) (h : Rdr w k s) :
    Calls Tryz.prog 62 #[.pointer (some ⟨k, 0, none⟩), .string p] w (TakeP k s p w) := by
  have hc := h.c
  have hf := h.f
  have hl := h.lt
  have CP := Tryz.strings_CutPrefix s p
  unfold TakeP
  cases hp : p.data.toList.isPrefixOf s.data.toList
  · have e1 : Lib.hasPrefix s.data.toList p.data.toList = false := hp
    rw [e1] at CP
    have CP := Lib.hid CP
    clear hp e1
    go_enter Tryz.func62, Tryz.ntmps62
    go_wp2_with fail
    refine (CP.out _).mono ?_
    rintro e w1 ⟨rfl, rfl⟩
    go_wp2_with fail
    go_ret
    exact ⟨rfl, rfl⟩
  · have e1 : Lib.hasPrefix s.data.toList p.data.toList = true := hp
    have e2 : (⟨(Lib.trimPrefix s.data.toList p.data.toList).toArray⟩ : ByteArray) = bytesOf (s.data.toList.drop p.size) := by
      unfold Lib.trimPrefix
      rw [if_pos e1, size_list]
      rfl
    rw [e1, e2] at CP
    obtain ⟨q, hq⟩ : ∃ q, q = bytesOf (s.data.toList.drop p.size) := ⟨_, rfl⟩
    rw [← hq] at CP ⊢
    have CP := Lib.hid CP
    clear hp e1 e2 hq
    go_enter Tryz.func62, Tryz.ntmps62
    go_wp2_with fail
    refine (CP.out _).mono ?_
    rintro e w1 ⟨rfl, rfl⟩
    go_wp2_with fail
    go_ret
    exact ⟨rfl, rfl⟩
theorem take_yes {k : Nat} {s p : ByteArray} {w : World} (h : Rdr w k s) (hp : p.data.toList.isPrefixOf s.data.toList = true) :
    Calls Tryz.prog 62 #[.pointer (some ⟨k, 0, none⟩), .string p] w fun e w' => e = .returned (.bool true) ∧ Rdr w' k (bytesOf (s.data.toList.drop p.size)) ∧ Chg [k] w w' := by
  refine (take_any k s p w h).mono ?_
  rintro e w' ⟨rfl, rfl⟩
  rw [hp, if_pos rfl]
  exact ⟨rfl, h.set _, (Chg.refl _ _).setCell (.inl (by simp)) _⟩
theorem take_no {k : Nat} {s p : ByteArray} {w : World} (h : Rdr w k s) (hp : p.data.toList.isPrefixOf s.data.toList = false) :
    Calls Tryz.prog 62 #[.pointer (some ⟨k, 0, none⟩), .string p] w fun e w' => e = .returned (.bool false) ∧ w' = w := by
  refine (take_any k s p w h).mono ?_
  rintro e w' ⟨rfl, rfl⟩
  rw [hp]
  exact ⟨rfl, rfl⟩
/-- What reading an action gives: r is what plain Lean says. -/
def ActP (r : Option (ActionT × List UInt8)) (k : Nat) (s : ByteArray) (w : World) (e : Ending) (w' : World) : Prop :=
  ∃ (a : ActionT) (A9 : Option Addr) (c9 : Nat) (A10 : Option Addr) (c10 : Nat) (b : Bool) (s' : ByteArray),
    e = .returned (.tuple #[.agg #[.int .i64 a.op, .int .i64 a.slot, .int .i64 a.other, .string a.word, .string a.call.method, .string a.call.key, .int .i64 a.call.value, .string a.call.text, .int .i64 a.face, .slice A9 a.A.length c9, .slice A10 a.B.length c10], .bool b]) ∧
    NewT [k] w w' (actionF a) [.int .i64 a.op, .int .i64 a.slot, .int .i64 a.other, .string a.word, .string a.call.method, .string a.call.key, .int .i64 a.call.value, .string a.call.text, .int .i64 a.face, .slice A9 a.A.length c9, .slice A10 a.B.length c10] ∧
    Rdr w' k s' ∧ s'.size ≤ s.size ∧ (b = true → r = some (a, s'.data.toList)) ∧ (b = false → r = none)
/-- What reading actions gives. -/
def LstP (r : Option (List ActionT × List UInt8)) (k : Nat) (s : ByteArray) (w : World) (e : Ending) (w' : World) : Prop :=
  ∃ (l : List ActionT) (A : Option Addr) (c : Nat) (b : Bool) (s' : ByteArray), e = .returned (.tuple #[.slice A l.length c, .bool b]) ∧ NewS [k] w w' (actions l) (.slice A l.length c) ∧
    Rdr w' k s' ∧ s'.size ≤ s.size ∧ (b = true → r = some (l, s'.data.toList)) ∧ (b = false → r = none)
/-- The reader's world: what stood before it. -/
def RdW (k : Nat) (w : World) : Prop := ∃ w0, EnvT w0 ∧ w0.heap.size ≤ k ∧ Chg [] w0 w
theorem RdW.env {k : Nat} {w : World} (h : RdW k w) : EnvT w := by obtain ⟨w0, h1, _, h3⟩ := h; exact h1.keep h3
theorem RdW.keep {k : Nat} {w w' : World} {S : List Nat} (h : RdW k w) (hc : Chg S w w') (hS : ∀ x ∈ S, k ≤ x) : RdW k w' := by
  obtain ⟨w0, h1, h2, h3⟩ := h
  exact ⟨w0, h1, h2, h3.trans hc (fun x hx => .inr (Nat.le_trans h2 (hS x hx)))⟩
theorem RdW.keep1 {k : Nat} {w w' : World} (h : RdW k w) (hc : Chg [k] w w') : RdW k w' := h.keep hc (by simp)
def ActC (n N : Nat) : Prop := ∀ (k : Nat) (s : ByteArray) (w : World), s.size < N → s.size ≤ 1048000 → RdW k w → Rdr w k s → Calls Tryz.prog 61 #[.pointer (some ⟨k, 0, none⟩)] w (ActP (pAct n s.data.toList) k s w)
def LstC (n N : Nat) : Prop := ∀ (k : Nat) (s : ByteArray) (w : World), s.size < N → s.size ≤ 1048000 → RdW k w → Rdr w k s → Calls Tryz.prog 31 #[.pointer (some ⟨k, 0, none⟩)] w (LstP (pLst n s.data.toList) k s w)
def BlkC (n N : Nat) : Prop := ∀ (k : Nat) (s : ByteArray) (w : World), s.size < N → s.size ≤ 1048000 → RdW k w → Rdr w k s → Calls Tryz.prog 95 #[.pointer (some ⟨k, 0, none⟩)] w (LstP (pBlk n s.data.toList) k s w)
theorem pL_none {act : List UInt8 → Option (ActionT × List UInt8)} {f : Nat} {acc : List ActionT} {s : List UInt8} (h : act s = none) (hf : 1 ≤ f) : pL act f acc s = none := by
  obtain ⟨g, rfl⟩ : ∃ g, f = g + 1 := ⟨f - 1, by omega⟩
  rw [pL, h]
theorem pL_more {act : List UInt8 → Option (ActionT × List UInt8)} {f : Nat} {acc : List ActionT} {s r : List UInt8} {a : ActionT} (h : act s = some (a, r)) (hf : 1 ≤ f) (hp : ([59, 32] : List UInt8).isPrefixOf r = true) : pL act f acc s = pL act (f - 1) (acc ++ [a]) (r.drop 2) := by
  obtain ⟨g, rfl⟩ : ∃ g, f = g + 1 := ⟨f - 1, by omega⟩
  rw [pL, h]
  dsimp only
  rw [if_pos hp]
  rfl
theorem pL_last {act : List UInt8 → Option (ActionT × List UInt8)} {f : Nat} {acc : List ActionT} {s r : List UInt8} {a : ActionT} (h : act s = some (a, r)) (hf : 1 ≤ f) (hp : ([59, 32] : List UInt8).isPrefixOf r = false) : pL act f acc s = some (acc ++ [a], r) := by
  obtain ⟨g, rfl⟩ : ∃ g, f = g + 1 := ⟨f - 1, by omega⟩
  rw [pL, h]
  dsimp only
  rw [hp]
  rfl
set_option maxRecDepth 100000 in
set_option maxHeartbeats 8000000 in
theorem list_of {n N : Nat} (HA : ActC n N) : LstC n N := by
  intro k s w hs hs2 hW hR
  have hk := hR.lt
  have hp0 : Hid (pLst n s.data.toList = pL (pAct n) (s.size + 1) [] s.data.toList) := by
    show _ = _
    unfold pLst
    rw [size_list]
  obtain ⟨P, hP⟩ : ∃ P, P = pLst n s.data.toList := ⟨_, rfl⟩
  rw [← hP] at hp0 ⊢
  clear hP
  go_enter Tryz.func31, Tryz.ntmps31
  go_wp2_with fail
  go_loopw [4] (fun v wr => ∃ (out : List ActionT) (A' : Option Addr) (cap' : Nat) (r : ByteArray) (f : Nat), v = .slice A' out.length cap' ∧ AppT [k] w wr 38 11 (.slice A' out.length cap') out.length (out.flatMap actionF) ∧ Rdr wr k r ∧ out.length + r.size ≤ s.size ∧ r.size + 1 ≤ f ∧ Hid (P = pL (pAct n) f out r.data.toList)) (fun _ wr => rdSz wr k)
  case atStart => exact ⟨[], none, 0, s, s.size + 1, rfl, AppT.nil w _ _ (Chg.refl _ _), hR, by simp, by omega, hp0⟩
  case round =>
    obtain ⟨out, A', cap', r, f, rfl, hh, hRr, hsz, hf, HP⟩ := hrel
    have hcg := hh.chg
    have hWr : RdW k wr := hW.keep1 hcg
    have HAr := Lib.hid (HA k r wr (by omega) (by omega) hWr hRr)
    have hrz := hRr.sz
    go_wp2_with fail
    refine HAr.out.mono ?_
    rintro e w1 ⟨a, A9, c9, A10, c10, b, s', rfl, hN, hR1, hz1, hyes, hno⟩
    have hk1 : k < w1.heap.size := hR1.lt
    cases b with
    | false =>
      have HN := Lib.hid (HP.out.trans (pL_none (hno rfl) (by omega)))
      have hN1 := hN.chg
      clear hyes hno hN
      go_wp2_with fail
      go_ret2
      exact ⟨[], none, 0, false, s', rfl, (AppT.nil w 38 11 ((hcg.trans hN1 (fun _ h => .inl h)).alloc _)).new, hR1.keep0 ((Chg.refl _ _).alloc _), by omega, fun h => (by cases h), fun _ => HN.out⟩
    | true =>
      have HY := Lib.hid (hyes rfl)
      clear hyes hno
      have hone : ∀ u ∈ ([.int .i64 a.op, .int .i64 a.slot, .int .i64 a.other, .string a.word, .string a.call.method, .string a.call.key, .int .i64 a.call.value, .string a.call.text, .int .i64 a.face, .slice A9 a.A.length c9, .slice A10 a.B.length c10] : List Value), u.oneCell' = true := by intro u hu; simp at hu; rcases hu with rfl | rfl | rfl | rfl | rfl | rfl | rfl | rfl | rfl | rfl | rfl <;> rfl
      have hT : ∀ x ∈ [k], x < w.heap.size := by simpa using hk
      have hNL := Lib.hid (hN.later (((Chg.refl [k] w1).alloc (.cells #[.int .i64 a.op, .int .i64 a.slot, .int .i64 a.other, .string a.word, .string a.call.method, .string a.call.key, .int .i64 a.call.value, .string a.call.text, .int .i64 a.face, .slice A9 a.A.length c9, .slice A10 a.B.length c10] 38)).alloc (.cells #[.int .i64 a.op, .int .i64 a.slot, .int .i64 a.other, .string a.word, .string a.call.method, .string a.call.key, .int .i64 a.call.value, .string a.call.text, .int .i64 a.face, .slice A9 a.A.length c9, .slice A10 a.B.length c10] 38)) (by have := hRr.lt; simpa using this))
      have hRL := Lib.hid (hR1.keep0 (((Chg.refl [] w1).alloc (.cells #[.int .i64 a.op, .int .i64 a.slot, .int .i64 a.other, .string a.word, .string a.call.method, .string a.call.key, .int .i64 a.call.value, .string a.call.text, .int .i64 a.face, .slice A9 a.A.length c9, .slice A10 a.B.length c10] 38)).alloc (.cells #[.int .i64 a.op, .int .i64 a.slot, .int .i64 a.other, .string a.word, .string a.call.method, .string a.call.key, .int .i64 a.call.value, .string a.call.text, .int .i64 a.face, .slice A9 a.A.length c9, .slice A10 a.B.length c10] 38)))
      have hnw : ∀ j u, ([.int .i64 a.op, .int .i64 a.slot, .int .i64 a.other, .string a.word, .string a.call.method, .string a.call.key, .int .i64 a.call.value, .string a.call.text, .int .i64 a.face, .slice A9 a.A.length c9, .slice A10 a.B.length c10] : List Value)[j]? = some u → ((w1.alloc (.cells #[.int .i64 a.op, .int .i64 a.slot, .int .i64 a.other, .string a.word, .string a.call.method, .string a.call.key, .int .i64 a.call.value, .string a.call.text, .int .i64 a.face, .slice A9 a.A.length c9, .slice A10 a.B.length c10] 38)).alloc (.cells #[.int .i64 a.op, .int .i64 a.slot, .int .i64 a.other, .string a.word, .string a.call.method, .string a.call.key, .int .i64 a.call.value, .string a.call.text, .int .i64 a.face, .slice A9 a.A.length c9, .slice A10 a.B.length c10] 38)).cell? ⟨w1.heap.size + 1, j, none⟩ = some u := by
        intro j u hj
        rw [show w1.heap.size + 1 = (w1.alloc (.cells #[.int .i64 a.op, .int .i64 a.slot, .int .i64 a.other, .string a.word, .string a.call.method, .string a.call.key, .int .i64 a.call.value, .string a.call.text, .int .i64 a.face, .slice A9 a.A.length c9, .slice A10 a.B.length c10] 38)).heap.size by simp, World.cell?_alloc_mark]
        simpa using hj
      have HNW := Lib.hid hnw
      have HONE := Lib.hid hone
      have HTT := Lib.hid hT
      have hMM := Lib.hid hh
      clear hnw hone hT hN hh
      go_wp2_with (at_builtin; refine wpList_appT (T := [k]) rfl (.tmp 14) (.tmp 16) _ rfl 38 _ 11 152 Tryz.underlying24 action_info rfl (by omega) hMM.out HTT.out hNL.out rfl (w1.heap.size + 1) 1 1 rfl rfl HNW.out HONE.out (by omega) (by omega) ?_; intro A2 cap2 w2 hA2 hM2)
      have hR2 : Rdr w2 k s' := hRL.out.mid hM2 hk
      cases hp : ([59, 32] : List UInt8).isPrefixOf s'.data.toList
      · have TK := Lib.hid (take_no (p := ⟨#[59, 32]⟩) hR2 hp)
        have HP2 := Lib.hid (HP.out.trans (pL_last HY.out (by omega) hp))
        clear hp
        refine TK.out.mono ?_
        rintro e w3 ⟨rfl, rfl⟩
        go_wp2_with fail
        go_ret2
        exact ⟨out ++ [a], A2, cap2, true, s', by simp, by have := hA2.new; unfold actions; simpa using this, hR2, by omega, fun _ => HP2.out, fun h => by cases h⟩
      · have TK := Lib.hid (take_yes (p := ⟨#[59, 32]⟩) hR2 hp)
        have HP2 := Lib.hid (HP.out.trans (pL_more HY.out (by omega) hp))
        have hl2 := pre_len hp
        rw [size_list] at hl2
        have e2 : (bytesOf (s'.data.toList.drop (⟨#[59, 32]⟩ : ByteArray).size)).size = s'.size - 2 := by
          rw [bytesOf_size, List.length_drop, size_list]; rfl
        obtain ⟨q, hq⟩ : ∃ q, q = bytesOf (s'.data.toList.drop (⟨#[59, 32]⟩ : ByteArray).size) := ⟨_, rfl⟩
        have hq2 : q.data.toList = s'.data.toList.drop 2 := by rw [hq]; rfl
        rw [← hq2] at HP2
        rw [← hq] at TK e2
        clear hp hq hq2
        simp only [List.length_cons, List.length_nil] at hl2
        refine TK.out.mono ?_
        rintro e w3 ⟨rfl, hR3, c3⟩
        have hrz3 := hR3.sz
        have hA3 := hA2.later c3 HTT.out
        go_wp2_with fail
        go_roundw
        case rel => exact ⟨out ++ [a], A2, cap2, q, f - 1, by simp, by simpa using hA3, hR3, by simp; omega, by omega, HP2⟩
        case measure => omega
end Go.Proofs.YtkgffhlpcjjobaaGreatDoor
namespace Go.Proofs.YtkgffhlpcjjobaaGreatDoor
open Go.RowKit

theorem pB_none0 {lst : List UInt8 → Option (List ActionT × List UInt8)} {s : List UInt8} (h1 : ([123, 32, 125] : List UInt8).isPrefixOf s = false) (h2 : ([123, 32] : List UInt8).isPrefixOf s = false) : pB lst s = none := by
  unfold pB
  rw [h1, if_neg (by simp), h2, if_neg (by simp)]
theorem pB_empty {lst : List UInt8 → Option (List ActionT × List UInt8)} {s : List UInt8} (h1 : ([123, 32, 125] : List UInt8).isPrefixOf s = true) : pB lst s = some ([], s.drop 3) := by
  unfold pB
  rw [if_pos h1]
theorem pB_in {lst : List UInt8 → Option (List ActionT × List UInt8)} {s : List UInt8} (h1 : ([123, 32, 125] : List UInt8).isPrefixOf s = false) (h2 : ([123, 32] : List UInt8).isPrefixOf s = true) : (lst (s.drop 2) = none → pB lst s = none) ∧ ∀ l r, lst (s.drop 2) = some (l, r) → pB lst s = if ([32, 125] : List UInt8).isPrefixOf r then some (l, r.drop 2) else none := by
  unfold pB
  rw [h1, if_neg (by simp), if_pos h2]
  exact ⟨fun h => by rw [h], fun l r h => by rw [h]⟩
theorem drop_size {s p : ByteArray} (h : p.data.toList.isPrefixOf s.data.toList = true) : (bytesOf (s.data.toList.drop p.size)).size = s.size - p.size ∧ p.size ≤ s.size := by
  have h1 := pre_len h
  rw [size_list, size_list] at h1
  rw [bytesOf_size, List.length_drop, size_list]
  exact ⟨rfl, h1⟩
theorem NewS.via {k : Nat} {w w1 w2 w3 : World} {d : Dat} {u : Value} (h : NewS [k] w1 w2 d u) (h0 : Chg [k] w w1) (h3 : Chg [k] w2 w3) (hk : k < w1.heap.size) : NewS [k] w w3 d u :=
  (h.later h3 (by simpa using hk)).sooner h0
set_option maxRecDepth 100000 in
set_option maxHeartbeats 8000000 in
theorem block_of {n N : Nat} (HL : LstC n N) : BlkC n N := by
  intro k s w hs hs2 hW hR
  have hk := hR.lt
  unfold pBlk
  obtain ⟨P, hP⟩ : ∃ P, P = pB (pLst n) s.data.toList := ⟨_, rfl⟩
  rw [← hP]
  cases h1 : ([123, 32, 125] : List UInt8).isPrefixOf s.data.toList
  · cases h2 : ([123, 32] : List UInt8).isPrefixOf s.data.toList
    · have T1 := Lib.hid (take_no (p := ⟨#[123, 32, 125]⟩) hR h1)
      have T2 := Lib.hid (take_no (p := ⟨#[123, 32]⟩) hR h2)
      have HN := Lib.hid (hP.trans (pB_none0 h1 h2))
      clear h1 h2 hP HL
      go_enter Tryz.func95, Tryz.ntmps95
      go_wp2_with fail
      refine T1.out.mono ?_
      rintro e w1 ⟨rfl, rfl⟩
      go_wp2_with fail
      refine T2.out.mono ?_
      rintro e w1 ⟨rfl, rfl⟩
      go_wp2_with fail
      go_ret2
      exact ⟨[], none, 0, false, s, rfl, (AppT.nil _ 38 11 (Chg.refl _ _)).new, hR, Nat.le_refl _, fun h => (by cases h), fun _ => HN.out⟩
    · have T1 := Lib.hid (take_no (p := ⟨#[123, 32, 125]⟩) hR h1)
      have T2 := take_yes (p := ⟨#[123, 32]⟩) hR h2
      have hz := drop_size (p := ⟨#[123, 32]⟩) h2
      have HB := Lib.hid (pB_in (lst := pLst n) h1 h2)
      obtain ⟨q, hq⟩ : ∃ q, q = bytesOf (s.data.toList.drop (⟨#[123, 32]⟩ : ByteArray).size) := ⟨_, rfl⟩
      have hq2 : q.data.toList = s.data.toList.drop 2 := by rw [hq]; rfl
      rw [← hq] at T2 hz
      rw [← hP, ← hq2] at HB
      have T2 := Lib.hid T2
      clear h1 h2 hP hq hq2
      go_enter Tryz.func95, Tryz.ntmps95
      go_wp2_with fail
      refine T1.out.mono ?_
      rintro e w1 ⟨rfl, rfl⟩
      go_wp2_with fail
      refine T2.out.mono ?_
      rintro e w2 ⟨rfl, hR2, c2⟩
      have hk2 := hR2.lt
      have LC := Lib.hid (HL k q w2 (by omega) (by omega) (hW.keep1 c2) hR2)
      go_wp2_with fail
      refine LC.out.mono ?_
      rintro e w3 ⟨l, A, c, b, s', rfl, hN, hR3, hz3, hy, hn⟩
      cases b with
      | false =>
        have HN := Lib.hid (HB.out.1 (hn rfl))
        clear hy hn
        go_wp2_with fail
        go_ret2
        exact ⟨l, A, c, false, s', rfl, hN.via c2 (Chg.refl _ _) hk2, hR3, by omega, fun h => (by cases h), fun _ => HN.out⟩
      | true =>
        have HY := Lib.hid (HB.out.2 _ _ (hy rfl))
        clear hy hn
        cases h3 : ([32, 125] : List UInt8).isPrefixOf s'.data.toList
        · have T3 := Lib.hid (take_no (p := ⟨#[32, 125]⟩) hR3 h3)
          have HN := HY.out
          rw [h3] at HN
          have HN := Lib.hid (HN.trans (if_neg (by simp)))
          clear h3 HY
          go_wp2_with fail
          refine T3.out.mono ?_
          rintro e w4 ⟨rfl, rfl⟩
          go_wp2_with fail
          go_ret2
          exact ⟨l, A, c, false, s', rfl, hN.via c2 (Chg.refl _ _) hk2, hR3, by omega, fun h => (by cases h), fun _ => HN.out⟩
        · have T3 := take_yes (p := ⟨#[32, 125]⟩) hR3 h3
          have HN := HY.out
          rw [if_pos h3] at HN
          have hz4 := drop_size (p := ⟨#[32, 125]⟩) h3
          obtain ⟨x, hx⟩ : ∃ x, x = bytesOf (s'.data.toList.drop (⟨#[32, 125]⟩ : ByteArray).size) := ⟨_, rfl⟩
          have hx2 : x.data.toList = s'.data.toList.drop 2 := by rw [hx]; rfl
          rw [← hx2] at HN
          rw [← hx] at T3 hz4
          have T3 := Lib.hid T3
          have HN := Lib.hid HN
          clear h3 HY hx hx2
          go_wp2_with fail
          refine T3.out.mono ?_
          rintro e w4 ⟨rfl, hR4, c4⟩
          go_wp2_with fail
          go_ret2
          exact ⟨l, A, c, true, x, rfl, hN.via c2 c4 hk2, hR4, by omega, fun _ => HN.out, fun h => by cases h⟩
  · have T1 := take_yes (p := ⟨#[123, 32, 125]⟩) hR h1
    have hz := drop_size (p := ⟨#[123, 32, 125]⟩) h1
    have HN := hP.trans (pB_empty h1)
    obtain ⟨q, hq⟩ : ∃ q, q = bytesOf (s.data.toList.drop (⟨#[123, 32, 125]⟩ : ByteArray).size) := ⟨_, rfl⟩
    have hq2 : q.data.toList = s.data.toList.drop 3 := by rw [hq]; rfl
    rw [← hq2] at HN
    rw [← hq] at T1 hz
    have T1 := Lib.hid T1
    have HN := Lib.hid HN
    clear h1 hP hq hq2 HL
    go_enter Tryz.func95, Tryz.ntmps95
    go_wp2_with fail
    refine T1.out.mono ?_
    rintro e w1 ⟨rfl, hR1, c1⟩
    go_wp2_with fail
    go_ret2
    exact ⟨[], none, 0, true, q, rfl, (AppT.nil _ 38 11 c1).new, hR1, by omega, fun _ => HN.out, fun h => by cases h⟩
end Go.Proofs.YtkgffhlpcjjobaaGreatDoor
namespace Go.Proofs.YtkgffhlpcjjobaaGreatDoor
open Go.RowKit

theorem NewT.weak {T T0 : List Nat} {w w' : World} {ds : List Dat} {us : List Value} (h : NewT T w w' ds us) (hT : ∀ x ∈ T, x ∈ T0 ∨ w.heap.size ≤ x) : NewT T0 w w' ds us :=
  h.elim fun S x => ⟨S, x.1, x.2.1, x.2.2.mono hT⟩
theorem NewS.wide {T T0 : List Nat} {w w' : World} {d : Dat} {u : Value} (h : NewS T w w' d u) (hT : ∀ x ∈ T, x ∈ T0) : NewS T0 w w' d u :=
  h.elim fun S x => ⟨S, x.1, x.2.1, x.2.2.mono (fun y hy => .inl (hT y hy))⟩
theorem newS_nil {T : List Nat} (w : World) : NewS T w w (.s 0 []) (.slice none 0 0) := (AppT.nil w 0 0 (Chg.refl T w)).new
/-- Two data made one behind the other. -/
theorem newT_two {T : List Nat} {w w1 w2 w3 w4 w5 : World} {dA dB : Dat} {uA uB : Value} (h1 : Chg T w w1) (hA : NewS T w1 w2 dA uA) (h2 : Chg T w2 w3) (hB : NewS T w3 w4 dB uB) (h5 : Chg T w4 w5) (hT : ∀ x ∈ T, x < w1.heap.size) : NewT T w w5 [dA, dB] [uA, uB] := by
  have hT3 : ∀ x ∈ T, x < w3.heap.size := fun x hx => by have := hT x hx; have := hA.chg.size; have := h2.size; omega
  exact (NewT.cons_s (hA.later h2 hT) hT (NewT.cons_s (hB.later h5 hT3) hT3 (NewT.nil (Chg.refl _ _)))).sooner h1
theorem newT_plain {T : List Nat} {w w' : World} (h : Chg T w w') : NewT T w w' [.s 0 [], .s 0 []] [.slice none 0 0, .slice none 0 0] := by
  have e := (NewT.cons_v (T := T) (x := .bool true) (NewT.nil (Chg.refl T w)))
  exact ⟨[], by exact (HasL.nil w').cons_nil.cons_nil, by simp, h⟩
theorem newT_act {T : List Nat} {w w' : World} {a : ActionT} {uA uB : Value} (h : NewT T w w' [actions a.A, actions a.B] [uA, uB]) :
    NewT T w w' (actionF a) [.int .i64 a.op, .int .i64 a.slot, .int .i64 a.other, .string a.word, .string a.call.method, .string a.call.key, .int .i64 a.call.value, .string a.call.text, .int .i64 a.face, uA, uB] := by
  rw [actionF_eq]
  exact h.cons_v.cons_v.cons_v.cons_v.cons_v.cons_v.cons_v.cons_v.cons_v
theorem pTwo_none {op : Int} {blk : List UInt8 → Option (List ActionT × List UInt8)} {s : List UInt8} (h : blk s = none) : pTwo op blk s = none := by unfold pTwo; rw [h]
theorem pTwo_some {op : Int} {blk : List UInt8 → Option (List ActionT × List UInt8)} {s r : List UInt8} {A : List ActionT} (h : blk s = some (A, r)) : (wElse.isPrefixOf r = false → pTwo op blk s = none) ∧ (wElse.isPrefixOf r = true → (blk (r.drop 6) = none → pTwo op blk s = none) ∧ ∀ B q, blk (r.drop 6) = some (B, q) → pTwo op blk s = some (blkA op A B, q)) := by
  unfold pTwo
  rw [h]
  dsimp only
  exact ⟨fun h2 => by rw [h2, if_neg (by simp)], fun h2 => ⟨fun h3 => by rw [if_pos h2, h3], fun B q h3 => by rw [if_pos h2, h3]⟩⟩
theorem pA_if {blk : List UInt8 → Option (List ActionT × List UInt8)} {s : List UInt8} (h : wIf.isPrefixOf s = true) : pA blk s = pTwo 8 blk (s.drop 3) := by unfold pA; rw [if_pos h]
theorem pA_loop {blk : List UInt8 → Option (List ActionT × List UInt8)} {s : List UInt8} (h1 : wIf.isPrefixOf s = false) (h : wLoop.isPrefixOf s = true) : (blk (s.drop 5) = none → pA blk s = none) ∧ ∀ A r, blk (s.drop 5) = some (A, r) → pA blk s = some (blkA 9 A [], r) := by
  unfold pA
  rw [h1, if_neg (by simp), if_pos h]
  exact ⟨fun h => by rw [h], fun A r h => by rw [h]⟩
theorem pA_try {blk : List UInt8 → Option (List ActionT × List UInt8)} {s : List UInt8} (h1 : wIf.isPrefixOf s = false) (h2 : wLoop.isPrefixOf s = false) (h : wTry.isPrefixOf s = true) : pA blk s = pTwo 10 blk (s.drop 4) := by
  unfold pA
  rw [h1, if_neg (by simp), h2, if_neg (by simp), if_pos h]
theorem pA_simple {blk : List UInt8 → Option (List ActionT × List UInt8)} {s : List UInt8} (h1 : wIf.isPrefixOf s = false) (h2 : wLoop.isPrefixOf s = false) (h3 : wTry.isPrefixOf s = false) : (readAct (s.take (stopAt s)) = none → pA blk s = none) ∧ ∀ a, readAct (s.take (stopAt s)) = some a → pA blk s = some (a, s.drop (stopAt s)) := by
  unfold pA
  rw [h1, if_neg (by simp), h2, if_neg (by simp), h3, if_neg (by simp)]
  exact ⟨fun h => by rw [h], fun a h => by rw [h]⟩
theorem word_sp (k : Nat) (x : ByteArray) (h : x = wordT k ++ ⟨#[32]⟩) : x.data.toList = wl k ++ [32] := by rw [h, app_list]; rfl
theorem word_run (k : Fin 11) : ∃ x : ByteArray, x.data.toList = wl k ++ [32] ∧ x.size ≤ 7 ∧ ∀ W, (Op.stringOp .add (wordT (k : Nat)) (⟨#[32]⟩ : ByteArray)).run Tryz.prog W = .ok (.string x) W := by
  refine ⟨wordT (k : Nat) ++ ⟨#[32]⟩, by rw [app_list]; rfl, ?_, cat_is rfl ?_⟩
  · rw [ByteArray.size_append]; have := wordT_size (op := (k : Nat)); have e : (⟨#[32]⟩ : ByteArray).size = 1 := rfl; omega
  · have := wordT_size (op := (k : Nat)); have e : (⟨#[32]⟩ : ByteArray).size = 1 := rfl; omega
set_option maxRecDepth 100000 in
set_option maxHeartbeats 16000000 in
theorem action_of {n N : Nat} (HB : BlkC n N) : ActC (n + 1) (N + 1) := by
  intro k s w hs hs2 hW hR
  have hk := hR.lt
  rw [pAct_succ]
  have PI := Lib.hid (pA_if (blk := pBlk n) (s := s.data.toList))
  have PL := Lib.hid (pA_loop (blk := pBlk n) (s := s.data.toList))
  have PT := Lib.hid (pA_try (blk := pBlk n) (s := s.data.toList))
  have PS := Lib.hid (pA_simple (blk := pBlk n) (s := s.data.toList))
  obtain ⟨P, hP⟩ : ∃ P, P = pA (pBlk n) s.data.toList := ⟨_, rfl⟩
  rw [← hP] at PI PL PT PS ⊢
  clear hP
  obtain ⟨x8, e8, z8, r8⟩ := word_run 8
  obtain ⟨x9, e9, z9, r9⟩ := word_run 9
  obtain ⟨x10, e10, z10, r10⟩ := word_run 10
  have e8 : x8.data.toList = wIf := e8
  have e9 : x9.data.toList = wLoop := e9
  have e10 : x10.data.toList = wTry := e10
  have hWd := hW.env.2.2
  go_enter Tryz.func61, Tryz.ntmps61
  go_wp2_with fail
  obtain ⟨wA, hwA⟩ : ∃ x, x = (w.alloc (.cells #[.int .i64 0, .int .i64 0, .int .i64 0, .string ⟨#[]⟩, .string ⟨#[]⟩, .string ⟨#[]⟩, .int .i64 0, .string ⟨#[]⟩, .int .i64 0, .slice none 0 0, .slice none 0 0] 38)).alloc (.cells #[.int .i64 8, .int .i64 9, .int .i64 10] 3) := ⟨_, rfl⟩
  rw [← hwA]
  have dA : Chg [] w wA := by rw [hwA]; exact ((Chg.refl _ _).alloc _).alloc _
  have sA : wA.heap.size = w.heap.size + 1 + 1 := by rw [hwA]; simp
  have yA : ∀ o, wA.cell? ⟨w.heap.size, o, none⟩ = (w.alloc (.cells #[.int .i64 0, .int .i64 0, .int .i64 0, .string ⟨#[]⟩, .string ⟨#[]⟩, .string ⟨#[]⟩, .int .i64 0, .string ⟨#[]⟩, .int .i64 0, .slice none 0 0, .slice none 0 0] 38)).cell? ⟨w.heap.size, o, none⟩ := fun o => by
    rw [hwA]; exact ((Chg.refl [] (w.alloc (.cells #[.int .i64 0, .int .i64 0, .int .i64 0, .string ⟨#[]⟩, .string ⟨#[]⟩, .string ⟨#[]⟩, .int .i64 0, .string ⟨#[]⟩, .int .i64 0, .slice none 0 0, .slice none 0 0] 38))).alloc _).cell (p := ⟨w.heap.size, o, none⟩) (by simp) (by simp)
  have zA : ∀ o, wA.frozen? ⟨w.heap.size, o, none⟩ = (w.alloc (.cells #[.int .i64 0, .int .i64 0, .int .i64 0, .string ⟨#[]⟩, .string ⟨#[]⟩, .string ⟨#[]⟩, .int .i64 0, .string ⟨#[]⟩, .int .i64 0, .slice none 0 0, .slice none 0 0] 38)).frozen? ⟨w.heap.size, o, none⟩ := fun o => by
    rw [hwA]; exact ((Chg.refl [] (w.alloc (.cells #[.int .i64 0, .int .i64 0, .int .i64 0, .string ⟨#[]⟩, .string ⟨#[]⟩, .string ⟨#[]⟩, .int .i64 0, .string ⟨#[]⟩, .int .i64 0, .slice none 0 0, .slice none 0 0] 38))).alloc _).frozen (p := ⟨w.heap.size, o, none⟩) (by simp) (by simp)
  have l0 : wA.cell? ⟨w.heap.size + 1, 0, none⟩ = some (.int .i64 8) := by rw [hwA]; go_simp
  have l1 : wA.cell? ⟨w.heap.size + 1, 1, none⟩ = some (.int .i64 9) := by rw [hwA]; go_simp
  have l2 : wA.cell? ⟨w.heap.size + 1, 2, none⟩ = some (.int .i64 10) := by rw [hwA]; go_simp
  have hRA := hR.keep0 dA
  have hWA := hW.keep dA (by simp)
  have hWdA := hWd.keep dA
  have q8 : wA.cell? ⟨0, 8, none⟩ = some (.string (wordT ((8 : Fin 11) : Nat))) := hWdA.2 ⟨8, by decide⟩
  have q9 : wA.cell? ⟨0, 9, none⟩ = some (.string (wordT ((9 : Fin 11) : Nat))) := hWdA.2 ⟨9, by decide⟩
  have q10 : wA.cell? ⟨0, 10, none⟩ = some (.string (wordT ((10 : Fin 11) : Nat))) := hWdA.2 ⟨10, by decide⟩
  obtain ⟨d8, hd8⟩ : ∃ d, d = wordT ((8 : Fin 11) : Nat) := ⟨_, rfl⟩
  obtain ⟨d9, hd9⟩ : ∃ d, d = wordT ((9 : Fin 11) : Nat) := ⟨_, rfl⟩
  obtain ⟨d10, hd10⟩ : ∃ d, d = wordT ((10 : Fin 11) : Nat) := ⟨_, rfl⟩
  rw [← hd8] at q8 r8
  rw [← hd9] at q9 r9
  rw [← hd10] at q10 r10
  have HRA := Lib.hid hRA
  have HWA := Lib.hid hWA
  have HDA := Lib.hid dA
  have E8 := Lib.hid e8
  have E9 := Lib.hid e9
  have E10 := Lib.hid e10
  clear hwA hd8 hd9 hd10 hW hR hWd hWA hWdA hRA dA e8 e9 e10 z8 z9 z10
  have t0 : w.heap.size < wA.heap.size := by omega
  have kA : k < wA.heap.size := by omega
  go_loopw [16] (fun i wr => ∃ j : Nat, j ≤ 3 ∧ i = .int .i64 j ∧ (0 < j → wIf.isPrefixOf s.data.toList = false) ∧ (1 < j → wLoop.isPrefixOf s.data.toList = false) ∧ (2 < j → wTry.isPrefixOf s.data.toList = false) ∧ Still wA wr) (fun i _ => 3 - (intOf i).toNat)
  case atStart => exact ⟨0, by omega, rfl, fun h => absurd h (by omega), fun h => absurd h (by omega), fun h => absurd h (by omega), rfl⟩
  case round =>
    obtain ⟨j, hj, rfl, j1, j2, j3, rfl⟩ := hrel
    rcases (show j = 0 ∨ j = 1 ∨ j = 2 ∨ j = 3 by omega) with rfl | rfl | rfl | rfl
    · cases hp : wIf.isPrefixOf s.data.toList
      · have T1 := Lib.hid (take_no (p := x8) HRA.out (by rw [E8.out]; exact hp))
        clear PI PL PT PS HB
        go_wp2_with fail
        refine T1.out.mono ?_
        rintro e w1 ⟨rfl, hw1⟩
        subst hw1
        go_wp2_with fail
        go_roundw
        case rel => exact ⟨1, by omega, by go_num, fun _ => (by first | exact hp | trivial), fun h => absurd h (by omega), fun h => absurd h (by omega), rfl⟩
        case measure => simp [intOf]
      · have T1 := take_yes (p := x8) HRA.out (by rw [E8.out]; exact hp)
        have hz := drop_size (s := s) (p := x8) (by rw [E8.out]; exact hp)
        have hz5 : x8.size = 3 := by rw [← size_list, E8.out]; rfl
        have HP := PI.out hp
        obtain ⟨q, hq⟩ : ∃ q, q = bytesOf (s.data.toList.drop x8.size) := ⟨_, rfl⟩
        have hq2 : q.data.toList = s.data.toList.drop 3 := by rw [hq, hz5]; rfl
        rw [← hq] at T1 hz
        rw [← hq2] at HP
        rw [hz5] at hz
        have T1 := Lib.hid T1
        have HP := Lib.hid HP
        clear hq hq2 hp hz5 PI PL PT PS E8 E9 E10 j1 j2 j3
        go_wp2_with fail
        refine T1.out.mono ?_
        rintro e w2 ⟨rfl, hR2, c2⟩
        have k2 := hR2.lt
        have s2 := c2.size
        have g02 : ∀ o, w2.cell? ⟨w.heap.size, o, none⟩ = wr.cell? ⟨w.heap.size, o, none⟩ := fun o => c2.cell (p := ⟨w.heap.size, o, none⟩) (by simpa using t0) (by simp; omega)
        have f02 : ∀ o, w2.frozen? ⟨w.heap.size, o, none⟩ = wr.frozen? ⟨w.heap.size, o, none⟩ := fun o => c2.frozen (p := ⟨w.heap.size, o, none⟩) (by simpa using t0) (by simp; omega)
        have BC := Lib.hid (HB k q (w2.alloc (.cells #[.int .i64 8, .int .i64 0, .int .i64 0, .string ⟨#[]⟩, .string ⟨#[]⟩, .string ⟨#[]⟩, .int .i64 0, .string ⟨#[]⟩, .int .i64 0, .slice none 0 0, .slice none 0 0] 38)) (by omega) (by omega) ((HWA.out.keep1 c2).keep ((Chg.refl [] w2).alloc _) (by simp)) (hR2.keep0 ((Chg.refl _ _).alloc _)))
        have HC2 := Lib.hid c2
        clear c2 hR2
        go_wp2_with fail
        refine BC.out.mono ?_
        rintro e w4 ⟨l, A9, c9, b, s4, rfl, hN4, hR4, hz4, hy4, hn4⟩
        have c4 := hN4.chg
        have s4z := c4.size
        have s4y : w2.heap.size < w4.heap.size := by simp at s4z; omega
        have t4 : w.heap.size < w4.heap.size := by omega
        have k4 := hR4.lt
        have n4 : ¬ w2.heap.size = k := by omega
        have n0 : ¬ w.heap.size = k := by omega
        have n5 : ¬ w.heap.size = w2.heap.size := by omega
        have b40 : w4.cell? ⟨w2.heap.size, 0, none⟩ = some (.int .i64 8) := (c4.cell (p := ⟨w2.heap.size, 0, none⟩) (by simp) (by simpa using n4)).trans (by go_simp)
        have b41 : w4.cell? ⟨w2.heap.size, 1, none⟩ = some (.int .i64 0) := (c4.cell (p := ⟨w2.heap.size, 1, none⟩) (by simp) (by simpa using n4)).trans (by go_simp)
        have b42 : w4.cell? ⟨w2.heap.size, 2, none⟩ = some (.int .i64 0) := (c4.cell (p := ⟨w2.heap.size, 2, none⟩) (by simp) (by simpa using n4)).trans (by go_simp)
        have b43 : w4.cell? ⟨w2.heap.size, 3, none⟩ = some (.string ⟨#[]⟩) := (c4.cell (p := ⟨w2.heap.size, 3, none⟩) (by simp) (by simpa using n4)).trans (by go_simp)
        have b44 : w4.cell? ⟨w2.heap.size, 4, none⟩ = some (.string ⟨#[]⟩) := (c4.cell (p := ⟨w2.heap.size, 4, none⟩) (by simp) (by simpa using n4)).trans (by go_simp)
        have b45 : w4.cell? ⟨w2.heap.size, 5, none⟩ = some (.string ⟨#[]⟩) := (c4.cell (p := ⟨w2.heap.size, 5, none⟩) (by simp) (by simpa using n4)).trans (by go_simp)
        have b46 : w4.cell? ⟨w2.heap.size, 6, none⟩ = some (.int .i64 0) := (c4.cell (p := ⟨w2.heap.size, 6, none⟩) (by simp) (by simpa using n4)).trans (by go_simp)
        have b47 : w4.cell? ⟨w2.heap.size, 7, none⟩ = some (.string ⟨#[]⟩) := (c4.cell (p := ⟨w2.heap.size, 7, none⟩) (by simp) (by simpa using n4)).trans (by go_simp)
        have b48 : w4.cell? ⟨w2.heap.size, 8, none⟩ = some (.int .i64 0) := (c4.cell (p := ⟨w2.heap.size, 8, none⟩) (by simp) (by simpa using n4)).trans (by go_simp)
        have b49 : w4.cell? ⟨w2.heap.size, 9, none⟩ = some (.slice none 0 0) := (c4.cell (p := ⟨w2.heap.size, 9, none⟩) (by simp) (by simpa using n4)).trans (by go_simp)
        have b410 : w4.cell? ⟨w2.heap.size, 10, none⟩ = some (.slice none 0 0) := (c4.cell (p := ⟨w2.heap.size, 10, none⟩) (by simp) (by simpa using n4)).trans (by go_simp)
        have f4 : ∀ o, w4.frozen? ⟨w2.heap.size, o, none⟩ = (w2.alloc (.cells #[.int .i64 8, .int .i64 0, .int .i64 0, .string ⟨#[]⟩, .string ⟨#[]⟩, .string ⟨#[]⟩, .int .i64 0, .string ⟨#[]⟩, .int .i64 0, .slice none 0 0, .slice none 0 0] 38)).frozen? ⟨w2.heap.size, o, none⟩ := fun o => c4.frozen (p := ⟨w2.heap.size, o, none⟩) (by simp) (by simpa using n4)
        have g04 : ∀ o, w4.cell? ⟨w.heap.size, o, none⟩ = (w.alloc (.cells #[.int .i64 0, .int .i64 0, .int .i64 0, .string ⟨#[]⟩, .string ⟨#[]⟩, .string ⟨#[]⟩, .int .i64 0, .string ⟨#[]⟩, .int .i64 0, .slice none 0 0, .slice none 0 0] 38)).cell? ⟨w.heap.size, o, none⟩ := fun o => (c4.cell (p := ⟨w.heap.size, o, none⟩) (by simp; omega) (by simpa using n0)).trans (((((Chg.refl [] w2).alloc (.cells #[.int .i64 8, .int .i64 0, .int .i64 0, .string ⟨#[]⟩, .string ⟨#[]⟩, .string ⟨#[]⟩, .int .i64 0, .string ⟨#[]⟩, .int .i64 0, .slice none 0 0, .slice none 0 0] 38)).cell (p := ⟨w.heap.size, o, none⟩) (by simp; omega) (by simp)).trans (g02 o)).trans (yA o))
        have f04 : ∀ o, w4.frozen? ⟨w.heap.size, o, none⟩ = (w.alloc (.cells #[.int .i64 0, .int .i64 0, .int .i64 0, .string ⟨#[]⟩, .string ⟨#[]⟩, .string ⟨#[]⟩, .int .i64 0, .string ⟨#[]⟩, .int .i64 0, .slice none 0 0, .slice none 0 0] 38)).frozen? ⟨w.heap.size, o, none⟩ := fun o => (c4.frozen (p := ⟨w.heap.size, o, none⟩) (by simp; omega) (by simpa using n0)).trans (((((Chg.refl [] w2).alloc (.cells #[.int .i64 8, .int .i64 0, .int .i64 0, .string ⟨#[]⟩, .string ⟨#[]⟩, .string ⟨#[]⟩, .int .i64 0, .string ⟨#[]⟩, .int .i64 0, .slice none 0 0, .slice none 0 0] 38)).frozen (p := ⟨w.heap.size, o, none⟩) (by simp; omega) (by simp)).trans (f02 o)).trans (zA o))
        have tt : w.heap.size < w.heap.size + 1 := by omega
        have HN4 := Lib.hid hN4
        have D4 : Hid (Chg [k, w.heap.size, w2.heap.size] w (w2.alloc (.cells #[.int .i64 8, .int .i64 0, .int .i64 0, .string ⟨#[]⟩, .string ⟨#[]⟩, .string ⟨#[]⟩, .int .i64 0, .string ⟨#[]⟩, .int .i64 0, .slice none 0 0, .slice none 0 0] 38))) := Lib.hid ((((HDA.out.mono (by simp)).trans HC2.out (T := [k]) (by simp)).alloc _))
        have TL : Hid (∀ x ∈ [k, w.heap.size, w2.heap.size], x < (w2.alloc (.cells #[.int .i64 8, .int .i64 0, .int .i64 0, .string ⟨#[]⟩, .string ⟨#[]⟩, .string ⟨#[]⟩, .int .i64 0, .string ⟨#[]⟩, .int .i64 0, .slice none 0 0, .slice none 0 0] 38)).heap.size) := Lib.hid (by intro x hx; simp at hx ⊢; omega)
        have TW : Hid (∀ x ∈ [k, w.heap.size, w2.heap.size], x ∈ [k] ∨ w.heap.size ≤ x) := Lib.hid (by intro x hx; simp at hx ⊢; omega)
        clear g02 f02 yA zA c4 hN4
        have e40 : ∀ u, (w4.setCell ⟨w2.heap.size, 9, none⟩ u).cell? ⟨w2.heap.size, 0, none⟩ = some (.int .i64 8) := fun u => by rw [World.cell?_setCell_other _ _ _ _ (by simp)]; exact b40
        have e41 : ∀ u, (w4.setCell ⟨w2.heap.size, 9, none⟩ u).cell? ⟨w2.heap.size, 1, none⟩ = some (.int .i64 0) := fun u => by rw [World.cell?_setCell_other _ _ _ _ (by simp)]; exact b41
        have e42 : ∀ u, (w4.setCell ⟨w2.heap.size, 9, none⟩ u).cell? ⟨w2.heap.size, 2, none⟩ = some (.int .i64 0) := fun u => by rw [World.cell?_setCell_other _ _ _ _ (by simp)]; exact b42
        have e43 : ∀ u, (w4.setCell ⟨w2.heap.size, 9, none⟩ u).cell? ⟨w2.heap.size, 3, none⟩ = some (.string ⟨#[]⟩) := fun u => by rw [World.cell?_setCell_other _ _ _ _ (by simp)]; exact b43
        have e44 : ∀ u, (w4.setCell ⟨w2.heap.size, 9, none⟩ u).cell? ⟨w2.heap.size, 4, none⟩ = some (.string ⟨#[]⟩) := fun u => by rw [World.cell?_setCell_other _ _ _ _ (by simp)]; exact b44
        have e45 : ∀ u, (w4.setCell ⟨w2.heap.size, 9, none⟩ u).cell? ⟨w2.heap.size, 5, none⟩ = some (.string ⟨#[]⟩) := fun u => by rw [World.cell?_setCell_other _ _ _ _ (by simp)]; exact b45
        have e46 : ∀ u, (w4.setCell ⟨w2.heap.size, 9, none⟩ u).cell? ⟨w2.heap.size, 6, none⟩ = some (.int .i64 0) := fun u => by rw [World.cell?_setCell_other _ _ _ _ (by simp)]; exact b46
        have e47 : ∀ u, (w4.setCell ⟨w2.heap.size, 9, none⟩ u).cell? ⟨w2.heap.size, 7, none⟩ = some (.string ⟨#[]⟩) := fun u => by rw [World.cell?_setCell_other _ _ _ _ (by simp)]; exact b47
        have e48 : ∀ u, (w4.setCell ⟨w2.heap.size, 9, none⟩ u).cell? ⟨w2.heap.size, 8, none⟩ = some (.int .i64 0) := fun u => by rw [World.cell?_setCell_other _ _ _ _ (by simp)]; exact b48
        have e49 : ∀ u, (w4.setCell ⟨w2.heap.size, 9, none⟩ u).cell? ⟨w2.heap.size, 9, none⟩ = some u := fun u => World.cell?_setCell_same _ _ _ b49
        have e410 : ∀ u, (w4.setCell ⟨w2.heap.size, 9, none⟩ u).cell? ⟨w2.heap.size, 10, none⟩ = some (.slice none 0 0) := fun u => by rw [World.cell?_setCell_other _ _ _ _ (by simp)]; exact b410
        cases b with
        | false =>
          have HN := Lib.hid (HP.out.trans (pTwo_none (hn4 rfl)))
          clear hy4 hn4
          go_wp2_with fail
          refine bodyPost_ret (v := .tuple #[.agg #[.int .i64 0, .int .i64 0, .int .i64 0, .string ⟨#[]⟩, .string ⟨#[]⟩, .string ⟨#[]⟩, .int .i64 0, .string ⟨#[]⟩, .int .i64 0, .slice none 0 0, .slice none 0 0], .bool false]) (by simp only [results, Tryz.results61]; go_simp) rfl ?_
          refine ⟨mkA 0 0 0 noB zeroC 0, none, 0, none, 0, false, s4, rfl, newT_act (a := mkA 0 0 0 noB zeroC 0) (newT_plain ((newT_two (T := [k, w.heap.size, w2.heap.size]) D4.out (HN4.out.wide (by simp)) (Chg.refl _ _) (newS_nil _) (by repeat (first | with_reducible exact Chg.refl _ _ | with_reducible exact Chg.refl _ _ | with_reducible refine Chg.drew ?_ | with_reducible refine Chg.drewN ?_ _ | with_reducible refine Chg.alloc ?_ _ | with_reducible refine Chg.setCell ?_ (.inl (by simp)) _)) TL.out).weak TW.out).chg), ?_, by omega, fun h => (by cases h), fun _ => HN.out⟩
          exact hR4.keep (S := [w.heap.size, w2.heap.size]) (by repeat (first | with_reducible exact Chg.refl _ _ | with_reducible exact Chg.refl _ _ | with_reducible refine Chg.drew ?_ | with_reducible refine Chg.drewN ?_ _ | with_reducible refine Chg.alloc ?_ _ | with_reducible refine Chg.setCell ?_ (.inl (by simp)) _)) (by simp; omega)
        | true =>
          have HP4 := Lib.hid (pTwo_some (op := 8) (hy4 rfl))
          rw [← HP.out] at HP4
          clear hy4 hn4
          obtain ⟨w5, hw5⟩ : ∃ x, x = w4.setCell ⟨w2.heap.size, 9, none⟩ (.slice A9 l.length c9) := ⟨_, rfl⟩
          have c5 : Chg [w2.heap.size] w4 w5 := by rw [hw5]; exact (Chg.refl _ _).setCell (.inl (by simp)) _
          have hR5 : Rdr w5 k s4 := hR4.keep c5 (by simp; omega)
          have b50 : w5.cell? ⟨w2.heap.size, 0, none⟩ = some (.int .i64 8) := by rw [hw5]; exact e40 _
          have b51 : w5.cell? ⟨w2.heap.size, 1, none⟩ = some (.int .i64 0) := by rw [hw5]; exact e41 _
          have b52 : w5.cell? ⟨w2.heap.size, 2, none⟩ = some (.int .i64 0) := by rw [hw5]; exact e42 _
          have b53 : w5.cell? ⟨w2.heap.size, 3, none⟩ = some (.string ⟨#[]⟩) := by rw [hw5]; exact e43 _
          have b54 : w5.cell? ⟨w2.heap.size, 4, none⟩ = some (.string ⟨#[]⟩) := by rw [hw5]; exact e44 _
          have b55 : w5.cell? ⟨w2.heap.size, 5, none⟩ = some (.string ⟨#[]⟩) := by rw [hw5]; exact e45 _
          have b56 : w5.cell? ⟨w2.heap.size, 6, none⟩ = some (.int .i64 0) := by rw [hw5]; exact e46 _
          have b57 : w5.cell? ⟨w2.heap.size, 7, none⟩ = some (.string ⟨#[]⟩) := by rw [hw5]; exact e47 _
          have b58 : w5.cell? ⟨w2.heap.size, 8, none⟩ = some (.int .i64 0) := by rw [hw5]; exact e48 _
          have b59 : w5.cell? ⟨w2.heap.size, 9, none⟩ = some (.slice A9 l.length c9) := by rw [hw5]; exact e49 _
          have b510 : w5.cell? ⟨w2.heap.size, 10, none⟩ = some (.slice none 0 0) := by rw [hw5]; exact e410 _
          have f5 : ∀ o, w5.frozen? ⟨w2.heap.size, o, none⟩ = (w2.alloc (.cells #[.int .i64 8, .int .i64 0, .int .i64 0, .string ⟨#[]⟩, .string ⟨#[]⟩, .string ⟨#[]⟩, .int .i64 0, .string ⟨#[]⟩, .int .i64 0, .slice none 0 0, .slice none 0 0] 38)).frozen? ⟨w2.heap.size, o, none⟩ := fun o => by rw [hw5, ← f4 o]; simp
          have g05 : ∀ o, w5.cell? ⟨w.heap.size, o, none⟩ = (w.alloc (.cells #[.int .i64 0, .int .i64 0, .int .i64 0, .string ⟨#[]⟩, .string ⟨#[]⟩, .string ⟨#[]⟩, .int .i64 0, .string ⟨#[]⟩, .int .i64 0, .slice none 0 0, .slice none 0 0] 38)).cell? ⟨w.heap.size, o, none⟩ := fun o => by rw [hw5, World.cell?_setCell_other _ _ _ _ (by first | (simp; done) | (simp; omega))]; exact g04 o
          have f05 : ∀ o, w5.frozen? ⟨w.heap.size, o, none⟩ = (w.alloc (.cells #[.int .i64 0, .int .i64 0, .int .i64 0, .string ⟨#[]⟩, .string ⟨#[]⟩, .string ⟨#[]⟩, .int .i64 0, .string ⟨#[]⟩, .int .i64 0, .slice none 0 0, .slice none 0 0] 38)).frozen? ⟨w.heap.size, o, none⟩ := fun o => by rw [hw5, ← f04 o]; simp
          have s5 : w5.heap.size = w4.heap.size := by rw [hw5]; simp
          have t5 : w.heap.size < w5.heap.size := by omega
          have u5 : w2.heap.size < w5.heap.size := by omega
          have HW5 : Hid (RdW k w5) := Lib.hid (((((HWA.out.keep1 HC2.out).keep ((Chg.refl [] w2).alloc _) (by simp)).keep1 HN4.out.chg).keep c5 (by intro x hx; simp at hx; omega)))
          have C5 := Lib.hid c5
          clear c5
          cases hp : wElse.isPrefixOf s4.data.toList
          · have T2 := Lib.hid (take_no (p := ⟨#[32, 101, 108, 115, 101, 32]⟩) hR5 hp)
            have HN := Lib.hid (HP4.out.1 hp)
            clear hp HP4
            go_wp2_with fail
            rw [← hw5]
            clear hw5 b40 b41 b42 b43 b44 b45 b46 b47 b48 b49 b410 e40 e41 e42 e43 e44 e45 e46 e47 e48 e49 e410 f4 g04 f04
            refine T2.out.mono ?_
            rintro e w6 ⟨rfl, hw6⟩
            subst hw6
            go_wp2_with fail
            refine bodyPost_ret (v := .tuple #[.agg #[.int .i64 0, .int .i64 0, .int .i64 0, .string ⟨#[]⟩, .string ⟨#[]⟩, .string ⟨#[]⟩, .int .i64 0, .string ⟨#[]⟩, .int .i64 0, .slice none 0 0, .slice none 0 0], .bool false]) (by simp only [results, Tryz.results61]; go_simp) rfl ?_
            refine ⟨mkA 0 0 0 noB zeroC 0, none, 0, none, 0, false, s4, rfl, newT_act (a := mkA 0 0 0 noB zeroC 0) (newT_plain ((newT_two (T := [k, w.heap.size, w2.heap.size]) D4.out (HN4.out.wide (by simp)) (C5.out.mono (by simp)) (newS_nil _) (by repeat (first | with_reducible exact Chg.refl _ _ | with_reducible exact Chg.refl _ _ | with_reducible refine Chg.drew ?_ | with_reducible refine Chg.drewN ?_ _ | with_reducible refine Chg.alloc ?_ _ | with_reducible refine Chg.setCell ?_ (.inl (by simp)) _)) TL.out).weak TW.out).chg), ?_, by omega, fun h => (by cases h), fun _ => HN.out⟩
            exact hR5.keep (S := [w.heap.size, w2.heap.size]) (by repeat (first | with_reducible exact Chg.refl _ _ | with_reducible exact Chg.refl _ _ | with_reducible refine Chg.drew ?_ | with_reducible refine Chg.drewN ?_ _ | with_reducible refine Chg.alloc ?_ _ | with_reducible refine Chg.setCell ?_ (.inl (by simp)) _)) (by simp; omega)
          · have T2 := take_yes (p := ⟨#[32, 101, 108, 115, 101, 32]⟩) hR5 hp
            have hz6 := drop_size (s := s4) (p := ⟨#[32, 101, 108, 115, 101, 32]⟩) hp
            have HP6 := HP4.out.2 hp
            obtain ⟨q6, hq6⟩ : ∃ q, q = bytesOf (s4.data.toList.drop (⟨#[32, 101, 108, 115, 101, 32]⟩ : ByteArray).size) := ⟨_, rfl⟩
            have hq62 : q6.data.toList = s4.data.toList.drop 6 := by rw [hq6]; rfl
            rw [← hq6] at T2 hz6
            rw [← hq62] at HP6
            have T2 := Lib.hid T2
            have HP6 := Lib.hid HP6
            clear hp HP4 hq6 hq62
            go_wp2_with fail
            rw [← hw5]
            clear hw5 b40 b41 b42 b43 b44 b45 b46 b47 b48 b49 b410 e40 e41 e42 e43 e44 e45 e46 e47 e48 e49 e410 f4 g04 f04
            refine T2.out.mono ?_
            rintro e w6 ⟨rfl, hR6, c6⟩
            have s6 := c6.size
            have BC6 := Lib.hid (HB k q6 w6 (by omega) (by omega) (HW5.out.keep1 c6) hR6)
            have C6 := Lib.hid c6
            go_wp2_with fail
            refine BC6.out.mono ?_
            rintro e w7 ⟨m, A10, c10, b7, s7, rfl, hN7, hR7, hz7, hy7, hn7⟩
            have c7 := c6.trans hN7.chg (fun _ h => .inl h)
            have s7z := c7.size
            have t7 : w.heap.size < w7.heap.size := by omega
            have u7 : w2.heap.size < w7.heap.size := by omega
            have b70 : w7.cell? ⟨w2.heap.size, 0, none⟩ = some (.int .i64 8) := (c7.cell (p := ⟨w2.heap.size, 0, none⟩) u5 (by simpa using n4)).trans b50
            have b71 : w7.cell? ⟨w2.heap.size, 1, none⟩ = some (.int .i64 0) := (c7.cell (p := ⟨w2.heap.size, 1, none⟩) u5 (by simpa using n4)).trans b51
            have b72 : w7.cell? ⟨w2.heap.size, 2, none⟩ = some (.int .i64 0) := (c7.cell (p := ⟨w2.heap.size, 2, none⟩) u5 (by simpa using n4)).trans b52
            have b73 : w7.cell? ⟨w2.heap.size, 3, none⟩ = some (.string ⟨#[]⟩) := (c7.cell (p := ⟨w2.heap.size, 3, none⟩) u5 (by simpa using n4)).trans b53
            have b74 : w7.cell? ⟨w2.heap.size, 4, none⟩ = some (.string ⟨#[]⟩) := (c7.cell (p := ⟨w2.heap.size, 4, none⟩) u5 (by simpa using n4)).trans b54
            have b75 : w7.cell? ⟨w2.heap.size, 5, none⟩ = some (.string ⟨#[]⟩) := (c7.cell (p := ⟨w2.heap.size, 5, none⟩) u5 (by simpa using n4)).trans b55
            have b76 : w7.cell? ⟨w2.heap.size, 6, none⟩ = some (.int .i64 0) := (c7.cell (p := ⟨w2.heap.size, 6, none⟩) u5 (by simpa using n4)).trans b56
            have b77 : w7.cell? ⟨w2.heap.size, 7, none⟩ = some (.string ⟨#[]⟩) := (c7.cell (p := ⟨w2.heap.size, 7, none⟩) u5 (by simpa using n4)).trans b57
            have b78 : w7.cell? ⟨w2.heap.size, 8, none⟩ = some (.int .i64 0) := (c7.cell (p := ⟨w2.heap.size, 8, none⟩) u5 (by simpa using n4)).trans b58
            have b79 : w7.cell? ⟨w2.heap.size, 9, none⟩ = some (.slice A9 l.length c9) := (c7.cell (p := ⟨w2.heap.size, 9, none⟩) u5 (by simpa using n4)).trans b59
            have b710 : w7.cell? ⟨w2.heap.size, 10, none⟩ = some (.slice none 0 0) := (c7.cell (p := ⟨w2.heap.size, 10, none⟩) u5 (by simpa using n4)).trans b510
            have f7 : ∀ o, w7.frozen? ⟨w2.heap.size, o, none⟩ = (w2.alloc (.cells #[.int .i64 8, .int .i64 0, .int .i64 0, .string ⟨#[]⟩, .string ⟨#[]⟩, .string ⟨#[]⟩, .int .i64 0, .string ⟨#[]⟩, .int .i64 0, .slice none 0 0, .slice none 0 0] 38)).frozen? ⟨w2.heap.size, o, none⟩ := fun o => (c7.frozen (p := ⟨w2.heap.size, o, none⟩) u5 (by simpa using n4)).trans (f5 o)
            have g07 : ∀ o, w7.cell? ⟨w.heap.size, o, none⟩ = (w.alloc (.cells #[.int .i64 0, .int .i64 0, .int .i64 0, .string ⟨#[]⟩, .string ⟨#[]⟩, .string ⟨#[]⟩, .int .i64 0, .string ⟨#[]⟩, .int .i64 0, .slice none 0 0, .slice none 0 0] 38)).cell? ⟨w.heap.size, o, none⟩ := fun o => (c7.cell (p := ⟨w.heap.size, o, none⟩) t5 (by simpa using n0)).trans (g05 o)
            have f07 : ∀ o, w7.frozen? ⟨w.heap.size, o, none⟩ = (w.alloc (.cells #[.int .i64 0, .int .i64 0, .int .i64 0, .string ⟨#[]⟩, .string ⟨#[]⟩, .string ⟨#[]⟩, .int .i64 0, .string ⟨#[]⟩, .int .i64 0, .slice none 0 0, .slice none 0 0] 38)).frozen? ⟨w.heap.size, o, none⟩ := fun o => (c7.frozen (p := ⟨w.heap.size, o, none⟩) t5 (by simpa using n0)).trans (f05 o)
            have e70 : ∀ u, (w7.setCell ⟨w2.heap.size, 10, none⟩ u).cell? ⟨w2.heap.size, 0, none⟩ = some (.int .i64 8) := fun u => by rw [World.cell?_setCell_other _ _ _ _ (by simp)]; exact b70
            have e71 : ∀ u, (w7.setCell ⟨w2.heap.size, 10, none⟩ u).cell? ⟨w2.heap.size, 1, none⟩ = some (.int .i64 0) := fun u => by rw [World.cell?_setCell_other _ _ _ _ (by simp)]; exact b71
            have e72 : ∀ u, (w7.setCell ⟨w2.heap.size, 10, none⟩ u).cell? ⟨w2.heap.size, 2, none⟩ = some (.int .i64 0) := fun u => by rw [World.cell?_setCell_other _ _ _ _ (by simp)]; exact b72
            have e73 : ∀ u, (w7.setCell ⟨w2.heap.size, 10, none⟩ u).cell? ⟨w2.heap.size, 3, none⟩ = some (.string ⟨#[]⟩) := fun u => by rw [World.cell?_setCell_other _ _ _ _ (by simp)]; exact b73
            have e74 : ∀ u, (w7.setCell ⟨w2.heap.size, 10, none⟩ u).cell? ⟨w2.heap.size, 4, none⟩ = some (.string ⟨#[]⟩) := fun u => by rw [World.cell?_setCell_other _ _ _ _ (by simp)]; exact b74
            have e75 : ∀ u, (w7.setCell ⟨w2.heap.size, 10, none⟩ u).cell? ⟨w2.heap.size, 5, none⟩ = some (.string ⟨#[]⟩) := fun u => by rw [World.cell?_setCell_other _ _ _ _ (by simp)]; exact b75
            have e76 : ∀ u, (w7.setCell ⟨w2.heap.size, 10, none⟩ u).cell? ⟨w2.heap.size, 6, none⟩ = some (.int .i64 0) := fun u => by rw [World.cell?_setCell_other _ _ _ _ (by simp)]; exact b76
            have e77 : ∀ u, (w7.setCell ⟨w2.heap.size, 10, none⟩ u).cell? ⟨w2.heap.size, 7, none⟩ = some (.string ⟨#[]⟩) := fun u => by rw [World.cell?_setCell_other _ _ _ _ (by simp)]; exact b77
            have e78 : ∀ u, (w7.setCell ⟨w2.heap.size, 10, none⟩ u).cell? ⟨w2.heap.size, 8, none⟩ = some (.int .i64 0) := fun u => by rw [World.cell?_setCell_other _ _ _ _ (by simp)]; exact b78
            have e79 : ∀ u, (w7.setCell ⟨w2.heap.size, 10, none⟩ u).cell? ⟨w2.heap.size, 9, none⟩ = some (.slice A9 l.length c9) := fun u => by rw [World.cell?_setCell_other _ _ _ _ (by simp)]; exact b79
            have e710 : ∀ u, (w7.setCell ⟨w2.heap.size, 10, none⟩ u).cell? ⟨w2.heap.size, 10, none⟩ = some u := fun u => World.cell?_setCell_same _ _ _ b710
            have HN7 := Lib.hid hN7
            clear c6 c7 hN7 b50 b51 b52 b53 b54 b55 b56 b57 b58 b59 b510 f5 g05 f05
            go_wp2_with fail
            refine bodyPost_ret (v := .tuple #[.agg #[.int .i64 8, .int .i64 0, .int .i64 0, .string ⟨#[]⟩, .string ⟨#[]⟩, .string ⟨#[]⟩, .int .i64 0, .string ⟨#[]⟩, .int .i64 0, .slice A9 l.length c9, .slice A10 m.length c10], .bool b7]) (by simp only [results, Tryz.results61]; go_simp) rfl ?_
            refine ⟨blkA 8 l m, A9, c9, A10, c10, b7, s7, rfl, newT_act (a := blkA 8 l m) ((newT_two (T := [k, w.heap.size, w2.heap.size]) D4.out (HN4.out.wide (by simp)) ((C5.out.mono (by simp)).trans C6.out (by simp)) (HN7.out.wide (by simp)) (by repeat (first | with_reducible exact Chg.refl _ _ | with_reducible exact Chg.refl _ _ | with_reducible refine Chg.drew ?_ | with_reducible refine Chg.drewN ?_ _ | with_reducible refine Chg.alloc ?_ _ | with_reducible refine Chg.setCell ?_ (.inl (by simp)) _)) TL.out).weak TW.out), ?_, by omega, fun h => HP6.out.2 _ _ (hy7 h), fun h => HP6.out.1 (hn7 h)⟩
            exact hR7.keep (S := [w.heap.size, w2.heap.size]) (by repeat (first | with_reducible exact Chg.refl _ _ | with_reducible exact Chg.refl _ _ | with_reducible refine Chg.drew ?_ | with_reducible refine Chg.drewN ?_ _ | with_reducible refine Chg.alloc ?_ _ | with_reducible refine Chg.setCell ?_ (.inl (by simp)) _)) (by simp; omega)
    · cases hp : wLoop.isPrefixOf s.data.toList
      · have T1 := Lib.hid (take_no (p := x9) HRA.out (by rw [E9.out]; exact hp))
        clear PI PL PT PS HB
        go_wp2_with fail
        refine T1.out.mono ?_
        rintro e w1 ⟨rfl, hw1⟩
        subst hw1
        go_wp2_with fail
        go_roundw
        case rel => exact ⟨2, by omega, by go_num, fun _ => j1 (by omega), fun _ => (by first | exact hp | trivial), fun h => absurd h (by omega), rfl⟩
        case measure => simp [intOf]
      · have T1 := take_yes (p := x9) HRA.out (by rw [E9.out]; exact hp)
        have hz := drop_size (s := s) (p := x9) (by rw [E9.out]; exact hp)
        have hz5 : x9.size = 5 := by rw [← size_list, E9.out]; rfl
        have HP := PL.out (j1 (by omega)) hp
        obtain ⟨q, hq⟩ : ∃ q, q = bytesOf (s.data.toList.drop x9.size) := ⟨_, rfl⟩
        have hq2 : q.data.toList = s.data.toList.drop 5 := by rw [hq, hz5]; rfl
        rw [← hq] at T1 hz
        rw [← hq2] at HP
        rw [hz5] at hz
        have T1 := Lib.hid T1
        have HP := Lib.hid HP
        clear hq hq2 hp hz5 PI PL PT PS E8 E9 E10 j1 j2 j3
        go_wp2_with fail
        refine T1.out.mono ?_
        rintro e w2 ⟨rfl, hR2, c2⟩
        have k2 := hR2.lt
        have s2 := c2.size
        have g02 : ∀ o, w2.cell? ⟨w.heap.size, o, none⟩ = wr.cell? ⟨w.heap.size, o, none⟩ := fun o => c2.cell (p := ⟨w.heap.size, o, none⟩) (by simpa using t0) (by simp; omega)
        have f02 : ∀ o, w2.frozen? ⟨w.heap.size, o, none⟩ = wr.frozen? ⟨w.heap.size, o, none⟩ := fun o => c2.frozen (p := ⟨w.heap.size, o, none⟩) (by simpa using t0) (by simp; omega)
        have BC := Lib.hid (HB k q (w2.alloc (.cells #[.int .i64 9, .int .i64 0, .int .i64 0, .string ⟨#[]⟩, .string ⟨#[]⟩, .string ⟨#[]⟩, .int .i64 0, .string ⟨#[]⟩, .int .i64 0, .slice none 0 0, .slice none 0 0] 38)) (by omega) (by omega) ((HWA.out.keep1 c2).keep ((Chg.refl [] w2).alloc _) (by simp)) (hR2.keep0 ((Chg.refl _ _).alloc _)))
        have HC2 := Lib.hid c2
        clear c2 hR2
        go_wp2_with fail
        refine BC.out.mono ?_
        rintro e w4 ⟨l, A9, c9, b, s4, rfl, hN4, hR4, hz4, hy4, hn4⟩
        have c4 := hN4.chg
        have s4z := c4.size
        have s4y : w2.heap.size < w4.heap.size := by simp at s4z; omega
        have t4 : w.heap.size < w4.heap.size := by omega
        have k4 := hR4.lt
        have n4 : ¬ w2.heap.size = k := by omega
        have n0 : ¬ w.heap.size = k := by omega
        have n5 : ¬ w.heap.size = w2.heap.size := by omega
        have b40 : w4.cell? ⟨w2.heap.size, 0, none⟩ = some (.int .i64 9) := (c4.cell (p := ⟨w2.heap.size, 0, none⟩) (by simp) (by simpa using n4)).trans (by go_simp)
        have b41 : w4.cell? ⟨w2.heap.size, 1, none⟩ = some (.int .i64 0) := (c4.cell (p := ⟨w2.heap.size, 1, none⟩) (by simp) (by simpa using n4)).trans (by go_simp)
        have b42 : w4.cell? ⟨w2.heap.size, 2, none⟩ = some (.int .i64 0) := (c4.cell (p := ⟨w2.heap.size, 2, none⟩) (by simp) (by simpa using n4)).trans (by go_simp)
        have b43 : w4.cell? ⟨w2.heap.size, 3, none⟩ = some (.string ⟨#[]⟩) := (c4.cell (p := ⟨w2.heap.size, 3, none⟩) (by simp) (by simpa using n4)).trans (by go_simp)
        have b44 : w4.cell? ⟨w2.heap.size, 4, none⟩ = some (.string ⟨#[]⟩) := (c4.cell (p := ⟨w2.heap.size, 4, none⟩) (by simp) (by simpa using n4)).trans (by go_simp)
        have b45 : w4.cell? ⟨w2.heap.size, 5, none⟩ = some (.string ⟨#[]⟩) := (c4.cell (p := ⟨w2.heap.size, 5, none⟩) (by simp) (by simpa using n4)).trans (by go_simp)
        have b46 : w4.cell? ⟨w2.heap.size, 6, none⟩ = some (.int .i64 0) := (c4.cell (p := ⟨w2.heap.size, 6, none⟩) (by simp) (by simpa using n4)).trans (by go_simp)
        have b47 : w4.cell? ⟨w2.heap.size, 7, none⟩ = some (.string ⟨#[]⟩) := (c4.cell (p := ⟨w2.heap.size, 7, none⟩) (by simp) (by simpa using n4)).trans (by go_simp)
        have b48 : w4.cell? ⟨w2.heap.size, 8, none⟩ = some (.int .i64 0) := (c4.cell (p := ⟨w2.heap.size, 8, none⟩) (by simp) (by simpa using n4)).trans (by go_simp)
        have b49 : w4.cell? ⟨w2.heap.size, 9, none⟩ = some (.slice none 0 0) := (c4.cell (p := ⟨w2.heap.size, 9, none⟩) (by simp) (by simpa using n4)).trans (by go_simp)
        have b410 : w4.cell? ⟨w2.heap.size, 10, none⟩ = some (.slice none 0 0) := (c4.cell (p := ⟨w2.heap.size, 10, none⟩) (by simp) (by simpa using n4)).trans (by go_simp)
        have f4 : ∀ o, w4.frozen? ⟨w2.heap.size, o, none⟩ = (w2.alloc (.cells #[.int .i64 9, .int .i64 0, .int .i64 0, .string ⟨#[]⟩, .string ⟨#[]⟩, .string ⟨#[]⟩, .int .i64 0, .string ⟨#[]⟩, .int .i64 0, .slice none 0 0, .slice none 0 0] 38)).frozen? ⟨w2.heap.size, o, none⟩ := fun o => c4.frozen (p := ⟨w2.heap.size, o, none⟩) (by simp) (by simpa using n4)
        have g04 : ∀ o, w4.cell? ⟨w.heap.size, o, none⟩ = (w.alloc (.cells #[.int .i64 0, .int .i64 0, .int .i64 0, .string ⟨#[]⟩, .string ⟨#[]⟩, .string ⟨#[]⟩, .int .i64 0, .string ⟨#[]⟩, .int .i64 0, .slice none 0 0, .slice none 0 0] 38)).cell? ⟨w.heap.size, o, none⟩ := fun o => (c4.cell (p := ⟨w.heap.size, o, none⟩) (by simp; omega) (by simpa using n0)).trans (((((Chg.refl [] w2).alloc (.cells #[.int .i64 9, .int .i64 0, .int .i64 0, .string ⟨#[]⟩, .string ⟨#[]⟩, .string ⟨#[]⟩, .int .i64 0, .string ⟨#[]⟩, .int .i64 0, .slice none 0 0, .slice none 0 0] 38)).cell (p := ⟨w.heap.size, o, none⟩) (by simp; omega) (by simp)).trans (g02 o)).trans (yA o))
        have f04 : ∀ o, w4.frozen? ⟨w.heap.size, o, none⟩ = (w.alloc (.cells #[.int .i64 0, .int .i64 0, .int .i64 0, .string ⟨#[]⟩, .string ⟨#[]⟩, .string ⟨#[]⟩, .int .i64 0, .string ⟨#[]⟩, .int .i64 0, .slice none 0 0, .slice none 0 0] 38)).frozen? ⟨w.heap.size, o, none⟩ := fun o => (c4.frozen (p := ⟨w.heap.size, o, none⟩) (by simp; omega) (by simpa using n0)).trans (((((Chg.refl [] w2).alloc (.cells #[.int .i64 9, .int .i64 0, .int .i64 0, .string ⟨#[]⟩, .string ⟨#[]⟩, .string ⟨#[]⟩, .int .i64 0, .string ⟨#[]⟩, .int .i64 0, .slice none 0 0, .slice none 0 0] 38)).frozen (p := ⟨w.heap.size, o, none⟩) (by simp; omega) (by simp)).trans (f02 o)).trans (zA o))
        have tt : w.heap.size < w.heap.size + 1 := by omega
        have HN4 := Lib.hid hN4
        have D4 : Hid (Chg [k, w.heap.size, w2.heap.size] w (w2.alloc (.cells #[.int .i64 9, .int .i64 0, .int .i64 0, .string ⟨#[]⟩, .string ⟨#[]⟩, .string ⟨#[]⟩, .int .i64 0, .string ⟨#[]⟩, .int .i64 0, .slice none 0 0, .slice none 0 0] 38))) := Lib.hid ((((HDA.out.mono (by simp)).trans HC2.out (T := [k]) (by simp)).alloc _))
        have TL : Hid (∀ x ∈ [k, w.heap.size, w2.heap.size], x < (w2.alloc (.cells #[.int .i64 9, .int .i64 0, .int .i64 0, .string ⟨#[]⟩, .string ⟨#[]⟩, .string ⟨#[]⟩, .int .i64 0, .string ⟨#[]⟩, .int .i64 0, .slice none 0 0, .slice none 0 0] 38)).heap.size) := Lib.hid (by intro x hx; simp at hx ⊢; omega)
        have TW : Hid (∀ x ∈ [k, w.heap.size, w2.heap.size], x ∈ [k] ∨ w.heap.size ≤ x) := Lib.hid (by intro x hx; simp at hx ⊢; omega)
        clear g02 f02 yA zA c4 hN4
        have e40 : ∀ u, (w4.setCell ⟨w2.heap.size, 9, none⟩ u).cell? ⟨w2.heap.size, 0, none⟩ = some (.int .i64 9) := fun u => by rw [World.cell?_setCell_other _ _ _ _ (by simp)]; exact b40
        have e41 : ∀ u, (w4.setCell ⟨w2.heap.size, 9, none⟩ u).cell? ⟨w2.heap.size, 1, none⟩ = some (.int .i64 0) := fun u => by rw [World.cell?_setCell_other _ _ _ _ (by simp)]; exact b41
        have e42 : ∀ u, (w4.setCell ⟨w2.heap.size, 9, none⟩ u).cell? ⟨w2.heap.size, 2, none⟩ = some (.int .i64 0) := fun u => by rw [World.cell?_setCell_other _ _ _ _ (by simp)]; exact b42
        have e43 : ∀ u, (w4.setCell ⟨w2.heap.size, 9, none⟩ u).cell? ⟨w2.heap.size, 3, none⟩ = some (.string ⟨#[]⟩) := fun u => by rw [World.cell?_setCell_other _ _ _ _ (by simp)]; exact b43
        have e44 : ∀ u, (w4.setCell ⟨w2.heap.size, 9, none⟩ u).cell? ⟨w2.heap.size, 4, none⟩ = some (.string ⟨#[]⟩) := fun u => by rw [World.cell?_setCell_other _ _ _ _ (by simp)]; exact b44
        have e45 : ∀ u, (w4.setCell ⟨w2.heap.size, 9, none⟩ u).cell? ⟨w2.heap.size, 5, none⟩ = some (.string ⟨#[]⟩) := fun u => by rw [World.cell?_setCell_other _ _ _ _ (by simp)]; exact b45
        have e46 : ∀ u, (w4.setCell ⟨w2.heap.size, 9, none⟩ u).cell? ⟨w2.heap.size, 6, none⟩ = some (.int .i64 0) := fun u => by rw [World.cell?_setCell_other _ _ _ _ (by simp)]; exact b46
        have e47 : ∀ u, (w4.setCell ⟨w2.heap.size, 9, none⟩ u).cell? ⟨w2.heap.size, 7, none⟩ = some (.string ⟨#[]⟩) := fun u => by rw [World.cell?_setCell_other _ _ _ _ (by simp)]; exact b47
        have e48 : ∀ u, (w4.setCell ⟨w2.heap.size, 9, none⟩ u).cell? ⟨w2.heap.size, 8, none⟩ = some (.int .i64 0) := fun u => by rw [World.cell?_setCell_other _ _ _ _ (by simp)]; exact b48
        have e49 : ∀ u, (w4.setCell ⟨w2.heap.size, 9, none⟩ u).cell? ⟨w2.heap.size, 9, none⟩ = some u := fun u => World.cell?_setCell_same _ _ _ b49
        have e410 : ∀ u, (w4.setCell ⟨w2.heap.size, 9, none⟩ u).cell? ⟨w2.heap.size, 10, none⟩ = some (.slice none 0 0) := fun u => by rw [World.cell?_setCell_other _ _ _ _ (by simp)]; exact b410
        go_wp2_with fail
        refine bodyPost_ret (v := .tuple #[.agg #[.int .i64 9, .int .i64 0, .int .i64 0, .string ⟨#[]⟩, .string ⟨#[]⟩, .string ⟨#[]⟩, .int .i64 0, .string ⟨#[]⟩, .int .i64 0, .slice A9 l.length c9, .slice none 0 0], .bool b]) (by simp only [results, Tryz.results61]; go_simp) rfl ?_
        refine ⟨blkA 9 l [], A9, c9, none, 0, b, s4, rfl, newT_act (a := blkA 9 l []) ((newT_two (T := [k, w.heap.size, w2.heap.size]) D4.out (HN4.out.wide (by simp)) (Chg.refl _ _) (newS_nil _) (by repeat (first | with_reducible exact Chg.refl _ _ | with_reducible exact Chg.refl _ _ | with_reducible refine Chg.drew ?_ | with_reducible refine Chg.drewN ?_ _ | with_reducible refine Chg.alloc ?_ _ | with_reducible refine Chg.setCell ?_ (.inl (by simp)) _)) TL.out).weak TW.out), ?_, by omega, fun h => HP.out.2 _ _ (hy4 h), fun h => HP.out.1 (hn4 h)⟩
        exact hR4.keep (S := [w.heap.size, w2.heap.size]) (by repeat (first | with_reducible exact Chg.refl _ _ | with_reducible exact Chg.refl _ _ | with_reducible refine Chg.drew ?_ | with_reducible refine Chg.drewN ?_ _ | with_reducible refine Chg.alloc ?_ _ | with_reducible refine Chg.setCell ?_ (.inl (by simp)) _)) (by simp; omega)
    · cases hp : wTry.isPrefixOf s.data.toList
      · have T1 := Lib.hid (take_no (p := x10) HRA.out (by rw [E10.out]; exact hp))
        clear PI PL PT PS HB
        go_wp2_with fail
        refine T1.out.mono ?_
        rintro e w1 ⟨rfl, hw1⟩
        subst hw1
        go_wp2_with fail
        go_roundw
        case rel => exact ⟨3, by omega, by go_num, fun _ => j1 (by omega), fun _ => j2 (by omega), fun _ => (by first | exact hp | trivial), rfl⟩
        case measure => simp [intOf]
      · have T1 := take_yes (p := x10) HRA.out (by rw [E10.out]; exact hp)
        have hz := drop_size (s := s) (p := x10) (by rw [E10.out]; exact hp)
        have hz5 : x10.size = 4 := by rw [← size_list, E10.out]; rfl
        have HP := PT.out (j1 (by omega)) (j2 (by omega)) hp
        obtain ⟨q, hq⟩ : ∃ q, q = bytesOf (s.data.toList.drop x10.size) := ⟨_, rfl⟩
        have hq2 : q.data.toList = s.data.toList.drop 4 := by rw [hq, hz5]; rfl
        rw [← hq] at T1 hz
        rw [← hq2] at HP
        rw [hz5] at hz
        have T1 := Lib.hid T1
        have HP := Lib.hid HP
        clear hq hq2 hp hz5 PI PL PT PS E8 E9 E10 j1 j2 j3
        go_wp2_with fail
        refine T1.out.mono ?_
        rintro e w2 ⟨rfl, hR2, c2⟩
        have k2 := hR2.lt
        have s2 := c2.size
        have g02 : ∀ o, w2.cell? ⟨w.heap.size, o, none⟩ = wr.cell? ⟨w.heap.size, o, none⟩ := fun o => c2.cell (p := ⟨w.heap.size, o, none⟩) (by simpa using t0) (by simp; omega)
        have f02 : ∀ o, w2.frozen? ⟨w.heap.size, o, none⟩ = wr.frozen? ⟨w.heap.size, o, none⟩ := fun o => c2.frozen (p := ⟨w.heap.size, o, none⟩) (by simpa using t0) (by simp; omega)
        have BC := Lib.hid (HB k q (w2.alloc (.cells #[.int .i64 10, .int .i64 0, .int .i64 0, .string ⟨#[]⟩, .string ⟨#[]⟩, .string ⟨#[]⟩, .int .i64 0, .string ⟨#[]⟩, .int .i64 0, .slice none 0 0, .slice none 0 0] 38)) (by omega) (by omega) ((HWA.out.keep1 c2).keep ((Chg.refl [] w2).alloc _) (by simp)) (hR2.keep0 ((Chg.refl _ _).alloc _)))
        have HC2 := Lib.hid c2
        clear c2 hR2
        go_wp2_with fail
        refine BC.out.mono ?_
        rintro e w4 ⟨l, A9, c9, b, s4, rfl, hN4, hR4, hz4, hy4, hn4⟩
        have c4 := hN4.chg
        have s4z := c4.size
        have s4y : w2.heap.size < w4.heap.size := by simp at s4z; omega
        have t4 : w.heap.size < w4.heap.size := by omega
        have k4 := hR4.lt
        have n4 : ¬ w2.heap.size = k := by omega
        have n0 : ¬ w.heap.size = k := by omega
        have n5 : ¬ w.heap.size = w2.heap.size := by omega
        have b40 : w4.cell? ⟨w2.heap.size, 0, none⟩ = some (.int .i64 10) := (c4.cell (p := ⟨w2.heap.size, 0, none⟩) (by simp) (by simpa using n4)).trans (by go_simp)
        have b41 : w4.cell? ⟨w2.heap.size, 1, none⟩ = some (.int .i64 0) := (c4.cell (p := ⟨w2.heap.size, 1, none⟩) (by simp) (by simpa using n4)).trans (by go_simp)
        have b42 : w4.cell? ⟨w2.heap.size, 2, none⟩ = some (.int .i64 0) := (c4.cell (p := ⟨w2.heap.size, 2, none⟩) (by simp) (by simpa using n4)).trans (by go_simp)
        have b43 : w4.cell? ⟨w2.heap.size, 3, none⟩ = some (.string ⟨#[]⟩) := (c4.cell (p := ⟨w2.heap.size, 3, none⟩) (by simp) (by simpa using n4)).trans (by go_simp)
        have b44 : w4.cell? ⟨w2.heap.size, 4, none⟩ = some (.string ⟨#[]⟩) := (c4.cell (p := ⟨w2.heap.size, 4, none⟩) (by simp) (by simpa using n4)).trans (by go_simp)
        have b45 : w4.cell? ⟨w2.heap.size, 5, none⟩ = some (.string ⟨#[]⟩) := (c4.cell (p := ⟨w2.heap.size, 5, none⟩) (by simp) (by simpa using n4)).trans (by go_simp)
        have b46 : w4.cell? ⟨w2.heap.size, 6, none⟩ = some (.int .i64 0) := (c4.cell (p := ⟨w2.heap.size, 6, none⟩) (by simp) (by simpa using n4)).trans (by go_simp)
        have b47 : w4.cell? ⟨w2.heap.size, 7, none⟩ = some (.string ⟨#[]⟩) := (c4.cell (p := ⟨w2.heap.size, 7, none⟩) (by simp) (by simpa using n4)).trans (by go_simp)
        have b48 : w4.cell? ⟨w2.heap.size, 8, none⟩ = some (.int .i64 0) := (c4.cell (p := ⟨w2.heap.size, 8, none⟩) (by simp) (by simpa using n4)).trans (by go_simp)
        have b49 : w4.cell? ⟨w2.heap.size, 9, none⟩ = some (.slice none 0 0) := (c4.cell (p := ⟨w2.heap.size, 9, none⟩) (by simp) (by simpa using n4)).trans (by go_simp)
        have b410 : w4.cell? ⟨w2.heap.size, 10, none⟩ = some (.slice none 0 0) := (c4.cell (p := ⟨w2.heap.size, 10, none⟩) (by simp) (by simpa using n4)).trans (by go_simp)
        have f4 : ∀ o, w4.frozen? ⟨w2.heap.size, o, none⟩ = (w2.alloc (.cells #[.int .i64 10, .int .i64 0, .int .i64 0, .string ⟨#[]⟩, .string ⟨#[]⟩, .string ⟨#[]⟩, .int .i64 0, .string ⟨#[]⟩, .int .i64 0, .slice none 0 0, .slice none 0 0] 38)).frozen? ⟨w2.heap.size, o, none⟩ := fun o => c4.frozen (p := ⟨w2.heap.size, o, none⟩) (by simp) (by simpa using n4)
        have g04 : ∀ o, w4.cell? ⟨w.heap.size, o, none⟩ = (w.alloc (.cells #[.int .i64 0, .int .i64 0, .int .i64 0, .string ⟨#[]⟩, .string ⟨#[]⟩, .string ⟨#[]⟩, .int .i64 0, .string ⟨#[]⟩, .int .i64 0, .slice none 0 0, .slice none 0 0] 38)).cell? ⟨w.heap.size, o, none⟩ := fun o => (c4.cell (p := ⟨w.heap.size, o, none⟩) (by simp; omega) (by simpa using n0)).trans (((((Chg.refl [] w2).alloc (.cells #[.int .i64 10, .int .i64 0, .int .i64 0, .string ⟨#[]⟩, .string ⟨#[]⟩, .string ⟨#[]⟩, .int .i64 0, .string ⟨#[]⟩, .int .i64 0, .slice none 0 0, .slice none 0 0] 38)).cell (p := ⟨w.heap.size, o, none⟩) (by simp; omega) (by simp)).trans (g02 o)).trans (yA o))
        have f04 : ∀ o, w4.frozen? ⟨w.heap.size, o, none⟩ = (w.alloc (.cells #[.int .i64 0, .int .i64 0, .int .i64 0, .string ⟨#[]⟩, .string ⟨#[]⟩, .string ⟨#[]⟩, .int .i64 0, .string ⟨#[]⟩, .int .i64 0, .slice none 0 0, .slice none 0 0] 38)).frozen? ⟨w.heap.size, o, none⟩ := fun o => (c4.frozen (p := ⟨w.heap.size, o, none⟩) (by simp; omega) (by simpa using n0)).trans (((((Chg.refl [] w2).alloc (.cells #[.int .i64 10, .int .i64 0, .int .i64 0, .string ⟨#[]⟩, .string ⟨#[]⟩, .string ⟨#[]⟩, .int .i64 0, .string ⟨#[]⟩, .int .i64 0, .slice none 0 0, .slice none 0 0] 38)).frozen (p := ⟨w.heap.size, o, none⟩) (by simp; omega) (by simp)).trans (f02 o)).trans (zA o))
        have tt : w.heap.size < w.heap.size + 1 := by omega
        have HN4 := Lib.hid hN4
        have D4 : Hid (Chg [k, w.heap.size, w2.heap.size] w (w2.alloc (.cells #[.int .i64 10, .int .i64 0, .int .i64 0, .string ⟨#[]⟩, .string ⟨#[]⟩, .string ⟨#[]⟩, .int .i64 0, .string ⟨#[]⟩, .int .i64 0, .slice none 0 0, .slice none 0 0] 38))) := Lib.hid ((((HDA.out.mono (by simp)).trans HC2.out (T := [k]) (by simp)).alloc _))
        have TL : Hid (∀ x ∈ [k, w.heap.size, w2.heap.size], x < (w2.alloc (.cells #[.int .i64 10, .int .i64 0, .int .i64 0, .string ⟨#[]⟩, .string ⟨#[]⟩, .string ⟨#[]⟩, .int .i64 0, .string ⟨#[]⟩, .int .i64 0, .slice none 0 0, .slice none 0 0] 38)).heap.size) := Lib.hid (by intro x hx; simp at hx ⊢; omega)
        have TW : Hid (∀ x ∈ [k, w.heap.size, w2.heap.size], x ∈ [k] ∨ w.heap.size ≤ x) := Lib.hid (by intro x hx; simp at hx ⊢; omega)
        clear g02 f02 yA zA c4 hN4
        have e40 : ∀ u, (w4.setCell ⟨w2.heap.size, 9, none⟩ u).cell? ⟨w2.heap.size, 0, none⟩ = some (.int .i64 10) := fun u => by rw [World.cell?_setCell_other _ _ _ _ (by simp)]; exact b40
        have e41 : ∀ u, (w4.setCell ⟨w2.heap.size, 9, none⟩ u).cell? ⟨w2.heap.size, 1, none⟩ = some (.int .i64 0) := fun u => by rw [World.cell?_setCell_other _ _ _ _ (by simp)]; exact b41
        have e42 : ∀ u, (w4.setCell ⟨w2.heap.size, 9, none⟩ u).cell? ⟨w2.heap.size, 2, none⟩ = some (.int .i64 0) := fun u => by rw [World.cell?_setCell_other _ _ _ _ (by simp)]; exact b42
        have e43 : ∀ u, (w4.setCell ⟨w2.heap.size, 9, none⟩ u).cell? ⟨w2.heap.size, 3, none⟩ = some (.string ⟨#[]⟩) := fun u => by rw [World.cell?_setCell_other _ _ _ _ (by simp)]; exact b43
        have e44 : ∀ u, (w4.setCell ⟨w2.heap.size, 9, none⟩ u).cell? ⟨w2.heap.size, 4, none⟩ = some (.string ⟨#[]⟩) := fun u => by rw [World.cell?_setCell_other _ _ _ _ (by simp)]; exact b44
        have e45 : ∀ u, (w4.setCell ⟨w2.heap.size, 9, none⟩ u).cell? ⟨w2.heap.size, 5, none⟩ = some (.string ⟨#[]⟩) := fun u => by rw [World.cell?_setCell_other _ _ _ _ (by simp)]; exact b45
        have e46 : ∀ u, (w4.setCell ⟨w2.heap.size, 9, none⟩ u).cell? ⟨w2.heap.size, 6, none⟩ = some (.int .i64 0) := fun u => by rw [World.cell?_setCell_other _ _ _ _ (by simp)]; exact b46
        have e47 : ∀ u, (w4.setCell ⟨w2.heap.size, 9, none⟩ u).cell? ⟨w2.heap.size, 7, none⟩ = some (.string ⟨#[]⟩) := fun u => by rw [World.cell?_setCell_other _ _ _ _ (by simp)]; exact b47
        have e48 : ∀ u, (w4.setCell ⟨w2.heap.size, 9, none⟩ u).cell? ⟨w2.heap.size, 8, none⟩ = some (.int .i64 0) := fun u => by rw [World.cell?_setCell_other _ _ _ _ (by simp)]; exact b48
        have e49 : ∀ u, (w4.setCell ⟨w2.heap.size, 9, none⟩ u).cell? ⟨w2.heap.size, 9, none⟩ = some u := fun u => World.cell?_setCell_same _ _ _ b49
        have e410 : ∀ u, (w4.setCell ⟨w2.heap.size, 9, none⟩ u).cell? ⟨w2.heap.size, 10, none⟩ = some (.slice none 0 0) := fun u => by rw [World.cell?_setCell_other _ _ _ _ (by simp)]; exact b410
        cases b with
        | false =>
          have HN := Lib.hid (HP.out.trans (pTwo_none (hn4 rfl)))
          clear hy4 hn4
          go_wp2_with fail
          refine bodyPost_ret (v := .tuple #[.agg #[.int .i64 0, .int .i64 0, .int .i64 0, .string ⟨#[]⟩, .string ⟨#[]⟩, .string ⟨#[]⟩, .int .i64 0, .string ⟨#[]⟩, .int .i64 0, .slice none 0 0, .slice none 0 0], .bool false]) (by simp only [results, Tryz.results61]; go_simp) rfl ?_
          refine ⟨mkA 0 0 0 noB zeroC 0, none, 0, none, 0, false, s4, rfl, newT_act (a := mkA 0 0 0 noB zeroC 0) (newT_plain ((newT_two (T := [k, w.heap.size, w2.heap.size]) D4.out (HN4.out.wide (by simp)) (Chg.refl _ _) (newS_nil _) (by repeat (first | with_reducible exact Chg.refl _ _ | with_reducible exact Chg.refl _ _ | with_reducible refine Chg.drew ?_ | with_reducible refine Chg.drewN ?_ _ | with_reducible refine Chg.alloc ?_ _ | with_reducible refine Chg.setCell ?_ (.inl (by simp)) _)) TL.out).weak TW.out).chg), ?_, by omega, fun h => (by cases h), fun _ => HN.out⟩
          exact hR4.keep (S := [w.heap.size, w2.heap.size]) (by repeat (first | with_reducible exact Chg.refl _ _ | with_reducible exact Chg.refl _ _ | with_reducible refine Chg.drew ?_ | with_reducible refine Chg.drewN ?_ _ | with_reducible refine Chg.alloc ?_ _ | with_reducible refine Chg.setCell ?_ (.inl (by simp)) _)) (by simp; omega)
        | true =>
          have HP4 := Lib.hid (pTwo_some (op := 10) (hy4 rfl))
          rw [← HP.out] at HP4
          clear hy4 hn4
          obtain ⟨w5, hw5⟩ : ∃ x, x = w4.setCell ⟨w2.heap.size, 9, none⟩ (.slice A9 l.length c9) := ⟨_, rfl⟩
          have c5 : Chg [w2.heap.size] w4 w5 := by rw [hw5]; exact (Chg.refl _ _).setCell (.inl (by simp)) _
          have hR5 : Rdr w5 k s4 := hR4.keep c5 (by simp; omega)
          have b50 : w5.cell? ⟨w2.heap.size, 0, none⟩ = some (.int .i64 10) := by rw [hw5]; exact e40 _
          have b51 : w5.cell? ⟨w2.heap.size, 1, none⟩ = some (.int .i64 0) := by rw [hw5]; exact e41 _
          have b52 : w5.cell? ⟨w2.heap.size, 2, none⟩ = some (.int .i64 0) := by rw [hw5]; exact e42 _
          have b53 : w5.cell? ⟨w2.heap.size, 3, none⟩ = some (.string ⟨#[]⟩) := by rw [hw5]; exact e43 _
          have b54 : w5.cell? ⟨w2.heap.size, 4, none⟩ = some (.string ⟨#[]⟩) := by rw [hw5]; exact e44 _
          have b55 : w5.cell? ⟨w2.heap.size, 5, none⟩ = some (.string ⟨#[]⟩) := by rw [hw5]; exact e45 _
          have b56 : w5.cell? ⟨w2.heap.size, 6, none⟩ = some (.int .i64 0) := by rw [hw5]; exact e46 _
          have b57 : w5.cell? ⟨w2.heap.size, 7, none⟩ = some (.string ⟨#[]⟩) := by rw [hw5]; exact e47 _
          have b58 : w5.cell? ⟨w2.heap.size, 8, none⟩ = some (.int .i64 0) := by rw [hw5]; exact e48 _
          have b59 : w5.cell? ⟨w2.heap.size, 9, none⟩ = some (.slice A9 l.length c9) := by rw [hw5]; exact e49 _
          have b510 : w5.cell? ⟨w2.heap.size, 10, none⟩ = some (.slice none 0 0) := by rw [hw5]; exact e410 _
          have f5 : ∀ o, w5.frozen? ⟨w2.heap.size, o, none⟩ = (w2.alloc (.cells #[.int .i64 10, .int .i64 0, .int .i64 0, .string ⟨#[]⟩, .string ⟨#[]⟩, .string ⟨#[]⟩, .int .i64 0, .string ⟨#[]⟩, .int .i64 0, .slice none 0 0, .slice none 0 0] 38)).frozen? ⟨w2.heap.size, o, none⟩ := fun o => by rw [hw5, ← f4 o]; simp
          have g05 : ∀ o, w5.cell? ⟨w.heap.size, o, none⟩ = (w.alloc (.cells #[.int .i64 0, .int .i64 0, .int .i64 0, .string ⟨#[]⟩, .string ⟨#[]⟩, .string ⟨#[]⟩, .int .i64 0, .string ⟨#[]⟩, .int .i64 0, .slice none 0 0, .slice none 0 0] 38)).cell? ⟨w.heap.size, o, none⟩ := fun o => by rw [hw5, World.cell?_setCell_other _ _ _ _ (by first | (simp; done) | (simp; omega))]; exact g04 o
          have f05 : ∀ o, w5.frozen? ⟨w.heap.size, o, none⟩ = (w.alloc (.cells #[.int .i64 0, .int .i64 0, .int .i64 0, .string ⟨#[]⟩, .string ⟨#[]⟩, .string ⟨#[]⟩, .int .i64 0, .string ⟨#[]⟩, .int .i64 0, .slice none 0 0, .slice none 0 0] 38)).frozen? ⟨w.heap.size, o, none⟩ := fun o => by rw [hw5, ← f04 o]; simp
          have s5 : w5.heap.size = w4.heap.size := by rw [hw5]; simp
          have t5 : w.heap.size < w5.heap.size := by omega
          have u5 : w2.heap.size < w5.heap.size := by omega
          have HW5 : Hid (RdW k w5) := Lib.hid (((((HWA.out.keep1 HC2.out).keep ((Chg.refl [] w2).alloc _) (by simp)).keep1 HN4.out.chg).keep c5 (by intro x hx; simp at hx; omega)))
          have C5 := Lib.hid c5
          clear c5
          cases hp : wElse.isPrefixOf s4.data.toList
          · have T2 := Lib.hid (take_no (p := ⟨#[32, 101, 108, 115, 101, 32]⟩) hR5 hp)
            have HN := Lib.hid (HP4.out.1 hp)
            clear hp HP4
            go_wp2_with fail
            rw [← hw5]
            clear hw5 b40 b41 b42 b43 b44 b45 b46 b47 b48 b49 b410 e40 e41 e42 e43 e44 e45 e46 e47 e48 e49 e410 f4 g04 f04
            refine T2.out.mono ?_
            rintro e w6 ⟨rfl, hw6⟩
            subst hw6
            go_wp2_with fail
            refine bodyPost_ret (v := .tuple #[.agg #[.int .i64 0, .int .i64 0, .int .i64 0, .string ⟨#[]⟩, .string ⟨#[]⟩, .string ⟨#[]⟩, .int .i64 0, .string ⟨#[]⟩, .int .i64 0, .slice none 0 0, .slice none 0 0], .bool false]) (by simp only [results, Tryz.results61]; go_simp) rfl ?_
            refine ⟨mkA 0 0 0 noB zeroC 0, none, 0, none, 0, false, s4, rfl, newT_act (a := mkA 0 0 0 noB zeroC 0) (newT_plain ((newT_two (T := [k, w.heap.size, w2.heap.size]) D4.out (HN4.out.wide (by simp)) (C5.out.mono (by simp)) (newS_nil _) (by repeat (first | with_reducible exact Chg.refl _ _ | with_reducible exact Chg.refl _ _ | with_reducible refine Chg.drew ?_ | with_reducible refine Chg.drewN ?_ _ | with_reducible refine Chg.alloc ?_ _ | with_reducible refine Chg.setCell ?_ (.inl (by simp)) _)) TL.out).weak TW.out).chg), ?_, by omega, fun h => (by cases h), fun _ => HN.out⟩
            exact hR5.keep (S := [w.heap.size, w2.heap.size]) (by repeat (first | with_reducible exact Chg.refl _ _ | with_reducible exact Chg.refl _ _ | with_reducible refine Chg.drew ?_ | with_reducible refine Chg.drewN ?_ _ | with_reducible refine Chg.alloc ?_ _ | with_reducible refine Chg.setCell ?_ (.inl (by simp)) _)) (by simp; omega)
          · have T2 := take_yes (p := ⟨#[32, 101, 108, 115, 101, 32]⟩) hR5 hp
            have hz6 := drop_size (s := s4) (p := ⟨#[32, 101, 108, 115, 101, 32]⟩) hp
            have HP6 := HP4.out.2 hp
            obtain ⟨q6, hq6⟩ : ∃ q, q = bytesOf (s4.data.toList.drop (⟨#[32, 101, 108, 115, 101, 32]⟩ : ByteArray).size) := ⟨_, rfl⟩
            have hq62 : q6.data.toList = s4.data.toList.drop 6 := by rw [hq6]; rfl
            rw [← hq6] at T2 hz6
            rw [← hq62] at HP6
            have T2 := Lib.hid T2
            have HP6 := Lib.hid HP6
            clear hp HP4 hq6 hq62
            go_wp2_with fail
            rw [← hw5]
            clear hw5 b40 b41 b42 b43 b44 b45 b46 b47 b48 b49 b410 e40 e41 e42 e43 e44 e45 e46 e47 e48 e49 e410 f4 g04 f04
            refine T2.out.mono ?_
            rintro e w6 ⟨rfl, hR6, c6⟩
            have s6 := c6.size
            have BC6 := Lib.hid (HB k q6 w6 (by omega) (by omega) (HW5.out.keep1 c6) hR6)
            have C6 := Lib.hid c6
            go_wp2_with fail
            refine BC6.out.mono ?_
            rintro e w7 ⟨m, A10, c10, b7, s7, rfl, hN7, hR7, hz7, hy7, hn7⟩
            have c7 := c6.trans hN7.chg (fun _ h => .inl h)
            have s7z := c7.size
            have t7 : w.heap.size < w7.heap.size := by omega
            have u7 : w2.heap.size < w7.heap.size := by omega
            have b70 : w7.cell? ⟨w2.heap.size, 0, none⟩ = some (.int .i64 10) := (c7.cell (p := ⟨w2.heap.size, 0, none⟩) u5 (by simpa using n4)).trans b50
            have b71 : w7.cell? ⟨w2.heap.size, 1, none⟩ = some (.int .i64 0) := (c7.cell (p := ⟨w2.heap.size, 1, none⟩) u5 (by simpa using n4)).trans b51
            have b72 : w7.cell? ⟨w2.heap.size, 2, none⟩ = some (.int .i64 0) := (c7.cell (p := ⟨w2.heap.size, 2, none⟩) u5 (by simpa using n4)).trans b52
            have b73 : w7.cell? ⟨w2.heap.size, 3, none⟩ = some (.string ⟨#[]⟩) := (c7.cell (p := ⟨w2.heap.size, 3, none⟩) u5 (by simpa using n4)).trans b53
            have b74 : w7.cell? ⟨w2.heap.size, 4, none⟩ = some (.string ⟨#[]⟩) := (c7.cell (p := ⟨w2.heap.size, 4, none⟩) u5 (by simpa using n4)).trans b54
            have b75 : w7.cell? ⟨w2.heap.size, 5, none⟩ = some (.string ⟨#[]⟩) := (c7.cell (p := ⟨w2.heap.size, 5, none⟩) u5 (by simpa using n4)).trans b55
            have b76 : w7.cell? ⟨w2.heap.size, 6, none⟩ = some (.int .i64 0) := (c7.cell (p := ⟨w2.heap.size, 6, none⟩) u5 (by simpa using n4)).trans b56
            have b77 : w7.cell? ⟨w2.heap.size, 7, none⟩ = some (.string ⟨#[]⟩) := (c7.cell (p := ⟨w2.heap.size, 7, none⟩) u5 (by simpa using n4)).trans b57
            have b78 : w7.cell? ⟨w2.heap.size, 8, none⟩ = some (.int .i64 0) := (c7.cell (p := ⟨w2.heap.size, 8, none⟩) u5 (by simpa using n4)).trans b58
            have b79 : w7.cell? ⟨w2.heap.size, 9, none⟩ = some (.slice A9 l.length c9) := (c7.cell (p := ⟨w2.heap.size, 9, none⟩) u5 (by simpa using n4)).trans b59
            have b710 : w7.cell? ⟨w2.heap.size, 10, none⟩ = some (.slice none 0 0) := (c7.cell (p := ⟨w2.heap.size, 10, none⟩) u5 (by simpa using n4)).trans b510
            have f7 : ∀ o, w7.frozen? ⟨w2.heap.size, o, none⟩ = (w2.alloc (.cells #[.int .i64 10, .int .i64 0, .int .i64 0, .string ⟨#[]⟩, .string ⟨#[]⟩, .string ⟨#[]⟩, .int .i64 0, .string ⟨#[]⟩, .int .i64 0, .slice none 0 0, .slice none 0 0] 38)).frozen? ⟨w2.heap.size, o, none⟩ := fun o => (c7.frozen (p := ⟨w2.heap.size, o, none⟩) u5 (by simpa using n4)).trans (f5 o)
            have g07 : ∀ o, w7.cell? ⟨w.heap.size, o, none⟩ = (w.alloc (.cells #[.int .i64 0, .int .i64 0, .int .i64 0, .string ⟨#[]⟩, .string ⟨#[]⟩, .string ⟨#[]⟩, .int .i64 0, .string ⟨#[]⟩, .int .i64 0, .slice none 0 0, .slice none 0 0] 38)).cell? ⟨w.heap.size, o, none⟩ := fun o => (c7.cell (p := ⟨w.heap.size, o, none⟩) t5 (by simpa using n0)).trans (g05 o)
            have f07 : ∀ o, w7.frozen? ⟨w.heap.size, o, none⟩ = (w.alloc (.cells #[.int .i64 0, .int .i64 0, .int .i64 0, .string ⟨#[]⟩, .string ⟨#[]⟩, .string ⟨#[]⟩, .int .i64 0, .string ⟨#[]⟩, .int .i64 0, .slice none 0 0, .slice none 0 0] 38)).frozen? ⟨w.heap.size, o, none⟩ := fun o => (c7.frozen (p := ⟨w.heap.size, o, none⟩) t5 (by simpa using n0)).trans (f05 o)
            have e70 : ∀ u, (w7.setCell ⟨w2.heap.size, 10, none⟩ u).cell? ⟨w2.heap.size, 0, none⟩ = some (.int .i64 10) := fun u => by rw [World.cell?_setCell_other _ _ _ _ (by simp)]; exact b70
            have e71 : ∀ u, (w7.setCell ⟨w2.heap.size, 10, none⟩ u).cell? ⟨w2.heap.size, 1, none⟩ = some (.int .i64 0) := fun u => by rw [World.cell?_setCell_other _ _ _ _ (by simp)]; exact b71
            have e72 : ∀ u, (w7.setCell ⟨w2.heap.size, 10, none⟩ u).cell? ⟨w2.heap.size, 2, none⟩ = some (.int .i64 0) := fun u => by rw [World.cell?_setCell_other _ _ _ _ (by simp)]; exact b72
            have e73 : ∀ u, (w7.setCell ⟨w2.heap.size, 10, none⟩ u).cell? ⟨w2.heap.size, 3, none⟩ = some (.string ⟨#[]⟩) := fun u => by rw [World.cell?_setCell_other _ _ _ _ (by simp)]; exact b73
            have e74 : ∀ u, (w7.setCell ⟨w2.heap.size, 10, none⟩ u).cell? ⟨w2.heap.size, 4, none⟩ = some (.string ⟨#[]⟩) := fun u => by rw [World.cell?_setCell_other _ _ _ _ (by simp)]; exact b74
            have e75 : ∀ u, (w7.setCell ⟨w2.heap.size, 10, none⟩ u).cell? ⟨w2.heap.size, 5, none⟩ = some (.string ⟨#[]⟩) := fun u => by rw [World.cell?_setCell_other _ _ _ _ (by simp)]; exact b75
            have e76 : ∀ u, (w7.setCell ⟨w2.heap.size, 10, none⟩ u).cell? ⟨w2.heap.size, 6, none⟩ = some (.int .i64 0) := fun u => by rw [World.cell?_setCell_other _ _ _ _ (by simp)]; exact b76
            have e77 : ∀ u, (w7.setCell ⟨w2.heap.size, 10, none⟩ u).cell? ⟨w2.heap.size, 7, none⟩ = some (.string ⟨#[]⟩) := fun u => by rw [World.cell?_setCell_other _ _ _ _ (by simp)]; exact b77
            have e78 : ∀ u, (w7.setCell ⟨w2.heap.size, 10, none⟩ u).cell? ⟨w2.heap.size, 8, none⟩ = some (.int .i64 0) := fun u => by rw [World.cell?_setCell_other _ _ _ _ (by simp)]; exact b78
            have e79 : ∀ u, (w7.setCell ⟨w2.heap.size, 10, none⟩ u).cell? ⟨w2.heap.size, 9, none⟩ = some (.slice A9 l.length c9) := fun u => by rw [World.cell?_setCell_other _ _ _ _ (by simp)]; exact b79
            have e710 : ∀ u, (w7.setCell ⟨w2.heap.size, 10, none⟩ u).cell? ⟨w2.heap.size, 10, none⟩ = some u := fun u => World.cell?_setCell_same _ _ _ b710
            have HN7 := Lib.hid hN7
            clear c6 c7 hN7 b50 b51 b52 b53 b54 b55 b56 b57 b58 b59 b510 f5 g05 f05
            go_wp2_with fail
            refine bodyPost_ret (v := .tuple #[.agg #[.int .i64 10, .int .i64 0, .int .i64 0, .string ⟨#[]⟩, .string ⟨#[]⟩, .string ⟨#[]⟩, .int .i64 0, .string ⟨#[]⟩, .int .i64 0, .slice A9 l.length c9, .slice A10 m.length c10], .bool b7]) (by simp only [results, Tryz.results61]; go_simp) rfl ?_
            refine ⟨blkA 10 l m, A9, c9, A10, c10, b7, s7, rfl, newT_act (a := blkA 10 l m) ((newT_two (T := [k, w.heap.size, w2.heap.size]) D4.out (HN4.out.wide (by simp)) ((C5.out.mono (by simp)).trans C6.out (by simp)) (HN7.out.wide (by simp)) (by repeat (first | with_reducible exact Chg.refl _ _ | with_reducible exact Chg.refl _ _ | with_reducible refine Chg.drew ?_ | with_reducible refine Chg.drewN ?_ _ | with_reducible refine Chg.alloc ?_ _ | with_reducible refine Chg.setCell ?_ (.inl (by simp)) _)) TL.out).weak TW.out), ?_, by omega, fun h => HP6.out.2 _ _ (hy7 h), fun h => HP6.out.1 (hn7 h)⟩
            exact hR7.keep (S := [w.heap.size, w2.heap.size]) (by repeat (first | with_reducible exact Chg.refl _ _ | with_reducible exact Chg.refl _ _ | with_reducible refine Chg.drew ?_ | with_reducible refine Chg.drewN ?_ _ | with_reducible refine Chg.alloc ?_ _ | with_reducible refine Chg.setCell ?_ (.inl (by simp)) _)) (by simp; omega)
    · have HP := Lib.hid (PS.out (j1 (by omega)) (j2 (by omega)) (j3 (by omega)))
      clear PI PL PT PS HB j1 j2 j3 E8 E9 E10
      have hc := HRA.out.c
      have hf := HRA.out.f
      obtain ⟨mx, hmx⟩ := HWA.out.env.1.max
      have IX := Lib.hid (fun (sub : ByteArray) W (hW2 : W.cell? ⟨2, 0, none⟩ = some (.int .i64 mx)) => Tryz.strings_Index s sub mx W (by omega) hW2)
      have RA := Lib.hid (fun (t : ByteArray) (ht : t.size ≤ 1048576) W (hE : EnvT W) => readAction_any t W ht hE)
      obtain ⟨I1, hI1⟩ : ∃ I, I = Lib.index s.data.toList [59, 32] := ⟨_, rfl⟩
      obtain ⟨I2, hI2⟩ : ∃ I, I = Lib.index s.data.toList [32, 125] := ⟨_, rfl⟩
      have IXa := IX.out ⟨#[59, 32]⟩
      have IXb := IX.out ⟨#[32, 125]⟩
      rw [show Lib.index s.data.toList (⟨#[59, 32]⟩ : ByteArray).data.toList = I1 from hI1.symm] at IXa
      rw [show Lib.index s.data.toList (⟨#[32, 125]⟩ : ByteArray).data.toList = I2 from hI2.symm] at IXb
      have ST : stopAt s.data.toList = if 0 ≤ I2 then min (if 0 ≤ I1 then min s.size I1.toNat else s.size) I2.toNat else (if 0 ≤ I1 then min s.size I1.toNat else s.size) := by
        unfold stopAt
        rw [← hI1, ← hI2, size_list]
      have g1 : -1 ≤ I1 := by rw [hI1]; exact Lib.index_ge _ _
      have g2 : -1 ≤ I2 := by rw [hI2]; exact Lib.index_ge _ _
      have hI1b : I1 ≤ 1048576 := by have := Lib.index_le s.data.toList [59, 32]; rw [size_list, ← hI1] at this; omega
      have hI2b : I2 ≤ 1048576 := by have := Lib.index_le s.data.toList [32, 125]; rw [size_list, ← hI2] at this; omega
      have IX1 := Lib.hid IXa
      have IX2 := Lib.hid IXb
      clear IX hI1 hI2 IXa IXb
      obtain ⟨X1, hX1⟩ : ∃ X : Int, X = if 0 ≤ I1 then min (s.size : Int) I1 else s.size := ⟨_, rfl⟩
      obtain ⟨X2, hX2⟩ : ∃ X : Int, X = if 0 ≤ I2 then min X1 I2 else X1 := ⟨_, rfl⟩
      have hX1b : 0 ≤ X1 ∧ X1 ≤ s.size := by rw [hX1]; split <;> omega
      have hX2b : 0 ≤ X2 ∧ X2 ≤ s.size := by rw [hX2]; split <;> omega
      have hST : stopAt s.data.toList = X2.toNat := by rw [ST, hX2, hX1]; split <;> split <;> omega
      have HX1 := Lib.hid hX1
      have HX2 := Lib.hid hX2
      rw [hST] at HP
      clear ST hST hX1 hX2
      go_wp2_with fail
      obtain ⟨wB, hwB⟩ : ∃ x, x = wr.alloc (.cells #[.string ⟨#[59, 32]⟩, .string ⟨#[32, 125]⟩] 9) := ⟨_, rfl⟩
      rw [← hwB]
      have cB : Chg [] wr wB := by rw [hwB]; exact (Chg.refl _ _).alloc _
      have sB : wB.heap.size = wr.heap.size + 1 := by rw [hwB]; simp
      have yB : ∀ o, wB.cell? ⟨w.heap.size, o, none⟩ = (w.alloc (.cells #[.int .i64 0, .int .i64 0, .int .i64 0, .string ⟨#[]⟩, .string ⟨#[]⟩, .string ⟨#[]⟩, .int .i64 0, .string ⟨#[]⟩, .int .i64 0, .slice none 0 0, .slice none 0 0] 38)).cell? ⟨w.heap.size, o, none⟩ := fun o => (cB.cell (p := ⟨w.heap.size, o, none⟩) (by simpa using t0) (by simp)).trans (yA o)
      have zB : ∀ o, wB.frozen? ⟨w.heap.size, o, none⟩ = (w.alloc (.cells #[.int .i64 0, .int .i64 0, .int .i64 0, .string ⟨#[]⟩, .string ⟨#[]⟩, .string ⟨#[]⟩, .int .i64 0, .string ⟨#[]⟩, .int .i64 0, .slice none 0 0, .slice none 0 0] 38)).frozen? ⟨w.heap.size, o, none⟩ := fun o => (cB.frozen (p := ⟨w.heap.size, o, none⟩) (by simpa using t0) (by simp)).trans (zA o)
      have m0 : wB.cell? ⟨w.heap.size + 1 + 1, 0, none⟩ = some (.string ⟨#[59, 32]⟩) := by rw [hwB, ← sA]; go_simp
      have m1 : wB.cell? ⟨w.heap.size + 1 + 1, 1, none⟩ = some (.string ⟨#[32, 125]⟩) := by rw [hwB, ← sA]; go_simp
      have hRB := HRA.out.keep0 cB
      have hcB := hRB.c
      have hfB := hRB.f
      have hmB := (cB.cell (p := ⟨2, 0, none⟩) (lt_of_cell hmx) (by simp)).trans hmx
      have HRB := Lib.hid hRB
      have HWB := Lib.hid (HWA.out.keep cB (by simp))
      have DB := Lib.hid (HDA.out.trans0 cB)
      have kB : k < wB.heap.size := by omega
      have tB : w.heap.size < wB.heap.size := by omega
      clear hwB yA zA l0 l1 l2 q8 q9 q10 hc hf hmx hRB cB sA sB
      refine wp_loop_rounds 3 ?_
      rw [rounds_succ]
      go_wp2_with fail
      refine (IX1.out _ hmB).mono ?_
      rintro e w1 ⟨rfl, rfl⟩
      go_wp2_with fail
      · have p1 : 0 ≤ I1 := by first | assumption | omega | (simp_all; done)
        rw [rounds_succ]
        go_wp2_with fail
        refine (IX2.out _ hmB).mono ?_
        rintro e w1 ⟨rfl, rfl⟩
        go_wp2_with fail
        · have p2 : 0 ≤ I2 := by first | assumption | omega | (simp_all; done)
          obtain ⟨X, hXn⟩ : ∃ X : Nat, min (s.size : Int) (min I1 I2) = (X : Int) := ⟨(min (s.size : Int) (min I1 I2)).toNat, by omega⟩
          have hXX : X2 = (X : Int) := by rw [HX2.out, if_pos (by omega), HX1.out, if_pos (by omega), ← hXn]; try omega
          rw [hXX, Int.toNat_natCast] at HP
          rw [hXn, rounds_succ]
          have hXs : X ≤ s.size := by omega
          obtain ⟨t1, ht1⟩ : ∃ t, t = s.extract 0 X := ⟨_, rfl⟩
          obtain ⟨t2, ht2⟩ : ∃ t, t = s.extract X s.size := ⟨_, rfl⟩
          have l1 : t1.data.toList = s.data.toList.take X := by rw [ht1, extract_list]; simp [cut]
          have l2 : t2.data.toList = s.data.toList.drop X := by rw [ht2, extract_list]; unfold cut; rw [List.take_of_length_le]; rw [List.length_drop, size_list]; exact Nat.le_refl _
          have SL1 : ∀ W, (Instr.slice 9 (.string s) none (some (.int .i64 (X : Int))) none).run Tryz.prog W = .ok (.string t1) W := fun W => by rw [run_slice_string_h W _ s Tryz.underlying9 .i64 X (by omega) (by omega), ht1]; simp
          have SL2 : ∀ W, (Instr.slice 9 (.string s) (some (.int .i64 (X : Int))) none none).run Tryz.prog W = .ok (.string t2) W := fun W => by rw [run_slice_string_l W _ s Tryz.underlying9 .i64 X (by omega) (by omega), ht2]; simp
          have SA1 : ∀ W, (Instr.sliceAt 9 (.string s) none (some (.int .i64 (X : Int))) none).run Tryz.prog W = .ok (.string t1) W := fun W => by rw [run_sliceAt_string (h := Tryz.underlying9)]; exact SL1 W
          have SA2 : ∀ W, (Instr.sliceAt 9 (.string s) (some (.int .i64 (X : Int))) none none).run Tryz.prog W = .ok (.string t2) W := fun W => by rw [run_sliceAt_string (h := Tryz.underlying9)]; exact SL2 W
          have z1 : t1.size ≤ s.size := by rw [← size_list, l1, List.length_take, size_list]; omega
          have z2 : t2.size ≤ s.size := by rw [← size_list, l2, List.length_drop, size_list]; omega
          rw [← l1, ← l2] at HP
          clear hX1b hX2b HX1 HX2 ht1 ht2 l1 l2 hXX hXn p1 p2 g1 g2 hI1b hI2b
          go_wp2_with fail
          have hR9 := HRB.out.set t2
          have RW9 := (HWB.out.keep1 ((Chg.refl [k] _).setCell (p := ⟨k, 0, none⟩) (.inl (by simp)) (.string t2))).env
          refine (RA.out t1 (by omega) _ RW9).mono ?_
          rintro e w9 ⟨op, slot, other, word, m, kk, v, t, face, b, rfl, c9, hy9, hn9⟩
          have s9 := c9.size
          have t9 : w.heap.size < w9.heap.size := by simp at s9; omega
          have n0 : ¬ w.heap.size = k := by omega
          have y9 : ∀ o, w9.cell? ⟨w.heap.size, o, none⟩ = (w.alloc (.cells #[.int .i64 0, .int .i64 0, .int .i64 0, .string ⟨#[]⟩, .string ⟨#[]⟩, .string ⟨#[]⟩, .int .i64 0, .string ⟨#[]⟩, .int .i64 0, .slice none 0 0, .slice none 0 0] 38)).cell? ⟨w.heap.size, o, none⟩ := fun o => (c9.cell (p := ⟨w.heap.size, o, none⟩) (by first | (simp; done) | (simp; omega)) (by simp)).trans ((World.cell?_setCell_other _ _ _ _ (by first | (simp; done) | (simp; omega))).trans (yB o))
          have z9 : ∀ o, w9.frozen? ⟨w.heap.size, o, none⟩ = (w.alloc (.cells #[.int .i64 0, .int .i64 0, .int .i64 0, .string ⟨#[]⟩, .string ⟨#[]⟩, .string ⟨#[]⟩, .int .i64 0, .string ⟨#[]⟩, .int .i64 0, .slice none 0 0, .slice none 0 0] 38)).frozen? ⟨w.heap.size, o, none⟩ := fun o => (c9.frozen (p := ⟨w.heap.size, o, none⟩) (by first | (simp; done) | (simp; omega)) (by simp)).trans (by rw [← zB o]; simp)
          have tt : w.heap.size < w.heap.size + 1 := by omega
          have hR10 := hR9.keep0 c9
          have D9 : Chg [k, w.heap.size] w w9 := ((DB.out.mono (T := [k, w.heap.size]) (by simp)).setCell (p := ⟨k, 0, none⟩) (.inl (by simp)) (.string t2)).trans0 c9
          have HD9 := Lib.hid D9
          clear yB zB hcB hfB c9 D9 SL1 SL2 SA1 SA2
          go_wp2_with fail
          refine bodyPost_ret (v := .tuple #[.agg #[.int .i64 op, .int .i64 slot, .int .i64 other, .string word, .string m, .string kk, .int .i64 v, .string t, .int .i64 face, .slice none 0 0, .slice none 0 0], .bool b]) (by simp only [results, Tryz.results61]; go_simp) rfl ?_
          refine ⟨mkA op slot other word ⟨m, kk, v, t⟩ face, none, 0, none, 0, b, t2, rfl, newT_act (a := mkA op slot other word ⟨m, kk, v, t⟩ face) ((newT_plain (T := [k, w.heap.size]) (by repeat (first | with_reducible exact HD9.out | with_reducible exact Chg.refl _ _ | with_reducible refine Chg.drew ?_ | with_reducible refine Chg.drewN ?_ _ | with_reducible refine Chg.alloc ?_ _ | with_reducible refine Chg.setCell ?_ (.inl (by simp)) _))).weak (by intro x hx; simp at hx ⊢; omega)), ?_, z2, fun h => HP.out.2 _ (hy9 h), fun h => HP.out.1 (hn9 h)⟩
          exact hR10.keep (S := [w.heap.size]) (by repeat (first | with_reducible exact Chg.refl _ _ | with_reducible exact Chg.refl _ _ | with_reducible refine Chg.drew ?_ | with_reducible refine Chg.drewN ?_ _ | with_reducible refine Chg.alloc ?_ _ | with_reducible refine Chg.setCell ?_ (.inl (by simp)) _)) (by simp; omega)
        · have p2 : ¬ 0 ≤ I2 := by first | assumption | omega | (simp_all; done)
          obtain ⟨X, hXn⟩ : ∃ X : Nat, min (s.size : Int) I1 = (X : Int) := ⟨(min (s.size : Int) I1).toNat, by omega⟩
          have hXX : X2 = (X : Int) := by rw [HX2.out, if_neg (by omega), HX1.out, if_pos (by omega), ← hXn]; try omega
          rw [hXX, Int.toNat_natCast] at HP
          rw [hXn, rounds_succ]
          have hXs : X ≤ s.size := by omega
          obtain ⟨t1, ht1⟩ : ∃ t, t = s.extract 0 X := ⟨_, rfl⟩
          obtain ⟨t2, ht2⟩ : ∃ t, t = s.extract X s.size := ⟨_, rfl⟩
          have l1 : t1.data.toList = s.data.toList.take X := by rw [ht1, extract_list]; simp [cut]
          have l2 : t2.data.toList = s.data.toList.drop X := by rw [ht2, extract_list]; unfold cut; rw [List.take_of_length_le]; rw [List.length_drop, size_list]; exact Nat.le_refl _
          have SL1 : ∀ W, (Instr.slice 9 (.string s) none (some (.int .i64 (X : Int))) none).run Tryz.prog W = .ok (.string t1) W := fun W => by rw [run_slice_string_h W _ s Tryz.underlying9 .i64 X (by omega) (by omega), ht1]; simp
          have SL2 : ∀ W, (Instr.slice 9 (.string s) (some (.int .i64 (X : Int))) none none).run Tryz.prog W = .ok (.string t2) W := fun W => by rw [run_slice_string_l W _ s Tryz.underlying9 .i64 X (by omega) (by omega), ht2]; simp
          have SA1 : ∀ W, (Instr.sliceAt 9 (.string s) none (some (.int .i64 (X : Int))) none).run Tryz.prog W = .ok (.string t1) W := fun W => by rw [run_sliceAt_string (h := Tryz.underlying9)]; exact SL1 W
          have SA2 : ∀ W, (Instr.sliceAt 9 (.string s) (some (.int .i64 (X : Int))) none none).run Tryz.prog W = .ok (.string t2) W := fun W => by rw [run_sliceAt_string (h := Tryz.underlying9)]; exact SL2 W
          have z1 : t1.size ≤ s.size := by rw [← size_list, l1, List.length_take, size_list]; omega
          have z2 : t2.size ≤ s.size := by rw [← size_list, l2, List.length_drop, size_list]; omega
          rw [← l1, ← l2] at HP
          clear hX1b hX2b HX1 HX2 ht1 ht2 l1 l2 hXX hXn p1 p2 g1 g2 hI1b hI2b
          go_wp2_with fail
          have hR9 := HRB.out.set t2
          have RW9 := (HWB.out.keep1 ((Chg.refl [k] _).setCell (p := ⟨k, 0, none⟩) (.inl (by simp)) (.string t2))).env
          refine (RA.out t1 (by omega) _ RW9).mono ?_
          rintro e w9 ⟨op, slot, other, word, m, kk, v, t, face, b, rfl, c9, hy9, hn9⟩
          have s9 := c9.size
          have t9 : w.heap.size < w9.heap.size := by simp at s9; omega
          have n0 : ¬ w.heap.size = k := by omega
          have y9 : ∀ o, w9.cell? ⟨w.heap.size, o, none⟩ = (w.alloc (.cells #[.int .i64 0, .int .i64 0, .int .i64 0, .string ⟨#[]⟩, .string ⟨#[]⟩, .string ⟨#[]⟩, .int .i64 0, .string ⟨#[]⟩, .int .i64 0, .slice none 0 0, .slice none 0 0] 38)).cell? ⟨w.heap.size, o, none⟩ := fun o => (c9.cell (p := ⟨w.heap.size, o, none⟩) (by first | (simp; done) | (simp; omega)) (by simp)).trans ((World.cell?_setCell_other _ _ _ _ (by first | (simp; done) | (simp; omega))).trans (yB o))
          have z9 : ∀ o, w9.frozen? ⟨w.heap.size, o, none⟩ = (w.alloc (.cells #[.int .i64 0, .int .i64 0, .int .i64 0, .string ⟨#[]⟩, .string ⟨#[]⟩, .string ⟨#[]⟩, .int .i64 0, .string ⟨#[]⟩, .int .i64 0, .slice none 0 0, .slice none 0 0] 38)).frozen? ⟨w.heap.size, o, none⟩ := fun o => (c9.frozen (p := ⟨w.heap.size, o, none⟩) (by first | (simp; done) | (simp; omega)) (by simp)).trans (by rw [← zB o]; simp)
          have tt : w.heap.size < w.heap.size + 1 := by omega
          have hR10 := hR9.keep0 c9
          have D9 : Chg [k, w.heap.size] w w9 := ((DB.out.mono (T := [k, w.heap.size]) (by simp)).setCell (p := ⟨k, 0, none⟩) (.inl (by simp)) (.string t2)).trans0 c9
          have HD9 := Lib.hid D9
          clear yB zB hcB hfB c9 D9 SL1 SL2 SA1 SA2
          go_wp2_with fail
          refine bodyPost_ret (v := .tuple #[.agg #[.int .i64 op, .int .i64 slot, .int .i64 other, .string word, .string m, .string kk, .int .i64 v, .string t, .int .i64 face, .slice none 0 0, .slice none 0 0], .bool b]) (by simp only [results, Tryz.results61]; go_simp) rfl ?_
          refine ⟨mkA op slot other word ⟨m, kk, v, t⟩ face, none, 0, none, 0, b, t2, rfl, newT_act (a := mkA op slot other word ⟨m, kk, v, t⟩ face) ((newT_plain (T := [k, w.heap.size]) (by repeat (first | with_reducible exact HD9.out | with_reducible exact Chg.refl _ _ | with_reducible refine Chg.drew ?_ | with_reducible refine Chg.drewN ?_ _ | with_reducible refine Chg.alloc ?_ _ | with_reducible refine Chg.setCell ?_ (.inl (by simp)) _))).weak (by intro x hx; simp at hx ⊢; omega)), ?_, z2, fun h => HP.out.2 _ (hy9 h), fun h => HP.out.1 (hn9 h)⟩
          exact hR10.keep (S := [w.heap.size]) (by repeat (first | with_reducible exact Chg.refl _ _ | with_reducible exact Chg.refl _ _ | with_reducible refine Chg.drew ?_ | with_reducible refine Chg.drewN ?_ _ | with_reducible refine Chg.alloc ?_ _ | with_reducible refine Chg.setCell ?_ (.inl (by simp)) _)) (by simp; omega)
      · have p1 : ¬ 0 ≤ I1 := by first | assumption | omega | (simp_all; done)
        rw [rounds_succ]
        go_wp2_with fail
        refine (IX2.out _ hmB).mono ?_
        rintro e w1 ⟨rfl, rfl⟩
        go_wp2_with fail
        · have p2 : 0 ≤ I2 := by first | assumption | omega | (simp_all; done)
          obtain ⟨X, hXn⟩ : ∃ X : Nat, min (s.size : Int) I2 = (X : Int) := ⟨(min (s.size : Int) I2).toNat, by omega⟩
          have hXX : X2 = (X : Int) := by rw [HX2.out, if_pos (by omega), HX1.out, if_neg (by omega), ← hXn]; try omega
          rw [hXX, Int.toNat_natCast] at HP
          rw [hXn, rounds_succ]
          have hXs : X ≤ s.size := by omega
          obtain ⟨t1, ht1⟩ : ∃ t, t = s.extract 0 X := ⟨_, rfl⟩
          obtain ⟨t2, ht2⟩ : ∃ t, t = s.extract X s.size := ⟨_, rfl⟩
          have l1 : t1.data.toList = s.data.toList.take X := by rw [ht1, extract_list]; simp [cut]
          have l2 : t2.data.toList = s.data.toList.drop X := by rw [ht2, extract_list]; unfold cut; rw [List.take_of_length_le]; rw [List.length_drop, size_list]; exact Nat.le_refl _
          have SL1 : ∀ W, (Instr.slice 9 (.string s) none (some (.int .i64 (X : Int))) none).run Tryz.prog W = .ok (.string t1) W := fun W => by rw [run_slice_string_h W _ s Tryz.underlying9 .i64 X (by omega) (by omega), ht1]; simp
          have SL2 : ∀ W, (Instr.slice 9 (.string s) (some (.int .i64 (X : Int))) none none).run Tryz.prog W = .ok (.string t2) W := fun W => by rw [run_slice_string_l W _ s Tryz.underlying9 .i64 X (by omega) (by omega), ht2]; simp
          have SA1 : ∀ W, (Instr.sliceAt 9 (.string s) none (some (.int .i64 (X : Int))) none).run Tryz.prog W = .ok (.string t1) W := fun W => by rw [run_sliceAt_string (h := Tryz.underlying9)]; exact SL1 W
          have SA2 : ∀ W, (Instr.sliceAt 9 (.string s) (some (.int .i64 (X : Int))) none none).run Tryz.prog W = .ok (.string t2) W := fun W => by rw [run_sliceAt_string (h := Tryz.underlying9)]; exact SL2 W
          have z1 : t1.size ≤ s.size := by rw [← size_list, l1, List.length_take, size_list]; omega
          have z2 : t2.size ≤ s.size := by rw [← size_list, l2, List.length_drop, size_list]; omega
          rw [← l1, ← l2] at HP
          clear hX1b hX2b HX1 HX2 ht1 ht2 l1 l2 hXX hXn p1 p2 g1 g2 hI1b hI2b
          go_wp2_with fail
          have hR9 := HRB.out.set t2
          have RW9 := (HWB.out.keep1 ((Chg.refl [k] _).setCell (p := ⟨k, 0, none⟩) (.inl (by simp)) (.string t2))).env
          refine (RA.out t1 (by omega) _ RW9).mono ?_
          rintro e w9 ⟨op, slot, other, word, m, kk, v, t, face, b, rfl, c9, hy9, hn9⟩
          have s9 := c9.size
          have t9 : w.heap.size < w9.heap.size := by simp at s9; omega
          have n0 : ¬ w.heap.size = k := by omega
          have y9 : ∀ o, w9.cell? ⟨w.heap.size, o, none⟩ = (w.alloc (.cells #[.int .i64 0, .int .i64 0, .int .i64 0, .string ⟨#[]⟩, .string ⟨#[]⟩, .string ⟨#[]⟩, .int .i64 0, .string ⟨#[]⟩, .int .i64 0, .slice none 0 0, .slice none 0 0] 38)).cell? ⟨w.heap.size, o, none⟩ := fun o => (c9.cell (p := ⟨w.heap.size, o, none⟩) (by first | (simp; done) | (simp; omega)) (by simp)).trans ((World.cell?_setCell_other _ _ _ _ (by first | (simp; done) | (simp; omega))).trans (yB o))
          have z9 : ∀ o, w9.frozen? ⟨w.heap.size, o, none⟩ = (w.alloc (.cells #[.int .i64 0, .int .i64 0, .int .i64 0, .string ⟨#[]⟩, .string ⟨#[]⟩, .string ⟨#[]⟩, .int .i64 0, .string ⟨#[]⟩, .int .i64 0, .slice none 0 0, .slice none 0 0] 38)).frozen? ⟨w.heap.size, o, none⟩ := fun o => (c9.frozen (p := ⟨w.heap.size, o, none⟩) (by first | (simp; done) | (simp; omega)) (by simp)).trans (by rw [← zB o]; simp)
          have tt : w.heap.size < w.heap.size + 1 := by omega
          have hR10 := hR9.keep0 c9
          have D9 : Chg [k, w.heap.size] w w9 := ((DB.out.mono (T := [k, w.heap.size]) (by simp)).setCell (p := ⟨k, 0, none⟩) (.inl (by simp)) (.string t2)).trans0 c9
          have HD9 := Lib.hid D9
          clear yB zB hcB hfB c9 D9 SL1 SL2 SA1 SA2
          go_wp2_with fail
          refine bodyPost_ret (v := .tuple #[.agg #[.int .i64 op, .int .i64 slot, .int .i64 other, .string word, .string m, .string kk, .int .i64 v, .string t, .int .i64 face, .slice none 0 0, .slice none 0 0], .bool b]) (by simp only [results, Tryz.results61]; go_simp) rfl ?_
          refine ⟨mkA op slot other word ⟨m, kk, v, t⟩ face, none, 0, none, 0, b, t2, rfl, newT_act (a := mkA op slot other word ⟨m, kk, v, t⟩ face) ((newT_plain (T := [k, w.heap.size]) (by repeat (first | with_reducible exact HD9.out | with_reducible exact Chg.refl _ _ | with_reducible refine Chg.drew ?_ | with_reducible refine Chg.drewN ?_ _ | with_reducible refine Chg.alloc ?_ _ | with_reducible refine Chg.setCell ?_ (.inl (by simp)) _))).weak (by intro x hx; simp at hx ⊢; omega)), ?_, z2, fun h => HP.out.2 _ (hy9 h), fun h => HP.out.1 (hn9 h)⟩
          exact hR10.keep (S := [w.heap.size]) (by repeat (first | with_reducible exact Chg.refl _ _ | with_reducible exact Chg.refl _ _ | with_reducible refine Chg.drew ?_ | with_reducible refine Chg.drewN ?_ _ | with_reducible refine Chg.alloc ?_ _ | with_reducible refine Chg.setCell ?_ (.inl (by simp)) _)) (by simp; omega)
        · have p2 : ¬ 0 ≤ I2 := by first | assumption | omega | (simp_all; done)
          obtain ⟨X, hXn⟩ : ∃ X : Nat, (s.size : Int) = (X : Int) := ⟨((s.size : Int)).toNat, by omega⟩
          have hXX : X2 = (X : Int) := by rw [HX2.out, if_neg (by omega), HX1.out, if_neg (by omega), ← hXn]; try omega
          rw [hXX, Int.toNat_natCast] at HP
          rw [hXn, rounds_succ]
          have hXs : X ≤ s.size := by omega
          obtain ⟨t1, ht1⟩ : ∃ t, t = s.extract 0 X := ⟨_, rfl⟩
          obtain ⟨t2, ht2⟩ : ∃ t, t = s.extract X s.size := ⟨_, rfl⟩
          have l1 : t1.data.toList = s.data.toList.take X := by rw [ht1, extract_list]; simp [cut]
          have l2 : t2.data.toList = s.data.toList.drop X := by rw [ht2, extract_list]; unfold cut; rw [List.take_of_length_le]; rw [List.length_drop, size_list]; exact Nat.le_refl _
          have SL1 : ∀ W, (Instr.slice 9 (.string s) none (some (.int .i64 (X : Int))) none).run Tryz.prog W = .ok (.string t1) W := fun W => by rw [run_slice_string_h W _ s Tryz.underlying9 .i64 X (by omega) (by omega), ht1]; simp
          have SL2 : ∀ W, (Instr.slice 9 (.string s) (some (.int .i64 (X : Int))) none none).run Tryz.prog W = .ok (.string t2) W := fun W => by rw [run_slice_string_l W _ s Tryz.underlying9 .i64 X (by omega) (by omega), ht2]; simp
          have SA1 : ∀ W, (Instr.sliceAt 9 (.string s) none (some (.int .i64 (X : Int))) none).run Tryz.prog W = .ok (.string t1) W := fun W => by rw [run_sliceAt_string (h := Tryz.underlying9)]; exact SL1 W
          have SA2 : ∀ W, (Instr.sliceAt 9 (.string s) (some (.int .i64 (X : Int))) none none).run Tryz.prog W = .ok (.string t2) W := fun W => by rw [run_sliceAt_string (h := Tryz.underlying9)]; exact SL2 W
          have z1 : t1.size ≤ s.size := by rw [← size_list, l1, List.length_take, size_list]; omega
          have z2 : t2.size ≤ s.size := by rw [← size_list, l2, List.length_drop, size_list]; omega
          rw [← l1, ← l2] at HP
          clear hX1b hX2b HX1 HX2 ht1 ht2 l1 l2 hXX hXn p1 p2 g1 g2 hI1b hI2b
          go_wp2_with fail
          have hR9 := HRB.out.set t2
          have RW9 := (HWB.out.keep1 ((Chg.refl [k] _).setCell (p := ⟨k, 0, none⟩) (.inl (by simp)) (.string t2))).env
          refine (RA.out t1 (by omega) _ RW9).mono ?_
          rintro e w9 ⟨op, slot, other, word, m, kk, v, t, face, b, rfl, c9, hy9, hn9⟩
          have s9 := c9.size
          have t9 : w.heap.size < w9.heap.size := by simp at s9; omega
          have n0 : ¬ w.heap.size = k := by omega
          have y9 : ∀ o, w9.cell? ⟨w.heap.size, o, none⟩ = (w.alloc (.cells #[.int .i64 0, .int .i64 0, .int .i64 0, .string ⟨#[]⟩, .string ⟨#[]⟩, .string ⟨#[]⟩, .int .i64 0, .string ⟨#[]⟩, .int .i64 0, .slice none 0 0, .slice none 0 0] 38)).cell? ⟨w.heap.size, o, none⟩ := fun o => (c9.cell (p := ⟨w.heap.size, o, none⟩) (by first | (simp; done) | (simp; omega)) (by simp)).trans ((World.cell?_setCell_other _ _ _ _ (by first | (simp; done) | (simp; omega))).trans (yB o))
          have z9 : ∀ o, w9.frozen? ⟨w.heap.size, o, none⟩ = (w.alloc (.cells #[.int .i64 0, .int .i64 0, .int .i64 0, .string ⟨#[]⟩, .string ⟨#[]⟩, .string ⟨#[]⟩, .int .i64 0, .string ⟨#[]⟩, .int .i64 0, .slice none 0 0, .slice none 0 0] 38)).frozen? ⟨w.heap.size, o, none⟩ := fun o => (c9.frozen (p := ⟨w.heap.size, o, none⟩) (by first | (simp; done) | (simp; omega)) (by simp)).trans (by rw [← zB o]; simp)
          have tt : w.heap.size < w.heap.size + 1 := by omega
          have hR10 := hR9.keep0 c9
          have D9 : Chg [k, w.heap.size] w w9 := ((DB.out.mono (T := [k, w.heap.size]) (by simp)).setCell (p := ⟨k, 0, none⟩) (.inl (by simp)) (.string t2)).trans0 c9
          have HD9 := Lib.hid D9
          clear yB zB hcB hfB c9 D9 SL1 SL2 SA1 SA2
          go_wp2_with fail
          refine bodyPost_ret (v := .tuple #[.agg #[.int .i64 op, .int .i64 slot, .int .i64 other, .string word, .string m, .string kk, .int .i64 v, .string t, .int .i64 face, .slice none 0 0, .slice none 0 0], .bool b]) (by simp only [results, Tryz.results61]; go_simp) rfl ?_
          refine ⟨mkA op slot other word ⟨m, kk, v, t⟩ face, none, 0, none, 0, b, t2, rfl, newT_act (a := mkA op slot other word ⟨m, kk, v, t⟩ face) ((newT_plain (T := [k, w.heap.size]) (by repeat (first | with_reducible exact HD9.out | with_reducible exact Chg.refl _ _ | with_reducible refine Chg.drew ?_ | with_reducible refine Chg.drewN ?_ _ | with_reducible refine Chg.alloc ?_ _ | with_reducible refine Chg.setCell ?_ (.inl (by simp)) _))).weak (by intro x hx; simp at hx ⊢; omega)), ?_, z2, fun h => HP.out.2 _ (hy9 h), fun h => HP.out.1 (hn9 h)⟩
          exact hR10.keep (S := [w.heap.size]) (by repeat (first | with_reducible exact Chg.refl _ _ | with_reducible exact Chg.refl _ _ | with_reducible refine Chg.drew ?_ | with_reducible refine Chg.drewN ?_ _ | with_reducible refine Chg.alloc ?_ _ | with_reducible refine Chg.setCell ?_ (.inl (by simp)) _)) (by simp; omega)
end Go.Proofs.YtkgffhlpcjjobaaGreatDoor
namespace Go.Proofs.YtkgffhlpcjjobaaGreatDoor
open Go.RowKit

/-- Plans that a text may have, and whether there is one. -/
def ParseIs (o : Option (List ActionT)) (w : World) (e : Ending) (w' : World) : Prop := ∃ (l : List ActionT) (A : Option Addr) (c : Nat) (b : Bool), e = .returned (.tuple #[.slice A l.length c, .bool b]) ∧ New w w' (actions l) (.slice A l.length c) ∧ (b = true → o = some l) ∧ (b = false → o = none ∧ l = [])
theorem parse_yes {s : ByteArray} {l : List ActionT} {r : List UInt8} (h : s.size ≤ 600) (h2 : PlanOk l) (h3 : planT l = s) (_hr : pLst 601 s.data.toList = some (l, r)) : parseT s = some l := parseT_some h h2 h3
theorem parse_fail {s : ByteArray} (hn : s ≠ nothingT) (h : pLst 601 s.data.toList = none) : parseT s = none := parseT_none (fun _ l h2 h3 => by rw [parse_hit hn h2 h3] at h; cases h)
theorem parse_rest {s : ByteArray} (hn : s ≠ nothingT) {l : List ActionT} {r : List UInt8} (h : pLst 601 s.data.toList = some (l, r)) (hr : r ≠ []) : parseT s = none := parseT_none (fun _ m h2 h3 => by
  rw [parse_hit hn h2 h3] at h
  simp only [Option.some.injEq, Prod.mk.injEq] at h
  exact hr h.2.symm)
theorem parse_bad {s : ByteArray} (hn : s ≠ nothingT) {l : List ActionT} {r : List UInt8} (h : pLst 601 s.data.toList = some (l, r)) (hb : ¬ (PlanOk l ∧ planT l = s)) : parseT s = none := parseT_none (fun _ m h2 h3 => by
  rw [parse_hit hn h2 h3] at h
  simp only [Option.some.injEq, Prod.mk.injEq] at h
  obtain ⟨rfl, _⟩ := h
  exact hb ⟨h2, h3⟩)
theorem parse_nothing : parseT nothingT = some [] := by
  have h : PlanOk [] := ⟨by decide, by decide, by simp [okL]⟩
  exact parseT_some (by decide) h (planT_nil h rfl)
theorem action_all : ∀ n, ActC n n
  | 0 => fun k s w h => absurd h (by omega)
  | n + 1 => action_of (block_of (list_of (action_all n)))
theorem list_601 : LstC 601 601 := list_of (action_all 601)
set_option maxRecDepth 100000 in
set_option maxHeartbeats 8000000 in
theorem parsePlan_impl_any (s : ByteArray) (w : World) (hE : EnvT w) :
    Calls Tryz.prog 11 #[.string s] w (ParseIs (parseT s) w) := by
  by_cases hn : s = nothingT
  · subst hn
    have HY := Lib.hid parse_nothing
    have hb : (nothingT.toList == [110, 111, 116, 104, 105, 110, 103]) = true := by rw [ByteArray.toList_eq]; rfl
    obtain ⟨s, hs⟩ : ∃ s, s = nothingT := ⟨_, rfl⟩
    rw [← hs] at HY hb ⊢
    clear hs hE
    go_enter Tryz.func11, Tryz.ntmps11
    go_wp2_with fail
    go_ret2
    exact ⟨[], none, 0, true, rfl, (App.nil w 38 11 (Chg.refl _ _)).new, fun _ => HY.out, fun h => by cases h⟩
  · have hb : (s.toList == [110, 111, 116, 104, 105, 110, 103]) = false := by
      have := str_ne hn
      rwa [show nothingT.toList = [110, 111, 116, 104, 105, 110, 103] by rw [ByteArray.toList_eq]; rfl] at this
    by_cases hz : s.size ≤ 600
    · have FAIL := Lib.hid (parse_fail hn)
      have REST := Lib.hid (fun l r => parse_rest (l := l) (r := r) hn)
      have BAD := Lib.hid (fun l r => parse_bad (l := l) (r := r) hn)
      have YES := Lib.hid (fun l r => parse_yes (s := s) (l := l) (r := r) hz)
      obtain ⟨o, ho⟩ : ∃ o, o = parseT s := ⟨_, rfl⟩
      rw [← ho] at FAIL REST BAD YES ⊢
      clear ho hn
      go_enter Tryz.func11, Tryz.ntmps11
      go_wp2_with fail
      have hR0 : Rdr (w.alloc (.cells #[.string s] 71)) w.heap.size s := ⟨by go_simp, by go_simp⟩
      have hW0 : RdW w.heap.size (w.alloc (.cells #[.string s] 71)) := ⟨w, hE, Nat.le_refl _, (Chg.refl _ _).alloc _⟩
      have LC := Lib.hid (list_601 w.heap.size s _ (by omega) (by omega) hW0 hR0)
      clear hR0 hW0
      refine LC.out.mono ?_
      rintro e w1 ⟨l, A, c, b, s', rfl, hN, hR1, hz1, hy, hf⟩
      have hc1 := hR1.c
      have hl1 := hR1.lt
      have d1 : Chg [] w w1 := ((Chg.refl [] w).alloc _).trans hN.chg (by simp)
      have hW1 : actionsW l ≤ 1048576 ∨ b = false := by
        cases b with
        | false => exact .inr rfl
        | true =>
          have := pLst_W 601 _ _ _ (hy rfl)
          rw [size_list, size_list] at this
          exact .inl (by omega)
      have hE1 := Lib.hid (hE.keep d1)
      have D1 := Lib.hid d1
      have HN := Lib.hid (show New w w1 (actions l) (.slice A l.length c) from by
        obtain ⟨S, h1, h2, _⟩ := hN
        exact ⟨S, h1, fun x hx => by have := h2 x hx; simp at this; omega, d1⟩)
      clear d1 hR1 hE hN LC
      cases b with
      | false =>
        have HF := Lib.hid (FAIL.out (hf rfl))
        clear hy hf hW1 FAIL REST BAD YES
        go_wp2_with fail
        go_ret2
        exact ⟨[], none, 0, false, rfl, (App.nil w 38 11 D1.out).new, fun h => (by cases h), fun _ => ⟨HF.out, rfl⟩⟩
      | true =>
        have HY := Lib.hid (hy rfl)
        have hWl : actionsW l ≤ 1048576 := hW1.elim id (fun h => by cases h)
        have hrd := HN.out.rd
        clear hy hf hW1 FAIL
        by_cases hs' : s'.size = 0
        · have hse : s' = ⟨#[]⟩ := noB_of hs'
          have IP := isPlan_impl_law hE1.out.1 l _ _ hWl hrd (Nat.le_refl _)
          by_cases hok : PlanOk l
          · have IP := Lib.hid (IP.mono (BoolPost.pos hok))
            by_cases ht : planT l = s
            · have HP := Lib.hid (YES.out l _ hok ht HY.out)
              clear REST BAD YES hok hs' hrd
              subst hse
              go_wp2_with fail
              refine IP.out.mono ?_
              rintro e w2 ⟨rfl, c2⟩
              have FP := Lib.hid (formatPlan_impl_any (hE1.out.keep c2) l _ _ hWl (HN.out.later c2).rd (Nat.le_refl _))
              rw [ht] at FP
              go_wp2_with fail
              refine FP.out.mono ?_
              rintro e w3 ⟨rfl, c3⟩
              go_wp2_with fail
              go_ret2
              exact ⟨l, A, c, true, rfl, (HN.out.later c2).later c3, fun _ => HP.out, fun h => by cases h⟩
            · have HP := Lib.hid (BAD.out l _ HY.out (fun h => ht h.2))
              have hbt := str_ne ht
              clear REST BAD YES hok hs' hrd ht
              subst hse
              go_wp2_with fail
              refine IP.out.mono ?_
              rintro e w2 ⟨rfl, c2⟩
              have FP := Lib.hid (formatPlan_impl_any (hE1.out.keep c2) l _ _ hWl (HN.out.later c2).rd (Nat.le_refl _))
              obtain ⟨t, ht⟩ : ∃ t, t = planT l := ⟨_, rfl⟩
              rw [← ht] at FP hbt
              clear ht
              go_wp2_with fail
              refine FP.out.mono ?_
              rintro e w3 ⟨rfl, c3⟩
              go_wp2_with fail
              go_ret2
              exact ⟨[], none, 0, false, rfl, (App.nil w 38 11 ((D1.out.trans0 c2).trans0 c3)).new, fun h => (by cases h), fun _ => ⟨HP.out, rfl⟩⟩
          · have IP := Lib.hid (IP.mono (BoolPost.neg hok))
            have HP := Lib.hid (BAD.out l _ HY.out (fun h => hok h.1))
            clear REST BAD YES hok hs' hrd
            subst hse
            go_wp2_with fail
            refine IP.out.mono ?_
            rintro e w2 ⟨rfl, c2⟩
            go_wp2_with fail
            go_ret2
            exact ⟨[], none, 0, false, rfl, (App.nil w 38 11 (D1.out.trans0 c2)).new, fun h => (by cases h), fun _ => ⟨HP.out, rfl⟩⟩
        · have hb2 : (s'.toList == []) = false := by
            rw [beq_eq_false_iff_ne, ByteArray.toList_eq]
            intro e
            have := congrArg List.length e
            rw [size_list] at this
            exact hs' this
          have HP := Lib.hid (REST.out l _ HY.out (fun e => by
            have := congrArg List.length e
            rw [size_list] at this
            exact hs' this))
          clear REST BAD YES hs' hrd
          go_wp2_with fail
          go_ret2
          exact ⟨[], none, 0, false, rfl, (App.nil w 38 11 D1.out).new, fun h => (by cases h), fun _ => ⟨HP.out, rfl⟩⟩
    · have HN := Lib.hid (parseT_none (s := s) (fun h => absurd h hz))
      clear hE hn
      go_enter Tryz.func11, Tryz.ntmps11
      go_wp2_with fail
      go_ret2
      exact ⟨[], none, 0, false, rfl, (App.nil w 38 11 (Chg.refl _ _)).new, fun h => (by cases h), fun _ => ⟨HN.out, rfl⟩⟩
end Go.Proofs.YtkgffhlpcjjobaaGreatDoor
