/- l8Read of the reference: actions from words. Conditions: the words are not too long. Written by a program. -/
import Derived.Test.YtldpibnfhomfgaaGreatDoorReadY
import Derived.Test.YtldpibnfhomfgaaGreatDoorParsesS
import Derived.Test.YtldpibnfhomfgaaGreatDoorReadsP
namespace Go.Proofs.YtldpibnfhomfgaaGreatDoor
open Go.RowKit

/-- How far behind the words the place may stand. -/
def bdR : Nat → Nat
  | 0 => 0
  | d + 1 => 2 * bdR d + 10
/-- Actions, and the place behind them. -/
def RdIs (d : Nat) (W : List ByteArray) (i : Nat) (w : World) (e : Ending) (w' : World) : Prop :=
  ∃ (l : List ActionT) (A : Option Addr) (c j : Nat), e = .returned (.tuple #[.slice A l.length c, .int .i64 (j : Int)]) ∧ New w w' (actions l) (.slice A l.length c) ∧ rdS d (W.drop i) = (l, W.drop j) ∧ j ≤ max i W.length + bdR d
theorem rd_full {sub : Option (List ByteArray → List ActionT × List ByteArray)} {acc : List ActionT} {ws : List ByteArray} : rdL sub 0 acc ws = (acc, ws) := by rw [rdL]
theorem rd_head {sub : Option (List ByteArray → List ActionT × List ByteArray)} {f : Nat} {acc : List ActionT} {W : List ByteArray} {k : Nat} (h : k < W.length) (he : isEnd W[k]) : rdL sub f acc (W.drop k) = (acc, W.drop k) := by
  rw [List.drop_eq_getElem_cons h]
  cases f with
  | zero => rw [rdL]
  | succ f => exact rdL_end he
theorem rd_out {sub : Option (List ByteArray → List ActionT × List ByteArray)} {f : Nat} {acc : List ActionT} {W : List ByteArray} {k : Nat} (h : W.length ≤ k) : rdL sub f acc (W.drop k) = (acc, W.drop k) := by
  rw [List.drop_eq_nil_of_le h]
  cases f with
  | zero => rw [rdL]
  | succ f => rw [rdL]
theorem rd_simple {sub : Option (List ByteArray → List ActionT × List ByteArray)} {f : Nat} {acc : List ActionT} {W P : List ByteArray} {k j : Nat} (hf : 1 ≤ f) (h : k < W.length) (he : ¬ isEnd W[k]) (h2 : ¬ (W[k] = wordT 8 ∨ W[k] = wordT 9 ∨ W[k] = wordT 10) ∨ sub = none) (hw : wordsS (W.drop k) = (P, W.drop j)) :
    rdL sub f acc (W.drop k) = rdL sub (f - 1) (acc ++ [simpleS P]) (W.drop j) := by
  obtain ⟨g, rfl⟩ : ∃ g, f = g + 1 := ⟨f - 1, by omega⟩
  rw [List.drop_eq_getElem_cons h] at hw ⊢
  rw [rdL_simple he h2, hw]
  rfl
def opW (x : ByteArray) : Int := if x = wordT 8 then 8 else if x = wordT 10 then 10 else 9
theorem rd_blk {g : List ByteArray → List ActionT × List ByteArray} {f : Nat} {acc l m : List ActionT} {W : List ByteArray} {k j1 j : Nat} (hf : 1 ≤ f) (h : k < W.length) (he : ¬ isEnd W[k]) (h2 : W[k] = wordT 8 ∨ W[k] = wordT 9 ∨ W[k] = wordT 10)
    (hA : g (W.drop (k + 2)) = (l, W.drop j1)) (hB : (if W[k] = wordT 9 then ([], W.drop j1) else g (W.drop (j1 + 3))) = (m, W.drop j)) :
    (W.length ≤ j → rdL (some g) f acc (W.drop k) = (acc ++ [blkA (opW W[k]) l m], W.drop (j + 1))) ∧
    ∀ hj : j < W.length, (W[j] = wEnd → rdL (some g) f acc (W.drop k) = (acc ++ [blkA (opW W[k]) l m], W.drop (j + 1))) ∧
      (W[j] ≠ wEnd → rdL (some g) f acc (W.drop k) = rdL (some g) (f - 1) (acc ++ [blkA (opW W[k]) l m]) (W.drop (j + 1))) := by
  obtain ⟨f, rfl⟩ : ∃ g, f = g + 1 := ⟨f - 1, by omega⟩
  have e := rdL_blk (g := g) (f := f) (acc := acc) (x := W[k]) (ws := W.drop (k + 1)) he h2 (A := (l, W.drop j1)) (B := (m, W.drop j)) (by rw [List.drop_drop]; exact hA) (by dsimp only; rw [List.drop_drop]; exact hB)
  rw [← List.drop_eq_getElem_cons h] at e
  rw [e, Nat.add_sub_cancel]
  dsimp only
  rw [List.drop_drop]
  refine ⟨fun h3 => ?_, fun hj => ⟨fun h3 => ?_, fun h3 => ?_⟩⟩
  · rw [if_pos (.inl (List.drop_eq_nil_of_le h3))]; rfl
  · rw [if_pos (.inr (by rw [List.drop_eq_getElem_cons hj, h3]; rfl))]; rfl
  · rw [if_neg]
    · rfl
    · rw [List.drop_eq_getElem_cons hj]
      rintro (h4 | h4)
      · cases h4
      · exact h3 (Option.some.inj h4)
/-- Which word stands at the head. -/
theorem blkCases (x : ByteArray) : (x = wordT 8 ∧ (x.toList == [105, 102]) = true ∧ (x.toList == [108, 111, 111, 112]) = false ∧ (x.toList == [116, 114, 121]) = false) ∨
    (x = wordT 9 ∧ (x.toList == [105, 102]) = false ∧ (x.toList == [108, 111, 111, 112]) = true ∧ (x.toList == [116, 114, 121]) = false) ∨
    (x = wordT 10 ∧ (x.toList == [105, 102]) = false ∧ (x.toList == [108, 111, 111, 112]) = false ∧ (x.toList == [116, 114, 121]) = true) ∨
    (¬ (x = wordT 8 ∨ x = wordT 9 ∨ x = wordT 10) ∧ (x.toList == [105, 102]) = false ∧ (x.toList == [108, 111, 111, 112]) = false ∧ (x.toList == [116, 114, 121]) = false) := by
  by_cases h1 : x = wordT 8
  · exact .inl ⟨h1, word_eq h1 rfl, by rw [h1, ByteArray.toList_eq]; rfl, by rw [h1, ByteArray.toList_eq]; rfl⟩
  · by_cases h2 : x = wordT 9
    · exact .inr (.inl ⟨h2, word_no h1 rfl, word_eq h2 rfl, by rw [h2, ByteArray.toList_eq]; rfl⟩)
    · by_cases h3 : x = wordT 10
      · exact .inr (.inr (.inl ⟨h3, word_no h1 rfl, word_no h2 rfl, word_eq h3 rfl⟩))
      · exact .inr (.inr (.inr ⟨fun h => h.elim h1 (fun h => h.elim h2 h3), word_no h1 rfl, word_no h2 rfl, word_no h3 rfl⟩))
def slN : Value → Nat
  | .slice _ n _ => n
  | _ => 0
theorem endEq (x : ByteArray) : (x = wEnd ∧ (x.toList == [125]) = true) ∨ (x ≠ wEnd ∧ (x.toList == [125]) = false) := by
  have e1 : wEnd.toList = [125] := by rw [ByteArray.toList_eq]; rfl
  by_cases h1 : x = wEnd
  · exact .inl ⟨h1, by rw [h1, e1]; rfl⟩
  · have f1 := str_ne h1
    rw [e1] at f1
    exact .inr ⟨h1, f1⟩
theorem simpleS_AB (l : List ByteArray) : (simpleS l).A = [] ∧ (simpleS l).B = [] := by
  by_cases h : l.length < 2
  · rw [simpleS_short h]; exact ⟨rfl, rfl⟩
  · match l, h with
    | [], h => exact absurd (by simp) h
    | [_], h => exact absurd (by simp) h
    | x :: y :: ws, _ =>
      rw [simpleS_unf]
      repeat' split
      all_goals exact ⟨rfl, rfl⟩
theorem elemT (W : List ByteArray) (hT : tot W ≤ 700) : ∀ x ∈ W, x.size ≤ 1048576 := fun x hx => by have := tot_mem hx; omega
def RdC (d : Nat) : Prop := ∀ (W : List ByteArray) (i : Nat) (u : Value) (B : Nat) (w : World), Rd w B (strs W) u → B ≤ w.heap.size → tot W ≤ 700 → i ≤ W.length + 100 → Calls Tryz.prog 9 #[u, .int .i64 (i : Int), .int .i64 (d : Int)] w (RdIs d W i w)
set_option maxRecDepth 100000 in
set_option maxHeartbeats 8000000 in
theorem l8Read_0 : RdC 0 := by
  intro W i u B w hr hB hT hi
  obtain ⟨A, cap, rfl, h0, h1, hrow⟩ := strs_row hr
  unfold maxLen at h1
  have hlenW := tot_len W
  have hWl : W.length ≤ 700 := by omega
  have TW := Lib.hid (fun k => Nat.le_trans (tot_words (W.drop k)) (Nat.le_trans (tot_drop W k) hT))
  have WA := Lib.hid (fun (k : Nat) (hk : k ≤ 1000) Wd (hc : Chg [] w Wd) => l8Words_any W k _ B Wd (hr.chg0 hc hB) (by have := hc.size; omega) (by omega) (by omega) (elemT W hT))
  rw [show ((0 : Nat) : Int) = 0 from rfl]
  obtain ⟨P, hP⟩ : ∃ P, P = rdS 0 (W.drop i) := ⟨_, rfl⟩
  have hP0 : P = rdL none 15 [] (W.drop i) := by rw [hP, rdS_eq]; rfl
  unfold RdIs
  rw [← hP]
  have HP := Lib.hid hP0
  clear hP hP0 hr hT hlenW
  go_enter Tryz.func9, Tryz.ntmps9
  go_wp2_with fail
  go_loopw [1, 8] (fun iv v wr => ∃ (k : Nat) (A' : Option Addr) (cap' : Nat) (out : List ActionT), iv = .int .i64 (k : Int) ∧ v = .slice A' out.length cap' ∧ App w wr 41 11 (.slice A' out.length cap') out.length (out.flatMap actionF) ∧ out.length ≤ 15 ∧ k ≤ max i W.length ∧ Hid (P = rdL none (15 - out.length) out (W.drop k))) (fun _ v _ => 15 - slN v)
  case atStart => exact ⟨i, _, 0, [], rfl, rfl, App.empty w 41 11 (Chg.refl _ _), by simp, by omega, HP⟩
  case round =>
    obtain ⟨k, A', cap', out, rfl, rfl, hh, hn15, hkb, HX⟩ := hrel
    have hcg := hh.chg
    by_cases hlt : k < W.length
    · have QW := Lib.hid (fun Wd (hc : Chg [] w Wd) k (hk : k < W.length) => strs_cells (hrow.chg0 hc hB) k hk)
      obtain ⟨b, off, rfl, hb, q0⟩ := strs_cells (hrow.chg0 hcg hB) k hlt
      have hbl : b < wr.heap.size := by have := hcg.size; omega
      have HA := Lib.hid hh
      have CG := Lib.hid hcg
      clear hh hcg
      have RE := Lib.hid (fun h => rd_head (sub := none) (f := 15 - out.length) (acc := out) hlt h)
      have RS := Lib.hid (fun (P : List ByteArray) (j : Nat) h1 h2 h3 h4 => rd_simple (sub := none) (f := 15 - out.length) (acc := out) (P := P) (j := j) h1 hlt h2 h3 h4)
      obtain ⟨x, hxx⟩ : ∃ x, x = W[k] := ⟨_, rfl⟩
      rw [← hxx] at q0 RE RS
      clear hxx
      rcases endCases x with ⟨he, f1⟩ | ⟨he, f1, f2⟩ | ⟨he, f1, f2⟩
      · have HY := Lib.hid (HX.out.trans (RE.out he))
        clear he RS WA
        go_wp2_with fail
        go_ret2
        exact ⟨out, A', cap', k, rfl, HA.out.new, HY.out, by omega⟩
      · have HY := Lib.hid (HX.out.trans (RE.out he))
        clear he RS WA
        go_wp2_with fail
        go_ret2
        exact ⟨out, A', cap', k, rfl, HA.out.new, HY.out, by omega⟩
      · by_cases hn : out.length = 15
        · have HY := Lib.hid (HX.out.trans (by rw [show 15 - out.length = 0 by omega, rd_full]))
          have hn1 : ¬ out.length ≤ 14 := by omega
          clear he RS RE WA
          go_wp2_with fail
          go_ret2
          exact ⟨out, A', cap', k, rfl, HA.out.new, HY.out, by omega⟩
        · have hn14 : out.length ≤ 14 := by omega
          rcases blkCases x with ⟨hx, g8, g9, g10⟩ | ⟨hx, g8, g9, g10⟩ | ⟨hx, g8, g9, g10⟩ | ⟨hx, g8, g9, g10⟩
          · have HE := Lib.hid he
            have RS2 := Lib.hid (fun (P : List ByteArray) (j : Nat) h => RS.out P j (by omega) he (.inr rfl) h)
            clear hx he hn RE RS
            have WA2 := Lib.hid (WA.out k (by omega) wr CG.out)
            go_wp2_with fail
            refine WA2.out.mono ?_
            rintro e w1 ⟨l, A1, c1, j, rfl, hN1, hw, hkj, hj2, hj3⟩
            have htl : tot l ≤ 700 := by have h := TW.out k; rw [hw] at h; dsimp only at h; omega
            have SA := Lib.hid (l8Simple_any l (.slice A1 l.length c1) w1.heap.size w1 hN1.rd (Nat.le_refl _) htl)
            have HY := Lib.hid (HX.out.trans (RS2.out _ _ hw))
            have CN := Lib.hid hN1.chg
            have AB := simpleS_AB l
            obtain ⟨a, ha⟩ : ∃ a, a = simpleS l := ⟨_, rfl⟩
            rw [← ha] at SA HY AB
            have AB := Lib.hid AB
            clear ha hw hN1 htl TW WA WA2 RS2
            go_wp2_with fail
            refine SA.out.mono ?_
            rintro e w2 ⟨rfl, c2⟩
            have hone : ∀ u ∈ ([.int .i64 a.op, .int .i64 a.slot, .int .i64 a.other, .string a.word, .string a.call.method, .string a.call.key, .int .i64 a.call.value, .string a.call.text, .int .i64 a.face, .slice none 0 0, .slice none 0 0] : List Value), u.oneCell' = true := by intro u hu; simp at hu; rcases hu with rfl | rfl | rfl | rfl | rfl | rfl | rfl | rfl | rfl | rfl | rfl <;> rfl
            have hnw : ∀ j u, ([.int .i64 a.op, .int .i64 a.slot, .int .i64 a.other, .string a.word, .string a.call.method, .string a.call.key, .int .i64 a.call.value, .string a.call.text, .int .i64 a.face, .slice none 0 0, .slice none 0 0] : List Value)[j]? = some u → (w2.alloc (.cells #[.int .i64 a.op, .int .i64 a.slot, .int .i64 a.other, .string a.word, .string a.call.method, .string a.call.key, .int .i64 a.call.value, .string a.call.text, .int .i64 a.face, .slice none 0 0, .slice none 0 0] 41)).cell? ⟨w2.heap.size, j, none⟩ = some u := by
              intro j u hj
              rw [World.cell?_alloc_mark]
              simpa using hj
            have hN : NewL wr (w2.alloc (.cells #[.int .i64 a.op, .int .i64 a.slot, .int .i64 a.other, .string a.word, .string a.call.method, .string a.call.key, .int .i64 a.call.value, .string a.call.text, .int .i64 a.face, .slice none 0 0, .slice none 0 0] 41)) (actionF a) [.int .i64 a.op, .int .i64 a.slot, .int .i64 a.other, .string a.word, .string a.call.method, .string a.call.key, .int .i64 a.call.value, .string a.call.text, .int .i64 a.face, .slice none 0 0, .slice none 0 0] :=
              (newT_act (T := []) (a := a) (by rw [AB.out.1, AB.out.2]; exact newT_plain ((CN.out.trans0 c2).alloc _))).start (by simp)
            have HN := Lib.hid hN
            have HNW := Lib.hid hnw
            have HONE := Lib.hid hone
            clear hnw hone hN c2 SA AB
            go_wp2_with (at_builtin; refine wpList_app rfl (.tmp 69) (.tmp 72) _ rfl 41 _ 11 152 Tryz.underlying22 action_info rfl (by omega) HA.out HN.out rfl w2.heap.size 1 rfl rfl HNW.out HONE.out (by omega) (by omega) ?_; intro A2 cap2 w3 hA3)
            go_roundw
            case rel => exact ⟨j, A2, cap2, out ++ [a], rfl, by simp, by rw [List.flatMap_append, List.length_append]; simpa using hA3, by simp; omega, by omega, Lib.hid (by rw [HY.out, List.length_append]; rfl)⟩
            case measure => simp [slN]; omega
          · have HE := Lib.hid he
            have RS2 := Lib.hid (fun (P : List ByteArray) (j : Nat) h => RS.out P j (by omega) he (.inr rfl) h)
            clear hx he hn RE RS
            have WA2 := Lib.hid (WA.out k (by omega) wr CG.out)
            go_wp2_with fail
            refine WA2.out.mono ?_
            rintro e w1 ⟨l, A1, c1, j, rfl, hN1, hw, hkj, hj2, hj3⟩
            have htl : tot l ≤ 700 := by have h := TW.out k; rw [hw] at h; dsimp only at h; omega
            have SA := Lib.hid (l8Simple_any l (.slice A1 l.length c1) w1.heap.size w1 hN1.rd (Nat.le_refl _) htl)
            have HY := Lib.hid (HX.out.trans (RS2.out _ _ hw))
            have CN := Lib.hid hN1.chg
            have AB := simpleS_AB l
            obtain ⟨a, ha⟩ : ∃ a, a = simpleS l := ⟨_, rfl⟩
            rw [← ha] at SA HY AB
            have AB := Lib.hid AB
            clear ha hw hN1 htl TW WA WA2 RS2
            go_wp2_with fail
            refine SA.out.mono ?_
            rintro e w2 ⟨rfl, c2⟩
            have hone : ∀ u ∈ ([.int .i64 a.op, .int .i64 a.slot, .int .i64 a.other, .string a.word, .string a.call.method, .string a.call.key, .int .i64 a.call.value, .string a.call.text, .int .i64 a.face, .slice none 0 0, .slice none 0 0] : List Value), u.oneCell' = true := by intro u hu; simp at hu; rcases hu with rfl | rfl | rfl | rfl | rfl | rfl | rfl | rfl | rfl | rfl | rfl <;> rfl
            have hnw : ∀ j u, ([.int .i64 a.op, .int .i64 a.slot, .int .i64 a.other, .string a.word, .string a.call.method, .string a.call.key, .int .i64 a.call.value, .string a.call.text, .int .i64 a.face, .slice none 0 0, .slice none 0 0] : List Value)[j]? = some u → (w2.alloc (.cells #[.int .i64 a.op, .int .i64 a.slot, .int .i64 a.other, .string a.word, .string a.call.method, .string a.call.key, .int .i64 a.call.value, .string a.call.text, .int .i64 a.face, .slice none 0 0, .slice none 0 0] 41)).cell? ⟨w2.heap.size, j, none⟩ = some u := by
              intro j u hj
              rw [World.cell?_alloc_mark]
              simpa using hj
            have hN : NewL wr (w2.alloc (.cells #[.int .i64 a.op, .int .i64 a.slot, .int .i64 a.other, .string a.word, .string a.call.method, .string a.call.key, .int .i64 a.call.value, .string a.call.text, .int .i64 a.face, .slice none 0 0, .slice none 0 0] 41)) (actionF a) [.int .i64 a.op, .int .i64 a.slot, .int .i64 a.other, .string a.word, .string a.call.method, .string a.call.key, .int .i64 a.call.value, .string a.call.text, .int .i64 a.face, .slice none 0 0, .slice none 0 0] :=
              (newT_act (T := []) (a := a) (by rw [AB.out.1, AB.out.2]; exact newT_plain ((CN.out.trans0 c2).alloc _))).start (by simp)
            have HN := Lib.hid hN
            have HNW := Lib.hid hnw
            have HONE := Lib.hid hone
            clear hnw hone hN c2 SA AB
            go_wp2_with (at_builtin; refine wpList_app rfl (.tmp 69) (.tmp 72) _ rfl 41 _ 11 152 Tryz.underlying22 action_info rfl (by omega) HA.out HN.out rfl w2.heap.size 1 rfl rfl HNW.out HONE.out (by omega) (by omega) ?_; intro A2 cap2 w3 hA3)
            go_roundw
            case rel => exact ⟨j, A2, cap2, out ++ [a], rfl, by simp, by rw [List.flatMap_append, List.length_append]; simpa using hA3, by simp; omega, by omega, Lib.hid (by rw [HY.out, List.length_append]; rfl)⟩
            case measure => simp [slN]; omega
          · have HE := Lib.hid he
            have RS2 := Lib.hid (fun (P : List ByteArray) (j : Nat) h => RS.out P j (by omega) he (.inr rfl) h)
            clear hx he hn RE RS
            have WA2 := Lib.hid (WA.out k (by omega) wr CG.out)
            go_wp2_with fail
            refine WA2.out.mono ?_
            rintro e w1 ⟨l, A1, c1, j, rfl, hN1, hw, hkj, hj2, hj3⟩
            have htl : tot l ≤ 700 := by have h := TW.out k; rw [hw] at h; dsimp only at h; omega
            have SA := Lib.hid (l8Simple_any l (.slice A1 l.length c1) w1.heap.size w1 hN1.rd (Nat.le_refl _) htl)
            have HY := Lib.hid (HX.out.trans (RS2.out _ _ hw))
            have CN := Lib.hid hN1.chg
            have AB := simpleS_AB l
            obtain ⟨a, ha⟩ : ∃ a, a = simpleS l := ⟨_, rfl⟩
            rw [← ha] at SA HY AB
            have AB := Lib.hid AB
            clear ha hw hN1 htl TW WA WA2 RS2
            go_wp2_with fail
            refine SA.out.mono ?_
            rintro e w2 ⟨rfl, c2⟩
            have hone : ∀ u ∈ ([.int .i64 a.op, .int .i64 a.slot, .int .i64 a.other, .string a.word, .string a.call.method, .string a.call.key, .int .i64 a.call.value, .string a.call.text, .int .i64 a.face, .slice none 0 0, .slice none 0 0] : List Value), u.oneCell' = true := by intro u hu; simp at hu; rcases hu with rfl | rfl | rfl | rfl | rfl | rfl | rfl | rfl | rfl | rfl | rfl <;> rfl
            have hnw : ∀ j u, ([.int .i64 a.op, .int .i64 a.slot, .int .i64 a.other, .string a.word, .string a.call.method, .string a.call.key, .int .i64 a.call.value, .string a.call.text, .int .i64 a.face, .slice none 0 0, .slice none 0 0] : List Value)[j]? = some u → (w2.alloc (.cells #[.int .i64 a.op, .int .i64 a.slot, .int .i64 a.other, .string a.word, .string a.call.method, .string a.call.key, .int .i64 a.call.value, .string a.call.text, .int .i64 a.face, .slice none 0 0, .slice none 0 0] 41)).cell? ⟨w2.heap.size, j, none⟩ = some u := by
              intro j u hj
              rw [World.cell?_alloc_mark]
              simpa using hj
            have hN : NewL wr (w2.alloc (.cells #[.int .i64 a.op, .int .i64 a.slot, .int .i64 a.other, .string a.word, .string a.call.method, .string a.call.key, .int .i64 a.call.value, .string a.call.text, .int .i64 a.face, .slice none 0 0, .slice none 0 0] 41)) (actionF a) [.int .i64 a.op, .int .i64 a.slot, .int .i64 a.other, .string a.word, .string a.call.method, .string a.call.key, .int .i64 a.call.value, .string a.call.text, .int .i64 a.face, .slice none 0 0, .slice none 0 0] :=
              (newT_act (T := []) (a := a) (by rw [AB.out.1, AB.out.2]; exact newT_plain ((CN.out.trans0 c2).alloc _))).start (by simp)
            have HN := Lib.hid hN
            have HNW := Lib.hid hnw
            have HONE := Lib.hid hone
            clear hnw hone hN c2 SA AB
            go_wp2_with (at_builtin; refine wpList_app rfl (.tmp 69) (.tmp 72) _ rfl 41 _ 11 152 Tryz.underlying22 action_info rfl (by omega) HA.out HN.out rfl w2.heap.size 1 rfl rfl HNW.out HONE.out (by omega) (by omega) ?_; intro A2 cap2 w3 hA3)
            go_roundw
            case rel => exact ⟨j, A2, cap2, out ++ [a], rfl, by simp, by rw [List.flatMap_append, List.length_append]; simpa using hA3, by simp; omega, by omega, Lib.hid (by rw [HY.out, List.length_append]; rfl)⟩
            case measure => simp [slN]; omega
          · have HE := Lib.hid he
            have RS2 := Lib.hid (fun (P : List ByteArray) (j : Nat) h => RS.out P j (by omega) he (.inl hx) h)
            clear hx he hn RE RS
            have WA2 := Lib.hid (WA.out k (by omega) wr CG.out)
            go_wp2_with fail
            refine WA2.out.mono ?_
            rintro e w1 ⟨l, A1, c1, j, rfl, hN1, hw, hkj, hj2, hj3⟩
            have htl : tot l ≤ 700 := by have h := TW.out k; rw [hw] at h; dsimp only at h; omega
            have SA := Lib.hid (l8Simple_any l (.slice A1 l.length c1) w1.heap.size w1 hN1.rd (Nat.le_refl _) htl)
            have HY := Lib.hid (HX.out.trans (RS2.out _ _ hw))
            have CN := Lib.hid hN1.chg
            have AB := simpleS_AB l
            obtain ⟨a, ha⟩ : ∃ a, a = simpleS l := ⟨_, rfl⟩
            rw [← ha] at SA HY AB
            have AB := Lib.hid AB
            clear ha hw hN1 htl TW WA WA2 RS2
            go_wp2_with fail
            refine SA.out.mono ?_
            rintro e w2 ⟨rfl, c2⟩
            have hone : ∀ u ∈ ([.int .i64 a.op, .int .i64 a.slot, .int .i64 a.other, .string a.word, .string a.call.method, .string a.call.key, .int .i64 a.call.value, .string a.call.text, .int .i64 a.face, .slice none 0 0, .slice none 0 0] : List Value), u.oneCell' = true := by intro u hu; simp at hu; rcases hu with rfl | rfl | rfl | rfl | rfl | rfl | rfl | rfl | rfl | rfl | rfl <;> rfl
            have hnw : ∀ j u, ([.int .i64 a.op, .int .i64 a.slot, .int .i64 a.other, .string a.word, .string a.call.method, .string a.call.key, .int .i64 a.call.value, .string a.call.text, .int .i64 a.face, .slice none 0 0, .slice none 0 0] : List Value)[j]? = some u → (w2.alloc (.cells #[.int .i64 a.op, .int .i64 a.slot, .int .i64 a.other, .string a.word, .string a.call.method, .string a.call.key, .int .i64 a.call.value, .string a.call.text, .int .i64 a.face, .slice none 0 0, .slice none 0 0] 41)).cell? ⟨w2.heap.size, j, none⟩ = some u := by
              intro j u hj
              rw [World.cell?_alloc_mark]
              simpa using hj
            have hN : NewL wr (w2.alloc (.cells #[.int .i64 a.op, .int .i64 a.slot, .int .i64 a.other, .string a.word, .string a.call.method, .string a.call.key, .int .i64 a.call.value, .string a.call.text, .int .i64 a.face, .slice none 0 0, .slice none 0 0] 41)) (actionF a) [.int .i64 a.op, .int .i64 a.slot, .int .i64 a.other, .string a.word, .string a.call.method, .string a.call.key, .int .i64 a.call.value, .string a.call.text, .int .i64 a.face, .slice none 0 0, .slice none 0 0] :=
              (newT_act (T := []) (a := a) (by rw [AB.out.1, AB.out.2]; exact newT_plain ((CN.out.trans0 c2).alloc _))).start (by simp)
            have HN := Lib.hid hN
            have HNW := Lib.hid hnw
            have HONE := Lib.hid hone
            clear hnw hone hN c2 SA AB
            go_wp2_with (at_builtin; refine wpList_app rfl (.tmp 69) (.tmp 72) _ rfl 41 _ 11 152 Tryz.underlying22 action_info rfl (by omega) HA.out HN.out rfl w2.heap.size 1 rfl rfl HNW.out HONE.out (by omega) (by omega) ?_; intro A2 cap2 w3 hA3)
            go_roundw
            case rel => exact ⟨j, A2, cap2, out ++ [a], rfl, by simp, by rw [List.flatMap_append, List.length_append]; simpa using hA3, by simp; omega, by omega, Lib.hid (by rw [HY.out, List.length_append]; rfl)⟩
            case measure => simp [slN]; omega
    · have HY := Lib.hid (HX.out.trans (rd_out (by omega)))
      have HA := Lib.hid hh
      clear hh hcg WA
      go_wp2_with fail
      go_ret2
      exact ⟨out, A', cap', k, rfl, HA.out.new, HY.out, by omega⟩
set_option maxRecDepth 100000 in
set_option maxHeartbeats 8000000 in
theorem l8Read_succ {d : Nat} (hd : d ≤ 2) (IH : RdC d) : RdC (d + 1) := by
  intro W i u B w hr hB hT hi
  obtain ⟨A, cap, rfl, h0, h1, hrow⟩ := strs_row hr
  unfold maxLen at h1
  have hlenW := tot_len W
  have hWl : W.length ≤ 700 := by omega
  have TW := Lib.hid (fun k => Nat.le_trans (tot_words (W.drop k)) (Nat.le_trans (tot_drop W k) hT))
  have WA := Lib.hid (fun (k : Nat) (hk : k ≤ 1000) Wd (hc : Chg [] w Wd) => l8Words_any W k _ B Wd (hr.chg0 hc hB) (by have := hc.size; omega) (by omega) (by omega) (elemT W hT))
  have IC := Lib.hid (fun (k : Nat) (hk : k ≤ W.length + 100) Wd (hc : Chg [] w Wd) => IH W k _ B Wd (hr.chg0 hc hB) (by have := hc.size; omega) hT hk)
  have hbd : bdR d ≤ 30 := by match d, hd with | 0, _ => decide | 1, _ => decide | 2, _ => decide
  have hbd2 : bdR (d + 1) = 2 * bdR d + 10 := rfl
  obtain ⟨D, hD⟩ : ∃ D : Int, D = ((d + 1 : Nat) : Int) := ⟨_, rfl⟩
  rw [← hD]
  have hDa : 1 ≤ D := by omega
  have hDb : D ≤ 3 := by omega
  have hDd : Hid (D - 1 = (d : Int)) := by show _ = _; omega
  obtain ⟨P, hP⟩ : ∃ P, P = rdS (d + 1) (W.drop i) := ⟨_, rfl⟩
  have hP0 : P = rdL (some (rdS d)) 15 [] (W.drop i) := by rw [hP, rdS_eq]; rfl
  unfold RdIs
  rw [← hP]
  have HP := Lib.hid hP0
  clear hP hP0 hr hT hlenW IH hD
  go_enter Tryz.func9, Tryz.ntmps9
  go_wp2_with fail
  go_loopw [1, 8] (fun iv v wr => ∃ (k : Nat) (A' : Option Addr) (cap' : Nat) (out : List ActionT), iv = .int .i64 (k : Int) ∧ v = .slice A' out.length cap' ∧ App w wr 41 11 (.slice A' out.length cap') out.length (out.flatMap actionF) ∧ out.length ≤ 15 ∧ k ≤ max i W.length ∧ Hid (P = rdL (some (rdS d)) (15 - out.length) out (W.drop k))) (fun _ v _ => 15 - slN v)
  case atStart => exact ⟨i, _, 0, [], rfl, rfl, App.empty w 41 11 (Chg.refl _ _), by simp, by omega, HP⟩
  case round =>
    obtain ⟨k, A', cap', out, rfl, rfl, hh, hn15, hkb, HX⟩ := hrel
    have hcg := hh.chg
    by_cases hlt : k < W.length
    · have QW := Lib.hid (fun Wd (hc : Chg [] w Wd) k (hk : k < W.length) => strs_cells (hrow.chg0 hc hB) k hk)
      obtain ⟨b, off, rfl, hb, q0⟩ := strs_cells (hrow.chg0 hcg hB) k hlt
      have hbl : b < wr.heap.size := by have := hcg.size; omega
      have HA := Lib.hid hh
      have CG := Lib.hid hcg
      clear hh hcg
      have RE := Lib.hid (fun h => rd_head (sub := (some (rdS d))) (f := 15 - out.length) (acc := out) hlt h)
      have RS := Lib.hid (fun (P : List ByteArray) (j : Nat) h1 h2 h3 h4 => rd_simple (sub := (some (rdS d))) (f := 15 - out.length) (acc := out) (P := P) (j := j) h1 hlt h2 h3 h4)
      have RB := Lib.hid (fun (l m : List ActionT) (j1 j : Nat) h1 h2 h3 h4 h5 => rd_blk (g := rdS d) (f := 15 - out.length) (acc := out) (l := l) (m := m) (j1 := j1) (j := j) h1 hlt h2 h3 h4 h5)
      obtain ⟨x, hxx⟩ : ∃ x, x = W[k] := ⟨_, rfl⟩
      rw [← hxx] at q0 RE RS RB
      clear hxx
      rcases endCases x with ⟨he, f1⟩ | ⟨he, f1, f2⟩ | ⟨he, f1, f2⟩
      · have HY := Lib.hid (HX.out.trans (RE.out he))
        clear he RS WA RB IC
        go_wp2_with fail
        go_ret2
        exact ⟨out, A', cap', k, rfl, HA.out.new, HY.out, by omega⟩
      · have HY := Lib.hid (HX.out.trans (RE.out he))
        clear he RS WA RB IC
        go_wp2_with fail
        go_ret2
        exact ⟨out, A', cap', k, rfl, HA.out.new, HY.out, by omega⟩
      · by_cases hn : out.length = 15
        · have HY := Lib.hid (HX.out.trans (by rw [show 15 - out.length = 0 by omega, rd_full]))
          have hn1 : ¬ out.length ≤ 14 := by omega
          clear he RS RE WA RB IC
          go_wp2_with fail
          go_ret2
          exact ⟨out, A', cap', k, rfl, HA.out.new, HY.out, by omega⟩
        · have hn14 : out.length ≤ 14 := by omega
          rcases blkCases x with ⟨hx, g8, g9, g10⟩ | ⟨hx, g8, g9, g10⟩ | ⟨hx, g8, g9, g10⟩ | ⟨hx, g8, g9, g10⟩
          · have HE := Lib.hid he
            have ho : opW x = 8 := by rw [hx]; unfold opW; first | (rw [if_pos rfl]; done) | (rw [if_neg (w_ne (by decide)), if_pos rfl]; done) | (rw [if_neg (w_ne (by decide)), if_neg (w_ne (by decide))]; done)
            have RB2 := Lib.hid (fun (l m : List ActionT) (j1 j : Nat) h4 h5 => RB.out l m j1 j (by omega) he (by first | exact .inl hx | exact .inr (.inl hx) | exact .inr (.inr hx)) h4 h5)
            have RB3 := Lib.hid (fun (l m : List ActionT) (j1 j : Nat) h4 h5 => RB2.out l m j1 j h4 (by rw [if_neg (by rw [hx]; exact w_ne (by decide))]; exact h5))
            rw [ho] at RB3
            clear RB2 ho hx he hn RE RS RB WA TW
            have hk2 : k + 2 ≤ W.length + 100 := by omega
            go_wp2_with fail
            obtain ⟨wA, hwA⟩ : ∃ x, x = wr.alloc (.cells #[.int .i64 8, .int .i64 0, .int .i64 0, .string ⟨#[]⟩, .string ⟨#[]⟩, .string ⟨#[]⟩, .int .i64 0, .string ⟨#[]⟩, .int .i64 0, .slice none 0 0, .slice none 0 0] 41) := ⟨_, rfl⟩
            rw [← hwA]
            have dA : Chg [] wr wA := by rw [hwA]; exact (Chg.refl _ _).alloc _
            have sA : wA.heap.size = wr.heap.size + 1 := by rw [hwA]; simp
            have C1 : Calls Tryz.prog 9 #[.slice (some ⟨b, off, none⟩) W.length cap, .int .i64 ((k : Int) + 2), .int .i64 (D - 1)] wA (RdIs d W (k + 2) wA) := by
              rw [hDd.out, show ((k : Int) + 2) = ((k + 2 : Nat) : Int) by omega]
              exact IC.out (k + 2) hk2 wA (CG.out.trans0 dA)
            refine C1.mono ?_
            rintro e w1 ⟨l, A9, c9, j1, rfl, hN1, hr1, hj1⟩
            have c1 := hN1.chg
            have s1 := c1.size
            have D1 := Lib.hid (dA.trans0 c1)
            have b10 : w1.cell? ⟨wr.heap.size, 0, none⟩ = some (.int .i64 8) := (c1.cell (p := ⟨wr.heap.size, 0, none⟩) (by simp; omega) (by simp)).trans (by rw [hwA]; go_simp)
            have b11 : w1.cell? ⟨wr.heap.size, 1, none⟩ = some (.int .i64 0) := (c1.cell (p := ⟨wr.heap.size, 1, none⟩) (by simp; omega) (by simp)).trans (by rw [hwA]; go_simp)
            have b12 : w1.cell? ⟨wr.heap.size, 2, none⟩ = some (.int .i64 0) := (c1.cell (p := ⟨wr.heap.size, 2, none⟩) (by simp; omega) (by simp)).trans (by rw [hwA]; go_simp)
            have b13 : w1.cell? ⟨wr.heap.size, 3, none⟩ = some (.string ⟨#[]⟩) := (c1.cell (p := ⟨wr.heap.size, 3, none⟩) (by simp; omega) (by simp)).trans (by rw [hwA]; go_simp)
            have b14 : w1.cell? ⟨wr.heap.size, 4, none⟩ = some (.string ⟨#[]⟩) := (c1.cell (p := ⟨wr.heap.size, 4, none⟩) (by simp; omega) (by simp)).trans (by rw [hwA]; go_simp)
            have b15 : w1.cell? ⟨wr.heap.size, 5, none⟩ = some (.string ⟨#[]⟩) := (c1.cell (p := ⟨wr.heap.size, 5, none⟩) (by simp; omega) (by simp)).trans (by rw [hwA]; go_simp)
            have b16 : w1.cell? ⟨wr.heap.size, 6, none⟩ = some (.int .i64 0) := (c1.cell (p := ⟨wr.heap.size, 6, none⟩) (by simp; omega) (by simp)).trans (by rw [hwA]; go_simp)
            have b17 : w1.cell? ⟨wr.heap.size, 7, none⟩ = some (.string ⟨#[]⟩) := (c1.cell (p := ⟨wr.heap.size, 7, none⟩) (by simp; omega) (by simp)).trans (by rw [hwA]; go_simp)
            have b18 : w1.cell? ⟨wr.heap.size, 8, none⟩ = some (.int .i64 0) := (c1.cell (p := ⟨wr.heap.size, 8, none⟩) (by simp; omega) (by simp)).trans (by rw [hwA]; go_simp)
            have b19 : w1.cell? ⟨wr.heap.size, 9, none⟩ = some (.slice none 0 0) := (c1.cell (p := ⟨wr.heap.size, 9, none⟩) (by simp; omega) (by simp)).trans (by rw [hwA]; go_simp)
            have b110 : w1.cell? ⟨wr.heap.size, 10, none⟩ = some (.slice none 0 0) := (c1.cell (p := ⟨wr.heap.size, 10, none⟩) (by simp; omega) (by simp)).trans (by rw [hwA]; go_simp)
            have f1x : ∀ o, w1.frozen? ⟨wr.heap.size, o, none⟩ = false := fun o => (c1.frozen (p := ⟨wr.heap.size, o, none⟩) (by simp; omega) (by simp)).trans (by rw [hwA]; go_simp)
            have t1 : wr.heap.size < w1.heap.size := by omega
            have HN1 := Lib.hid hN1
            have HDA := Lib.hid dA
            have HSA := Lib.hid sA
            obtain ⟨w1s, hw1s⟩ : ∃ x, x = w1.setCell ⟨wr.heap.size, 9, none⟩ (.slice A9 l.length c9) := ⟨_, rfl⟩
            have d1s : Chg [wr.heap.size] w1 w1s := by rw [hw1s]; exact (Chg.refl _ _).setCell (.inl (by simp)) _
            have D1s : Chg [] wr w1s := by rw [hw1s]; exact D1.out.setCell (.inr (by simp)) _
            have s1s : w1s.heap.size = w1.heap.size := by rw [hw1s]; simp
            have B10 : w1s.cell? ⟨wr.heap.size, 0, none⟩ = some (.int .i64 8) := by rw [hw1s, World.cell?_setCell_other _ _ _ _ (by simp)]; exact b10
            have B11 : w1s.cell? ⟨wr.heap.size, 1, none⟩ = some (.int .i64 0) := by rw [hw1s, World.cell?_setCell_other _ _ _ _ (by simp)]; exact b11
            have B12 : w1s.cell? ⟨wr.heap.size, 2, none⟩ = some (.int .i64 0) := by rw [hw1s, World.cell?_setCell_other _ _ _ _ (by simp)]; exact b12
            have B13 : w1s.cell? ⟨wr.heap.size, 3, none⟩ = some (.string ⟨#[]⟩) := by rw [hw1s, World.cell?_setCell_other _ _ _ _ (by simp)]; exact b13
            have B14 : w1s.cell? ⟨wr.heap.size, 4, none⟩ = some (.string ⟨#[]⟩) := by rw [hw1s, World.cell?_setCell_other _ _ _ _ (by simp)]; exact b14
            have B15 : w1s.cell? ⟨wr.heap.size, 5, none⟩ = some (.string ⟨#[]⟩) := by rw [hw1s, World.cell?_setCell_other _ _ _ _ (by simp)]; exact b15
            have B16 : w1s.cell? ⟨wr.heap.size, 6, none⟩ = some (.int .i64 0) := by rw [hw1s, World.cell?_setCell_other _ _ _ _ (by simp)]; exact b16
            have B17 : w1s.cell? ⟨wr.heap.size, 7, none⟩ = some (.string ⟨#[]⟩) := by rw [hw1s, World.cell?_setCell_other _ _ _ _ (by simp)]; exact b17
            have B18 : w1s.cell? ⟨wr.heap.size, 8, none⟩ = some (.int .i64 0) := by rw [hw1s, World.cell?_setCell_other _ _ _ _ (by simp)]; exact b18
            have B19 : w1s.cell? ⟨wr.heap.size, 9, none⟩ = some (.slice A9 l.length c9) := by rw [hw1s]; exact World.cell?_setCell_same _ _ _ b19
            have B110 : w1s.cell? ⟨wr.heap.size, 10, none⟩ = some (.slice none 0 0) := by rw [hw1s, World.cell?_setCell_other _ _ _ _ (by simp)]; exact b110
            have F1 : ∀ o, w1s.frozen? ⟨wr.heap.size, o, none⟩ = false := fun o => by rw [hw1s, ← f1x o]; simp
            have C2 : Hid (Calls Tryz.prog 9 #[.slice (some ⟨b, off, none⟩) W.length cap, .int .i64 ((j1 : Int) + 3), .int .i64 (D - 1)] w1s (RdIs d W (j1 + 3) w1s)) := by
              rw [hDd.out, show ((j1 : Int) + 3) = ((j1 + 3 : Nat) : Int) by omega]
              exact IC.out (j1 + 3) (by omega) w1s (CG.out.trans0 D1s)
            have j1b : j1 ≤ 800 := by omega
            have e19 : ∀ u, (w1.setCell ⟨wr.heap.size, 9, none⟩ u).cell? ⟨wr.heap.size, 0, none⟩ = some (.int .i64 8) := fun u => by rw [World.cell?_setCell_other _ _ _ _ (by simp)]; exact b10
            clear hwA dA c1 hN1
            go_wp2_with fail
            rw [← hw1s]
            clear b10 b11 b12 b13 b14 b15 b16 b17 b18 b19 b110 f1x hw1s e19
            refine C2.out.mono ?_
            rintro e w2 ⟨m, A10, c10, j, rfl, hN2, hr2, hj2⟩
            have c2 := hN2.chg
            have s2 := c2.size
            have D2 := Lib.hid (D1s.trans0 c2)
            have b20 : w2.cell? ⟨wr.heap.size, 0, none⟩ = some (.int .i64 8) := (c2.cell (p := ⟨wr.heap.size, 0, none⟩) (by simp; omega) (by simp)).trans B10
            have b21 : w2.cell? ⟨wr.heap.size, 1, none⟩ = some (.int .i64 0) := (c2.cell (p := ⟨wr.heap.size, 1, none⟩) (by simp; omega) (by simp)).trans B11
            have b22 : w2.cell? ⟨wr.heap.size, 2, none⟩ = some (.int .i64 0) := (c2.cell (p := ⟨wr.heap.size, 2, none⟩) (by simp; omega) (by simp)).trans B12
            have b23 : w2.cell? ⟨wr.heap.size, 3, none⟩ = some (.string ⟨#[]⟩) := (c2.cell (p := ⟨wr.heap.size, 3, none⟩) (by simp; omega) (by simp)).trans B13
            have b24 : w2.cell? ⟨wr.heap.size, 4, none⟩ = some (.string ⟨#[]⟩) := (c2.cell (p := ⟨wr.heap.size, 4, none⟩) (by simp; omega) (by simp)).trans B14
            have b25 : w2.cell? ⟨wr.heap.size, 5, none⟩ = some (.string ⟨#[]⟩) := (c2.cell (p := ⟨wr.heap.size, 5, none⟩) (by simp; omega) (by simp)).trans B15
            have b26 : w2.cell? ⟨wr.heap.size, 6, none⟩ = some (.int .i64 0) := (c2.cell (p := ⟨wr.heap.size, 6, none⟩) (by simp; omega) (by simp)).trans B16
            have b27 : w2.cell? ⟨wr.heap.size, 7, none⟩ = some (.string ⟨#[]⟩) := (c2.cell (p := ⟨wr.heap.size, 7, none⟩) (by simp; omega) (by simp)).trans B17
            have b28 : w2.cell? ⟨wr.heap.size, 8, none⟩ = some (.int .i64 0) := (c2.cell (p := ⟨wr.heap.size, 8, none⟩) (by simp; omega) (by simp)).trans B18
            have b29 : w2.cell? ⟨wr.heap.size, 9, none⟩ = some (.slice A9 l.length c9) := (c2.cell (p := ⟨wr.heap.size, 9, none⟩) (by simp; omega) (by simp)).trans B19
            have b210 : w2.cell? ⟨wr.heap.size, 10, none⟩ = some (.slice none 0 0) := (c2.cell (p := ⟨wr.heap.size, 10, none⟩) (by simp; omega) (by simp)).trans B110
            have f2x : ∀ o, w2.frozen? ⟨wr.heap.size, o, none⟩ = false := fun o => (c2.frozen (p := ⟨wr.heap.size, o, none⟩) (by simp; omega) (by simp)).trans (F1 o)
            have e20 : ∀ u, (w2.setCell ⟨wr.heap.size, 10, none⟩ u).cell? ⟨wr.heap.size, 0, none⟩ = some (.int .i64 8) := fun u => by rw [World.cell?_setCell_other _ _ _ _ (by simp)]; exact b20
            have e21 : ∀ u, (w2.setCell ⟨wr.heap.size, 10, none⟩ u).cell? ⟨wr.heap.size, 1, none⟩ = some (.int .i64 0) := fun u => by rw [World.cell?_setCell_other _ _ _ _ (by simp)]; exact b21
            have e22 : ∀ u, (w2.setCell ⟨wr.heap.size, 10, none⟩ u).cell? ⟨wr.heap.size, 2, none⟩ = some (.int .i64 0) := fun u => by rw [World.cell?_setCell_other _ _ _ _ (by simp)]; exact b22
            have e23 : ∀ u, (w2.setCell ⟨wr.heap.size, 10, none⟩ u).cell? ⟨wr.heap.size, 3, none⟩ = some (.string ⟨#[]⟩) := fun u => by rw [World.cell?_setCell_other _ _ _ _ (by simp)]; exact b23
            have e24 : ∀ u, (w2.setCell ⟨wr.heap.size, 10, none⟩ u).cell? ⟨wr.heap.size, 4, none⟩ = some (.string ⟨#[]⟩) := fun u => by rw [World.cell?_setCell_other _ _ _ _ (by simp)]; exact b24
            have e25 : ∀ u, (w2.setCell ⟨wr.heap.size, 10, none⟩ u).cell? ⟨wr.heap.size, 5, none⟩ = some (.string ⟨#[]⟩) := fun u => by rw [World.cell?_setCell_other _ _ _ _ (by simp)]; exact b25
            have e26 : ∀ u, (w2.setCell ⟨wr.heap.size, 10, none⟩ u).cell? ⟨wr.heap.size, 6, none⟩ = some (.int .i64 0) := fun u => by rw [World.cell?_setCell_other _ _ _ _ (by simp)]; exact b26
            have e27 : ∀ u, (w2.setCell ⟨wr.heap.size, 10, none⟩ u).cell? ⟨wr.heap.size, 7, none⟩ = some (.string ⟨#[]⟩) := fun u => by rw [World.cell?_setCell_other _ _ _ _ (by simp)]; exact b27
            have e28 : ∀ u, (w2.setCell ⟨wr.heap.size, 10, none⟩ u).cell? ⟨wr.heap.size, 8, none⟩ = some (.int .i64 0) := fun u => by rw [World.cell?_setCell_other _ _ _ _ (by simp)]; exact b28
            have e29 : ∀ u, (w2.setCell ⟨wr.heap.size, 10, none⟩ u).cell? ⟨wr.heap.size, 9, none⟩ = some (.slice A9 l.length c9) := fun u => by rw [World.cell?_setCell_other _ _ _ _ (by simp)]; exact b29
            have e210 : ∀ u, (w2.setCell ⟨wr.heap.size, 10, none⟩ u).cell? ⟨wr.heap.size, 10, none⟩ = some u := fun u => World.cell?_setCell_same _ _ _ b210
            have t2 : wr.heap.size < w2.heap.size := by omega
            have RB4 := Lib.hid (RB3.out l m j1 j hr1 hr2)
            have hone : ∀ u ∈ ([.int .i64 8, .int .i64 0, .int .i64 0, .string ⟨#[]⟩, .string ⟨#[]⟩, .string ⟨#[]⟩, .int .i64 0, .string ⟨#[]⟩, .int .i64 0, .slice A9 l.length c9, .slice A10 m.length c10] : List Value), u.oneCell' = true := by intro u hu; simp only [List.mem_cons, List.not_mem_nil, or_false] at hu; rcases hu with rfl | rfl | rfl | rfl | rfl | rfl | rfl | rfl | rfl | rfl | rfl <;> rfl
            have hnw : ∀ j u, ([.int .i64 8, .int .i64 0, .int .i64 0, .string ⟨#[]⟩, .string ⟨#[]⟩, .string ⟨#[]⟩, .int .i64 0, .string ⟨#[]⟩, .int .i64 0, .slice A9 l.length c9, .slice A10 m.length c10] : List Value)[j]? = some u → ((w2.setCell ⟨wr.heap.size, 10, none⟩ (.slice A10 m.length c10)).alloc (.cells #[.int .i64 8, .int .i64 0, .int .i64 0, .string ⟨#[]⟩, .string ⟨#[]⟩, .string ⟨#[]⟩, .int .i64 0, .string ⟨#[]⟩, .int .i64 0, .slice A9 l.length c9, .slice A10 m.length c10] 41)).cell? ⟨w2.heap.size, j, none⟩ = some u := by
              intro j u hj
              rw [show w2.heap.size = (w2.setCell ⟨wr.heap.size, 10, none⟩ (.slice A10 m.length c10)).heap.size by simp, World.cell?_alloc_mark]
              simpa using hj
            have hN : NewL wr ((w2.setCell ⟨wr.heap.size, 10, none⟩ (.slice A10 m.length c10)).alloc (.cells #[.int .i64 8, .int .i64 0, .int .i64 0, .string ⟨#[]⟩, .string ⟨#[]⟩, .string ⟨#[]⟩, .int .i64 0, .string ⟨#[]⟩, .int .i64 0, .slice A9 l.length c9, .slice A10 m.length c10] 41)) (actionF (blkA 8 l m)) [.int .i64 8, .int .i64 0, .int .i64 0, .string ⟨#[]⟩, .string ⟨#[]⟩, .string ⟨#[]⟩, .int .i64 0, .string ⟨#[]⟩, .int .i64 0, .slice A9 l.length c9, .slice A10 m.length c10] :=
              (newT_act (T := [wr.heap.size]) (a := (blkA 8 l m)) (newT_two (T := [wr.heap.size]) (HDA.out.mono (by simp)) HN1.out.newS d1s hN2.newS (((Chg.refl _ _).setCell (.inl (by simp)) _).alloc _) (by simp [HSA.out]))).start (by simp)
            have HN := Lib.hid hN
            have HNW := Lib.hid hnw
            have HONE := Lib.hid hone
            have jb : j ≤ 800 := by omega
            have jb2 : j + 1 ≤ max i W.length + bdR (d + 1) := by omega
            clear hnw hone hN RB3 IC hr1 hj1 B10 B11 B12 B13 B14 B15 B16 B17 B18 B19 B110 F1 c2 hN2 d1s D1s s1s hr2 hj2
            by_cases hend : W.length ≤ j
            · have HY := Lib.hid (HX.out.trans (RB4.out.1 hend))
              clear RB4
              go_wp2_with (at_builtin; refine wpList_app rfl (.tmp 112) (.tmp 114) _ rfl 41 _ 11 152 Tryz.underlying22 action_info rfl (by omega) HA.out HN.out rfl w2.heap.size 1 rfl rfl HNW.out HONE.out (by omega) (by omega) ?_; intro A2 cap2 w3 hA3)
              go_ret2
              exact ⟨out ++ [(blkA 8 l m)], A2, cap2, j + 1, by simp, by have := hA3.new; unfold actions; rw [List.length_append, List.flatMap_append]; simpa using this, HY.out, jb2⟩
            · have hend2 : j < W.length := by omega
              have RB5 := Lib.hid (RB4.out.2 hend2)
              have QJ : Hid (∀ Wd, Chg [] w Wd → Wd.cell? ⟨b, off + j, none⟩ = some (.string W[j])) := fun Wd hc => by obtain ⟨b2, off2, e2, _, q2⟩ := QW.out Wd hc j hend2; cases e2; exact q2
              obtain ⟨y, hy⟩ : ∃ y, y = W[j] := ⟨_, rfl⟩
              rw [← hy] at RB5 QJ
              clear hy RB4 QW
              rcases endEq y with ⟨hy, f3⟩ | ⟨hy, f3⟩
              · have HY := Lib.hid (HX.out.trans (RB5.out.1 hy))
                clear RB5 hy
                go_wp2_with (at_builtin; refine wpList_app rfl (.tmp 112) (.tmp 114) _ rfl 41 _ 11 152 Tryz.underlying22 action_info rfl (by omega) HA.out HN.out rfl w2.heap.size 1 rfl rfl HNW.out HONE.out (by omega) (by omega) ?_; intro A2 cap2 w3 hA3; have q3 := QJ.out w3 hA3.chg)
                go_ret2
                exact ⟨out ++ [(blkA 8 l m)], A2, cap2, j + 1, by simp, by have := hA3.new; unfold actions; rw [List.length_append, List.flatMap_append]; simpa using this, HY.out, jb2⟩
              · have HY := Lib.hid (HX.out.trans (RB5.out.2 hy))
                clear RB5 hy
                go_wp2_with (at_builtin; refine wpList_app rfl (.tmp 112) (.tmp 114) _ rfl 41 _ 11 152 Tryz.underlying22 action_info rfl (by omega) HA.out HN.out rfl w2.heap.size 1 rfl rfl HNW.out HONE.out (by omega) (by omega) ?_; intro A2 cap2 w3 hA3; have q3 := QJ.out w3 hA3.chg)
                go_roundw
                case rel => exact ⟨j + 1, A2, cap2, out ++ [(blkA 8 l m)], by go_num, by simp, by rw [List.flatMap_append, List.length_append]; simpa using hA3, by simp; omega, by omega, Lib.hid (by rw [HY.out, List.length_append]; rfl)⟩
                case measure => simp [slN]; omega
          · have HE := Lib.hid he
            have ho : opW x = 9 := by rw [hx]; unfold opW; first | (rw [if_pos rfl]; done) | (rw [if_neg (w_ne (by decide)), if_pos rfl]; done) | (rw [if_neg (w_ne (by decide)), if_neg (w_ne (by decide))]; done)
            have RB2 := Lib.hid (fun (l m : List ActionT) (j1 j : Nat) h4 h5 => RB.out l m j1 j (by omega) he (by first | exact .inl hx | exact .inr (.inl hx) | exact .inr (.inr hx)) h4 h5)
            have RB3 := Lib.hid (fun (l : List ActionT) (j : Nat) h4 => RB2.out l [] j j h4 (by rw [if_pos hx]))
            rw [ho] at RB3
            clear RB2 ho hx he hn RE RS RB WA TW
            have hk2 : k + 2 ≤ W.length + 100 := by omega
            go_wp2_with fail
            obtain ⟨wA, hwA⟩ : ∃ x, x = wr.alloc (.cells #[.int .i64 9, .int .i64 0, .int .i64 0, .string ⟨#[]⟩, .string ⟨#[]⟩, .string ⟨#[]⟩, .int .i64 0, .string ⟨#[]⟩, .int .i64 0, .slice none 0 0, .slice none 0 0] 41) := ⟨_, rfl⟩
            rw [← hwA]
            have dA : Chg [] wr wA := by rw [hwA]; exact (Chg.refl _ _).alloc _
            have sA : wA.heap.size = wr.heap.size + 1 := by rw [hwA]; simp
            have C1 : Calls Tryz.prog 9 #[.slice (some ⟨b, off, none⟩) W.length cap, .int .i64 ((k : Int) + 2), .int .i64 (D - 1)] wA (RdIs d W (k + 2) wA) := by
              rw [hDd.out, show ((k : Int) + 2) = ((k + 2 : Nat) : Int) by omega]
              exact IC.out (k + 2) hk2 wA (CG.out.trans0 dA)
            refine C1.mono ?_
            rintro e w1 ⟨l, A9, c9, j1, rfl, hN1, hr1, hj1⟩
            have c1 := hN1.chg
            have s1 := c1.size
            have D1 := Lib.hid (dA.trans0 c1)
            have b10 : w1.cell? ⟨wr.heap.size, 0, none⟩ = some (.int .i64 9) := (c1.cell (p := ⟨wr.heap.size, 0, none⟩) (by simp; omega) (by simp)).trans (by rw [hwA]; go_simp)
            have b11 : w1.cell? ⟨wr.heap.size, 1, none⟩ = some (.int .i64 0) := (c1.cell (p := ⟨wr.heap.size, 1, none⟩) (by simp; omega) (by simp)).trans (by rw [hwA]; go_simp)
            have b12 : w1.cell? ⟨wr.heap.size, 2, none⟩ = some (.int .i64 0) := (c1.cell (p := ⟨wr.heap.size, 2, none⟩) (by simp; omega) (by simp)).trans (by rw [hwA]; go_simp)
            have b13 : w1.cell? ⟨wr.heap.size, 3, none⟩ = some (.string ⟨#[]⟩) := (c1.cell (p := ⟨wr.heap.size, 3, none⟩) (by simp; omega) (by simp)).trans (by rw [hwA]; go_simp)
            have b14 : w1.cell? ⟨wr.heap.size, 4, none⟩ = some (.string ⟨#[]⟩) := (c1.cell (p := ⟨wr.heap.size, 4, none⟩) (by simp; omega) (by simp)).trans (by rw [hwA]; go_simp)
            have b15 : w1.cell? ⟨wr.heap.size, 5, none⟩ = some (.string ⟨#[]⟩) := (c1.cell (p := ⟨wr.heap.size, 5, none⟩) (by simp; omega) (by simp)).trans (by rw [hwA]; go_simp)
            have b16 : w1.cell? ⟨wr.heap.size, 6, none⟩ = some (.int .i64 0) := (c1.cell (p := ⟨wr.heap.size, 6, none⟩) (by simp; omega) (by simp)).trans (by rw [hwA]; go_simp)
            have b17 : w1.cell? ⟨wr.heap.size, 7, none⟩ = some (.string ⟨#[]⟩) := (c1.cell (p := ⟨wr.heap.size, 7, none⟩) (by simp; omega) (by simp)).trans (by rw [hwA]; go_simp)
            have b18 : w1.cell? ⟨wr.heap.size, 8, none⟩ = some (.int .i64 0) := (c1.cell (p := ⟨wr.heap.size, 8, none⟩) (by simp; omega) (by simp)).trans (by rw [hwA]; go_simp)
            have b19 : w1.cell? ⟨wr.heap.size, 9, none⟩ = some (.slice none 0 0) := (c1.cell (p := ⟨wr.heap.size, 9, none⟩) (by simp; omega) (by simp)).trans (by rw [hwA]; go_simp)
            have b110 : w1.cell? ⟨wr.heap.size, 10, none⟩ = some (.slice none 0 0) := (c1.cell (p := ⟨wr.heap.size, 10, none⟩) (by simp; omega) (by simp)).trans (by rw [hwA]; go_simp)
            have f1x : ∀ o, w1.frozen? ⟨wr.heap.size, o, none⟩ = false := fun o => (c1.frozen (p := ⟨wr.heap.size, o, none⟩) (by simp; omega) (by simp)).trans (by rw [hwA]; go_simp)
            have t1 : wr.heap.size < w1.heap.size := by omega
            have HN1 := Lib.hid hN1
            have HDA := Lib.hid dA
            have HSA := Lib.hid sA
            obtain ⟨j, rfl⟩ : ∃ j, j = j1 := ⟨_, rfl⟩
            have e10 : ∀ u, (w1.setCell ⟨wr.heap.size, 9, none⟩ u).cell? ⟨wr.heap.size, 0, none⟩ = some (.int .i64 9) := fun u => by rw [World.cell?_setCell_other _ _ _ _ (by simp)]; exact b10
            have e11 : ∀ u, (w1.setCell ⟨wr.heap.size, 9, none⟩ u).cell? ⟨wr.heap.size, 1, none⟩ = some (.int .i64 0) := fun u => by rw [World.cell?_setCell_other _ _ _ _ (by simp)]; exact b11
            have e12 : ∀ u, (w1.setCell ⟨wr.heap.size, 9, none⟩ u).cell? ⟨wr.heap.size, 2, none⟩ = some (.int .i64 0) := fun u => by rw [World.cell?_setCell_other _ _ _ _ (by simp)]; exact b12
            have e13 : ∀ u, (w1.setCell ⟨wr.heap.size, 9, none⟩ u).cell? ⟨wr.heap.size, 3, none⟩ = some (.string ⟨#[]⟩) := fun u => by rw [World.cell?_setCell_other _ _ _ _ (by simp)]; exact b13
            have e14 : ∀ u, (w1.setCell ⟨wr.heap.size, 9, none⟩ u).cell? ⟨wr.heap.size, 4, none⟩ = some (.string ⟨#[]⟩) := fun u => by rw [World.cell?_setCell_other _ _ _ _ (by simp)]; exact b14
            have e15 : ∀ u, (w1.setCell ⟨wr.heap.size, 9, none⟩ u).cell? ⟨wr.heap.size, 5, none⟩ = some (.string ⟨#[]⟩) := fun u => by rw [World.cell?_setCell_other _ _ _ _ (by simp)]; exact b15
            have e16 : ∀ u, (w1.setCell ⟨wr.heap.size, 9, none⟩ u).cell? ⟨wr.heap.size, 6, none⟩ = some (.int .i64 0) := fun u => by rw [World.cell?_setCell_other _ _ _ _ (by simp)]; exact b16
            have e17 : ∀ u, (w1.setCell ⟨wr.heap.size, 9, none⟩ u).cell? ⟨wr.heap.size, 7, none⟩ = some (.string ⟨#[]⟩) := fun u => by rw [World.cell?_setCell_other _ _ _ _ (by simp)]; exact b17
            have e18 : ∀ u, (w1.setCell ⟨wr.heap.size, 9, none⟩ u).cell? ⟨wr.heap.size, 8, none⟩ = some (.int .i64 0) := fun u => by rw [World.cell?_setCell_other _ _ _ _ (by simp)]; exact b18
            have e19 : ∀ u, (w1.setCell ⟨wr.heap.size, 9, none⟩ u).cell? ⟨wr.heap.size, 9, none⟩ = some u := fun u => World.cell?_setCell_same _ _ _ b19
            have e110 : ∀ u, (w1.setCell ⟨wr.heap.size, 9, none⟩ u).cell? ⟨wr.heap.size, 10, none⟩ = some (.slice none 0 0) := fun u => by rw [World.cell?_setCell_other _ _ _ _ (by simp)]; exact b110
            have RB4 := Lib.hid (RB3.out l j hr1)
            have hone : ∀ u ∈ ([.int .i64 9, .int .i64 0, .int .i64 0, .string ⟨#[]⟩, .string ⟨#[]⟩, .string ⟨#[]⟩, .int .i64 0, .string ⟨#[]⟩, .int .i64 0, .slice A9 l.length c9, .slice none 0 0] : List Value), u.oneCell' = true := by intro u hu; simp only [List.mem_cons, List.not_mem_nil, or_false] at hu; rcases hu with rfl | rfl | rfl | rfl | rfl | rfl | rfl | rfl | rfl | rfl | rfl <;> rfl
            have hnw : ∀ j u, ([.int .i64 9, .int .i64 0, .int .i64 0, .string ⟨#[]⟩, .string ⟨#[]⟩, .string ⟨#[]⟩, .int .i64 0, .string ⟨#[]⟩, .int .i64 0, .slice A9 l.length c9, .slice none 0 0] : List Value)[j]? = some u → ((w1.setCell ⟨wr.heap.size, 9, none⟩ (.slice A9 l.length c9)).alloc (.cells #[.int .i64 9, .int .i64 0, .int .i64 0, .string ⟨#[]⟩, .string ⟨#[]⟩, .string ⟨#[]⟩, .int .i64 0, .string ⟨#[]⟩, .int .i64 0, .slice A9 l.length c9, .slice none 0 0] 41)).cell? ⟨w1.heap.size, j, none⟩ = some u := by
              intro j u hj
              rw [show w1.heap.size = (w1.setCell ⟨wr.heap.size, 9, none⟩ (.slice A9 l.length c9)).heap.size by simp, World.cell?_alloc_mark]
              simpa using hj
            have hN : NewL wr ((w1.setCell ⟨wr.heap.size, 9, none⟩ (.slice A9 l.length c9)).alloc (.cells #[.int .i64 9, .int .i64 0, .int .i64 0, .string ⟨#[]⟩, .string ⟨#[]⟩, .string ⟨#[]⟩, .int .i64 0, .string ⟨#[]⟩, .int .i64 0, .slice A9 l.length c9, .slice none 0 0] 41)) (actionF (blkA 9 l [])) [.int .i64 9, .int .i64 0, .int .i64 0, .string ⟨#[]⟩, .string ⟨#[]⟩, .string ⟨#[]⟩, .int .i64 0, .string ⟨#[]⟩, .int .i64 0, .slice A9 l.length c9, .slice none 0 0] :=
              (newT_act (T := [wr.heap.size]) (a := (blkA 9 l [])) (newT_two (T := [wr.heap.size]) (HDA.out.mono (by simp)) hN1.newS (Chg.refl _ _) (newS_nil _) (((Chg.refl _ _).setCell (.inl (by simp)) _).alloc _) (by simp [HSA.out]))).start (by simp)
            have HN := Lib.hid hN
            have HNW := Lib.hid hnw
            have HONE := Lib.hid hone
            have jb : j ≤ 800 := by omega
            have jb2 : j + 1 ≤ max i W.length + bdR (d + 1) := by omega
            clear hnw hone hN RB3 IC hr1 hj1 hwA dA c1 hN1
            by_cases hend : W.length ≤ j
            · have HY := Lib.hid (HX.out.trans (RB4.out.1 hend))
              clear RB4
              go_wp2_with (at_builtin; refine wpList_app rfl (.tmp 112) (.tmp 114) _ rfl 41 _ 11 152 Tryz.underlying22 action_info rfl (by omega) HA.out HN.out rfl w1.heap.size 1 rfl rfl HNW.out HONE.out (by omega) (by omega) ?_; intro A2 cap2 w3 hA3)
              go_ret2
              exact ⟨out ++ [(blkA 9 l [])], A2, cap2, j + 1, by simp, by have := hA3.new; unfold actions; rw [List.length_append, List.flatMap_append]; simpa using this, HY.out, jb2⟩
            · have hend2 : j < W.length := by omega
              have RB5 := Lib.hid (RB4.out.2 hend2)
              have QJ : Hid (∀ Wd, Chg [] w Wd → Wd.cell? ⟨b, off + j, none⟩ = some (.string W[j])) := fun Wd hc => by obtain ⟨b2, off2, e2, _, q2⟩ := QW.out Wd hc j hend2; cases e2; exact q2
              obtain ⟨y, hy⟩ : ∃ y, y = W[j] := ⟨_, rfl⟩
              rw [← hy] at RB5 QJ
              clear hy RB4 QW
              rcases endEq y with ⟨hy, f3⟩ | ⟨hy, f3⟩
              · have HY := Lib.hid (HX.out.trans (RB5.out.1 hy))
                clear RB5 hy
                go_wp2_with (at_builtin; refine wpList_app rfl (.tmp 112) (.tmp 114) _ rfl 41 _ 11 152 Tryz.underlying22 action_info rfl (by omega) HA.out HN.out rfl w1.heap.size 1 rfl rfl HNW.out HONE.out (by omega) (by omega) ?_; intro A2 cap2 w3 hA3; have q3 := QJ.out w3 hA3.chg)
                go_ret2
                exact ⟨out ++ [(blkA 9 l [])], A2, cap2, j + 1, by simp, by have := hA3.new; unfold actions; rw [List.length_append, List.flatMap_append]; simpa using this, HY.out, jb2⟩
              · have HY := Lib.hid (HX.out.trans (RB5.out.2 hy))
                clear RB5 hy
                go_wp2_with (at_builtin; refine wpList_app rfl (.tmp 112) (.tmp 114) _ rfl 41 _ 11 152 Tryz.underlying22 action_info rfl (by omega) HA.out HN.out rfl w1.heap.size 1 rfl rfl HNW.out HONE.out (by omega) (by omega) ?_; intro A2 cap2 w3 hA3; have q3 := QJ.out w3 hA3.chg)
                go_roundw
                case rel => exact ⟨j + 1, A2, cap2, out ++ [(blkA 9 l [])], by go_num, by simp, by rw [List.flatMap_append, List.length_append]; simpa using hA3, by simp; omega, by omega, Lib.hid (by rw [HY.out, List.length_append]; rfl)⟩
                case measure => simp [slN]; omega
          · have HE := Lib.hid he
            have ho : opW x = 10 := by rw [hx]; unfold opW; first | (rw [if_pos rfl]; done) | (rw [if_neg (w_ne (by decide)), if_pos rfl]; done) | (rw [if_neg (w_ne (by decide)), if_neg (w_ne (by decide))]; done)
            have RB2 := Lib.hid (fun (l m : List ActionT) (j1 j : Nat) h4 h5 => RB.out l m j1 j (by omega) he (by first | exact .inl hx | exact .inr (.inl hx) | exact .inr (.inr hx)) h4 h5)
            have RB3 := Lib.hid (fun (l m : List ActionT) (j1 j : Nat) h4 h5 => RB2.out l m j1 j h4 (by rw [if_neg (by rw [hx]; exact w_ne (by decide))]; exact h5))
            rw [ho] at RB3
            clear RB2 ho hx he hn RE RS RB WA TW
            have hk2 : k + 2 ≤ W.length + 100 := by omega
            go_wp2_with fail
            obtain ⟨wA, hwA⟩ : ∃ x, x = wr.alloc (.cells #[.int .i64 10, .int .i64 0, .int .i64 0, .string ⟨#[]⟩, .string ⟨#[]⟩, .string ⟨#[]⟩, .int .i64 0, .string ⟨#[]⟩, .int .i64 0, .slice none 0 0, .slice none 0 0] 41) := ⟨_, rfl⟩
            rw [← hwA]
            have dA : Chg [] wr wA := by rw [hwA]; exact (Chg.refl _ _).alloc _
            have sA : wA.heap.size = wr.heap.size + 1 := by rw [hwA]; simp
            have C1 : Calls Tryz.prog 9 #[.slice (some ⟨b, off, none⟩) W.length cap, .int .i64 ((k : Int) + 2), .int .i64 (D - 1)] wA (RdIs d W (k + 2) wA) := by
              rw [hDd.out, show ((k : Int) + 2) = ((k + 2 : Nat) : Int) by omega]
              exact IC.out (k + 2) hk2 wA (CG.out.trans0 dA)
            refine C1.mono ?_
            rintro e w1 ⟨l, A9, c9, j1, rfl, hN1, hr1, hj1⟩
            have c1 := hN1.chg
            have s1 := c1.size
            have D1 := Lib.hid (dA.trans0 c1)
            have b10 : w1.cell? ⟨wr.heap.size, 0, none⟩ = some (.int .i64 10) := (c1.cell (p := ⟨wr.heap.size, 0, none⟩) (by simp; omega) (by simp)).trans (by rw [hwA]; go_simp)
            have b11 : w1.cell? ⟨wr.heap.size, 1, none⟩ = some (.int .i64 0) := (c1.cell (p := ⟨wr.heap.size, 1, none⟩) (by simp; omega) (by simp)).trans (by rw [hwA]; go_simp)
            have b12 : w1.cell? ⟨wr.heap.size, 2, none⟩ = some (.int .i64 0) := (c1.cell (p := ⟨wr.heap.size, 2, none⟩) (by simp; omega) (by simp)).trans (by rw [hwA]; go_simp)
            have b13 : w1.cell? ⟨wr.heap.size, 3, none⟩ = some (.string ⟨#[]⟩) := (c1.cell (p := ⟨wr.heap.size, 3, none⟩) (by simp; omega) (by simp)).trans (by rw [hwA]; go_simp)
            have b14 : w1.cell? ⟨wr.heap.size, 4, none⟩ = some (.string ⟨#[]⟩) := (c1.cell (p := ⟨wr.heap.size, 4, none⟩) (by simp; omega) (by simp)).trans (by rw [hwA]; go_simp)
            have b15 : w1.cell? ⟨wr.heap.size, 5, none⟩ = some (.string ⟨#[]⟩) := (c1.cell (p := ⟨wr.heap.size, 5, none⟩) (by simp; omega) (by simp)).trans (by rw [hwA]; go_simp)
            have b16 : w1.cell? ⟨wr.heap.size, 6, none⟩ = some (.int .i64 0) := (c1.cell (p := ⟨wr.heap.size, 6, none⟩) (by simp; omega) (by simp)).trans (by rw [hwA]; go_simp)
            have b17 : w1.cell? ⟨wr.heap.size, 7, none⟩ = some (.string ⟨#[]⟩) := (c1.cell (p := ⟨wr.heap.size, 7, none⟩) (by simp; omega) (by simp)).trans (by rw [hwA]; go_simp)
            have b18 : w1.cell? ⟨wr.heap.size, 8, none⟩ = some (.int .i64 0) := (c1.cell (p := ⟨wr.heap.size, 8, none⟩) (by simp; omega) (by simp)).trans (by rw [hwA]; go_simp)
            have b19 : w1.cell? ⟨wr.heap.size, 9, none⟩ = some (.slice none 0 0) := (c1.cell (p := ⟨wr.heap.size, 9, none⟩) (by simp; omega) (by simp)).trans (by rw [hwA]; go_simp)
            have b110 : w1.cell? ⟨wr.heap.size, 10, none⟩ = some (.slice none 0 0) := (c1.cell (p := ⟨wr.heap.size, 10, none⟩) (by simp; omega) (by simp)).trans (by rw [hwA]; go_simp)
            have f1x : ∀ o, w1.frozen? ⟨wr.heap.size, o, none⟩ = false := fun o => (c1.frozen (p := ⟨wr.heap.size, o, none⟩) (by simp; omega) (by simp)).trans (by rw [hwA]; go_simp)
            have t1 : wr.heap.size < w1.heap.size := by omega
            have HN1 := Lib.hid hN1
            have HDA := Lib.hid dA
            have HSA := Lib.hid sA
            obtain ⟨w1s, hw1s⟩ : ∃ x, x = w1.setCell ⟨wr.heap.size, 9, none⟩ (.slice A9 l.length c9) := ⟨_, rfl⟩
            have d1s : Chg [wr.heap.size] w1 w1s := by rw [hw1s]; exact (Chg.refl _ _).setCell (.inl (by simp)) _
            have D1s : Chg [] wr w1s := by rw [hw1s]; exact D1.out.setCell (.inr (by simp)) _
            have s1s : w1s.heap.size = w1.heap.size := by rw [hw1s]; simp
            have B10 : w1s.cell? ⟨wr.heap.size, 0, none⟩ = some (.int .i64 10) := by rw [hw1s, World.cell?_setCell_other _ _ _ _ (by simp)]; exact b10
            have B11 : w1s.cell? ⟨wr.heap.size, 1, none⟩ = some (.int .i64 0) := by rw [hw1s, World.cell?_setCell_other _ _ _ _ (by simp)]; exact b11
            have B12 : w1s.cell? ⟨wr.heap.size, 2, none⟩ = some (.int .i64 0) := by rw [hw1s, World.cell?_setCell_other _ _ _ _ (by simp)]; exact b12
            have B13 : w1s.cell? ⟨wr.heap.size, 3, none⟩ = some (.string ⟨#[]⟩) := by rw [hw1s, World.cell?_setCell_other _ _ _ _ (by simp)]; exact b13
            have B14 : w1s.cell? ⟨wr.heap.size, 4, none⟩ = some (.string ⟨#[]⟩) := by rw [hw1s, World.cell?_setCell_other _ _ _ _ (by simp)]; exact b14
            have B15 : w1s.cell? ⟨wr.heap.size, 5, none⟩ = some (.string ⟨#[]⟩) := by rw [hw1s, World.cell?_setCell_other _ _ _ _ (by simp)]; exact b15
            have B16 : w1s.cell? ⟨wr.heap.size, 6, none⟩ = some (.int .i64 0) := by rw [hw1s, World.cell?_setCell_other _ _ _ _ (by simp)]; exact b16
            have B17 : w1s.cell? ⟨wr.heap.size, 7, none⟩ = some (.string ⟨#[]⟩) := by rw [hw1s, World.cell?_setCell_other _ _ _ _ (by simp)]; exact b17
            have B18 : w1s.cell? ⟨wr.heap.size, 8, none⟩ = some (.int .i64 0) := by rw [hw1s, World.cell?_setCell_other _ _ _ _ (by simp)]; exact b18
            have B19 : w1s.cell? ⟨wr.heap.size, 9, none⟩ = some (.slice A9 l.length c9) := by rw [hw1s]; exact World.cell?_setCell_same _ _ _ b19
            have B110 : w1s.cell? ⟨wr.heap.size, 10, none⟩ = some (.slice none 0 0) := by rw [hw1s, World.cell?_setCell_other _ _ _ _ (by simp)]; exact b110
            have F1 : ∀ o, w1s.frozen? ⟨wr.heap.size, o, none⟩ = false := fun o => by rw [hw1s, ← f1x o]; simp
            have C2 : Hid (Calls Tryz.prog 9 #[.slice (some ⟨b, off, none⟩) W.length cap, .int .i64 ((j1 : Int) + 3), .int .i64 (D - 1)] w1s (RdIs d W (j1 + 3) w1s)) := by
              rw [hDd.out, show ((j1 : Int) + 3) = ((j1 + 3 : Nat) : Int) by omega]
              exact IC.out (j1 + 3) (by omega) w1s (CG.out.trans0 D1s)
            have j1b : j1 ≤ 800 := by omega
            have e19 : ∀ u, (w1.setCell ⟨wr.heap.size, 9, none⟩ u).cell? ⟨wr.heap.size, 0, none⟩ = some (.int .i64 10) := fun u => by rw [World.cell?_setCell_other _ _ _ _ (by simp)]; exact b10
            clear hwA dA c1 hN1
            go_wp2_with fail
            rw [← hw1s]
            clear b10 b11 b12 b13 b14 b15 b16 b17 b18 b19 b110 f1x hw1s e19
            refine C2.out.mono ?_
            rintro e w2 ⟨m, A10, c10, j, rfl, hN2, hr2, hj2⟩
            have c2 := hN2.chg
            have s2 := c2.size
            have D2 := Lib.hid (D1s.trans0 c2)
            have b20 : w2.cell? ⟨wr.heap.size, 0, none⟩ = some (.int .i64 10) := (c2.cell (p := ⟨wr.heap.size, 0, none⟩) (by simp; omega) (by simp)).trans B10
            have b21 : w2.cell? ⟨wr.heap.size, 1, none⟩ = some (.int .i64 0) := (c2.cell (p := ⟨wr.heap.size, 1, none⟩) (by simp; omega) (by simp)).trans B11
            have b22 : w2.cell? ⟨wr.heap.size, 2, none⟩ = some (.int .i64 0) := (c2.cell (p := ⟨wr.heap.size, 2, none⟩) (by simp; omega) (by simp)).trans B12
            have b23 : w2.cell? ⟨wr.heap.size, 3, none⟩ = some (.string ⟨#[]⟩) := (c2.cell (p := ⟨wr.heap.size, 3, none⟩) (by simp; omega) (by simp)).trans B13
            have b24 : w2.cell? ⟨wr.heap.size, 4, none⟩ = some (.string ⟨#[]⟩) := (c2.cell (p := ⟨wr.heap.size, 4, none⟩) (by simp; omega) (by simp)).trans B14
            have b25 : w2.cell? ⟨wr.heap.size, 5, none⟩ = some (.string ⟨#[]⟩) := (c2.cell (p := ⟨wr.heap.size, 5, none⟩) (by simp; omega) (by simp)).trans B15
            have b26 : w2.cell? ⟨wr.heap.size, 6, none⟩ = some (.int .i64 0) := (c2.cell (p := ⟨wr.heap.size, 6, none⟩) (by simp; omega) (by simp)).trans B16
            have b27 : w2.cell? ⟨wr.heap.size, 7, none⟩ = some (.string ⟨#[]⟩) := (c2.cell (p := ⟨wr.heap.size, 7, none⟩) (by simp; omega) (by simp)).trans B17
            have b28 : w2.cell? ⟨wr.heap.size, 8, none⟩ = some (.int .i64 0) := (c2.cell (p := ⟨wr.heap.size, 8, none⟩) (by simp; omega) (by simp)).trans B18
            have b29 : w2.cell? ⟨wr.heap.size, 9, none⟩ = some (.slice A9 l.length c9) := (c2.cell (p := ⟨wr.heap.size, 9, none⟩) (by simp; omega) (by simp)).trans B19
            have b210 : w2.cell? ⟨wr.heap.size, 10, none⟩ = some (.slice none 0 0) := (c2.cell (p := ⟨wr.heap.size, 10, none⟩) (by simp; omega) (by simp)).trans B110
            have f2x : ∀ o, w2.frozen? ⟨wr.heap.size, o, none⟩ = false := fun o => (c2.frozen (p := ⟨wr.heap.size, o, none⟩) (by simp; omega) (by simp)).trans (F1 o)
            have e20 : ∀ u, (w2.setCell ⟨wr.heap.size, 10, none⟩ u).cell? ⟨wr.heap.size, 0, none⟩ = some (.int .i64 10) := fun u => by rw [World.cell?_setCell_other _ _ _ _ (by simp)]; exact b20
            have e21 : ∀ u, (w2.setCell ⟨wr.heap.size, 10, none⟩ u).cell? ⟨wr.heap.size, 1, none⟩ = some (.int .i64 0) := fun u => by rw [World.cell?_setCell_other _ _ _ _ (by simp)]; exact b21
            have e22 : ∀ u, (w2.setCell ⟨wr.heap.size, 10, none⟩ u).cell? ⟨wr.heap.size, 2, none⟩ = some (.int .i64 0) := fun u => by rw [World.cell?_setCell_other _ _ _ _ (by simp)]; exact b22
            have e23 : ∀ u, (w2.setCell ⟨wr.heap.size, 10, none⟩ u).cell? ⟨wr.heap.size, 3, none⟩ = some (.string ⟨#[]⟩) := fun u => by rw [World.cell?_setCell_other _ _ _ _ (by simp)]; exact b23
            have e24 : ∀ u, (w2.setCell ⟨wr.heap.size, 10, none⟩ u).cell? ⟨wr.heap.size, 4, none⟩ = some (.string ⟨#[]⟩) := fun u => by rw [World.cell?_setCell_other _ _ _ _ (by simp)]; exact b24
            have e25 : ∀ u, (w2.setCell ⟨wr.heap.size, 10, none⟩ u).cell? ⟨wr.heap.size, 5, none⟩ = some (.string ⟨#[]⟩) := fun u => by rw [World.cell?_setCell_other _ _ _ _ (by simp)]; exact b25
            have e26 : ∀ u, (w2.setCell ⟨wr.heap.size, 10, none⟩ u).cell? ⟨wr.heap.size, 6, none⟩ = some (.int .i64 0) := fun u => by rw [World.cell?_setCell_other _ _ _ _ (by simp)]; exact b26
            have e27 : ∀ u, (w2.setCell ⟨wr.heap.size, 10, none⟩ u).cell? ⟨wr.heap.size, 7, none⟩ = some (.string ⟨#[]⟩) := fun u => by rw [World.cell?_setCell_other _ _ _ _ (by simp)]; exact b27
            have e28 : ∀ u, (w2.setCell ⟨wr.heap.size, 10, none⟩ u).cell? ⟨wr.heap.size, 8, none⟩ = some (.int .i64 0) := fun u => by rw [World.cell?_setCell_other _ _ _ _ (by simp)]; exact b28
            have e29 : ∀ u, (w2.setCell ⟨wr.heap.size, 10, none⟩ u).cell? ⟨wr.heap.size, 9, none⟩ = some (.slice A9 l.length c9) := fun u => by rw [World.cell?_setCell_other _ _ _ _ (by simp)]; exact b29
            have e210 : ∀ u, (w2.setCell ⟨wr.heap.size, 10, none⟩ u).cell? ⟨wr.heap.size, 10, none⟩ = some u := fun u => World.cell?_setCell_same _ _ _ b210
            have t2 : wr.heap.size < w2.heap.size := by omega
            have RB4 := Lib.hid (RB3.out l m j1 j hr1 hr2)
            have hone : ∀ u ∈ ([.int .i64 10, .int .i64 0, .int .i64 0, .string ⟨#[]⟩, .string ⟨#[]⟩, .string ⟨#[]⟩, .int .i64 0, .string ⟨#[]⟩, .int .i64 0, .slice A9 l.length c9, .slice A10 m.length c10] : List Value), u.oneCell' = true := by intro u hu; simp only [List.mem_cons, List.not_mem_nil, or_false] at hu; rcases hu with rfl | rfl | rfl | rfl | rfl | rfl | rfl | rfl | rfl | rfl | rfl <;> rfl
            have hnw : ∀ j u, ([.int .i64 10, .int .i64 0, .int .i64 0, .string ⟨#[]⟩, .string ⟨#[]⟩, .string ⟨#[]⟩, .int .i64 0, .string ⟨#[]⟩, .int .i64 0, .slice A9 l.length c9, .slice A10 m.length c10] : List Value)[j]? = some u → ((w2.setCell ⟨wr.heap.size, 10, none⟩ (.slice A10 m.length c10)).alloc (.cells #[.int .i64 10, .int .i64 0, .int .i64 0, .string ⟨#[]⟩, .string ⟨#[]⟩, .string ⟨#[]⟩, .int .i64 0, .string ⟨#[]⟩, .int .i64 0, .slice A9 l.length c9, .slice A10 m.length c10] 41)).cell? ⟨w2.heap.size, j, none⟩ = some u := by
              intro j u hj
              rw [show w2.heap.size = (w2.setCell ⟨wr.heap.size, 10, none⟩ (.slice A10 m.length c10)).heap.size by simp, World.cell?_alloc_mark]
              simpa using hj
            have hN : NewL wr ((w2.setCell ⟨wr.heap.size, 10, none⟩ (.slice A10 m.length c10)).alloc (.cells #[.int .i64 10, .int .i64 0, .int .i64 0, .string ⟨#[]⟩, .string ⟨#[]⟩, .string ⟨#[]⟩, .int .i64 0, .string ⟨#[]⟩, .int .i64 0, .slice A9 l.length c9, .slice A10 m.length c10] 41)) (actionF (blkA 10 l m)) [.int .i64 10, .int .i64 0, .int .i64 0, .string ⟨#[]⟩, .string ⟨#[]⟩, .string ⟨#[]⟩, .int .i64 0, .string ⟨#[]⟩, .int .i64 0, .slice A9 l.length c9, .slice A10 m.length c10] :=
              (newT_act (T := [wr.heap.size]) (a := (blkA 10 l m)) (newT_two (T := [wr.heap.size]) (HDA.out.mono (by simp)) HN1.out.newS d1s hN2.newS (((Chg.refl _ _).setCell (.inl (by simp)) _).alloc _) (by simp [HSA.out]))).start (by simp)
            have HN := Lib.hid hN
            have HNW := Lib.hid hnw
            have HONE := Lib.hid hone
            have jb : j ≤ 800 := by omega
            have jb2 : j + 1 ≤ max i W.length + bdR (d + 1) := by omega
            clear hnw hone hN RB3 IC hr1 hj1 B10 B11 B12 B13 B14 B15 B16 B17 B18 B19 B110 F1 c2 hN2 d1s D1s s1s hr2 hj2
            by_cases hend : W.length ≤ j
            · have HY := Lib.hid (HX.out.trans (RB4.out.1 hend))
              clear RB4
              go_wp2_with (at_builtin; refine wpList_app rfl (.tmp 112) (.tmp 114) _ rfl 41 _ 11 152 Tryz.underlying22 action_info rfl (by omega) HA.out HN.out rfl w2.heap.size 1 rfl rfl HNW.out HONE.out (by omega) (by omega) ?_; intro A2 cap2 w3 hA3)
              go_ret2
              exact ⟨out ++ [(blkA 10 l m)], A2, cap2, j + 1, by simp, by have := hA3.new; unfold actions; rw [List.length_append, List.flatMap_append]; simpa using this, HY.out, jb2⟩
            · have hend2 : j < W.length := by omega
              have RB5 := Lib.hid (RB4.out.2 hend2)
              have QJ : Hid (∀ Wd, Chg [] w Wd → Wd.cell? ⟨b, off + j, none⟩ = some (.string W[j])) := fun Wd hc => by obtain ⟨b2, off2, e2, _, q2⟩ := QW.out Wd hc j hend2; cases e2; exact q2
              obtain ⟨y, hy⟩ : ∃ y, y = W[j] := ⟨_, rfl⟩
              rw [← hy] at RB5 QJ
              clear hy RB4 QW
              rcases endEq y with ⟨hy, f3⟩ | ⟨hy, f3⟩
              · have HY := Lib.hid (HX.out.trans (RB5.out.1 hy))
                clear RB5 hy
                go_wp2_with (at_builtin; refine wpList_app rfl (.tmp 112) (.tmp 114) _ rfl 41 _ 11 152 Tryz.underlying22 action_info rfl (by omega) HA.out HN.out rfl w2.heap.size 1 rfl rfl HNW.out HONE.out (by omega) (by omega) ?_; intro A2 cap2 w3 hA3; have q3 := QJ.out w3 hA3.chg)
                go_ret2
                exact ⟨out ++ [(blkA 10 l m)], A2, cap2, j + 1, by simp, by have := hA3.new; unfold actions; rw [List.length_append, List.flatMap_append]; simpa using this, HY.out, jb2⟩
              · have HY := Lib.hid (HX.out.trans (RB5.out.2 hy))
                clear RB5 hy
                go_wp2_with (at_builtin; refine wpList_app rfl (.tmp 112) (.tmp 114) _ rfl 41 _ 11 152 Tryz.underlying22 action_info rfl (by omega) HA.out HN.out rfl w2.heap.size 1 rfl rfl HNW.out HONE.out (by omega) (by omega) ?_; intro A2 cap2 w3 hA3; have q3 := QJ.out w3 hA3.chg)
                go_roundw
                case rel => exact ⟨j + 1, A2, cap2, out ++ [(blkA 10 l m)], by go_num, by simp, by rw [List.flatMap_append, List.length_append]; simpa using hA3, by simp; omega, by omega, Lib.hid (by rw [HY.out, List.length_append]; rfl)⟩
                case measure => simp [slN]; omega
          · have HE := Lib.hid he
            have RS2 := Lib.hid (fun (P : List ByteArray) (j : Nat) h => RS.out P j (by omega) he (.inl hx) h)
            clear hx he hn RE RS RB IC
            have WA2 := Lib.hid (WA.out k (by omega) wr CG.out)
            go_wp2_with fail
            refine WA2.out.mono ?_
            rintro e w1 ⟨l, A1, c1, j, rfl, hN1, hw, hkj, hj2, hj3⟩
            have htl : tot l ≤ 700 := by have h := TW.out k; rw [hw] at h; dsimp only at h; omega
            have SA := Lib.hid (l8Simple_any l (.slice A1 l.length c1) w1.heap.size w1 hN1.rd (Nat.le_refl _) htl)
            have HY := Lib.hid (HX.out.trans (RS2.out _ _ hw))
            have CN := Lib.hid hN1.chg
            have AB := simpleS_AB l
            obtain ⟨a, ha⟩ : ∃ a, a = simpleS l := ⟨_, rfl⟩
            rw [← ha] at SA HY AB
            have AB := Lib.hid AB
            clear ha hw hN1 htl TW WA WA2 RS2
            go_wp2_with fail
            refine SA.out.mono ?_
            rintro e w2 ⟨rfl, c2⟩
            have hone : ∀ u ∈ ([.int .i64 a.op, .int .i64 a.slot, .int .i64 a.other, .string a.word, .string a.call.method, .string a.call.key, .int .i64 a.call.value, .string a.call.text, .int .i64 a.face, .slice none 0 0, .slice none 0 0] : List Value), u.oneCell' = true := by intro u hu; simp at hu; rcases hu with rfl | rfl | rfl | rfl | rfl | rfl | rfl | rfl | rfl | rfl | rfl <;> rfl
            have hnw : ∀ j u, ([.int .i64 a.op, .int .i64 a.slot, .int .i64 a.other, .string a.word, .string a.call.method, .string a.call.key, .int .i64 a.call.value, .string a.call.text, .int .i64 a.face, .slice none 0 0, .slice none 0 0] : List Value)[j]? = some u → (w2.alloc (.cells #[.int .i64 a.op, .int .i64 a.slot, .int .i64 a.other, .string a.word, .string a.call.method, .string a.call.key, .int .i64 a.call.value, .string a.call.text, .int .i64 a.face, .slice none 0 0, .slice none 0 0] 41)).cell? ⟨w2.heap.size, j, none⟩ = some u := by
              intro j u hj
              rw [World.cell?_alloc_mark]
              simpa using hj
            have hN : NewL wr (w2.alloc (.cells #[.int .i64 a.op, .int .i64 a.slot, .int .i64 a.other, .string a.word, .string a.call.method, .string a.call.key, .int .i64 a.call.value, .string a.call.text, .int .i64 a.face, .slice none 0 0, .slice none 0 0] 41)) (actionF a) [.int .i64 a.op, .int .i64 a.slot, .int .i64 a.other, .string a.word, .string a.call.method, .string a.call.key, .int .i64 a.call.value, .string a.call.text, .int .i64 a.face, .slice none 0 0, .slice none 0 0] :=
              (newT_act (T := []) (a := a) (by rw [AB.out.1, AB.out.2]; exact newT_plain ((CN.out.trans0 c2).alloc _))).start (by simp)
            have HN := Lib.hid hN
            have HNW := Lib.hid hnw
            have HONE := Lib.hid hone
            clear hnw hone hN c2 SA AB
            go_wp2_with (at_builtin; refine wpList_app rfl (.tmp 69) (.tmp 72) _ rfl 41 _ 11 152 Tryz.underlying22 action_info rfl (by omega) HA.out HN.out rfl w2.heap.size 1 rfl rfl HNW.out HONE.out (by omega) (by omega) ?_; intro A2 cap2 w3 hA3)
            go_roundw
            case rel => exact ⟨j, A2, cap2, out ++ [a], rfl, by simp, by rw [List.flatMap_append, List.length_append]; simpa using hA3, by simp; omega, by omega, Lib.hid (by rw [HY.out, List.length_append]; rfl)⟩
            case measure => simp [slN]; omega
    · have HY := Lib.hid (HX.out.trans (rd_out (by omega)))
      have HA := Lib.hid hh
      clear hh hcg WA IC
      go_wp2_with fail
      go_ret2
      exact ⟨out, A', cap', k, rfl, HA.out.new, HY.out, by omega⟩
end Go.Proofs.YtldpibnfhomfgaaGreatDoor
