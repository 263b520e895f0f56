/- Plans as the reference reads them, in plain Lean: what is written is read again. / Plans with blocks as the reference reads them: what is written is read again; and how much is read. Plain Lean. / l8Bare of the reference: a word without a semicolon at its end. Conditions: the word is not too long. / l8Words of the reference: the words of a simple action. Conditions: the words are not too many. / A part of a slice of texts. Conditions: none. / How long words are, all together. Plain Lean. -/
import Derived.Test.YtldpibnfhomfgaaGreatDoorParses
import Derived.Test.YtldpibnfhomfgaaGreatDoorFaceQ
import Derived.Test.YtldpibnfhomfgaaGreatDoorApps
import Derived.Test.YtldpibnfhomfgaaGreatDoorGround
namespace Go.Proofs.YtldpibnfhomfgaaGreatDoor
open Go.RowKit

def spB : ByteArray := ⟨#[32]⟩
/-- The pieces of bytes between blanks. -/
def spL (l : List UInt8) : List ByteArray := (spAux 32 [] l).map bytesOf
theorem splitS_spL (s : ByteArray) : splitS 32 s = spL s.data.toList := rfl
theorem spAux_app (c : UInt8) : ∀ (l cur r : List UInt8), spAux c cur (l ++ c :: r) = spAux c cur l ++ spAux c [] r
  | [], cur, r => by
    rw [List.nil_append]
    conv => lhs; rw [spAux]
    rw [if_pos rfl]
    rfl
  | b :: l, cur, r => by
    rw [List.cons_append, spAux, spAux]
    split
    · rw [spAux_app c l [] r]; rfl
    · exact spAux_app c l _ r
theorem spL_app (l r : List UInt8) : spL (l ++ 32 :: r) = spL l ++ spL r := by
  unfold spL; rw [spAux_app, List.map_append]
theorem spL_one {l : List UInt8} (h : 32 ∉ l) : spL l = [bytesOf l] := by
  unfold spL; rw [sp_no 32 l [] h]; rfl
theorem spL_ne (l : List UInt8) : spL l ≠ [] := by
  intro e
  have := sp_some 32 l []
  unfold spL at e
  rw [List.map_eq_nil_iff] at e
  rw [e] at this
  simp at this
/-- A semicolon behind the last piece. -/
def semi (ws : List ByteArray) : List ByteArray := ws.dropLast ++ [ws.getLastD noB ++ ⟨#[59]⟩]
theorem spAux_semi : ∀ (l cur : List UInt8), ∃ X y, spAux 32 cur l = X ++ [y] ∧ spAux 32 cur (l ++ [59]) = X ++ [y ++ [59]]
  | [], cur => ⟨[], cur, by simp [spAux], by simp [spAux]⟩
  | b :: l, cur => by
    rw [List.cons_append, spAux, spAux]
    split
    · obtain ⟨X, y, h1, h2⟩ := spAux_semi l []
      exact ⟨cur :: X, y, by rw [h1]; rfl, by rw [h2]; rfl⟩
    · exact spAux_semi l _
theorem semi_snoc (X : List ByteArray) (y : ByteArray) : semi (X ++ [y]) = X ++ [y ++ ⟨#[59]⟩] := by
  unfold semi
  simp
theorem spL_semi (l : List UInt8) : spL (l ++ [59]) = semi (spL l) := by
  obtain ⟨X, y, h1, h2⟩ := spAux_semi l []
  unfold spL
  rw [h1, h2, List.map_append, List.map_append]
  simp only [List.map_cons, List.map_nil]
  rw [semi_snoc]
  congr 1
theorem join_cons2 (x y : List UInt8) (r : List (List UInt8)) (sep : List UInt8) : Lib.join (x :: y :: r) sep = x ++ sep ++ Lib.join (y :: r) sep := by
  rw [Lib.join_cons, Lib.join_cons]
  simp [Lib.joinTail]
theorem join_sp : ∀ (l cur : List UInt8), Lib.join (spAux 32 cur l) [32] = cur ++ l
  | [], cur => by rw [spAux, Lib.join_one]; simp
  | b :: l, cur => by
    rw [spAux]
    by_cases hb : b = 32
    · rw [if_pos hb]
      have h1 := join_sp l []
      cases e : spAux 32 [] l with
      | nil => have := sp_some 32 l []; rw [e] at this; simp at this
      | cons x r =>
        rw [e] at h1
        rw [join_cons2, h1, hb]
        simp
    · rw [if_neg hb, join_sp l (cur ++ [b])]
      simp
/-- The pieces joined again. -/
theorem join_spL (l : List UInt8) : joinB (spL l) spB = bytesOf l := by
  unfold joinB spL
  have e : bl ((spAux 32 [] l).map bytesOf) = spAux 32 [] l := by
    unfold bl
    rw [List.map_map]
    conv => rhs; rw [← List.map_id (spAux 32 [] l)]
    rfl
  rw [e]
  show (⟨(Lib.join (spAux 32 [] l) [32]).toArray⟩ : ByteArray) = _
  rw [join_sp]
  rfl
open Classical in
/-- The call that the reference tries for a text. -/
noncomputable def rawS (s : ByteArray) : CallT :=
  let p := splitS 32 s
  let m := p.headD noB
  let last := p.getLastD noB
  let n := (parseNum last).getD 0
  if m = mGet then ⟨m, last, 0, noB⟩
  else if m = mPut then ⟨m, joinB ((p.drop 1).dropLast) spB, n, noB⟩
  else if m = mHear then ⟨m, noB, n, noB⟩
  else if m = mLoad then ⟨m, noB, 0, joinB (p.drop 1) spB⟩
  else ⟨m, noB, 0, noB⟩
open Classical in
noncomputable def callS (s : ByteArray) : Option CallT := if callT (rawS s) = s ∧ s.size ≠ 0 then some (rawS s) else none
theorem callS_is {s : ByteArray} {x : CallT} (h : callS s = some x) : callT x = s ∧ CallOk x := by
  unfold callS at h
  split at h
  · rename_i k
    cases h
    refine ⟨k.1, ?_⟩
    by_cases hok : CallOk (rawS s)
    · exact hok
    · rw [callT_no hok] at k
      rw [← k.1] at k
      exact absurd rfl k.2
  · cases h
theorem callT_pos {x : CallT} (h : CallOk x) : (callT x).size ≠ 0 := by
  have := callT_parts h
  have hl := (callOk_parts h).2.2.2.2.2
  unfold callW at this
  have hm : x.method.size ≠ 0 := by
    intro e
    rw [← size_list] at e
    exact hl.2.2 (List.eq_nil_of_length_eq_zero e)
  omega
theorem rawS_callT {x : CallT} (h : CallOk x) : rawS (callT x) = x := by
  obtain ⟨p1, p2, p3, p4, p5, pm⟩ := callOk_parts h
  by_cases hg : x.method = mGet
  · have hl : x.method ≠ mLoad := by rw [hg]; decide
    obtain ⟨hk, hv⟩ := p2 hg
    have e : splitS 32 (callT x) = [mGet, x.key] := by
      rw [splitS_spL, callT_get h hg]
      simp only [app_list]
      have : (⟨#[71, 101, 116, 32]⟩ : ByteArray).data.toList ++ x.key.data.toList = mGet.data.toList ++ 32 :: x.key.data.toList := by simp [mGet]
      rw [this, spL_app, spL_one (by decide), spL_one (Pl.nm hk).2.1]
      rfl
    unfold rawS
    rw [e]
    dsimp only
    rw [show ([mGet, x.key] : List ByteArray).headD noB = mGet from rfl, show ([mGet, x.key] : List ByteArray).getLastD noB = x.key from rfl, if_pos rfl]
    exact call_ext hg.symm rfl hv.symm (p1 hl).symm
  · by_cases hp : x.method = mPut
    · have hl : x.method ≠ mLoad := by rw [hp]; decide
      obtain ⟨hk, hv⟩ := p3 hp
      have e : splitS 32 (callT x) = [mPut, x.key, numT x.value] := by
        rw [splitS_spL, callT_put h hp]
        simp only [app_list]
        have : (⟨#[80, 117, 116, 32]⟩ : ByteArray).data.toList ++ x.key.data.toList ++ (⟨#[32]⟩ : ByteArray).data.toList ++ (numT x.value).data.toList = mPut.data.toList ++ 32 :: (x.key.data.toList ++ 32 :: (numT x.value).data.toList) := by simp [mPut]
        rw [this, spL_app, spL_app, spL_one (by decide), spL_one (Pl.nm hk).2.1, spL_one (Pl.num hv.1 hv.2).2]
        rfl
      unfold rawS
      rw [e]
      dsimp only
      rw [show ([mPut, x.key, numT x.value] : List ByteArray).headD noB = mPut from rfl, show ([mPut, x.key, numT x.value] : List ByteArray).getLastD noB = numT x.value from rfl, show (([mPut, x.key, numT x.value] : List ByteArray).drop 1).dropLast = [x.key] from rfl, if_neg (by decide), if_pos rfl, joinB_one, parseNum_numT hv]
      exact call_ext hp.symm rfl rfl (p1 hl).symm
    · by_cases hh : x.method = mHear
      · have hl : x.method ≠ mLoad := by rw [hh]; decide
        obtain ⟨hk, hv⟩ := p4 hh
        have e : splitS 32 (callT x) = [mHear, numT x.value] := by
          rw [splitS_spL, callT_hear h hh]
          simp only [app_list]
          have : (⟨#[72, 101, 97, 114, 32]⟩ : ByteArray).data.toList ++ (numT x.value).data.toList = mHear.data.toList ++ 32 :: (numT x.value).data.toList := by simp [mHear]
          rw [this, spL_app, spL_one (by decide), spL_one (Pl.num hv.1 hv.2).2]
          rfl
        unfold rawS
        rw [e]
        dsimp only
        rw [show ([mHear, numT x.value] : List ByteArray).headD noB = mHear from rfl, show ([mHear, numT x.value] : List ByteArray).getLastD noB = numT x.value from rfl, if_neg (by decide), if_neg (by decide), if_pos rfl, parseNum_numT hv]
        exact call_ext hh.symm hk.symm rfl (p1 hl).symm
      · obtain ⟨hk, hv⟩ := p5 hg hp hh
        by_cases hl : x.method = mLoad
        · have e : splitS 32 (callT x) = mLoad :: spL x.text.data.toList := by
            rw [splitS_spL, callT_load h hl]
            simp only [app_list]
            have : (⟨#[76, 111, 97, 100, 32]⟩ : ByteArray).data.toList ++ x.text.data.toList = mLoad.data.toList ++ 32 :: x.text.data.toList := by simp [mLoad]
            rw [this, spL_app, spL_one (by decide)]
            rfl
          unfold rawS
          rw [e]
          dsimp only
          rw [show (mLoad :: spL x.text.data.toList).headD noB = mLoad from rfl, show (mLoad :: spL x.text.data.toList).drop 1 = spL x.text.data.toList from rfl, if_neg (by decide), if_neg (by decide), if_neg (by decide), if_pos rfl, join_spL, bytesOf_of]
          exact call_ext hl.symm hk.symm hv.symm rfl
        · have e : splitS 32 (callT x) = [x.method] := by
            rw [splitS_spL, callT_other h ⟨hg, hp, hh, hl⟩, spL_one pm.2.1, bytesOf_of]
          unfold rawS
          rw [e]
          dsimp only
          rw [show ([x.method] : List ByteArray).headD noB = x.method from rfl, if_neg hg, if_neg hp, if_neg hh, if_neg hl]
          exact call_ext rfl hk.symm hv.symm (p1 hl).symm
theorem callS_callT {x : CallT} (h : CallOk x) : callS (callT x) = some x := by
  unfold callS
  rw [rawS_callT h, if_pos ⟨rfl, callT_pos h⟩]

def wEnd : ByteArray := ⟨#[125]⟩
def wEndS : ByteArray := ⟨#[125, 59]⟩
/-- A word without a semicolon at its end, and whether it had one. -/
def bareS (s : ByteArray) : ByteArray × Bool := if s.data.toList.getLast? = some 59 then (bytesOf s.data.toList.dropLast, true) else (s, false)
def isEnd (x : ByteArray) : Prop := x = wEnd ∨ x = wEndS
open Classical in
/-- The words of a simple action, and what stands behind them. -/
noncomputable def wordsS : List ByteArray → List ByteArray × List ByteArray
  | [] => ([], [])
  | x :: ws => if isEnd x then ([], x :: ws) else if (bareS x).2 then ([(bareS x).1], ws) else ((bareS x).1 :: (wordsS ws).1, (wordsS ws).2)
open Classical in
/-- The action of some words. -/
noncomputable def simpleS (w : List ByteArray) : ActionT :=
  if w.length < 2 then mkA 0 0 0 noB zeroC 0 else
  let n := (parseNum (w.getD 1 noB)).getD 0
  let rest := joinB (w.drop 2) spB
  let x := w.getD 0 noB
  if x = wordT 1 then mkA 1 n 0 rest zeroC 0
  else if x = wordT 2 then mkA 2 n 0 rest zeroC 0
  else if x = wordT 3 then mkA 3 n 0 noB zeroC 0
  else if x = wordT 5 then mkA 5 n 0 noB zeroC 0
  else if x = wordT 4 then mkA 4 n ((parseNum (w.getLastD noB)).getD 0) noB zeroC 0
  else if x = wordT 6 then mkA 6 n 0 noB zeroC ((faceOf rest).getD 0)
  else if x = wordT 7 then mkA 7 n 0 noB ((callS rest).getD zeroC) 0
  else mkA 0 n 0 noB zeroC 0
/-- The words of an action. -/
noncomputable def wA (a : ActionT) : List ByteArray := spL a.txt.data.toList
theorem wA_tail {a : ActionT} {t : List UInt8} (h : tailT a t) (hs : IsNum a.slot) : wA a = bytesOf (wl a.op.toNat) :: numT a.slot :: spL t := by
  have hk : a.op.toNat < 11 := by rcases h with h | h | h | h | h <;> omega
  unfold wA
  rw [txt_tail h, spL_app, spL_app, spL_one (wl_sp _ hk).1, spL_one (Pl.num hs.1 hs.2).2, bytesOf_of]
  rfl
theorem wA_two {a : ActionT} (h : a.op = 3 ∨ a.op = 5) (hs : IsNum a.slot) : wA a = [bytesOf (wl a.op.toNat), numT a.slot] := by
  unfold wA
  rw [txt_two h, spL_app, spL_one (wl_sp _ (by omega)).1, spL_one (Pl.num hs.1 hs.2).2, bytesOf_of]
  rfl
theorem w_ne {i j : Int} (h : (wordT i).data.toList ≠ (wordT j).data.toList) : ¬ wordT i = wordT j := fun e => h (by rw [e])
theorem simpleS_unf {x y : ByteArray} {ws : List ByteArray} : simpleS (x :: y :: ws) =
    if x = wordT 1 then mkA 1 ((parseNum y).getD 0) 0 (joinB ws spB) zeroC 0
    else if x = wordT 2 then mkA 2 ((parseNum y).getD 0) 0 (joinB ws spB) zeroC 0
    else if x = wordT 3 then mkA 3 ((parseNum y).getD 0) 0 noB zeroC 0
    else if x = wordT 5 then mkA 5 ((parseNum y).getD 0) 0 noB zeroC 0
    else if x = wordT 4 then mkA 4 ((parseNum y).getD 0) ((parseNum ((x :: y :: ws).getLastD noB)).getD 0) noB zeroC 0
    else if x = wordT 6 then mkA 6 ((parseNum y).getD 0) 0 noB zeroC ((faceOf (joinB ws spB)).getD 0)
    else if x = wordT 7 then mkA 7 ((parseNum y).getD 0) 0 noB ((callS (joinB ws spB)).getD zeroC) 0
    else mkA 0 ((parseNum y).getD 0) 0 noB zeroC 0 := by
  unfold simpleS
  rw [if_neg (by simp)]
  rfl
theorem simpleS_short {w : List ByteArray} (h : w.length < 2) : simpleS w = mkA 0 0 0 noB zeroC 0 := by
  unfold simpleS
  rw [if_pos h]
theorem simpleS_1 {y : ByteArray} {ws : List ByteArray} : simpleS (wordT 1 :: y :: ws) = mkA 1 ((parseNum y).getD 0) 0 (joinB ws spB) zeroC 0 := by rw [simpleS_unf, if_pos rfl]
theorem simpleS_2 {y : ByteArray} {ws : List ByteArray} : simpleS (wordT 2 :: y :: ws) = mkA 2 ((parseNum y).getD 0) 0 (joinB ws spB) zeroC 0 := by rw [simpleS_unf, if_neg (w_ne (by decide)), if_pos rfl]
theorem simpleS_3 {y : ByteArray} {ws : List ByteArray} : simpleS (wordT 3 :: y :: ws) = mkA 3 ((parseNum y).getD 0) 0 noB zeroC 0 := by rw [simpleS_unf, if_neg (w_ne (by decide)), if_neg (w_ne (by decide)), if_pos rfl]
theorem simpleS_5 {y : ByteArray} {ws : List ByteArray} : simpleS (wordT 5 :: y :: ws) = mkA 5 ((parseNum y).getD 0) 0 noB zeroC 0 := by rw [simpleS_unf, if_neg (w_ne (by decide)), if_neg (w_ne (by decide)), if_neg (w_ne (by decide)), if_pos rfl]
theorem simpleS_4 {y : ByteArray} {ws : List ByteArray} : simpleS (wordT 4 :: y :: ws) = mkA 4 ((parseNum y).getD 0) ((parseNum ((wordT 4 :: y :: ws).getLastD noB)).getD 0) noB zeroC 0 := by rw [simpleS_unf, if_neg (w_ne (by decide)), if_neg (w_ne (by decide)), if_neg (w_ne (by decide)), if_neg (w_ne (by decide)), if_pos rfl]
theorem simpleS_6 {y : ByteArray} {ws : List ByteArray} : simpleS (wordT 6 :: y :: ws) = mkA 6 ((parseNum y).getD 0) 0 noB zeroC ((faceOf (joinB ws spB)).getD 0) := by rw [simpleS_unf, if_neg (w_ne (by decide)), if_neg (w_ne (by decide)), if_neg (w_ne (by decide)), if_neg (w_ne (by decide)), if_neg (w_ne (by decide)), if_pos rfl]
theorem simpleS_7 {y : ByteArray} {ws : List ByteArray} : simpleS (wordT 7 :: y :: ws) = mkA 7 ((parseNum y).getD 0) 0 noB ((callS (joinB ws spB)).getD zeroC) 0 := by rw [simpleS_unf, if_neg (w_ne (by decide)), if_neg (w_ne (by decide)), if_neg (w_ne (by decide)), if_neg (w_ne (by decide)), if_neg (w_ne (by decide)), if_neg (w_ne (by decide)), if_pos rfl]
theorem simpleS_0 {x y : ByteArray} {ws : List ByteArray} (h1 : x ≠ wordT 1) (h2 : x ≠ wordT 2) (h3 : x ≠ wordT 3) (h4 : x ≠ wordT 4) (h5 : x ≠ wordT 5) (h6 : x ≠ wordT 6) (h7 : x ≠ wordT 7) : simpleS (x :: y :: ws) = mkA 0 ((parseNum y).getD 0) 0 noB zeroC 0 := by
  rw [simpleS_unf, if_neg h1, if_neg h2, if_neg h3, if_neg h5, if_neg h4, if_neg h6, if_neg h7]
/-- The words of a simple action give it again. -/
theorem simpleS_wA {a : ActionT} (hok : a.ok) (h7 : a.op ≤ 7) : simpleS (wA a) = a := by
  have hs := slot_num (ok_slot hok)
  rcases simple_cases hok h7 with h | h | h | h | h | h | h
  · obtain ⟨_, _, hf⟩ := (okS_1 h).1 hok
    rw [wA_tail (t := a.word.data.toList) (.inl ⟨h, rfl⟩) hs, wl_op (k := 1) h, show bytesOf (wl 1) = wordT 1 from list_inj rfl, simpleS_1, join_spL, bytesOf_of, parseNum_numT hs]
    exact act_ext h.symm rfl (fields_other hf).symm rfl (fields_call hf).symm (fields_face hf).symm hf.A hf.B
  · obtain ⟨_, _, hf⟩ := (okS_2 h).1 hok
    rw [wA_tail (t := a.word.data.toList) (.inr (.inl ⟨h, rfl⟩)) hs, wl_op (k := 2) h, show bytesOf (wl 2) = wordT 2 from list_inj rfl, simpleS_2, join_spL, bytesOf_of, parseNum_numT hs]
    exact act_ext h.symm rfl (fields_other hf).symm rfl (fields_call hf).symm (fields_face hf).symm hf.A hf.B
  · obtain ⟨_, hf⟩ := (okS_3 (.inl h)).1 hok
    rw [wA_two (.inl h) hs, wl_op (k := 3) h, show bytesOf (wl 3) = wordT 3 from list_inj rfl, simpleS_3, parseNum_numT hs]
    exact act_ext h.symm rfl (fields_other hf).symm (fields_word hf).symm (fields_call hf).symm (fields_face hf).symm hf.A hf.B
  · obtain ⟨_, ho, _, hf⟩ := (okS_4 h).1 hok
    have ho := slot_num ho
    have e := wA_tail (t := [102, 114, 111, 109, 32] ++ (numT a.other).data.toList) (.inr (.inr (.inl ⟨h, rfl⟩))) hs
    have e2 : spL ([102, 114, 111, 109, 32] ++ (numT a.other).data.toList) = [bytesOf [102, 114, 111, 109], numT a.other] := by
      have : ([102, 114, 111, 109, 32] ++ (numT a.other).data.toList : List UInt8) = [102, 114, 111, 109] ++ 32 :: (numT a.other).data.toList := rfl
      rw [this, spL_app, spL_one (by decide), spL_one (Pl.num ho.1 ho.2).2, bytesOf_of]
      rfl
    rw [e2, wl_op (k := 4) h, show bytesOf (wl 4) = wordT 4 from list_inj rfl] at e
    rw [e, simpleS_4, parseNum_numT hs]
    rw [show ([wordT 4, numT a.slot, bytesOf [102, 114, 111, 109], numT a.other] : List ByteArray).getLastD noB = numT a.other from rfl, parseNum_numT ho]
    exact act_ext h.symm rfl rfl (fields_word hf).symm (fields_call hf).symm (fields_face hf).symm hf.A hf.B
  · obtain ⟨_, hf⟩ := (okS_3 (.inr h)).1 hok
    rw [wA_two (.inr h) hs, wl_op (k := 5) h, show bytesOf (wl 5) = wordT 5 from list_inj rfl, simpleS_5, parseNum_numT hs]
    exact act_ext h.symm rfl (fields_other hf).symm (fields_word hf).symm (fields_call hf).symm (fields_face hf).symm hf.A hf.B
  · obtain ⟨_, hi, hf⟩ := (okS_6 h).1 hok
    rw [wA_tail (t := (faceT a.face).data.toList) (.inr (.inr (.inr (.inl ⟨h, rfl⟩)))) hs, wl_op (k := 6) h, show bytesOf (wl 6) = wordT 6 from list_inj rfl, simpleS_6, join_spL, bytesOf_of, parseNum_numT hs, faceOf_face hi]
    exact act_ext h.symm rfl (fields_other hf).symm (fields_word hf).symm (fields_call hf).symm rfl hf.A hf.B
  · obtain ⟨_, hc, hf⟩ := (okS_7 h).1 hok
    rw [wA_tail (t := (callT a.call).data.toList) (.inr (.inr (.inr (.inr ⟨h, rfl⟩)))) hs, wl_op (k := 7) h, show bytesOf (wl 7) = wordT 7 from list_inj rfl, simpleS_7, join_spL, bytesOf_of, parseNum_numT hs, callS_callT hc.1]
    exact act_ext h.symm rfl (fields_other hf).symm (fields_word hf).symm rfl (fields_face hf).symm hf.A hf.B
end Go.Proofs.YtldpibnfhomfgaaGreatDoor
namespace Go.Proofs.YtldpibnfhomfgaaGreatDoor
open Go.RowKit

open Classical in
/-- Actions one behind the other; sub: what reads a block. -/
noncomputable def rdL (sub : Option (List ByteArray → List ActionT × List ByteArray)) : Nat → List ActionT → List ByteArray → List ActionT × List ByteArray
  | 0, acc, ws => (acc, ws)
  | _ + 1, acc, [] => (acc, [])
  | f + 1, acc, x :: ws =>
    if isEnd x then (acc, x :: ws)
    else match (if x = wordT 8 ∨ x = wordT 9 ∨ x = wordT 10 then sub else none) with
      | none => rdL sub f (acc ++ [simpleS (wordsS (x :: ws)).1]) (wordsS (x :: ws)).2
      | some g =>
        let A := g (ws.drop 1)
        let B := if x = wordT 9 then ([], A.2) else g (A.2.drop 3)
        let a := blkA (if x = wordT 8 then 8 else if x = wordT 10 then 10 else 9) A.1 B.1
        if B.2 = [] ∨ B.2.head? = some wEnd then (acc ++ [a], B.2.drop 1) else rdL sub f (acc ++ [a]) (B.2.drop 1)
noncomputable def rdS : Nat → List ByteArray → List ActionT × List ByteArray
  | 0 => rdL none 15 []
  | d + 1 => rdL (some (rdS d)) 15 []
noncomputable def subS : Nat → Option (List ByteArray → List ActionT × List ByteArray)
  | 0 => none
  | d + 1 => some (rdS d)
theorem rdS_eq (d : Nat) (ws : List ByteArray) : rdS d ws = rdL (subS d) 15 [] ws := by cases d <;> rfl
theorem rdL_end {sub : Option (List ByteArray → List ActionT × List ByteArray)} {f : Nat} {acc : List ActionT} {x : ByteArray} {ws : List ByteArray} (h : isEnd x) : rdL sub (f + 1) acc (x :: ws) = (acc, x :: ws) := by rw [rdL, if_pos h]
theorem rdL_simple {sub : Option (List ByteArray → List ActionT × List ByteArray)} {f : Nat} {acc : List ActionT} {x : ByteArray} {ws : List ByteArray} (h : ¬ isEnd x) (h2 : ¬ (x = wordT 8 ∨ x = wordT 9 ∨ x = wordT 10) ∨ sub = none) :
    rdL sub (f + 1) acc (x :: ws) = rdL sub f (acc ++ [simpleS (wordsS (x :: ws)).1]) (wordsS (x :: ws)).2 := by
  rw [rdL, if_neg h]
  have e : (if x = wordT 8 ∨ x = wordT 9 ∨ x = wordT 10 then sub else none) = none := by
    rcases h2 with h2 | h2
    · rw [if_neg h2]
    · rw [h2]; split <;> rfl
  rw [e]
theorem rdL_blk {g : List ByteArray → List ActionT × List ByteArray} {f : Nat} {acc : List ActionT} {x : ByteArray} {ws : List ByteArray} (h : ¬ isEnd x) (h2 : x = wordT 8 ∨ x = wordT 9 ∨ x = wordT 10) {A B : List ActionT × List ByteArray} (hA : g (ws.drop 1) = A) (hB : (if x = wordT 9 then ([], A.2) else g (A.2.drop 3)) = B) :
    rdL (some g) (f + 1) acc (x :: ws) = if B.2 = [] ∨ B.2.head? = some wEnd then (acc ++ [blkA (if x = wordT 8 then 8 else if x = wordT 10 then 10 else 9) A.1 B.1], B.2.drop 1) else rdL (some g) f (acc ++ [blkA (if x = wordT 8 then 8 else if x = wordT 10 then 10 else 9) A.1 B.1]) (B.2.drop 1) := by
  subst hA
  subst hB
  rw [rdL, if_neg h, if_pos h2]

/-- The words of actions. -/
noncomputable def wJ : List ActionT → List ByteArray
  | [] => []
  | [a] => wA a
  | a :: b :: l => semi (wA a) ++ wJ (b :: l)
theorem spL_jl : ∀ l : List ActionT, l ≠ [] → spL (jl l) = wJ l
  | [], h => absurd rfl h
  | [a], _ => rfl
  | a :: b :: l, _ => by
    have ih := spL_jl (b :: l) (by simp)
    rw [jl, wJ, ← ih]
    have : a.txt.data.toList ++ 59 :: 32 :: jl (b :: l) = (a.txt.data.toList ++ [59]) ++ 32 :: jl (b :: l) := by simp
    rw [this, spL_app, spL_semi]
    rfl
def wOpenB : ByteArray := ⟨#[123]⟩
def wElseB : ByteArray := ⟨#[101, 108, 115, 101]⟩
theorem spL_blk (l : List ActionT) : spL (blkT (txtL l)).data.toList = wOpenB :: (wJ l ++ [wEnd]) := by
  rw [blkT_list]
  by_cases h : l = []
  · rw [if_pos h, h]
    have : ([123, 32, 125] : List UInt8) = [123] ++ 32 :: [125] := rfl
    rw [this, spL_app, spL_one (by decide), spL_one (by decide)]
    rfl
  · rw [if_neg h]
    have : (123 :: 32 :: (jl l ++ [32, 125]) : List UInt8) = [123] ++ 32 :: (jl l ++ 32 :: [125]) := by simp
    rw [this, spL_app, spL_app, spL_jl l h, spL_one (l := [123]) (by decide), spL_one (l := [125]) (by decide)]
    rfl
theorem wA_9 {a : ActionT} (h : a.op = 9) : wA a = wordT 9 :: wOpenB :: (wJ a.A ++ [wEnd]) := by
  unfold wA
  rw [txt_9 h, h]
  simp only [app_list]
  have : (wordT 9).data.toList ++ (⟨#[32]⟩ : ByteArray).data.toList ++ (blkT (txtL a.A)).data.toList = (wordT 9).data.toList ++ 32 :: (blkT (txtL a.A)).data.toList := by simp
  rw [this, spL_app, spL_blk, spL_one (by decide), bytesOf_of]
  rfl
theorem wA_8 {a : ActionT} (h : a.op = 8 ∨ a.op = 10) : wA a = wordT a.op :: wOpenB :: (wJ a.A ++ wEnd :: wElseB :: wOpenB :: (wJ a.B ++ [wEnd])) := by
  unfold wA
  rw [txt_8 h]
  simp only [app_list]
  have : (wordT a.op).data.toList ++ (⟨#[32]⟩ : ByteArray).data.toList ++ (blkT (txtL a.A)).data.toList ++ (⟨#[32, 101, 108, 115, 101, 32]⟩ : ByteArray).data.toList ++ (blkT (txtL a.B)).data.toList = (wordT a.op).data.toList ++ 32 :: ((blkT (txtL a.A)).data.toList ++ 32 :: ([101, 108, 115, 101] ++ 32 :: (blkT (txtL a.B)).data.toList)) := by simp
  have hw : (32 : UInt8) ∉ (wordT a.op).data.toList := by rcases h with h | h <;> (rw [h]; decide)
  rw [this, spL_app, spL_app, spL_app, spL_blk, spL_blk, spL_one hw, spL_one (by decide), bytesOf_of]
  simp [wElseB, bytesOf]
/-- A word of a simple action. -/
def Clean (x : ByteArray) : Prop := 59 ∉ x.data.toList ∧ 125 ∉ x.data.toList
theorem sp_bytes {c : UInt8} : ∀ (l cur y : List UInt8), y ∈ spAux c cur l → ∀ b ∈ y, b ∈ cur ++ l
  | [], cur, y, h, b, hb => by rw [spAux, List.mem_singleton] at h; subst h; simpa using hb
  | a :: l, cur, y, h, b, hb => by
    rw [spAux] at h
    split at h
    · rcases List.mem_cons.1 h with rfl | h
      · simp [hb]
      · have := sp_bytes l [] y h b hb
        simp at this ⊢; exact .inr (.inr this)
    · have := sp_bytes l _ y h b hb
      simpa using this
theorem wA_clean {a : ActionT} (hok : a.ok) (h7 : a.op ≤ 7) : ∀ x ∈ wA a, Clean x := by
  intro x hx
  have hp := txt_plain hok h7
  unfold wA spL at hx
  obtain ⟨y, hy, rfl⟩ := List.mem_map.1 hx
  have hb := sp_bytes _ _ _ hy
  exact ⟨fun h => hp.1 (by simpa using hb _ h), fun h => hp.2 (by simpa using hb _ h)⟩
theorem Clean.noEnd {x : ByteArray} (h : Clean x) : ¬ isEnd x := by
  rintro (rfl | rfl)
  · exact h.2 (by decide)
  · exact h.2 (by decide)
theorem Clean.bare {x : ByteArray} (h : Clean x) : bareS x = (x, false) := by
  unfold bareS
  rw [if_neg (fun e => h.1 (List.mem_of_getLast? e))]
theorem bare_semi (y : ByteArray) : bareS (y ++ ⟨#[59]⟩) = (y, true) := by
  unfold bareS
  rw [app_list, show (⟨#[59]⟩ : ByteArray).data.toList = [59] from rfl, if_pos (by simp), List.dropLast_concat, bytesOf_of]
theorem semi_noEnd {y : ByteArray} (h : Clean y) : ¬ isEnd (y ++ ⟨#[59]⟩) := by
  rintro (e | e)
  · have := congrArg (fun z : ByteArray => z.data.toList) e
    simp only [app_list] at this
    have h3 : y.data.toList ++ [59] = [125] := this
    have h4 := congrArg List.getLast? h3
    rw [List.getLast?_concat] at h4
    simp at h4
  · have := congrArg (fun z : ByteArray => z.data.toList) e
    simp only [app_list] at this
    have h2 : y.data.toList = [125] := by
      have h3 : y.data.toList ++ [59] = [125] ++ [59] := this
      exact List.append_cancel_right h3
    exact h.2 (by rw [h2]; decide)
/-- What may stand behind actions. -/
def EndT (t : List ByteArray) : Prop := t = [] ∨ ∃ x r, t = x :: r ∧ isEnd x
theorem wordsS_end {t : List ByteArray} (h : EndT t) : wordsS t = ([], t) := by
  rcases h with rfl | ⟨x, r, rfl, hx⟩
  · rfl
  · rw [wordsS, if_pos hx]
theorem wordsS_clean : ∀ (X t : List ByteArray), (∀ x ∈ X, Clean x) → EndT t → wordsS (X ++ t) = (X, t)
  | [], t, _, h => wordsS_end h
  | x :: X, t, hX, h => by
    have hx := hX x (by simp)
    rw [List.cons_append, wordsS, if_neg hx.noEnd, hx.bare, if_neg (by simp), wordsS_clean X t (fun y hy => hX y (by simp [hy])) h]
theorem wordsS_snoc : ∀ (X : List ByteArray) (y : ByteArray) (t : List ByteArray), (∀ x ∈ X, Clean x) → Clean y → wordsS (X ++ [y ++ ⟨#[59]⟩] ++ t) = (X ++ [y], t)
  | [], y, t, _, hy => by
    rw [List.nil_append, List.singleton_append, wordsS, if_neg (semi_noEnd hy), bare_semi, if_pos rfl]
    rfl
  | x :: X, y, t, hX, hy => by
    have hx := hX x (by simp)
    rw [List.cons_append, List.cons_append, wordsS, if_neg hx.noEnd, hx.bare, if_neg (by simp), wordsS_snoc X y t (fun z hz => hX z (by simp [hz])) hy]
    rfl
theorem wordsS_semi {X : List ByteArray} (t : List ByteArray) (hne : X ≠ []) (hX : ∀ x ∈ X, Clean x) : wordsS (semi X ++ t) = (X, t) := by
  obtain ⟨Y, y, rfl⟩ : ∃ Y y, X = Y ++ [y] := ⟨X.dropLast, X.getLast hne, (List.dropLast_concat_getLast hne).symm⟩
  rw [semi_snoc]
  exact wordsS_snoc Y y t (fun x hx => hX x (by simp [hx])) (hX y (by simp))
theorem word_noEnd : ∀ k : Fin 11, ¬ ((wordT (k.1 : Nat)).data.toList = wEnd.data.toList ∨ (wordT (k.1 : Nat)).data.toList = wEndS.data.toList) := by decide
theorem op_noEnd {a : ActionT} (hok : a.ok) : ¬ isEnd (wordT a.op) := by
  have ho := ok_op hok
  have := word_noEnd ⟨a.op.toNat, by omega⟩
  rw [show (((⟨a.op.toNat, by omega⟩ : Fin 11).1 : Nat) : Int) = a.op by show ((a.op.toNat : Nat) : Int) = a.op; omega] at this
  rintro (h | h)
  · exact this (.inl (by rw [h]))
  · exact this (.inr (by rw [h]))
/-- The first two words of a simple action. -/
theorem wA_head {a : ActionT} (hok : a.ok) (h7 : a.op ≤ 7) : ∃ y r, wA a = wordT a.op :: y :: r := by
  have hs := slot_num (ok_slot hok)
  have hw : bytesOf (wl a.op.toNat) = wordT a.op := by
    have ho := ok_op hok
    apply list_inj
    show (wordT ((a.op.toNat : Nat) : Int)).data.toList = _
    rw [show ((a.op.toNat : Nat) : Int) = a.op by omega]
  rcases simple_cases hok h7 with h | h | h | h | h | h | h
  · exact ⟨_, _, by rw [wA_tail (t := a.word.data.toList) (.inl ⟨h, rfl⟩) hs, hw]⟩
  · exact ⟨_, _, by rw [wA_tail (t := a.word.data.toList) (.inr (.inl ⟨h, rfl⟩)) hs, hw]⟩
  · exact ⟨_, _, by rw [wA_two (.inl h) hs, hw]⟩
  · exact ⟨_, _, by rw [wA_tail (t := [102, 114, 111, 109, 32] ++ (numT a.other).data.toList) (.inr (.inr (.inl ⟨h, rfl⟩))) hs, hw]⟩
  · exact ⟨_, _, by rw [wA_two (.inr h) hs, hw]⟩
  · exact ⟨_, _, by rw [wA_tail (t := (faceT a.face).data.toList) (.inr (.inr (.inr (.inl ⟨h, rfl⟩)))) hs, hw]⟩
  · exact ⟨_, _, by rw [wA_tail (t := (callT a.call).data.toList) (.inr (.inr (.inr (.inr ⟨h, rfl⟩)))) hs, hw]⟩
theorem semi_cons (x y : ByteArray) (r : List ByteArray) : semi (x :: y :: r) = x :: semi (y :: r) := by
  unfold semi
  simp [List.getLastD]
theorem word_simple : ∀ k : Fin 8, ¬ ((wordT (k.1 : Nat)).data.toList = (wordT 8).data.toList ∨ (wordT (k.1 : Nat)).data.toList = (wordT 9).data.toList ∨ (wordT (k.1 : Nat)).data.toList = (wordT 10).data.toList) := by decide
theorem op_simple {a : ActionT} (hok : a.ok) (h7 : a.op ≤ 7) : ¬ (wordT a.op = wordT 8 ∨ wordT a.op = wordT 9 ∨ wordT a.op = wordT 10) := by
  have ho := ok_op hok
  have := word_simple ⟨a.op.toNat, by omega⟩
  rw [show (((⟨a.op.toNat, by omega⟩ : Fin 8).1 : Nat) : Int) = a.op by show ((a.op.toNat : Nat) : Int) = a.op; omega] at this
  rintro (h | h | h)
  · exact this (.inl (by rw [h]))
  · exact this (.inr (.inl (by rw [h])))
  · exact this (.inr (.inr (by rw [h])))
/-- A simple action, at the end or not. -/
theorem rdL_step {sub : Option (List ByteArray → List ActionT × List ByteArray)} {f : Nat} {acc : List ActionT} {a : ActionT} (hok : a.ok) (h7 : a.op ≤ 7) : (∀ t, EndT t → rdL sub (f + 1) acc (wA a ++ t) = rdL sub f (acc ++ [a]) t) ∧ ∀ t, rdL sub (f + 1) acc (semi (wA a) ++ t) = rdL sub f (acc ++ [a]) t := by
  obtain ⟨y, r, e⟩ := wA_head hok h7
  have hc := wA_clean hok h7
  have hs := simpleS_wA hok h7
  constructor
  · intro t ht
    have hw := wordsS_clean (wA a) t hc ht
    rw [e, List.cons_append, List.cons_append] at hw ⊢
    rw [rdL_simple (op_noEnd hok) (.inl (op_simple hok h7)), hw]
    rw [e] at hs
    dsimp only
    rw [hs]
  · intro t
    have hw := wordsS_semi (X := wA a) t (by rw [e]; simp) hc
    rw [e, semi_cons, List.cons_append] at hw ⊢
    rw [rdL_simple (op_noEnd hok) (.inl (op_simple hok h7)), hw]
    rw [e] at hs
    dsimp only
    rw [hs]
theorem endT_end (x : ByteArray) (h : isEnd x) (r : List ByteArray) : EndT (x :: r) := .inr ⟨x, r, rfl, h⟩
theorem isEnd_1 : isEnd wEnd := .inl rfl
theorem isEnd_2 : isEnd wEndS := .inr rfl
/-- An action with blocks: behind it its last word, with or without a semicolon. -/
theorem rdL_block {d : Nat} {f : Nat} {acc : List ActionT} {a : ActionT} (hok : a.ok) (h7 : ¬ a.op ≤ 7)
    (hg : ∀ l, (l = a.A ∨ l = a.B) → ∀ t, EndT t → rdS d (wJ l ++ t) = (l, t)) : (∀ t, rdL (some (rdS d)) (f + 1) acc (wA a ++ t) = (acc ++ [a], t)) ∧ ∀ t, rdL (some (rdS d)) (f + 1) acc (semi (wA a) ++ t) = rdL (some (rdS d)) f (acc ++ [a]) t := by
  have ho := ok_op hok
  have key : ∀ (z : ByteArray) (t : List ByteArray), isEnd z → ∀ ws, (ws = wA a ++ t ∧ z = wEnd ∨ ws = semi (wA a) ++ t ∧ z = wEndS) → rdL (some (rdS d)) (f + 1) acc ws = if z = wEnd then (acc ++ [a], t) else rdL (some (rdS d)) f (acc ++ [a]) t := by
    intro z t hz ws hws
    by_cases h9 : a.op = 9
    · have hf := ((okS_9 h9).1 hok).1
      have hB : a.B = [] := List.eq_nil_of_length_eq_zero hf.2.B
      have e : ws = wordT 9 :: wOpenB :: (wJ a.A ++ z :: t) := by
        rcases hws with ⟨rfl, rfl⟩ | ⟨rfl, rfl⟩
        · rw [wA_9 h9]; simp
        · rw [wA_9 h9, show wordT 9 :: wOpenB :: (wJ a.A ++ [wEnd]) = (wordT 9 :: wOpenB :: wJ a.A) ++ [wEnd] by simp, semi_snoc, show wEnd ++ (⟨#[59]⟩ : ByteArray) = wEndS from list_inj rfl]; simp
      rw [e, rdL_blk (A := (a.A, z :: t)) (B := ([], z :: t)) (by have := op_noEnd hok; rwa [h9] at this) (.inr (.inl rfl)) (by rw [List.drop_succ_cons, List.drop_zero, hg a.A (.inl rfl) _ (endT_end z hz t)]) (by rw [if_pos rfl])]
      rw [if_neg (w_ne (by decide)), if_neg (w_ne (by decide))]
      dsimp only
      rw [show blkA 9 a.A [] = a from blk_ext h9.symm hf.1 (fields_other hf.2) (fields_word hf.2) (fields_call hf.2) (fields_face hf.2) rfl hB.symm]
      by_cases hzz : z = wEnd
      · rw [if_pos hzz, if_pos (.inr (by rw [hzz]; rfl))]; rfl
      · rw [if_neg hzz, if_neg (fun h => h.elim (fun h => by cases h) (fun h => hzz (by simpa using h)))]; rfl
    · have h8 : a.op = 8 ∨ a.op = 10 := by omega
      have hf := ((okS_8 h8).1 hok).1
      have e : ws = wordT a.op :: wOpenB :: (wJ a.A ++ wEnd :: wElseB :: wOpenB :: (wJ a.B ++ z :: t)) := by
        rcases hws with ⟨rfl, rfl⟩ | ⟨rfl, rfl⟩
        · rw [wA_8 h8]; simp
        · rw [wA_8 h8, show wordT a.op :: wOpenB :: (wJ a.A ++ wEnd :: wElseB :: wOpenB :: (wJ a.B ++ [wEnd])) = (wordT a.op :: wOpenB :: (wJ a.A ++ wEnd :: wElseB :: wOpenB :: wJ a.B)) ++ [wEnd] by simp, semi_snoc, show wEnd ++ (⟨#[59]⟩ : ByteArray) = wEndS from list_inj rfl]; simp
      have n9 : ¬ wordT a.op = wordT 9 := by rcases h8 with h | h <;> (rw [h]; exact w_ne (by decide))
      have hop : (if wordT a.op = wordT 8 then (8 : Int) else if wordT a.op = wordT 10 then 10 else 9) = a.op := by
        rcases h8 with h | h
        · rw [h, if_pos rfl]
        · rw [h, if_neg (w_ne (by decide)), if_pos rfl]
      rw [e, rdL_blk (A := (a.A, wEnd :: wElseB :: wOpenB :: (wJ a.B ++ z :: t))) (B := (a.B, z :: t)) (op_noEnd hok) (by rcases h8 with h | h <;> (rw [h]; simp)) (by rw [List.drop_succ_cons, List.drop_zero, hg a.A (.inl rfl) _ (endT_end wEnd isEnd_1 _)]) (by rw [if_neg n9]; exact hg a.B (.inr rfl) _ (endT_end z hz t))]
      rw [hop]
      dsimp only
      rw [show blkA a.op a.A a.B = a from blk_ext rfl hf.1 (fields_other hf.2) (fields_word hf.2) (fields_call hf.2) (fields_face hf.2) rfl rfl]
      by_cases hzz : z = wEnd
      · rw [if_pos hzz, if_pos (.inr (by rw [hzz]; rfl))]; rfl
      · rw [if_neg hzz, if_neg (fun h => h.elim (fun h => by cases h) (fun h => hzz (by simpa using h)))]; rfl
  refine ⟨fun t => ?_, fun t => ?_⟩
  · rw [key wEnd t isEnd_1 _ (.inl ⟨rfl, rfl⟩), if_pos rfl]
  · rw [key wEndS t isEnd_2 _ (.inr ⟨rfl, rfl⟩), if_neg (fun e => by have := congrArg ByteArray.size e; revert this; decide)]
theorem rdL_nil {sub : Option (List ByteArray → List ActionT × List ByteArray)} {f : Nat} {acc : List ActionT} {t : List ByteArray} (h : EndT t) : rdL sub f acc t = (acc, t) := by
  cases f with
  | zero => rw [rdL]
  | succ f =>
    rcases h with rfl | ⟨x, r, rfl, hx⟩
    · rw [rdL]
    · exact rdL_end hx
theorem len_size : ∀ m : List ActionT, m.length ≤ sizeL m
  | [] => Nat.zero_le _
  | a :: m => by rw [sizeL]; have := a.size_eq; have := len_size m; simp; omega
/-- What is written of actions is read again. -/
theorem rdS_txt : ∀ (d : Nat) (l : List ActionT), okL l → depthL l ≤ d → sizeL l ≤ 14 → ∀ t, EndT t → rdS d (wJ l ++ t) = (l, t) := by
  intro d
  induction d with
  | zero =>
    intro l hok hd hs t ht
    have hl : l = [] := by
      cases l with
      | nil => rfl
      | cons a l => have := depthL_mem (l := a :: l) (a := a) (by simp); rw [a.depth_eq] at this; omega
    subst hl
    rw [rdS_eq]
    exact rdL_nil ht
  | succ d ih =>
    have main : ∀ (l : List ActionT) (f : Nat) (acc : List ActionT) (t : List ByteArray), okL l → depthL l ≤ d + 1 → sizeL l ≤ 14 → l.length ≤ f → EndT t → rdL (some (rdS d)) f acc (wJ l ++ t) = (acc ++ l, t) := by
      intro l
      induction l with
      | nil => intro f acc t _ _ _ _ ht; rw [wJ, List.nil_append, rdL_nil ht, List.append_nil]
      | cons a l ihl =>
        intro f acc t hok hd hs hf ht
        have ha := (okL_iff _).1 hok a (by simp)
        have hin := (a.ok_iff).1 ha
        have hda := depthL_mem (l := a :: l) (a := a) (by simp)
        rw [a.depth_eq] at hda
        rw [sizeL, a.size_eq] at hs
        have hdl : depthL l ≤ d + 1 := by
          have := depthL_append [a] l
          rw [List.singleton_append] at this
          omega
        obtain ⟨f, rfl⟩ : ∃ g, f = g + 1 := ⟨f - 1, by simp at hf; omega⟩
        have hg : ∀ m, (m = a.A ∨ m = a.B) → ∀ u, EndT u → rdS d (wJ m ++ u) = (m, u) := by
          rintro m (rfl | rfl) u hu
          · exact ih _ hin.2.1 (by omega) (by omega) u hu
          · exact ih _ hin.2.2 (by omega) (by omega) u hu
        cases l with
        | nil =>
          rw [wJ]
          by_cases h7 : a.op ≤ 7
          · rw [(rdL_step ha h7).1 t ht, rdL_nil ht]
          · rw [(rdL_block ha h7 hg).1 t]
        | cons b l =>
          have ihl2 := ihl f (acc ++ [a]) t (by rw [okL_iff] at hok ⊢; exact fun x hx => hok x (List.mem_cons_of_mem _ hx)) hdl (by omega) (by simpa using hf) ht
          rw [wJ, List.append_assoc]
          by_cases h7 : a.op ≤ 7
          · rw [(rdL_step ha h7).2 _, ihl2]; simp
          · rw [(rdL_block ha h7 hg).2 _, ihl2]; simp
    intro l hok hd hs t ht
    have := main l 15 [] t hok hd hs (by have := len_size l; omega) ht
    rw [rdS_eq]
    exact this
/-- The reference's answer, where it finds one. -/
theorem read_hit {s : ByteArray} (hn : s ≠ nothingT) {l : List ActionT} (h1 : PlanOk l) (h2 : planT l = s) : (rdS 3 (splitS 32 s)).1 = l := by
  have h0 : l.length ≠ 0 := fun e => hn (by rw [← h2, planT_nil h1 e]; rfl)
  have hne : l ≠ [] := by intro e; rw [e] at h0; exact h0 rfl
  rw [← h2, planT_pos h1 h0, splitS_spL, jl_join, spL_jl l hne]
  have := rdS_txt 3 l h1.2.2 h1.2.1 h1.1 [] (.inl rfl)
  rw [List.append_nil] at this
  rw [this]
end Go.Proofs.YtldpibnfhomfgaaGreatDoor
namespace Go.Proofs.YtldpibnfhomfgaaGreatDoor
open Go.RowKit

theorem bareS_nil {s : ByteArray} (h : s.size = 0) : bareS s = (s, false) := by
  unfold bareS
  rw [← size_list] at h
  rw [List.eq_nil_of_length_eq_zero h, if_neg (by simp)]
theorem last_byte {s : ByteArray} (h : 0 < s.size) : s.data.toList.getLast? = some (s[s.size - 1]'(by omega)) := by
  rw [List.getLast?_eq_getElem?, size_list, List.getElem?_eq_getElem (by rw [size_list]; omega), Array.getElem_toList]
  rfl
theorem bareS_yes {s : ByteArray} (h : 0 < s.size) (hb : s[s.size - 1]'(by omega) = 59) : bareS s = (bytesOf s.data.toList.dropLast, true) := by
  unfold bareS
  rw [last_byte h, hb, if_pos rfl]
theorem bareS_no {s : ByteArray} (h : 0 < s.size) (hb : s[s.size - 1]'(by omega) ≠ 59) : bareS s = (s, false) := by
  unfold bareS
  rw [last_byte h, if_neg (by simpa using hb)]
theorem drop_last (s : ByteArray) : s.extract 0 (s.size - 1) = bytesOf s.data.toList.dropLast := by
  apply list_inj
  rw [extract_list]
  unfold cut
  rw [List.drop_zero, List.dropLast_eq_take, size_list]
  rfl
set_option maxRecDepth 100000 in
set_option maxHeartbeats 4000000 in
theorem l8Bare_any (s : ByteArray) (w : World) (hs : s.size ≤ 1048576) :
    Calls Tryz.prog 29 #[.string s] w fun e w' => e = .returned (.tuple #[.string (bareS s).1, .bool (bareS s).2]) ∧ w' = w := by
  by_cases h0 : 0 < s.size
  · by_cases hb : s[s.size - 1]'(by omega) = 59
    · have HB := Lib.hid (bareS_yes h0 hb)
      have hd := drop_last s
      have hbn : ((s[s.size - 1]'(by omega)).toNat : Int) = 59 := by rw [hb]; rfl
      have SL1 : ∀ W, (Instr.slice 9 (.string s) none (some (.int .i64 ((s.size : Int) - 1))) none).run Tryz.prog W = .ok (.string (bytesOf s.data.toList.dropLast)) W := fun W => by
        rw [run_slice_string_h W _ s Tryz.underlying9 .i64 _ (by omega) (by omega), ← hd, show ((s.size : Int) - 1).toNat = s.size - 1 by omega]
      obtain ⟨t, ht⟩ : ∃ t, t = bytesOf s.data.toList.dropLast := ⟨_, rfl⟩
      rw [← ht] at HB SL1
      clear hd ht hb
      go_enter Tryz.func29, Tryz.ntmps29
      go_wp2_with fail
      go_ret2
      rw [HB.out]
      exact ⟨rfl, rfl⟩
    · have HB := Lib.hid (bareS_no h0 hb)
      have hbn : (((s[s.size - 1]'(by omega)).toNat : Int) == 59) = false := by
        rw [beq_eq_false_iff_ne]
        intro e
        apply hb
        apply UInt8.toNat_inj.1
        have : (59 : UInt8).toNat = 59 := rfl
        omega
      obtain ⟨b, hbb⟩ : ∃ b, b = s[s.size - 1]'(by omega) := ⟨_, rfl⟩
      clear hb
      go_enter Tryz.func29, Tryz.ntmps29
      go_wp2_with fail
      go_ret2
      rw [HB.out]
      exact ⟨rfl, rfl⟩
  · have HB := Lib.hid (bareS_nil (s := s) (by omega))
    go_enter Tryz.func29, Tryz.ntmps29
    go_wp2_with fail
    go_ret2
    rw [HB.out]
    exact ⟨rfl, rfl⟩
end Go.Proofs.YtldpibnfhomfgaaGreatDoor
namespace Go.Proofs.YtldpibnfhomfgaaGreatDoor
open Go.RowKit

theorem wordsS_at {W : List ByteArray} {k : Nat} (hk : k < W.length) (h : isEnd W[k]) : wordsS (W.drop k) = ([], W.drop k) := by
  rw [List.drop_eq_getElem_cons hk, wordsS, if_pos h]
theorem wordsS_last {W : List ByteArray} {k : Nat} (hk : k < W.length) (h : ¬ isEnd W[k]) (hb : (bareS W[k]).2 = true) : wordsS (W.drop k) = ([(bareS W[k]).1], W.drop (k + 1)) := by
  rw [List.drop_eq_getElem_cons hk, wordsS, if_neg h, if_pos hb]
theorem wordsS_more {W : List ByteArray} {k : Nat} (hk : k < W.length) (h : ¬ isEnd W[k]) (hb : (bareS W[k]).2 = false) : wordsS (W.drop k) = ((bareS W[k]).1 :: (wordsS (W.drop (k + 1))).1, (wordsS (W.drop (k + 1))).2) := by
  rw [List.drop_eq_getElem_cons hk, wordsS, if_neg h, if_neg (by simp [hb])]
theorem wordsS_none {W : List ByteArray} {k : Nat} (hk : W.length ≤ k) : wordsS (W.drop k) = ([], W.drop k) := by
  rw [List.drop_eq_nil_of_le hk]; rfl
/-- Which word it is. -/
theorem endCases (x : ByteArray) : (isEnd x ∧ (x.toList == [125]) = true) ∨ (isEnd x ∧ (x.toList == [125]) = false ∧ (x.toList == [125, 59]) = true) ∨ (¬ isEnd x ∧ (x.toList == [125]) = false ∧ (x.toList == [125, 59]) = false) := by
  have e1 : wEnd.toList = [125] := by rw [ByteArray.toList_eq]; rfl
  have e2 : wEndS.toList = [125, 59] := by rw [ByteArray.toList_eq]; rfl
  by_cases h1 : x = wEnd
  · exact .inl ⟨.inl h1, by rw [h1, e1]; rfl⟩
  · have f1 := str_ne h1
    rw [e1] at f1
    by_cases h2 : x = wEndS
    · exact .inr (.inl ⟨.inr h2, f1, by rw [h2, e2]; rfl⟩)
    · have f2 := str_ne h2
      rw [e2] at f2
      exact .inr (.inr ⟨fun h => h.elim h1 h2, f1, f2⟩)
/-- The words, and the place behind them. -/
def WordsIs (W : List ByteArray) (i : Nat) (w : World) (e : Ending) (w' : World) : Prop :=
  ∃ (l : List ByteArray) (A : Option Addr) (c j : Nat), e = .returned (.tuple #[.slice A l.length c, .int .i64 (j : Int)]) ∧ New w w' (strs l) (.slice A l.length c) ∧ wordsS (W.drop i) = (l, W.drop j) ∧ i ≤ j ∧ j ≤ i + W.length ∧ (j = i ∨ j ≤ W.length)
theorem bareS_size (s : ByteArray) : (bareS s).1.size ≤ s.size := by
  unfold bareS
  split
  · rw [bytesOf_size, List.length_dropLast, size_list]; omega
  · exact Nat.le_refl _
set_option maxRecDepth 100000 in
set_option maxHeartbeats 8000000 in
theorem l8Words_any (W : List ByteArray) (i : Nat) (u : Value) (B : Nat) (w : World) (hr : Rd w B (strs W) u) (hB : B ≤ w.heap.size) (hW : W.length ≤ 100000) (hi : i ≤ 100000) (hs : ∀ x ∈ W, x.size ≤ 1048576) :
    Calls Tryz.prog 17 #[u, .int .i64 (i : Int)] w (WordsIs W i w) := by
  obtain ⟨A, cap, rfl, h0, h1, hrow⟩ := strs_row hr
  unfold maxLen at h1
  have HS := Lib.hid hs
  obtain ⟨P, hP⟩ : ∃ P, P = wordsS (W.drop i) := ⟨_, rfl⟩
  unfold WordsIs
  rw [← hP]
  have HP := Lib.hid hP
  clear hs hr hP
  go_enter Tryz.func17, Tryz.ntmps17
  go_wp2_with fail
  go_loopw [1, 6] (fun iv v wr => ∃ (k : Nat) (A' : Option Addr) (cap' : Nat) (out : List ByteArray), i ≤ k ∧ (k ≤ i + W.length) ∧ iv = .int .i64 (k : Int) ∧ v = .slice A' out.length cap' ∧ App w wr 9 1 (.slice A' out.length cap') out.length (out.flatMap strC) ∧ Hid (out.length = k - i) ∧ out.length ≤ W.length ∧ (k = i ∨ k ≤ W.length) ∧ Hid (P = (out ++ (wordsS (W.drop k)).1, (wordsS (W.drop k)).2))) (fun iv _ _ => W.length - (intOf iv).toNat)
  case atStart => exact ⟨i, _, 0, [], Nat.le_refl _, by omega, rfl, rfl, App.empty w 9 1 (Chg.refl _ _), by simp [Hid], by simp, .inl rfl, HP⟩
  case round =>
    obtain ⟨k, A', cap', out, hik, hkW, rfl, rfl, hh, hol, hob, hkk, HX⟩ := hrel
    by_cases hlt : k < W.length
    · obtain ⟨b, off, rfl, hb, q0⟩ := strs_cells (hrow.chg0 hh.chg hB) k hlt
      have hx := HS.out _ (List.getElem_mem hlt)
      have WE := Lib.hid (wordsS_at hlt)
      have WL := Lib.hid (wordsS_last hlt)
      have WM := Lib.hid (wordsS_more hlt)
      have hbz := bareS_size W[k]
      obtain ⟨x, hxx⟩ : ∃ x, x = W[k] := ⟨_, rfl⟩
      rw [← hxx] at q0 hx WE WL WM hbz
      clear hxx
      have BA := Lib.hid (fun Wd => l8Bare_any x Wd hx)
      have HA := Lib.hid hh
      clear hh
      rcases endCases x with ⟨he, f1⟩ | ⟨he, f1, f2⟩ | ⟨he, f1, f2⟩
      · have HY := Lib.hid (HX.out.trans (by rw [WE.out he]))
        clear he
        go_wp2_with fail
        go_ret2
        exact ⟨out, A', cap', k, rfl, by have := HA.out.new; unfold strs; exact this, by simpa using HY.out, hik, hkW, hkk⟩
      · have HY := Lib.hid (HX.out.trans (by rw [WE.out he]))
        clear he
        go_wp2_with fail
        go_ret2
        exact ⟨out, A', cap', k, rfl, by have := HA.out.new; unfold strs; exact this, by simpa using HY.out, hik, hkW, hkk⟩
      · have WL2 := Lib.hid (WL.out he)
        have WM2 := Lib.hid (WM.out he)
        obtain ⟨y, hy⟩ : ∃ y, y = (bareS x).1 := ⟨_, rfl⟩
        obtain ⟨t, ht⟩ : ∃ t, t = (bareS x).2 := ⟨_, rfl⟩
        rw [← hy, ← ht] at BA WL2 WM2
        rw [← hy] at hbz
        clear hy ht WL WM WE he
        cases t
        · have HY := Lib.hid (HX.out.trans (by rw [WM2.out rfl]))
          go_wp2_with fail
          refine (BA.out _).mono ?_
          rintro e w1 ⟨rfl, hw1⟩
          subst hw1
          go_wp2_with (at_builtin; refine wpList_app rfl (.tmp 36) (.tmp 38) _ rfl 9 _ 1 16 Tryz.underlying30 string_info rfl (by omega) HA.out (us := [.string y]) (dsE := strC y) ⟨[], HasL.cons_v (HasL.nil _), by simp, (Chg.refl _ _).alloc _⟩ rfl w1.heap.size 1 rfl rfl (by intro j u hj; cases j with | zero => cases hj; go_simp | succ j => simp at hj) (by intro u hu; simp at hu; subst hu; rfl) (by omega) (by omega) ?_; intro A2 cap2 w2 hA2)
          go_roundw
          case rel => exact ⟨k + 1, A2, cap2, out ++ [y], by omega, by omega, by go_num, by simp, by rw [List.flatMap_append]; simpa using hA2, Lib.hid (by have := hol.out; simp; omega), by have := hol.out; simp; omega, .inr (by omega), Lib.hid (by rw [HY.out]; simp)⟩
          case measure => simp [intOf]; omega
        · have HY := Lib.hid (HX.out.trans (by rw [WL2.out rfl]))
          go_wp2_with fail
          refine (BA.out _).mono ?_
          rintro e w1 ⟨rfl, hw1⟩
          subst hw1
          go_wp2_with (at_builtin; refine wpList_app rfl (.tmp 36) (.tmp 38) _ rfl 9 _ 1 16 Tryz.underlying30 string_info rfl (by omega) HA.out (us := [.string y]) (dsE := strC y) ⟨[], HasL.cons_v (HasL.nil _), by simp, (Chg.refl _ _).alloc _⟩ rfl w1.heap.size 1 rfl rfl (by intro j u hj; cases j with | zero => cases hj; go_simp | succ j => simp at hj) (by intro u hu; simp at hu; subst hu; rfl) (by omega) (by omega) ?_; intro A2 cap2 w2 hA2)
          go_ret2
          refine ⟨out ++ [y], A2, cap2, k + 1, by simp, ?_, HY.out, by omega, by omega, .inr (by omega)⟩
          have := hA2.new
          unfold strs
          rw [List.length_append, List.flatMap_append]
          simpa using this
    · have HY := Lib.hid (HX.out.trans (by rw [wordsS_none (by omega)]))
      go_wp2_with fail
      go_ret2
      exact ⟨out, A', cap', k, rfl, by have := hh.new; unfold strs; exact this, by simpa using HY.out, hik, hkW, hkk⟩
end Go.Proofs.YtldpibnfhomfgaaGreatDoor
namespace Go.Proofs.YtldpibnfhomfgaaGreatDoor
open Go.RowKit

theorem elem_strs : Tryz.prog.elem 30 = 9 := by kernel_rfl
theorem sizeOf_str (W : World) : (sizeOf 9).run Tryz.prog W = .ok 1 W := by
  obtain ⟨i, hi, hz⟩ := Option.map_eq_some_iff.1 string_info
  simp only [Prod.mk.injEq] at hz
  unfold sizeOf typeInfo
  simp [hi, hz.2.1]
def subV (A : Option Addr) (cap i j : Nat) : Value := .slice (if cap = i then A else A.map (·.add (i * 1))) (j - i) (cap - i)
theorem sub_lh (A : Option Addr) (n cap i j : Nat) (W : World) (hij : i ≤ j) (hj : j ≤ n) (hn : n ≤ cap) : (Instr.slice 30 (.slice A n cap) (some (.int .i64 (i : Int))) (some (.int .i64 (j : Int))) none).run Tryz.prog W = .ok (subV A cap i j) W := by
  rw [run_slice_lh W _ A n cap (by rw [elem_strs]; exact Tryz.underlying30) .i64 .i64 i j (by omega) (by omega) (by omega), elem_strs, sizeOf_str]
  simp [Result.andThen, sliced, subV]
theorem sub_l (A : Option Addr) (n cap i : Nat) (W : World) (hi : i ≤ n) : (Instr.slice 30 (.slice A n cap) (some (.int .i64 (i : Int))) none none).run Tryz.prog W = .ok (subV A cap i n) W := by
  rw [run_slice_l W _ A n cap (by rw [elem_strs]; exact Tryz.underlying30) .i64 i (by omega) (by omega), elem_strs, sizeOf_str]
  simp [Result.andThen, sliced, subV]
theorem flatMap_strC : ∀ l : List ByteArray, l.flatMap strC = l.map (fun s => Dat.v (.string s))
  | [] => rfl
  | s :: l => by rw [List.flatMap_cons, flatMap_strC l]; rfl
theorem sub_rd {w : World} {B : Nat} {L : List ByteArray} {A : Option Addr} {cap i j : Nat} (hr : Rd w B (strs L) (.slice A L.length cap)) (hij : i ≤ j) (hj : j ≤ L.length) : Rd w B (strs ((L.take j).drop i)) (subV A cap i j) := by
  obtain ⟨A', cap', e, h0, h1, hrow⟩ := strs_row hr
  cases e
  have hlen : ((L.take j).drop i).length = j - i := by rw [List.length_drop, List.length_take]; omega
  unfold strs subV
  rw [Rd, hlen]
  refine ⟨_, _, rfl, by omega, by omega, ?_⟩
  by_cases h : j = i
  · left
    rw [List.eq_nil_of_length_eq_zero (show ((L.take j).drop i).length = 0 by rw [hlen]; omega)]
    rfl
  · right
    obtain ⟨b, off, rfl, hb, _⟩ := strs_cells hrow i (by omega)
    refine ⟨b, off + i, ?_, hb, RdL_iff.2 (fun q d hq => ?_)⟩
    · rw [if_neg (by omega)]
      simp [Addr.add]
    · rw [flatMap_strC, List.getElem?_map] at hq
      obtain ⟨x, hx, rfl⟩ := Option.map_eq_some_iff.1 hq
      obtain ⟨hql, rfl⟩ := List.getElem?_eq_some_iff.1 hx
      rw [hlen] at hql
      obtain ⟨b', off', e', _, hc⟩ := strs_cells hrow (i + q) (by omega)
      cases e'
      refine ⟨_, by rw [Nat.add_assoc]; exact hc, ?_⟩
      rw [Rd]
      congr 1
      rw [List.getElem_drop, List.getElem_take]
end Go.Proofs.YtldpibnfhomfgaaGreatDoor
namespace Go.Proofs.YtldpibnfhomfgaaGreatDoor
open Go.RowKit

/-- The bytes of words, and one for each. -/
def tot (l : List ByteArray) : Nat := strsW1 l + l.length
theorem tot_cons (x : ByteArray) (l : List ByteArray) : tot (x :: l) = x.size + 1 + tot l := by unfold tot strsW1; simp; omega
theorem tot_nil : tot [] = 0 := rfl
theorem tot_app (l m : List ByteArray) : tot (l ++ m) = tot l + tot m := by unfold tot strsW1; simp; omega
theorem tot_drop (l : List ByteArray) (k : Nat) : tot (l.drop k) ≤ tot l := by
  have := tot_app (l.take k) (l.drop k)
  rw [List.take_append_drop] at this
  omega
theorem tot_take (l : List ByteArray) (k : Nat) : tot (l.take k) ≤ tot l := by
  have := tot_app (l.take k) (l.drop k)
  rw [List.take_append_drop] at this
  omega
theorem tot_mem {l : List ByteArray} {x : ByteArray} (h : x ∈ l) : x.size + 1 ≤ tot l := by
  have h1 := sum_mem ByteArray.size h
  have h2 := List.length_pos_of_mem h
  unfold tot strsW1
  omega
theorem tot_len (l : List ByteArray) : l.length ≤ tot l := by unfold tot; omega
theorem tot_W1 (l : List ByteArray) : strsW1 l ≤ tot l := by unfold tot; omega
theorem joinB_tot (l : List ByteArray) : (joinB l spB).size ≤ tot l := by
  cases l with
  | nil => exact Nat.zero_le _
  | cons x r =>
    rw [joinB_size, show spB.size = 1 from rfl]
    unfold tot
    simp only [List.length_cons]
    omega
theorem tot_split (s : ByteArray) : tot (splitS 32 s) = s.size + 1 := by
  have h := join_spL s.data.toList
  rw [bytesOf_of] at h
  have hne := spL_ne s.data.toList
  rw [splitS_spL]
  cases e : spL s.data.toList with
  | nil => exact absurd e hne
  | cons x r =>
    rw [e] at h
    have := congrArg ByteArray.size h
    rw [joinB_size, show spB.size = 1 from rfl] at this
    unfold tot
    simp only [List.length_cons]
    omega
theorem tot_words : ∀ ws : List ByteArray, tot (wordsS ws).1 + tot (wordsS ws).2 ≤ tot ws
  | [] => by rw [wordsS]; simp [tot_nil]
  | x :: ws => by
    have ih := tot_words ws
    have hb := bareS_size x
    rw [wordsS]
    split
    · simp [tot_nil]
    · split
      · simp only [tot_cons, tot_nil]; omega
      · simp only [tot_cons]; omega
theorem len_words : ∀ ws : List ByteArray, (wordsS ws).1.length + (wordsS ws).2.length = ws.length
  | [] => by rw [wordsS]; rfl
  | x :: ws => by
    have ih := len_words ws
    rw [wordsS]
    split
    · simp
    · split
      · simp; omega
      · simp only [List.length_cons]; omega
theorem words_pos {x : ByteArray} {ws : List ByteArray} (h : ¬ isEnd x) : 1 ≤ (wordsS (x :: ws)).1.length := by
  rw [wordsS, if_neg h]
  split
  · simp
  · simp
theorem callS_W {s : ByteArray} {x : CallT} (h : callS s = some x) : callW x ≤ s.size := by
  obtain ⟨h1, h2⟩ := callS_is h
  have := callT_parts h2
  rw [h1] at this
  exact this
theorem getD_callS (s : ByteArray) : callW ((callS s).getD zeroC) ≤ s.size := by
  cases h : callS s with
  | none => exact Nat.zero_le _
  | some x => exact callS_W h
/-- How much a simple action holds. -/
theorem simpleS_W (w : List ByteArray) : actionW (simpleS w) ≤ tot w := by
  have z : noB.size = 0 := rfl
  have zc : callW zeroC = 0 := rfl
  cases w with
  | nil => rw [simpleS_short (by simp), mkA_W, z, zc]; omega
  | cons x w =>
    cases w with
    | nil => rw [simpleS_short (by simp), mkA_W, z, zc]; omega
    | cons y ws =>
      have h1 := joinB_tot ws
      have h2 := getD_callS (joinB ws spB)
      rw [tot_cons, tot_cons, simpleS_unf]
      repeat' split
      all_goals (rw [mkA_W]; omega)
theorem rdL_W {sub : Option (List ByteArray → List ActionT × List ByteArray)} {M : Nat} (hsub : ∀ g, sub = some g → ∀ ws, tot ws ≤ M → actionsW (g ws).1 + (M + 1) * (g ws).2.length ≤ (M + 1) * ws.length ∧ tot (g ws).2 ≤ M) :
    ∀ (f : Nat) (acc : List ActionT) (ws : List ByteArray), tot ws ≤ M → actionsW (rdL sub f acc ws).1 + (M + 1) * (rdL sub f acc ws).2.length ≤ actionsW acc + (M + 1) * ws.length ∧ tot (rdL sub f acc ws).2 ≤ M
  | 0, acc, ws, h => by rw [rdL]; exact ⟨Nat.le_refl _, h⟩
  | f + 1, acc, [], h => by rw [rdL]; exact ⟨Nat.le_refl _, h⟩
  | f + 1, acc, x :: ws, h => by
    by_cases he : isEnd x
    · rw [rdL_end he]; exact ⟨Nat.le_refl _, h⟩
    · by_cases hb : (¬ (x = wordT 8 ∨ x = wordT 9 ∨ x = wordT 10)) ∨ sub = none
      · rw [rdL_simple he hb]
        have t1 := tot_words (x :: ws)
        have l1 := len_words (x :: ws)
        have p1 := words_pos (ws := ws) he
        have w1 := simpleS_W (wordsS (x :: ws)).1
        have ih := rdL_W hsub f (acc ++ [simpleS (wordsS (x :: ws)).1]) (wordsS (x :: ws)).2 (by omega)
        rw [actionsW_snoc] at ih
        refine ⟨?_, ih.2⟩
        have e : (M + 1) * (x :: ws).length = (M + 1) * (wordsS (x :: ws)).1.length + (M + 1) * (wordsS (x :: ws)).2.length := by rw [← l1, Nat.mul_add]
        have e2 : (M + 1) * 1 ≤ (M + 1) * (wordsS (x :: ws)).1.length := Nat.mul_le_mul_left _ p1
        have := ih.1
        omega
      · have hx : x = wordT 8 ∨ x = wordT 9 ∨ x = wordT 10 := by
          by_cases h2 : x = wordT 8 ∨ x = wordT 9 ∨ x = wordT 10
          · exact h2
          · exact absurd (.inl h2) hb
        obtain ⟨g, rfl⟩ : ∃ g, sub = some g := by
          cases sub with
          | none => exact absurd (.inr rfl) hb
          | some g => exact ⟨g, rfl⟩
        have hd := tot_drop ws 1
        have hc := tot_cons x ws
        have gA := hsub g rfl (ws.drop 1) (by omega)
        obtain ⟨A, hA⟩ : ∃ A, A = g (ws.drop 1) := ⟨_, rfl⟩
        rw [← hA] at gA
        obtain ⟨B, hB⟩ : ∃ B, B = if x = wordT 9 then ([], A.2) else g (A.2.drop 3) := ⟨_, rfl⟩
        have gB : actionsW B.1 + (M + 1) * B.2.length ≤ (M + 1) * A.2.length ∧ tot B.2 ≤ M := by
          rw [hB]
          split
          · exact ⟨Nat.le_of_eq (Nat.zero_add _), gA.2⟩
          · have := hsub g rfl (A.2.drop 3) (by have := tot_drop A.2 3; omega)
            refine ⟨Nat.le_trans this.1 (Nat.mul_le_mul_left _ (by rw [List.length_drop]; omega)), this.2⟩
        rw [rdL_blk he hx hA.symm hB.symm]
        have e1 : (M + 1) * (ws.drop 1).length + (M + 1) ≤ (M + 1) * (x :: ws).length := by
          rw [← Nat.mul_succ]
          exact Nat.mul_le_mul_left _ (by simp)
        have e2 : (M + 1) * (B.2.drop 1).length ≤ (M + 1) * B.2.length := Nat.mul_le_mul_left _ (by rw [List.length_drop]; omega)
        have td := tot_drop B.2 1
        have wa := blkA_W (op := if x = wordT 8 then 8 else if x = wordT 10 then 10 else 9) (A := A.1) (B := B.1)
        split
        · dsimp only
          rw [actionsW_snoc, wa]
          exact ⟨by omega, by omega⟩
        · have ih := rdL_W hsub f (acc ++ [blkA (if x = wordT 8 then 8 else if x = wordT 10 then 10 else 9) A.1 B.1]) (B.2.drop 1) (by omega)
          rw [actionsW_snoc, wa] at ih
          exact ⟨by omega, ih.2⟩
theorem rdS_W {M : Nat} : ∀ (d : Nat) (ws : List ByteArray), tot ws ≤ M → actionsW (rdS d ws).1 + (M + 1) * (rdS d ws).2.length ≤ (M + 1) * ws.length ∧ tot (rdS d ws).2 ≤ M
  | 0, ws, h => by
    have := rdL_W (sub := none) (M := M) (fun g e => by cases e) 15 [] ws h
    rw [show actionsW [] = 0 from rfl, Nat.zero_add] at this
    rw [rdS_eq, show subS 0 = none from rfl]
    exact this
  | d + 1, ws, h => by
    have := rdL_W (sub := some (rdS d)) (M := M) (fun g e => by cases e; exact fun ws h => rdS_W d ws h) 15 [] ws h
    rw [show actionsW [] = 0 from rfl, Nat.zero_add] at this
    rw [rdS_eq, show subS (d + 1) = some (rdS d) from rfl]
    exact this
end Go.Proofs.YtldpibnfhomfgaaGreatDoor
