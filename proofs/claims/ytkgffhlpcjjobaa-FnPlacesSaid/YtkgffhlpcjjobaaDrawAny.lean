/- Actions, drawn, that may be no plan: l3AnyCall, l8Any, DrawActionAt of the reference. Conditions: for DrawActionAt, at most 4096 bytes. Written by a program. -/
import Derived.Test.YtkgffhlpcjjobaaDrawL
import Derived.Test.YtkgffhlpcjjobaaCurs
namespace Go.Proofs.Ytkgffhlpcjjobaa
open Go.RowKit

/-- A list of one action, of its own. -/
theorem one_has {w : World} {g : Nat} {a : ActionT} {us : List Value} {S : List Nat} {e : TypeId} (h : HasL w (actionF a) us S) (hg : w.heap[g]? = some (.cells us.toArray e (0, 0))) (hn : g ∉ S) : Has w (actions [a]) (.slice (some ⟨g, 0, none⟩) 1 1) (g :: S) := by
  have hl := OwnL.length _ _ _ h.1
  refine ⟨?_, List.nodup_cons.2 ⟨hn, h.2⟩⟩
  unfold actions
  rw [Own]
  refine .inr ⟨g, 1, us.toArray, e, us, S, rfl, Nat.le_refl _, by unfold maxLen; omega, hg, ?_, ?_, ?_, rfl⟩
  · simp only [List.flatMap_cons, List.flatMap_nil, List.append_nil]
    rw [← hl]; simp
  · simp [hl]
  · simpa using h.1
/-- Actions, drawn. -/
def DrAny (k N : Nat) (w : World) (e : Ending) (w' : World) : Prop := ∃ (l : List ActionT) (A : Option Addr) (cap : Nat), e = .returned (.slice A l.length cap) ∧ NewS [k] w w' (actions l) (.slice A l.length cap) ∧ actionsW l ≤ N ∧ Cur w' k
theorem heap_new (w : World) (cs : Array Value) (t : TypeId) : (w.alloc (.cells cs t)).heap[w.heap.size]? = some (.cells cs t (0, 0)) := by show (w.heap.push _)[_]? = _; rw [Array.getElem?_push]; simp
theorem flatMap_set {α : Type} {F : α → List Dat} {c f : Nat} (hF : ∀ a, (F a).length = c) (hf : f < c) (d : Dat) (a' : α) : ∀ (l : List α) (i : Nat) (hi : i < l.length), (F l[i]).set f d = F a' → (l.flatMap F).set (i * c + f) d = (l.set i a').flatMap F
  | a :: l, 0, _, h => by
    rw [List.flatMap_cons, Nat.zero_mul, Nat.zero_add, List.set_append_left _ _ (by rw [hF]; exact hf), List.set_cons_zero, List.flatMap_cons]
    congr 1
  | a :: l, i + 1, hi, h => by
    have e : (i + 1) * c + f = c + (i * c + f) := by rw [Nat.add_mul]; omega
    rw [List.flatMap_cons, e, List.set_append_right _ _ (by rw [hF]; omega), hF, Nat.add_sub_cancel_left, List.set_cons_succ, List.flatMap_cons, flatMap_set hF hf d a' l i (by simpa using hi) (by simpa using h)]
theorem flatMap_getAt {α : Type} {F : α → List Dat} {c f : Nat} (hF : ∀ a, (F a).length = c) (hf : f < c) : ∀ (l : List α) (i : Nat) (hi : i < l.length), (l.flatMap F)[i * c + f]? = (F l[i])[f]?
  | a :: l, 0, _ => by
    rw [List.flatMap_cons, Nat.zero_mul, Nat.zero_add, List.getElem?_append_left (by rw [hF]; exact hf)]
    rfl
  | a :: l, i + 1, hi => by
    have e : (i + 1) * c + f = c + (i * c + f) := by rw [Nat.add_mul]; omega
    rw [List.flatMap_cons, e, List.getElem?_append_right (by rw [hF]; omega), hF, Nat.add_sub_cancel_left, flatMap_getAt hF hf l i (by simpa using hi)]
    rfl
theorem actionsW_set (a' : ActionT) : ∀ (l : List ActionT) (i : Nat) (hi : i < l.length), actionsW (l.set i a') + actionW l[i] = actionsW l + actionW a'
  | a :: l, 0, _ => by
    have h1 := actionsW_app [a] l
    have h2 := actionsW_app [a'] l
    rw [actionsW_one] at h1 h2
    simp only [List.cons_append, List.nil_append] at h1 h2
    rw [List.set_cons_zero, h1, h2]
    show _ + actionW a = _
    omega
  | a :: l, i + 1, hi => by
    have ih := actionsW_set a' l i (by simpa using hi)
    have h1 := actionsW_app [a] l
    have h2 := actionsW_app [a] (l.set i a')
    rw [actionsW_one] at h1 h2
    simp only [List.cons_append, List.nil_append] at h1 h2
    rw [List.set_cons_succ, h1, h2]
    show _ + actionW (l[i]'(by simpa using hi)) = _
    omega
theorem two_W (m y : ByteArray) (v : Int) (t : ByteArray) (fc : Int) (zm : m.size ≤ 16) (zy : y.size ≤ 16) (zt : t.size ≤ 100) : actionsW [(.mk 7 0 0 ⟨#[]⟩ ⟨m, y, v, t⟩ 0 [] []), (.mk 6 0 0 ⟨#[]⟩ ⟨⟨#[]⟩, ⟨#[]⟩, 0, ⟨#[]⟩⟩ fc [] [])] ≤ 200 := by
  have h := actionsW_app [(.mk 7 0 0 ⟨#[]⟩ ⟨m, y, v, t⟩ 0 [] [])] [(.mk 6 0 0 ⟨#[]⟩ ⟨⟨#[]⟩, ⟨#[]⟩, 0, ⟨#[]⟩⟩ fc [] [])]
  rw [actionsW_one, actionsW_one, flat_W, flat_W, callW_mk, callW_mk] at h
  have e : (⟨#[]⟩ : ByteArray).size = 0 := rfl
  simp only [List.cons_append, List.nil_append] at h
  rw [h]
  omega
/-- A call's box, as far as it has come. -/
def CallAt (k : Nat) (w x : World) (b : Nat) : Prop := ∃ (m y : ByteArray) (v : Int) (t : ByteArray), Box x b [.string m, .string y, .int .i64 v, .string t] ∧ Box x w.heap.size [.string ⟨#[]⟩, .string ⟨#[]⟩, .int .i64 0, .string ⟨#[]⟩] ∧ m.size ≤ 16 ∧ y.size ≤ 16 ∧ t.size ≤ 100 ∧ Cur x k ∧ Chg [k] w x
set_option maxRecDepth 100000 in
set_option maxHeartbeats 16000000 in
theorem l3AnyCall_any (k : Nat) (w : World) (hcur : Cur w k) :
    Calls Try.prog 19 #[.pointer (some ⟨k, 0, none⟩)] w (DrCall k w) := by
  have hk := hcur.lt
  have BL := Lib.hid (fun n W (hc : Cur W k) => l1Below_any k n W hc)
  have CL := Lib.hid (fun W (hc : Cur W k) => l3Call_any k W hc)
  have ME := Lib.hid (fun W (hc : Cur W k) => l2Method_any k W hc)
  have WO := Lib.hid (fun W (hc : Cur W k) => l1Word_any k W hc)
  have OD := Lib.hid (fun W (hc : Cur W k) => l1Odd_any k W hc)
  have LS := Lib.hid (fun L g cap W hc h0 h1 hg hl hx => l1Str_any k L g cap W hc h0 h1 hg hl hx)
  have HA := Lib.hid (show ∀ x ∈ ([⟨#[45]⟩, ⟨#[97, 61, 49]⟩, ⟨#[120]⟩] : List ByteArray), x.size ≤ 100 from by decide)
  go_enter Try.func19, Try.ntmps19
  go_wp2_with fail
  refine calls_name fun x0 hx0 => ?_
  have c0 : Chg [k] w x0 := by rw [hx0]; exact Chg.now
  have Z0 := Lib.hid (show Box x0 w.heap.size [.string ⟨#[]⟩, .string ⟨#[]⟩, .int .i64 0, .string ⟨#[]⟩] by rw [hx0]; exact Box.new w _ _)
  have Q0 := hcur.keep (S := []) (show Chg [] w x0 by rw [hx0]; exact Chg.now) (by simp)
  clear hx0
  refine (CL.out _ Q0).mono ?_
  rintro e w1 ⟨m, y, v, t, rfl, zm, zy, zt, q1, c1⟩
  have t1 : w.heap.size < w1.heap.size := by have := Z0.out.lt; have := c1.size; omega
  have Z1 := Lib.hid (Z0.out.keep c1 (by simp; omega))
  have d1 := Lib.hid (c0.trans c1 (fun x hx => .inl hx))
  clear c0 c1 Z0 Q0 hcur
  go_wp2_with fail
  refine calls_name fun x1 hx1 => ?_
  have B1 : Box x1 w1.heap.size [.string m, .string y, .int .i64 v, .string t] := by rw [hx1]; exact Box.new _ _ _
  have e1 : Chg [] w1 x1 := by rw [hx1]; exact Chg.now
  clear hx1
  refine (BL.out 18 _ (q1.keep0 e1)).mono ?_
  rintro e w2 ⟨r, rfl, ⟨r0, r12⟩, q2, c2⟩
  have u2 : w1.heap.size < w2.heap.size := Nat.lt_of_lt_of_le B1.lt c2.size
  have t2 : w.heap.size < w2.heap.size := by omega
  have B2 := Lib.hid (B1.keep c2 (by simp; omega))
  have Z2 := Lib.hid ((Z1.out.keep e1).keep c2 (by simp; omega))
  have d2 := Lib.hid ((d1.out.trans (e1.mono (T := [k]) (by simp)) (fun x hx => .inl hx)).trans c2 (fun x hx => .inl hx))
  have k2 := q2.lt
  clear e1 c2 B1 Z1 d1 q1 r12
  rcases (show r = 0 ∨ r = 1 ∨ r = 2 ∨ r = 3 ∨ (4 ≤ r) by omega) with rfl | rfl | rfl | rfl | h
  case' inl =>
    go_wp2_with fail
    refine calls_name fun x2 hx2 => ?_
    have ee : Chg [] w2 x2 := by rw [hx2]; exact Chg.now
    clear hx2
    refine (ME.out _ (q2.keep0 ee)).mono ?_
    rintro e w3 ⟨s, rfl, hs, q3, c3⟩
    have B3 := Lib.hid ((B2.out.keep ee).keep c3 (by simp; omega))
    have Z3 := Lib.hid ((Z2.out.keep ee).keep c3 (by simp; omega))
    have d3 := Lib.hid ((d2.out.trans0 ee).trans c3 (fun x hx => .inl hx))
    have u3 := B3.out.lt
    have t3 := Z3.out.lt
    clear ee c3 B2 Z2 d2 q2
    obtain ⟨b0, b1, b2, b3⟩ := B3.out.o4
    have bf := B3.out.f
    go_upto_region 11 with fail
    refine wp_called ?_
    intro x hx
    have K : CallAt k w x w1.heap.size := by rw [hx]; exact ⟨_, _, _, _, B3.out.set 0 _, Z3.out.far _ (by omega), hs, zy, zt, q3.keep (S := [w1.heap.size]) Chg.now (by simp; omega), Chg.to d3.out⟩
    clear b0 b1 b2 b3 bf
    clear hx B3 Z3 d3 q3
  case' inr.inl =>
    go_wp2_with fail
    refine calls_name fun x2 hx2 => ?_
    have ee : Chg [] w2 x2 := by rw [hx2]; exact Chg.now
    clear hx2
    refine (WO.out _ (q2.keep0 ee)).mono ?_
    rintro e w3 ⟨s, rfl, hs, q3, c3⟩
    have B3 := Lib.hid ((B2.out.keep ee).keep c3 (by simp; omega))
    have Z3 := Lib.hid ((Z2.out.keep ee).keep c3 (by simp; omega))
    have d3 := Lib.hid ((d2.out.trans0 ee).trans c3 (fun x hx => .inl hx))
    have u3 := B3.out.lt
    have t3 := Z3.out.lt
    clear ee c3 B2 Z2 d2 q2
    obtain ⟨b0, b1, b2, b3⟩ := B3.out.o4
    have bf := B3.out.f
    go_upto_region 11 with fail
    refine wp_called ?_
    intro x hx
    have K : CallAt k w x w1.heap.size := by rw [hx]; exact ⟨_, _, _, _, B3.out.set 1 _, Z3.out.far _ (by omega), zm, hs, zt, q3.keep (S := [w1.heap.size]) Chg.now (by simp; omega), Chg.to d3.out⟩
    clear b0 b1 b2 b3 bf
    clear hx B3 Z3 d3 q3
  case' inr.inr.inl =>
    go_wp2_with fail
    refine calls_name fun x2 hx2 => ?_
    have ee : Chg [] w2 x2 := by rw [hx2]; exact Chg.now
    clear hx2
    refine (OD.out _ (q2.keep0 ee)).mono ?_
    rintro e w3 ⟨s, rfl, hs, q3, c3⟩
    have B3 := Lib.hid ((B2.out.keep ee).keep c3 (by simp; omega))
    have Z3 := Lib.hid ((Z2.out.keep ee).keep c3 (by simp; omega))
    have d3 := Lib.hid ((d2.out.trans0 ee).trans c3 (fun x hx => .inl hx))
    have u3 := B3.out.lt
    have t3 := Z3.out.lt
    clear ee c3 B2 Z2 d2 q2
    obtain ⟨b0, b1, b2, b3⟩ := B3.out.o4
    have bf := B3.out.f
    go_upto_region 11 with fail
    refine wp_called ?_
    intro x hx
    have K : CallAt k w x w1.heap.size := by rw [hx]; exact ⟨_, _, _, _, B3.out.set 2 _, Z3.out.far _ (by omega), zm, zy, zt, q3.keep (S := [w1.heap.size]) Chg.now (by simp; omega), Chg.to d3.out⟩
    clear b0 b1 b2 b3 bf
    clear hx B3 Z3 d3 q3
  case' inr.inr.inr.inl =>
    go_wp2_with fail
    refine calls_name fun x2 hx2 => ?_
    have ee : Chg [] w2 x2 := by rw [hx2]; exact Chg.now
    obtain ⟨lt2, LT2⟩ := lit_strsE (g := w2.heap.size) [⟨#[45]⟩, ⟨#[97, 61, 49]⟩, ⟨#[120]⟩] hx2 rfl
    clear hx2
    refine (LS.out [⟨#[45]⟩, ⟨#[97, 61, 49]⟩, ⟨#[120]⟩] w2.heap.size 3 _ (q2.keep0 ee) (by decide) (by decide) (by omega) lt2 LT2).mono ?_
    rintro e w3 ⟨s, rfl, hs, q3, c3⟩
    have hs := HA.out s hs
    clear lt2 LT2
    have B3 := Lib.hid ((B2.out.keep ee).keep c3 (by simp; omega))
    have Z3 := Lib.hid ((Z2.out.keep ee).keep c3 (by simp; omega))
    have d3 := Lib.hid ((d2.out.trans0 ee).trans c3 (fun x hx => .inl hx))
    have u3 := B3.out.lt
    have t3 := Z3.out.lt
    clear ee c3 B2 Z2 d2 q2
    obtain ⟨b0, b1, b2, b3⟩ := B3.out.o4
    have bf := B3.out.f
    go_upto_region 11 with fail
    refine wp_called ?_
    intro x hx
    have K : CallAt k w x w1.heap.size := by rw [hx]; exact ⟨_, _, _, _, B3.out.set 3 _, Z3.out.far _ (by omega), zm, zy, hs, q3.keep (S := [w1.heap.size]) Chg.now (by simp; omega), Chg.to d3.out⟩
    clear b0 b1 b2 b3 bf
    clear hx B3 Z3 d3 q3
  case' inr.inr.inr.inr =>
    have n0 : (r == 0) = false := by rw [beq_eq_false_iff_ne]; omega
    have n1 : (r == 1) = false := by rw [beq_eq_false_iff_ne]; omega
    have n2 : (r == 2) = false := by rw [beq_eq_false_iff_ne]; omega
    have n3 : (r == 3) = false := by rw [beq_eq_false_iff_ne]; omega
    obtain ⟨b0, b1, b2, b3⟩ := B2.out.o4
    have bf := B2.out.f
    go_upto_region 11 with fail
    refine wp_called ?_
    intro x hx
    have K : CallAt k w x w1.heap.size := by rw [hx]; exact ⟨_, _, _, _, B2.out.keep (S := []) Chg.now, Z2.out.keep (S := []) Chg.now, zm, zy, zt, q2.keep (S := [w1.heap.size]) Chg.now (by simp; omega), Chg.to d2.out⟩
    clear b0 b1 b2 b3 bf
    clear hx B2 Z2 d2 q2
  all_goals
    obtain ⟨m, y, v, t, B8, Z8, z1, z2, z3, q8, d8⟩ := K
    have B8 := Lib.hid B8
    have Z8 := Lib.hid Z8
    have d8 := Lib.hid d8
    obtain ⟨b0, b1, b2, b3⟩ := B8.out.o4
    have bf := B8.out.f
    obtain ⟨y0, y1, y2, y3⟩ := Z8.out.o4
    have yf := Z8.out.f
    have u8 := B8.out.lt
    have k8 := q8.lt
    have t8 := Z8.out.lt
    go_wp2_with fail
    refine bodyPost_ret (v := .agg #[.string m, .string y, .int .i64 v, .string t]) (by simp only [results, Try.results19]; go_simp) rfl ?_
    exact ⟨_, _, _, _, rfl, z1, z2, z3, q8.keep (S := [w.heap.size]) Chg.now (by simp; omega), Chg.to d8.out⟩
set_option maxRecDepth 100000 in
set_option maxHeartbeats 16000000 in
theorem l8Any_any (k : Nat) (w : World) (hcur : Cur w k) :
    Calls Try.prog 11 #[.pointer (some ⟨k, 0, none⟩)] w (DrAny k 250000 w) := by
  have hk := hcur.lt
  have BL := Lib.hid (fun n W (hc : Cur W k) => l1Below_any k n W hc)
  have DR := Lib.hid (fun W (hc : Cur W k) => l8Draw_any k W hc)
  have OD := Lib.hid (fun W (hc : Cur W k) => l1Odd_any k W hc)
  have WO := Lib.hid (fun W (hc : Cur W k) => l1Word_any k W hc)
  have AC := Lib.hid (fun W (hc : Cur W k) => l3AnyCall_any k W hc)
  have AF := Lib.hid (fun W (hc : Cur W k) => l2Any_any k W hc)
  have LS : Hid (∀ W, Cur W k → Calls Try.prog 17 #[.pointer (some ⟨k, 0, none⟩), .int .i64 9, .int .i64 3, .bool false] W (DrActs k 153000 9 false W)) := Lib.hid (fun W hc => l8List_any k false 3 9 W hc (by omega) (by omega) (by omega))
  have hT : Hid (∀ x ∈ [k], x < w.heap.size) := Lib.hid (by simpa using hk)
  go_enter Try.func11, Try.ntmps11
  go_wp2_with fail
  refine (DR.out _ hcur).mono ?_
  rintro e w1 ⟨l, A, cap, rfl, hA, hok, hW, _, q1⟩
  have hl14 := hok.len
  have HA1 := Lib.hid hA
  clear hA hok
  go_wp2_with fail
  refine (BL.out 14 _ q1).mono ?_
  rintro e w2 ⟨r, rfl, ⟨r0, r12⟩, q2, c2⟩
  have HA2 := Lib.hid (HA1.out.later c2 hT.out)
  have k2 := q2.lt
  clear c2 HA1 q1 r12
  rcases (show r = 0 ∨ r = 1 ∨ r = 2 ∨ r = 3 ∨ r = 4 ∨ r = 5 ∨ (6 ≤ r) by omega) with rfl | rfl | rfl | rfl | rfl | rfl | h
  · go_wp2_with fail
    refine (LS.out _ q2).mono ?_
    rintro e w5 ⟨m, Am, cm, rfl, hm, hm1, hm6, hWm, _, q5⟩
    obtain ⟨gm, rfl, _⟩ := hm.row.2.2 (by omega)
    obtain ⟨us, nt, ul, un⟩ := hm.new.elems
    have HU := Lib.hid un
    have NT := Lib.hid nt
    have HL := Lib.hid (show us.length = m.length * 11 by rw [ul, flatMap_length_of actionF_len])
    have HO := Lib.hid (acts_ones nt)
    clear hm ul un nt
    go_wp2_with (at_builtin; refine wpList_appT (T := [k]) rfl (.tmp 10) (.tmp 12) _ rfl 30 _ 11 152 Try.underlying24 action_info rfl (by omega) HA2.out hT.out NT.out rfl gm m.length cm rfl HL.out HU.out HO.out (by omega) (by omega) ?_; intro A6 cap6 w6 hA6 hM6)
    go_ret
    exact ⟨l ++ m, A6, cap6, by simp, by have := hA6.new; unfold actions; rw [List.flatMap_append, List.length_append]; exact this, by rw [actionsW_app]; omega, q5.mid hM6 hk⟩
  · obtain ⟨r0', r1', r2'⟩ := HA2.out.row
    unfold maxLen at r1'
    by_cases hl0 : 0 < l.length
    · obtain ⟨g, rfl, hg⟩ := r2' hl0
      have hl1 : (0 : Int) < (l.length : Int) := by omega
      clear r2'
      go_wp2_with fail
      refine (BL.out l.length _ q2).mono ?_
      rintro e w3 ⟨i, rfl, ⟨i0, i1⟩, q3, c3⟩
      have i1 := i1 (by omega)
      obtain ⟨j, rfl⟩ : ∃ j : Nat, i = (j : Int) := ⟨i.toNat, by omega⟩
      have hj : j < l.length := by omega
      have HA3 := Lib.hid (HA2.out.later c3 hT.out)
      clear c3 HA2 q2
      go_wp2_with fail
      refine (OD.out _ q3).mono ?_
      rintro e w4 ⟨s, rfl, hs, q4, c4⟩
      have N4 := (HA3.out.later c4 hT.out).new
      have FG : (l.flatMap actionF)[j * 11 + 1]? = some (.v (.int .i64 l[j].slot)) := (flatMap_getAt (f := 1) actionF_len (by decide) l j hj).trans (by rw [actionF_eq]; rfl)
      obtain ⟨e1, e2, _, N5⟩ := N4.set_ FG (.int .i64 s)
      have FS : (l.flatMap actionF).set (j * 11 + 1) (.v (.int .i64 s)) = (l.set j (.mk l[j].op s l[j].other l[j].word l[j].call l[j].face l[j].A l[j].B)).flatMap actionF := flatMap_set (f := 1) actionF_len (by decide) _ _ l j hj (by rw [actionF_eq, actionF_eq]; rfl)
      rw [FS] at N5
      have NN := Lib.hid N5
      have hw := actionsW_set (.mk l[j].op s l[j].other l[j].word l[j].call l[j].face l[j].A l[j].B) l j hj
      have hw2 : actionW (.mk l[j].op s l[j].other l[j].word l[j].call l[j].face l[j].A l[j].B) ≤ actionW l[j] + 16 := by rw [actionW_eq, actionW_eq]; show l[j].word.size + callW l[j].call + actionsW l[j].A + actionsW l[j].B ≤ _; omega
      have q5 : Cur (w4.setCell ⟨g, j * 11 + 1, none⟩ (.int .i64 s)) k := q4.keep (S := [g]) ((Chg.refl _ _).setCell (.inl (by simp)) _) (by simp; omega)
      clear N4 N5 HA3 c4 hs q3 q4 FG FS
      go_wp2_with fail
      go_ret
      exact ⟨l.set j (.mk l[j].op s l[j].other l[j].word l[j].call l[j].face l[j].A l[j].B), some ⟨g, 0, none⟩, cap, by rw [List.length_set]; rfl, by have := NN.out; unfold actions; rw [List.length_set]; exact this, by omega, q5⟩
    · have hl1 : ¬ (0 : Int) < (l.length : Int) := by omega
      clear r2'
      go_wp2_with fail
      go_ret
      exact ⟨l, A, cap, rfl, HA2.out.new, by omega, q2⟩
  · obtain ⟨r0', r1', r2'⟩ := HA2.out.row
    unfold maxLen at r1'
    by_cases hl0 : 0 < l.length
    · obtain ⟨g, rfl, hg⟩ := r2' hl0
      have hl1 : (0 : Int) < (l.length : Int) := by omega
      clear r2'
      go_wp2_with fail
      refine (BL.out l.length _ q2).mono ?_
      rintro e w3 ⟨i, rfl, ⟨i0, i1⟩, q3, c3⟩
      have i1 := i1 (by omega)
      obtain ⟨j, rfl⟩ : ∃ j : Nat, i = (j : Int) := ⟨i.toNat, by omega⟩
      have hj : j < l.length := by omega
      have HA3 := Lib.hid (HA2.out.later c3 hT.out)
      clear c3 HA2 q2
      go_wp2_with fail
      refine (WO.out _ q3).mono ?_
      rintro e w4 ⟨s, rfl, hs, q4, c4⟩
      have N4 := (HA3.out.later c4 hT.out).new
      have FG : (l.flatMap actionF)[j * 11 + 3]? = some (.v (.string l[j].word)) := (flatMap_getAt (f := 3) actionF_len (by decide) l j hj).trans (by rw [actionF_eq]; rfl)
      obtain ⟨e1, e2, _, N5⟩ := N4.set_ FG (.string s)
      have FS : (l.flatMap actionF).set (j * 11 + 3) (.v (.string s)) = (l.set j (.mk l[j].op l[j].slot l[j].other s l[j].call l[j].face l[j].A l[j].B)).flatMap actionF := flatMap_set (f := 3) actionF_len (by decide) _ _ l j hj (by rw [actionF_eq, actionF_eq]; rfl)
      rw [FS] at N5
      have NN := Lib.hid N5
      have hw := actionsW_set (.mk l[j].op l[j].slot l[j].other s l[j].call l[j].face l[j].A l[j].B) l j hj
      have hw2 : actionW (.mk l[j].op l[j].slot l[j].other s l[j].call l[j].face l[j].A l[j].B) ≤ actionW l[j] + 16 := by rw [actionW_eq, actionW_eq]; show s.size + callW l[j].call + actionsW l[j].A + actionsW l[j].B ≤ _; omega
      have q5 : Cur (w4.setCell ⟨g, j * 11 + 3, none⟩ (.string s)) k := q4.keep (S := [g]) ((Chg.refl _ _).setCell (.inl (by simp)) _) (by simp; omega)
      clear N4 N5 HA3 c4 hs q3 q4 FG FS
      go_wp2_with fail
      go_ret
      exact ⟨l.set j (.mk l[j].op l[j].slot l[j].other s l[j].call l[j].face l[j].A l[j].B), some ⟨g, 0, none⟩, cap, by rw [List.length_set]; rfl, by have := NN.out; unfold actions; rw [List.length_set]; exact this, by omega, q5⟩
    · have hl1 : ¬ (0 : Int) < (l.length : Int) := by omega
      clear r2'
      go_wp2_with fail
      go_ret
      exact ⟨l, A, cap, rfl, HA2.out.new, by omega, q2⟩
  · obtain ⟨r0', r1', r2'⟩ := HA2.out.row
    unfold maxLen at r1'
    by_cases hl0 : 0 < l.length
    · obtain ⟨g, rfl, hg⟩ := r2' hl0
      have hl1 : (0 : Int) < (l.length : Int) := by omega
      clear r2'
      go_wp2_with fail
      refine (BL.out l.length _ q2).mono ?_
      rintro e w3 ⟨i, rfl, ⟨i0, i1⟩, q3, c3⟩
      have i1 := i1 (by omega)
      obtain ⟨j, rfl⟩ : ∃ j : Nat, i = (j : Int) := ⟨i.toNat, by omega⟩
      have hj : j < l.length := by omega
      have HA3 := Lib.hid (HA2.out.later c3 hT.out)
      clear c3 HA2 q2
      go_wp2_with fail
      refine (OD.out _ q3).mono ?_
      rintro e w4 ⟨s, rfl, hs, q4, c4⟩
      have N4 := (HA3.out.later c4 hT.out).new
      have FG : (l.flatMap actionF)[j * 11]? = some (.v (.int .i64 l[j].op)) := (flatMap_getAt (f := 0) actionF_len (by decide) l j hj).trans (by rw [actionF_eq]; rfl)
      obtain ⟨e1, e2, _, N5⟩ := N4.set_ FG (.int .i64 s)
      have FS : (l.flatMap actionF).set (j * 11) (.v (.int .i64 s)) = (l.set j (.mk s l[j].slot l[j].other l[j].word l[j].call l[j].face l[j].A l[j].B)).flatMap actionF := flatMap_set (f := 0) actionF_len (by decide) _ _ l j hj (by rw [actionF_eq, actionF_eq]; rfl)
      rw [FS] at N5
      have NN := Lib.hid N5
      have hw := actionsW_set (.mk s l[j].slot l[j].other l[j].word l[j].call l[j].face l[j].A l[j].B) l j hj
      have hw2 : actionW (.mk s l[j].slot l[j].other l[j].word l[j].call l[j].face l[j].A l[j].B) ≤ actionW l[j] + 16 := by rw [actionW_eq, actionW_eq]; show l[j].word.size + callW l[j].call + actionsW l[j].A + actionsW l[j].B ≤ _; omega
      have q5 : Cur (w4.setCell ⟨g, j * 11, none⟩ (.int .i64 s)) k := q4.keep (S := [g]) ((Chg.refl _ _).setCell (.inl (by simp)) _) (by simp; omega)
      clear N4 N5 HA3 c4 hs q3 q4 FG FS
      go_wp2_with fail
      go_ret
      exact ⟨l.set j (.mk s l[j].slot l[j].other l[j].word l[j].call l[j].face l[j].A l[j].B), some ⟨g, 0, none⟩, cap, by rw [List.length_set]; rfl, by have := NN.out; unfold actions; rw [List.length_set]; exact this, by omega, q5⟩
    · have hl1 : ¬ (0 : Int) < (l.length : Int) := by omega
      clear r2'
      go_wp2_with fail
      go_ret
      exact ⟨l, A, cap, rfl, HA2.out.new, by omega, q2⟩
  · have N0 : Has (w2.alloc (.cells #[.int .i64 5, .int .i64 0, .int .i64 0, .string ⟨#[]⟩, .string ⟨#[]⟩, .string ⟨#[]⟩, .int .i64 0, .string ⟨#[]⟩, .int .i64 0, .slice none 0 0, .slice none 0 0] 30)) (actions [(.mk 5 0 0 ⟨#[]⟩ ⟨⟨#[]⟩, ⟨#[]⟩, 0, ⟨#[]⟩⟩ 0 [] [])]) (.slice (some ⟨w2.heap.size, 0, none⟩) 1 1) [w2.heap.size] := one_has (flat_has _ _ _ _ _ _ _ _ _ _) (heap_new _ _ _) (by simp)
    have N1 := one_has (act_hasAB (op := 10) (sl := 0) (ot := 0) (wd := ⟨#[]⟩) (m := ⟨#[]⟩) (y := ⟨#[]⟩) (v := 0) (t := ⟨#[]⟩) (fc := 0) (nil_has _) (N0.keep0 ((Chg.refl _ _).alloc (.cells #[.int .i64 10, .int .i64 0, .int .i64 0, .string ⟨#[]⟩, .string ⟨#[]⟩, .string ⟨#[]⟩, .int .i64 0, .string ⟨#[]⟩, .int .i64 0, .slice none 0 0, .slice (some ⟨w2.heap.size, 0, none⟩) 1 1] 30))) (by simp)) (heap_new _ _ _) (by simp)
    rw [show (w2.alloc (.cells #[.int .i64 5, .int .i64 0, .int .i64 0, .string ⟨#[]⟩, .string ⟨#[]⟩, .string ⟨#[]⟩, .int .i64 0, .string ⟨#[]⟩, .int .i64 0, .slice none 0 0, .slice none 0 0] 30)).heap.size = w2.heap.size + 1 by simp] at N1
    have N2 := one_has (act_hasA (op := 8) (sl := 0) (ot := 0) (wd := ⟨#[]⟩) (m := ⟨#[]⟩) (y := ⟨#[]⟩) (v := 0) (t := ⟨#[]⟩) (fc := 0) (N1.keep0 ((Chg.refl _ _).alloc (.cells #[.int .i64 8, .int .i64 0, .int .i64 0, .string ⟨#[]⟩, .string ⟨#[]⟩, .string ⟨#[]⟩, .int .i64 0, .string ⟨#[]⟩, .int .i64 0, .slice (some ⟨w2.heap.size + 1, 0, none⟩) 1 1, .slice none 0 0] 30)))) (heap_new _ _ _) (by simp; omega)
    rw [show ((w2.alloc (.cells #[.int .i64 5, .int .i64 0, .int .i64 0, .string ⟨#[]⟩, .string ⟨#[]⟩, .string ⟨#[]⟩, .int .i64 0, .string ⟨#[]⟩, .int .i64 0, .slice none 0 0, .slice none 0 0] 30)).alloc (.cells #[.int .i64 10, .int .i64 0, .int .i64 0, .string ⟨#[]⟩, .string ⟨#[]⟩, .string ⟨#[]⟩, .int .i64 0, .string ⟨#[]⟩, .int .i64 0, .slice none 0 0, .slice (some ⟨w2.heap.size, 0, none⟩) 1 1] 30)).heap.size = w2.heap.size + 1 + 1 by simp] at N2
    have NT := Lib.hid (show NewT [k] w2 ((((w2.alloc (.cells #[.int .i64 5, .int .i64 0, .int .i64 0, .string ⟨#[]⟩, .string ⟨#[]⟩, .string ⟨#[]⟩, .int .i64 0, .string ⟨#[]⟩, .int .i64 0, .slice none 0 0, .slice none 0 0] 30)).alloc (.cells #[.int .i64 10, .int .i64 0, .int .i64 0, .string ⟨#[]⟩, .string ⟨#[]⟩, .string ⟨#[]⟩, .int .i64 0, .string ⟨#[]⟩, .int .i64 0, .slice none 0 0, .slice (some ⟨w2.heap.size, 0, none⟩) 1 1] 30)).alloc (.cells #[.int .i64 8, .int .i64 0, .int .i64 0, .string ⟨#[]⟩, .string ⟨#[]⟩, .string ⟨#[]⟩, .int .i64 0, .string ⟨#[]⟩, .int .i64 0, .slice (some ⟨w2.heap.size + 1, 0, none⟩) 1 1, .slice none 0 0] 30)).alloc (.cells #[.int .i64 9, .int .i64 0, .int .i64 0, .string ⟨#[]⟩, .string ⟨#[]⟩, .string ⟨#[]⟩, .int .i64 0, .string ⟨#[]⟩, .int .i64 0, .slice (some ⟨w2.heap.size + 1 + 1, 0, none⟩) 1 1, .slice none 0 0] 30)) (actionF (.mk 9 0 0 ⟨#[]⟩ ⟨⟨#[]⟩, ⟨#[]⟩, 0, ⟨#[]⟩⟩ 0 [(.mk 8 0 0 ⟨#[]⟩ ⟨⟨#[]⟩, ⟨#[]⟩, 0, ⟨#[]⟩⟩ 0 [(.mk 10 0 0 ⟨#[]⟩ ⟨⟨#[]⟩, ⟨#[]⟩, 0, ⟨#[]⟩⟩ 0 [] [(.mk 5 0 0 ⟨#[]⟩ ⟨⟨#[]⟩, ⟨#[]⟩, 0, ⟨#[]⟩⟩ 0 [] [])])] [])] [])) [.int .i64 9, .int .i64 0, .int .i64 0, .string ⟨#[]⟩, .string ⟨#[]⟩, .string ⟨#[]⟩, .int .i64 0, .string ⟨#[]⟩, .int .i64 0, .slice (some ⟨w2.heap.size + 1 + 1, 0, none⟩) 1 1, .slice none 0 0] from ⟨_, act_hasA (N2.keep0 ((Chg.refl _ _).alloc _)), by simp; omega, Chg.now⟩)
    have NW := (Box.new (((w2.alloc (.cells #[.int .i64 5, .int .i64 0, .int .i64 0, .string ⟨#[]⟩, .string ⟨#[]⟩, .string ⟨#[]⟩, .int .i64 0, .string ⟨#[]⟩, .int .i64 0, .slice none 0 0, .slice none 0 0] 30)).alloc (.cells #[.int .i64 10, .int .i64 0, .int .i64 0, .string ⟨#[]⟩, .string ⟨#[]⟩, .string ⟨#[]⟩, .int .i64 0, .string ⟨#[]⟩, .int .i64 0, .slice none 0 0, .slice (some ⟨w2.heap.size, 0, none⟩) 1 1] 30)).alloc (.cells #[.int .i64 8, .int .i64 0, .int .i64 0, .string ⟨#[]⟩, .string ⟨#[]⟩, .string ⟨#[]⟩, .int .i64 0, .string ⟨#[]⟩, .int .i64 0, .slice (some ⟨w2.heap.size + 1, 0, none⟩) 1 1, .slice none 0 0] 30)) #[.int .i64 9, .int .i64 0, .int .i64 0, .string ⟨#[]⟩, .string ⟨#[]⟩, .string ⟨#[]⟩, .int .i64 0, .string ⟨#[]⟩, .int .i64 0, .slice (some ⟨w2.heap.size + 1 + 1, 0, none⟩) 1 1, .slice none 0 0] 30).c
    rw [show (((w2.alloc (.cells #[.int .i64 5, .int .i64 0, .int .i64 0, .string ⟨#[]⟩, .string ⟨#[]⟩, .string ⟨#[]⟩, .int .i64 0, .string ⟨#[]⟩, .int .i64 0, .slice none 0 0, .slice none 0 0] 30)).alloc (.cells #[.int .i64 10, .int .i64 0, .int .i64 0, .string ⟨#[]⟩, .string ⟨#[]⟩, .string ⟨#[]⟩, .int .i64 0, .string ⟨#[]⟩, .int .i64 0, .slice none 0 0, .slice (some ⟨w2.heap.size, 0, none⟩) 1 1] 30)).alloc (.cells #[.int .i64 8, .int .i64 0, .int .i64 0, .string ⟨#[]⟩, .string ⟨#[]⟩, .string ⟨#[]⟩, .int .i64 0, .string ⟨#[]⟩, .int .i64 0, .slice (some ⟨w2.heap.size + 1, 0, none⟩) 1 1, .slice none 0 0] 30)).heap.size = w2.heap.size + 1 + 1 + 1 by simp] at NW
    have NW := Lib.hid NW
    have HONE := Lib.hid (show ∀ u ∈ ([.int .i64 9, .int .i64 0, .int .i64 0, .string ⟨#[]⟩, .string ⟨#[]⟩, .string ⟨#[]⟩, .int .i64 0, .string ⟨#[]⟩, .int .i64 0, .slice (some ⟨w2.heap.size + 1 + 1, 0, none⟩) 1 1, .slice none 0 0] : List Value), u.oneCell' = true from fun u hu => act_ones u hu)
    clear N0 N1 N2
    go_wp2_with (at_builtin; refine wpList_appT (T := [k]) rfl (.tmp 58) (.tmp 66) _ rfl 30 _ 11 152 Try.underlying24 action_info rfl (by omega) HA2.out hT.out NT.out rfl (w2.heap.size + 1 + 1 + 1) 1 1 rfl rfl NW.out HONE.out (by omega) (by omega) ?_; intro A6 cap6 w6 hA6 hM6)
    go_ret
    exact ⟨l ++ [(.mk 9 0 0 ⟨#[]⟩ ⟨⟨#[]⟩, ⟨#[]⟩, 0, ⟨#[]⟩⟩ 0 [(.mk 8 0 0 ⟨#[]⟩ ⟨⟨#[]⟩, ⟨#[]⟩, 0, ⟨#[]⟩⟩ 0 [(.mk 10 0 0 ⟨#[]⟩ ⟨⟨#[]⟩, ⟨#[]⟩, 0, ⟨#[]⟩⟩ 0 [] [(.mk 5 0 0 ⟨#[]⟩ ⟨⟨#[]⟩, ⟨#[]⟩, 0, ⟨#[]⟩⟩ 0 [] [])])] [])] [])], A6, cap6, by simp, by have := hA6.new; unfold actions; rw [List.flatMap_append, List.length_append]; simpa using this, by rw [actionsW_app]; have h : actionsW [(.mk 9 0 0 ⟨#[]⟩ ⟨⟨#[]⟩, ⟨#[]⟩, 0, ⟨#[]⟩⟩ 0 [(.mk 8 0 0 ⟨#[]⟩ ⟨⟨#[]⟩, ⟨#[]⟩, 0, ⟨#[]⟩⟩ 0 [(.mk 10 0 0 ⟨#[]⟩ ⟨⟨#[]⟩, ⟨#[]⟩, 0, ⟨#[]⟩⟩ 0 [] [(.mk 5 0 0 ⟨#[]⟩ ⟨⟨#[]⟩, ⟨#[]⟩, 0, ⟨#[]⟩⟩ 0 [] [])])] [])] [])] ≤ 100 := (by decide); omega, (q2.keep0 Chg.now).mid hM6 hk⟩
  · go_wp2_with fail
    refine (AC.out _ q2).mono ?_
    rintro e w3 ⟨m, y, v, t, rfl, zm, zy, zt, q3, c3⟩
    go_wp2_with fail
    refine (AF.out _ q3).mono ?_
    rintro e w4 ⟨fc, rfl, _, q4, c4⟩
    have HA4 := Lib.hid ((HA2.out.later c3 hT.out).later c4 hT.out)
    have NT := Lib.hid (show NewT [k] w4 (w4.alloc (.cells #[.int .i64 7, .int .i64 0, .int .i64 0, .string ⟨#[]⟩, .string m, .string y, .int .i64 v, .string t, .int .i64 0, .slice none 0 0, .slice none 0 0, .int .i64 6, .int .i64 0, .int .i64 0, .string ⟨#[]⟩, .string ⟨#[]⟩, .string ⟨#[]⟩, .int .i64 0, .string ⟨#[]⟩, .int .i64 fc, .slice none 0 0, .slice none 0 0] 30)) (actionF (.mk 7 0 0 ⟨#[]⟩ ⟨m, y, v, t⟩ 0 [] []) ++ actionF (.mk 6 0 0 ⟨#[]⟩ ⟨⟨#[]⟩, ⟨#[]⟩, 0, ⟨#[]⟩⟩ fc [] [])) ([.int .i64 7, .int .i64 0, .int .i64 0, .string ⟨#[]⟩, .string m, .string y, .int .i64 v, .string t, .int .i64 0, .slice none 0 0, .slice none 0 0] ++ [.int .i64 6, .int .i64 0, .int .i64 0, .string ⟨#[]⟩, .string ⟨#[]⟩, .string ⟨#[]⟩, .int .i64 0, .string ⟨#[]⟩, .int .i64 fc, .slice none 0 0, .slice none 0 0]) from ⟨[] ++ [], HasL.append (flat_has _ _ _ _ _ _ _ _ _ _) (flat_has _ _ _ _ _ _ _ _ _ _) (by simp), by simp, (Chg.refl _ _).alloc _⟩)
    have NW := Lib.hid ((Box.new w4 #[.int .i64 7, .int .i64 0, .int .i64 0, .string ⟨#[]⟩, .string m, .string y, .int .i64 v, .string t, .int .i64 0, .slice none 0 0, .slice none 0 0, .int .i64 6, .int .i64 0, .int .i64 0, .string ⟨#[]⟩, .string ⟨#[]⟩, .string ⟨#[]⟩, .int .i64 0, .string ⟨#[]⟩, .int .i64 fc, .slice none 0 0, .slice none 0 0] 30).c)
    have HONE := Lib.hid (show ∀ u ∈ ([.int .i64 7, .int .i64 0, .int .i64 0, .string ⟨#[]⟩, .string m, .string y, .int .i64 v, .string t, .int .i64 0, .slice none 0 0, .slice none 0 0] ++ [.int .i64 6, .int .i64 0, .int .i64 0, .string ⟨#[]⟩, .string ⟨#[]⟩, .string ⟨#[]⟩, .int .i64 0, .string ⟨#[]⟩, .int .i64 fc, .slice none 0 0, .slice none 0 0] : List Value), u.oneCell' = true from fun u hu => (List.mem_append.1 hu).elim (act_ones u) (act_ones u))
    clear c3 c4 HA2 q2 q3
    go_wp2_with (at_builtin; refine wpList_appT (T := [k]) rfl (.tmp 70) (.tmp 77) _ rfl 30 _ 11 152 Try.underlying24 action_info rfl (by omega) HA4.out hT.out NT.out rfl w4.heap.size 2 2 rfl rfl NW.out HONE.out (by omega) (by omega) ?_; intro A6 cap6 w6 hA6 hM6)
    go_ret
    exact ⟨l ++ [(.mk 7 0 0 ⟨#[]⟩ ⟨m, y, v, t⟩ 0 [] []), (.mk 6 0 0 ⟨#[]⟩ ⟨⟨#[]⟩, ⟨#[]⟩, 0, ⟨#[]⟩⟩ fc [] [])], A6, cap6, by simp, by have := hA6.new; unfold actions; rw [List.flatMap_append, List.length_append]; simpa using this, by rw [actionsW_app]; have := two_W m y v t fc zm zy zt; omega, (q4.keep0 ((Chg.refl _ _).alloc _)).mid hM6 hk⟩
  · have n0 : (r == 0) = false := by rw [beq_eq_false_iff_ne]; omega
    have n1 : (r == 1) = false := by rw [beq_eq_false_iff_ne]; omega
    have n2 : (r == 2) = false := by rw [beq_eq_false_iff_ne]; omega
    have n3 : (r == 3) = false := by rw [beq_eq_false_iff_ne]; omega
    have n4 : (r == 4) = false := by rw [beq_eq_false_iff_ne]; omega
    have n5 : (r == 5) = false := by rw [beq_eq_false_iff_ne]; omega
    go_wp2_with fail
    go_ret
    exact ⟨l, A, cap, rfl, HA2.out.new, by omega, q2⟩
end Go.Proofs.Ytkgffhlpcjjobaa
