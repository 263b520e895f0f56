/- Plans, drawn: l8Draw and l8Plain of the reference. Conditions: none. Written by a program. / Actions, drawn, that may be no plan: l3AnyCall, l8Any, DrawActionAt of the reference. Conditions: for DrawActionAt, at most 4096 bytes. Written by a program. -/
import Derived.Test.YtkgffhlpcjjobaaGreatDoorList
import Derived.Test.YtkgffhlpcjjobaaGreatDoorIsActs
import Derived.Test.YtkgffhlpcjjobaaGreatDoorApps
import Derived.Test.YtkgffhlpcjjobaaGreatDoorCurs
namespace Go.Proofs.YtkgffhlpcjjobaaGreatDoor
open Go.RowKit

/-- A plan, drawn. -/
def DrPlan (k N : Nat) (pl : Bool) (w : World) (e : Ending) (w' : World) : Prop := ∃ (l : List ActionT) (A : Option Addr) (cap : Nat), e = .returned (.slice A l.length cap) ∧ AppT [k] w w' 38 11 (.slice A l.length cap) l.length (l.flatMap actionF) ∧ PlanOk l ∧ actionsW l ≤ N ∧ (pl = true → noL 10 3 l) ∧ Cur w' k
theorem PlanOk.len {l : List ActionT} (h : PlanOk l) : l.length ≤ 14 := by
  have key : ∀ l : List ActionT, l.length ≤ sizeL l := fun l => by
    induction l with
    | nil => simp
    | cons a l ih => rw [sizeL, List.length_cons]; have := a.size_eq; omega
  exact Nat.le_trans (key l) h.1
theorem planOk_nil : PlanOk [] := ⟨by simp [sizeL], by simp [depthL], by simp [okL]⟩
theorem AppT.row {T : List Nat} {w0 w : World} {e : TypeId} {A : Option Addr} {n cap c : Nat} {cs : List Dat} (h : AppT T w0 w e c (.slice A n cap) n cs) : n ≤ cap ∧ cap ≤ maxLen ∧ (0 < n → ∃ g, A = some ⟨g, 0, none⟩ ∧ w0.heap.size ≤ g) := by
  obtain ⟨xs, S', h1, _⟩ := h
  rcases h1.2 with ⟨e, rfl⟩ | ⟨g, cap', cur, e, h2, _, h3, h4, _⟩
  · simp only [Value.slice.injEq] at e
    exact ⟨by omega, by unfold maxLen; omega, fun h => by omega⟩
  · simp only [Value.slice.injEq, true_and] at e
    obtain ⟨rfl, rfl⟩ := e
    exact ⟨h3, h4, fun _ => ⟨g, rfl, h2⟩⟩
theorem noL_take {p q : Int} {l : List ActionT} (n : Nat) (h : noL p q l) : noL p q (l.take n) := by
  rw [noL_iff] at h ⊢
  exact fun a ha => h a (List.mem_of_mem_take ha)
theorem actionsW_take (l : List ActionT) (n : Nat) : actionsW (l.take n) ≤ actionsW l := by
  have h := actionsW_app (l.take n) (l.drop n)
  rw [List.take_append_drop] at h
  omega
set_option maxRecDepth 100000 in
set_option maxHeartbeats 16000000 in
theorem l8Draw_any (k : Nat) (w : World) (hcur : Cur w k) :
    Calls Tryz.prog 38 #[.pointer (some ⟨k, 0, none⟩)] w (DrPlan k 26000 false w) := by
  have hk := hcur.lt
  have ON := Lib.hid (fun n W (hc : Cur W k) => l1Once_any k n W hc)
  have LS : Hid (∀ W, Cur W k → Calls Tryz.prog 55 #[.pointer (some ⟨k, 0, none⟩), .int .i64 6, .int .i64 2, .bool false] W (DrActs k 25200 6 false W)) := Lib.hid (fun W hc => l8List_any k false 2 6 W hc (by omega) (by omega) (by omega))
  have hT : Hid (∀ x ∈ [k], x < w.heap.size) := Lib.hid (by simpa using hk)
  go_enter Tryz.func38, Tryz.ntmps38
  go_wp2_with fail
  refine calls_name fun x0 hx0 => ?_
  have hA0 := Lib.hid (show AppT [k] w x0 38 11 (.slice (some ⟨w.heap.size, 0, none⟩) 0 0) 0 [] by rw [hx0]; exact AppT.empty w _ _ (Chg.refl _ _))
  have q0 := hcur.keep0 (show Chg [] w x0 by rw [hx0]; exact Chg.now)
  clear hx0
  refine (ON.out 3 _ q0).mono ?_
  rintro e w1 ⟨ok, rfl, q1, c1⟩
  have hA1 := Lib.hid (hA0.out.later c1 hT.out)
  have k1 := q1.lt
  clear c1 hA0 q0
  cases ok
  · go_wp2_with fail
    refine (LS.out _ q1).mono ?_
    rintro e w5 ⟨m, Am, cm, rfl, hm, hm1, hm6, hWm, _, q5⟩
    obtain ⟨gm, rfl, _⟩ := hm.row.2.2 (by omega)
    obtain ⟨us, nt, ul, un⟩ := hm.new.elems
    have HU := Lib.hid un
    have NT := Lib.hid nt
    have HL := Lib.hid (show us.length = m.length * 11 by rw [ul, flatMap_length_of actionF_len])
    have HO := Lib.hid (acts_ones nt)
    have r5 := hm.row.1
    have r6 := hm.row.2.1
    unfold maxLen at r6
    clear hm ul un nt
    go_wp2_with (at_builtin; refine wpList_appT (T := [k]) rfl (.tmp 12) (.tmp 14) _ rfl 38 _ 11 152 Tryz.underlying24 action_info rfl (by omega) hA1.out hT.out NT.out rfl gm m.length cm rfl HL.out HU.out HO.out (by omega) (by omega) ?_; intro A6 cap6 w6 hA6 hM6)
    simp only [Nat.zero_add, List.nil_append] at hA6 ⊢
    have q6 := q5.mid hM6 hk
    have HA6 := Lib.hid hA6
    clear NT HL HU HO hA6 hM6 r5 r6 q5 hA1 q1
    go_loopw [3] (fun v wr => ∃ (l : List ActionT) (A : Option Addr) (cap : Nat), v = .slice A l.length cap ∧ Hid (AppT [k] w wr 38 11 (.slice A l.length cap) l.length (l.flatMap actionF)) ∧ Hid (actionsW l ≤ 26000) ∧ Hid (false = true → noL 10 3 l) ∧ l.length ≤ 100 ∧ Cur wr k) (fun v _ => match v with | .slice _ n _ => n | _ => 0)
    case atStart => exact ⟨m, A6, cap6, rfl, HA6, Lib.hid (by omega), Lib.hid (by simp), by omega, q6⟩
    case round =>
      obtain ⟨l, A, cap, rfl, hA, hW, hP, hl, hq⟩ := hrel
      have IP := Lib.hid (isPlan_spec_law l _ _ wr (Nat.le_trans hW.out (by decide)) hA.out.new.rd (Nat.le_refl _))
      obtain ⟨r0, r1, r2⟩ := hA.out.row
      unfold maxLen at r1
      go_wp2_with fail
      refine IP.out.mono ?_
      rintro e w9 ⟨t, rfl, ht, c9⟩
      have hA9 := Lib.hid (hA.out.later (c9.mono (by simp)) hT.out)
      have q9 := hq.keep0 c9
      have HT := Lib.hid ht
      clear IP hA hq c9 ht
      cases t
      · have hnp : ¬ PlanOk l := fun h => by have := HT.out.2 h; cases this
        cases hl2 : l with
        | nil => exact absurd (hl2 ▸ planOk_nil) hnp
        | cons a l2 =>
          obtain ⟨g, rfl, hg⟩ := r2 (by rw [hl2]; simp)
          have hlen : l.length = l2.length + 1 := by rw [hl2]; rfl
          have wl : IntKind.i64.wrap (((l2.length + 1 : Nat) : Int) - 1) = (l2.length : Int) := by rw [wr_id (by omega) (by omega)]; omega
          have hsh := Lib.hid (hA9.out.shrink (m := l2.length) (by omega))
          rw [flatMap_take actionF_len] at hsh
          have htl : Hid ((l.take l2.length).length = l2.length) := Lib.hid (by rw [List.length_take, hlen]; omega)
          have HN := Lib.hid hlen
          clear HT hnp r2
          subst hl2
          rw [List.length_cons] at r0 hl
          go_wp2_with fail
          go_roundw
          case rel => exact ⟨(a :: l2).take l2.length, _, cap, by rw [htl.out], by rw [htl.out]; exact hsh, Lib.hid (Nat.le_trans (actionsW_take _ _) hW.out), Lib.hid (fun h => noL_take _ (hP.out h)), by rw [htl.out]; omega, q9⟩
          case measure => simp
      · go_wp2_with fail
        go_ret
        exact ⟨l, A, cap, rfl, hA9.out, (by have := HT.out; simpa using this), hW.out, hP.out, q9⟩
  · have NT := Lib.hid (show NewT [k] w1 (w1.alloc (.cells #[.int .i64 1, .int .i64 0, .int .i64 0, .string ⟨#[114, 111, 98, 111, 116]⟩, .string ⟨#[]⟩, .string ⟨#[]⟩, .int .i64 0, .string ⟨#[]⟩, .int .i64 0, .slice none 0 0, .slice none 0 0, .int .i64 1, .int .i64 1, .int .i64 0, .string ⟨#[100, 114, 97, 119, 101, 114]⟩, .string ⟨#[]⟩, .string ⟨#[]⟩, .int .i64 0, .string ⟨#[]⟩, .int .i64 0, .slice none 0 0, .slice none 0 0] 38)) (actionF (.mk 1 0 0 ⟨#[114, 111, 98, 111, 116]⟩ ⟨⟨#[]⟩, ⟨#[]⟩, 0, ⟨#[]⟩⟩ 0 [] []) ++ actionF (.mk 1 1 0 ⟨#[100, 114, 97, 119, 101, 114]⟩ ⟨⟨#[]⟩, ⟨#[]⟩, 0, ⟨#[]⟩⟩ 0 [] [])) ([.int .i64 1, .int .i64 0, .int .i64 0, .string ⟨#[114, 111, 98, 111, 116]⟩, .string ⟨#[]⟩, .string ⟨#[]⟩, .int .i64 0, .string ⟨#[]⟩, .int .i64 0, .slice none 0 0, .slice none 0 0] ++ [.int .i64 1, .int .i64 1, .int .i64 0, .string ⟨#[100, 114, 97, 119, 101, 114]⟩, .string ⟨#[]⟩, .string ⟨#[]⟩, .int .i64 0, .string ⟨#[]⟩, .int .i64 0, .slice none 0 0, .slice none 0 0]) from ⟨[] ++ [], HasL.append (flat_has _ _ _ _ _ _ _ _ _ _) (flat_has _ _ _ _ _ _ _ _ _ _) (by simp), by simp, (Chg.refl _ _).alloc _⟩)
    have NW := Lib.hid ((Box.new w1 #[.int .i64 1, .int .i64 0, .int .i64 0, .string ⟨#[114, 111, 98, 111, 116]⟩, .string ⟨#[]⟩, .string ⟨#[]⟩, .int .i64 0, .string ⟨#[]⟩, .int .i64 0, .slice none 0 0, .slice none 0 0, .int .i64 1, .int .i64 1, .int .i64 0, .string ⟨#[100, 114, 97, 119, 101, 114]⟩, .string ⟨#[]⟩, .string ⟨#[]⟩, .int .i64 0, .string ⟨#[]⟩, .int .i64 0, .slice none 0 0, .slice none 0 0] 38).c)
    have HONE := Lib.hid (show ∀ u ∈ ([.int .i64 1, .int .i64 0, .int .i64 0, .string ⟨#[114, 111, 98, 111, 116]⟩, .string ⟨#[]⟩, .string ⟨#[]⟩, .int .i64 0, .string ⟨#[]⟩, .int .i64 0, .slice none 0 0, .slice none 0 0] ++ [.int .i64 1, .int .i64 1, .int .i64 0, .string ⟨#[100, 114, 97, 119, 101, 114]⟩, .string ⟨#[]⟩, .string ⟨#[]⟩, .int .i64 0, .string ⟨#[]⟩, .int .i64 0, .slice none 0 0, .slice none 0 0] : List Value), u.oneCell' = true from fun u hu => (List.mem_append.1 hu).elim (act_ones u) (act_ones u))
    go_wp2_with (at_builtin; refine wpList_appT (T := [k]) rfl (.tmp 7) (.tmp 10) _ rfl 38 _ 11 152 Tryz.underlying24 action_info rfl (by omega) hA1.out hT.out NT.out rfl w1.heap.size 2 2 rfl rfl NW.out HONE.out (by omega) (by omega) ?_; intro A2 cap2 w2 hA2 hM2; simp only [Nat.zero_add, List.nil_append] at hA2 ⊢)
    have q2 := (q1.keep0 ((Chg.refl _ _).alloc _)).mid hM2 hk
    have HA2 := Lib.hid hA2
    clear NT NW HONE hA2 hM2 hA1 q1
    refine (LS.out _ q2).mono ?_
    rintro e w5 ⟨m, Am, cm, rfl, hm, hm1, hm6, hWm, _, q5⟩
    obtain ⟨gm, rfl, _⟩ := hm.row.2.2 (by omega)
    obtain ⟨us, nt, ul, un⟩ := hm.new.elems
    have HU := Lib.hid un
    have NT := Lib.hid nt
    have HL := Lib.hid (show us.length = m.length * 11 by rw [ul, flatMap_length_of actionF_len])
    have HO := Lib.hid (acts_ones nt)
    have r5 := hm.row.1
    have r6 := hm.row.2.1
    unfold maxLen at r6
    clear hm ul un nt
    go_wp2_with (at_builtin; refine wpList_appT (T := [k]) rfl (.tmp 12) (.tmp 14) _ rfl 38 _ 11 152 Tryz.underlying24 action_info rfl (by omega) HA2.out hT.out NT.out rfl gm m.length cm rfl HL.out HU.out HO.out (by omega) (by omega) ?_; intro A6 cap6 w6 hA6 hM6)
    have q6 := q5.mid hM6 hk
    have HA6 := Lib.hid hA6
    clear NT HL HU HO hA6 hM6 r5 r6 q5 HA2 q2
    go_loopw [3] (fun v wr => ∃ (l : List ActionT) (A : Option Addr) (cap : Nat), v = .slice A l.length cap ∧ Hid (AppT [k] w wr 38 11 (.slice A l.length cap) l.length (l.flatMap actionF)) ∧ Hid (actionsW l ≤ 26000) ∧ Hid (false = true → noL 10 3 l) ∧ l.length ≤ 100 ∧ Cur wr k) (fun v _ => match v with | .slice _ n _ => n | _ => 0)
    case atStart => exact ⟨[(.mk 1 0 0 ⟨#[114, 111, 98, 111, 116]⟩ ⟨⟨#[]⟩, ⟨#[]⟩, 0, ⟨#[]⟩⟩ 0 [] []), (.mk 1 1 0 ⟨#[100, 114, 97, 119, 101, 114]⟩ ⟨⟨#[]⟩, ⟨#[]⟩, 0, ⟨#[]⟩⟩ 0 [] [])] ++ m, A6, cap6, by rw [List.length_append]; rfl, Lib.hid (by have := HA6.out; rw [List.flatMap_append, List.length_append]; exact this), Lib.hid (by rw [actionsW_app]; have h13 : actionsW [(.mk 1 0 0 ⟨#[114, 111, 98, 111, 116]⟩ ⟨⟨#[]⟩, ⟨#[]⟩, 0, ⟨#[]⟩⟩ 0 [] []), (.mk 1 1 0 ⟨#[100, 114, 97, 119, 101, 114]⟩ ⟨⟨#[]⟩, ⟨#[]⟩, 0, ⟨#[]⟩⟩ 0 [] [])] ≤ 100 := (by decide); omega), Lib.hid (by simp), by simp; omega, q6⟩
    case round =>
      obtain ⟨l, A, cap, rfl, hA, hW, hP, hl, hq⟩ := hrel
      have IP := Lib.hid (isPlan_spec_law l _ _ wr (Nat.le_trans hW.out (by decide)) hA.out.new.rd (Nat.le_refl _))
      obtain ⟨r0, r1, r2⟩ := hA.out.row
      unfold maxLen at r1
      go_wp2_with fail
      refine IP.out.mono ?_
      rintro e w9 ⟨t, rfl, ht, c9⟩
      have hA9 := Lib.hid (hA.out.later (c9.mono (by simp)) hT.out)
      have q9 := hq.keep0 c9
      have HT := Lib.hid ht
      clear IP hA hq c9 ht
      cases t
      · have hnp : ¬ PlanOk l := fun h => by have := HT.out.2 h; cases this
        cases hl2 : l with
        | nil => exact absurd (hl2 ▸ planOk_nil) hnp
        | cons a l2 =>
          obtain ⟨g, rfl, hg⟩ := r2 (by rw [hl2]; simp)
          have hlen : l.length = l2.length + 1 := by rw [hl2]; rfl
          have wl : IntKind.i64.wrap (((l2.length + 1 : Nat) : Int) - 1) = (l2.length : Int) := by rw [wr_id (by omega) (by omega)]; omega
          have hsh := Lib.hid (hA9.out.shrink (m := l2.length) (by omega))
          rw [flatMap_take actionF_len] at hsh
          have htl : Hid ((l.take l2.length).length = l2.length) := Lib.hid (by rw [List.length_take, hlen]; omega)
          have HN := Lib.hid hlen
          clear HT hnp r2
          subst hl2
          rw [List.length_cons] at r0 hl
          go_wp2_with fail
          go_roundw
          case rel => exact ⟨(a :: l2).take l2.length, _, cap, by rw [htl.out], by rw [htl.out]; exact hsh, Lib.hid (Nat.le_trans (actionsW_take _ _) hW.out), Lib.hid (fun h => noL_take _ (hP.out h)), by rw [htl.out]; omega, q9⟩
          case measure => simp
      · go_wp2_with fail
        go_ret
        exact ⟨l, A, cap, rfl, hA9.out, (by have := HT.out; simpa using this), hW.out, hP.out, q9⟩
end Go.Proofs.YtkgffhlpcjjobaaGreatDoor
namespace Go.Proofs.YtkgffhlpcjjobaaGreatDoor
open Go.RowKit

/-- A list of one action, of its own. -/
theorem one_has {w : World} {g : Nat} {a : ActionT} {us : List Value} {S : List Nat} {e : TypeId} (h : HasL w (actionF a) us S) (hg : w.heap[g]? = some (.cells us.toArray e (0, 0))) (hn : g ∉ S) : Has w (actions [a]) (.slice (some ⟨g, 0, none⟩) 1 1) (g :: S) := by
  have hl := OwnL.length _ _ _ h.1
  refine ⟨?_, List.nodup_cons.2 ⟨hn, h.2⟩⟩
  unfold actions
  rw [Own]
  refine .inr ⟨g, 1, us.toArray, e, us, S, rfl, Nat.le_refl _, by unfold maxLen; omega, hg, ?_, ?_, ?_, rfl⟩
  · simp only [List.flatMap_cons, List.flatMap_nil, List.append_nil]
    rw [← hl]; simp
  · simp [hl]
  · simpa using h.1
/-- Actions, drawn. -/
def DrAny (k N : Nat) (w : World) (e : Ending) (w' : World) : Prop := ∃ (l : List ActionT) (A : Option Addr) (cap : Nat), e = .returned (.slice A l.length cap) ∧ NewS [k] w w' (actions l) (.slice A l.length cap) ∧ actionsW l ≤ N ∧ Cur w' k
theorem heap_new (w : World) (cs : Array Value) (t : TypeId) : (w.alloc (.cells cs t)).heap[w.heap.size]? = some (.cells cs t (0, 0)) := by show (w.heap.push _)[_]? = _; rw [Array.getElem?_push]; simp
theorem flatMap_set {α : Type} {F : α → List Dat} {c f : Nat} (hF : ∀ a, (F a).length = c) (hf : f < c) (d : Dat) (a' : α) : ∀ (l : List α) (i : Nat) (hi : i < l.length), (F l[i]).set f d = F a' → (l.flatMap F).set (i * c + f) d = (l.set i a').flatMap F
  | a :: l, 0, _, h => by
    rw [List.flatMap_cons, Nat.zero_mul, Nat.zero_add, List.set_append_left _ _ (by rw [hF]; exact hf), List.set_cons_zero, List.flatMap_cons]
    congr 1
  | a :: l, i + 1, hi, h => by
    have e : (i + 1) * c + f = c + (i * c + f) := by rw [Nat.add_mul]; omega
    rw [List.flatMap_cons, e, List.set_append_right _ _ (by rw [hF]; omega), hF, Nat.add_sub_cancel_left, List.set_cons_succ, List.flatMap_cons, flatMap_set hF hf d a' l i (by simpa using hi) (by simpa using h)]
theorem flatMap_getAt {α : Type} {F : α → List Dat} {c f : Nat} (hF : ∀ a, (F a).length = c) (hf : f < c) : ∀ (l : List α) (i : Nat) (hi : i < l.length), (l.flatMap F)[i * c + f]? = (F l[i])[f]?
  | a :: l, 0, _ => by
    rw [List.flatMap_cons, Nat.zero_mul, Nat.zero_add, List.getElem?_append_left (by rw [hF]; exact hf)]
    rfl
  | a :: l, i + 1, hi => by
    have e : (i + 1) * c + f = c + (i * c + f) := by rw [Nat.add_mul]; omega
    rw [List.flatMap_cons, e, List.getElem?_append_right (by rw [hF]; omega), hF, Nat.add_sub_cancel_left, flatMap_getAt hF hf l i (by simpa using hi)]
    rfl
theorem actionsW_set (a' : ActionT) : ∀ (l : List ActionT) (i : Nat) (hi : i < l.length), actionsW (l.set i a') + actionW l[i] = actionsW l + actionW a'
  | a :: l, 0, _ => by
    have h1 := actionsW_app [a] l
    have h2 := actionsW_app [a'] l
    rw [actionsW_one] at h1 h2
    simp only [List.cons_append, List.nil_append] at h1 h2
    rw [List.set_cons_zero, h1, h2]
    show _ + actionW a = _
    omega
  | a :: l, i + 1, hi => by
    have ih := actionsW_set a' l i (by simpa using hi)
    have h1 := actionsW_app [a] l
    have h2 := actionsW_app [a] (l.set i a')
    rw [actionsW_one] at h1 h2
    simp only [List.cons_append, List.nil_append] at h1 h2
    rw [List.set_cons_succ, h1, h2]
    show _ + actionW (l[i]'(by simpa using hi)) = _
    omega
theorem two_W (m y : ByteArray) (v : Int) (t : ByteArray) (fc : Int) (zm : m.size ≤ 16) (zy : y.size ≤ 16) (zt : t.size ≤ 100) : actionsW [(.mk 7 0 0 ⟨#[]⟩ ⟨m, y, v, t⟩ 0 [] []), (.mk 6 0 0 ⟨#[]⟩ ⟨⟨#[]⟩, ⟨#[]⟩, 0, ⟨#[]⟩⟩ fc [] [])] ≤ 200 := by
  have h := actionsW_app [(.mk 7 0 0 ⟨#[]⟩ ⟨m, y, v, t⟩ 0 [] [])] [(.mk 6 0 0 ⟨#[]⟩ ⟨⟨#[]⟩, ⟨#[]⟩, 0, ⟨#[]⟩⟩ fc [] [])]
  rw [actionsW_one, actionsW_one, flat_W, flat_W, callW_mk, callW_mk] at h
  have e : (⟨#[]⟩ : ByteArray).size = 0 := rfl
  simp only [List.cons_append, List.nil_append] at h
  rw [h]
  omega
/-- A call's box, as far as it has come. -/
def CallAt (k : Nat) (w x : World) (b : Nat) : Prop := ∃ (m y : ByteArray) (v : Int) (t : ByteArray), Box x b [.string m, .string y, .int .i64 v, .string t] ∧ Box x w.heap.size [.string ⟨#[]⟩, .string ⟨#[]⟩, .int .i64 0, .string ⟨#[]⟩] ∧ m.size ≤ 16 ∧ y.size ≤ 16 ∧ t.size ≤ 100 ∧ Cur x k ∧ Chg [k] w x
set_option maxRecDepth 100000 in
set_option maxHeartbeats 16000000 in
theorem l3AnyCall_any (k : Nat) (w : World) (hcur : Cur w k) :
    Calls Tryz.prog 58 #[.pointer (some ⟨k, 0, none⟩)] w (DrCall k w) := by
  have hk := hcur.lt
  have BL := Lib.hid (fun n W (hc : Cur W k) => l1Below_any k n W hc)
  have CL := Lib.hid (fun W (hc : Cur W k) => l3Call_any k W hc)
  have ME := Lib.hid (fun W (hc : Cur W k) => l2Method_any k W hc)
  have WO := Lib.hid (fun W (hc : Cur W k) => l1Word_any k W hc)
  have OD := Lib.hid (fun W (hc : Cur W k) => l1Odd_any k W hc)
  have LS := Lib.hid (fun L g cap W hc h0 h1 hg hl hx => l1Str_any k L g cap W hc h0 h1 hg hl hx)
  have HA := Lib.hid (show ∀ x ∈ ([⟨#[45]⟩, ⟨#[97, 61, 49]⟩, ⟨#[120]⟩] : List ByteArray), x.size ≤ 100 from by decide)
  go_enter Tryz.func58, Tryz.ntmps58
  go_wp2_with fail
  refine calls_name fun x0 hx0 => ?_
  have c0 : Chg [k] w x0 := by rw [hx0]; exact Chg.now
  have Z0 := Lib.hid (show Box x0 w.heap.size [.string ⟨#[]⟩, .string ⟨#[]⟩, .int .i64 0, .string ⟨#[]⟩] by rw [hx0]; exact Box.new w _ _)
  have Q0 := hcur.keep (S := []) (show Chg [] w x0 by rw [hx0]; exact Chg.now) (by simp)
  clear hx0
  refine (CL.out _ Q0).mono ?_
  rintro e w1 ⟨m, y, v, t, rfl, zm, zy, zt, q1, c1⟩
  have t1 : w.heap.size < w1.heap.size := by have := Z0.out.lt; have := c1.size; omega
  have Z1 := Lib.hid (Z0.out.keep c1 (by simp; omega))
  have d1 := Lib.hid (c0.trans c1 (fun x hx => .inl hx))
  clear c0 c1 Z0 Q0 hcur
  go_wp2_with fail
  refine calls_name fun x1 hx1 => ?_
  have B1 : Box x1 w1.heap.size [.string m, .string y, .int .i64 v, .string t] := by rw [hx1]; exact Box.new _ _ _
  have e1 : Chg [] w1 x1 := by rw [hx1]; exact Chg.now
  clear hx1
  refine (BL.out 18 _ (q1.keep0 e1)).mono ?_
  rintro e w2 ⟨r, rfl, ⟨r0, r12⟩, q2, c2⟩
  have u2 : w1.heap.size < w2.heap.size := Nat.lt_of_lt_of_le B1.lt c2.size
  have t2 : w.heap.size < w2.heap.size := by omega
  have B2 := Lib.hid (B1.keep c2 (by simp; omega))
  have Z2 := Lib.hid ((Z1.out.keep e1).keep c2 (by simp; omega))
  have d2 := Lib.hid ((d1.out.trans (e1.mono (T := [k]) (by simp)) (fun x hx => .inl hx)).trans c2 (fun x hx => .inl hx))
  have k2 := q2.lt
  clear e1 c2 B1 Z1 d1 q1 r12
  rcases (show r = 0 ∨ r = 1 ∨ r = 2 ∨ r = 3 ∨ (4 ≤ r) by omega) with rfl | rfl | rfl | rfl | h
  case' inl =>
    go_wp2_with fail
    refine calls_name fun x2 hx2 => ?_
    have ee : Chg [] w2 x2 := by rw [hx2]; exact Chg.now
    clear hx2
    refine (ME.out _ (q2.keep0 ee)).mono ?_
    rintro e w3 ⟨s, rfl, hs, q3, c3⟩
    have B3 := Lib.hid ((B2.out.keep ee).keep c3 (by simp; omega))
    have Z3 := Lib.hid ((Z2.out.keep ee).keep c3 (by simp; omega))
    have d3 := Lib.hid ((d2.out.trans0 ee).trans c3 (fun x hx => .inl hx))
    have u3 := B3.out.lt
    have t3 := Z3.out.lt
    clear ee c3 B2 Z2 d2 q2
    obtain ⟨b0, b1, b2, b3⟩ := B3.out.o4
    have bf := B3.out.f
    go_upto_region 11 with fail
    refine wp_called ?_
    intro x hx
    have K : CallAt k w x w1.heap.size := by rw [hx]; exact ⟨_, _, _, _, B3.out.set 0 _, Z3.out.far _ (by omega), hs, zy, zt, q3.keep (S := [w1.heap.size]) Chg.now (by simp; omega), Chg.to d3.out⟩
    clear b0 b1 b2 b3 bf
    clear hx B3 Z3 d3 q3
  case' inr.inl =>
    go_wp2_with fail
    refine calls_name fun x2 hx2 => ?_
    have ee : Chg [] w2 x2 := by rw [hx2]; exact Chg.now
    clear hx2
    refine (WO.out _ (q2.keep0 ee)).mono ?_
    rintro e w3 ⟨s, rfl, hs, q3, c3⟩
    have B3 := Lib.hid ((B2.out.keep ee).keep c3 (by simp; omega))
    have Z3 := Lib.hid ((Z2.out.keep ee).keep c3 (by simp; omega))
    have d3 := Lib.hid ((d2.out.trans0 ee).trans c3 (fun x hx => .inl hx))
    have u3 := B3.out.lt
    have t3 := Z3.out.lt
    clear ee c3 B2 Z2 d2 q2
    obtain ⟨b0, b1, b2, b3⟩ := B3.out.o4
    have bf := B3.out.f
    go_upto_region 11 with fail
    refine wp_called ?_
    intro x hx
    have K : CallAt k w x w1.heap.size := by rw [hx]; exact ⟨_, _, _, _, B3.out.set 1 _, Z3.out.far _ (by omega), zm, hs, zt, q3.keep (S := [w1.heap.size]) Chg.now (by simp; omega), Chg.to d3.out⟩
    clear b0 b1 b2 b3 bf
    clear hx B3 Z3 d3 q3
  case' inr.inr.inl =>
    go_wp2_with fail
    refine calls_name fun x2 hx2 => ?_
    have ee : Chg [] w2 x2 := by rw [hx2]; exact Chg.now
    clear hx2
    refine (OD.out _ (q2.keep0 ee)).mono ?_
    rintro e w3 ⟨s, rfl, hs, q3, c3⟩
    have B3 := Lib.hid ((B2.out.keep ee).keep c3 (by simp; omega))
    have Z3 := Lib.hid ((Z2.out.keep ee).keep c3 (by simp; omega))
    have d3 := Lib.hid ((d2.out.trans0 ee).trans c3 (fun x hx => .inl hx))
    have u3 := B3.out.lt
    have t3 := Z3.out.lt
    clear ee c3 B2 Z2 d2 q2
    obtain ⟨b0, b1, b2, b3⟩ := B3.out.o4
    have bf := B3.out.f
    go_upto_region 11 with fail
    refine wp_called ?_
    intro x hx
    have K : CallAt k w x w1.heap.size := by rw [hx]; exact ⟨_, _, _, _, B3.out.set 2 _, Z3.out.far _ (by omega), zm, zy, zt, q3.keep (S := [w1.heap.size]) Chg.now (by simp; omega), Chg.to d3.out⟩
    clear b0 b1 b2 b3 bf
    clear hx B3 Z3 d3 q3
  case' inr.inr.inr.inl =>
    go_wp2_with fail
    refine calls_name fun x2 hx2 => ?_
    have ee : Chg [] w2 x2 := by rw [hx2]; exact Chg.now
    obtain ⟨lt2, LT2⟩ := lit_strsE (g := w2.heap.size) [⟨#[45]⟩, ⟨#[97, 61, 49]⟩, ⟨#[120]⟩] hx2 rfl
    clear hx2
    refine (LS.out [⟨#[45]⟩, ⟨#[97, 61, 49]⟩, ⟨#[120]⟩] w2.heap.size 3 _ (q2.keep0 ee) (by decide) (by decide) (by omega) lt2 LT2).mono ?_
    rintro e w3 ⟨s, rfl, hs, q3, c3⟩
    have hs := HA.out s hs
    clear lt2 LT2
    have B3 := Lib.hid ((B2.out.keep ee).keep c3 (by simp; omega))
    have Z3 := Lib.hid ((Z2.out.keep ee).keep c3 (by simp; omega))
    have d3 := Lib.hid ((d2.out.trans0 ee).trans c3 (fun x hx => .inl hx))
    have u3 := B3.out.lt
    have t3 := Z3.out.lt
    clear ee c3 B2 Z2 d2 q2
    obtain ⟨b0, b1, b2, b3⟩ := B3.out.o4
    have bf := B3.out.f
    go_upto_region 11 with fail
    refine wp_called ?_
    intro x hx
    have K : CallAt k w x w1.heap.size := by rw [hx]; exact ⟨_, _, _, _, B3.out.set 3 _, Z3.out.far _ (by omega), zm, zy, hs, q3.keep (S := [w1.heap.size]) Chg.now (by simp; omega), Chg.to d3.out⟩
    clear b0 b1 b2 b3 bf
    clear hx B3 Z3 d3 q3
  case' inr.inr.inr.inr =>
    have n0 : (r == 0) = false := by rw [beq_eq_false_iff_ne]; omega
    have n1 : (r == 1) = false := by rw [beq_eq_false_iff_ne]; omega
    have n2 : (r == 2) = false := by rw [beq_eq_false_iff_ne]; omega
    have n3 : (r == 3) = false := by rw [beq_eq_false_iff_ne]; omega
    obtain ⟨b0, b1, b2, b3⟩ := B2.out.o4
    have bf := B2.out.f
    go_upto_region 11 with fail
    refine wp_called ?_
    intro x hx
    have K : CallAt k w x w1.heap.size := by rw [hx]; exact ⟨_, _, _, _, B2.out.keep (S := []) Chg.now, Z2.out.keep (S := []) Chg.now, zm, zy, zt, q2.keep (S := [w1.heap.size]) Chg.now (by simp; omega), Chg.to d2.out⟩
    clear b0 b1 b2 b3 bf
    clear hx B2 Z2 d2 q2
  all_goals
    obtain ⟨m, y, v, t, B8, Z8, z1, z2, z3, q8, d8⟩ := K
    have B8 := Lib.hid B8
    have Z8 := Lib.hid Z8
    have d8 := Lib.hid d8
    obtain ⟨b0, b1, b2, b3⟩ := B8.out.o4
    have bf := B8.out.f
    obtain ⟨y0, y1, y2, y3⟩ := Z8.out.o4
    have yf := Z8.out.f
    have u8 := B8.out.lt
    have k8 := q8.lt
    have t8 := Z8.out.lt
    go_wp2_with fail
    refine bodyPost_ret (v := .agg #[.string m, .string y, .int .i64 v, .string t]) (by simp only [results, Tryz.results58]; go_simp) rfl ?_
    exact ⟨_, _, _, _, rfl, z1, z2, z3, q8.keep (S := [w.heap.size]) Chg.now (by simp; omega), Chg.to d8.out⟩
set_option maxRecDepth 100000 in
set_option maxHeartbeats 16000000 in
theorem l8Any_any (k : Nat) (w : World) (hcur : Cur w k) :
    Calls Tryz.prog 28 #[.pointer (some ⟨k, 0, none⟩)] w (DrAny k 250000 w) := by
  have hk := hcur.lt
  have BL := Lib.hid (fun n W (hc : Cur W k) => l1Below_any k n W hc)
  have DR := Lib.hid (fun W (hc : Cur W k) => l8Draw_any k W hc)
  have OD := Lib.hid (fun W (hc : Cur W k) => l1Odd_any k W hc)
  have WO := Lib.hid (fun W (hc : Cur W k) => l1Word_any k W hc)
  have AC := Lib.hid (fun W (hc : Cur W k) => l3AnyCall_any k W hc)
  have AF := Lib.hid (fun W (hc : Cur W k) => l2Any_any k W hc)
  have LS : Hid (∀ W, Cur W k → Calls Tryz.prog 55 #[.pointer (some ⟨k, 0, none⟩), .int .i64 9, .int .i64 3, .bool false] W (DrActs k 153000 9 false W)) := Lib.hid (fun W hc => l8List_any k false 3 9 W hc (by omega) (by omega) (by omega))
  have hT : Hid (∀ x ∈ [k], x < w.heap.size) := Lib.hid (by simpa using hk)
  go_enter Tryz.func28, Tryz.ntmps28
  go_wp2_with fail
  refine (DR.out _ hcur).mono ?_
  rintro e w1 ⟨l, A, cap, rfl, hA, hok, hW, _, q1⟩
  have hl14 := hok.len
  have HA1 := Lib.hid hA
  clear hA hok
  go_wp2_with fail
  refine (BL.out 14 _ q1).mono ?_
  rintro e w2 ⟨r, rfl, ⟨r0, r12⟩, q2, c2⟩
  have HA2 := Lib.hid (HA1.out.later c2 hT.out)
  have k2 := q2.lt
  clear c2 HA1 q1 r12
  rcases (show r = 0 ∨ r = 1 ∨ r = 2 ∨ r = 3 ∨ r = 4 ∨ r = 5 ∨ (6 ≤ r) by omega) with rfl | rfl | rfl | rfl | rfl | rfl | h
  · go_wp2_with fail
    refine (LS.out _ q2).mono ?_
    rintro e w5 ⟨m, Am, cm, rfl, hm, hm1, hm6, hWm, _, q5⟩
    obtain ⟨gm, rfl, _⟩ := hm.row.2.2 (by omega)
    obtain ⟨us, nt, ul, un⟩ := hm.new.elems
    have HU := Lib.hid un
    have NT := Lib.hid nt
    have HL := Lib.hid (show us.length = m.length * 11 by rw [ul, flatMap_length_of actionF_len])
    have HO := Lib.hid (acts_ones nt)
    clear hm ul un nt
    go_wp2_with (at_builtin; refine wpList_appT (T := [k]) rfl (.tmp 10) (.tmp 12) _ rfl 38 _ 11 152 Tryz.underlying24 action_info rfl (by omega) HA2.out hT.out NT.out rfl gm m.length cm rfl HL.out HU.out HO.out (by omega) (by omega) ?_; intro A6 cap6 w6 hA6 hM6)
    go_ret
    exact ⟨l ++ m, A6, cap6, by simp, by have := hA6.new; unfold actions; rw [List.flatMap_append, List.length_append]; exact this, by rw [actionsW_app]; omega, q5.mid hM6 hk⟩
  · obtain ⟨r0', r1', r2'⟩ := HA2.out.row
    unfold maxLen at r1'
    by_cases hl0 : 0 < l.length
    · obtain ⟨g, rfl, hg⟩ := r2' hl0
      have hl1 : (0 : Int) < (l.length : Int) := by omega
      clear r2'
      go_wp2_with fail
      refine (BL.out l.length _ q2).mono ?_
      rintro e w3 ⟨i, rfl, ⟨i0, i1⟩, q3, c3⟩
      have i1 := i1 (by omega)
      obtain ⟨j, rfl⟩ : ∃ j : Nat, i = (j : Int) := ⟨i.toNat, by omega⟩
      have hj : j < l.length := by omega
      have HA3 := Lib.hid (HA2.out.later c3 hT.out)
      clear c3 HA2 q2
      go_wp2_with fail
      refine (OD.out _ q3).mono ?_
      rintro e w4 ⟨s, rfl, hs, q4, c4⟩
      have N4 := (HA3.out.later c4 hT.out).new
      have FG : (l.flatMap actionF)[j * 11 + 1]? = some (.v (.int .i64 l[j].slot)) := (flatMap_getAt (f := 1) actionF_len (by decide) l j hj).trans (by rw [actionF_eq]; rfl)
      obtain ⟨e1, e2, _, N5⟩ := N4.set_ FG (.int .i64 s)
      have FS : (l.flatMap actionF).set (j * 11 + 1) (.v (.int .i64 s)) = (l.set j (.mk l[j].op s l[j].other l[j].word l[j].call l[j].face l[j].A l[j].B)).flatMap actionF := flatMap_set (f := 1) actionF_len (by decide) _ _ l j hj (by rw [actionF_eq, actionF_eq]; rfl)
      rw [FS] at N5
      have NN := Lib.hid N5
      have hw := actionsW_set (.mk l[j].op s l[j].other l[j].word l[j].call l[j].face l[j].A l[j].B) l j hj
      have hw2 : actionW (.mk l[j].op s l[j].other l[j].word l[j].call l[j].face l[j].A l[j].B) ≤ actionW l[j] + 16 := by rw [actionW_eq, actionW_eq]; show l[j].word.size + callW l[j].call + actionsW l[j].A + actionsW l[j].B ≤ _; omega
      have q5 : Cur (w4.setCell ⟨g, j * 11 + 1, none⟩ (.int .i64 s)) k := q4.keep (S := [g]) ((Chg.refl _ _).setCell (.inl (by simp)) _) (by simp; omega)
      clear N4 N5 HA3 c4 hs q3 q4 FG FS
      go_wp2_with fail
      go_ret
      exact ⟨l.set j (.mk l[j].op s l[j].other l[j].word l[j].call l[j].face l[j].A l[j].B), some ⟨g, 0, none⟩, cap, by rw [List.length_set]; rfl, by have := NN.out; unfold actions; rw [List.length_set]; exact this, by omega, q5⟩
    · have hl1 : ¬ (0 : Int) < (l.length : Int) := by omega
      clear r2'
      go_wp2_with fail
      go_ret
      exact ⟨l, A, cap, rfl, HA2.out.new, by omega, q2⟩
  · obtain ⟨r0', r1', r2'⟩ := HA2.out.row
    unfold maxLen at r1'
    by_cases hl0 : 0 < l.length
    · obtain ⟨g, rfl, hg⟩ := r2' hl0
      have hl1 : (0 : Int) < (l.length : Int) := by omega
      clear r2'
      go_wp2_with fail
      refine (BL.out l.length _ q2).mono ?_
      rintro e w3 ⟨i, rfl, ⟨i0, i1⟩, q3, c3⟩
      have i1 := i1 (by omega)
      obtain ⟨j, rfl⟩ : ∃ j : Nat, i = (j : Int) := ⟨i.toNat, by omega⟩
      have hj : j < l.length := by omega
      have HA3 := Lib.hid (HA2.out.later c3 hT.out)
      clear c3 HA2 q2
      go_wp2_with fail
      refine (WO.out _ q3).mono ?_
      rintro e w4 ⟨s, rfl, hs, q4, c4⟩
      have N4 := (HA3.out.later c4 hT.out).new
      have FG : (l.flatMap actionF)[j * 11 + 3]? = some (.v (.string l[j].word)) := (flatMap_getAt (f := 3) actionF_len (by decide) l j hj).trans (by rw [actionF_eq]; rfl)
      obtain ⟨e1, e2, _, N5⟩ := N4.set_ FG (.string s)
      have FS : (l.flatMap actionF).set (j * 11 + 3) (.v (.string s)) = (l.set j (.mk l[j].op l[j].slot l[j].other s l[j].call l[j].face l[j].A l[j].B)).flatMap actionF := flatMap_set (f := 3) actionF_len (by decide) _ _ l j hj (by rw [actionF_eq, actionF_eq]; rfl)
      rw [FS] at N5
      have NN := Lib.hid N5
      have hw := actionsW_set (.mk l[j].op l[j].slot l[j].other s l[j].call l[j].face l[j].A l[j].B) l j hj
      have hw2 : actionW (.mk l[j].op l[j].slot l[j].other s l[j].call l[j].face l[j].A l[j].B) ≤ actionW l[j] + 16 := by rw [actionW_eq, actionW_eq]; show s.size + callW l[j].call + actionsW l[j].A + actionsW l[j].B ≤ _; omega
      have q5 : Cur (w4.setCell ⟨g, j * 11 + 3, none⟩ (.string s)) k := q4.keep (S := [g]) ((Chg.refl _ _).setCell (.inl (by simp)) _) (by simp; omega)
      clear N4 N5 HA3 c4 hs q3 q4 FG FS
      go_wp2_with fail
      go_ret
      exact ⟨l.set j (.mk l[j].op l[j].slot l[j].other s l[j].call l[j].face l[j].A l[j].B), some ⟨g, 0, none⟩, cap, by rw [List.length_set]; rfl, by have := NN.out; unfold actions; rw [List.length_set]; exact this, by omega, q5⟩
    · have hl1 : ¬ (0 : Int) < (l.length : Int) := by omega
      clear r2'
      go_wp2_with fail
      go_ret
      exact ⟨l, A, cap, rfl, HA2.out.new, by omega, q2⟩
  · obtain ⟨r0', r1', r2'⟩ := HA2.out.row
    unfold maxLen at r1'
    by_cases hl0 : 0 < l.length
    · obtain ⟨g, rfl, hg⟩ := r2' hl0
      have hl1 : (0 : Int) < (l.length : Int) := by omega
      clear r2'
      go_wp2_with fail
      refine (BL.out l.length _ q2).mono ?_
      rintro e w3 ⟨i, rfl, ⟨i0, i1⟩, q3, c3⟩
      have i1 := i1 (by omega)
      obtain ⟨j, rfl⟩ : ∃ j : Nat, i = (j : Int) := ⟨i.toNat, by omega⟩
      have hj : j < l.length := by omega
      have HA3 := Lib.hid (HA2.out.later c3 hT.out)
      clear c3 HA2 q2
      go_wp2_with fail
      refine (OD.out _ q3).mono ?_
      rintro e w4 ⟨s, rfl, hs, q4, c4⟩
      have N4 := (HA3.out.later c4 hT.out).new
      have FG : (l.flatMap actionF)[j * 11]? = some (.v (.int .i64 l[j].op)) := (flatMap_getAt (f := 0) actionF_len (by decide) l j hj).trans (by rw [actionF_eq]; rfl)
      obtain ⟨e1, e2, _, N5⟩ := N4.set_ FG (.int .i64 s)
      have FS : (l.flatMap actionF).set (j * 11) (.v (.int .i64 s)) = (l.set j (.mk s l[j].slot l[j].other l[j].word l[j].call l[j].face l[j].A l[j].B)).flatMap actionF := flatMap_set (f := 0) actionF_len (by decide) _ _ l j hj (by rw [actionF_eq, actionF_eq]; rfl)
      rw [FS] at N5
      have NN := Lib.hid N5
      have hw := actionsW_set (.mk s l[j].slot l[j].other l[j].word l[j].call l[j].face l[j].A l[j].B) l j hj
      have hw2 : actionW (.mk s l[j].slot l[j].other l[j].word l[j].call l[j].face l[j].A l[j].B) ≤ actionW l[j] + 16 := by rw [actionW_eq, actionW_eq]; show l[j].word.size + callW l[j].call + actionsW l[j].A + actionsW l[j].B ≤ _; omega
      have q5 : Cur (w4.setCell ⟨g, j * 11, none⟩ (.int .i64 s)) k := q4.keep (S := [g]) ((Chg.refl _ _).setCell (.inl (by simp)) _) (by simp; omega)
      clear N4 N5 HA3 c4 hs q3 q4 FG FS
      go_wp2_with fail
      go_ret
      exact ⟨l.set j (.mk s l[j].slot l[j].other l[j].word l[j].call l[j].face l[j].A l[j].B), some ⟨g, 0, none⟩, cap, by rw [List.length_set]; rfl, by have := NN.out; unfold actions; rw [List.length_set]; exact this, by omega, q5⟩
    · have hl1 : ¬ (0 : Int) < (l.length : Int) := by omega
      clear r2'
      go_wp2_with fail
      go_ret
      exact ⟨l, A, cap, rfl, HA2.out.new, by omega, q2⟩
  · have N0 : Has (w2.alloc (.cells #[.int .i64 5, .int .i64 0, .int .i64 0, .string ⟨#[]⟩, .string ⟨#[]⟩, .string ⟨#[]⟩, .int .i64 0, .string ⟨#[]⟩, .int .i64 0, .slice none 0 0, .slice none 0 0] 38)) (actions [(.mk 5 0 0 ⟨#[]⟩ ⟨⟨#[]⟩, ⟨#[]⟩, 0, ⟨#[]⟩⟩ 0 [] [])]) (.slice (some ⟨w2.heap.size, 0, none⟩) 1 1) [w2.heap.size] := one_has (flat_has _ _ _ _ _ _ _ _ _ _) (heap_new _ _ _) (by simp)
    have N1 := one_has (act_hasAB (op := 10) (sl := 0) (ot := 0) (wd := ⟨#[]⟩) (m := ⟨#[]⟩) (y := ⟨#[]⟩) (v := 0) (t := ⟨#[]⟩) (fc := 0) (nil_has _) (N0.keep0 ((Chg.refl _ _).alloc (.cells #[.int .i64 10, .int .i64 0, .int .i64 0, .string ⟨#[]⟩, .string ⟨#[]⟩, .string ⟨#[]⟩, .int .i64 0, .string ⟨#[]⟩, .int .i64 0, .slice none 0 0, .slice (some ⟨w2.heap.size, 0, none⟩) 1 1] 38))) (by simp)) (heap_new _ _ _) (by simp)
    rw [show (w2.alloc (.cells #[.int .i64 5, .int .i64 0, .int .i64 0, .string ⟨#[]⟩, .string ⟨#[]⟩, .string ⟨#[]⟩, .int .i64 0, .string ⟨#[]⟩, .int .i64 0, .slice none 0 0, .slice none 0 0] 38)).heap.size = w2.heap.size + 1 by simp] at N1
    have N2 := one_has (act_hasA (op := 8) (sl := 0) (ot := 0) (wd := ⟨#[]⟩) (m := ⟨#[]⟩) (y := ⟨#[]⟩) (v := 0) (t := ⟨#[]⟩) (fc := 0) (N1.keep0 ((Chg.refl _ _).alloc (.cells #[.int .i64 8, .int .i64 0, .int .i64 0, .string ⟨#[]⟩, .string ⟨#[]⟩, .string ⟨#[]⟩, .int .i64 0, .string ⟨#[]⟩, .int .i64 0, .slice (some ⟨w2.heap.size + 1, 0, none⟩) 1 1, .slice none 0 0] 38)))) (heap_new _ _ _) (by simp; omega)
    rw [show ((w2.alloc (.cells #[.int .i64 5, .int .i64 0, .int .i64 0, .string ⟨#[]⟩, .string ⟨#[]⟩, .string ⟨#[]⟩, .int .i64 0, .string ⟨#[]⟩, .int .i64 0, .slice none 0 0, .slice none 0 0] 38)).alloc (.cells #[.int .i64 10, .int .i64 0, .int .i64 0, .string ⟨#[]⟩, .string ⟨#[]⟩, .string ⟨#[]⟩, .int .i64 0, .string ⟨#[]⟩, .int .i64 0, .slice none 0 0, .slice (some ⟨w2.heap.size, 0, none⟩) 1 1] 38)).heap.size = w2.heap.size + 1 + 1 by simp] at N2
    have NT := Lib.hid (show NewT [k] w2 ((((w2.alloc (.cells #[.int .i64 5, .int .i64 0, .int .i64 0, .string ⟨#[]⟩, .string ⟨#[]⟩, .string ⟨#[]⟩, .int .i64 0, .string ⟨#[]⟩, .int .i64 0, .slice none 0 0, .slice none 0 0] 38)).alloc (.cells #[.int .i64 10, .int .i64 0, .int .i64 0, .string ⟨#[]⟩, .string ⟨#[]⟩, .string ⟨#[]⟩, .int .i64 0, .string ⟨#[]⟩, .int .i64 0, .slice none 0 0, .slice (some ⟨w2.heap.size, 0, none⟩) 1 1] 38)).alloc (.cells #[.int .i64 8, .int .i64 0, .int .i64 0, .string ⟨#[]⟩, .string ⟨#[]⟩, .string ⟨#[]⟩, .int .i64 0, .string ⟨#[]⟩, .int .i64 0, .slice (some ⟨w2.heap.size + 1, 0, none⟩) 1 1, .slice none 0 0] 38)).alloc (.cells #[.int .i64 9, .int .i64 0, .int .i64 0, .string ⟨#[]⟩, .string ⟨#[]⟩, .string ⟨#[]⟩, .int .i64 0, .string ⟨#[]⟩, .int .i64 0, .slice (some ⟨w2.heap.size + 1 + 1, 0, none⟩) 1 1, .slice none 0 0] 38)) (actionF (.mk 9 0 0 ⟨#[]⟩ ⟨⟨#[]⟩, ⟨#[]⟩, 0, ⟨#[]⟩⟩ 0 [(.mk 8 0 0 ⟨#[]⟩ ⟨⟨#[]⟩, ⟨#[]⟩, 0, ⟨#[]⟩⟩ 0 [(.mk 10 0 0 ⟨#[]⟩ ⟨⟨#[]⟩, ⟨#[]⟩, 0, ⟨#[]⟩⟩ 0 [] [(.mk 5 0 0 ⟨#[]⟩ ⟨⟨#[]⟩, ⟨#[]⟩, 0, ⟨#[]⟩⟩ 0 [] [])])] [])] [])) [.int .i64 9, .int .i64 0, .int .i64 0, .string ⟨#[]⟩, .string ⟨#[]⟩, .string ⟨#[]⟩, .int .i64 0, .string ⟨#[]⟩, .int .i64 0, .slice (some ⟨w2.heap.size + 1 + 1, 0, none⟩) 1 1, .slice none 0 0] from ⟨_, act_hasA (N2.keep0 ((Chg.refl _ _).alloc _)), by simp; omega, Chg.now⟩)
    have NW := (Box.new (((w2.alloc (.cells #[.int .i64 5, .int .i64 0, .int .i64 0, .string ⟨#[]⟩, .string ⟨#[]⟩, .string ⟨#[]⟩, .int .i64 0, .string ⟨#[]⟩, .int .i64 0, .slice none 0 0, .slice none 0 0] 38)).alloc (.cells #[.int .i64 10, .int .i64 0, .int .i64 0, .string ⟨#[]⟩, .string ⟨#[]⟩, .string ⟨#[]⟩, .int .i64 0, .string ⟨#[]⟩, .int .i64 0, .slice none 0 0, .slice (some ⟨w2.heap.size, 0, none⟩) 1 1] 38)).alloc (.cells #[.int .i64 8, .int .i64 0, .int .i64 0, .string ⟨#[]⟩, .string ⟨#[]⟩, .string ⟨#[]⟩, .int .i64 0, .string ⟨#[]⟩, .int .i64 0, .slice (some ⟨w2.heap.size + 1, 0, none⟩) 1 1, .slice none 0 0] 38)) #[.int .i64 9, .int .i64 0, .int .i64 0, .string ⟨#[]⟩, .string ⟨#[]⟩, .string ⟨#[]⟩, .int .i64 0, .string ⟨#[]⟩, .int .i64 0, .slice (some ⟨w2.heap.size + 1 + 1, 0, none⟩) 1 1, .slice none 0 0] 38).c
    rw [show (((w2.alloc (.cells #[.int .i64 5, .int .i64 0, .int .i64 0, .string ⟨#[]⟩, .string ⟨#[]⟩, .string ⟨#[]⟩, .int .i64 0, .string ⟨#[]⟩, .int .i64 0, .slice none 0 0, .slice none 0 0] 38)).alloc (.cells #[.int .i64 10, .int .i64 0, .int .i64 0, .string ⟨#[]⟩, .string ⟨#[]⟩, .string ⟨#[]⟩, .int .i64 0, .string ⟨#[]⟩, .int .i64 0, .slice none 0 0, .slice (some ⟨w2.heap.size, 0, none⟩) 1 1] 38)).alloc (.cells #[.int .i64 8, .int .i64 0, .int .i64 0, .string ⟨#[]⟩, .string ⟨#[]⟩, .string ⟨#[]⟩, .int .i64 0, .string ⟨#[]⟩, .int .i64 0, .slice (some ⟨w2.heap.size + 1, 0, none⟩) 1 1, .slice none 0 0] 38)).heap.size = w2.heap.size + 1 + 1 + 1 by simp] at NW
    have NW := Lib.hid NW
    have HONE := Lib.hid (show ∀ u ∈ ([.int .i64 9, .int .i64 0, .int .i64 0, .string ⟨#[]⟩, .string ⟨#[]⟩, .string ⟨#[]⟩, .int .i64 0, .string ⟨#[]⟩, .int .i64 0, .slice (some ⟨w2.heap.size + 1 + 1, 0, none⟩) 1 1, .slice none 0 0] : List Value), u.oneCell' = true from fun u hu => act_ones u hu)
    clear N0 N1 N2
    go_wp2_with (at_builtin; refine wpList_appT (T := [k]) rfl (.tmp 58) (.tmp 66) _ rfl 38 _ 11 152 Tryz.underlying24 action_info rfl (by omega) HA2.out hT.out NT.out rfl (w2.heap.size + 1 + 1 + 1) 1 1 rfl rfl NW.out HONE.out (by omega) (by omega) ?_; intro A6 cap6 w6 hA6 hM6)
    go_ret
    exact ⟨l ++ [(.mk 9 0 0 ⟨#[]⟩ ⟨⟨#[]⟩, ⟨#[]⟩, 0, ⟨#[]⟩⟩ 0 [(.mk 8 0 0 ⟨#[]⟩ ⟨⟨#[]⟩, ⟨#[]⟩, 0, ⟨#[]⟩⟩ 0 [(.mk 10 0 0 ⟨#[]⟩ ⟨⟨#[]⟩, ⟨#[]⟩, 0, ⟨#[]⟩⟩ 0 [] [(.mk 5 0 0 ⟨#[]⟩ ⟨⟨#[]⟩, ⟨#[]⟩, 0, ⟨#[]⟩⟩ 0 [] [])])] [])] [])], A6, cap6, by simp, by have := hA6.new; unfold actions; rw [List.flatMap_append, List.length_append]; simpa using this, by rw [actionsW_app]; have h : actionsW [(.mk 9 0 0 ⟨#[]⟩ ⟨⟨#[]⟩, ⟨#[]⟩, 0, ⟨#[]⟩⟩ 0 [(.mk 8 0 0 ⟨#[]⟩ ⟨⟨#[]⟩, ⟨#[]⟩, 0, ⟨#[]⟩⟩ 0 [(.mk 10 0 0 ⟨#[]⟩ ⟨⟨#[]⟩, ⟨#[]⟩, 0, ⟨#[]⟩⟩ 0 [] [(.mk 5 0 0 ⟨#[]⟩ ⟨⟨#[]⟩, ⟨#[]⟩, 0, ⟨#[]⟩⟩ 0 [] [])])] [])] [])] ≤ 100 := (by decide); omega, (q2.keep0 Chg.now).mid hM6 hk⟩
  · go_wp2_with fail
    refine (AC.out _ q2).mono ?_
    rintro e w3 ⟨m, y, v, t, rfl, zm, zy, zt, q3, c3⟩
    go_wp2_with fail
    refine (AF.out _ q3).mono ?_
    rintro e w4 ⟨fc, rfl, _, q4, c4⟩
    have HA4 := Lib.hid ((HA2.out.later c3 hT.out).later c4 hT.out)
    have NT := Lib.hid (show NewT [k] w4 (w4.alloc (.cells #[.int .i64 7, .int .i64 0, .int .i64 0, .string ⟨#[]⟩, .string m, .string y, .int .i64 v, .string t, .int .i64 0, .slice none 0 0, .slice none 0 0, .int .i64 6, .int .i64 0, .int .i64 0, .string ⟨#[]⟩, .string ⟨#[]⟩, .string ⟨#[]⟩, .int .i64 0, .string ⟨#[]⟩, .int .i64 fc, .slice none 0 0, .slice none 0 0] 38)) (actionF (.mk 7 0 0 ⟨#[]⟩ ⟨m, y, v, t⟩ 0 [] []) ++ actionF (.mk 6 0 0 ⟨#[]⟩ ⟨⟨#[]⟩, ⟨#[]⟩, 0, ⟨#[]⟩⟩ fc [] [])) ([.int .i64 7, .int .i64 0, .int .i64 0, .string ⟨#[]⟩, .string m, .string y, .int .i64 v, .string t, .int .i64 0, .slice none 0 0, .slice none 0 0] ++ [.int .i64 6, .int .i64 0, .int .i64 0, .string ⟨#[]⟩, .string ⟨#[]⟩, .string ⟨#[]⟩, .int .i64 0, .string ⟨#[]⟩, .int .i64 fc, .slice none 0 0, .slice none 0 0]) from ⟨[] ++ [], HasL.append (flat_has _ _ _ _ _ _ _ _ _ _) (flat_has _ _ _ _ _ _ _ _ _ _) (by simp), by simp, (Chg.refl _ _).alloc _⟩)
    have NW := Lib.hid ((Box.new w4 #[.int .i64 7, .int .i64 0, .int .i64 0, .string ⟨#[]⟩, .string m, .string y, .int .i64 v, .string t, .int .i64 0, .slice none 0 0, .slice none 0 0, .int .i64 6, .int .i64 0, .int .i64 0, .string ⟨#[]⟩, .string ⟨#[]⟩, .string ⟨#[]⟩, .int .i64 0, .string ⟨#[]⟩, .int .i64 fc, .slice none 0 0, .slice none 0 0] 38).c)
    have HONE := Lib.hid (show ∀ u ∈ ([.int .i64 7, .int .i64 0, .int .i64 0, .string ⟨#[]⟩, .string m, .string y, .int .i64 v, .string t, .int .i64 0, .slice none 0 0, .slice none 0 0] ++ [.int .i64 6, .int .i64 0, .int .i64 0, .string ⟨#[]⟩, .string ⟨#[]⟩, .string ⟨#[]⟩, .int .i64 0, .string ⟨#[]⟩, .int .i64 fc, .slice none 0 0, .slice none 0 0] : List Value), u.oneCell' = true from fun u hu => (List.mem_append.1 hu).elim (act_ones u) (act_ones u))
    clear c3 c4 HA2 q2 q3
    go_wp2_with (at_builtin; refine wpList_appT (T := [k]) rfl (.tmp 70) (.tmp 77) _ rfl 38 _ 11 152 Tryz.underlying24 action_info rfl (by omega) HA4.out hT.out NT.out rfl w4.heap.size 2 2 rfl rfl NW.out HONE.out (by omega) (by omega) ?_; intro A6 cap6 w6 hA6 hM6)
    go_ret
    exact ⟨l ++ [(.mk 7 0 0 ⟨#[]⟩ ⟨m, y, v, t⟩ 0 [] []), (.mk 6 0 0 ⟨#[]⟩ ⟨⟨#[]⟩, ⟨#[]⟩, 0, ⟨#[]⟩⟩ fc [] [])], A6, cap6, by simp, by have := hA6.new; unfold actions; rw [List.flatMap_append, List.length_append]; simpa using this, by rw [actionsW_app]; have := two_W m y v t fc zm zy zt; omega, (q4.keep0 ((Chg.refl _ _).alloc _)).mid hM6 hk⟩
  · have n0 : (r == 0) = false := by rw [beq_eq_false_iff_ne]; omega
    have n1 : (r == 1) = false := by rw [beq_eq_false_iff_ne]; omega
    have n2 : (r == 2) = false := by rw [beq_eq_false_iff_ne]; omega
    have n3 : (r == 3) = false := by rw [beq_eq_false_iff_ne]; omega
    have n4 : (r == 4) = false := by rw [beq_eq_false_iff_ne]; omega
    have n5 : (r == 5) = false := by rw [beq_eq_false_iff_ne]; omega
    go_wp2_with fail
    go_ret
    exact ⟨l, A, cap, rfl, HA2.out.new, by omega, q2⟩
end Go.Proofs.YtkgffhlpcjjobaaGreatDoor
