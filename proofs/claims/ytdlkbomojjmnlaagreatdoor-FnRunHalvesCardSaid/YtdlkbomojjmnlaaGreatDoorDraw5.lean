/- Plans, drawn: l8Draw and l8Plain of the reference. Conditions: none. Written by a program. / Actions, drawn, that may be no plan: l3AnyCall, l8Any, DrawActionAt of the reference. Conditions: for DrawActionAt, at most 4096 bytes. Written by a program. -/
import Derived.Test.YtdlkbomojjmnlaaGreatDoorList
import Derived.Test.YtdlkbomojjmnlaaGreatDoorIsActs
import Derived.Test.YtdlkbomojjmnlaaGreatDoorApps
import Derived.Test.YtdlkbomojjmnlaaGreatDoorCurs
set_option maxRecDepth 100000
set_option maxHeartbeats 16000000
namespace Go.Proofs.YtdlkbomojjmnlaaGreatDoor
open Go.RowKit

/-- A plan, drawn. -/
def DrPlan (k N : Nat) (pl : Bool) (w : World) (e : Ending) (w' : World) : Prop := ∃ (l : List ActionT) (A : Option Addr) (cap : Nat), e = .returned (.slice A l.length cap) ∧ AppT [k] w w' 32 11 (.slice A l.length cap) l.length (l.flatMap actionF) ∧ PlanOk l ∧ actionsW l ≤ N ∧ (pl = true → noL 10 3 l) ∧ Cur w' k
theorem planOk_nil : PlanOk [] := ⟨by simp [sizeL], by simp [depthL], by simp [okL]⟩
theorem AppT.row {T : List Nat} {w0 w : World} {e : TypeId} {A : Option Addr} {n cap c : Nat} {cs : List Dat} (h : AppT T w0 w e c (.slice A n cap) n cs) : n ≤ cap ∧ cap ≤ maxLen ∧ (0 < n → ∃ g, A = some ⟨g, 0, none⟩ ∧ w0.heap.size ≤ g) := by
 obtain ⟨xs, S', h1, _⟩ := h
 rcases h1.2 with ⟨e, rfl⟩ | ⟨g, cap', cur, e, h2, _, h3, h4, _⟩
 ·simp only [Value.slice.injEq] at e
  exact ⟨by omega, by unfold maxLen; omega, fun h => by omega⟩
 ·simp only [Value.slice.injEq, true_and] at e
  obtain ⟨rfl, rfl⟩ := e
  exact ⟨h3, h4, fun _ => ⟨g, rfl, h2⟩⟩
theorem noL_take {p q : Int} {l : List ActionT} (n : Nat) (h : noL p q l) : noL p q (l.take n) := by
 rw [noL_iff] at h ⊢
 exact fun a ha => h a (List.mem_of_mem_take ha)
theorem actionsW_take (l : List ActionT) (n : Nat) : actionsW (l.take n) ≤ actionsW l := by
 have h := actionsW_app (l.take n) (l.drop n)
 rw [List.take_append_drop] at h
 omega
theorem l8Draw_any (k : Nat) (w : World) (hcur : Cur w k) :
  Calls Tryz.prog 37 #[.pointer (some ⟨k, 0, none⟩)] w (DrPlan k 26000 false w) := by
 have hk := hcur.lt
 have ON := Lib.hid (fun n W (hc : Cur W k) => l1Once_any k n W hc)
 have LS : Hid (∀ W, Cur W k → Calls Tryz.prog 70 #[.pointer (some ⟨k, 0, none⟩), .int .i64 6, .int .i64 2, .bool false] W (DrActs k 25200 6 false W)) := Lib.hid (fun W hc => l8List_any k false 2 6 W hc (by omega) (by omega) (by omega))
 have hT : Hid (∀ x ∈ [k], x < w.heap.size) := Lib.hid (by simpa using hk)
 go_enter Tryz.func37, Tryz.ntmps37
 go_wp2_with fail
 refine calls_name fun x0 hx0 => ?_
 have hA0 := Lib.hid (show AppT [k] w x0 32 11 (.slice (some ⟨w.heap.size, 0, none⟩) 0 0) 0 [] by rw [hx0]; exact AppT.empty w _ _ (Chg.refl _ _))
 have q0 := hcur.keep0 (show Chg [] w x0 by rw [hx0]; exact Chg.now)
 clear hx0
 refine (ON.out 3 _ q0).mono ?_
 rintro e w1 ⟨ok, rfl, q1, c1⟩
 have hA1 := Lib.hid (hA0.out.later c1 hT.out)
 have k1 := q1.lt
 clear c1 hA0 q0
 cases ok
 ·go_wp2_with fail
  refine (LS.out _ q1).mono ?_
  rintro e w5 ⟨m, Am, cm, rfl, hm, hm1, hm6, hWm, _, q5⟩
  obtain ⟨gm, rfl, _⟩ := hm.row.2.2 (by omega)
  obtain ⟨us, nt, ul, un⟩ := hm.new.elems
  have HU := Lib.hid un
  have NT := Lib.hid nt
  have HL := Lib.hid (show us.length = m.length * 11 by rw [ul, flatMap_length_of actionF_len])
  have HO := Lib.hid (acts_ones nt)
  have r5 := hm.row.1
  have r6 := hm.row.2.1
  unfold maxLen at r6
  clear hm ul un nt
  go_wp2_with (at_builtin; refine wpList_appT (T := [k]) rfl (.tmp 12) (.tmp 14) _ rfl 32 _ 11 152 Tryz.underlying24 action_info rfl (by omega) hA1.out hT.out NT.out rfl gm m.length cm rfl HL.out HU.out HO.out (by omega) (by omega) ?_; intro A6 cap6 w6 hA6 hM6)
  simp only [Nat.zero_add, List.nil_append] at hA6 ⊢
  have q6 := q5.mid hM6 hk
  have HA6 := Lib.hid hA6
  clear NT HL HU HO hA6 hM6 r5 r6 q5 hA1 q1
  go_loopw [3] (fun v wr => ∃ (l : List ActionT) (A : Option Addr) (cap : Nat), v = .slice A l.length cap ∧ Hid (AppT [k] w wr 32 11 (.slice A l.length cap) l.length (l.flatMap actionF)) ∧ Hid (actionsW l ≤ 26000) ∧ Hid (false = true → noL 10 3 l) ∧ l.length ≤ 100 ∧ Cur wr k) (fun v _ => match v with | .slice _ n _ => n | _ => 0)
  case atStart => exact ⟨m, A6, cap6, rfl, HA6, Lib.hid (by omega), Lib.hid (by simp), by omega, q6⟩
  case round =>
   obtain ⟨l, A, cap, rfl, hA, hW, hP, hl, hq⟩ := hrel
   have IP := Lib.hid (isPlan_spec_law l _ _ wr (Nat.le_trans hW.out (by decide)) hA.out.new.rd (Nat.le_refl _))
   obtain ⟨r0, r1, r2⟩ := hA.out.row
   unfold maxLen at r1
   go_wp2_with fail
   refine IP.out.mono ?_
   rintro e w9 ⟨t, rfl, ht, c9⟩
   have hA9 := Lib.hid (hA.out.later (c9.mono (by simp)) hT.out)
   have q9 := hq.keep0 c9
   have HT := Lib.hid ht
   clear IP hA hq c9 ht
   cases t
   ·have hnp : ¬ PlanOk l := fun h => by have := HT.out.2 h; cases this
    cases hl2 : l with
    | nil => exact absurd (hl2 ▸ planOk_nil) hnp
    | cons a l2 =>
     obtain ⟨g, rfl, hg⟩ := r2 (by rw [hl2]; simp)
     have hlen : l.length = l2.length + 1 := by rw [hl2]; rfl
     have wl : IntKind.i64.wrap (((l2.length + 1 : Nat) : Int) - 1) = (l2.length : Int) := by rw [wr_id (by omega) (by omega)]; omega
     have hsh := Lib.hid (hA9.out.shrink (m := l2.length) (by omega))
     rw [flatMap_take actionF_len] at hsh
     have htl : Hid ((l.take l2.length).length = l2.length) := Lib.hid (by rw [List.length_take, hlen]; omega)
     have HN := Lib.hid hlen
     clear HT hnp r2
     subst hl2
     rw [List.length_cons] at r0 hl
     go_wp2_with fail
     go_roundw
     case rel => exact ⟨(a :: l2).take l2.length, _, cap, by rw [htl.out], by rw [htl.out]; exact hsh, Lib.hid (Nat.le_trans (actionsW_take _ _) hW.out), Lib.hid (fun h => noL_take _ (hP.out h)), by rw [htl.out]; omega, q9⟩
     case measure => simp
   ·go_wp2_with fail
    go_ret
    exact ⟨l, A, cap, rfl, hA9.out, (by have := HT.out; simpa using this), hW.out, hP.out, q9⟩
 ·have NT := Lib.hid (show NewT [k] w1 (w1.alloc (.cells #[.int .i64 1, .int .i64 0, .int .i64 0, .string ⟨#[114, 111, 98, 111, 116]⟩, .string ⟨#[]⟩, .string ⟨#[]⟩, .int .i64 0, .string ⟨#[]⟩, .int .i64 0, .slice none 0 0, .slice none 0 0, .int .i64 1, .int .i64 1, .int .i64 0, .string ⟨#[100, 114, 97, 119, 101, 114]⟩, .string ⟨#[]⟩, .string ⟨#[]⟩, .int .i64 0, .string ⟨#[]⟩, .int .i64 0, .slice none 0 0, .slice none 0 0] 32)) (actionF (.mk 1 0 0 ⟨#[114, 111, 98, 111, 116]⟩ ⟨⟨#[]⟩, ⟨#[]⟩, 0, ⟨#[]⟩⟩ 0 [] []) ++ actionF (.mk 1 1 0 ⟨#[100, 114, 97, 119, 101, 114]⟩ ⟨⟨#[]⟩, ⟨#[]⟩, 0, ⟨#[]⟩⟩ 0 [] [])) ([.int .i64 1, .int .i64 0, .int .i64 0, .string ⟨#[114, 111, 98, 111, 116]⟩, .string ⟨#[]⟩, .string ⟨#[]⟩, .int .i64 0, .string ⟨#[]⟩, .int .i64 0, .slice none 0 0, .slice none 0 0] ++ [.int .i64 1, .int .i64 1, .int .i64 0, .string ⟨#[100, 114, 97, 119, 101, 114]⟩, .string ⟨#[]⟩, .string ⟨#[]⟩, .int .i64 0, .string ⟨#[]⟩, .int .i64 0, .slice none 0 0, .slice none 0 0]) from ⟨[] ++ [], HasL.append (flat_has _ _ _ _ _ _ _ _ _ _) (flat_has _ _ _ _ _ _ _ _ _ _) (by simp), by simp, (Chg.refl _ _).alloc _⟩)
  have NW := Lib.hid ((Box.new w1 #[.int .i64 1, .int .i64 0, .int .i64 0, .string ⟨#[114, 111, 98, 111, 116]⟩, .string ⟨#[]⟩, .string ⟨#[]⟩, .int .i64 0, .string ⟨#[]⟩, .int .i64 0, .slice none 0 0, .slice none 0 0, .int .i64 1, .int .i64 1, .int .i64 0, .string ⟨#[100, 114, 97, 119, 101, 114]⟩, .string ⟨#[]⟩, .string ⟨#[]⟩, .int .i64 0, .string ⟨#[]⟩, .int .i64 0, .slice none 0 0, .slice none 0 0] 32).c)
  have HONE := Lib.hid (show ∀ u ∈ ([.int .i64 1, .int .i64 0, .int .i64 0, .string ⟨#[114, 111, 98, 111, 116]⟩, .string ⟨#[]⟩, .string ⟨#[]⟩, .int .i64 0, .string ⟨#[]⟩, .int .i64 0, .slice none 0 0, .slice none 0 0] ++ [.int .i64 1, .int .i64 1, .int .i64 0, .string ⟨#[100, 114, 97, 119, 101, 114]⟩, .string ⟨#[]⟩, .string ⟨#[]⟩, .int .i64 0, .string ⟨#[]⟩, .int .i64 0, .slice none 0 0, .slice none 0 0] : List Value), u.oneCell' = true from fun u hu => (List.mem_append.1 hu).elim (act_ones u) (act_ones u))
  go_wp2_with (at_builtin; refine wpList_appT (T := [k]) rfl (.tmp 7) (.tmp 10) _ rfl 32 _ 11 152 Tryz.underlying24 action_info rfl (by omega) hA1.out hT.out NT.out rfl w1.heap.size 2 2 rfl rfl NW.out HONE.out (by omega) (by omega) ?_; intro A2 cap2 w2 hA2 hM2; simp only [Nat.zero_add, List.nil_append] at hA2 ⊢)
  have q2 := (q1.keep0 ((Chg.refl _ _).alloc _)).mid hM2 hk
  have HA2 := Lib.hid hA2
  clear NT NW HONE hA2 hM2 hA1 q1
  refine (LS.out _ q2).mono ?_
  rintro e w5 ⟨m, Am, cm, rfl, hm, hm1, hm6, hWm, _, q5⟩
  obtain ⟨gm, rfl, _⟩ := hm.row.2.2 (by omega)
  obtain ⟨us, nt, ul, un⟩ := hm.new.elems
  have HU := Lib.hid un
  have NT := Lib.hid nt
  have HL := Lib.hid (show us.length = m.length * 11 by rw [ul, flatMap_length_of actionF_len])
  have HO := Lib.hid (acts_ones nt)
  have r5 := hm.row.1
  have r6 := hm.row.2.1
  unfold maxLen at r6
  clear hm ul un nt
  go_wp2_with (at_builtin; refine wpList_appT (T := [k]) rfl (.tmp 12) (.tmp 14) _ rfl 32 _ 11 152 Tryz.underlying24 action_info rfl (by omega) HA2.out hT.out NT.out rfl gm m.length cm rfl HL.out HU.out HO.out (by omega) (by omega) ?_; intro A6 cap6 w6 hA6 hM6)
  have q6 := q5.mid hM6 hk
  have HA6 := Lib.hid hA6
  clear NT HL HU HO hA6 hM6 r5 r6 q5 HA2 q2
  go_loopw [3] (fun v wr => ∃ (l : List ActionT) (A : Option Addr) (cap : Nat), v = .slice A l.length cap ∧ Hid (AppT [k] w wr 32 11 (.slice A l.length cap) l.length (l.flatMap actionF)) ∧ Hid (actionsW l ≤ 26000) ∧ Hid (false = true → noL 10 3 l) ∧ l.length ≤ 100 ∧ Cur wr k) (fun v _ => match v with | .slice _ n _ => n | _ => 0)
  case atStart => exact ⟨[(.mk 1 0 0 ⟨#[114, 111, 98, 111, 116]⟩ ⟨⟨#[]⟩, ⟨#[]⟩, 0, ⟨#[]⟩⟩ 0 [] []), (.mk 1 1 0 ⟨#[100, 114, 97, 119, 101, 114]⟩ ⟨⟨#[]⟩, ⟨#[]⟩, 0, ⟨#[]⟩⟩ 0 [] [])] ++ m, A6, cap6, by rw [List.length_append]; rfl, Lib.hid (by have := HA6.out; rw [List.flatMap_append, List.length_append]; exact this), Lib.hid (by rw [actionsW_app]; have h13 : actionsW [(.mk 1 0 0 ⟨#[114, 111, 98, 111, 116]⟩ ⟨⟨#[]⟩, ⟨#[]⟩, 0, ⟨#[]⟩⟩ 0 [] []), (.mk 1 1 0 ⟨#[100, 114, 97, 119, 101, 114]⟩ ⟨⟨#[]⟩, ⟨#[]⟩, 0, ⟨#[]⟩⟩ 0 [] [])] ≤ 100 := (by decide); omega), Lib.hid (by simp), by simp; omega, q6⟩
  case round =>
   obtain ⟨l, A, cap, rfl, hA, hW, hP, hl, hq⟩ := hrel
   have IP := Lib.hid (isPlan_spec_law l _ _ wr (Nat.le_trans hW.out (by decide)) hA.out.new.rd (Nat.le_refl _))
   obtain ⟨r0, r1, r2⟩ := hA.out.row
   unfold maxLen at r1
   go_wp2_with fail
   refine IP.out.mono ?_
   rintro e w9 ⟨t, rfl, ht, c9⟩
   have hA9 := Lib.hid (hA.out.later (c9.mono (by simp)) hT.out)
   have q9 := hq.keep0 c9
   have HT := Lib.hid ht
   clear IP hA hq c9 ht
   cases t
   ·have hnp : ¬ PlanOk l := fun h => by have := HT.out.2 h; cases this
    cases hl2 : l with
    | nil => exact absurd (hl2 ▸ planOk_nil) hnp
    | cons a l2 =>
     obtain ⟨g, rfl, hg⟩ := r2 (by rw [hl2]; simp)
     have hlen : l.length = l2.length + 1 := by rw [hl2]; rfl
     have wl : IntKind.i64.wrap (((l2.length + 1 : Nat) : Int) - 1) = (l2.length : Int) := by rw [wr_id (by omega) (by omega)]; omega
     have hsh := Lib.hid (hA9.out.shrink (m := l2.length) (by omega))
     rw [flatMap_take actionF_len] at hsh
     have htl : Hid ((l.take l2.length).length = l2.length) := Lib.hid (by rw [List.length_take, hlen]; omega)
     have HN := Lib.hid hlen
     clear HT hnp r2
     subst hl2
     rw [List.length_cons] at r0 hl
     go_wp2_with fail
     go_roundw
     case rel => exact ⟨(a :: l2).take l2.length, _, cap, by rw [htl.out], by rw [htl.out]; exact hsh, Lib.hid (Nat.le_trans (actionsW_take _ _) hW.out), Lib.hid (fun h => noL_take _ (hP.out h)), by rw [htl.out]; omega, q9⟩
     case measure => simp
   ·go_wp2_with fail
    go_ret
    exact ⟨l, A, cap, rfl, hA9.out, (by have := HT.out; simpa using this), hW.out, hP.out, q9⟩
end Go.Proofs.YtdlkbomojjmnlaaGreatDoor
namespace Go.Proofs.YtdlkbomojjmnlaaGreatDoor
open Go.RowKit

end Go.Proofs.YtdlkbomojjmnlaaGreatDoor
