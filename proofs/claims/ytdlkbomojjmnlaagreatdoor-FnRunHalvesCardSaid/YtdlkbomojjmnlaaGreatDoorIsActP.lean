/- isSlot of the program, and what isAction leans on. / isAction of the program, for some kinds of actions. Conditions: the library's variables stand. Written by a program. / isAction of the program, for some kinds of actions. Conditions: the library's variables stand. Written by a program. / isAction of the program, for some kinds of actions. Conditions: the library's variables stand. Written by a program. / isAction of the program, for some kinds of actions. Conditions: the library's variables stand. Written by a program. / isAction and areActions of the program. Conditions: the library's variables stand. -/
import Derived.Test.YtdlkbomojjmnlaaGreatDoorIsActs
import Derived.Test.YtdlkbomojjmnlaaGreatDoorCellsAll
import Derived.Deep.Light
set_option maxRecDepth 100000
set_option maxHeartbeats 8000000
namespace Go.Proofs.YtdlkbomojjmnlaaGreatDoor
open Go.RowKit

theorem isSlot_any (n : Int) (w : World) :
    Calls Tryz.prog 122 #[.int .i64 n] w (BoolIs (SlotNo n) w) := by
  go_enter Tryz.func122, Tryz.ntmps122
  go_wp2_with fail
  all_goals (go_ret; refine ⟨_, rfl, ?_, rfl⟩; unfold SlotNo; simp; try omega)
end Go.Proofs.YtdlkbomojjmnlaaGreatDoor
namespace Go.Proofs.YtdlkbomojjmnlaaGreatDoor
open Go.RowKit

theorem isAction_1 (a : ActionT) (A1 A2 : Option Addr) (c1 c2 : Nat) (w : World) (h : a.op = 1) (hk : a.call.key.size ≤ 1048576) (ht : a.call.text.size ≤ 1048575) (hE : Env w) :
    Calls Tryz.prog 78 #[.agg #[.int .i64 a.op, .int .i64 a.slot, .int .i64 a.other, .string a.word, .string a.call.method, .string a.call.key, .int .i64 a.call.value, .string a.call.text, .int .i64 a.face, .slice A1 a.A.length c1, .slice A2 a.B.length c2]] w (BoolPost a.ok w) := by
  have IC := Lib.hid (fun W => isCall_impl_any a.call W hk)
  have PC := Lib.hid (fun W (hc : Chg [] w W) => parseCells_impl_any a.call.text W ht (hE.keep hc))
  have HA := Lib.hid (okS_1 h)
  clear hk ht hE
  obtain ⟨n1, n2, n3, n4, n5, n6, n7, n8, n9, n10⟩ := opIs_1 h
  clear h
  go_enter Tryz.func78, Tryz.ntmps78
  go_wp2_with fail
  obtain ⟨wb, hwb, db, sb, BX⟩ := act_box a A1 A2 c1 c2 w
  rw [← hwb]
  clear hwb
  obtain ⟨p0, p1, p2, p3, p4, p5, p6, p7, p8, p9, p10⟩ := BX.out _ (Chg.refl [] wb)
  refine (isSlot_any a.slot _).mono ?_
  rintro e w3 ⟨sl, rfl, hsl, rfl⟩
  have HS : Hid (sl = true ↔ SlotNo a.slot) := hsl
  have d3 : Chg [] w3 w3 := Chg.refl [] w3
  clear hsl
  cases sl
  all_goals
    go_wp2_with fail
    all_goals first
      | exact leafP (d3)
      | (refine (kindFace_impl_any a.word _).mono ?_
         rintro e w5 ⟨he, rfl⟩
         subst he
         obtain ⟨kb, hkb⟩ : ∃ b, b = (kindOf a.word).isSome := ⟨_, rfl⟩
         have HK : Hid (kb = true ↔ kindOf a.word ≠ none) := by show _ ↔ _; rw [hkb]; cases kindOf a.word <;> simp
         obtain ⟨kz, hkz⟩ : ∃ z, z = (kindOf a.word).getD 0 := ⟨_, rfl⟩
         rw [← hkb, ← hkz]
         clear hkb hkz
         cases kb
         all_goals
           go_wp2_with fail
           all_goals first
             | exact leafP (Chg.refl [] _)
             | (refine (fieldsFit_any a A1 A2 c1 c2 true false true false false false false flags_word rfl _).mono ?_; rintro e w4 ⟨t, rfl, ht4, c4⟩; go_wp2_with fail; all_goals exact leafP ((Chg.refl [] _).trans0 c4)))
theorem isAction_3 (a : ActionT) (A1 A2 : Option Addr) (c1 c2 : Nat) (w : World) (h : a.op = 3) (hk : a.call.key.size ≤ 1048576) (ht : a.call.text.size ≤ 1048575) (hE : Env w) :
    Calls Tryz.prog 78 #[.agg #[.int .i64 a.op, .int .i64 a.slot, .int .i64 a.other, .string a.word, .string a.call.method, .string a.call.key, .int .i64 a.call.value, .string a.call.text, .int .i64 a.face, .slice A1 a.A.length c1, .slice A2 a.B.length c2]] w (BoolPost a.ok w) := by
  have IC := Lib.hid (fun W => isCall_impl_any a.call W hk)
  have PC := Lib.hid (fun W (hc : Chg [] w W) => parseCells_impl_any a.call.text W ht (hE.keep hc))
  have HA := Lib.hid (okS_3 (.inl h))
  clear hk ht hE
  obtain ⟨n1, n2, n3, n4, n5, n6, n7, n8, n9, n10⟩ := opIs_3 h
  clear h
  go_enter Tryz.func78, Tryz.ntmps78
  go_wp2_with fail
  obtain ⟨wb, hwb, db, sb, BX⟩ := act_box a A1 A2 c1 c2 w
  rw [← hwb]
  clear hwb
  obtain ⟨p0, p1, p2, p3, p4, p5, p6, p7, p8, p9, p10⟩ := BX.out _ (Chg.refl [] wb)
  refine (isSlot_any a.slot _).mono ?_
  rintro e w3 ⟨sl, rfl, hsl, rfl⟩
  have HS : Hid (sl = true ↔ SlotNo a.slot) := hsl
  have d3 : Chg [] w3 w3 := Chg.refl [] w3
  clear hsl
  cases sl
  all_goals
    go_wp2_with fail
    all_goals first
      | exact leafP (d3)
      | (refine (fieldsFit_any a A1 A2 c1 c2 true false false false false false false flags_none rfl _).mono ?_; rintro e w4 ⟨t, rfl, ht4, c4⟩; go_wp2_with fail; all_goals exact leafP ((d3).trans0 c4))
theorem isAction_5 (a : ActionT) (A1 A2 : Option Addr) (c1 c2 : Nat) (w : World) (h : a.op = 5) (hk : a.call.key.size ≤ 1048576) (ht : a.call.text.size ≤ 1048575) (hE : Env w) :
    Calls Tryz.prog 78 #[.agg #[.int .i64 a.op, .int .i64 a.slot, .int .i64 a.other, .string a.word, .string a.call.method, .string a.call.key, .int .i64 a.call.value, .string a.call.text, .int .i64 a.face, .slice A1 a.A.length c1, .slice A2 a.B.length c2]] w (BoolPost a.ok w) := by
  have IC := Lib.hid (fun W => isCall_impl_any a.call W hk)
  have PC := Lib.hid (fun W (hc : Chg [] w W) => parseCells_impl_any a.call.text W ht (hE.keep hc))
  have HA := Lib.hid (okS_3 (.inr h))
  clear hk ht hE
  obtain ⟨n1, n2, n3, n4, n5, n6, n7, n8, n9, n10⟩ := opIs_5 h
  clear h
  go_enter Tryz.func78, Tryz.ntmps78
  go_wp2_with fail
  obtain ⟨wb, hwb, db, sb, BX⟩ := act_box a A1 A2 c1 c2 w
  rw [← hwb]
  clear hwb
  obtain ⟨p0, p1, p2, p3, p4, p5, p6, p7, p8, p9, p10⟩ := BX.out _ (Chg.refl [] wb)
  refine (isSlot_any a.slot _).mono ?_
  rintro e w3 ⟨sl, rfl, hsl, rfl⟩
  have HS : Hid (sl = true ↔ SlotNo a.slot) := hsl
  have d3 : Chg [] w3 w3 := Chg.refl [] w3
  clear hsl
  cases sl
  all_goals
    go_wp2_with fail
    all_goals first
      | exact leafP (d3)
      | (refine (fieldsFit_any a A1 A2 c1 c2 true false false false false false false flags_none rfl _).mono ?_; rintro e w4 ⟨t, rfl, ht4, c4⟩; go_wp2_with fail; all_goals exact leafP ((d3).trans0 c4))
end Go.Proofs.YtdlkbomojjmnlaaGreatDoor
namespace Go.Proofs.YtdlkbomojjmnlaaGreatDoor
open Go.RowKit

theorem isAction_2 (a : ActionT) (A1 A2 : Option Addr) (c1 c2 : Nat) (w : World) (h : a.op = 2) (hk : a.call.key.size ≤ 1048576) (ht : a.call.text.size ≤ 1048575) (hE : Env w) :
    Calls Tryz.prog 78 #[.agg #[.int .i64 a.op, .int .i64 a.slot, .int .i64 a.other, .string a.word, .string a.call.method, .string a.call.key, .int .i64 a.call.value, .string a.call.text, .int .i64 a.face, .slice A1 a.A.length c1, .slice A2 a.B.length c2]] w (BoolPost a.ok w) := by
  have IC := Lib.hid (fun W => isCall_impl_any a.call W hk)
  have PC := Lib.hid (fun W (hc : Chg [] w W) => parseCells_impl_any a.call.text W ht (hE.keep hc))
  have HA := Lib.hid (okS_2 h)
  clear hk ht hE
  obtain ⟨n1, n2, n3, n4, n5, n6, n7, n8, n9, n10⟩ := opIs_2 h
  clear h
  go_enter Tryz.func78, Tryz.ntmps78
  go_wp2_with fail
  obtain ⟨wb, hwb, db, sb, BX⟩ := act_box a A1 A2 c1 c2 w
  rw [← hwb]
  clear hwb
  obtain ⟨p0, p1, p2, p3, p4, p5, p6, p7, p8, p9, p10⟩ := BX.out _ (Chg.refl [] wb)
  refine (isSlot_any a.slot _).mono ?_
  rintro e w3 ⟨sl, rfl, hsl, rfl⟩
  have HS : Hid (sl = true ↔ SlotNo a.slot) := hsl
  have d3 : Chg [] w3 w3 := Chg.refl [] w3
  clear hsl
  cases sl
  all_goals
    go_wp2_with fail
    all_goals first
      | exact leafP (d3)
      | (refine (layerFaces_impl_any a.word _).mono ?_
         rintro e w5 ⟨he, rfl⟩
         subst he
         obtain ⟨kb, hkb⟩ : ∃ b, b = (layerOf a.word).isSome := ⟨_, rfl⟩
         have HK : Hid (kb = true ↔ layerOf a.word ≠ none) := by show _ ↔ _; rw [hkb]; cases layerOf a.word <;> simp
         obtain ⟨kz, hkz⟩ : ∃ z, z = ((layerOf a.word).getD (0, 0)).1 := ⟨_, rfl⟩
         obtain ⟨ky, hky⟩ : ∃ z, z = ((layerOf a.word).getD (0, 0)).2 := ⟨_, rfl⟩
         rw [← hkb, ← hkz, ← hky]
         clear hkb hkz hky
         cases kb
         all_goals
           go_wp2_with fail
           all_goals first
             | exact leafP (Chg.refl [] _)
             | (refine (fieldsFit_any a A1 A2 c1 c2 true false true false false false false flags_word rfl _).mono ?_; rintro e w4 ⟨t, rfl, ht4, c4⟩; go_wp2_with fail; all_goals exact leafP ((Chg.refl [] _).trans0 c4)))
theorem isAction_4 (a : ActionT) (A1 A2 : Option Addr) (c1 c2 : Nat) (w : World) (h : a.op = 4) (hk : a.call.key.size ≤ 1048576) (ht : a.call.text.size ≤ 1048575) (hE : Env w) :
    Calls Tryz.prog 78 #[.agg #[.int .i64 a.op, .int .i64 a.slot, .int .i64 a.other, .string a.word, .string a.call.method, .string a.call.key, .int .i64 a.call.value, .string a.call.text, .int .i64 a.face, .slice A1 a.A.length c1, .slice A2 a.B.length c2]] w (BoolPost a.ok w) := by
  have IC := Lib.hid (fun W => isCall_impl_any a.call W hk)
  have PC := Lib.hid (fun W (hc : Chg [] w W) => parseCells_impl_any a.call.text W ht (hE.keep hc))
  have HA := Lib.hid (okS_4 h)
  clear hk ht hE
  obtain ⟨n1, n2, n3, n4, n5, n6, n7, n8, n9, n10⟩ := opIs_4 h
  clear h
  go_enter Tryz.func78, Tryz.ntmps78
  go_wp2_with fail
  obtain ⟨wb, hwb, db, sb, BX⟩ := act_box a A1 A2 c1 c2 w
  rw [← hwb]
  clear hwb
  obtain ⟨p0, p1, p2, p3, p4, p5, p6, p7, p8, p9, p10⟩ := BX.out _ (Chg.refl [] wb)
  refine (isSlot_any a.slot _).mono ?_
  rintro e w3 ⟨sl, rfl, hsl, rfl⟩
  have HS : Hid (sl = true ↔ SlotNo a.slot) := hsl
  have d3 : Chg [] w3 w3 := Chg.refl [] w3
  clear hsl
  cases sl
  all_goals
    go_wp2_with fail
    all_goals first
      | exact leafP (d3)
      | (refine (isSlot_any a.other _).mono ?_
         rintro e w5 ⟨t5, rfl, ht5, rfl⟩
         have hh5 : t5 = true ↔ SlotNo a.other := ht5; clear ht5
         cases t5
         all_goals
           simp at hh5
           go_wp2_with fail
           all_goals first
             | exact leafP (d3)
             | (refine (fieldsFit_any a A1 A2 c1 c2 true true false false false false false flags_other rfl _).mono ?_; rintro e w4 ⟨t, rfl, ht4, c4⟩; go_wp2_with fail; all_goals exact leafP ((d3).trans0 c4)))
theorem isAction_6 (a : ActionT) (A1 A2 : Option Addr) (c1 c2 : Nat) (w : World) (h : a.op = 6) (hk : a.call.key.size ≤ 1048576) (ht : a.call.text.size ≤ 1048575) (hE : Env w) :
    Calls Tryz.prog 78 #[.agg #[.int .i64 a.op, .int .i64 a.slot, .int .i64 a.other, .string a.word, .string a.call.method, .string a.call.key, .int .i64 a.call.value, .string a.call.text, .int .i64 a.face, .slice A1 a.A.length c1, .slice A2 a.B.length c2]] w (BoolPost a.ok w) := by
  have IC := Lib.hid (fun W => isCall_impl_any a.call W hk)
  have PC := Lib.hid (fun W (hc : Chg [] w W) => parseCells_impl_any a.call.text W ht (hE.keep hc))
  have HA := Lib.hid (okS_6 h)
  clear hk ht hE
  obtain ⟨n1, n2, n3, n4, n5, n6, n7, n8, n9, n10⟩ := opIs_6 h
  clear h
  go_enter Tryz.func78, Tryz.ntmps78
  go_wp2_with fail
  obtain ⟨wb, hwb, db, sb, BX⟩ := act_box a A1 A2 c1 c2 w
  rw [← hwb]
  clear hwb
  obtain ⟨p0, p1, p2, p3, p4, p5, p6, p7, p8, p9, p10⟩ := BX.out _ (Chg.refl [] wb)
  refine (isSlot_any a.slot _).mono ?_
  rintro e w3 ⟨sl, rfl, hsl, rfl⟩
  have HS : Hid (sl = true ↔ SlotNo a.slot) := hsl
  have d3 : Chg [] w3 w3 := Chg.refl [] w3
  clear hsl
  cases sl
  all_goals
    go_wp2_with fail
    all_goals first
      | exact leafP (d3)
      | (refine (isFace_impl_any a.face _).mono ?_
         rintro e w5 ⟨t5, rfl, hh5, rfl⟩
         skip
         cases t5
         all_goals
           simp at hh5
           go_wp2_with fail
           all_goals first
             | exact leafP (d3)
             | (refine (fieldsFit_any a A1 A2 c1 c2 true false false false true false false flags_face rfl _).mono ?_; rintro e w4 ⟨t, rfl, ht4, c4⟩; go_wp2_with fail; all_goals exact leafP ((d3).trans0 c4)))
end Go.Proofs.YtdlkbomojjmnlaaGreatDoor
namespace Go.Proofs.YtdlkbomojjmnlaaGreatDoor
open Go.RowKit

theorem isAction_7 (a : ActionT) (A1 A2 : Option Addr) (c1 c2 : Nat) (w : World) (h : a.op = 7) (hk : a.call.key.size ≤ 1048576) (ht : a.call.text.size ≤ 1048575) (hE : Env w) :
    Calls Tryz.prog 78 #[.agg #[.int .i64 a.op, .int .i64 a.slot, .int .i64 a.other, .string a.word, .string a.call.method, .string a.call.key, .int .i64 a.call.value, .string a.call.text, .int .i64 a.face, .slice A1 a.A.length c1, .slice A2 a.B.length c2]] w (BoolPost a.ok w) := by
  have IC := Lib.hid (fun W => isCall_impl_any a.call W hk)
  have PC := Lib.hid (fun W (hc : Chg [] w W) => parseCells_impl_any a.call.text W ht (hE.keep hc))
  have HA := Lib.hid (show a.ok ↔ SlotNo a.slot ∧ (CallOk a.call ∧ (a.call.text.toList = [] ∨ parseCells a.call.text ≠ none)) ∧ FieldsOk a false false true false false false from by rw [okS_7 h]; unfold PlanCall; rw [nil_size])
  clear hk ht hE
  obtain ⟨n1, n2, n3, n4, n5, n6, n7, n8, n9, n10⟩ := opIs_7 h
  clear h
  go_enter Tryz.func78, Tryz.ntmps78
  go_wp2_with fail
  obtain ⟨wb, hwb, db, sb, BX⟩ := act_box a A1 A2 c1 c2 w
  rw [← hwb]
  clear hwb
  obtain ⟨p0, p1, p2, p3, p4, p5, p6, p7, p8, p9, p10⟩ := BX.out _ (Chg.refl [] wb)
  refine (isSlot_any a.slot _).mono ?_
  rintro e w3 ⟨sl, rfl, hsl, rfl⟩
  have HS : Hid (sl = true ↔ SlotNo a.slot) := hsl
  have d3 : Chg [] w3 w3 := Chg.refl [] w3
  clear hsl
  cases sl
  all_goals
    go_wp2_with fail
    all_goals first
      | exact leafP (d3)
      | (refine (IC.out _).mono ?_
         rintro e w6 ⟨t6, rfl, hh6, k6⟩
         have d6 : Chg [] w3 w6 := (Chg.refl [] _).trans0 k6
         (try clear p0 p1 p2 p3 p4 p5 p6 p7 p8 p9 p10)
         obtain ⟨p0, p1, p2, p3, p4, p5, p6, p7, p8, p9, p10⟩ := BX.out _ d6
         cases t6
         all_goals
           simp at hh6
           go_wp2_with fail
           all_goals first
             | exact leafP (d6)
             | (refine (fieldsFit_any a A1 A2 c1 c2 true false false true false false false flags_call rfl _).mono ?_; rintro e w4 ⟨t, rfl, ht4, c4⟩; go_wp2_with fail; all_goals exact leafP ((d6).trans0 c4)))
      | (refine (PC.out _ db).mono ?_
         rintro e w5 ⟨l5, X5, cap5, _, rfl, n5⟩
         have d5 : Chg [] w3 w5 := n5.chg
         clear n5 p0 p1 p2 p3 p4 p5 p6 p7 p8 p9 p10
         obtain ⟨p0, p1, p2, p3, p4, p5, p6, p7, p8, p9, p10⟩ := BX.out _ d5
         obtain ⟨ok, hok⟩ : ∃ ok, ok = (parseCells a.call.text).isSome := ⟨_, rfl⟩
         have HT : Hid (parseCells a.call.text ≠ none ↔ ok = true) := by show _ ↔ _; rw [hok]; cases parseCells a.call.text <;> simp
         rw [← hok]
         clear hok
         cases ok
         all_goals
           go_wp2_with fail
           all_goals first
             | exact leafP (d5)
             | (refine (IC.out _).mono ?_
                rintro e w6 ⟨t6, rfl, hh6, k6⟩
                have d6 : Chg [] w3 w6 := (d5).trans0 k6
                (try clear p0 p1 p2 p3 p4 p5 p6 p7 p8 p9 p10)
                obtain ⟨p0, p1, p2, p3, p4, p5, p6, p7, p8, p9, p10⟩ := BX.out _ d6
                cases t6
                all_goals
                  simp at hh6
                  go_wp2_with fail
                  all_goals first
                    | exact leafP (d6)
                    | (refine (fieldsFit_any a A1 A2 c1 c2 true false false true false false false flags_call rfl _).mono ?_; rintro e w4 ⟨t, rfl, ht4, c4⟩; go_wp2_with fail; all_goals exact leafP ((d6).trans0 c4))))
theorem isAction_no (a : ActionT) (A1 A2 : Option Addr) (c1 c2 : Nat) (w : World) (h : ¬ (1 ≤ a.op ∧ a.op ≤ 10) ∧ OpIs a.op false false false false false false false false false false) (hk : a.call.key.size ≤ 1048576) (ht : a.call.text.size ≤ 1048575) (hE : Env w) :
    Calls Tryz.prog 78 #[.agg #[.int .i64 a.op, .int .i64 a.slot, .int .i64 a.other, .string a.word, .string a.call.method, .string a.call.key, .int .i64 a.call.value, .string a.call.text, .int .i64 a.face, .slice A1 a.A.length c1, .slice A2 a.B.length c2]] w (BoolPost a.ok w) := by
  have IC := Lib.hid (fun W => isCall_impl_any a.call W hk)
  have PC := Lib.hid (fun W (hc : Chg [] w W) => parseCells_impl_any a.call.text W ht (hE.keep hc))
  have HA := Lib.hid (show ¬ a.ok from fun k => h.1 (ok_op k))
  clear hk ht hE
  obtain ⟨_, n1, n2, n3, n4, n5, n6, n7, n8, n9, n10⟩ := h
  go_enter Tryz.func78, Tryz.ntmps78
  go_wp2_with fail
  obtain ⟨wb, hwb, db, sb, BX⟩ := act_box a A1 A2 c1 c2 w
  rw [← hwb]
  clear hwb
  obtain ⟨p0, p1, p2, p3, p4, p5, p6, p7, p8, p9, p10⟩ := BX.out _ (Chg.refl [] wb)
  refine (isSlot_any a.slot _).mono ?_
  rintro e w3 ⟨sl, rfl, hsl, rfl⟩
  have HS : Hid (sl = true ↔ SlotNo a.slot) := hsl
  have d3 : Chg [] w3 w3 := Chg.refl [] w3
  clear hsl
  cases sl
  all_goals
    go_wp2_with fail
    go_ret
    exact BoolPost.of ⟨fun h => by simp at h, fun h => absurd h HA.out⟩ db
end Go.Proofs.YtdlkbomojjmnlaaGreatDoor
namespace Go.Proofs.YtdlkbomojjmnlaaGreatDoor
open Go.RowKit

theorem isAction_8 (a : ActionT) (A1 A2 : Option Addr) (c1 c2 : Nat) (w : World) (h : a.op = 8) (hk : a.call.key.size ≤ 1048576) (ht : a.call.text.size ≤ 1048575) (hE : Env w) (ia : ∀ W, Chg [] w W → Calls Tryz.prog 44 #[.slice A1 a.A.length c1] W (BoolPost (okL a.A) W)) (ib : ∀ W, Chg [] w W → Calls Tryz.prog 44 #[.slice A2 a.B.length c2] W (BoolPost (okL a.B) W)) :
    Calls Tryz.prog 78 #[.agg #[.int .i64 a.op, .int .i64 a.slot, .int .i64 a.other, .string a.word, .string a.call.method, .string a.call.key, .int .i64 a.call.value, .string a.call.text, .int .i64 a.face, .slice A1 a.A.length c1, .slice A2 a.B.length c2]] w (BoolPost a.ok w) := by
  have IC := Lib.hid (fun W => isCall_impl_any a.call W hk)
  have PC := Lib.hid (fun W (hc : Chg [] w W) => parseCells_impl_any a.call.text W ht (hE.keep hc))
  have HA := Lib.hid (show a.ok ↔ SlotNo a.slot ∧ (a.slot = 0 ∧ FieldsOk a false false false false true true) ∧ okL a.A ∧ okL a.B from (okS_8 (.inl h)).trans ⟨fun k => ⟨by rw [k.1.1]; exact slotNo_zero, k⟩, fun k => k.2⟩)
  have IA := Lib.hid ia
  have IB := Lib.hid ib
  clear ia ib
  clear hk ht hE
  obtain ⟨n1, n2, n3, n4, n5, n6, n7, n8, n9, n10⟩ := opIs_8 h
  clear h
  go_enter Tryz.func78, Tryz.ntmps78
  go_wp2_with fail
  obtain ⟨wb, hwb, db, sb, BX⟩ := act_box a A1 A2 c1 c2 w
  rw [← hwb]
  clear hwb
  obtain ⟨p0, p1, p2, p3, p4, p5, p6, p7, p8, p9, p10⟩ := BX.out _ (Chg.refl [] wb)
  refine (isSlot_any a.slot _).mono ?_
  rintro e w3 ⟨sl, rfl, hsl, rfl⟩
  have HS : Hid (sl = true ↔ SlotNo a.slot) := hsl
  have d3 : Chg [] w3 w3 := Chg.refl [] w3
  clear hsl
  cases sl
  all_goals
    go_wp2_with fail
    all_goals first
      | exact leafP (d3)
      | (refine (fieldsFit_any a A1 A2 c1 c2 false false false false false true true flags_two rfl _).mono ?_
         rintro e w4 ⟨t, rfl, ht4, k4⟩
         have d4 : Chg [] w3 w4 := k4
         clear p0 p1 p2 p3 p4 p5 p6 p7 p8 p9 p10
         obtain ⟨p0, p1, p2, p3, p4, p5, p6, p7, p8, p9, p10⟩ := BX.out _ d4
         cases t
         all_goals
           simp at ht4
           go_wp2_with fail
           all_goals first
             | exact leafP (d4)
             | (refine (IA.out _ (db.trans0 d4)).mono ?_
                rintro e w5 ⟨t5, rfl, hh5, k5⟩
                have d5 : Chg [] w3 w5 := d4.trans0 k5
                clear p0 p1 p2 p3 p4 p5 p6 p7 p8 p9 p10
                obtain ⟨p0, p1, p2, p3, p4, p5, p6, p7, p8, p9, p10⟩ := BX.out _ d5
                cases t5
                all_goals
                  simp at hh5
                  go_wp2_with fail
                  all_goals first
                    | exact leafP (d5)
                    | (refine (IB.out _ (db.trans0 d5)).mono ?_; rintro e w6 ⟨t6, rfl, ht6, k6⟩; go_wp2_with fail; all_goals exact leafP (d5.trans0 k6))))
theorem isAction_10 (a : ActionT) (A1 A2 : Option Addr) (c1 c2 : Nat) (w : World) (h : a.op = 10) (hk : a.call.key.size ≤ 1048576) (ht : a.call.text.size ≤ 1048575) (hE : Env w) (ia : ∀ W, Chg [] w W → Calls Tryz.prog 44 #[.slice A1 a.A.length c1] W (BoolPost (okL a.A) W)) (ib : ∀ W, Chg [] w W → Calls Tryz.prog 44 #[.slice A2 a.B.length c2] W (BoolPost (okL a.B) W)) :
    Calls Tryz.prog 78 #[.agg #[.int .i64 a.op, .int .i64 a.slot, .int .i64 a.other, .string a.word, .string a.call.method, .string a.call.key, .int .i64 a.call.value, .string a.call.text, .int .i64 a.face, .slice A1 a.A.length c1, .slice A2 a.B.length c2]] w (BoolPost a.ok w) := by
  have IC := Lib.hid (fun W => isCall_impl_any a.call W hk)
  have PC := Lib.hid (fun W (hc : Chg [] w W) => parseCells_impl_any a.call.text W ht (hE.keep hc))
  have HA := Lib.hid (show a.ok ↔ SlotNo a.slot ∧ (a.slot = 0 ∧ FieldsOk a false false false false true true) ∧ okL a.A ∧ okL a.B from (okS_8 (.inr h)).trans ⟨fun k => ⟨by rw [k.1.1]; exact slotNo_zero, k⟩, fun k => k.2⟩)
  have IA := Lib.hid ia
  have IB := Lib.hid ib
  clear ia ib
  clear hk ht hE
  obtain ⟨n1, n2, n3, n4, n5, n6, n7, n8, n9, n10⟩ := opIs_10 h
  clear h
  go_enter Tryz.func78, Tryz.ntmps78
  go_wp2_with fail
  obtain ⟨wb, hwb, db, sb, BX⟩ := act_box a A1 A2 c1 c2 w
  rw [← hwb]
  clear hwb
  obtain ⟨p0, p1, p2, p3, p4, p5, p6, p7, p8, p9, p10⟩ := BX.out _ (Chg.refl [] wb)
  refine (isSlot_any a.slot _).mono ?_
  rintro e w3 ⟨sl, rfl, hsl, rfl⟩
  have HS : Hid (sl = true ↔ SlotNo a.slot) := hsl
  have d3 : Chg [] w3 w3 := Chg.refl [] w3
  clear hsl
  cases sl
  all_goals
    go_wp2_with fail
    all_goals first
      | exact leafP (d3)
      | (refine (fieldsFit_any a A1 A2 c1 c2 false false false false false true true flags_two rfl _).mono ?_
         rintro e w4 ⟨t, rfl, ht4, k4⟩
         have d4 : Chg [] w3 w4 := k4
         clear p0 p1 p2 p3 p4 p5 p6 p7 p8 p9 p10
         obtain ⟨p0, p1, p2, p3, p4, p5, p6, p7, p8, p9, p10⟩ := BX.out _ d4
         cases t
         all_goals
           simp at ht4
           go_wp2_with fail
           all_goals first
             | exact leafP (d4)
             | (refine (IA.out _ (db.trans0 d4)).mono ?_
                rintro e w5 ⟨t5, rfl, hh5, k5⟩
                have d5 : Chg [] w3 w5 := d4.trans0 k5
                clear p0 p1 p2 p3 p4 p5 p6 p7 p8 p9 p10
                obtain ⟨p0, p1, p2, p3, p4, p5, p6, p7, p8, p9, p10⟩ := BX.out _ d5
                cases t5
                all_goals
                  simp at hh5
                  go_wp2_with fail
                  all_goals first
                    | exact leafP (d5)
                    | (refine (IB.out _ (db.trans0 d5)).mono ?_; rintro e w6 ⟨t6, rfl, ht6, k6⟩; go_wp2_with fail; all_goals exact leafP (d5.trans0 k6))))
theorem isAction_9 (a : ActionT) (A1 A2 : Option Addr) (c1 c2 : Nat) (w : World) (h : a.op = 9) (hk : a.call.key.size ≤ 1048576) (ht : a.call.text.size ≤ 1048575) (hE : Env w) (ia : ∀ W, Chg [] w W → Calls Tryz.prog 44 #[.slice A1 a.A.length c1] W (BoolPost (okL a.A) W)) (ib : ∀ W, Chg [] w W → Calls Tryz.prog 44 #[.slice A2 a.B.length c2] W (BoolPost (okL a.B) W)) :
    Calls Tryz.prog 78 #[.agg #[.int .i64 a.op, .int .i64 a.slot, .int .i64 a.other, .string a.word, .string a.call.method, .string a.call.key, .int .i64 a.call.value, .string a.call.text, .int .i64 a.face, .slice A1 a.A.length c1, .slice A2 a.B.length c2]] w (BoolPost a.ok w) := by
  have IC := Lib.hid (fun W => isCall_impl_any a.call W hk)
  have PC := Lib.hid (fun W (hc : Chg [] w W) => parseCells_impl_any a.call.text W ht (hE.keep hc))
  have HA := Lib.hid (show a.ok ↔ SlotNo a.slot ∧ (a.slot = 0 ∧ FieldsOk a false false false false true false) ∧ okL a.A from (okS_9 h).trans ⟨fun k => ⟨by rw [k.1.1]; exact slotNo_zero, k⟩, fun k => k.2⟩)
  have IA := Lib.hid ia
  have IB := Lib.hid ib
  clear ia ib
  clear hk ht hE
  obtain ⟨n1, n2, n3, n4, n5, n6, n7, n8, n9, n10⟩ := opIs_9 h
  clear h
  go_enter Tryz.func78, Tryz.ntmps78
  go_wp2_with fail
  obtain ⟨wb, hwb, db, sb, BX⟩ := act_box a A1 A2 c1 c2 w
  rw [← hwb]
  clear hwb
  obtain ⟨p0, p1, p2, p3, p4, p5, p6, p7, p8, p9, p10⟩ := BX.out _ (Chg.refl [] wb)
  refine (isSlot_any a.slot _).mono ?_
  rintro e w3 ⟨sl, rfl, hsl, rfl⟩
  have HS : Hid (sl = true ↔ SlotNo a.slot) := hsl
  have d3 : Chg [] w3 w3 := Chg.refl [] w3
  clear hsl
  cases sl
  all_goals
    go_wp2_with fail
    all_goals first
      | exact leafP (d3)
      | (refine (fieldsFit_any a A1 A2 c1 c2 false false false false false true false flags_one rfl _).mono ?_
         rintro e w4 ⟨t, rfl, ht4, k4⟩
         have d4 : Chg [] w3 w4 := k4
         clear p0 p1 p2 p3 p4 p5 p6 p7 p8 p9 p10
         obtain ⟨p0, p1, p2, p3, p4, p5, p6, p7, p8, p9, p10⟩ := BX.out _ d4
         cases t
         all_goals
           simp at ht4
           go_wp2_with fail
           all_goals first
             | exact leafP (d4)
             | (refine (IA.out _ (db.trans0 d4)).mono ?_; rintro e w5 ⟨t5, rfl, hh5, k5⟩; go_wp2_with fail; all_goals exact leafP (d4.trans0 k5)))
end Go.Proofs.YtdlkbomojjmnlaaGreatDoor
namespace Go.Proofs.YtdlkbomojjmnlaaGreatDoor
open Go.RowKit

/-- How great what is in an action of a list may be. -/
theorem actionsW_in {l : List ActionT} (h : actionsW l ≤ 1048576) {a : ActionT} (ha : a ∈ l) : actionsW a.A ≤ 1048576 ∧ actionsW a.B ≤ 1048576 ∧ a.call.key.size ≤ 1048576 ∧ a.call.text.size ≤ 1048575 ∧ a.word.size ≤ 1048575 := by
  have h1 : actionW a ≤ actionsW1 l := sum_mem actionW ha
  have h2 := actionW_eq a
  have h3 : 0 < l.length := List.length_pos_of_mem ha
  unfold actionsW at h
  unfold callW at h2
  refine ⟨?_, ?_, ?_, ?_, ?_⟩ <;> omega
theorem isAction_any (a : ActionT) (A1 A2 : Option Addr) (c1 c2 : Nat) (w : World) (hk : a.call.key.size ≤ 1048576) (ht : a.call.text.size ≤ 1048575) (hE : Env w)
    (ia : ∀ W, Chg [] w W → Calls Tryz.prog 44 #[.slice A1 a.A.length c1] W (BoolPost (okL a.A) W)) (ib : ∀ W, Chg [] w W → Calls Tryz.prog 44 #[.slice A2 a.B.length c2] W (BoolPost (okL a.B) W)) :
    Calls Tryz.prog 78 #[.agg #[.int .i64 a.op, .int .i64 a.slot, .int .i64 a.other, .string a.word, .string a.call.method, .string a.call.key, .int .i64 a.call.value, .string a.call.text, .int .i64 a.face, .slice A1 a.A.length c1, .slice A2 a.B.length c2]] w (BoolPost a.ok w) := by
  rcases op_cases a.op with (h | h | h | h | h | h | h | h | h | h) | h
  · exact isAction_1 a A1 A2 c1 c2 w h hk ht hE
  · exact isAction_2 a A1 A2 c1 c2 w h hk ht hE
  · exact isAction_3 a A1 A2 c1 c2 w h hk ht hE
  · exact isAction_4 a A1 A2 c1 c2 w h hk ht hE
  · exact isAction_5 a A1 A2 c1 c2 w h hk ht hE
  · exact isAction_6 a A1 A2 c1 c2 w h hk ht hE
  · exact isAction_7 a A1 A2 c1 c2 w h hk ht hE
  · exact isAction_8 a A1 A2 c1 c2 w h hk ht hE ia ib
  · exact isAction_9 a A1 A2 c1 c2 w h hk ht hE ia ib
  · exact isAction_10 a A1 A2 c1 c2 w h hk ht hE ia ib
  · exact isAction_no a A1 A2 c1 c2 w h hk ht hE
def AreActs (l : List ActionT) : Prop := ∀ (u : Value) (B : Nat) (w : World), Env w → actionsW l ≤ 1048576 → Rd w B (actions l) u → B ≤ w.heap.size →
  Calls Tryz.prog 44 #[u] w (BoolPost (okL l) w)
theorem areActions_any : ∀ l, AreActs l := by
  refine ActionT.ind fun l ih => ?_
  intro u B w hE hW hr hB
  obtain ⟨A, cap, rfl, h0, h1, hrow⟩ := actions_row hr
  unfold maxLen at h1
  have IH := Lib.hid ih
  have HW := Lib.hid hW
  have HE := Lib.hid hE
  have HO := Lib.hid (okL_iff l)
  clear ih hr hE hW
  go_enter Tryz.func44, Tryz.ntmps44
  go_wp2_with fail
  go_loopw [7] (fun i wr => ∃ k : Nat, k ≤ l.length ∧ i = .int .i64 k ∧ Hid (∀ (j : Nat) (h : j < l.length), j < k → l[j].ok) ∧ Chg [] w wr) (fun i _ => l.length - (intOf i).toNat)
  case atStart => exact ⟨0, Nat.zero_le _, rfl, fun j h h0 => absurd h0 (Nat.not_lt_zero _), Chg.refl _ _⟩
  case round =>
    obtain ⟨k, hk, rfl, HN, hc⟩ := hrel
    by_cases hlt : k < l.length
    · obtain ⟨b, off, uA, uB, rfl, hb, q0, q1, q2, q3, q4, q5, q6, q7, q8, q9, q10, rA, rB⟩ := actions_cells (hrow.chg0 hc hB) k hlt
      obtain ⟨A1, cap1, rfl, _, _, _⟩ := actions_row rA
      obtain ⟨A2, cap2, rfl, _, _, _⟩ := actions_row rB
      have hmem := List.getElem_mem hlt
      have hin := actionsW_in HW.out hmem
      have hcs := hc.size
      have IS := Lib.hid (fun W (hW : Chg [] wr W) => isAction_any l[k] A1 A2 cap1 cap2 W hin.2.2.1 hin.2.2.2.1 (HE.out.keep (hc.trans0 hW))
        (fun V hV => (IH.out _ hmem).1 _ B V (HE.out.keep ((hc.trans0 hW).trans0 hV)) hin.1 (rA.chg0 (hW.trans0 hV) (by omega)) (by have := hW.size; have := hV.size; omega))
        (fun V hV => (IH.out _ hmem).2 _ B V (HE.out.keep ((hc.trans0 hW).trans0 hV)) hin.2.1 (rB.chg0 (hW.trans0 hV) (by omega)) (by have := hW.size; have := hV.size; omega)))
      go_wp2_with fail
      refine (IS.out _ ((Chg.refl _ _).alloc _)).mono ?_
      rintro e w1 ⟨t, rfl, ht, c1⟩
      have HT := Lib.hid ht
      have d1 : Chg [] w w1 := hc.trans0 (((Chg.refl _ _).alloc _).trans0 c1)
      clear ht c1
      cases t
      · go_wp2_with fail
        go_ret
        exact BoolPost.of ⟨fun h => by simp at h, fun h => by have := HT.out.2 (HO.out.1 h _ hmem); simp at this⟩ d1
      · go_wp2_with fail
        go_roundw
        case rel => exact ⟨k + 1, by omega, by go_num, Lib.hid (fun j h hj => (Nat.lt_succ_iff_lt_or_eq.1 hj).elim (HN.out j h) (fun e => by subst e; exact HT.out.1 (by simp))), d1⟩
        case measure => simp [intOf]; omega
    · obtain rfl : k = l.length := by omega
      go_wp2_with fail
      go_ret
      refine BoolPost.of ⟨fun _ => HO.out.2 fun a ha => ?_, fun _ => rfl⟩ hc
      obtain ⟨j, hj, rfl⟩ := List.getElem_of_mem ha
      exact HN.out j hj hj
end Go.Proofs.YtdlkbomojjmnlaaGreatDoor
