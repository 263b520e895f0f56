/- l8Call, l8Action, l8All of the reference. / l8Action of the reference, for some kinds of actions. Written by a program. / l8Action of the reference, for some kinds of actions. Written by a program. / l8Action of the reference, for some kinds of actions. Written by a program. / l8Action of the reference, for some kinds of actions. Written by a program. / l8Action and l8All of the reference. -/
import Derived.Test.YtldpibnfhomfgaaGreatDoorActOks
import Derived.Test.YtldpibnfhomfgaaGreatDoorFits
import Derived.Test.YtldpibnfhomfgaaGreatDoorCallR
import Derived.Test.YtldpibnfhomfgaaGreatDoorCellsAll
import Derived.Deep.Light
namespace Go.Proofs.YtldpibnfhomfgaaGreatDoor
open Go.RowKit

theorem BoolPost.of {p : Prop} {t : Bool} {w w' : World} (h : t = true ↔ p) (hc : Chg [] w w') : BoolPost p w (.returned (.bool t)) w' := ⟨t, rfl, h, hc⟩
theorem flags_word : Flags false true false false false false := by unfold Flags; decide
theorem flags_none : Flags false false false false false false := by unfold Flags; decide
theorem flags_other : Flags true false false false false false := by unfold Flags; decide
theorem flags_face : Flags false false false true false false := by unfold Flags; decide
theorem flags_call : Flags false false true false false false := by unfold Flags; decide
theorem flags_two : Flags false false false false true true := by unfold Flags; decide
theorem flags_one : Flags false false false false true false := by unfold Flags; decide
set_option maxRecDepth 100000 in
set_option maxHeartbeats 4000000 in
theorem l8Call_any (x : CallT) (w : World) (hk : x.key.size ≤ 1048576) (ht : x.text.size ≤ 1048575) :
    Calls Tryz.prog 76 #[.agg #[.string x.method, .string x.key, .int .i64 x.value, .string x.text]] w (BoolPost (PlanCall x) w) := by
  have PC := Lib.hid (fun W => parseCells_spec_any x.text W ht)
  have IC := Lib.hid (fun W => isCall_spec_any x W hk)
  have HP : Hid (PlanCall x ↔ CallOk x ∧ (x.text.toList = [] ∨ (parseCells x.text).isSome = true)) := by
    show _ ↔ _
    unfold PlanCall
    rw [nil_size]
    cases parseCells x.text <;> simp
  go_enter Tryz.func76, Tryz.ntmps76
  go_wp2_with fail
  refine (PC.out _).mono ?_
  rintro e w1 ⟨l, A, cap, _, rfl, n1⟩
  have c1 := n1.chg
  clear n1
  have p0 : w1.cell? ⟨w.heap.size, 0, none⟩ = some (.string x.method) := (c1.cell (p := ⟨w.heap.size, 0, none⟩) (by simp) (by simp)).trans (by go_simp)
  have p1 : w1.cell? ⟨w.heap.size, 1, none⟩ = some (.string x.key) := (c1.cell (p := ⟨w.heap.size, 1, none⟩) (by simp) (by simp)).trans (by go_simp)
  have p2 : w1.cell? ⟨w.heap.size, 2, none⟩ = some (.int .i64 x.value) := (c1.cell (p := ⟨w.heap.size, 2, none⟩) (by simp) (by simp)).trans (by go_simp)
  have p3 : w1.cell? ⟨w.heap.size, 3, none⟩ = some (.string x.text) := (c1.cell (p := ⟨w.heap.size, 3, none⟩) (by simp) (by simp)).trans (by go_simp)
  have hlt : w.heap.size < w1.heap.size := by have := c1.size; simp at this; omega
  have d1 : Chg [] w w1 := ((Chg.refl _ _).alloc _).trans0 c1
  obtain ⟨ok, hok⟩ : ∃ ok, ok = (parseCells x.text).isSome := ⟨_, rfl⟩
  rw [← hok] at HP
  rw [← hok]
  clear hok c1
  go_wp2_with fail
  refine (IC.out _).mono ?_
  rintro e w2 ⟨t, rfl, ht2, c2⟩
  have q3 := (c2.cell (p := ⟨w.heap.size, 3, none⟩) hlt (by simp)).trans p3
  have HT := Lib.hid ht2
  have d2 : Chg [] w w2 := d1.trans0 c2
  clear ht2
  cases t
  all_goals
    go_wp2_with fail
    all_goals
      go_ret
      refine BoolPost.of ?_ d2
      rw [HP.out]
      have h1 := HT.out
      simp at h1
      first | (simp [*]; done) | (simp_all; done)
end Go.Proofs.YtldpibnfhomfgaaGreatDoor
namespace Go.Proofs.YtldpibnfhomfgaaGreatDoor
open Go.RowKit

set_option maxRecDepth 100000 in
set_option maxHeartbeats 8000000 in
theorem l8Action_1 (a : ActionT) (A1 A2 : Option Addr) (c1 c2 : Nat) (w : World) (h : a.op = 1) (hk : a.call.key.size ≤ 1048576) (ht : a.call.text.size ≤ 1048575) :
    Calls Tryz.prog 49 #[.agg #[.int .i64 a.op, .int .i64 a.slot, .int .i64 a.other, .string a.word, .string a.call.method, .string a.call.key, .int .i64 a.call.value, .string a.call.text, .int .i64 a.face, .slice A1 a.A.length c1, .slice A2 a.B.length c2]] w (BoolPost (ActOk a) w) := by
  have CL := Lib.hid (fun W => l8Call_any a.call W hk ht)
  have HA := Lib.hid (actOk_1 h)
  clear hk ht
  have n1 : (a.op == 1) = true := by rw [h]; rfl
  have n2 : (a.op == 2) = false := by rw [h]; rfl
  have n3 : (a.op == 3) = false := by rw [h]; rfl
  have n4 : (a.op == 4) = false := by rw [h]; rfl
  have n5 : (a.op == 5) = false := by rw [h]; rfl
  have n6 : (a.op == 6) = false := by rw [h]; rfl
  have n7 : (a.op == 7) = false := by rw [h]; rfl
  have n8 : (a.op == 8) = false := by rw [h]; rfl
  have n9 : (a.op == 9) = false := by rw [h]; rfl
  have n10 : (a.op == 10) = false := by rw [h]; rfl
  clear h
  go_enter Tryz.func49, Tryz.ntmps49
  go_wp2_with fail
  obtain ⟨wb, hwb⟩ : ∃ wb, wb = w.alloc (.cells #[.int .i64 a.op, .int .i64 a.slot, .int .i64 a.other, .string a.word, .string a.call.method, .string a.call.key, .int .i64 a.call.value, .string a.call.text, .int .i64 a.face, .slice A1 a.A.length c1, .slice A2 a.B.length c2] 41) := ⟨_, rfl⟩
  have db : Chg [] w wb := hwb ▸ (Chg.refl [] w).alloc _
  have sb : w.heap.size < wb.heap.size := by rw [hwb]; simp
  have v0 : wb.cell? ⟨w.heap.size, 0, none⟩ = some (.int .i64 a.op) := by rw [hwb]; go_simp
  have v1 : wb.cell? ⟨w.heap.size, 1, none⟩ = some (.int .i64 a.slot) := by rw [hwb]; go_simp
  have v2 : wb.cell? ⟨w.heap.size, 2, none⟩ = some (.int .i64 a.other) := by rw [hwb]; go_simp
  have v3 : wb.cell? ⟨w.heap.size, 3, none⟩ = some (.string a.word) := by rw [hwb]; go_simp
  have v4 : wb.cell? ⟨w.heap.size, 4, none⟩ = some (.string a.call.method) := by rw [hwb]; go_simp
  have v5 : wb.cell? ⟨w.heap.size, 5, none⟩ = some (.string a.call.key) := by rw [hwb]; go_simp
  have v6 : wb.cell? ⟨w.heap.size, 6, none⟩ = some (.int .i64 a.call.value) := by rw [hwb]; go_simp
  have v7 : wb.cell? ⟨w.heap.size, 7, none⟩ = some (.string a.call.text) := by rw [hwb]; go_simp
  have v8 : wb.cell? ⟨w.heap.size, 8, none⟩ = some (.int .i64 a.face) := by rw [hwb]; go_simp
  have v9 : wb.cell? ⟨w.heap.size, 9, none⟩ = some (.slice A1 a.A.length c1) := by rw [hwb]; go_simp
  have v10 : wb.cell? ⟨w.heap.size, 10, none⟩ = some (.slice A2 a.B.length c2) := by rw [hwb]; go_simp
  have BX : Hid (∀ W, Chg [] wb W → W.cell? ⟨w.heap.size, 0, none⟩ = some (.int .i64 a.op) ∧ W.cell? ⟨w.heap.size, 1, none⟩ = some (.int .i64 a.slot) ∧ W.cell? ⟨w.heap.size, 2, none⟩ = some (.int .i64 a.other) ∧ W.cell? ⟨w.heap.size, 3, none⟩ = some (.string a.word) ∧ W.cell? ⟨w.heap.size, 4, none⟩ = some (.string a.call.method) ∧ W.cell? ⟨w.heap.size, 5, none⟩ = some (.string a.call.key) ∧ W.cell? ⟨w.heap.size, 6, none⟩ = some (.int .i64 a.call.value) ∧ W.cell? ⟨w.heap.size, 7, none⟩ = some (.string a.call.text) ∧ W.cell? ⟨w.heap.size, 8, none⟩ = some (.int .i64 a.face) ∧ W.cell? ⟨w.heap.size, 9, none⟩ = some (.slice A1 a.A.length c1) ∧ W.cell? ⟨w.heap.size, 10, none⟩ = some (.slice A2 a.B.length c2)) := fun W hc =>
    ⟨(hc.cell (p := ⟨w.heap.size, 0, none⟩) sb (by simp)).trans v0, (hc.cell (p := ⟨w.heap.size, 1, none⟩) sb (by simp)).trans v1, (hc.cell (p := ⟨w.heap.size, 2, none⟩) sb (by simp)).trans v2, (hc.cell (p := ⟨w.heap.size, 3, none⟩) sb (by simp)).trans v3, (hc.cell (p := ⟨w.heap.size, 4, none⟩) sb (by simp)).trans v4, (hc.cell (p := ⟨w.heap.size, 5, none⟩) sb (by simp)).trans v5, (hc.cell (p := ⟨w.heap.size, 6, none⟩) sb (by simp)).trans v6, (hc.cell (p := ⟨w.heap.size, 7, none⟩) sb (by simp)).trans v7, (hc.cell (p := ⟨w.heap.size, 8, none⟩) sb (by simp)).trans v8, (hc.cell (p := ⟨w.heap.size, 9, none⟩) sb (by simp)).trans v9, (hc.cell (p := ⟨w.heap.size, 10, none⟩) sb (by simp)).trans v10⟩
  rw [← hwb]
  clear hwb v0 v1 v2 v3 v4 v5 v6 v7 v8 v9 v10
  refine (kindFace_spec_any a.word _).mono ?_
  rintro e w1 ⟨he, k1⟩
  subst he
  have d1 : Chg [] wb w1 := k1
  obtain ⟨kb, hkb⟩ : ∃ b, b = (kindOf a.word).isSome := ⟨_, rfl⟩
  have HK : Hid (kb = true ↔ kindOf a.word ≠ none) := by show _ ↔ _; rw [hkb]; cases kindOf a.word <;> simp
  obtain ⟨kz, hkz⟩ : ∃ z, z = (kindOf a.word).getD 0 := ⟨_, rfl⟩
  rw [← hkb, ← hkz]
  clear hkb hkz k1
  obtain ⟨p0, p1, p2, p3, p4, p5, p6, p7, p8, p9, p10⟩ := BX.out _ d1
  go_wp2_with fail
  refine (layerNeeds_spec_any a.word _).mono ?_
  rintro e w2 ⟨he, k2⟩
  subst he
  have d2 : Chg [] wb w2 := d1.trans0 k2
  obtain ⟨lb, hlb⟩ : ∃ b, b = ((layerOf a.word).map (·.1)).isSome := ⟨_, rfl⟩
  have HL : Hid (lb = true ↔ layerOf a.word ≠ none) := by show _ ↔ _; rw [hlb]; cases layerOf a.word <;> simp
  obtain ⟨lz, hlz⟩ : ∃ z, z = ((layerOf a.word).map (·.1)).getD 0 := ⟨_, rfl⟩
  rw [← hlb, ← hlz]
  clear hlb hlz k2 p0 p1 p2 p3 p4 p5 p6 p7 p8 p9 p10
  obtain ⟨p0, p1, p2, p3, p4, p5, p6, p7, p8, p9, p10⟩ := BX.out _ d2
  go_wp2_with fail
  refine (l1In_any a.slot 0 2 _).mono ?_
  rintro e w3 ⟨sl, rfl, hsl, rfl⟩
  have HS : Hid (sl = true ↔ SlotNo a.slot) := hsl
  have d3 : Chg [] w w3 := db.trans0 d2
  clear hsl
  cases sl <;> cases kb
  all_goals
    go_wp2_with fail
    all_goals first
      | (go_ret; refine BoolPost.of ?_ (d3); have hact := HA.out; rw [hact]; (try have h1 := HS.out); (try simp at h1); (try have h2 := HK.out); (try simp at h2); (try have h3 := HL.out); (try simp at h3); (try have h4 := hz); (try simp at h4); clear hact; go_light; (try clear BX); (try clear CL); (try clear IC); (try clear PC); (try clear IA); (try clear IB); (try clear HA); (try clear p0 p1 p2 p3 p4 p5 p6 p7 p8 p9 p10); first | (simp [*]; done) | (simp_all; done))
      | (refine (l8Empty_any a A1 A2 c1 c2 _ _ _ _ _ _ flags_word _).mono ?_; rintro e w4 ⟨t, rfl, ht4, c4⟩; go_wp2_with fail; all_goals (go_ret; refine BoolPost.of ?_ ((d3).trans0 c4); have hact := HA.out; rw [hact]; (try have h1 := HS.out); (try simp at h1); (try have h2 := HK.out); (try simp at h2); (try have h3 := HL.out); (try simp at h3); (try have h4 := hz); (try simp at h4); clear hact; go_light; (try clear BX); (try clear CL); (try clear IC); (try clear PC); (try clear IA); (try clear IB); (try clear HA); (try clear p0 p1 p2 p3 p4 p5 p6 p7 p8 p9 p10); first | (simp [*]; done) | (simp_all; done)))
set_option maxRecDepth 100000 in
set_option maxHeartbeats 8000000 in
theorem l8Action_3 (a : ActionT) (A1 A2 : Option Addr) (c1 c2 : Nat) (w : World) (h : a.op = 3) (hk : a.call.key.size ≤ 1048576) (ht : a.call.text.size ≤ 1048575) :
    Calls Tryz.prog 49 #[.agg #[.int .i64 a.op, .int .i64 a.slot, .int .i64 a.other, .string a.word, .string a.call.method, .string a.call.key, .int .i64 a.call.value, .string a.call.text, .int .i64 a.face, .slice A1 a.A.length c1, .slice A2 a.B.length c2]] w (BoolPost (ActOk a) w) := by
  have CL := Lib.hid (fun W => l8Call_any a.call W hk ht)
  have HA := Lib.hid (actOk_3 (.inl h))
  clear hk ht
  have n1 : (a.op == 1) = false := by rw [h]; rfl
  have n2 : (a.op == 2) = false := by rw [h]; rfl
  have n3 : (a.op == 3) = true := by rw [h]; rfl
  have n4 : (a.op == 4) = false := by rw [h]; rfl
  have n5 : (a.op == 5) = false := by rw [h]; rfl
  have n6 : (a.op == 6) = false := by rw [h]; rfl
  have n7 : (a.op == 7) = false := by rw [h]; rfl
  have n8 : (a.op == 8) = false := by rw [h]; rfl
  have n9 : (a.op == 9) = false := by rw [h]; rfl
  have n10 : (a.op == 10) = false := by rw [h]; rfl
  clear h
  go_enter Tryz.func49, Tryz.ntmps49
  go_wp2_with fail
  obtain ⟨wb, hwb⟩ : ∃ wb, wb = w.alloc (.cells #[.int .i64 a.op, .int .i64 a.slot, .int .i64 a.other, .string a.word, .string a.call.method, .string a.call.key, .int .i64 a.call.value, .string a.call.text, .int .i64 a.face, .slice A1 a.A.length c1, .slice A2 a.B.length c2] 41) := ⟨_, rfl⟩
  have db : Chg [] w wb := hwb ▸ (Chg.refl [] w).alloc _
  have sb : w.heap.size < wb.heap.size := by rw [hwb]; simp
  have v0 : wb.cell? ⟨w.heap.size, 0, none⟩ = some (.int .i64 a.op) := by rw [hwb]; go_simp
  have v1 : wb.cell? ⟨w.heap.size, 1, none⟩ = some (.int .i64 a.slot) := by rw [hwb]; go_simp
  have v2 : wb.cell? ⟨w.heap.size, 2, none⟩ = some (.int .i64 a.other) := by rw [hwb]; go_simp
  have v3 : wb.cell? ⟨w.heap.size, 3, none⟩ = some (.string a.word) := by rw [hwb]; go_simp
  have v4 : wb.cell? ⟨w.heap.size, 4, none⟩ = some (.string a.call.method) := by rw [hwb]; go_simp
  have v5 : wb.cell? ⟨w.heap.size, 5, none⟩ = some (.string a.call.key) := by rw [hwb]; go_simp
  have v6 : wb.cell? ⟨w.heap.size, 6, none⟩ = some (.int .i64 a.call.value) := by rw [hwb]; go_simp
  have v7 : wb.cell? ⟨w.heap.size, 7, none⟩ = some (.string a.call.text) := by rw [hwb]; go_simp
  have v8 : wb.cell? ⟨w.heap.size, 8, none⟩ = some (.int .i64 a.face) := by rw [hwb]; go_simp
  have v9 : wb.cell? ⟨w.heap.size, 9, none⟩ = some (.slice A1 a.A.length c1) := by rw [hwb]; go_simp
  have v10 : wb.cell? ⟨w.heap.size, 10, none⟩ = some (.slice A2 a.B.length c2) := by rw [hwb]; go_simp
  have BX : Hid (∀ W, Chg [] wb W → W.cell? ⟨w.heap.size, 0, none⟩ = some (.int .i64 a.op) ∧ W.cell? ⟨w.heap.size, 1, none⟩ = some (.int .i64 a.slot) ∧ W.cell? ⟨w.heap.size, 2, none⟩ = some (.int .i64 a.other) ∧ W.cell? ⟨w.heap.size, 3, none⟩ = some (.string a.word) ∧ W.cell? ⟨w.heap.size, 4, none⟩ = some (.string a.call.method) ∧ W.cell? ⟨w.heap.size, 5, none⟩ = some (.string a.call.key) ∧ W.cell? ⟨w.heap.size, 6, none⟩ = some (.int .i64 a.call.value) ∧ W.cell? ⟨w.heap.size, 7, none⟩ = some (.string a.call.text) ∧ W.cell? ⟨w.heap.size, 8, none⟩ = some (.int .i64 a.face) ∧ W.cell? ⟨w.heap.size, 9, none⟩ = some (.slice A1 a.A.length c1) ∧ W.cell? ⟨w.heap.size, 10, none⟩ = some (.slice A2 a.B.length c2)) := fun W hc =>
    ⟨(hc.cell (p := ⟨w.heap.size, 0, none⟩) sb (by simp)).trans v0, (hc.cell (p := ⟨w.heap.size, 1, none⟩) sb (by simp)).trans v1, (hc.cell (p := ⟨w.heap.size, 2, none⟩) sb (by simp)).trans v2, (hc.cell (p := ⟨w.heap.size, 3, none⟩) sb (by simp)).trans v3, (hc.cell (p := ⟨w.heap.size, 4, none⟩) sb (by simp)).trans v4, (hc.cell (p := ⟨w.heap.size, 5, none⟩) sb (by simp)).trans v5, (hc.cell (p := ⟨w.heap.size, 6, none⟩) sb (by simp)).trans v6, (hc.cell (p := ⟨w.heap.size, 7, none⟩) sb (by simp)).trans v7, (hc.cell (p := ⟨w.heap.size, 8, none⟩) sb (by simp)).trans v8, (hc.cell (p := ⟨w.heap.size, 9, none⟩) sb (by simp)).trans v9, (hc.cell (p := ⟨w.heap.size, 10, none⟩) sb (by simp)).trans v10⟩
  rw [← hwb]
  clear hwb v0 v1 v2 v3 v4 v5 v6 v7 v8 v9 v10
  refine (kindFace_spec_any a.word _).mono ?_
  rintro e w1 ⟨he, k1⟩
  subst he
  have d1 : Chg [] wb w1 := k1
  obtain ⟨kb, hkb⟩ : ∃ b, b = (kindOf a.word).isSome := ⟨_, rfl⟩
  have HK : Hid (kb = true ↔ kindOf a.word ≠ none) := by show _ ↔ _; rw [hkb]; cases kindOf a.word <;> simp
  obtain ⟨kz, hkz⟩ : ∃ z, z = (kindOf a.word).getD 0 := ⟨_, rfl⟩
  rw [← hkb, ← hkz]
  clear hkb hkz k1
  obtain ⟨p0, p1, p2, p3, p4, p5, p6, p7, p8, p9, p10⟩ := BX.out _ d1
  go_wp2_with fail
  refine (layerNeeds_spec_any a.word _).mono ?_
  rintro e w2 ⟨he, k2⟩
  subst he
  have d2 : Chg [] wb w2 := d1.trans0 k2
  obtain ⟨lb, hlb⟩ : ∃ b, b = ((layerOf a.word).map (·.1)).isSome := ⟨_, rfl⟩
  have HL : Hid (lb = true ↔ layerOf a.word ≠ none) := by show _ ↔ _; rw [hlb]; cases layerOf a.word <;> simp
  obtain ⟨lz, hlz⟩ : ∃ z, z = ((layerOf a.word).map (·.1)).getD 0 := ⟨_, rfl⟩
  rw [← hlb, ← hlz]
  clear hlb hlz k2 p0 p1 p2 p3 p4 p5 p6 p7 p8 p9 p10
  obtain ⟨p0, p1, p2, p3, p4, p5, p6, p7, p8, p9, p10⟩ := BX.out _ d2
  go_wp2_with fail
  refine (l1In_any a.slot 0 2 _).mono ?_
  rintro e w3 ⟨sl, rfl, hsl, rfl⟩
  have HS : Hid (sl = true ↔ SlotNo a.slot) := hsl
  have d3 : Chg [] w w3 := db.trans0 d2
  clear hsl
  cases sl
  all_goals
    go_wp2_with fail
    all_goals first
      | (go_ret; refine BoolPost.of ?_ (d3); have hact := HA.out; rw [hact]; (try have h1 := HS.out); (try simp at h1); (try have h2 := HK.out); (try simp at h2); (try have h3 := HL.out); (try simp at h3); (try have h4 := hz); (try simp at h4); clear hact; go_light; (try clear BX); (try clear CL); (try clear IC); (try clear PC); (try clear IA); (try clear IB); (try clear HA); (try clear p0 p1 p2 p3 p4 p5 p6 p7 p8 p9 p10); first | (simp [*]; done) | (simp_all; done))
      | (refine (l8Empty_any a A1 A2 c1 c2 _ _ _ _ _ _ flags_none _).mono ?_; rintro e w4 ⟨t, rfl, ht4, c4⟩; go_wp2_with fail; all_goals (go_ret; refine BoolPost.of ?_ ((d3).trans0 c4); have hact := HA.out; rw [hact]; (try have h1 := HS.out); (try simp at h1); (try have h2 := HK.out); (try simp at h2); (try have h3 := HL.out); (try simp at h3); (try have h4 := hz); (try simp at h4); clear hact; go_light; (try clear BX); (try clear CL); (try clear IC); (try clear PC); (try clear IA); (try clear IB); (try clear HA); (try clear p0 p1 p2 p3 p4 p5 p6 p7 p8 p9 p10); first | (simp [*]; done) | (simp_all; done)))
end Go.Proofs.YtldpibnfhomfgaaGreatDoor
namespace Go.Proofs.YtldpibnfhomfgaaGreatDoor
open Go.RowKit

set_option maxRecDepth 100000 in
set_option maxHeartbeats 8000000 in
theorem l8Action_2 (a : ActionT) (A1 A2 : Option Addr) (c1 c2 : Nat) (w : World) (h : a.op = 2) (hk : a.call.key.size ≤ 1048576) (ht : a.call.text.size ≤ 1048575) :
    Calls Tryz.prog 49 #[.agg #[.int .i64 a.op, .int .i64 a.slot, .int .i64 a.other, .string a.word, .string a.call.method, .string a.call.key, .int .i64 a.call.value, .string a.call.text, .int .i64 a.face, .slice A1 a.A.length c1, .slice A2 a.B.length c2]] w (BoolPost (ActOk a) w) := by
  have CL := Lib.hid (fun W => l8Call_any a.call W hk ht)
  have HA := Lib.hid (actOk_2 h)
  clear hk ht
  have n1 : (a.op == 1) = false := by rw [h]; rfl
  have n2 : (a.op == 2) = true := by rw [h]; rfl
  have n3 : (a.op == 3) = false := by rw [h]; rfl
  have n4 : (a.op == 4) = false := by rw [h]; rfl
  have n5 : (a.op == 5) = false := by rw [h]; rfl
  have n6 : (a.op == 6) = false := by rw [h]; rfl
  have n7 : (a.op == 7) = false := by rw [h]; rfl
  have n8 : (a.op == 8) = false := by rw [h]; rfl
  have n9 : (a.op == 9) = false := by rw [h]; rfl
  have n10 : (a.op == 10) = false := by rw [h]; rfl
  clear h
  go_enter Tryz.func49, Tryz.ntmps49
  go_wp2_with fail
  obtain ⟨wb, hwb⟩ : ∃ wb, wb = w.alloc (.cells #[.int .i64 a.op, .int .i64 a.slot, .int .i64 a.other, .string a.word, .string a.call.method, .string a.call.key, .int .i64 a.call.value, .string a.call.text, .int .i64 a.face, .slice A1 a.A.length c1, .slice A2 a.B.length c2] 41) := ⟨_, rfl⟩
  have db : Chg [] w wb := hwb ▸ (Chg.refl [] w).alloc _
  have sb : w.heap.size < wb.heap.size := by rw [hwb]; simp
  have v0 : wb.cell? ⟨w.heap.size, 0, none⟩ = some (.int .i64 a.op) := by rw [hwb]; go_simp
  have v1 : wb.cell? ⟨w.heap.size, 1, none⟩ = some (.int .i64 a.slot) := by rw [hwb]; go_simp
  have v2 : wb.cell? ⟨w.heap.size, 2, none⟩ = some (.int .i64 a.other) := by rw [hwb]; go_simp
  have v3 : wb.cell? ⟨w.heap.size, 3, none⟩ = some (.string a.word) := by rw [hwb]; go_simp
  have v4 : wb.cell? ⟨w.heap.size, 4, none⟩ = some (.string a.call.method) := by rw [hwb]; go_simp
  have v5 : wb.cell? ⟨w.heap.size, 5, none⟩ = some (.string a.call.key) := by rw [hwb]; go_simp
  have v6 : wb.cell? ⟨w.heap.size, 6, none⟩ = some (.int .i64 a.call.value) := by rw [hwb]; go_simp
  have v7 : wb.cell? ⟨w.heap.size, 7, none⟩ = some (.string a.call.text) := by rw [hwb]; go_simp
  have v8 : wb.cell? ⟨w.heap.size, 8, none⟩ = some (.int .i64 a.face) := by rw [hwb]; go_simp
  have v9 : wb.cell? ⟨w.heap.size, 9, none⟩ = some (.slice A1 a.A.length c1) := by rw [hwb]; go_simp
  have v10 : wb.cell? ⟨w.heap.size, 10, none⟩ = some (.slice A2 a.B.length c2) := by rw [hwb]; go_simp
  have BX : Hid (∀ W, Chg [] wb W → W.cell? ⟨w.heap.size, 0, none⟩ = some (.int .i64 a.op) ∧ W.cell? ⟨w.heap.size, 1, none⟩ = some (.int .i64 a.slot) ∧ W.cell? ⟨w.heap.size, 2, none⟩ = some (.int .i64 a.other) ∧ W.cell? ⟨w.heap.size, 3, none⟩ = some (.string a.word) ∧ W.cell? ⟨w.heap.size, 4, none⟩ = some (.string a.call.method) ∧ W.cell? ⟨w.heap.size, 5, none⟩ = some (.string a.call.key) ∧ W.cell? ⟨w.heap.size, 6, none⟩ = some (.int .i64 a.call.value) ∧ W.cell? ⟨w.heap.size, 7, none⟩ = some (.string a.call.text) ∧ W.cell? ⟨w.heap.size, 8, none⟩ = some (.int .i64 a.face) ∧ W.cell? ⟨w.heap.size, 9, none⟩ = some (.slice A1 a.A.length c1) ∧ W.cell? ⟨w.heap.size, 10, none⟩ = some (.slice A2 a.B.length c2)) := fun W hc =>
    ⟨(hc.cell (p := ⟨w.heap.size, 0, none⟩) sb (by simp)).trans v0, (hc.cell (p := ⟨w.heap.size, 1, none⟩) sb (by simp)).trans v1, (hc.cell (p := ⟨w.heap.size, 2, none⟩) sb (by simp)).trans v2, (hc.cell (p := ⟨w.heap.size, 3, none⟩) sb (by simp)).trans v3, (hc.cell (p := ⟨w.heap.size, 4, none⟩) sb (by simp)).trans v4, (hc.cell (p := ⟨w.heap.size, 5, none⟩) sb (by simp)).trans v5, (hc.cell (p := ⟨w.heap.size, 6, none⟩) sb (by simp)).trans v6, (hc.cell (p := ⟨w.heap.size, 7, none⟩) sb (by simp)).trans v7, (hc.cell (p := ⟨w.heap.size, 8, none⟩) sb (by simp)).trans v8, (hc.cell (p := ⟨w.heap.size, 9, none⟩) sb (by simp)).trans v9, (hc.cell (p := ⟨w.heap.size, 10, none⟩) sb (by simp)).trans v10⟩
  rw [← hwb]
  clear hwb v0 v1 v2 v3 v4 v5 v6 v7 v8 v9 v10
  refine (kindFace_spec_any a.word _).mono ?_
  rintro e w1 ⟨he, k1⟩
  subst he
  have d1 : Chg [] wb w1 := k1
  obtain ⟨kb, hkb⟩ : ∃ b, b = (kindOf a.word).isSome := ⟨_, rfl⟩
  have HK : Hid (kb = true ↔ kindOf a.word ≠ none) := by show _ ↔ _; rw [hkb]; cases kindOf a.word <;> simp
  obtain ⟨kz, hkz⟩ : ∃ z, z = (kindOf a.word).getD 0 := ⟨_, rfl⟩
  rw [← hkb, ← hkz]
  clear hkb hkz k1
  obtain ⟨p0, p1, p2, p3, p4, p5, p6, p7, p8, p9, p10⟩ := BX.out _ d1
  go_wp2_with fail
  refine (layerNeeds_spec_any a.word _).mono ?_
  rintro e w2 ⟨he, k2⟩
  subst he
  have d2 : Chg [] wb w2 := d1.trans0 k2
  obtain ⟨lb, hlb⟩ : ∃ b, b = ((layerOf a.word).map (·.1)).isSome := ⟨_, rfl⟩
  have HL : Hid (lb = true ↔ layerOf a.word ≠ none) := by show _ ↔ _; rw [hlb]; cases layerOf a.word <;> simp
  obtain ⟨lz, hlz⟩ : ∃ z, z = ((layerOf a.word).map (·.1)).getD 0 := ⟨_, rfl⟩
  rw [← hlb, ← hlz]
  clear hlb hlz k2 p0 p1 p2 p3 p4 p5 p6 p7 p8 p9 p10
  obtain ⟨p0, p1, p2, p3, p4, p5, p6, p7, p8, p9, p10⟩ := BX.out _ d2
  go_wp2_with fail
  refine (l1In_any a.slot 0 2 _).mono ?_
  rintro e w3 ⟨sl, rfl, hsl, rfl⟩
  have HS : Hid (sl = true ↔ SlotNo a.slot) := hsl
  have d3 : Chg [] w w3 := db.trans0 d2
  clear hsl
  cases sl <;> cases lb
  all_goals
    go_wp2_with fail
    all_goals first
      | (go_ret; refine BoolPost.of ?_ (d3); have hact := HA.out; rw [hact]; (try have h1 := HS.out); (try simp at h1); (try have h2 := HK.out); (try simp at h2); (try have h3 := HL.out); (try simp at h3); (try have h4 := hz); (try simp at h4); clear hact; go_light; (try clear BX); (try clear CL); (try clear IC); (try clear PC); (try clear IA); (try clear IB); (try clear HA); (try clear p0 p1 p2 p3 p4 p5 p6 p7 p8 p9 p10); first | (simp [*]; done) | (simp_all; done))
      | (refine (l8Empty_any a A1 A2 c1 c2 _ _ _ _ _ _ flags_word _).mono ?_; rintro e w4 ⟨t, rfl, ht4, c4⟩; go_wp2_with fail; all_goals (go_ret; refine BoolPost.of ?_ ((d3).trans0 c4); have hact := HA.out; rw [hact]; (try have h1 := HS.out); (try simp at h1); (try have h2 := HK.out); (try simp at h2); (try have h3 := HL.out); (try simp at h3); (try have h4 := hz); (try simp at h4); clear hact; go_light; (try clear BX); (try clear CL); (try clear IC); (try clear PC); (try clear IA); (try clear IB); (try clear HA); (try clear p0 p1 p2 p3 p4 p5 p6 p7 p8 p9 p10); first | (simp [*]; done) | (simp_all; done)))
set_option maxRecDepth 100000 in
set_option maxHeartbeats 8000000 in
theorem l8Action_5 (a : ActionT) (A1 A2 : Option Addr) (c1 c2 : Nat) (w : World) (h : a.op = 5) (hk : a.call.key.size ≤ 1048576) (ht : a.call.text.size ≤ 1048575) :
    Calls Tryz.prog 49 #[.agg #[.int .i64 a.op, .int .i64 a.slot, .int .i64 a.other, .string a.word, .string a.call.method, .string a.call.key, .int .i64 a.call.value, .string a.call.text, .int .i64 a.face, .slice A1 a.A.length c1, .slice A2 a.B.length c2]] w (BoolPost (ActOk a) w) := by
  have CL := Lib.hid (fun W => l8Call_any a.call W hk ht)
  have HA := Lib.hid (actOk_3 (.inr h))
  clear hk ht
  have n1 : (a.op == 1) = false := by rw [h]; rfl
  have n2 : (a.op == 2) = false := by rw [h]; rfl
  have n3 : (a.op == 3) = false := by rw [h]; rfl
  have n4 : (a.op == 4) = false := by rw [h]; rfl
  have n5 : (a.op == 5) = true := by rw [h]; rfl
  have n6 : (a.op == 6) = false := by rw [h]; rfl
  have n7 : (a.op == 7) = false := by rw [h]; rfl
  have n8 : (a.op == 8) = false := by rw [h]; rfl
  have n9 : (a.op == 9) = false := by rw [h]; rfl
  have n10 : (a.op == 10) = false := by rw [h]; rfl
  clear h
  go_enter Tryz.func49, Tryz.ntmps49
  go_wp2_with fail
  obtain ⟨wb, hwb⟩ : ∃ wb, wb = w.alloc (.cells #[.int .i64 a.op, .int .i64 a.slot, .int .i64 a.other, .string a.word, .string a.call.method, .string a.call.key, .int .i64 a.call.value, .string a.call.text, .int .i64 a.face, .slice A1 a.A.length c1, .slice A2 a.B.length c2] 41) := ⟨_, rfl⟩
  have db : Chg [] w wb := hwb ▸ (Chg.refl [] w).alloc _
  have sb : w.heap.size < wb.heap.size := by rw [hwb]; simp
  have v0 : wb.cell? ⟨w.heap.size, 0, none⟩ = some (.int .i64 a.op) := by rw [hwb]; go_simp
  have v1 : wb.cell? ⟨w.heap.size, 1, none⟩ = some (.int .i64 a.slot) := by rw [hwb]; go_simp
  have v2 : wb.cell? ⟨w.heap.size, 2, none⟩ = some (.int .i64 a.other) := by rw [hwb]; go_simp
  have v3 : wb.cell? ⟨w.heap.size, 3, none⟩ = some (.string a.word) := by rw [hwb]; go_simp
  have v4 : wb.cell? ⟨w.heap.size, 4, none⟩ = some (.string a.call.method) := by rw [hwb]; go_simp
  have v5 : wb.cell? ⟨w.heap.size, 5, none⟩ = some (.string a.call.key) := by rw [hwb]; go_simp
  have v6 : wb.cell? ⟨w.heap.size, 6, none⟩ = some (.int .i64 a.call.value) := by rw [hwb]; go_simp
  have v7 : wb.cell? ⟨w.heap.size, 7, none⟩ = some (.string a.call.text) := by rw [hwb]; go_simp
  have v8 : wb.cell? ⟨w.heap.size, 8, none⟩ = some (.int .i64 a.face) := by rw [hwb]; go_simp
  have v9 : wb.cell? ⟨w.heap.size, 9, none⟩ = some (.slice A1 a.A.length c1) := by rw [hwb]; go_simp
  have v10 : wb.cell? ⟨w.heap.size, 10, none⟩ = some (.slice A2 a.B.length c2) := by rw [hwb]; go_simp
  have BX : Hid (∀ W, Chg [] wb W → W.cell? ⟨w.heap.size, 0, none⟩ = some (.int .i64 a.op) ∧ W.cell? ⟨w.heap.size, 1, none⟩ = some (.int .i64 a.slot) ∧ W.cell? ⟨w.heap.size, 2, none⟩ = some (.int .i64 a.other) ∧ W.cell? ⟨w.heap.size, 3, none⟩ = some (.string a.word) ∧ W.cell? ⟨w.heap.size, 4, none⟩ = some (.string a.call.method) ∧ W.cell? ⟨w.heap.size, 5, none⟩ = some (.string a.call.key) ∧ W.cell? ⟨w.heap.size, 6, none⟩ = some (.int .i64 a.call.value) ∧ W.cell? ⟨w.heap.size, 7, none⟩ = some (.string a.call.text) ∧ W.cell? ⟨w.heap.size, 8, none⟩ = some (.int .i64 a.face) ∧ W.cell? ⟨w.heap.size, 9, none⟩ = some (.slice A1 a.A.length c1) ∧ W.cell? ⟨w.heap.size, 10, none⟩ = some (.slice A2 a.B.length c2)) := fun W hc =>
    ⟨(hc.cell (p := ⟨w.heap.size, 0, none⟩) sb (by simp)).trans v0, (hc.cell (p := ⟨w.heap.size, 1, none⟩) sb (by simp)).trans v1, (hc.cell (p := ⟨w.heap.size, 2, none⟩) sb (by simp)).trans v2, (hc.cell (p := ⟨w.heap.size, 3, none⟩) sb (by simp)).trans v3, (hc.cell (p := ⟨w.heap.size, 4, none⟩) sb (by simp)).trans v4, (hc.cell (p := ⟨w.heap.size, 5, none⟩) sb (by simp)).trans v5, (hc.cell (p := ⟨w.heap.size, 6, none⟩) sb (by simp)).trans v6, (hc.cell (p := ⟨w.heap.size, 7, none⟩) sb (by simp)).trans v7, (hc.cell (p := ⟨w.heap.size, 8, none⟩) sb (by simp)).trans v8, (hc.cell (p := ⟨w.heap.size, 9, none⟩) sb (by simp)).trans v9, (hc.cell (p := ⟨w.heap.size, 10, none⟩) sb (by simp)).trans v10⟩
  rw [← hwb]
  clear hwb v0 v1 v2 v3 v4 v5 v6 v7 v8 v9 v10
  refine (kindFace_spec_any a.word _).mono ?_
  rintro e w1 ⟨he, k1⟩
  subst he
  have d1 : Chg [] wb w1 := k1
  obtain ⟨kb, hkb⟩ : ∃ b, b = (kindOf a.word).isSome := ⟨_, rfl⟩
  have HK : Hid (kb = true ↔ kindOf a.word ≠ none) := by show _ ↔ _; rw [hkb]; cases kindOf a.word <;> simp
  obtain ⟨kz, hkz⟩ : ∃ z, z = (kindOf a.word).getD 0 := ⟨_, rfl⟩
  rw [← hkb, ← hkz]
  clear hkb hkz k1
  obtain ⟨p0, p1, p2, p3, p4, p5, p6, p7, p8, p9, p10⟩ := BX.out _ d1
  go_wp2_with fail
  refine (layerNeeds_spec_any a.word _).mono ?_
  rintro e w2 ⟨he, k2⟩
  subst he
  have d2 : Chg [] wb w2 := d1.trans0 k2
  obtain ⟨lb, hlb⟩ : ∃ b, b = ((layerOf a.word).map (·.1)).isSome := ⟨_, rfl⟩
  have HL : Hid (lb = true ↔ layerOf a.word ≠ none) := by show _ ↔ _; rw [hlb]; cases layerOf a.word <;> simp
  obtain ⟨lz, hlz⟩ : ∃ z, z = ((layerOf a.word).map (·.1)).getD 0 := ⟨_, rfl⟩
  rw [← hlb, ← hlz]
  clear hlb hlz k2 p0 p1 p2 p3 p4 p5 p6 p7 p8 p9 p10
  obtain ⟨p0, p1, p2, p3, p4, p5, p6, p7, p8, p9, p10⟩ := BX.out _ d2
  go_wp2_with fail
  refine (l1In_any a.slot 0 2 _).mono ?_
  rintro e w3 ⟨sl, rfl, hsl, rfl⟩
  have HS : Hid (sl = true ↔ SlotNo a.slot) := hsl
  have d3 : Chg [] w w3 := db.trans0 d2
  clear hsl
  cases sl
  all_goals
    go_wp2_with fail
    all_goals first
      | (go_ret; refine BoolPost.of ?_ (d3); have hact := HA.out; rw [hact]; (try have h1 := HS.out); (try simp at h1); (try have h2 := HK.out); (try simp at h2); (try have h3 := HL.out); (try simp at h3); (try have h4 := hz); (try simp at h4); clear hact; go_light; (try clear BX); (try clear CL); (try clear IC); (try clear PC); (try clear IA); (try clear IB); (try clear HA); (try clear p0 p1 p2 p3 p4 p5 p6 p7 p8 p9 p10); first | (simp [*]; done) | (simp_all; done))
      | (refine (l8Empty_any a A1 A2 c1 c2 _ _ _ _ _ _ flags_none _).mono ?_; rintro e w4 ⟨t, rfl, ht4, c4⟩; go_wp2_with fail; all_goals (go_ret; refine BoolPost.of ?_ ((d3).trans0 c4); have hact := HA.out; rw [hact]; (try have h1 := HS.out); (try simp at h1); (try have h2 := HK.out); (try simp at h2); (try have h3 := HL.out); (try simp at h3); (try have h4 := hz); (try simp at h4); clear hact; go_light; (try clear BX); (try clear CL); (try clear IC); (try clear PC); (try clear IA); (try clear IB); (try clear HA); (try clear p0 p1 p2 p3 p4 p5 p6 p7 p8 p9 p10); first | (simp [*]; done) | (simp_all; done)))
set_option maxRecDepth 100000 in
set_option maxHeartbeats 8000000 in
theorem l8Action_no (a : ActionT) (A1 A2 : Option Addr) (c1 c2 : Nat) (w : World) (h : ¬ (1 ≤ a.op ∧ a.op ≤ 10) ∧ (a.op == 1) = false ∧ (a.op == 2) = false ∧ (a.op == 3) = false ∧ (a.op == 4) = false ∧ (a.op == 5) = false ∧ (a.op == 6) = false ∧ (a.op == 7) = false ∧ (a.op == 8) = false ∧ (a.op == 9) = false ∧ (a.op == 10) = false) (hk : a.call.key.size ≤ 1048576) (ht : a.call.text.size ≤ 1048575) :
    Calls Tryz.prog 49 #[.agg #[.int .i64 a.op, .int .i64 a.slot, .int .i64 a.other, .string a.word, .string a.call.method, .string a.call.key, .int .i64 a.call.value, .string a.call.text, .int .i64 a.face, .slice A1 a.A.length c1, .slice A2 a.B.length c2]] w (BoolPost (ActOk a) w) := by
  have CL := Lib.hid (fun W => l8Call_any a.call W hk ht)
  have HA := Lib.hid (show ¬ ActOk a from fun k => h.1 (actOk_op k))
  clear hk ht
  obtain ⟨_, n1, n2, n3, n4, n5, n6, n7, n8, n9, n10⟩ := h
  go_enter Tryz.func49, Tryz.ntmps49
  go_wp2_with fail
  obtain ⟨wb, hwb⟩ : ∃ wb, wb = w.alloc (.cells #[.int .i64 a.op, .int .i64 a.slot, .int .i64 a.other, .string a.word, .string a.call.method, .string a.call.key, .int .i64 a.call.value, .string a.call.text, .int .i64 a.face, .slice A1 a.A.length c1, .slice A2 a.B.length c2] 41) := ⟨_, rfl⟩
  have db : Chg [] w wb := hwb ▸ (Chg.refl [] w).alloc _
  have sb : w.heap.size < wb.heap.size := by rw [hwb]; simp
  have v0 : wb.cell? ⟨w.heap.size, 0, none⟩ = some (.int .i64 a.op) := by rw [hwb]; go_simp
  have v1 : wb.cell? ⟨w.heap.size, 1, none⟩ = some (.int .i64 a.slot) := by rw [hwb]; go_simp
  have v2 : wb.cell? ⟨w.heap.size, 2, none⟩ = some (.int .i64 a.other) := by rw [hwb]; go_simp
  have v3 : wb.cell? ⟨w.heap.size, 3, none⟩ = some (.string a.word) := by rw [hwb]; go_simp
  have v4 : wb.cell? ⟨w.heap.size, 4, none⟩ = some (.string a.call.method) := by rw [hwb]; go_simp
  have v5 : wb.cell? ⟨w.heap.size, 5, none⟩ = some (.string a.call.key) := by rw [hwb]; go_simp
  have v6 : wb.cell? ⟨w.heap.size, 6, none⟩ = some (.int .i64 a.call.value) := by rw [hwb]; go_simp
  have v7 : wb.cell? ⟨w.heap.size, 7, none⟩ = some (.string a.call.text) := by rw [hwb]; go_simp
  have v8 : wb.cell? ⟨w.heap.size, 8, none⟩ = some (.int .i64 a.face) := by rw [hwb]; go_simp
  have v9 : wb.cell? ⟨w.heap.size, 9, none⟩ = some (.slice A1 a.A.length c1) := by rw [hwb]; go_simp
  have v10 : wb.cell? ⟨w.heap.size, 10, none⟩ = some (.slice A2 a.B.length c2) := by rw [hwb]; go_simp
  have BX : Hid (∀ W, Chg [] wb W → W.cell? ⟨w.heap.size, 0, none⟩ = some (.int .i64 a.op) ∧ W.cell? ⟨w.heap.size, 1, none⟩ = some (.int .i64 a.slot) ∧ W.cell? ⟨w.heap.size, 2, none⟩ = some (.int .i64 a.other) ∧ W.cell? ⟨w.heap.size, 3, none⟩ = some (.string a.word) ∧ W.cell? ⟨w.heap.size, 4, none⟩ = some (.string a.call.method) ∧ W.cell? ⟨w.heap.size, 5, none⟩ = some (.string a.call.key) ∧ W.cell? ⟨w.heap.size, 6, none⟩ = some (.int .i64 a.call.value) ∧ W.cell? ⟨w.heap.size, 7, none⟩ = some (.string a.call.text) ∧ W.cell? ⟨w.heap.size, 8, none⟩ = some (.int .i64 a.face) ∧ W.cell? ⟨w.heap.size, 9, none⟩ = some (.slice A1 a.A.length c1) ∧ W.cell? ⟨w.heap.size, 10, none⟩ = some (.slice A2 a.B.length c2)) := fun W hc =>
    ⟨(hc.cell (p := ⟨w.heap.size, 0, none⟩) sb (by simp)).trans v0, (hc.cell (p := ⟨w.heap.size, 1, none⟩) sb (by simp)).trans v1, (hc.cell (p := ⟨w.heap.size, 2, none⟩) sb (by simp)).trans v2, (hc.cell (p := ⟨w.heap.size, 3, none⟩) sb (by simp)).trans v3, (hc.cell (p := ⟨w.heap.size, 4, none⟩) sb (by simp)).trans v4, (hc.cell (p := ⟨w.heap.size, 5, none⟩) sb (by simp)).trans v5, (hc.cell (p := ⟨w.heap.size, 6, none⟩) sb (by simp)).trans v6, (hc.cell (p := ⟨w.heap.size, 7, none⟩) sb (by simp)).trans v7, (hc.cell (p := ⟨w.heap.size, 8, none⟩) sb (by simp)).trans v8, (hc.cell (p := ⟨w.heap.size, 9, none⟩) sb (by simp)).trans v9, (hc.cell (p := ⟨w.heap.size, 10, none⟩) sb (by simp)).trans v10⟩
  rw [← hwb]
  clear hwb v0 v1 v2 v3 v4 v5 v6 v7 v8 v9 v10
  refine (kindFace_spec_any a.word _).mono ?_
  rintro e w1 ⟨he, k1⟩
  subst he
  have d1 : Chg [] wb w1 := k1
  obtain ⟨kb, hkb⟩ : ∃ b, b = (kindOf a.word).isSome := ⟨_, rfl⟩
  have HK : Hid (kb = true ↔ kindOf a.word ≠ none) := by show _ ↔ _; rw [hkb]; cases kindOf a.word <;> simp
  obtain ⟨kz, hkz⟩ : ∃ z, z = (kindOf a.word).getD 0 := ⟨_, rfl⟩
  rw [← hkb, ← hkz]
  clear hkb hkz k1
  obtain ⟨p0, p1, p2, p3, p4, p5, p6, p7, p8, p9, p10⟩ := BX.out _ d1
  go_wp2_with fail
  refine (layerNeeds_spec_any a.word _).mono ?_
  rintro e w2 ⟨he, k2⟩
  subst he
  have d2 : Chg [] wb w2 := d1.trans0 k2
  obtain ⟨lb, hlb⟩ : ∃ b, b = ((layerOf a.word).map (·.1)).isSome := ⟨_, rfl⟩
  have HL : Hid (lb = true ↔ layerOf a.word ≠ none) := by show _ ↔ _; rw [hlb]; cases layerOf a.word <;> simp
  obtain ⟨lz, hlz⟩ : ∃ z, z = ((layerOf a.word).map (·.1)).getD 0 := ⟨_, rfl⟩
  rw [← hlb, ← hlz]
  clear hlb hlz k2 p0 p1 p2 p3 p4 p5 p6 p7 p8 p9 p10
  obtain ⟨p0, p1, p2, p3, p4, p5, p6, p7, p8, p9, p10⟩ := BX.out _ d2
  go_wp2_with fail
  refine (l1In_any a.slot 0 2 _).mono ?_
  rintro e w3 ⟨sl, rfl, hsl, rfl⟩
  have HS : Hid (sl = true ↔ SlotNo a.slot) := hsl
  have d3 : Chg [] w w3 := db.trans0 d2
  clear hsl
  go_wp2_with fail
  go_ret
  exact BoolPost.of ⟨fun h => by simp at h, fun h => absurd h HA.out⟩ d3
end Go.Proofs.YtldpibnfhomfgaaGreatDoor
namespace Go.Proofs.YtldpibnfhomfgaaGreatDoor
open Go.RowKit

set_option maxRecDepth 100000 in
set_option maxHeartbeats 8000000 in
theorem l8Action_4 (a : ActionT) (A1 A2 : Option Addr) (c1 c2 : Nat) (w : World) (h : a.op = 4) (hk : a.call.key.size ≤ 1048576) (ht : a.call.text.size ≤ 1048575) :
    Calls Tryz.prog 49 #[.agg #[.int .i64 a.op, .int .i64 a.slot, .int .i64 a.other, .string a.word, .string a.call.method, .string a.call.key, .int .i64 a.call.value, .string a.call.text, .int .i64 a.face, .slice A1 a.A.length c1, .slice A2 a.B.length c2]] w (BoolPost (ActOk a) w) := by
  have CL := Lib.hid (fun W => l8Call_any a.call W hk ht)
  have HA := Lib.hid (actOk_4 h)
  clear hk ht
  have n1 : (a.op == 1) = false := by rw [h]; rfl
  have n2 : (a.op == 2) = false := by rw [h]; rfl
  have n3 : (a.op == 3) = false := by rw [h]; rfl
  have n4 : (a.op == 4) = true := by rw [h]; rfl
  have n5 : (a.op == 5) = false := by rw [h]; rfl
  have n6 : (a.op == 6) = false := by rw [h]; rfl
  have n7 : (a.op == 7) = false := by rw [h]; rfl
  have n8 : (a.op == 8) = false := by rw [h]; rfl
  have n9 : (a.op == 9) = false := by rw [h]; rfl
  have n10 : (a.op == 10) = false := by rw [h]; rfl
  clear h
  go_enter Tryz.func49, Tryz.ntmps49
  go_wp2_with fail
  obtain ⟨wb, hwb⟩ : ∃ wb, wb = w.alloc (.cells #[.int .i64 a.op, .int .i64 a.slot, .int .i64 a.other, .string a.word, .string a.call.method, .string a.call.key, .int .i64 a.call.value, .string a.call.text, .int .i64 a.face, .slice A1 a.A.length c1, .slice A2 a.B.length c2] 41) := ⟨_, rfl⟩
  have db : Chg [] w wb := hwb ▸ (Chg.refl [] w).alloc _
  have sb : w.heap.size < wb.heap.size := by rw [hwb]; simp
  have v0 : wb.cell? ⟨w.heap.size, 0, none⟩ = some (.int .i64 a.op) := by rw [hwb]; go_simp
  have v1 : wb.cell? ⟨w.heap.size, 1, none⟩ = some (.int .i64 a.slot) := by rw [hwb]; go_simp
  have v2 : wb.cell? ⟨w.heap.size, 2, none⟩ = some (.int .i64 a.other) := by rw [hwb]; go_simp
  have v3 : wb.cell? ⟨w.heap.size, 3, none⟩ = some (.string a.word) := by rw [hwb]; go_simp
  have v4 : wb.cell? ⟨w.heap.size, 4, none⟩ = some (.string a.call.method) := by rw [hwb]; go_simp
  have v5 : wb.cell? ⟨w.heap.size, 5, none⟩ = some (.string a.call.key) := by rw [hwb]; go_simp
  have v6 : wb.cell? ⟨w.heap.size, 6, none⟩ = some (.int .i64 a.call.value) := by rw [hwb]; go_simp
  have v7 : wb.cell? ⟨w.heap.size, 7, none⟩ = some (.string a.call.text) := by rw [hwb]; go_simp
  have v8 : wb.cell? ⟨w.heap.size, 8, none⟩ = some (.int .i64 a.face) := by rw [hwb]; go_simp
  have v9 : wb.cell? ⟨w.heap.size, 9, none⟩ = some (.slice A1 a.A.length c1) := by rw [hwb]; go_simp
  have v10 : wb.cell? ⟨w.heap.size, 10, none⟩ = some (.slice A2 a.B.length c2) := by rw [hwb]; go_simp
  have BX : Hid (∀ W, Chg [] wb W → W.cell? ⟨w.heap.size, 0, none⟩ = some (.int .i64 a.op) ∧ W.cell? ⟨w.heap.size, 1, none⟩ = some (.int .i64 a.slot) ∧ W.cell? ⟨w.heap.size, 2, none⟩ = some (.int .i64 a.other) ∧ W.cell? ⟨w.heap.size, 3, none⟩ = some (.string a.word) ∧ W.cell? ⟨w.heap.size, 4, none⟩ = some (.string a.call.method) ∧ W.cell? ⟨w.heap.size, 5, none⟩ = some (.string a.call.key) ∧ W.cell? ⟨w.heap.size, 6, none⟩ = some (.int .i64 a.call.value) ∧ W.cell? ⟨w.heap.size, 7, none⟩ = some (.string a.call.text) ∧ W.cell? ⟨w.heap.size, 8, none⟩ = some (.int .i64 a.face) ∧ W.cell? ⟨w.heap.size, 9, none⟩ = some (.slice A1 a.A.length c1) ∧ W.cell? ⟨w.heap.size, 10, none⟩ = some (.slice A2 a.B.length c2)) := fun W hc =>
    ⟨(hc.cell (p := ⟨w.heap.size, 0, none⟩) sb (by simp)).trans v0, (hc.cell (p := ⟨w.heap.size, 1, none⟩) sb (by simp)).trans v1, (hc.cell (p := ⟨w.heap.size, 2, none⟩) sb (by simp)).trans v2, (hc.cell (p := ⟨w.heap.size, 3, none⟩) sb (by simp)).trans v3, (hc.cell (p := ⟨w.heap.size, 4, none⟩) sb (by simp)).trans v4, (hc.cell (p := ⟨w.heap.size, 5, none⟩) sb (by simp)).trans v5, (hc.cell (p := ⟨w.heap.size, 6, none⟩) sb (by simp)).trans v6, (hc.cell (p := ⟨w.heap.size, 7, none⟩) sb (by simp)).trans v7, (hc.cell (p := ⟨w.heap.size, 8, none⟩) sb (by simp)).trans v8, (hc.cell (p := ⟨w.heap.size, 9, none⟩) sb (by simp)).trans v9, (hc.cell (p := ⟨w.heap.size, 10, none⟩) sb (by simp)).trans v10⟩
  rw [← hwb]
  clear hwb v0 v1 v2 v3 v4 v5 v6 v7 v8 v9 v10
  refine (kindFace_spec_any a.word _).mono ?_
  rintro e w1 ⟨he, k1⟩
  subst he
  have d1 : Chg [] wb w1 := k1
  obtain ⟨kb, hkb⟩ : ∃ b, b = (kindOf a.word).isSome := ⟨_, rfl⟩
  have HK : Hid (kb = true ↔ kindOf a.word ≠ none) := by show _ ↔ _; rw [hkb]; cases kindOf a.word <;> simp
  obtain ⟨kz, hkz⟩ : ∃ z, z = (kindOf a.word).getD 0 := ⟨_, rfl⟩
  rw [← hkb, ← hkz]
  clear hkb hkz k1
  obtain ⟨p0, p1, p2, p3, p4, p5, p6, p7, p8, p9, p10⟩ := BX.out _ d1
  go_wp2_with fail
  refine (layerNeeds_spec_any a.word _).mono ?_
  rintro e w2 ⟨he, k2⟩
  subst he
  have d2 : Chg [] wb w2 := d1.trans0 k2
  obtain ⟨lb, hlb⟩ : ∃ b, b = ((layerOf a.word).map (·.1)).isSome := ⟨_, rfl⟩
  have HL : Hid (lb = true ↔ layerOf a.word ≠ none) := by show _ ↔ _; rw [hlb]; cases layerOf a.word <;> simp
  obtain ⟨lz, hlz⟩ : ∃ z, z = ((layerOf a.word).map (·.1)).getD 0 := ⟨_, rfl⟩
  rw [← hlb, ← hlz]
  clear hlb hlz k2 p0 p1 p2 p3 p4 p5 p6 p7 p8 p9 p10
  obtain ⟨p0, p1, p2, p3, p4, p5, p6, p7, p8, p9, p10⟩ := BX.out _ d2
  go_wp2_with fail
  refine (l1In_any a.slot 0 2 _).mono ?_
  rintro e w3 ⟨sl, rfl, hsl, rfl⟩
  have HS : Hid (sl = true ↔ SlotNo a.slot) := hsl
  have d3 : Chg [] w w3 := db.trans0 d2
  clear hsl
  cases sl
  all_goals
    go_wp2_with fail
    all_goals first
      | (go_ret; refine BoolPost.of ?_ (d3); have hact := HA.out; rw [hact]; (try have h1 := HS.out); (try simp at h1); (try have h2 := HK.out); (try simp at h2); (try have h3 := HL.out); (try simp at h3); (try have h4 := hz); (try simp at h4); clear hact; go_light; (try clear BX); (try clear CL); (try clear IC); (try clear PC); (try clear IA); (try clear IB); (try clear HA); (try clear p0 p1 p2 p3 p4 p5 p6 p7 p8 p9 p10); first | (simp [*]; done) | (simp_all; done))
      | (refine (l8Empty_any a A1 A2 c1 c2 _ _ _ _ _ _ flags_other _).mono ?_; rintro e w4 ⟨t, rfl, ht4, c4⟩; go_wp2_with fail; all_goals (go_ret; refine BoolPost.of ?_ ((d3).trans0 c4); have hact := HA.out; rw [hact]; (try have h1 := HS.out); (try simp at h1); (try have h2 := HK.out); (try simp at h2); (try have h3 := HL.out); (try simp at h3); (try have h4 := hz); (try simp at h4); clear hact; go_light; (try clear BX); (try clear CL); (try clear IC); (try clear PC); (try clear IA); (try clear IB); (try clear HA); (try clear p0 p1 p2 p3 p4 p5 p6 p7 p8 p9 p10); first | (simp [*]; done) | (simp_all; done)))
      | (refine (l1In_any a.other 0 2 _).mono ?_
         rintro e w5 ⟨t5, rfl, ht5, rfl⟩
         have hh5 : t5 = true ↔ SlotNo a.other := ht5
         clear ht5
         cases t5
         all_goals
           simp at hh5
           go_wp2_with fail
           all_goals first
             | (go_ret; refine BoolPost.of ?_ (d3); have hact := HA.out; rw [hact]; (try have h1 := HS.out); (try simp at h1); (try have h2 := HK.out); (try simp at h2); (try have h3 := HL.out); (try simp at h3); (try have h4 := hz); (try simp at h4); clear hact; go_light; (try clear BX); (try clear CL); (try clear IC); (try clear PC); (try clear IA); (try clear IB); (try clear HA); (try clear p0 p1 p2 p3 p4 p5 p6 p7 p8 p9 p10); first | (simp [*]; done) | (simp_all; done))
             | (refine (l8Empty_any a A1 A2 c1 c2 _ _ _ _ _ _ flags_other _).mono ?_; rintro e w4 ⟨t, rfl, ht4, c4⟩; go_wp2_with fail; all_goals (go_ret; refine BoolPost.of ?_ ((d3).trans0 c4); have hact := HA.out; rw [hact]; (try have h1 := HS.out); (try simp at h1); (try have h2 := HK.out); (try simp at h2); (try have h3 := HL.out); (try simp at h3); (try have h4 := hz); (try simp at h4); clear hact; go_light; (try clear BX); (try clear CL); (try clear IC); (try clear PC); (try clear IA); (try clear IB); (try clear HA); (try clear p0 p1 p2 p3 p4 p5 p6 p7 p8 p9 p10); first | (simp [*]; done) | (simp_all; done))))
set_option maxRecDepth 100000 in
set_option maxHeartbeats 8000000 in
theorem l8Action_6 (a : ActionT) (A1 A2 : Option Addr) (c1 c2 : Nat) (w : World) (h : a.op = 6) (hk : a.call.key.size ≤ 1048576) (ht : a.call.text.size ≤ 1048575) :
    Calls Tryz.prog 49 #[.agg #[.int .i64 a.op, .int .i64 a.slot, .int .i64 a.other, .string a.word, .string a.call.method, .string a.call.key, .int .i64 a.call.value, .string a.call.text, .int .i64 a.face, .slice A1 a.A.length c1, .slice A2 a.B.length c2]] w (BoolPost (ActOk a) w) := by
  have CL := Lib.hid (fun W => l8Call_any a.call W hk ht)
  have HA := Lib.hid (actOk_6 h)
  clear hk ht
  have n1 : (a.op == 1) = false := by rw [h]; rfl
  have n2 : (a.op == 2) = false := by rw [h]; rfl
  have n3 : (a.op == 3) = false := by rw [h]; rfl
  have n4 : (a.op == 4) = false := by rw [h]; rfl
  have n5 : (a.op == 5) = false := by rw [h]; rfl
  have n6 : (a.op == 6) = true := by rw [h]; rfl
  have n7 : (a.op == 7) = false := by rw [h]; rfl
  have n8 : (a.op == 8) = false := by rw [h]; rfl
  have n9 : (a.op == 9) = false := by rw [h]; rfl
  have n10 : (a.op == 10) = false := by rw [h]; rfl
  clear h
  go_enter Tryz.func49, Tryz.ntmps49
  go_wp2_with fail
  obtain ⟨wb, hwb⟩ : ∃ wb, wb = w.alloc (.cells #[.int .i64 a.op, .int .i64 a.slot, .int .i64 a.other, .string a.word, .string a.call.method, .string a.call.key, .int .i64 a.call.value, .string a.call.text, .int .i64 a.face, .slice A1 a.A.length c1, .slice A2 a.B.length c2] 41) := ⟨_, rfl⟩
  have db : Chg [] w wb := hwb ▸ (Chg.refl [] w).alloc _
  have sb : w.heap.size < wb.heap.size := by rw [hwb]; simp
  have v0 : wb.cell? ⟨w.heap.size, 0, none⟩ = some (.int .i64 a.op) := by rw [hwb]; go_simp
  have v1 : wb.cell? ⟨w.heap.size, 1, none⟩ = some (.int .i64 a.slot) := by rw [hwb]; go_simp
  have v2 : wb.cell? ⟨w.heap.size, 2, none⟩ = some (.int .i64 a.other) := by rw [hwb]; go_simp
  have v3 : wb.cell? ⟨w.heap.size, 3, none⟩ = some (.string a.word) := by rw [hwb]; go_simp
  have v4 : wb.cell? ⟨w.heap.size, 4, none⟩ = some (.string a.call.method) := by rw [hwb]; go_simp
  have v5 : wb.cell? ⟨w.heap.size, 5, none⟩ = some (.string a.call.key) := by rw [hwb]; go_simp
  have v6 : wb.cell? ⟨w.heap.size, 6, none⟩ = some (.int .i64 a.call.value) := by rw [hwb]; go_simp
  have v7 : wb.cell? ⟨w.heap.size, 7, none⟩ = some (.string a.call.text) := by rw [hwb]; go_simp
  have v8 : wb.cell? ⟨w.heap.size, 8, none⟩ = some (.int .i64 a.face) := by rw [hwb]; go_simp
  have v9 : wb.cell? ⟨w.heap.size, 9, none⟩ = some (.slice A1 a.A.length c1) := by rw [hwb]; go_simp
  have v10 : wb.cell? ⟨w.heap.size, 10, none⟩ = some (.slice A2 a.B.length c2) := by rw [hwb]; go_simp
  have BX : Hid (∀ W, Chg [] wb W → W.cell? ⟨w.heap.size, 0, none⟩ = some (.int .i64 a.op) ∧ W.cell? ⟨w.heap.size, 1, none⟩ = some (.int .i64 a.slot) ∧ W.cell? ⟨w.heap.size, 2, none⟩ = some (.int .i64 a.other) ∧ W.cell? ⟨w.heap.size, 3, none⟩ = some (.string a.word) ∧ W.cell? ⟨w.heap.size, 4, none⟩ = some (.string a.call.method) ∧ W.cell? ⟨w.heap.size, 5, none⟩ = some (.string a.call.key) ∧ W.cell? ⟨w.heap.size, 6, none⟩ = some (.int .i64 a.call.value) ∧ W.cell? ⟨w.heap.size, 7, none⟩ = some (.string a.call.text) ∧ W.cell? ⟨w.heap.size, 8, none⟩ = some (.int .i64 a.face) ∧ W.cell? ⟨w.heap.size, 9, none⟩ = some (.slice A1 a.A.length c1) ∧ W.cell? ⟨w.heap.size, 10, none⟩ = some (.slice A2 a.B.length c2)) := fun W hc =>
    ⟨(hc.cell (p := ⟨w.heap.size, 0, none⟩) sb (by simp)).trans v0, (hc.cell (p := ⟨w.heap.size, 1, none⟩) sb (by simp)).trans v1, (hc.cell (p := ⟨w.heap.size, 2, none⟩) sb (by simp)).trans v2, (hc.cell (p := ⟨w.heap.size, 3, none⟩) sb (by simp)).trans v3, (hc.cell (p := ⟨w.heap.size, 4, none⟩) sb (by simp)).trans v4, (hc.cell (p := ⟨w.heap.size, 5, none⟩) sb (by simp)).trans v5, (hc.cell (p := ⟨w.heap.size, 6, none⟩) sb (by simp)).trans v6, (hc.cell (p := ⟨w.heap.size, 7, none⟩) sb (by simp)).trans v7, (hc.cell (p := ⟨w.heap.size, 8, none⟩) sb (by simp)).trans v8, (hc.cell (p := ⟨w.heap.size, 9, none⟩) sb (by simp)).trans v9, (hc.cell (p := ⟨w.heap.size, 10, none⟩) sb (by simp)).trans v10⟩
  rw [← hwb]
  clear hwb v0 v1 v2 v3 v4 v5 v6 v7 v8 v9 v10
  refine (kindFace_spec_any a.word _).mono ?_
  rintro e w1 ⟨he, k1⟩
  subst he
  have d1 : Chg [] wb w1 := k1
  obtain ⟨kb, hkb⟩ : ∃ b, b = (kindOf a.word).isSome := ⟨_, rfl⟩
  have HK : Hid (kb = true ↔ kindOf a.word ≠ none) := by show _ ↔ _; rw [hkb]; cases kindOf a.word <;> simp
  obtain ⟨kz, hkz⟩ : ∃ z, z = (kindOf a.word).getD 0 := ⟨_, rfl⟩
  rw [← hkb, ← hkz]
  clear hkb hkz k1
  obtain ⟨p0, p1, p2, p3, p4, p5, p6, p7, p8, p9, p10⟩ := BX.out _ d1
  go_wp2_with fail
  refine (layerNeeds_spec_any a.word _).mono ?_
  rintro e w2 ⟨he, k2⟩
  subst he
  have d2 : Chg [] wb w2 := d1.trans0 k2
  obtain ⟨lb, hlb⟩ : ∃ b, b = ((layerOf a.word).map (·.1)).isSome := ⟨_, rfl⟩
  have HL : Hid (lb = true ↔ layerOf a.word ≠ none) := by show _ ↔ _; rw [hlb]; cases layerOf a.word <;> simp
  obtain ⟨lz, hlz⟩ : ∃ z, z = ((layerOf a.word).map (·.1)).getD 0 := ⟨_, rfl⟩
  rw [← hlb, ← hlz]
  clear hlb hlz k2 p0 p1 p2 p3 p4 p5 p6 p7 p8 p9 p10
  obtain ⟨p0, p1, p2, p3, p4, p5, p6, p7, p8, p9, p10⟩ := BX.out _ d2
  go_wp2_with fail
  refine (l1In_any a.slot 0 2 _).mono ?_
  rintro e w3 ⟨sl, rfl, hsl, rfl⟩
  have HS : Hid (sl = true ↔ SlotNo a.slot) := hsl
  have d3 : Chg [] w w3 := db.trans0 d2
  clear hsl
  cases sl
  all_goals
    go_wp2_with fail
    all_goals first
      | (go_ret; refine BoolPost.of ?_ (d3); have hact := HA.out; rw [hact]; (try have h1 := HS.out); (try simp at h1); (try have h2 := HK.out); (try simp at h2); (try have h3 := HL.out); (try simp at h3); (try have h4 := hz); (try simp at h4); clear hact; go_light; (try clear BX); (try clear CL); (try clear IC); (try clear PC); (try clear IA); (try clear IB); (try clear HA); (try clear p0 p1 p2 p3 p4 p5 p6 p7 p8 p9 p10); first | (simp [*]; done) | (simp_all; done))
      | (refine (l8Empty_any a A1 A2 c1 c2 _ _ _ _ _ _ flags_face _).mono ?_; rintro e w4 ⟨t, rfl, ht4, c4⟩; go_wp2_with fail; all_goals (go_ret; refine BoolPost.of ?_ ((d3).trans0 c4); have hact := HA.out; rw [hact]; (try have h1 := HS.out); (try simp at h1); (try have h2 := HK.out); (try simp at h2); (try have h3 := HL.out); (try simp at h3); (try have h4 := hz); (try simp at h4); clear hact; go_light; (try clear BX); (try clear CL); (try clear IC); (try clear PC); (try clear IA); (try clear IB); (try clear HA); (try clear p0 p1 p2 p3 p4 p5 p6 p7 p8 p9 p10); first | (simp [*]; done) | (simp_all; done)))
      | (refine (isFace_spec_any a.face _).mono ?_
         rintro e w5 ⟨t5, rfl, hh5, rfl⟩
         cases t5
         all_goals
           simp at hh5
           go_wp2_with fail
           all_goals first
             | (go_ret; refine BoolPost.of ?_ (d3); have hact := HA.out; rw [hact]; (try have h1 := HS.out); (try simp at h1); (try have h2 := HK.out); (try simp at h2); (try have h3 := HL.out); (try simp at h3); (try have h4 := hz); (try simp at h4); clear hact; go_light; (try clear BX); (try clear CL); (try clear IC); (try clear PC); (try clear IA); (try clear IB); (try clear HA); (try clear p0 p1 p2 p3 p4 p5 p6 p7 p8 p9 p10); first | (simp [*]; done) | (simp_all; done))
             | (refine (l8Empty_any a A1 A2 c1 c2 _ _ _ _ _ _ flags_face _).mono ?_; rintro e w4 ⟨t, rfl, ht4, c4⟩; go_wp2_with fail; all_goals (go_ret; refine BoolPost.of ?_ ((d3).trans0 c4); have hact := HA.out; rw [hact]; (try have h1 := HS.out); (try simp at h1); (try have h2 := HK.out); (try simp at h2); (try have h3 := HL.out); (try simp at h3); (try have h4 := hz); (try simp at h4); clear hact; go_light; (try clear BX); (try clear CL); (try clear IC); (try clear PC); (try clear IA); (try clear IB); (try clear HA); (try clear p0 p1 p2 p3 p4 p5 p6 p7 p8 p9 p10); first | (simp [*]; done) | (simp_all; done))))
end Go.Proofs.YtldpibnfhomfgaaGreatDoor
namespace Go.Proofs.YtldpibnfhomfgaaGreatDoor
open Go.RowKit

set_option maxRecDepth 100000 in
set_option maxHeartbeats 8000000 in
theorem l8Action_7 (a : ActionT) (A1 A2 : Option Addr) (c1 c2 : Nat) (w : World) (h : a.op = 7) (hk : a.call.key.size ≤ 1048576) (ht : a.call.text.size ≤ 1048575) :
    Calls Tryz.prog 49 #[.agg #[.int .i64 a.op, .int .i64 a.slot, .int .i64 a.other, .string a.word, .string a.call.method, .string a.call.key, .int .i64 a.call.value, .string a.call.text, .int .i64 a.face, .slice A1 a.A.length c1, .slice A2 a.B.length c2]] w (BoolPost (ActOk a) w) := by
  have CL := Lib.hid (fun W => l8Call_any a.call W hk ht)
  have HA := Lib.hid (actOk_7 h)
  clear hk ht
  have n1 : (a.op == 1) = false := by rw [h]; rfl
  have n2 : (a.op == 2) = false := by rw [h]; rfl
  have n3 : (a.op == 3) = false := by rw [h]; rfl
  have n4 : (a.op == 4) = false := by rw [h]; rfl
  have n5 : (a.op == 5) = false := by rw [h]; rfl
  have n6 : (a.op == 6) = false := by rw [h]; rfl
  have n7 : (a.op == 7) = true := by rw [h]; rfl
  have n8 : (a.op == 8) = false := by rw [h]; rfl
  have n9 : (a.op == 9) = false := by rw [h]; rfl
  have n10 : (a.op == 10) = false := by rw [h]; rfl
  clear h
  go_enter Tryz.func49, Tryz.ntmps49
  go_wp2_with fail
  obtain ⟨wb, hwb⟩ : ∃ wb, wb = w.alloc (.cells #[.int .i64 a.op, .int .i64 a.slot, .int .i64 a.other, .string a.word, .string a.call.method, .string a.call.key, .int .i64 a.call.value, .string a.call.text, .int .i64 a.face, .slice A1 a.A.length c1, .slice A2 a.B.length c2] 41) := ⟨_, rfl⟩
  have db : Chg [] w wb := hwb ▸ (Chg.refl [] w).alloc _
  have sb : w.heap.size < wb.heap.size := by rw [hwb]; simp
  have v0 : wb.cell? ⟨w.heap.size, 0, none⟩ = some (.int .i64 a.op) := by rw [hwb]; go_simp
  have v1 : wb.cell? ⟨w.heap.size, 1, none⟩ = some (.int .i64 a.slot) := by rw [hwb]; go_simp
  have v2 : wb.cell? ⟨w.heap.size, 2, none⟩ = some (.int .i64 a.other) := by rw [hwb]; go_simp
  have v3 : wb.cell? ⟨w.heap.size, 3, none⟩ = some (.string a.word) := by rw [hwb]; go_simp
  have v4 : wb.cell? ⟨w.heap.size, 4, none⟩ = some (.string a.call.method) := by rw [hwb]; go_simp
  have v5 : wb.cell? ⟨w.heap.size, 5, none⟩ = some (.string a.call.key) := by rw [hwb]; go_simp
  have v6 : wb.cell? ⟨w.heap.size, 6, none⟩ = some (.int .i64 a.call.value) := by rw [hwb]; go_simp
  have v7 : wb.cell? ⟨w.heap.size, 7, none⟩ = some (.string a.call.text) := by rw [hwb]; go_simp
  have v8 : wb.cell? ⟨w.heap.size, 8, none⟩ = some (.int .i64 a.face) := by rw [hwb]; go_simp
  have v9 : wb.cell? ⟨w.heap.size, 9, none⟩ = some (.slice A1 a.A.length c1) := by rw [hwb]; go_simp
  have v10 : wb.cell? ⟨w.heap.size, 10, none⟩ = some (.slice A2 a.B.length c2) := by rw [hwb]; go_simp
  have BX : Hid (∀ W, Chg [] wb W → W.cell? ⟨w.heap.size, 0, none⟩ = some (.int .i64 a.op) ∧ W.cell? ⟨w.heap.size, 1, none⟩ = some (.int .i64 a.slot) ∧ W.cell? ⟨w.heap.size, 2, none⟩ = some (.int .i64 a.other) ∧ W.cell? ⟨w.heap.size, 3, none⟩ = some (.string a.word) ∧ W.cell? ⟨w.heap.size, 4, none⟩ = some (.string a.call.method) ∧ W.cell? ⟨w.heap.size, 5, none⟩ = some (.string a.call.key) ∧ W.cell? ⟨w.heap.size, 6, none⟩ = some (.int .i64 a.call.value) ∧ W.cell? ⟨w.heap.size, 7, none⟩ = some (.string a.call.text) ∧ W.cell? ⟨w.heap.size, 8, none⟩ = some (.int .i64 a.face) ∧ W.cell? ⟨w.heap.size, 9, none⟩ = some (.slice A1 a.A.length c1) ∧ W.cell? ⟨w.heap.size, 10, none⟩ = some (.slice A2 a.B.length c2)) := fun W hc =>
    ⟨(hc.cell (p := ⟨w.heap.size, 0, none⟩) sb (by simp)).trans v0, (hc.cell (p := ⟨w.heap.size, 1, none⟩) sb (by simp)).trans v1, (hc.cell (p := ⟨w.heap.size, 2, none⟩) sb (by simp)).trans v2, (hc.cell (p := ⟨w.heap.size, 3, none⟩) sb (by simp)).trans v3, (hc.cell (p := ⟨w.heap.size, 4, none⟩) sb (by simp)).trans v4, (hc.cell (p := ⟨w.heap.size, 5, none⟩) sb (by simp)).trans v5, (hc.cell (p := ⟨w.heap.size, 6, none⟩) sb (by simp)).trans v6, (hc.cell (p := ⟨w.heap.size, 7, none⟩) sb (by simp)).trans v7, (hc.cell (p := ⟨w.heap.size, 8, none⟩) sb (by simp)).trans v8, (hc.cell (p := ⟨w.heap.size, 9, none⟩) sb (by simp)).trans v9, (hc.cell (p := ⟨w.heap.size, 10, none⟩) sb (by simp)).trans v10⟩
  rw [← hwb]
  clear hwb v0 v1 v2 v3 v4 v5 v6 v7 v8 v9 v10
  refine (kindFace_spec_any a.word _).mono ?_
  rintro e w1 ⟨he, k1⟩
  subst he
  have d1 : Chg [] wb w1 := k1
  obtain ⟨kb, hkb⟩ : ∃ b, b = (kindOf a.word).isSome := ⟨_, rfl⟩
  have HK : Hid (kb = true ↔ kindOf a.word ≠ none) := by show _ ↔ _; rw [hkb]; cases kindOf a.word <;> simp
  obtain ⟨kz, hkz⟩ : ∃ z, z = (kindOf a.word).getD 0 := ⟨_, rfl⟩
  rw [← hkb, ← hkz]
  clear hkb hkz k1
  obtain ⟨p0, p1, p2, p3, p4, p5, p6, p7, p8, p9, p10⟩ := BX.out _ d1
  go_wp2_with fail
  refine (layerNeeds_spec_any a.word _).mono ?_
  rintro e w2 ⟨he, k2⟩
  subst he
  have d2 : Chg [] wb w2 := d1.trans0 k2
  obtain ⟨lb, hlb⟩ : ∃ b, b = ((layerOf a.word).map (·.1)).isSome := ⟨_, rfl⟩
  have HL : Hid (lb = true ↔ layerOf a.word ≠ none) := by show _ ↔ _; rw [hlb]; cases layerOf a.word <;> simp
  obtain ⟨lz, hlz⟩ : ∃ z, z = ((layerOf a.word).map (·.1)).getD 0 := ⟨_, rfl⟩
  rw [← hlb, ← hlz]
  clear hlb hlz k2 p0 p1 p2 p3 p4 p5 p6 p7 p8 p9 p10
  obtain ⟨p0, p1, p2, p3, p4, p5, p6, p7, p8, p9, p10⟩ := BX.out _ d2
  go_wp2_with fail
  refine (l1In_any a.slot 0 2 _).mono ?_
  rintro e w3 ⟨sl, rfl, hsl, rfl⟩
  have HS : Hid (sl = true ↔ SlotNo a.slot) := hsl
  have d3 : Chg [] w w3 := db.trans0 d2
  clear hsl
  cases sl
  all_goals
    go_wp2_with fail
    all_goals first
      | (go_ret; refine BoolPost.of ?_ (d3); have hact := HA.out; rw [hact]; (try have h1 := HS.out); (try simp at h1); (try have h2 := HK.out); (try simp at h2); (try have h3 := HL.out); (try simp at h3); (try have h4 := hz); (try simp at h4); clear hact; go_light; (try clear BX); (try clear CL); (try clear IC); (try clear PC); (try clear IA); (try clear IB); (try clear HA); (try clear p0 p1 p2 p3 p4 p5 p6 p7 p8 p9 p10); first | (simp [*]; done) | (simp_all; done))
      | (refine (l8Empty_any a A1 A2 c1 c2 _ _ _ _ _ _ flags_call _).mono ?_; rintro e w4 ⟨t, rfl, ht4, c4⟩; go_wp2_with fail; all_goals (go_ret; refine BoolPost.of ?_ ((d3).trans0 c4); have hact := HA.out; rw [hact]; (try have h1 := HS.out); (try simp at h1); (try have h2 := HK.out); (try simp at h2); (try have h3 := HL.out); (try simp at h3); (try have h4 := hz); (try simp at h4); clear hact; go_light; (try clear BX); (try clear CL); (try clear IC); (try clear PC); (try clear IA); (try clear IB); (try clear HA); (try clear p0 p1 p2 p3 p4 p5 p6 p7 p8 p9 p10); first | (simp [*]; done) | (simp_all; done)))
      | (refine (CL.out _).mono ?_
         rintro e w5 ⟨t5, rfl, hh5, k5⟩
         have d5 : Chg [] wb w5 := d2.trans0 k5
         clear p0 p1 p2 p3 p4 p5 p6 p7 p8 p9 p10
         obtain ⟨p0, p1, p2, p3, p4, p5, p6, p7, p8, p9, p10⟩ := BX.out _ d5
         cases t5
         all_goals
           simp at hh5
           go_wp2_with fail
           all_goals first
             | (go_ret; refine BoolPost.of ?_ (db.trans0 d5); have hact := HA.out; rw [hact]; (try have h1 := HS.out); (try simp at h1); (try have h2 := HK.out); (try simp at h2); (try have h3 := HL.out); (try simp at h3); (try have h4 := hz); (try simp at h4); clear hact; go_light; (try clear BX); (try clear CL); (try clear IC); (try clear PC); (try clear IA); (try clear IB); (try clear HA); (try clear p0 p1 p2 p3 p4 p5 p6 p7 p8 p9 p10); first | (simp [*]; done) | (simp_all; done))
             | (refine (l8Empty_any a A1 A2 c1 c2 _ _ _ _ _ _ flags_call _).mono ?_; rintro e w4 ⟨t, rfl, ht4, c4⟩; go_wp2_with fail; all_goals (go_ret; refine BoolPost.of ?_ ((db.trans0 d5).trans0 c4); have hact := HA.out; rw [hact]; (try have h1 := HS.out); (try simp at h1); (try have h2 := HK.out); (try simp at h2); (try have h3 := HL.out); (try simp at h3); (try have h4 := hz); (try simp at h4); clear hact; go_light; (try clear BX); (try clear CL); (try clear IC); (try clear PC); (try clear IA); (try clear IB); (try clear HA); (try clear p0 p1 p2 p3 p4 p5 p6 p7 p8 p9 p10); first | (simp [*]; done) | (simp_all; done))))
set_option maxRecDepth 100000 in
set_option maxHeartbeats 8000000 in
theorem l8Action_8 (a : ActionT) (A1 A2 : Option Addr) (c1 c2 : Nat) (w : World) (h : a.op = 8) (hk : a.call.key.size ≤ 1048576) (ht : a.call.text.size ≤ 1048575) :
    Calls Tryz.prog 49 #[.agg #[.int .i64 a.op, .int .i64 a.slot, .int .i64 a.other, .string a.word, .string a.call.method, .string a.call.key, .int .i64 a.call.value, .string a.call.text, .int .i64 a.face, .slice A1 a.A.length c1, .slice A2 a.B.length c2]] w (BoolPost (ActOk a) w) := by
  have CL := Lib.hid (fun W => l8Call_any a.call W hk ht)
  have HA := Lib.hid (actOk_8 (.inl h))
  clear hk ht
  have n1 : (a.op == 1) = false := by rw [h]; rfl
  have n2 : (a.op == 2) = false := by rw [h]; rfl
  have n3 : (a.op == 3) = false := by rw [h]; rfl
  have n4 : (a.op == 4) = false := by rw [h]; rfl
  have n5 : (a.op == 5) = false := by rw [h]; rfl
  have n6 : (a.op == 6) = false := by rw [h]; rfl
  have n7 : (a.op == 7) = false := by rw [h]; rfl
  have n8 : (a.op == 8) = true := by rw [h]; rfl
  have n9 : (a.op == 9) = false := by rw [h]; rfl
  have n10 : (a.op == 10) = false := by rw [h]; rfl
  clear h
  go_enter Tryz.func49, Tryz.ntmps49
  go_wp2_with fail
  obtain ⟨wb, hwb⟩ : ∃ wb, wb = w.alloc (.cells #[.int .i64 a.op, .int .i64 a.slot, .int .i64 a.other, .string a.word, .string a.call.method, .string a.call.key, .int .i64 a.call.value, .string a.call.text, .int .i64 a.face, .slice A1 a.A.length c1, .slice A2 a.B.length c2] 41) := ⟨_, rfl⟩
  have db : Chg [] w wb := hwb ▸ (Chg.refl [] w).alloc _
  have sb : w.heap.size < wb.heap.size := by rw [hwb]; simp
  have v0 : wb.cell? ⟨w.heap.size, 0, none⟩ = some (.int .i64 a.op) := by rw [hwb]; go_simp
  have v1 : wb.cell? ⟨w.heap.size, 1, none⟩ = some (.int .i64 a.slot) := by rw [hwb]; go_simp
  have v2 : wb.cell? ⟨w.heap.size, 2, none⟩ = some (.int .i64 a.other) := by rw [hwb]; go_simp
  have v3 : wb.cell? ⟨w.heap.size, 3, none⟩ = some (.string a.word) := by rw [hwb]; go_simp
  have v4 : wb.cell? ⟨w.heap.size, 4, none⟩ = some (.string a.call.method) := by rw [hwb]; go_simp
  have v5 : wb.cell? ⟨w.heap.size, 5, none⟩ = some (.string a.call.key) := by rw [hwb]; go_simp
  have v6 : wb.cell? ⟨w.heap.size, 6, none⟩ = some (.int .i64 a.call.value) := by rw [hwb]; go_simp
  have v7 : wb.cell? ⟨w.heap.size, 7, none⟩ = some (.string a.call.text) := by rw [hwb]; go_simp
  have v8 : wb.cell? ⟨w.heap.size, 8, none⟩ = some (.int .i64 a.face) := by rw [hwb]; go_simp
  have v9 : wb.cell? ⟨w.heap.size, 9, none⟩ = some (.slice A1 a.A.length c1) := by rw [hwb]; go_simp
  have v10 : wb.cell? ⟨w.heap.size, 10, none⟩ = some (.slice A2 a.B.length c2) := by rw [hwb]; go_simp
  have BX : Hid (∀ W, Chg [] wb W → W.cell? ⟨w.heap.size, 0, none⟩ = some (.int .i64 a.op) ∧ W.cell? ⟨w.heap.size, 1, none⟩ = some (.int .i64 a.slot) ∧ W.cell? ⟨w.heap.size, 2, none⟩ = some (.int .i64 a.other) ∧ W.cell? ⟨w.heap.size, 3, none⟩ = some (.string a.word) ∧ W.cell? ⟨w.heap.size, 4, none⟩ = some (.string a.call.method) ∧ W.cell? ⟨w.heap.size, 5, none⟩ = some (.string a.call.key) ∧ W.cell? ⟨w.heap.size, 6, none⟩ = some (.int .i64 a.call.value) ∧ W.cell? ⟨w.heap.size, 7, none⟩ = some (.string a.call.text) ∧ W.cell? ⟨w.heap.size, 8, none⟩ = some (.int .i64 a.face) ∧ W.cell? ⟨w.heap.size, 9, none⟩ = some (.slice A1 a.A.length c1) ∧ W.cell? ⟨w.heap.size, 10, none⟩ = some (.slice A2 a.B.length c2)) := fun W hc =>
    ⟨(hc.cell (p := ⟨w.heap.size, 0, none⟩) sb (by simp)).trans v0, (hc.cell (p := ⟨w.heap.size, 1, none⟩) sb (by simp)).trans v1, (hc.cell (p := ⟨w.heap.size, 2, none⟩) sb (by simp)).trans v2, (hc.cell (p := ⟨w.heap.size, 3, none⟩) sb (by simp)).trans v3, (hc.cell (p := ⟨w.heap.size, 4, none⟩) sb (by simp)).trans v4, (hc.cell (p := ⟨w.heap.size, 5, none⟩) sb (by simp)).trans v5, (hc.cell (p := ⟨w.heap.size, 6, none⟩) sb (by simp)).trans v6, (hc.cell (p := ⟨w.heap.size, 7, none⟩) sb (by simp)).trans v7, (hc.cell (p := ⟨w.heap.size, 8, none⟩) sb (by simp)).trans v8, (hc.cell (p := ⟨w.heap.size, 9, none⟩) sb (by simp)).trans v9, (hc.cell (p := ⟨w.heap.size, 10, none⟩) sb (by simp)).trans v10⟩
  rw [← hwb]
  clear hwb v0 v1 v2 v3 v4 v5 v6 v7 v8 v9 v10
  refine (kindFace_spec_any a.word _).mono ?_
  rintro e w1 ⟨he, k1⟩
  subst he
  have d1 : Chg [] wb w1 := k1
  obtain ⟨kb, hkb⟩ : ∃ b, b = (kindOf a.word).isSome := ⟨_, rfl⟩
  have HK : Hid (kb = true ↔ kindOf a.word ≠ none) := by show _ ↔ _; rw [hkb]; cases kindOf a.word <;> simp
  obtain ⟨kz, hkz⟩ : ∃ z, z = (kindOf a.word).getD 0 := ⟨_, rfl⟩
  rw [← hkb, ← hkz]
  clear hkb hkz k1
  obtain ⟨p0, p1, p2, p3, p4, p5, p6, p7, p8, p9, p10⟩ := BX.out _ d1
  go_wp2_with fail
  refine (layerNeeds_spec_any a.word _).mono ?_
  rintro e w2 ⟨he, k2⟩
  subst he
  have d2 : Chg [] wb w2 := d1.trans0 k2
  obtain ⟨lb, hlb⟩ : ∃ b, b = ((layerOf a.word).map (·.1)).isSome := ⟨_, rfl⟩
  have HL : Hid (lb = true ↔ layerOf a.word ≠ none) := by show _ ↔ _; rw [hlb]; cases layerOf a.word <;> simp
  obtain ⟨lz, hlz⟩ : ∃ z, z = ((layerOf a.word).map (·.1)).getD 0 := ⟨_, rfl⟩
  rw [← hlb, ← hlz]
  clear hlb hlz k2 p0 p1 p2 p3 p4 p5 p6 p7 p8 p9 p10
  obtain ⟨p0, p1, p2, p3, p4, p5, p6, p7, p8, p9, p10⟩ := BX.out _ d2
  go_wp2_with fail
  refine (l1In_any a.slot 0 2 _).mono ?_
  rintro e w3 ⟨sl, rfl, hsl, rfl⟩
  have HS : Hid (sl = true ↔ SlotNo a.slot) := hsl
  have d3 : Chg [] w w3 := db.trans0 d2
  clear hsl
  cases hz : (a.slot == 0)
  all_goals
    go_wp2_with fail
    all_goals first
      | (go_ret; refine BoolPost.of ?_ (d3); have hact := HA.out; rw [hact]; (try have h1 := HS.out); (try simp at h1); (try have h2 := HK.out); (try simp at h2); (try have h3 := HL.out); (try simp at h3); (try have h4 := hz); (try simp at h4); clear hact; go_light; (try clear BX); (try clear CL); (try clear IC); (try clear PC); (try clear IA); (try clear IB); (try clear HA); (try clear p0 p1 p2 p3 p4 p5 p6 p7 p8 p9 p10); first | (simp [*]; done) | (simp_all; done))
      | (refine (l8Empty_any a A1 A2 c1 c2 _ _ _ _ _ _ flags_two _).mono ?_; rintro e w4 ⟨t, rfl, ht4, c4⟩; go_wp2_with fail; all_goals (go_ret; refine BoolPost.of ?_ ((d3).trans0 c4); have hact := HA.out; rw [hact]; (try have h1 := HS.out); (try simp at h1); (try have h2 := HK.out); (try simp at h2); (try have h3 := HL.out); (try simp at h3); (try have h4 := hz); (try simp at h4); clear hact; go_light; (try clear BX); (try clear CL); (try clear IC); (try clear PC); (try clear IA); (try clear IB); (try clear HA); (try clear p0 p1 p2 p3 p4 p5 p6 p7 p8 p9 p10); first | (simp [*]; done) | (simp_all; done)))
set_option maxRecDepth 100000 in
set_option maxHeartbeats 8000000 in
theorem l8Action_10 (a : ActionT) (A1 A2 : Option Addr) (c1 c2 : Nat) (w : World) (h : a.op = 10) (hk : a.call.key.size ≤ 1048576) (ht : a.call.text.size ≤ 1048575) :
    Calls Tryz.prog 49 #[.agg #[.int .i64 a.op, .int .i64 a.slot, .int .i64 a.other, .string a.word, .string a.call.method, .string a.call.key, .int .i64 a.call.value, .string a.call.text, .int .i64 a.face, .slice A1 a.A.length c1, .slice A2 a.B.length c2]] w (BoolPost (ActOk a) w) := by
  have CL := Lib.hid (fun W => l8Call_any a.call W hk ht)
  have HA := Lib.hid (actOk_8 (.inr h))
  clear hk ht
  have n1 : (a.op == 1) = false := by rw [h]; rfl
  have n2 : (a.op == 2) = false := by rw [h]; rfl
  have n3 : (a.op == 3) = false := by rw [h]; rfl
  have n4 : (a.op == 4) = false := by rw [h]; rfl
  have n5 : (a.op == 5) = false := by rw [h]; rfl
  have n6 : (a.op == 6) = false := by rw [h]; rfl
  have n7 : (a.op == 7) = false := by rw [h]; rfl
  have n8 : (a.op == 8) = false := by rw [h]; rfl
  have n9 : (a.op == 9) = false := by rw [h]; rfl
  have n10 : (a.op == 10) = true := by rw [h]; rfl
  clear h
  go_enter Tryz.func49, Tryz.ntmps49
  go_wp2_with fail
  obtain ⟨wb, hwb⟩ : ∃ wb, wb = w.alloc (.cells #[.int .i64 a.op, .int .i64 a.slot, .int .i64 a.other, .string a.word, .string a.call.method, .string a.call.key, .int .i64 a.call.value, .string a.call.text, .int .i64 a.face, .slice A1 a.A.length c1, .slice A2 a.B.length c2] 41) := ⟨_, rfl⟩
  have db : Chg [] w wb := hwb ▸ (Chg.refl [] w).alloc _
  have sb : w.heap.size < wb.heap.size := by rw [hwb]; simp
  have v0 : wb.cell? ⟨w.heap.size, 0, none⟩ = some (.int .i64 a.op) := by rw [hwb]; go_simp
  have v1 : wb.cell? ⟨w.heap.size, 1, none⟩ = some (.int .i64 a.slot) := by rw [hwb]; go_simp
  have v2 : wb.cell? ⟨w.heap.size, 2, none⟩ = some (.int .i64 a.other) := by rw [hwb]; go_simp
  have v3 : wb.cell? ⟨w.heap.size, 3, none⟩ = some (.string a.word) := by rw [hwb]; go_simp
  have v4 : wb.cell? ⟨w.heap.size, 4, none⟩ = some (.string a.call.method) := by rw [hwb]; go_simp
  have v5 : wb.cell? ⟨w.heap.size, 5, none⟩ = some (.string a.call.key) := by rw [hwb]; go_simp
  have v6 : wb.cell? ⟨w.heap.size, 6, none⟩ = some (.int .i64 a.call.value) := by rw [hwb]; go_simp
  have v7 : wb.cell? ⟨w.heap.size, 7, none⟩ = some (.string a.call.text) := by rw [hwb]; go_simp
  have v8 : wb.cell? ⟨w.heap.size, 8, none⟩ = some (.int .i64 a.face) := by rw [hwb]; go_simp
  have v9 : wb.cell? ⟨w.heap.size, 9, none⟩ = some (.slice A1 a.A.length c1) := by rw [hwb]; go_simp
  have v10 : wb.cell? ⟨w.heap.size, 10, none⟩ = some (.slice A2 a.B.length c2) := by rw [hwb]; go_simp
  have BX : Hid (∀ W, Chg [] wb W → W.cell? ⟨w.heap.size, 0, none⟩ = some (.int .i64 a.op) ∧ W.cell? ⟨w.heap.size, 1, none⟩ = some (.int .i64 a.slot) ∧ W.cell? ⟨w.heap.size, 2, none⟩ = some (.int .i64 a.other) ∧ W.cell? ⟨w.heap.size, 3, none⟩ = some (.string a.word) ∧ W.cell? ⟨w.heap.size, 4, none⟩ = some (.string a.call.method) ∧ W.cell? ⟨w.heap.size, 5, none⟩ = some (.string a.call.key) ∧ W.cell? ⟨w.heap.size, 6, none⟩ = some (.int .i64 a.call.value) ∧ W.cell? ⟨w.heap.size, 7, none⟩ = some (.string a.call.text) ∧ W.cell? ⟨w.heap.size, 8, none⟩ = some (.int .i64 a.face) ∧ W.cell? ⟨w.heap.size, 9, none⟩ = some (.slice A1 a.A.length c1) ∧ W.cell? ⟨w.heap.size, 10, none⟩ = some (.slice A2 a.B.length c2)) := fun W hc =>
    ⟨(hc.cell (p := ⟨w.heap.size, 0, none⟩) sb (by simp)).trans v0, (hc.cell (p := ⟨w.heap.size, 1, none⟩) sb (by simp)).trans v1, (hc.cell (p := ⟨w.heap.size, 2, none⟩) sb (by simp)).trans v2, (hc.cell (p := ⟨w.heap.size, 3, none⟩) sb (by simp)).trans v3, (hc.cell (p := ⟨w.heap.size, 4, none⟩) sb (by simp)).trans v4, (hc.cell (p := ⟨w.heap.size, 5, none⟩) sb (by simp)).trans v5, (hc.cell (p := ⟨w.heap.size, 6, none⟩) sb (by simp)).trans v6, (hc.cell (p := ⟨w.heap.size, 7, none⟩) sb (by simp)).trans v7, (hc.cell (p := ⟨w.heap.size, 8, none⟩) sb (by simp)).trans v8, (hc.cell (p := ⟨w.heap.size, 9, none⟩) sb (by simp)).trans v9, (hc.cell (p := ⟨w.heap.size, 10, none⟩) sb (by simp)).trans v10⟩
  rw [← hwb]
  clear hwb v0 v1 v2 v3 v4 v5 v6 v7 v8 v9 v10
  refine (kindFace_spec_any a.word _).mono ?_
  rintro e w1 ⟨he, k1⟩
  subst he
  have d1 : Chg [] wb w1 := k1
  obtain ⟨kb, hkb⟩ : ∃ b, b = (kindOf a.word).isSome := ⟨_, rfl⟩
  have HK : Hid (kb = true ↔ kindOf a.word ≠ none) := by show _ ↔ _; rw [hkb]; cases kindOf a.word <;> simp
  obtain ⟨kz, hkz⟩ : ∃ z, z = (kindOf a.word).getD 0 := ⟨_, rfl⟩
  rw [← hkb, ← hkz]
  clear hkb hkz k1
  obtain ⟨p0, p1, p2, p3, p4, p5, p6, p7, p8, p9, p10⟩ := BX.out _ d1
  go_wp2_with fail
  refine (layerNeeds_spec_any a.word _).mono ?_
  rintro e w2 ⟨he, k2⟩
  subst he
  have d2 : Chg [] wb w2 := d1.trans0 k2
  obtain ⟨lb, hlb⟩ : ∃ b, b = ((layerOf a.word).map (·.1)).isSome := ⟨_, rfl⟩
  have HL : Hid (lb = true ↔ layerOf a.word ≠ none) := by show _ ↔ _; rw [hlb]; cases layerOf a.word <;> simp
  obtain ⟨lz, hlz⟩ : ∃ z, z = ((layerOf a.word).map (·.1)).getD 0 := ⟨_, rfl⟩
  rw [← hlb, ← hlz]
  clear hlb hlz k2 p0 p1 p2 p3 p4 p5 p6 p7 p8 p9 p10
  obtain ⟨p0, p1, p2, p3, p4, p5, p6, p7, p8, p9, p10⟩ := BX.out _ d2
  go_wp2_with fail
  refine (l1In_any a.slot 0 2 _).mono ?_
  rintro e w3 ⟨sl, rfl, hsl, rfl⟩
  have HS : Hid (sl = true ↔ SlotNo a.slot) := hsl
  have d3 : Chg [] w w3 := db.trans0 d2
  clear hsl
  cases hz : (a.slot == 0)
  all_goals
    go_wp2_with fail
    all_goals first
      | (go_ret; refine BoolPost.of ?_ (d3); have hact := HA.out; rw [hact]; (try have h1 := HS.out); (try simp at h1); (try have h2 := HK.out); (try simp at h2); (try have h3 := HL.out); (try simp at h3); (try have h4 := hz); (try simp at h4); clear hact; go_light; (try clear BX); (try clear CL); (try clear IC); (try clear PC); (try clear IA); (try clear IB); (try clear HA); (try clear p0 p1 p2 p3 p4 p5 p6 p7 p8 p9 p10); first | (simp [*]; done) | (simp_all; done))
      | (refine (l8Empty_any a A1 A2 c1 c2 _ _ _ _ _ _ flags_two _).mono ?_; rintro e w4 ⟨t, rfl, ht4, c4⟩; go_wp2_with fail; all_goals (go_ret; refine BoolPost.of ?_ ((d3).trans0 c4); have hact := HA.out; rw [hact]; (try have h1 := HS.out); (try simp at h1); (try have h2 := HK.out); (try simp at h2); (try have h3 := HL.out); (try simp at h3); (try have h4 := hz); (try simp at h4); clear hact; go_light; (try clear BX); (try clear CL); (try clear IC); (try clear PC); (try clear IA); (try clear IB); (try clear HA); (try clear p0 p1 p2 p3 p4 p5 p6 p7 p8 p9 p10); first | (simp [*]; done) | (simp_all; done)))
set_option maxRecDepth 100000 in
set_option maxHeartbeats 8000000 in
theorem l8Action_9 (a : ActionT) (A1 A2 : Option Addr) (c1 c2 : Nat) (w : World) (h : a.op = 9) (hk : a.call.key.size ≤ 1048576) (ht : a.call.text.size ≤ 1048575) :
    Calls Tryz.prog 49 #[.agg #[.int .i64 a.op, .int .i64 a.slot, .int .i64 a.other, .string a.word, .string a.call.method, .string a.call.key, .int .i64 a.call.value, .string a.call.text, .int .i64 a.face, .slice A1 a.A.length c1, .slice A2 a.B.length c2]] w (BoolPost (ActOk a) w) := by
  have CL := Lib.hid (fun W => l8Call_any a.call W hk ht)
  have HA := Lib.hid (actOk_9 h)
  clear hk ht
  have n1 : (a.op == 1) = false := by rw [h]; rfl
  have n2 : (a.op == 2) = false := by rw [h]; rfl
  have n3 : (a.op == 3) = false := by rw [h]; rfl
  have n4 : (a.op == 4) = false := by rw [h]; rfl
  have n5 : (a.op == 5) = false := by rw [h]; rfl
  have n6 : (a.op == 6) = false := by rw [h]; rfl
  have n7 : (a.op == 7) = false := by rw [h]; rfl
  have n8 : (a.op == 8) = false := by rw [h]; rfl
  have n9 : (a.op == 9) = true := by rw [h]; rfl
  have n10 : (a.op == 10) = false := by rw [h]; rfl
  clear h
  go_enter Tryz.func49, Tryz.ntmps49
  go_wp2_with fail
  obtain ⟨wb, hwb⟩ : ∃ wb, wb = w.alloc (.cells #[.int .i64 a.op, .int .i64 a.slot, .int .i64 a.other, .string a.word, .string a.call.method, .string a.call.key, .int .i64 a.call.value, .string a.call.text, .int .i64 a.face, .slice A1 a.A.length c1, .slice A2 a.B.length c2] 41) := ⟨_, rfl⟩
  have db : Chg [] w wb := hwb ▸ (Chg.refl [] w).alloc _
  have sb : w.heap.size < wb.heap.size := by rw [hwb]; simp
  have v0 : wb.cell? ⟨w.heap.size, 0, none⟩ = some (.int .i64 a.op) := by rw [hwb]; go_simp
  have v1 : wb.cell? ⟨w.heap.size, 1, none⟩ = some (.int .i64 a.slot) := by rw [hwb]; go_simp
  have v2 : wb.cell? ⟨w.heap.size, 2, none⟩ = some (.int .i64 a.other) := by rw [hwb]; go_simp
  have v3 : wb.cell? ⟨w.heap.size, 3, none⟩ = some (.string a.word) := by rw [hwb]; go_simp
  have v4 : wb.cell? ⟨w.heap.size, 4, none⟩ = some (.string a.call.method) := by rw [hwb]; go_simp
  have v5 : wb.cell? ⟨w.heap.size, 5, none⟩ = some (.string a.call.key) := by rw [hwb]; go_simp
  have v6 : wb.cell? ⟨w.heap.size, 6, none⟩ = some (.int .i64 a.call.value) := by rw [hwb]; go_simp
  have v7 : wb.cell? ⟨w.heap.size, 7, none⟩ = some (.string a.call.text) := by rw [hwb]; go_simp
  have v8 : wb.cell? ⟨w.heap.size, 8, none⟩ = some (.int .i64 a.face) := by rw [hwb]; go_simp
  have v9 : wb.cell? ⟨w.heap.size, 9, none⟩ = some (.slice A1 a.A.length c1) := by rw [hwb]; go_simp
  have v10 : wb.cell? ⟨w.heap.size, 10, none⟩ = some (.slice A2 a.B.length c2) := by rw [hwb]; go_simp
  have BX : Hid (∀ W, Chg [] wb W → W.cell? ⟨w.heap.size, 0, none⟩ = some (.int .i64 a.op) ∧ W.cell? ⟨w.heap.size, 1, none⟩ = some (.int .i64 a.slot) ∧ W.cell? ⟨w.heap.size, 2, none⟩ = some (.int .i64 a.other) ∧ W.cell? ⟨w.heap.size, 3, none⟩ = some (.string a.word) ∧ W.cell? ⟨w.heap.size, 4, none⟩ = some (.string a.call.method) ∧ W.cell? ⟨w.heap.size, 5, none⟩ = some (.string a.call.key) ∧ W.cell? ⟨w.heap.size, 6, none⟩ = some (.int .i64 a.call.value) ∧ W.cell? ⟨w.heap.size, 7, none⟩ = some (.string a.call.text) ∧ W.cell? ⟨w.heap.size, 8, none⟩ = some (.int .i64 a.face) ∧ W.cell? ⟨w.heap.size, 9, none⟩ = some (.slice A1 a.A.length c1) ∧ W.cell? ⟨w.heap.size, 10, none⟩ = some (.slice A2 a.B.length c2)) := fun W hc =>
    ⟨(hc.cell (p := ⟨w.heap.size, 0, none⟩) sb (by simp)).trans v0, (hc.cell (p := ⟨w.heap.size, 1, none⟩) sb (by simp)).trans v1, (hc.cell (p := ⟨w.heap.size, 2, none⟩) sb (by simp)).trans v2, (hc.cell (p := ⟨w.heap.size, 3, none⟩) sb (by simp)).trans v3, (hc.cell (p := ⟨w.heap.size, 4, none⟩) sb (by simp)).trans v4, (hc.cell (p := ⟨w.heap.size, 5, none⟩) sb (by simp)).trans v5, (hc.cell (p := ⟨w.heap.size, 6, none⟩) sb (by simp)).trans v6, (hc.cell (p := ⟨w.heap.size, 7, none⟩) sb (by simp)).trans v7, (hc.cell (p := ⟨w.heap.size, 8, none⟩) sb (by simp)).trans v8, (hc.cell (p := ⟨w.heap.size, 9, none⟩) sb (by simp)).trans v9, (hc.cell (p := ⟨w.heap.size, 10, none⟩) sb (by simp)).trans v10⟩
  rw [← hwb]
  clear hwb v0 v1 v2 v3 v4 v5 v6 v7 v8 v9 v10
  refine (kindFace_spec_any a.word _).mono ?_
  rintro e w1 ⟨he, k1⟩
  subst he
  have d1 : Chg [] wb w1 := k1
  obtain ⟨kb, hkb⟩ : ∃ b, b = (kindOf a.word).isSome := ⟨_, rfl⟩
  have HK : Hid (kb = true ↔ kindOf a.word ≠ none) := by show _ ↔ _; rw [hkb]; cases kindOf a.word <;> simp
  obtain ⟨kz, hkz⟩ : ∃ z, z = (kindOf a.word).getD 0 := ⟨_, rfl⟩
  rw [← hkb, ← hkz]
  clear hkb hkz k1
  obtain ⟨p0, p1, p2, p3, p4, p5, p6, p7, p8, p9, p10⟩ := BX.out _ d1
  go_wp2_with fail
  refine (layerNeeds_spec_any a.word _).mono ?_
  rintro e w2 ⟨he, k2⟩
  subst he
  have d2 : Chg [] wb w2 := d1.trans0 k2
  obtain ⟨lb, hlb⟩ : ∃ b, b = ((layerOf a.word).map (·.1)).isSome := ⟨_, rfl⟩
  have HL : Hid (lb = true ↔ layerOf a.word ≠ none) := by show _ ↔ _; rw [hlb]; cases layerOf a.word <;> simp
  obtain ⟨lz, hlz⟩ : ∃ z, z = ((layerOf a.word).map (·.1)).getD 0 := ⟨_, rfl⟩
  rw [← hlb, ← hlz]
  clear hlb hlz k2 p0 p1 p2 p3 p4 p5 p6 p7 p8 p9 p10
  obtain ⟨p0, p1, p2, p3, p4, p5, p6, p7, p8, p9, p10⟩ := BX.out _ d2
  go_wp2_with fail
  refine (l1In_any a.slot 0 2 _).mono ?_
  rintro e w3 ⟨sl, rfl, hsl, rfl⟩
  have HS : Hid (sl = true ↔ SlotNo a.slot) := hsl
  have d3 : Chg [] w w3 := db.trans0 d2
  clear hsl
  cases hz : (a.slot == 0)
  all_goals
    go_wp2_with fail
    all_goals first
      | (go_ret; refine BoolPost.of ?_ (d3); have hact := HA.out; rw [hact]; (try have h1 := HS.out); (try simp at h1); (try have h2 := HK.out); (try simp at h2); (try have h3 := HL.out); (try simp at h3); (try have h4 := hz); (try simp at h4); clear hact; go_light; (try clear BX); (try clear CL); (try clear IC); (try clear PC); (try clear IA); (try clear IB); (try clear HA); (try clear p0 p1 p2 p3 p4 p5 p6 p7 p8 p9 p10); first | (simp [*]; done) | (simp_all; done))
      | (refine (l8Empty_any a A1 A2 c1 c2 _ _ _ _ _ _ flags_one _).mono ?_; rintro e w4 ⟨t, rfl, ht4, c4⟩; go_wp2_with fail; all_goals (go_ret; refine BoolPost.of ?_ ((d3).trans0 c4); have hact := HA.out; rw [hact]; (try have h1 := HS.out); (try simp at h1); (try have h2 := HK.out); (try simp at h2); (try have h3 := HL.out); (try simp at h3); (try have h4 := hz); (try simp at h4); clear hact; go_light; (try clear BX); (try clear CL); (try clear IC); (try clear PC); (try clear IA); (try clear IB); (try clear HA); (try clear p0 p1 p2 p3 p4 p5 p6 p7 p8 p9 p10); first | (simp [*]; done) | (simp_all; done)))
end Go.Proofs.YtldpibnfhomfgaaGreatDoor
namespace Go.Proofs.YtldpibnfhomfgaaGreatDoor
open Go.RowKit

theorem actionsW_inS {l : List ActionT} (h : actionsW l ≤ 1048576) {a : ActionT} (ha : a ∈ l) : actionsW a.A ≤ 1048576 ∧ actionsW a.B ≤ 1048576 ∧ a.call.key.size ≤ 1048576 ∧ a.call.text.size ≤ 1048575 := by
  have h1 : actionW a ≤ actionsW1 l := sum_mem actionW ha
  have h2 := actionW_eq a
  have h3 : 0 < l.length := List.length_pos_of_mem ha
  unfold actionsW at h
  unfold callW at h2
  refine ⟨?_, ?_, ?_, ?_⟩ <;> omega
theorem l8Action_any (a : ActionT) (A1 A2 : Option Addr) (c1 c2 : Nat) (w : World) (hk : a.call.key.size ≤ 1048576) (ht : a.call.text.size ≤ 1048575) :
    Calls Tryz.prog 49 #[.agg #[.int .i64 a.op, .int .i64 a.slot, .int .i64 a.other, .string a.word, .string a.call.method, .string a.call.key, .int .i64 a.call.value, .string a.call.text, .int .i64 a.face, .slice A1 a.A.length c1, .slice A2 a.B.length c2]] w (BoolPost (ActOk a) w) := by
  rcases op_cases a.op with (h | h | h | h | h | h | h | h | h | h) | h
  · exact l8Action_1 a A1 A2 c1 c2 w h hk ht
  · exact l8Action_2 a A1 A2 c1 c2 w h hk ht
  · exact l8Action_3 a A1 A2 c1 c2 w h hk ht
  · exact l8Action_4 a A1 A2 c1 c2 w h hk ht
  · exact l8Action_5 a A1 A2 c1 c2 w h hk ht
  · exact l8Action_6 a A1 A2 c1 c2 w h hk ht
  · exact l8Action_7 a A1 A2 c1 c2 w h hk ht
  · exact l8Action_8 a A1 A2 c1 c2 w h hk ht
  · exact l8Action_9 a A1 A2 c1 c2 w h hk ht
  · exact l8Action_10 a A1 A2 c1 c2 w h hk ht
  · exact l8Action_no a A1 A2 c1 c2 w h hk ht
def AllActs (l : List ActionT) : Prop := ∀ (u : Value) (B : Nat) (w : World), actionsW l ≤ 1048576 → Rd w B (actions l) u → B ≤ w.heap.size →
  Calls Tryz.prog 35 #[u] w (BoolPost (okL l) w)
set_option maxRecDepth 100000 in
set_option maxHeartbeats 4000000 in
theorem l8All_any : ∀ l, AllActs l := by
  refine ActionT.ind fun l ih => ?_
  intro u B w hW hr hB
  obtain ⟨A, cap, rfl, h0, h1, hrow⟩ := actions_row hr
  unfold maxLen at h1
  have IH := Lib.hid ih
  have HW := Lib.hid hW
  have HO := Lib.hid (okL_iff l)
  clear ih hr hW
  go_enter Tryz.func35, Tryz.ntmps35
  go_wp2_with fail
  go_loopw [7] (fun i wr => ∃ k : Nat, k ≤ l.length ∧ i = .int .i64 k ∧ Hid (∀ (j : Nat) (h : j < l.length), j < k → l[j].ok) ∧ Chg [] w wr) (fun i _ => l.length - (intOf i).toNat)
  case atStart => exact ⟨0, Nat.zero_le _, rfl, fun j h h0 => absurd h0 (Nat.not_lt_zero _), Chg.refl _ _⟩
  case round =>
    obtain ⟨k, hk, rfl, HN, hc⟩ := hrel
    by_cases hlt : k < l.length
    · obtain ⟨b, off, uA, uB, rfl, hb, q0, q1, q2, q3, q4, q5, q6, q7, q8, q9, q10, rA, rB⟩ := actions_cells (hrow.chg0 hc hB) k hlt
      obtain ⟨A1, cap1, rfl, _, _, _⟩ := actions_row rA
      obtain ⟨A2, cap2, rfl, _, _, _⟩ := actions_row rB
      have hmem := List.getElem_mem hlt
      have hin := actionsW_inS HW.out hmem
      have hcs := hc.size
      have HOK := Lib.hid (l[k].ok_iff)
      have IS := Lib.hid (fun W => l8Action_any l[k] A1 A2 cap1 cap2 W hin.2.2.1 hin.2.2.2)
      have IA := Lib.hid (fun W (hW : Chg [] wr W) => (IH.out _ hmem).1 _ B W hin.1 (rA.chg0 hW (by omega)) (by have := hW.size; omega))
      have IB := Lib.hid (fun W (hW : Chg [] wr W) => (IH.out _ hmem).2 _ B W hin.2.1 (rB.chg0 hW (by omega)) (by have := hW.size; omega))
      go_wp2_with fail
      refine (IS.out _).mono ?_
      rintro e w1 ⟨t, rfl, ht, c1⟩
      have g9 : w1.cell? ⟨wr.heap.size, 9, none⟩ = some (.slice A1 l[k].A.length cap1) := (c1.cell (p := ⟨wr.heap.size, 9, none⟩) (by simp) (by simp)).trans (by go_simp)
      have g10 : w1.cell? ⟨wr.heap.size, 10, none⟩ = some (.slice A2 l[k].B.length cap2) := (c1.cell (p := ⟨wr.heap.size, 10, none⟩) (by simp) (by simp)).trans (by go_simp)
      have s1 : wr.heap.size < w1.heap.size := by have := c1.size; simp at this; omega
      have HT := Lib.hid ht
      have d1 : Chg [] wr w1 := ((Chg.refl _ _).alloc _).trans0 c1
      clear ht c1
      cases t
      · go_wp2_with fail
        go_ret
        exact BoolPost.of ⟨fun h => by simp at h, fun h => by have := HT.out.2 (HOK.out.1 (HO.out.1 h _ hmem)).1; simp at this⟩ (hc.trans0 d1)
      · go_wp2_with fail
        refine (IA.out _ d1).mono ?_
        rintro e w2 ⟨t, rfl, ht, c2⟩
        have f10 := (c2.cell (p := ⟨wr.heap.size, 10, none⟩) s1 (by simp)).trans g10
        have HT2 := Lib.hid ht
        have d2 : Chg [] wr w2 := d1.trans0 c2
        clear ht c2
        cases t
        · go_wp2_with fail
          go_ret
          exact BoolPost.of ⟨fun h => by simp at h, fun h => by have := HT2.out.2 (HOK.out.1 (HO.out.1 h _ hmem)).2.1; simp at this⟩ (hc.trans0 d2)
        · go_wp2_with fail
          refine (IB.out _ d2).mono ?_
          rintro e w3 ⟨t, rfl, ht, c3⟩
          have HT3 := Lib.hid ht
          have d3 : Chg [] wr w3 := d2.trans0 c3
          clear ht c3
          cases t
          · go_wp2_with fail
            go_ret
            exact BoolPost.of ⟨fun h => by simp at h, fun h => by have := HT3.out.2 (HOK.out.1 (HO.out.1 h _ hmem)).2.2; simp at this⟩ (hc.trans0 d3)
          · go_wp2_with fail
            go_roundw
            case rel => exact ⟨k + 1, by omega, by go_num, Lib.hid (fun j h hj => (Nat.lt_succ_iff_lt_or_eq.1 hj).elim (HN.out j h) (fun e => by subst e; exact HOK.out.2 ⟨HT.out.1 (by simp), HT2.out.1 (by simp), HT3.out.1 (by simp)⟩)), hc.trans0 d3⟩
            case measure => simp [intOf]; omega
    · obtain rfl : k = l.length := by omega
      go_wp2_with fail
      go_ret
      refine BoolPost.of ⟨fun _ => HO.out.2 fun a ha => ?_, fun _ => rfl⟩ hc
      obtain ⟨j, hj, rfl⟩ := List.getElem_of_mem ha
      exact HN.out j hj hj
end Go.Proofs.YtldpibnfhomfgaaGreatDoor
