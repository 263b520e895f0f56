/- Call: as plain data; the walks of its size, copy, equality, marks. Written by a program. / Action: as plain data; the walks of its size, copy, equality, marks. Written by a program. -/
import Derived.Test.YtldpibnfhomfgaaGreatDoorGround
import Derived.StillTailTactics
import Derived.Deep.RegionHeld3
namespace Go.Proofs.YtldpibnfhomfgaaGreatDoor
open Go.RowKit

structure CallT where
  method : ByteArray
  key : ByteArray
  value : Int
  text : ByteArray
def callF (a : CallT) : List Dat := [.v (.string a.method)] ++ ([.v (.string a.key)] ++ ([.v (.int .i64 a.value)] ++ [.v (.string a.text)]))
def calls (l : List CallT) : Dat := .s l.length (l.flatMap callF)
def callW (a : CallT) : Nat := a.method.size + a.key.size + a.text.size
set_option maxRecDepth 100000 in
set_option maxHeartbeats 1000000 in
theorem eqCall_el (a : CallT) (w : World) :
    Calls Tryz.prog 28 #[.agg #[.string a.method, .string a.key, .int .i64 a.value, .string a.text], .agg #[.string a.method, .string a.key, .int .i64 a.value, .string a.text]] w fun e w' => e = .returned (.bool true) ∧ Chg [] w w' := by
  go_enter Tryz.func28, Tryz.ntmps28
  go_wp2_with fail
  go_ret
  exact ⟨rfl, ((Chg.refl _ _).alloc _).alloc _⟩

end Go.Proofs.YtldpibnfhomfgaaGreatDoor
namespace Go.Proofs.YtldpibnfhomfgaaGreatDoor
open Go.RowKit

inductive ActionT where
  | mk (op : Int) (slot : Int) (other : Int) (word : ByteArray) (call : CallT) (face : Int) (A : List ActionT) (B : List ActionT)
def ActionT.op : ActionT → Int | .mk op _ _ _ _ _ _ _ => op
def ActionT.slot : ActionT → Int | .mk _ slot _ _ _ _ _ _ => slot
def ActionT.other : ActionT → Int | .mk _ _ other _ _ _ _ _ => other
def ActionT.word : ActionT → ByteArray | .mk _ _ _ word _ _ _ _ => word
def ActionT.call : ActionT → CallT | .mk _ _ _ _ call _ _ _ => call
def ActionT.face : ActionT → Int | .mk _ _ _ _ _ face _ _ => face
def ActionT.A : ActionT → List ActionT | .mk _ _ _ _ _ _ A _ => A
def ActionT.B : ActionT → List ActionT | .mk _ _ _ _ _ _ _ B => B
mutual
def actionF : ActionT → List Dat
  | .mk op slot other word call face A B => [.v (.int .i64 op), .v (.int .i64 slot), .v (.int .i64 other), .v (.string word), .v (.string call.method), .v (.string call.key), .v (.int .i64 call.value), .v (.string call.text), .v (.int .i64 face), .s A.length (actionF1 A), .s B.length (actionF1 B)]
def actionF1 : List ActionT → List Dat
  | [] => []
  | a :: l => actionF a ++ actionF1 l
end
theorem actionF1_eq : ∀ l : List ActionT, actionF1 l = l.flatMap actionF
  | [] => by rw [actionF1]; rfl
  | a :: l => by rw [actionF1, actionF1_eq l, List.flatMap_cons]
def actions (l : List ActionT) : Dat := .s l.length (l.flatMap actionF)
theorem actionF_eq (a : ActionT) : actionF a = [.v (.int .i64 a.op), .v (.int .i64 a.slot), .v (.int .i64 a.other), .v (.string a.word), .v (.string a.call.method), .v (.string a.call.key), .v (.int .i64 a.call.value), .v (.string a.call.text), .v (.int .i64 a.face), actions a.A, actions a.B] := by
  cases a with
  | mk op slot other word call face A B => rw [actionF, actionF1_eq, actionF1_eq]; rfl
theorem actionF_len (a : ActionT) : (actionF a).length = 11 := by rw [actionF_eq]; rfl
mutual
/-- How many actions there are. -/
def ActionT.size : ActionT → Nat
  | .mk _ _ _ _ _ _ A B => 1 + sizeL A + sizeL B
def sizeL : List ActionT → Nat
  | [] => 0
  | a :: l => a.size + sizeL l
end
theorem ActionT.size_eq (a : ActionT) : a.size = 1 + sizeL a.A + sizeL a.B := by
  cases a; rw [ActionT.size]; rfl
theorem sizeL_mem : ∀ {l : List ActionT} {a : ActionT}, a ∈ l → a.size ≤ sizeL l
  | b :: l, a, h => by
    rw [sizeL]
    rcases List.mem_cons.1 h with rfl | h
    · omega
    · have := sizeL_mem h; omega
/-- What holds of a list as soon as it holds of the lists in its elements holds of all lists. -/
theorem ActionT.ind {P : List ActionT → Prop} (h : ∀ l, (∀ a ∈ l, P a.A ∧ P a.B) → P l) (l : List ActionT) : P l := by
  have key : ∀ n, ∀ l, sizeL l ≤ n → P l := by
    intro n
    induction n with
    | zero =>
      intro l hl
      refine h l fun a ha => ?_
      have := sizeL_mem ha
      have := a.size_eq
      omega
    | succ n ih =>
      intro l hl
      refine h l fun a ha => ?_
      have := sizeL_mem ha
      have := a.size_eq
      exact ⟨ih _ (by omega), ih _ (by omega)⟩
  exact key _ l (Nat.le_refl _)
mutual
def actionW : ActionT → Nat
  | .mk _ _ _ word call _ A B => word.size + callW call + (A.length + actionW1 A) + (B.length + actionW1 B)
def actionW1 : List ActionT → Nat
  | [] => 0
  | a :: l => actionW a + actionW1 l
end
theorem actionW1_eq : ∀ l : List ActionT, actionW1 l = (l.map actionW).sum
  | [] => by rw [actionW1]; rfl
  | a :: l => by rw [actionW1, actionW1_eq l]; rfl
def actionsW1 (l : List ActionT) : Nat := (l.map actionW).sum
def actionsW (l : List ActionT) : Nat := l.length + actionsW1 l
theorem actionW_eq (a : ActionT) : actionW a = a.word.size + callW a.call + actionsW a.A + actionsW a.B := by
  cases a; rw [actionW, actionW1_eq, actionW1_eq]; rfl
theorem actionsW_mem {l : List ActionT} {a : ActionT} (h : a ∈ l) : actionW a ≤ actionsW1 l := sum_mem actionW h
mutual
def actionN : ActionT → Nat
  | .mk _ _ _ _ _ _ A B => 9 + actionN1 A + actionN1 B
def actionN1 : List ActionT → Nat
  | [] => 0
  | a :: l => actionN a + actionN1 l
end
theorem actionN1_eq : ∀ l : List ActionT, actionN1 l = (l.map actionN).sum
  | [] => by rw [actionN1]; rfl
  | a :: l => by rw [actionN1, actionN1_eq l]; rfl
def actionsN (l : List ActionT) : Nat := (l.map actionN).sum
theorem actionN_eq (a : ActionT) : actionN a = 9 + actionsN a.A + actionsN a.B := by
  cases a; rw [actionN, actionN1_eq, actionN1_eq]; rfl
mutual
def actionM : ActionT → Int → ActionT
  | .mk _ _ _ _ _ _ A B, k => .mk (k) (k + 1) (k + 1 + 1) (mt (k + 1 + 1 + 1)) ⟨(mt (k + 1 + 1 + 1 + 1)), (mt (k + 1 + 1 + 1 + 1 + 1)), (k + 1 + 1 + 1 + 1 + 1 + 1), (mt (k + 1 + 1 + 1 + 1 + 1 + 1 + 1))⟩ (k + 1 + 1 + 1 + 1 + 1 + 1 + 1 + 1) (actionM1 A (k + 1 + 1 + 1 + 1 + 1 + 1 + 1 + 1 + 1)) (actionM1 B (k + 1 + 1 + 1 + 1 + 1 + 1 + 1 + 1 + 1 + actionN1 A))
def actionM1 : List ActionT → Int → List ActionT
  | [], _ => []
  | a :: l, k => actionM a k :: actionM1 l (k + actionN a)
end
theorem actionM1_eq : ∀ (l : List ActionT) (k : Int), actionM1 l k = mapK actionM actionN l k
  | [], _ => by rw [actionM1]; rfl
  | a :: l, k => by rw [actionM1, actionM1_eq l]; rfl
def actionsM (l : List ActionT) (k : Int) : List ActionT := mapK actionM actionN l k
theorem actionM_eq (a : ActionT) (k : Int) : actionM a k = .mk (k) (k + 1) (k + 1 + 1) (mt (k + 1 + 1 + 1)) ⟨(mt (k + 1 + 1 + 1 + 1)), (mt (k + 1 + 1 + 1 + 1 + 1)), (k + 1 + 1 + 1 + 1 + 1 + 1), (mt (k + 1 + 1 + 1 + 1 + 1 + 1 + 1))⟩ (k + 1 + 1 + 1 + 1 + 1 + 1 + 1 + 1) (actionsM a.A (k + 1 + 1 + 1 + 1 + 1 + 1 + 1 + 1 + 1)) (actionsM a.B (k + 1 + 1 + 1 + 1 + 1 + 1 + 1 + 1 + 1 + actionsN a.A)) := by
  cases a; rw [actionM, actionM1_eq, actionM1_eq, actionN1_eq]; rfl
theorem actionM_F (a : ActionT) (k : Int) : actionF (actionM a k) = [.v (.int .i64 (k)), .v (.int .i64 (k + 1)), .v (.int .i64 (k + 1 + 1)), .v (.string (mt (k + 1 + 1 + 1))), .v (.string (mt (k + 1 + 1 + 1 + 1))), .v (.string (mt (k + 1 + 1 + 1 + 1 + 1))), .v (.int .i64 (k + 1 + 1 + 1 + 1 + 1 + 1)), .v (.string (mt (k + 1 + 1 + 1 + 1 + 1 + 1 + 1))), .v (.int .i64 (k + 1 + 1 + 1 + 1 + 1 + 1 + 1 + 1)), actions (actionsM a.A (k + 1 + 1 + 1 + 1 + 1 + 1 + 1 + 1 + 1)), actions (actionsM a.B (k + 1 + 1 + 1 + 1 + 1 + 1 + 1 + 1 + 1 + actionsN a.A))] := by rw [actionM_eq, actionF_eq]; rfl
theorem actions_row {w : World} {B : Nat} {l : List ActionT} {u : Value} (h : Rd w B (actions l) u) : ∃ A cap, u = .slice A l.length cap ∧ l.length ≤ cap ∧ cap ≤ maxLen ∧ RowAt w B actionF 11 l A := h.row actionF_len (by omega)
theorem actions_cells {w : World} {B : Nat} {l : List ActionT} {A : Option Addr} (h : RowAt w B actionF 11 l A) (k : Nat) (hk : k < l.length) : ∃ b off u9 u10, A = some ⟨b, off, none⟩ ∧ b < B ∧ w.cell? ⟨b, off + k * 11, none⟩ = some (.int .i64 (l[k].op)) ∧ w.cell? ⟨b, off + k * 11 + 1, none⟩ = some (.int .i64 (l[k].slot)) ∧ w.cell? ⟨b, off + k * 11 + 2, none⟩ = some (.int .i64 (l[k].other)) ∧ w.cell? ⟨b, off + k * 11 + 3, none⟩ = some (.string (l[k].word)) ∧ w.cell? ⟨b, off + k * 11 + 4, none⟩ = some (.string (l[k].call.method)) ∧ w.cell? ⟨b, off + k * 11 + 5, none⟩ = some (.string (l[k].call.key)) ∧ w.cell? ⟨b, off + k * 11 + 6, none⟩ = some (.int .i64 (l[k].call.value)) ∧ w.cell? ⟨b, off + k * 11 + 7, none⟩ = some (.string (l[k].call.text)) ∧ w.cell? ⟨b, off + k * 11 + 8, none⟩ = some (.int .i64 (l[k].face)) ∧ w.cell? ⟨b, off + k * 11 + 9, none⟩ = some u9 ∧ w.cell? ⟨b, off + k * 11 + 10, none⟩ = some u10 ∧ Rd w B (actions (l[k].A)) u9 ∧ Rd w B (actions (l[k].B)) u10 := by
  obtain ⟨b, off, e, hb, hx⟩ := h k hk
  rw [actionF_eq] at hx
  obtain ⟨v0, e0, d0⟩ := hx 0 _ rfl
  obtain ⟨v1, e1, d1⟩ := hx 1 _ rfl
  obtain ⟨v2, e2, d2⟩ := hx 2 _ rfl
  obtain ⟨v3, e3, d3⟩ := hx 3 _ rfl
  obtain ⟨v4, e4, d4⟩ := hx 4 _ rfl
  obtain ⟨v5, e5, d5⟩ := hx 5 _ rfl
  obtain ⟨v6, e6, d6⟩ := hx 6 _ rfl
  obtain ⟨v7, e7, d7⟩ := hx 7 _ rfl
  obtain ⟨v8, e8, d8⟩ := hx 8 _ rfl
  obtain ⟨v9, e9, d9⟩ := hx 9 _ rfl
  obtain ⟨v10, e10, d10⟩ := hx 10 _ rfl
  rw [Rd] at d0 d1 d2 d3 d4 d5 d6 d7 d8
  subst d0 d1 d2 d3 d4 d5 d6 d7 d8
  exact ⟨b, off, v9, v10, e, hb, by simpa using e0, e1, e2, e3, e4, e5, e6, e7, e8, e9, e10, d9, d10⟩

theorem action_info : (Tryz.prog.info? 41).map (fun i => (i.zero, i.size, i.bytes)) = some (some (.agg #[.int .i64 0, .int .i64 0, .int .i64 0, .string ⟨#[]⟩, .string ⟨#[]⟩, .string ⟨#[]⟩, .int .i64 0, .string ⟨#[]⟩, .int .i64 0, .slice none 0 0, .slice none 0 0]), 11, 152) := by kernel_rfl
def eqActionS_same_P (l : List ActionT) : Prop := ∀ (u v : Value) (B B' : Nat) (w : World) (_hr : Rd w B (actions l) u) (_hs : Rd w B' (actions l) v) (_hB : B ≤ w.heap.size) (_hB' : B' ≤ w.heap.size), Calls Tryz.prog 6 #[u, v] w fun e w' => e = .returned (.bool true) ∧ Chg [] w w'
set_option maxRecDepth 100000 in
set_option maxHeartbeats 1000000 in
theorem eqAction_el (a : ActionT) (hA : eqActionS_same_P a.A) (hB : eqActionS_same_P a.B) (u9 u10 v9 v10 : Value) (B B' : Nat) (w : World) (r9 : Rd w B (actions a.A) u9) (r10 : Rd w B (actions a.B) u10) (s9 : Rd w B' (actions a.A) v9) (s10 : Rd w B' (actions a.B) v10) (hBw : B ≤ w.heap.size) (hBw' : B' ≤ w.heap.size) :
    Calls Tryz.prog 15 #[.agg #[.int .i64 a.op, .int .i64 a.slot, .int .i64 a.other, .string a.word, .string a.call.method, .string a.call.key, .int .i64 a.call.value, .string a.call.text, .int .i64 a.face, u9, u10], .agg #[.int .i64 a.op, .int .i64 a.slot, .int .i64 a.other, .string a.word, .string a.call.method, .string a.call.key, .int .i64 a.call.value, .string a.call.text, .int .i64 a.face, v9, v10]] w fun e w' => e = .returned (.bool true) ∧ Chg [] w w' := by
  have HA := Lib.hid hA; have HB := Lib.hid hB; clear hA hB
  go_enter Tryz.func15, Tryz.ntmps15
  go_wp2_with fail
  refine (eqCall_el a.call  _  ).mono ?_; rintro e w1 ⟨rfl, c1⟩
  obtain ⟨y1, _, z1⟩ := c1.cells
  have d1 : Chg [] w w1 := Chg.trans0 (((Chg.refl _ _).alloc _).alloc _) c1
  have t1 : w.heap.size + 1 < w1.heap.size := by simp at z1; omega
  have t1' : w.heap.size < w1.heap.size := by omega
  go_wp2_with fail
  refine (HA.out u9 v9 B B' _ (r9.chg0 (d1) hBw) (s9.chg0 (d1) hBw') (by have := d1.size; omega) (by have := d1.size; omega)).mono ?_; rintro e w2 ⟨rfl, c2⟩
  obtain ⟨y2, _, z2⟩ := c2.cells
  have d2 : Chg [] w w2 := Chg.trans0 (d1) c2
  have t2 : w.heap.size + 1 < w2.heap.size := by omega
  have t2' : w.heap.size < w2.heap.size := by omega
  go_wp2_with fail
  refine (HB.out u10 v10 B B' _ (r10.chg0 (d2) hBw) (s10.chg0 (d2) hBw') (by have := d2.size; omega) (by have := d2.size; omega)).mono ?_; rintro e w3 ⟨rfl, c3⟩
  obtain ⟨y3, _, z3⟩ := c3.cells
  have d3 : Chg [] w w3 := Chg.trans0 (d2) c3
  have t3 : w.heap.size + 1 < w3.heap.size := by omega
  have t3' : w.heap.size < w3.heap.size := by omega
  go_wp2_with fail
  go_ret
  exact ⟨rfl, d3⟩

set_option maxRecDepth 100000 in
set_option maxHeartbeats 1000000 in
theorem eqActionS_same_all : ∀ l, eqActionS_same_P l := by
  refine ActionT.ind fun l ih => ?_
  intro u v B B' w hr hs hB hB'
  have IH := Lib.hid ih
  clear ih
  obtain ⟨A, cap, rfl, h0, h1, hrow⟩ := actions_row hr
  obtain ⟨A', cap', rfl, h0', h1', hrow'⟩ := actions_row hs
  unfold maxLen at h1 h1'
  clear hr hs
  go_enter Tryz.func6, Tryz.ntmps6
  go_wp2_with fail
  go_loopw [5] (fun i wr => ∃ k : Nat, k ≤ l.length ∧ i = .int .i64 k ∧ Chg [] w wr) (fun i _ => l.length - (intOf i).toNat)
  case atStart => exact ⟨0, Nat.zero_le _, rfl, Chg.refl _ _⟩
  case round =>
    obtain ⟨k, hk, rfl, hc⟩ := hrel
    by_cases hlt : k < l.length
    · obtain ⟨b, off, u9, u10, rfl, hb, q0, q1, q2, q3, q4, q5, q6, q7, q8, q9, q10, r9, r10⟩ := actions_cells (hrow.chg0 hc hB) k hlt
      obtain ⟨b', off', v9, v10, rfl, hb', p0, p1, p2, p3, p4, p5, p6, p7, p8, p9, p10, s9, s10⟩ := actions_cells (hrow'.chg0 hc hB') k hlt
      have el := fun W (hW : Chg [] wr W) => eqAction_el l[k] (IH.out _ (List.getElem_mem hlt)).1 (IH.out _ (List.getElem_mem hlt)).2 u9 u10 v9 v10 B B' W (r9.chg0 hW (by have := hc.size; omega)) (r10.chg0 hW (by have := hc.size; omega)) (s9.chg0 hW (by have := hc.size; omega)) (s10.chg0 hW (by have := hc.size; omega)) (by have := hc.size; have := hW.size; omega) (by have := hc.size; have := hW.size; omega)
      have EL := Lib.hid el
      clear el
      go_wp2_with fail
      go_still_tail 8, (by kernel_rfl)
      change wpList _ _ _ _ _ wr.drew
      go_wp2_with fail
      refine (EL.out _ ((Chg.refl _ _).drew)).mono ?_; rintro e w1 ⟨rfl, c1⟩
      go_wp2_with fail
      go_roundw
      case rel => exact ⟨k + 1, by omega, by go_num, hc.drew.trans0 c1⟩
      case measure => simp [intOf]; omega
    · obtain rfl : k = l.length := by omega
      go_wp2_with fail
      go_ret
      exact ⟨rfl, hc⟩

theorem eqActionS_same (l : List ActionT) (u v : Value) (B B' : Nat) (w : World) (hr : Rd w B (actions l) u) (hs : Rd w B' (actions l) v) (hB : B ≤ w.heap.size) (hB' : B' ≤ w.heap.size) :
    Calls Tryz.prog 6 #[u, v] w fun e w' => e = .returned (.bool true) ∧ Chg [] w w' := eqActionS_same_all l u v B B' w hr hs hB hB'

def markActionS_any_P (l : List ActionT) : Prop := ∀ (u : Value) (S : List Nat) (k0 : Int) (w : World) (_hk0 : 0 ≤ k0) (_hkb : k0 + actionsN l ≤ 100000000) (_hh : Has w (actions l) u S), Calls Tryz.prog 7 #[u, .int .i64 k0] w fun e w' => e = .returned (.int .i64 (k0 + actionsN l)) ∧ Has w' (actions (actionsM l k0)) u S ∧ Chg S w w'
set_option maxRecDepth 100000 in
set_option maxHeartbeats 2000000 in
theorem markActionS_any_all : ∀ l, markActionS_any_P l := by
  refine ActionT.ind fun l ih => ?_
  intro u S k0 w hk0 hkb hh
  have IH := Lib.hid ih
  clear ih
  obtain ⟨A, cap, rfl, h0, h1, _⟩ := hh.rd.at_
  unfold maxLen at h1
  go_enter Tryz.func7, Tryz.ntmps7
  go_wp2_with fail
  go_loopw [1, 5] (fun r i wr => ∃ (i' : Nat) (k : Int), i' ≤ l.length ∧ i = .int .i64 i' ∧ r = .int .i64 k ∧ 0 ≤ k ∧ k ≤ 100000000 ∧ Hid (k = k0 + ((l.take i').map actionN).sum) ∧ Has wr (.s l.length ((mapK actionM actionN (l.take i') k0 ++ l.drop i').flatMap actionF)) (.slice A l.length cap) S ∧ Chg S w wr) (fun _ i _ => l.length - (intOf i).toNat)
  case atStart => exact ⟨0, k0, Nat.zero_le _, rfl, rfl, hk0, by omega, by simp [Hid], by simp only [List.take_zero, mapK, List.nil_append, List.drop_zero]; exact hh, Chg.refl _ _⟩
  case round =>
    obtain ⟨i, k, hi, rfl, rfl, hk1, hk2, hkq, H0, hc⟩ := hrel
    by_cases hlt : i < l.length
    · obtain ⟨g, rfl, hgS⟩ := H0.own (by omega)
      have hn1 : k + actionN l[i] ≤ 100000000 := by
        have := sum_take actionN l i hlt; have := sum_le actionN l (i + 1); have := hkq.out; unfold actionsN at hkb; omega
      rw [actionN_eq] at hn1
      rw [marking_at l k0 i hlt, actionF_eq] at H0
      have hX := marking_X (M := actionM) (N := actionN) actionF_len l k0 i hlt
      obtain ⟨rf0_0, rx0_0, rc0_0⟩ := H0.room0 hX (by simp)
      obtain ⟨rf0_1, rx0_1, rc0_1⟩ := H0.roomAt hX 1 (by simp)
      obtain ⟨rf0_2, rx0_2, rc0_2⟩ := H0.roomAt hX 2 (by simp)
      have P0 := (((H0.set0 hX rfl (.int .i64 (k))).setAt hX (j := 1) rfl (.int .i64 (k + 1))).setAt hX (j := 2) rfl (.int .i64 (k + 1 + 1)))
      go_wp2_with fail
      refine (markText_any _ _ (by omega)).mono ?_; rintro e w1 ⟨rfl, c1⟩
      have H1 := P0.keep0 c1
      have D1 : Chg S w w1 := Chg.trans0 (by repeat (first | with_reducible exact hc | with_reducible refine Chg.drew ?_ | with_reducible refine Chg.alloc ?_ _ | with_reducible refine Chg.setCell ?_ (.inl hgS) _)) c1
      obtain ⟨rf1_3, rx1_3, rc1_3⟩ := H1.roomAt hX 3 (by simp)
      have P1 := (H1.setAt hX (j := 3) rfl (.string (mt (k + 1 + 1 + 1))))
      go_wp2_with fail
      refine (markText_any _ _ (by omega)).mono ?_; rintro e w2 ⟨rfl, c2⟩
      have H2 := P1.keep0 c2
      have D2 : Chg S w w2 := Chg.trans0 (by repeat (first | with_reducible exact D1 | with_reducible refine Chg.drew ?_ | with_reducible refine Chg.alloc ?_ _ | with_reducible refine Chg.setCell ?_ (.inl hgS) _)) c2
      obtain ⟨rf2_4, rx2_4, rc2_4⟩ := H2.roomAt hX 4 (by simp)
      have P2 := (H2.setAt hX (j := 4) rfl (.string (mt (k + 1 + 1 + 1 + 1))))
      go_wp2_with fail
      refine (markText_any _ _ (by omega)).mono ?_; rintro e w3 ⟨rfl, c3⟩
      have H3 := P2.keep0 c3
      have D3 : Chg S w w3 := Chg.trans0 (by repeat (first | with_reducible exact D2 | with_reducible refine Chg.drew ?_ | with_reducible refine Chg.alloc ?_ _ | with_reducible refine Chg.setCell ?_ (.inl hgS) _)) c3
      obtain ⟨rf3_5, rx3_5, rc3_5⟩ := H3.roomAt hX 5 (by simp)
      obtain ⟨rf3_6, rx3_6, rc3_6⟩ := H3.roomAt hX 6 (by simp)
      have P3 := ((H3.setAt hX (j := 5) rfl (.string (mt (k + 1 + 1 + 1 + 1 + 1)))).setAt hX (j := 6) rfl (.int .i64 (k + 1 + 1 + 1 + 1 + 1 + 1)))
      go_wp2_with fail
      refine (markText_any _ _ (by omega)).mono ?_; rintro e w4 ⟨rfl, c4⟩
      have H4 := P3.keep0 c4
      have D4 : Chg S w w4 := Chg.trans0 (by repeat (first | with_reducible exact D3 | with_reducible refine Chg.drew ?_ | with_reducible refine Chg.alloc ?_ _ | with_reducible refine Chg.setCell ?_ (.inl hgS) _)) c4
      obtain ⟨rf4_7, rx4_7, rc4_7⟩ := H4.roomAt hX 7 (by simp)
      obtain ⟨rf4_8, rx4_8, rc4_8⟩ := H4.roomAt hX 8 (by simp)
      obtain ⟨u9, _, q9, _, _, _⟩ := H4.subAt hX (j := 9) rfl
      have P4 := ((H4.setAt hX (j := 7) rfl (.string (mt (k + 1 + 1 + 1 + 1 + 1 + 1 + 1)))).setAt hX (j := 8) rfl (.int .i64 (k + 1 + 1 + 1 + 1 + 1 + 1 + 1 + 1)))
      go_wp2_with fail
      obtain ⟨S4, hs4, hS4, back4⟩ := P4.subOf hX (j := 9) rfl (u := u9) (by go_simp)
      refine ((IH.out _ (List.getElem_mem hlt)).1 _ _ _ _ (by omega) (by omega) hs4).mono ?_; rintro e w5 ⟨rfl, hm5, c5⟩
      have H5 := back4 _ _ c5 hm5
      have D5 : Chg S w w5 := Chg.trans (by repeat (first | with_reducible exact D4 | with_reducible refine Chg.drew ?_ | with_reducible refine Chg.alloc ?_ _ | with_reducible refine Chg.setCell ?_ (.inl hgS) _)) c5 (fun x hx => .inl (hS4 x hx))
      obtain ⟨u10, _, q10, _, _, _⟩ := H5.subAt hX (j := 10) rfl
      have P5 := H5
      go_wp2_with fail
      obtain ⟨S5, hs5, hS5, back5⟩ := P5.subOf hX (j := 10) rfl (u := u10) (by go_simp)
      refine ((IH.out _ (List.getElem_mem hlt)).2 _ _ _ _ (by omega) (by omega) hs5).mono ?_; rintro e w6 ⟨rfl, hm6, c6⟩
      have H6 := back5 _ _ c6 hm6
      have D6 : Chg S w w6 := Chg.trans (by repeat (first | with_reducible exact D5 | with_reducible refine Chg.drew ?_ | with_reducible refine Chg.alloc ?_ _ | with_reducible refine Chg.setCell ?_ (.inl hgS) _)) c6 (fun x hx => .inl (hS5 x hx))
      have P6 := H6
      go_wp2_with fail
      go_roundw
      case rel =>
        have e1 : ((l.take (i + 1)).map actionN).sum = ((l.take i).map actionN).sum + actionN l[i] := sum_take actionN l i hlt
        have e2 := hkq.out
        refine ⟨i + 1, _, by omega, by go_num, rfl, by omega, by omega, ?_, ?_, ?_⟩
        · show _ = _; have e3 : actionN l[i] = 9 + actionsN l[i].A + actionsN l[i].B := actionN_eq _
          rw [e1, e3]; omega
        · rw [marking_next l k0 i hlt, ← e2, actionM_F]; exact P6
        · repeat (first | with_reducible exact D6 | with_reducible refine Chg.drew ?_ | with_reducible refine Chg.alloc ?_ _ | with_reducible refine Chg.setCell ?_ (.inl hgS) _)
      case measure => simp [intOf]; omega
    · obtain rfl : i = l.length := by omega
      go_wp2_with fail
      go_ret
      have h5 := hkq.out
      rw [List.take_length, List.drop_length, List.append_nil] at H0
      rw [List.take_length] at h5
      refine ⟨ret_int h5, ?_, hc⟩
      show Has _ (.s (mapK actionM actionN l k0).length ((mapK actionM actionN l k0).flatMap actionF)) _ _
      rw [mapK_length]
      exact H0

theorem markActionS_any (l : List ActionT) (u : Value) (S : List Nat) (k0 : Int) (w : World) (hk0 : 0 ≤ k0) (hkb : k0 + actionsN l ≤ 100000000) (hh : Has w (actions l) u S) :
    Calls Tryz.prog 7 #[u, .int .i64 k0] w fun e w' => e = .returned (.int .i64 (k0 + actionsN l)) ∧ Has w' (actions (actionsM l k0)) u S ∧ Chg S w w' := markActionS_any_all l u S k0 w hk0 hkb hh

def heldActionS_any_P (l : List ActionT) : Prop := ∀ (u : Value) (B : Nat) (k0 : Int) (w : World) (_hk0 : 0 ≤ k0) (_hkb : k0 + actionsN l ≤ 100000000) (_hr : Rd w B (actions (actionsM l k0)) u) (_hB : B ≤ w.heap.size), Calls Tryz.prog 8 #[u, .int .i64 k0] w fun e w' => e = .returned (.int .i64 (k0 + actionsN l)) ∧ Chg [] w w'
set_option maxRecDepth 100000 in
set_option maxHeartbeats 2000000 in
theorem heldActionS_any_all : ∀ l, heldActionS_any_P l := by
  refine ActionT.ind fun l ih => ?_
  intro u B k0 w hk0 hkb hr hB
  have IH := Lib.hid ih
  clear ih
  obtain ⟨A, cap, rfl, h0, h1, hrow⟩ := actions_row hr
  have hlen : (actionsM l k0).length = l.length := mapK_length l k0
  rw [hlen] at h0 ⊢
  unfold maxLen at h1
  clear hr
  have HL := Lib.hid hlen
  clear hlen
  go_enter Tryz.func8, Tryz.ntmps8
  go_wp2_with fail
  go_loopw [1, 5] (fun r i wr => ∃ (i' : Nat) (k : Int), i' ≤ l.length ∧ i = .int .i64 i' ∧ r = .int .i64 k ∧ 0 ≤ k ∧ k ≤ 100000000 ∧ Hid (k = k0 + ((l.take i').map actionN).sum) ∧ Chg [] w wr) (fun _ i _ => l.length - (intOf i).toNat)
  case atStart => exact ⟨0, k0, Nat.zero_le _, rfl, rfl, hk0, by omega, by simp [Hid], Chg.refl _ _⟩
  case round =>
    obtain ⟨i, k, hi, rfl, rfl, hk1, hk2, hkq, hc⟩ := hrel
    by_cases hlt : i < l.length
    · have hn1 : k + actionN l[i] ≤ 100000000 := by
        have := sum_take actionN l i hlt; have := sum_le actionN l (i + 1); have := hkq.out; unfold actionsN at hkb; omega
      rw [actionN_eq] at hn1
      have hlt' : i < (actionsM l k0).length := by rw [HL.out]; exact hlt
      have hget : (actionsM l k0)[i] = actionM l[i] k := by rw [hkq.out]; exact mapK_get l k0 i hlt hlt'
      obtain ⟨b, off, u9, u10, rfl, hb, q0, q1, q2, q3, q4, q5, q6, q7, q8, q9, q10, r9, r10⟩ := actions_cells (hrow.chg0 hc hB) i hlt' 
      rw [hget, actionM_eq] at q0 q1 q2 q3 q4 q5 q6 q7 q8 r9 r10
      replace q0 : wr.cell? ⟨b, off + i * 11, none⟩ = some (.int .i64 (k)) := q0
      replace q1 : wr.cell? ⟨b, off + i * 11 + 1, none⟩ = some (.int .i64 (k + 1)) := q1
      replace q2 : wr.cell? ⟨b, off + i * 11 + 2, none⟩ = some (.int .i64 (k + 1 + 1)) := q2
      replace q3 : wr.cell? ⟨b, off + i * 11 + 3, none⟩ = some (.string (mt (k + 1 + 1 + 1))) := q3
      replace q4 : wr.cell? ⟨b, off + i * 11 + 4, none⟩ = some (.string (mt (k + 1 + 1 + 1 + 1))) := q4
      replace q5 : wr.cell? ⟨b, off + i * 11 + 5, none⟩ = some (.string (mt (k + 1 + 1 + 1 + 1 + 1))) := q5
      replace q6 : wr.cell? ⟨b, off + i * 11 + 6, none⟩ = some (.int .i64 (k + 1 + 1 + 1 + 1 + 1 + 1)) := q6
      replace q7 : wr.cell? ⟨b, off + i * 11 + 7, none⟩ = some (.string (mt (k + 1 + 1 + 1 + 1 + 1 + 1 + 1))) := q7
      replace q8 : wr.cell? ⟨b, off + i * 11 + 8, none⟩ = some (.int .i64 (k + 1 + 1 + 1 + 1 + 1 + 1 + 1 + 1)) := q8
      replace r9 : Rd wr B (actions (actionsM l[i].A (k + 1 + 1 + 1 + 1 + 1 + 1 + 1 + 1 + 1))) u9 := r9
      replace r10 : Rd wr B (actions (actionsM l[i].B (k + 1 + 1 + 1 + 1 + 1 + 1 + 1 + 1 + 1 + actionsN l[i].A))) u10 := r10
      have hb0 : b < wr.heap.size := by have := hc.size; omega
      have hB0 : B ≤ wr.heap.size := by have := hc.size; omega
      have Q0 := Lib.hid q0
      have Q1 := Lib.hid q1
      have Q2 := Lib.hid q2
      have Q3 := Lib.hid q3
      have Q4 := Lib.hid q4
      have Q5 := Lib.hid q5
      have Q6 := Lib.hid q6
      have Q7 := Lib.hid q7
      have Q8 := Lib.hid q8
      have Q9 := Lib.hid q9
      have Q10 := Lib.hid q10
      have E0 : Chg [] wr wr := Chg.refl _ _
      clear hget hb hlt' q0 q1 q2 q3 q4 q5 q6 q7 q8 q9 q10
      have p0 := (E0.cell (p := ⟨b, off + i * 11, none⟩) hb0 (by simp)).trans Q0.out
      have p1 := (E0.cell (p := ⟨b, off + i * 11 + 1, none⟩) hb0 (by simp)).trans Q1.out
      have p2 := (E0.cell (p := ⟨b, off + i * 11 + 2, none⟩) hb0 (by simp)).trans Q2.out
      go_wp2_with fail
      clear p0 p1 p2
      have p3 := (E0.cell (p := ⟨b, off + i * 11 + 3, none⟩) hb0 (by simp)).trans Q3.out
      go_region_held3 (fun w' => w'.cell? ⟨b, off + i * 11 + 3, none⟩ = some (.string (mt (k + 1 + 1 + 1))) ∧ Chg [] wr w') (first | exact ⟨p3, E0.drew⟩ | exact ⟨((E0.drew.trans0 c1).cell (p := ⟨b, off + i * 11 + 3, none⟩) hb0 (by simp)).trans Q3.out, E0.drew.trans0 c1⟩) ((go_at_call 16; refine (markText_any _ _ (by omega)).mono ?_; rintro e w1 ⟨rfl, c1⟩))
      rename_i hH; obtain ⟨_, E1⟩ := hH
      clear p3
      go_wp2_with fail
      have p4 := (E1.cell (p := ⟨b, off + i * 11 + 4, none⟩) hb0 (by simp)).trans Q4.out
      go_region_held3 (fun w' => w'.cell? ⟨b, off + i * 11 + 4, none⟩ = some (.string (mt (k + 1 + 1 + 1 + 1))) ∧ Chg [] wr w') (first | exact ⟨p4, E1.drew⟩ | exact ⟨((E1.drew.trans0 c2).cell (p := ⟨b, off + i * 11 + 4, none⟩) hb0 (by simp)).trans Q4.out, E1.drew.trans0 c2⟩) ((go_at_call 16; refine (markText_any _ _ (by omega)).mono ?_; rintro e w2 ⟨rfl, c2⟩))
      rename_i hH; obtain ⟨_, E2⟩ := hH
      clear p4
      go_wp2_with fail
      have p5 := (E2.cell (p := ⟨b, off + i * 11 + 5, none⟩) hb0 (by simp)).trans Q5.out
      go_region_held3 (fun w' => w'.cell? ⟨b, off + i * 11 + 5, none⟩ = some (.string (mt (k + 1 + 1 + 1 + 1 + 1))) ∧ Chg [] wr w') (first | exact ⟨p5, E2.drew⟩ | exact ⟨((E2.drew.trans0 c3).cell (p := ⟨b, off + i * 11 + 5, none⟩) hb0 (by simp)).trans Q5.out, E2.drew.trans0 c3⟩) ((go_at_call 16; refine (markText_any _ _ (by omega)).mono ?_; rintro e w3 ⟨rfl, c3⟩))
      rename_i hH; obtain ⟨_, E3⟩ := hH
      clear p5
      have p6 := (E3.cell (p := ⟨b, off + i * 11 + 6, none⟩) hb0 (by simp)).trans Q6.out
      go_wp2_with fail
      clear p6
      have p7 := (E3.cell (p := ⟨b, off + i * 11 + 7, none⟩) hb0 (by simp)).trans Q7.out
      go_region_held3 (fun w' => w'.cell? ⟨b, off + i * 11 + 7, none⟩ = some (.string (mt (k + 1 + 1 + 1 + 1 + 1 + 1 + 1))) ∧ Chg [] wr w') (first | exact ⟨p7, E3.drew⟩ | exact ⟨((E3.drew.trans0 c4).cell (p := ⟨b, off + i * 11 + 7, none⟩) hb0 (by simp)).trans Q7.out, E3.drew.trans0 c4⟩) ((go_at_call 16; refine (markText_any _ _ (by omega)).mono ?_; rintro e w4 ⟨rfl, c4⟩))
      rename_i hH; obtain ⟨_, E4⟩ := hH
      clear p7
      have p8 := (E4.cell (p := ⟨b, off + i * 11 + 8, none⟩) hb0 (by simp)).trans Q8.out
      have p9 := (E4.cell (p := ⟨b, off + i * 11 + 9, none⟩) hb0 (by simp)).trans Q9.out
      go_wp2_with fail
      clear p8 p9
      refine ((IH.out _ (List.getElem_mem hlt)).1 _ B _ _ (by omega) (by omega) (r9.chg0 E4 hB0) (by have := E4.size; omega)).mono ?_; rintro e w5 ⟨rfl, c5⟩
      have E5 := E4.trans0 c5
      have p10 := (E5.cell (p := ⟨b, off + i * 11 + 10, none⟩) hb0 (by simp)).trans Q10.out
      go_wp2_with fail
      clear p10
      refine ((IH.out _ (List.getElem_mem hlt)).2 _ B _ _ (by omega) (by omega) (r10.chg0 E5 hB0) (by have := E5.size; omega)).mono ?_; rintro e w6 ⟨rfl, c6⟩
      have E6 := E5.trans0 c6
      go_wp2_with fail
      go_roundw
      case rel =>
        have e1 : ((l.take (i + 1)).map actionN).sum = ((l.take i).map actionN).sum + actionN l[i] := sum_take actionN l i hlt
        have e2 := hkq.out
        have e3 : actionN l[i] = 9 + actionsN l[i].A + actionsN l[i].B := actionN_eq _
        refine ⟨i + 1, _, by omega, by go_num, rfl, by omega, by omega, ?_, hc.trans0 E6⟩
        show _ = _
        rw [e1, e3]; omega
      case measure => simp [intOf]; omega
    · obtain rfl : i = l.length := by omega
      go_wp2_with fail
      go_ret
      have h5 := hkq.out
      rw [List.take_length] at h5
      exact ⟨ret_int h5, hc⟩

theorem heldActionS_any (l : List ActionT) (u : Value) (B : Nat) (k0 : Int) (w : World) (hk0 : 0 ≤ k0) (hkb : k0 + actionsN l ≤ 100000000) (hr : Rd w B (actions (actionsM l k0)) u) (hB : B ≤ w.heap.size) :
    Calls Tryz.prog 8 #[u, .int .i64 k0] w fun e w' => e = .returned (.int .i64 (k0 + actionsN l)) ∧ Chg [] w w' := heldActionS_any_all l u B k0 w hk0 hkb hr hB

end Go.Proofs.YtldpibnfhomfgaaGreatDoor
