/- Action: as plain data; the walks of its size, copy, equality, marks. Written by a program. -/
import Derived.Test.YtgnggiibhkphjaaGreatDoorStrs
import Derived.Test.YtgnggiibhkphjaaGreatDoorText
import Derived.Test.YtgnggiibhkphjaaGreatDoorOpen
import Derived.StillTailTactics
import Derived.Deep.RegionHeld3
import Derived.Test.YtgnggiibhkphjaaGreatDoorTCall
namespace Go.Proofs.YtgnggiibhkphjaaGreatDoor
open Go.RowKit

inductive ActionT where
  | mk (op : Int) (slot : Int) (other : Int) (word : ByteArray) (call : CallT) (face : Int) (A : List ActionT) (B : List ActionT)
def ActionT.op : ActionT → Int | .mk op _ _ _ _ _ _ _ => op
def ActionT.slot : ActionT → Int | .mk _ slot _ _ _ _ _ _ => slot
def ActionT.other : ActionT → Int | .mk _ _ other _ _ _ _ _ => other
def ActionT.word : ActionT → ByteArray | .mk _ _ _ word _ _ _ _ => word
def ActionT.call : ActionT → CallT | .mk _ _ _ _ call _ _ _ => call
def ActionT.face : ActionT → Int | .mk _ _ _ _ _ face _ _ => face
def ActionT.A : ActionT → List ActionT | .mk _ _ _ _ _ _ A _ => A
def ActionT.B : ActionT → List ActionT | .mk _ _ _ _ _ _ _ B => B
mutual
def actionF : ActionT → List Dat
  | .mk op slot other word call face A B => [.v (.int .i64 op), .v (.int .i64 slot), .v (.int .i64 other), .v (.string word), .v (.string call.method), .v (.string call.key), .v (.int .i64 call.value), .v (.string call.text), .v (.int .i64 face), .s A.length (actionF1 A), .s B.length (actionF1 B)]
def actionF1 : List ActionT → List Dat
  | [] => []
  | a :: l => actionF a ++ actionF1 l
end
theorem actionF1_eq : ∀ l : List ActionT, actionF1 l = l.flatMap actionF
  | [] => by rw [actionF1]; rfl
  | a :: l => by rw [actionF1, actionF1_eq l, List.flatMap_cons]
def actions (l : List ActionT) : Dat := .s l.length (l.flatMap actionF)
theorem actionF_eq (a : ActionT) : actionF a = [.v (.int .i64 a.op), .v (.int .i64 a.slot), .v (.int .i64 a.other), .v (.string a.word), .v (.string a.call.method), .v (.string a.call.key), .v (.int .i64 a.call.value), .v (.string a.call.text), .v (.int .i64 a.face), actions a.A, actions a.B] := by
  cases a with
  | mk op slot other word call face A B => rw [actionF, actionF1_eq, actionF1_eq]; rfl
theorem actionF_len (a : ActionT) : (actionF a).length = 11 := by rw [actionF_eq]; rfl
theorem actionF_parts (a : ActionT) : actionF a = [.v (.int .i64 a.op)] ++ ([.v (.int .i64 a.slot)] ++ ([.v (.int .i64 a.other)] ++ ([.v (.string a.word)] ++ (callF a.call ++ ([.v (.int .i64 a.face)] ++ ([actions a.A] ++ [actions a.B])))))) := by rw [actionF_eq]; rfl
mutual
/-- How many actions there are. -/
def ActionT.size : ActionT → Nat
  | .mk _ _ _ _ _ _ A B => 1 + sizeL A + sizeL B
def sizeL : List ActionT → Nat
  | [] => 0
  | a :: l => a.size + sizeL l
end
theorem ActionT.size_eq (a : ActionT) : a.size = 1 + sizeL a.A + sizeL a.B := by
  cases a; rw [ActionT.size]; rfl
theorem sizeL_mem : ∀ {l : List ActionT} {a : ActionT}, a ∈ l → a.size ≤ sizeL l
  | b :: l, a, h => by
    rw [sizeL]
    rcases List.mem_cons.1 h with rfl | h
    · omega
    · have := sizeL_mem h; omega
/-- What holds of a list as soon as it holds of the lists in its elements holds of all lists. -/
theorem ActionT.ind {P : List ActionT → Prop} (h : ∀ l, (∀ a ∈ l, P a.A ∧ P a.B) → P l) (l : List ActionT) : P l := by
  have key : ∀ n, ∀ l, sizeL l ≤ n → P l := by
    intro n
    induction n with
    | zero =>
      intro l hl
      refine h l fun a ha => ?_
      have := sizeL_mem ha
      have := a.size_eq
      omega
    | succ n ih =>
      intro l hl
      refine h l fun a ha => ?_
      have := sizeL_mem ha
      have := a.size_eq
      exact ⟨ih _ (by omega), ih _ (by omega)⟩
  exact key _ l (Nat.le_refl _)
mutual
def actionW : ActionT → Nat
  | .mk _ _ _ word call _ A B => word.size + callW call + (A.length + actionW1 A) + (B.length + actionW1 B)
def actionW1 : List ActionT → Nat
  | [] => 0
  | a :: l => actionW a + actionW1 l
end
theorem actionW1_eq : ∀ l : List ActionT, actionW1 l = (l.map actionW).sum
  | [] => by rw [actionW1]; rfl
  | a :: l => by rw [actionW1, actionW1_eq l]; rfl
def actionsW1 (l : List ActionT) : Nat := (l.map actionW).sum
def actionsW (l : List ActionT) : Nat := l.length + actionsW1 l
theorem actionW_eq (a : ActionT) : actionW a = a.word.size + callW a.call + actionsW a.A + actionsW a.B := by
  cases a; rw [actionW, actionW1_eq, actionW1_eq]; rfl
theorem actionsW_mem {l : List ActionT} {a : ActionT} (h : a ∈ l) : actionW a ≤ actionsW1 l := sum_mem actionW h
mutual
def actionN : ActionT → Nat
  | .mk _ _ _ _ _ _ A B => 9 + actionN1 A + actionN1 B
def actionN1 : List ActionT → Nat
  | [] => 0
  | a :: l => actionN a + actionN1 l
end
theorem actionN1_eq : ∀ l : List ActionT, actionN1 l = (l.map actionN).sum
  | [] => by rw [actionN1]; rfl
  | a :: l => by rw [actionN1, actionN1_eq l]; rfl
def actionsN (l : List ActionT) : Nat := (l.map actionN).sum
theorem actionN_eq (a : ActionT) : actionN a = 9 + actionsN a.A + actionsN a.B := by
  cases a; rw [actionN, actionN1_eq, actionN1_eq]; rfl
mutual
def actionM : ActionT → Int → ActionT
  | .mk _ _ _ _ _ _ A B, k => .mk (k) (k + 1) (k + 1 + 1) (mt (k + 1 + 1 + 1)) ⟨(mt (k + 1 + 1 + 1 + 1)), (mt (k + 1 + 1 + 1 + 1 + 1)), (k + 1 + 1 + 1 + 1 + 1 + 1), (mt (k + 1 + 1 + 1 + 1 + 1 + 1 + 1))⟩ (k + 1 + 1 + 1 + 1 + 1 + 1 + 1 + 1) (actionM1 A (k + 1 + 1 + 1 + 1 + 1 + 1 + 1 + 1 + 1)) (actionM1 B (k + 1 + 1 + 1 + 1 + 1 + 1 + 1 + 1 + 1 + actionN1 A))
def actionM1 : List ActionT → Int → List ActionT
  | [], _ => []
  | a :: l, k => actionM a k :: actionM1 l (k + actionN a)
end
theorem actionM1_eq : ∀ (l : List ActionT) (k : Int), actionM1 l k = mapK actionM actionN l k
  | [], _ => by rw [actionM1]; rfl
  | a :: l, k => by rw [actionM1, actionM1_eq l]; rfl
def actionsM (l : List ActionT) (k : Int) : List ActionT := mapK actionM actionN l k
theorem actionM_eq (a : ActionT) (k : Int) : actionM a k = .mk (k) (k + 1) (k + 1 + 1) (mt (k + 1 + 1 + 1)) ⟨(mt (k + 1 + 1 + 1 + 1)), (mt (k + 1 + 1 + 1 + 1 + 1)), (k + 1 + 1 + 1 + 1 + 1 + 1), (mt (k + 1 + 1 + 1 + 1 + 1 + 1 + 1))⟩ (k + 1 + 1 + 1 + 1 + 1 + 1 + 1 + 1) (actionsM a.A (k + 1 + 1 + 1 + 1 + 1 + 1 + 1 + 1 + 1)) (actionsM a.B (k + 1 + 1 + 1 + 1 + 1 + 1 + 1 + 1 + 1 + actionsN a.A)) := by
  cases a; rw [actionM, actionM1_eq, actionM1_eq, actionN1_eq]; rfl
theorem actionM_F (a : ActionT) (k : Int) : actionF (actionM a k) = [.v (.int .i64 (k)), .v (.int .i64 (k + 1)), .v (.int .i64 (k + 1 + 1)), .v (.string (mt (k + 1 + 1 + 1))), .v (.string (mt (k + 1 + 1 + 1 + 1))), .v (.string (mt (k + 1 + 1 + 1 + 1 + 1))), .v (.int .i64 (k + 1 + 1 + 1 + 1 + 1 + 1)), .v (.string (mt (k + 1 + 1 + 1 + 1 + 1 + 1 + 1))), .v (.int .i64 (k + 1 + 1 + 1 + 1 + 1 + 1 + 1 + 1)), actions (actionsM a.A (k + 1 + 1 + 1 + 1 + 1 + 1 + 1 + 1 + 1)), actions (actionsM a.B (k + 1 + 1 + 1 + 1 + 1 + 1 + 1 + 1 + 1 + actionsN a.A))] := by rw [actionM_eq, actionF_eq]; rfl
theorem actions_row {w : World} {B : Nat} {l : List ActionT} {u : Value} (h : Rd w B (actions l) u) : ∃ A cap, u = .slice A l.length cap ∧ l.length ≤ cap ∧ cap ≤ maxLen ∧ RowAt w B actionF 11 l A := h.row actionF_len (by omega)
theorem actions_cells {w : World} {B : Nat} {l : List ActionT} {A : Option Addr} (h : RowAt w B actionF 11 l A) (k : Nat) (hk : k < l.length) : ∃ b off u9 u10, A = some ⟨b, off, none⟩ ∧ b < B ∧ w.cell? ⟨b, off + k * 11, none⟩ = some (.int .i64 (l[k].op)) ∧ w.cell? ⟨b, off + k * 11 + 1, none⟩ = some (.int .i64 (l[k].slot)) ∧ w.cell? ⟨b, off + k * 11 + 2, none⟩ = some (.int .i64 (l[k].other)) ∧ w.cell? ⟨b, off + k * 11 + 3, none⟩ = some (.string (l[k].word)) ∧ w.cell? ⟨b, off + k * 11 + 4, none⟩ = some (.string (l[k].call.method)) ∧ w.cell? ⟨b, off + k * 11 + 5, none⟩ = some (.string (l[k].call.key)) ∧ w.cell? ⟨b, off + k * 11 + 6, none⟩ = some (.int .i64 (l[k].call.value)) ∧ w.cell? ⟨b, off + k * 11 + 7, none⟩ = some (.string (l[k].call.text)) ∧ w.cell? ⟨b, off + k * 11 + 8, none⟩ = some (.int .i64 (l[k].face)) ∧ w.cell? ⟨b, off + k * 11 + 9, none⟩ = some u9 ∧ w.cell? ⟨b, off + k * 11 + 10, none⟩ = some u10 ∧ Rd w B (actions (l[k].A)) u9 ∧ Rd w B (actions (l[k].B)) u10 := by
  obtain ⟨b, off, e, hb, hx⟩ := h k hk
  rw [actionF_eq] at hx
  obtain ⟨v0, e0, d0⟩ := hx 0 _ rfl
  obtain ⟨v1, e1, d1⟩ := hx 1 _ rfl
  obtain ⟨v2, e2, d2⟩ := hx 2 _ rfl
  obtain ⟨v3, e3, d3⟩ := hx 3 _ rfl
  obtain ⟨v4, e4, d4⟩ := hx 4 _ rfl
  obtain ⟨v5, e5, d5⟩ := hx 5 _ rfl
  obtain ⟨v6, e6, d6⟩ := hx 6 _ rfl
  obtain ⟨v7, e7, d7⟩ := hx 7 _ rfl
  obtain ⟨v8, e8, d8⟩ := hx 8 _ rfl
  obtain ⟨v9, e9, d9⟩ := hx 9 _ rfl
  obtain ⟨v10, e10, d10⟩ := hx 10 _ rfl
  rw [Rd] at d0 d1 d2 d3 d4 d5 d6 d7 d8
  subst d0 d1 d2 d3 d4 d5 d6 d7 d8
  exact ⟨b, off, v9, v10, e, hb, by simpa using e0, e1, e2, e3, e4, e5, e6, e7, e8, e9, e10, d9, d10⟩

def szActionS_any_P (l : List ActionT) : Prop := ∀ (left : Int) (u : Value) (B : Nat) (w : World) (_h0 : 0 ≤ left) (_hl : left ≤ 1048576) (_hf : FitL [actions l]) (_hr : Rd w B (actions l) u) (_hBw : B ≤ w.heap.size), Calls Tryz.prog 6 #[u, .int .i64 left] w (SzPost left (actionsW l) w)
set_option maxRecDepth 100000 in
set_option maxHeartbeats 1000000 in
theorem szAction_el (a : ActionT) (hA : szActionS_any_P a.A) (hB : szActionS_any_P a.B) (left : Int) (u9 u10 : Value) (B : Nat) (w : World) (h0 : 0 ≤ left) (hl : left ≤ 1048576) (hf : FitL (actionF a)) (r9 : Rd w B (actions a.A) u9) (r10 : Rd w B (actions a.B) u10) (hBw : B ≤ w.heap.size) :
    Calls Tryz.prog 15 #[.agg #[.int .i64 a.op, .int .i64 a.slot, .int .i64 a.other, .string a.word, .string a.call.method, .string a.call.key, .int .i64 a.call.value, .string a.call.text, .int .i64 a.face, u9, u10], .int .i64 left] w (SzPost left (actionW a) w) := by
  rw [actionF_parts] at hf; simp only [FitL_append] at hf
  obtain ⟨f0, f1, f2, f3, f4, f5, f6, f7⟩ := hf
  simp only [FitL, FitD, FitV, and_true] at f0
  simp only [FitL, FitD, FitV, and_true] at f1
  simp only [FitL, FitD, FitV, and_true] at f2
  simp only [FitL, FitD, FitV, and_true] at f3
  have g4 := Lib.hid f4; clear f4
  simp only [FitL, FitD, FitV, and_true] at f5
  have g6 := Lib.hid f6; clear f6
  have g7 := Lib.hid f7; clear f7
  have HA := Lib.hid hA; have HB := Lib.hid hB; clear hA hB
  go_enter Tryz.func15, Tryz.ntmps15
  go_wp2_with fail
  all_goals try (go_ret; exact ⟨_, rfl, by (first | exact Left.no (by (try unfold Left at *); (try rw [actionW_eq]); omega) | exact Left.ok (by (try unfold Left at *); (try rw [actionW_eq]); omega) (by (try unfold Left at *); (try rw [actionW_eq]); omega)), (Chg.refl _ _).alloc _⟩; done)
  refine (szCall_el a.call _  _ (by omega) (by omega) g4.out ).mono ?_; rintro e w1 ⟨r1_, rfl, L1, C1⟩
  have D1 : Chg [] w w1 := Chg.trans0 (((Chg.refl _ _).alloc _)) C1
  have bd1 := L1.bd (by omega)
  have s1 : w.heap.size < w1.heap.size := by have := C1.size; simp at this; omega
  obtain ⟨y1, _, _⟩ := C1.cells
  go_wp2_with fail
  all_goals try (go_ret; exact ⟨_, rfl, by (first | exact Left.no (by (try unfold Left at *); (try rw [actionW_eq]); omega) | exact Left.ok (by (try unfold Left at *); (try rw [actionW_eq]); omega) (by (try unfold Left at *); (try rw [actionW_eq]); omega)), D1⟩; done)
  refine (HA.out _ u9 B _ (by omega) (by omega) g6.out (r9.chg0 (D1) hBw) (by have := D1.size; omega)).mono ?_; rintro e w2 ⟨r2_, rfl, L2, C2⟩
  have D2 : Chg [] w w2 := Chg.trans0 (D1) C2
  have bd2 := L2.bd (by omega)
  have s2 : w.heap.size < w2.heap.size := by have := C2.size; omega
  obtain ⟨y2, _, _⟩ := C2.cells
  go_wp2_with fail
  all_goals try (go_ret; exact ⟨_, rfl, by (first | exact Left.no (by (try unfold Left at *); (try rw [actionW_eq]); omega) | exact Left.ok (by (try unfold Left at *); (try rw [actionW_eq]); omega) (by (try unfold Left at *); (try rw [actionW_eq]); omega)), D2⟩; done)
  refine (HB.out _ u10 B _ (by omega) (by omega) g7.out (r10.chg0 (D2) hBw) (by have := D2.size; omega)).mono ?_; rintro e w3 ⟨r3_, rfl, L3, C3⟩
  have D3 : Chg [] w w3 := Chg.trans0 (D2) C3
  have bd3 := L3.bd (by omega)
  have s3 : w.heap.size < w3.heap.size := by have := C3.size; omega
  obtain ⟨y3, _, _⟩ := C3.cells
  go_wp2_with fail
  all_goals
    go_ret
    exact ⟨_, rfl, by (first | exact Left.no (by (try unfold Left at *); (try rw [actionW_eq]); omega) | exact Left.ok (by (try unfold Left at *); (try rw [actionW_eq]); omega) (by (try unfold Left at *); (try rw [actionW_eq]); omega)), D3⟩

set_option maxRecDepth 100000 in
set_option maxHeartbeats 1000000 in
theorem szActionS_any_all : ∀ l, szActionS_any_P l := by
  refine ActionT.ind fun l ih => ?_
  intro left u B w h0 hl hf hr hBw
  have IH := Lib.hid ih
  clear ih
  obtain ⟨A, cap, rfl, h1, h2, hrow⟩ := actions_row hr
  unfold maxLen at h2
  have HF := Lib.hid hf
  clear hr hf
  go_enter Tryz.func6, Tryz.ntmps6
  go_wp2_with fail
  · go_ret
    exact ⟨_, rfl, Left.no (by unfold actionsW; omega), Chg.refl _ _⟩
  go_loopw [1, 5] (fun r i wr => ∃ (k : Nat) (x : Int), k ≤ l.length ∧ i = .int .i64 k ∧ r = .int .i64 x ∧ Chg [] w wr ∧ 0 ≤ x ∧ x ≤ left ∧ Hid (x = left - l.length - actionsW1 (l.take k))) (fun _ i _ => l.length - (intOf i).toNat)
  case atStart => exact ⟨0, _, Nat.zero_le _, rfl, rfl, Chg.refl _ _, by omega, by omega, by simp [actionsW1, Hid]⟩
  case round =>
    obtain ⟨k, x, hk, rfl, rfl, hc, hx0, hxl, HX⟩ := hrel
    by_cases hlt : k < l.length
    · obtain ⟨b, off, u9, u10, rfl, hb, q0, q1, q2, q3, q4, q5, q6, q7, q8, q9, q10, r9, r10⟩ := actions_cells (hrow.chg0 hc hBw) k hlt
      have hsz : Hid (actionsW1 (l.take (k + 1)) = actionsW1 (l.take k) + actionW l[k] ∧ actionsW1 (l.take (k + 1)) ≤ actionsW1 l) := ⟨sum_take actionW l k hlt, sum_le actionW l (k + 1)⟩
      have hfk := Lib.hid (FitL_flatMap.1 (FitL_slice HF.out) _ (List.getElem_mem hlt))
      go_wp2_with fail
      refine (szAction_el l[k] (IH.out _ (List.getElem_mem hlt)).1 (IH.out _ (List.getElem_mem hlt)).2 _ u9 u10 B _ (by omega) (by omega) hfk.out r9 r10 (by have := hc.size; omega)).mono ?_
      rintro e w1 ⟨r1_, rfl, L1, C1⟩
      have D1 : Chg [] w w1 := hc.trans0 C1
      have bd1 := L1.bd (by omega)
      go_wp2_with fail
      · go_ret
        refine ⟨_, rfl, Left.no ?_, D1⟩
        have := HX.out; have := hsz.out
        simp only [Left] at L1
        unfold actionsW
        omega
      · go_roundw
        case rel =>
          refine ⟨k + 1, r1_, by omega, by go_num, rfl, D1, by omega, by omega, ?_⟩
          have := HX.out; have := hsz.out
          simp only [Left] at L1
          show r1_ = _
          omega
        case measure => simp [intOf]; omega
    · go_wp2_with fail
      go_ret
      obtain rfl : k = l.length := by omega
      have h5 := HX.out
      rw [List.take_length] at h5
      exact ⟨_, rfl, Left.ok (by unfold actionsW; omega) (by unfold actionsW; omega), hc⟩

theorem szActionS_any (l : List ActionT) (left : Int) (u : Value) (B : Nat) (w : World) (h0 : 0 ≤ left) (hl : left ≤ 1048576) (hf : FitL [actions l]) (hr : Rd w B (actions l) u) (hBw : B ≤ w.heap.size) :
    Calls Tryz.prog 6 #[u, .int .i64 left] w (SzPost left (actionsW l) w) := szActionS_any_all l left u B w h0 hl hf hr hBw

def toActionS_any_P (l : List ActionT) : Prop := ∀ (u : Value) (B : Nat) (w : World) (_hl : actionsW l ≤ 1048576) (_hr : Rd w B (actions l) u) (_hB : B ≤ w.heap.size), Calls Tryz.prog 8 #[u] w (Gives (actions l) w)
set_option maxRecDepth 100000 in
set_option maxHeartbeats 2000000 in
theorem toAction_el (a : ActionT) (hA : toActionS_any_P a.A) (hB : toActionS_any_P a.B) (u9 u10 : Value) (B : Nat) (w : World) (hW : actionW a ≤ 1048576) (r9 : Rd w B (actions a.A) u9) (r10 : Rd w B (actions a.B) u10) (hBw : B ≤ w.heap.size) :
    Calls Tryz.prog 19 #[.agg #[.int .i64 a.op, .int .i64 a.slot, .int .i64 a.other, .string a.word, .string a.call.method, .string a.call.key, .int .i64 a.call.value, .string a.call.text, .int .i64 a.face, u9, u10]] w (fun e w' => ∃ A9 cap9 A10 cap10, e = .returned (.agg #[.int .i64 a.op, .int .i64 a.slot, .int .i64 a.other, .string a.word, .string a.call.method, .string a.call.key, .int .i64 a.call.value, .string a.call.text, .int .i64 a.face, .slice A9 a.A.length cap9, .slice A10 a.B.length cap10]) ∧ NewL w w' (actionF a) [.int .i64 a.op, .int .i64 a.slot, .int .i64 a.other, .string a.word, .string a.call.method, .string a.call.key, .int .i64 a.call.value, .string a.call.text, .int .i64 a.face, .slice A9 a.A.length cap9, .slice A10 a.B.length cap10]) := by
  rw [actionW_eq] at hW
  have HA := Lib.hid hA; have HB := Lib.hid hB; clear hA hB
  go_enter Tryz.func19, Tryz.ntmps19
  go_wp2_with fail
  refine (toCall_el a.call  _ (by omega) ).mono ?_; rintro e w1 ⟨rfl, n1⟩
  obtain ⟨y1, z1, s1⟩ := n1.chg.cells
  have d1 : Chg [] w w1 := Chg.trans0 (by repeat (first | with_reducible exact Chg.refl _ _ | with_reducible refine Chg.drew ?_ | with_reducible refine Chg.alloc ?_ _ | with_reducible refine Chg.setCell ?_ (.inr (by simp; try omega)) _)) n1.chg
  have t1 : w.heap.size + 1 + 1 < w1.heap.size := by simp at s1; omega
  have t1' : w.heap.size + 1 < w1.heap.size := by omega
  have t1'' : w.heap.size < w1.heap.size := by omega
  go_wp2_with fail
  refine (HA.out u9 B _ (by omega) (r9.chg0 (by repeat (first | with_reducible exact d1 | with_reducible refine Chg.drew ?_ | with_reducible refine Chg.alloc ?_ _ | with_reducible refine Chg.setCell ?_ (.inr (by simp; try omega)) _)) hBw) (by simp; omega)).mono ?_; intro e w2 G2; obtain ⟨A9, cap9, rfl, n2⟩ := G2.sl
  obtain ⟨y2, z2, s2⟩ := n2.chg.cells
  have d2 : Chg [] w w2 := Chg.trans0 (by repeat (first | with_reducible exact d1 | with_reducible refine Chg.drew ?_ | with_reducible refine Chg.alloc ?_ _ | with_reducible refine Chg.setCell ?_ (.inr (by simp; try omega)) _)) n2.chg
  have t2 : w.heap.size + 1 + 1 < w2.heap.size := by simp at s2; omega
  have t2' : w.heap.size + 1 < w2.heap.size := by omega
  have t2'' : w.heap.size < w2.heap.size := by omega
  go_wp2_with fail
  refine (HB.out u10 B _ (by omega) (r10.chg0 (by repeat (first | with_reducible exact d2 | with_reducible refine Chg.drew ?_ | with_reducible refine Chg.alloc ?_ _ | with_reducible refine Chg.setCell ?_ (.inr (by simp; try omega)) _)) hBw) (by simp; omega)).mono ?_; intro e w3 G3; obtain ⟨A10, cap10, rfl, n3⟩ := G3.sl
  obtain ⟨y3, z3, s3⟩ := n3.chg.cells
  have d3 : Chg [] w w3 := Chg.trans0 (by repeat (first | with_reducible exact d2 | with_reducible refine Chg.drew ?_ | with_reducible refine Chg.alloc ?_ _ | with_reducible refine Chg.setCell ?_ (.inr (by simp; try omega)) _)) n3.chg
  have t3 : w.heap.size + 1 + 1 < w3.heap.size := by simp at s3; omega
  have t3' : w.heap.size + 1 < w3.heap.size := by omega
  have t3'' : w.heap.size < w3.heap.size := by omega
  go_wp2_with fail
  refine bodyPost_ret (v := .agg #[.int .i64 a.op, .int .i64 a.slot, .int .i64 a.other, .string a.word, .string a.call.method, .string a.call.key, .int .i64 a.call.value, .string a.call.text, .int .i64 a.face, .slice A9 a.A.length cap9, .slice A10 a.B.length cap10]) (by simp only [results, Tryz.results19]; go_simp) rfl ⟨_, _, _, _, rfl, ?_⟩
  rw [actionF_parts]
  refine NewT.start (T := [w.heap.size + 1, w.heap.size + 1 + 1]) ?_ (by intro x hx; simp at hx; omega)
  refine NewT.cons_v ?_
  refine NewT.cons_v ?_
  refine NewT.cons_v ?_
  refine NewT.cons_v ?_
  refine NewT.app_new n1 (by intro x hx; simp at hx ⊢; omega) (by repeat (first | with_reducible exact Chg.refl _ _ | with_reducible refine Chg.drew ?_ | with_reducible refine Chg.alloc ?_ _ | with_reducible refine Chg.setCell ?_ (.inl (by simp)) _)) (Chg.refl _ _) ?_
  refine NewT.cons_v ?_
  refine NewT.cons_new n2 (by intro x hx; simp at hx ⊢; omega) (by repeat (first | with_reducible exact Chg.refl _ _ | with_reducible refine Chg.drew ?_ | with_reducible refine Chg.alloc ?_ _ | with_reducible refine Chg.setCell ?_ (.inl (by simp)) _)) (Chg.refl _ _) ?_
  refine NewT.cons_new n3 (by intro x hx; simp at hx ⊢; omega) (by repeat (first | with_reducible exact Chg.refl _ _ | with_reducible refine Chg.drew ?_ | with_reducible refine Chg.alloc ?_ _ | with_reducible refine Chg.setCell ?_ (.inl (by simp)) _)) (Chg.refl _ _) ?_
  refine NewT.nil ?_
  repeat (first | with_reducible exact Chg.refl _ _ | with_reducible refine Chg.drew ?_ | with_reducible refine Chg.alloc ?_ _ | with_reducible refine Chg.setCell ?_ (.inl (by simp)) _)

theorem action_info : (Tryz.prog.info? 38).map (fun i => (i.zero, i.size, i.bytes)) = some (some (.agg #[.int .i64 0, .int .i64 0, .int .i64 0, .string ⟨#[]⟩, .string ⟨#[]⟩, .string ⟨#[]⟩, .int .i64 0, .string ⟨#[]⟩, .int .i64 0, .slice none 0 0, .slice none 0 0]), 11, 152) := by kernel_rfl
def actionZ : List Dat := [.v (.int .i64 0), .v (.int .i64 0), .v (.int .i64 0), .v (.string ⟨#[]⟩), .v (.string ⟨#[]⟩), .v (.string ⟨#[]⟩), .v (.int .i64 0), .v (.string ⟨#[]⟩), .v (.int .i64 0), .s 0 [], .s 0 []]
theorem actionZ_own (w : World) : OwnL w actionZ [.int .i64 0, .int .i64 0, .int .i64 0, .string ⟨#[]⟩, .string ⟨#[]⟩, .string ⟨#[]⟩, .int .i64 0, .string ⟨#[]⟩, .int .i64 0, .slice none 0 0, .slice none 0 0] [] := by
  have h : HasL w actionZ [.int .i64 0, .int .i64 0, .int .i64 0, .string ⟨#[]⟩, .string ⟨#[]⟩, .string ⟨#[]⟩, .int .i64 0, .string ⟨#[]⟩, .int .i64 0, .slice none 0 0, .slice none 0 0] [] := by
    unfold actionZ
    repeat (first | with_reducible exact HasL.nil _ | with_reducible refine HasL.cons_v ?_ | with_reducible refine HasL.cons_nil ?_)
  exact h.1
set_option maxRecDepth 100000 in
set_option maxHeartbeats 1000000 in
theorem toActionS_any_all : ∀ l, toActionS_any_P l := by
  refine ActionT.ind fun l ih => ?_
  intro u B w hl hr hB
  have IH := Lib.hid ih
  clear ih
  have hll : l.length ≤ 1048576 := by unfold actionsW at hl; omega
  obtain ⟨A, cap, rfl, h0, h1, hrow⟩ := actions_row hr
  have hmk := fun W => run_make_rowN (P := Tryz.prog) 25 38 _ 11 152 Tryz.underlying25 action_info .i64 .i64 l.length l.length (Nat.le_refl _) (by omega) (by omega) W
  unfold maxLen at h1
  clear hr
  go_enter Tryz.func8, Tryz.ntmps8
  go_wp2_with fail
  go_loopw [4] (fun i wr => ∃ k : Nat, k ≤ l.length ∧ i = .int .i64 k ∧ New w wr (.s l.length (filled actionF actionZ l k)) (.slice (some ⟨w.heap.size, 0, none⟩) l.length l.length)) (fun i _ => l.length - (intOf i).toNat)
  case atStart => exact ⟨0, Nat.zero_le _, rfl, New.make w 38 _ 11 rfl (by omega) actionZ actionZ_own actionF l l.length rfl (by unfold maxLen; omega)⟩
  case round =>
    obtain ⟨k, hk, rfl, hh⟩ := hrel
    by_cases hlt : k < l.length
    · obtain ⟨b, off, u9, u10, rfl, hb, q0, q1, q2, q3, q4, q5, q6, q7, q8, q9, q10, r9, r10⟩ := actions_cells (hrow.chg0 hh.chg hB) k hlt
      have hwt := actionsW_mem (List.getElem_mem hlt)
      go_wp2_with fail
      refine (toAction_el l[k] (IH.out _ (List.getElem_mem hlt)).1 (IH.out _ (List.getElem_mem hlt)).2 u9 u10 B _ (by unfold actionsW at hl; omega) r9 r10 (by have := hh.chg.size; omega)).mono ?_; rintro e w1 ⟨A9, cap9, A10, cap10, rfl, n1⟩
      have hset := hh.fill actionF_len rfl hlt n1
      have hh1 := hh.later n1.chg
      obtain ⟨rm0, x0, rc0⟩ := hh1.room (j := k * 11) (by rw [filled_length actionF_len rfl _ _ hk]; omega)
      obtain ⟨rm1, x1, rc1⟩ := hh1.room (j := k * 11 + 1) (by rw [filled_length actionF_len rfl _ _ hk]; omega)
      obtain ⟨rm2, x2, rc2⟩ := hh1.room (j := k * 11 + 2) (by rw [filled_length actionF_len rfl _ _ hk]; omega)
      obtain ⟨rm3, x3, rc3⟩ := hh1.room (j := k * 11 + 3) (by rw [filled_length actionF_len rfl _ _ hk]; omega)
      obtain ⟨rm4, x4, rc4⟩ := hh1.room (j := k * 11 + 4) (by rw [filled_length actionF_len rfl _ _ hk]; omega)
      obtain ⟨rm5, x5, rc5⟩ := hh1.room (j := k * 11 + 5) (by rw [filled_length actionF_len rfl _ _ hk]; omega)
      obtain ⟨rm6, x6, rc6⟩ := hh1.room (j := k * 11 + 6) (by rw [filled_length actionF_len rfl _ _ hk]; omega)
      obtain ⟨rm7, x7, rc7⟩ := hh1.room (j := k * 11 + 7) (by rw [filled_length actionF_len rfl _ _ hk]; omega)
      obtain ⟨rm8, x8, rc8⟩ := hh1.room (j := k * 11 + 8) (by rw [filled_length actionF_len rfl _ _ hk]; omega)
      obtain ⟨rm9, x9, rc9⟩ := hh1.room (j := k * 11 + 9) (by rw [filled_length actionF_len rfl _ _ hk]; omega)
      obtain ⟨rm10, x10, rc10⟩ := hh1.room (j := k * 11 + 10) (by rw [filled_length actionF_len rfl _ _ hk]; omega)
      go_wp2_with fail
      go_roundw
      case rel => exact ⟨k + 1, by omega, by go_num, hset⟩
      case measure => simp [intOf]; omega
    · obtain rfl : k = l.length := by omega
      rw [filled_all] at hh
      go_wp2_with fail
      go_ret
      exact ⟨_, rfl, hh⟩

theorem toActionS_any (l : List ActionT) (u : Value) (B : Nat) (w : World) (hl : actionsW l ≤ 1048576) (hr : Rd w B (actions l) u) (hB : B ≤ w.heap.size) :
    Calls Tryz.prog 8 #[u] w (Gives (actions l) w) := toActionS_any_all l u B w hl hr hB

def eqActionS_same_P (l : List ActionT) : Prop := ∀ (u v : Value) (B B' : Nat) (w : World) (_hr : Rd w B (actions l) u) (_hs : Rd w B' (actions l) v) (_hB : B ≤ w.heap.size) (_hB' : B' ≤ w.heap.size), Calls Tryz.prog 10 #[u, v] w fun e w' => e = .returned (.bool true) ∧ Chg [] w w'
set_option maxRecDepth 100000 in
set_option maxHeartbeats 1000000 in
theorem eqAction_el (a : ActionT) (hA : eqActionS_same_P a.A) (hB : eqActionS_same_P a.B) (u9 u10 v9 v10 : Value) (B B' : Nat) (w : World) (r9 : Rd w B (actions a.A) u9) (r10 : Rd w B (actions a.B) u10) (s9 : Rd w B' (actions a.A) v9) (s10 : Rd w B' (actions a.B) v10) (hBw : B ≤ w.heap.size) (hBw' : B' ≤ w.heap.size) :
    Calls Tryz.prog 23 #[.agg #[.int .i64 a.op, .int .i64 a.slot, .int .i64 a.other, .string a.word, .string a.call.method, .string a.call.key, .int .i64 a.call.value, .string a.call.text, .int .i64 a.face, u9, u10], .agg #[.int .i64 a.op, .int .i64 a.slot, .int .i64 a.other, .string a.word, .string a.call.method, .string a.call.key, .int .i64 a.call.value, .string a.call.text, .int .i64 a.face, v9, v10]] w fun e w' => e = .returned (.bool true) ∧ Chg [] w w' := by
  have HA := Lib.hid hA; have HB := Lib.hid hB; clear hA hB
  go_enter Tryz.func23, Tryz.ntmps23
  go_wp2_with fail
  refine (eqCall_el a.call  _  ).mono ?_; rintro e w1 ⟨rfl, c1⟩
  obtain ⟨y1, _, z1⟩ := c1.cells
  have d1 : Chg [] w w1 := Chg.trans0 (((Chg.refl _ _).alloc _).alloc _) c1
  have t1 : w.heap.size + 1 < w1.heap.size := by simp at z1; omega
  have t1' : w.heap.size < w1.heap.size := by omega
  go_wp2_with fail
  refine (HA.out u9 v9 B B' _ (r9.chg0 (d1) hBw) (s9.chg0 (d1) hBw') (by have := d1.size; omega) (by have := d1.size; omega)).mono ?_; rintro e w2 ⟨rfl, c2⟩
  obtain ⟨y2, _, z2⟩ := c2.cells
  have d2 : Chg [] w w2 := Chg.trans0 (d1) c2
  have t2 : w.heap.size + 1 < w2.heap.size := by omega
  have t2' : w.heap.size < w2.heap.size := by omega
  go_wp2_with fail
  refine (HB.out u10 v10 B B' _ (r10.chg0 (d2) hBw) (s10.chg0 (d2) hBw') (by have := d2.size; omega) (by have := d2.size; omega)).mono ?_; rintro e w3 ⟨rfl, c3⟩
  obtain ⟨y3, _, z3⟩ := c3.cells
  have d3 : Chg [] w w3 := Chg.trans0 (d2) c3
  have t3 : w.heap.size + 1 < w3.heap.size := by omega
  have t3' : w.heap.size < w3.heap.size := by omega
  go_wp2_with fail
  go_ret
  exact ⟨rfl, d3⟩

set_option maxRecDepth 100000 in
set_option maxHeartbeats 1000000 in
theorem eqActionS_same_all : ∀ l, eqActionS_same_P l := by
  refine ActionT.ind fun l ih => ?_
  intro u v B B' w hr hs hB hB'
  have IH := Lib.hid ih
  clear ih
  obtain ⟨A, cap, rfl, h0, h1, hrow⟩ := actions_row hr
  obtain ⟨A', cap', rfl, h0', h1', hrow'⟩ := actions_row hs
  unfold maxLen at h1 h1'
  clear hr hs
  go_enter Tryz.func10, Tryz.ntmps10
  go_wp2_with fail
  go_loopw [5] (fun i wr => ∃ k : Nat, k ≤ l.length ∧ i = .int .i64 k ∧ Chg [] w wr) (fun i _ => l.length - (intOf i).toNat)
  case atStart => exact ⟨0, Nat.zero_le _, rfl, Chg.refl _ _⟩
  case round =>
    obtain ⟨k, hk, rfl, hc⟩ := hrel
    by_cases hlt : k < l.length
    · obtain ⟨b, off, u9, u10, rfl, hb, q0, q1, q2, q3, q4, q5, q6, q7, q8, q9, q10, r9, r10⟩ := actions_cells (hrow.chg0 hc hB) k hlt
      obtain ⟨b', off', v9, v10, rfl, hb', p0, p1, p2, p3, p4, p5, p6, p7, p8, p9, p10, s9, s10⟩ := actions_cells (hrow'.chg0 hc hB') k hlt
      have el := fun W (hW : Chg [] wr W) => eqAction_el l[k] (IH.out _ (List.getElem_mem hlt)).1 (IH.out _ (List.getElem_mem hlt)).2 u9 u10 v9 v10 B B' W (r9.chg0 hW (by have := hc.size; omega)) (r10.chg0 hW (by have := hc.size; omega)) (s9.chg0 hW (by have := hc.size; omega)) (s10.chg0 hW (by have := hc.size; omega)) (by have := hc.size; have := hW.size; omega) (by have := hc.size; have := hW.size; omega)
      have EL := Lib.hid el
      clear el
      go_wp2_with fail
      go_still_tail 8, (by kernel_rfl)
      change wpList _ _ _ _ _ wr.drew
      go_wp2_with fail
      refine (EL.out _ ((Chg.refl _ _).drew)).mono ?_; rintro e w1 ⟨rfl, c1⟩
      go_wp2_with fail
      go_roundw
      case rel => exact ⟨k + 1, by omega, by go_num, hc.drew.trans0 c1⟩
      case measure => simp [intOf]; omega
    · obtain rfl : k = l.length := by omega
      go_wp2_with fail
      go_ret
      exact ⟨rfl, hc⟩

theorem eqActionS_same (l : List ActionT) (u v : Value) (B B' : Nat) (w : World) (hr : Rd w B (actions l) u) (hs : Rd w B' (actions l) v) (hB : B ≤ w.heap.size) (hB' : B' ≤ w.heap.size) :
    Calls Tryz.prog 10 #[u, v] w fun e w' => e = .returned (.bool true) ∧ Chg [] w w' := eqActionS_same_all l u v B B' w hr hs hB hB'

end Go.Proofs.YtgnggiibhkphjaaGreatDoor
