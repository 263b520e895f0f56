/- Call: as plain data; the walks of its size, copy, equality, marks. Written by a program. / Action: as plain data; the walks of its size, copy, equality, marks. Written by a program. -/
import Derived.Test.YtkgffhlpcjjobaaGreatDoorGround
import Derived.StillTailTactics
import Derived.Deep.RegionHeld3
namespace Go.Proofs.YtkgffhlpcjjobaaGreatDoor
open Go.RowKit

structure CallT where
  method : ByteArray
  key : ByteArray
  value : Int
  text : ByteArray
def callF (a : CallT) : List Dat := [.v (.string a.method)] ++ ([.v (.string a.key)] ++ ([.v (.int .i64 a.value)] ++ [.v (.string a.text)]))
theorem callF_eq (a : CallT) : callF a = [.v (.string a.method), .v (.string a.key), .v (.int .i64 a.value), .v (.string a.text)] := rfl
theorem callF_len (a : CallT) : (callF a).length = 4 := rfl
def calls (l : List CallT) : Dat := .s l.length (l.flatMap callF)
theorem calls_row {w : World} {B : Nat} {l : List CallT} {u : Value} (h : Rd w B (calls l) u) : ∃ A cap, u = .slice A l.length cap ∧ l.length ≤ cap ∧ cap ≤ maxLen ∧ RowAt w B callF 4 l A := h.row callF_len (by omega)
theorem calls_cells {w : World} {B : Nat} {l : List CallT} {A : Option Addr} (h : RowAt w B callF 4 l A) (k : Nat) (hk : k < l.length) : ∃ b off, A = some ⟨b, off, none⟩ ∧ b < B ∧ w.cell? ⟨b, off + k * 4, none⟩ = some (.string (l[k].method)) ∧ w.cell? ⟨b, off + k * 4 + 1, none⟩ = some (.string (l[k].key)) ∧ w.cell? ⟨b, off + k * 4 + 2, none⟩ = some (.int .i64 (l[k].value)) ∧ w.cell? ⟨b, off + k * 4 + 3, none⟩ = some (.string (l[k].text)) := by
  obtain ⟨b, off, e, hb, hx⟩ := h k hk
  rw [callF_eq] at hx
  obtain ⟨v0, e0, d0⟩ := hx 0 _ rfl
  obtain ⟨v1, e1, d1⟩ := hx 1 _ rfl
  obtain ⟨v2, e2, d2⟩ := hx 2 _ rfl
  obtain ⟨v3, e3, d3⟩ := hx 3 _ rfl
  rw [Rd] at d0 d1 d2 d3
  subst d0 d1 d2 d3
  exact ⟨b, off, e, hb, by simpa using e0, e1, e2, e3⟩

def callW (a : CallT) : Nat := a.method.size + a.key.size + a.text.size
def callsW1 (l : List CallT) : Nat := (l.map callW).sum
def callsW (l : List CallT) : Nat := l.length + callsW1 l
theorem callsW_mem {l : List CallT} {a : CallT} (h : a ∈ l) : callW a ≤ callsW1 l := sum_mem callW h
def callN (_ : CallT) : Nat := 4
def callM (_ : CallT) (k : Int) : CallT := ⟨(mt (k)), (mt (k + 1)), (k + 1 + 1), (mt (k + 1 + 1 + 1))⟩
def callsN (l : List CallT) : Nat := (l.map callN).sum
def callsM (l : List CallT) (k : Int) : List CallT := mapK callM callN l k
theorem call_info : (Tryz.prog.info? 36).map (fun i => (i.zero, i.size, i.bytes)) = some (some (.agg #[.string ⟨#[]⟩, .string ⟨#[]⟩, .int .i64 0, .string ⟨#[]⟩]), 4, 56) := by kernel_rfl
end Go.Proofs.YtkgffhlpcjjobaaGreatDoor
namespace Go.Proofs.YtkgffhlpcjjobaaGreatDoor
open Go.RowKit

inductive ActionT where
  | mk (op : Int) (slot : Int) (other : Int) (word : ByteArray) (call : CallT) (face : Int) (A : List ActionT) (B : List ActionT)
def ActionT.op : ActionT → Int | .mk op _ _ _ _ _ _ _ => op
def ActionT.slot : ActionT → Int | .mk _ slot _ _ _ _ _ _ => slot
def ActionT.other : ActionT → Int | .mk _ _ other _ _ _ _ _ => other
def ActionT.word : ActionT → ByteArray | .mk _ _ _ word _ _ _ _ => word
def ActionT.call : ActionT → CallT | .mk _ _ _ _ call _ _ _ => call
def ActionT.face : ActionT → Int | .mk _ _ _ _ _ face _ _ => face
def ActionT.A : ActionT → List ActionT | .mk _ _ _ _ _ _ A _ => A
def ActionT.B : ActionT → List ActionT | .mk _ _ _ _ _ _ _ B => B
mutual
def actionF : ActionT → List Dat
  | .mk op slot other word call face A B => [.v (.int .i64 op), .v (.int .i64 slot), .v (.int .i64 other), .v (.string word), .v (.string call.method), .v (.string call.key), .v (.int .i64 call.value), .v (.string call.text), .v (.int .i64 face), .s A.length (actionF1 A), .s B.length (actionF1 B)]
def actionF1 : List ActionT → List Dat
  | [] => []
  | a :: l => actionF a ++ actionF1 l
end
theorem actionF1_eq : ∀ l : List ActionT, actionF1 l = l.flatMap actionF
  | [] => by rw [actionF1]; rfl
  | a :: l => by rw [actionF1, actionF1_eq l, List.flatMap_cons]
def actions (l : List ActionT) : Dat := .s l.length (l.flatMap actionF)
theorem actionF_eq (a : ActionT) : actionF a = [.v (.int .i64 a.op), .v (.int .i64 a.slot), .v (.int .i64 a.other), .v (.string a.word), .v (.string a.call.method), .v (.string a.call.key), .v (.int .i64 a.call.value), .v (.string a.call.text), .v (.int .i64 a.face), actions a.A, actions a.B] := by
  cases a with
  | mk op slot other word call face A B => rw [actionF, actionF1_eq, actionF1_eq]; rfl
theorem actionF_len (a : ActionT) : (actionF a).length = 11 := by rw [actionF_eq]; rfl
theorem actionF_parts (a : ActionT) : actionF a = [.v (.int .i64 a.op)] ++ ([.v (.int .i64 a.slot)] ++ ([.v (.int .i64 a.other)] ++ ([.v (.string a.word)] ++ (callF a.call ++ ([.v (.int .i64 a.face)] ++ ([actions a.A] ++ [actions a.B])))))) := by rw [actionF_eq]; rfl
mutual
/-- How many actions there are. -/
def ActionT.size : ActionT → Nat
  | .mk _ _ _ _ _ _ A B => 1 + sizeL A + sizeL B
def sizeL : List ActionT → Nat
  | [] => 0
  | a :: l => a.size + sizeL l
end
theorem ActionT.size_eq (a : ActionT) : a.size = 1 + sizeL a.A + sizeL a.B := by
  cases a; rw [ActionT.size]; rfl
theorem sizeL_mem : ∀ {l : List ActionT} {a : ActionT}, a ∈ l → a.size ≤ sizeL l
  | b :: l, a, h => by
    rw [sizeL]
    rcases List.mem_cons.1 h with rfl | h
    · omega
    · have := sizeL_mem h; omega
/-- What holds of a list as soon as it holds of the lists in its elements holds of all lists. -/
theorem ActionT.ind {P : List ActionT → Prop} (h : ∀ l, (∀ a ∈ l, P a.A ∧ P a.B) → P l) (l : List ActionT) : P l := by
  have key : ∀ n, ∀ l, sizeL l ≤ n → P l := by
    intro n
    induction n with
    | zero =>
      intro l hl
      refine h l fun a ha => ?_
      have := sizeL_mem ha
      have := a.size_eq
      omega
    | succ n ih =>
      intro l hl
      refine h l fun a ha => ?_
      have := sizeL_mem ha
      have := a.size_eq
      exact ⟨ih _ (by omega), ih _ (by omega)⟩
  exact key _ l (Nat.le_refl _)
mutual
def actionW : ActionT → Nat
  | .mk _ _ _ word call _ A B => word.size + callW call + (A.length + actionW1 A) + (B.length + actionW1 B)
def actionW1 : List ActionT → Nat
  | [] => 0
  | a :: l => actionW a + actionW1 l
end
theorem actionW1_eq : ∀ l : List ActionT, actionW1 l = (l.map actionW).sum
  | [] => by rw [actionW1]; rfl
  | a :: l => by rw [actionW1, actionW1_eq l]; rfl
def actionsW1 (l : List ActionT) : Nat := (l.map actionW).sum
def actionsW (l : List ActionT) : Nat := l.length + actionsW1 l
theorem actionW_eq (a : ActionT) : actionW a = a.word.size + callW a.call + actionsW a.A + actionsW a.B := by
  cases a; rw [actionW, actionW1_eq, actionW1_eq]; rfl
theorem actionsW_mem {l : List ActionT} {a : ActionT} (h : a ∈ l) : actionW a ≤ actionsW1 l := sum_mem actionW h
mutual
def actionN : ActionT → Nat
  | .mk _ _ _ _ _ _ A B => 9 + actionN1 A + actionN1 B
def actionN1 : List ActionT → Nat
  | [] => 0
  | a :: l => actionN a + actionN1 l
end
theorem actionN1_eq : ∀ l : List ActionT, actionN1 l = (l.map actionN).sum
  | [] => by rw [actionN1]; rfl
  | a :: l => by rw [actionN1, actionN1_eq l]; rfl
def actionsN (l : List ActionT) : Nat := (l.map actionN).sum
theorem actionN_eq (a : ActionT) : actionN a = 9 + actionsN a.A + actionsN a.B := by
  cases a; rw [actionN, actionN1_eq, actionN1_eq]; rfl
mutual
def actionM : ActionT → Int → ActionT
  | .mk _ _ _ _ _ _ A B, k => .mk (k) (k + 1) (k + 1 + 1) (mt (k + 1 + 1 + 1)) ⟨(mt (k + 1 + 1 + 1 + 1)), (mt (k + 1 + 1 + 1 + 1 + 1)), (k + 1 + 1 + 1 + 1 + 1 + 1), (mt (k + 1 + 1 + 1 + 1 + 1 + 1 + 1))⟩ (k + 1 + 1 + 1 + 1 + 1 + 1 + 1 + 1) (actionM1 A (k + 1 + 1 + 1 + 1 + 1 + 1 + 1 + 1 + 1)) (actionM1 B (k + 1 + 1 + 1 + 1 + 1 + 1 + 1 + 1 + 1 + actionN1 A))
def actionM1 : List ActionT → Int → List ActionT
  | [], _ => []
  | a :: l, k => actionM a k :: actionM1 l (k + actionN a)
end
theorem actionM1_eq : ∀ (l : List ActionT) (k : Int), actionM1 l k = mapK actionM actionN l k
  | [], _ => by rw [actionM1]; rfl
  | a :: l, k => by rw [actionM1, actionM1_eq l]; rfl
def actionsM (l : List ActionT) (k : Int) : List ActionT := mapK actionM actionN l k
theorem actionM_eq (a : ActionT) (k : Int) : actionM a k = .mk (k) (k + 1) (k + 1 + 1) (mt (k + 1 + 1 + 1)) ⟨(mt (k + 1 + 1 + 1 + 1)), (mt (k + 1 + 1 + 1 + 1 + 1)), (k + 1 + 1 + 1 + 1 + 1 + 1), (mt (k + 1 + 1 + 1 + 1 + 1 + 1 + 1))⟩ (k + 1 + 1 + 1 + 1 + 1 + 1 + 1 + 1) (actionsM a.A (k + 1 + 1 + 1 + 1 + 1 + 1 + 1 + 1 + 1)) (actionsM a.B (k + 1 + 1 + 1 + 1 + 1 + 1 + 1 + 1 + 1 + actionsN a.A)) := by
  cases a; rw [actionM, actionM1_eq, actionM1_eq, actionN1_eq]; rfl
theorem actionM_F (a : ActionT) (k : Int) : actionF (actionM a k) = [.v (.int .i64 (k)), .v (.int .i64 (k + 1)), .v (.int .i64 (k + 1 + 1)), .v (.string (mt (k + 1 + 1 + 1))), .v (.string (mt (k + 1 + 1 + 1 + 1))), .v (.string (mt (k + 1 + 1 + 1 + 1 + 1))), .v (.int .i64 (k + 1 + 1 + 1 + 1 + 1 + 1)), .v (.string (mt (k + 1 + 1 + 1 + 1 + 1 + 1 + 1))), .v (.int .i64 (k + 1 + 1 + 1 + 1 + 1 + 1 + 1 + 1)), actions (actionsM a.A (k + 1 + 1 + 1 + 1 + 1 + 1 + 1 + 1 + 1)), actions (actionsM a.B (k + 1 + 1 + 1 + 1 + 1 + 1 + 1 + 1 + 1 + actionsN a.A))] := by rw [actionM_eq, actionF_eq]; rfl
theorem actions_row {w : World} {B : Nat} {l : List ActionT} {u : Value} (h : Rd w B (actions l) u) : ∃ A cap, u = .slice A l.length cap ∧ l.length ≤ cap ∧ cap ≤ maxLen ∧ RowAt w B actionF 11 l A := h.row actionF_len (by omega)
theorem actions_cells {w : World} {B : Nat} {l : List ActionT} {A : Option Addr} (h : RowAt w B actionF 11 l A) (k : Nat) (hk : k < l.length) : ∃ b off u9 u10, A = some ⟨b, off, none⟩ ∧ b < B ∧ w.cell? ⟨b, off + k * 11, none⟩ = some (.int .i64 (l[k].op)) ∧ w.cell? ⟨b, off + k * 11 + 1, none⟩ = some (.int .i64 (l[k].slot)) ∧ w.cell? ⟨b, off + k * 11 + 2, none⟩ = some (.int .i64 (l[k].other)) ∧ w.cell? ⟨b, off + k * 11 + 3, none⟩ = some (.string (l[k].word)) ∧ w.cell? ⟨b, off + k * 11 + 4, none⟩ = some (.string (l[k].call.method)) ∧ w.cell? ⟨b, off + k * 11 + 5, none⟩ = some (.string (l[k].call.key)) ∧ w.cell? ⟨b, off + k * 11 + 6, none⟩ = some (.int .i64 (l[k].call.value)) ∧ w.cell? ⟨b, off + k * 11 + 7, none⟩ = some (.string (l[k].call.text)) ∧ w.cell? ⟨b, off + k * 11 + 8, none⟩ = some (.int .i64 (l[k].face)) ∧ w.cell? ⟨b, off + k * 11 + 9, none⟩ = some u9 ∧ w.cell? ⟨b, off + k * 11 + 10, none⟩ = some u10 ∧ Rd w B (actions (l[k].A)) u9 ∧ Rd w B (actions (l[k].B)) u10 := by
  obtain ⟨b, off, e, hb, hx⟩ := h k hk
  rw [actionF_eq] at hx
  obtain ⟨v0, e0, d0⟩ := hx 0 _ rfl
  obtain ⟨v1, e1, d1⟩ := hx 1 _ rfl
  obtain ⟨v2, e2, d2⟩ := hx 2 _ rfl
  obtain ⟨v3, e3, d3⟩ := hx 3 _ rfl
  obtain ⟨v4, e4, d4⟩ := hx 4 _ rfl
  obtain ⟨v5, e5, d5⟩ := hx 5 _ rfl
  obtain ⟨v6, e6, d6⟩ := hx 6 _ rfl
  obtain ⟨v7, e7, d7⟩ := hx 7 _ rfl
  obtain ⟨v8, e8, d8⟩ := hx 8 _ rfl
  obtain ⟨v9, e9, d9⟩ := hx 9 _ rfl
  obtain ⟨v10, e10, d10⟩ := hx 10 _ rfl
  rw [Rd] at d0 d1 d2 d3 d4 d5 d6 d7 d8
  subst d0 d1 d2 d3 d4 d5 d6 d7 d8
  exact ⟨b, off, v9, v10, e, hb, by simpa using e0, e1, e2, e3, e4, e5, e6, e7, e8, e9, e10, d9, d10⟩

theorem action_info : (Tryz.prog.info? 38).map (fun i => (i.zero, i.size, i.bytes)) = some (some (.agg #[.int .i64 0, .int .i64 0, .int .i64 0, .string ⟨#[]⟩, .string ⟨#[]⟩, .string ⟨#[]⟩, .int .i64 0, .string ⟨#[]⟩, .int .i64 0, .slice none 0 0, .slice none 0 0]), 11, 152) := by kernel_rfl
end Go.Proofs.YtkgffhlpcjjobaaGreatDoor
