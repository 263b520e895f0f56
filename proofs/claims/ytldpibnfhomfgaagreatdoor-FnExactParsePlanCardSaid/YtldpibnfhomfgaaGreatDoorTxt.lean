/- The texts of actions and plans, in plain Lean. -/
import Derived.Test.YtldpibnfhomfgaaGreatDoorActOks
import Derived.Test.YtldpibnfhomfgaaGreatDoorCallT
import Derived.Test.YtldpibnfhomfgaaGreatDoorFaceT
namespace Go.Proofs.YtldpibnfhomfgaaGreatDoor
open Go.RowKit

/-- The words of the kinds of actions. -/
def planWordsL : List ByteArray := [⟨#[]⟩, ⟨#[109, 97, 107, 101]⟩, ⟨#[119, 114, 97, 112]⟩, ⟨#[117, 110, 119, 114, 97, 112]⟩, ⟨#[99, 111, 112, 121]⟩, ⟨#[100, 114, 111, 112]⟩, ⟨#[97, 115, 107]⟩, ⟨#[99, 97, 108, 108]⟩, ⟨#[105, 102]⟩, ⟨#[108, 111, 111, 112]⟩, ⟨#[116, 114, 121]⟩]
def wordT (op : Int) : ByteArray := planWordsL.getD op.toNat ⟨#[]⟩
/-- A block, as the program writes it. -/
def blkT : List ByteArray → ByteArray
  | [] => ⟨#[123, 32, 125]⟩
  | x :: r => ⟨#[123, 32]⟩ ++ joinB (x :: r) ⟨#[59, 32]⟩ ++ ⟨#[32, 125]⟩
/-- What is in a block, as the reference writes it. -/
def bodyT : List ByteArray → ByteArray
  | [] => ⟨#[]⟩
  | x :: r => joinB (x :: r) ⟨#[59, 32]⟩ ++ ⟨#[32]⟩
mutual
noncomputable def ActionT.txt : ActionT → ByteArray
  | .mk op slot other word call face A B =>
    if op = 1 ∨ op = 2 then wordT op ++ ⟨#[32]⟩ ++ numT slot ++ ⟨#[32]⟩ ++ word
    else if op = 4 then wordT op ++ ⟨#[32]⟩ ++ numT slot ++ ⟨#[32, 102, 114, 111, 109, 32]⟩ ++ numT other
    else if op = 6 then wordT op ++ ⟨#[32]⟩ ++ numT slot ++ ⟨#[32]⟩ ++ faceT face
    else if op = 7 then wordT op ++ ⟨#[32]⟩ ++ numT slot ++ ⟨#[32]⟩ ++ callT call
    else if op = 8 ∨ op = 10 then wordT op ++ ⟨#[32]⟩ ++ blkT (txtL A) ++ ⟨#[32, 101, 108, 115, 101, 32]⟩ ++ blkT (txtL B)
    else if op = 9 then wordT op ++ ⟨#[32]⟩ ++ blkT (txtL A)
    else wordT op ++ ⟨#[32]⟩ ++ numT slot
noncomputable def txtL : List ActionT → List ByteArray
  | [] => []
  | a :: l => a.txt :: txtL l
end
theorem txtL_map : ∀ l : List ActionT, txtL l = l.map ActionT.txt
  | [] => by rw [txtL]; rfl
  | a :: l => by rw [txtL, txtL_map l]; rfl
theorem txt_1 {a : ActionT} (h : a.op = 1 ∨ a.op = 2) : a.txt = wordT a.op ++ ⟨#[32]⟩ ++ numT a.slot ++ ⟨#[32]⟩ ++ a.word := by
  cases a; rw [ActionT.txt]; exact if_pos h
theorem txt_4 {a : ActionT} (h : a.op = 4) : a.txt = wordT a.op ++ ⟨#[32]⟩ ++ numT a.slot ++ ⟨#[32, 102, 114, 111, 109, 32]⟩ ++ numT a.other := by
  cases a with | mk op slot other word call face A B =>
  have h : op = 4 := h
  rw [ActionT.txt, if_neg (by omega), if_pos h]; rfl
theorem txt_6 {a : ActionT} (h : a.op = 6) : a.txt = wordT a.op ++ ⟨#[32]⟩ ++ numT a.slot ++ ⟨#[32]⟩ ++ faceT a.face := by
  cases a with | mk op slot other word call face A B =>
  have h : op = 6 := h
  rw [ActionT.txt, if_neg (by omega), if_neg (by omega), if_pos h]; rfl
theorem txt_7 {a : ActionT} (h : a.op = 7) : a.txt = wordT a.op ++ ⟨#[32]⟩ ++ numT a.slot ++ ⟨#[32]⟩ ++ callT a.call := by
  cases a with | mk op slot other word call face A B =>
  have h : op = 7 := h
  rw [ActionT.txt, if_neg (by omega), if_neg (by omega), if_neg (by omega), if_pos h]; rfl
theorem txt_8 {a : ActionT} (h : a.op = 8 ∨ a.op = 10) : a.txt = wordT a.op ++ ⟨#[32]⟩ ++ blkT (txtL a.A) ++ ⟨#[32, 101, 108, 115, 101, 32]⟩ ++ blkT (txtL a.B) := by
  cases a with | mk op slot other word call face A B =>
  have h : op = 8 ∨ op = 10 := h
  rw [ActionT.txt, if_neg (by omega), if_neg (by omega), if_neg (by omega), if_neg (by omega), if_pos h]; rfl
theorem txt_9 {a : ActionT} (h : a.op = 9) : a.txt = wordT a.op ++ ⟨#[32]⟩ ++ blkT (txtL a.A) := by
  cases a with | mk op slot other word call face A B =>
  have h : op = 9 := h
  rw [ActionT.txt, if_neg (by omega), if_neg (by omega), if_neg (by omega), if_neg (by omega), if_neg (by omega), if_pos h]; rfl
theorem txt_3 {a : ActionT} (h : a.op = 3 ∨ a.op = 5) : a.txt = wordT a.op ++ ⟨#[32]⟩ ++ numT a.slot := by
  cases a with | mk op slot other word call face A B =>
  have h : op = 3 ∨ op = 5 := h
  rw [ActionT.txt, if_neg (by omega), if_neg (by omega), if_neg (by omega), if_neg (by omega), if_neg (by omega), if_neg (by omega)]; rfl
theorem wordT_size {op : Int} : (wordT op).size ≤ 6 := by
  unfold wordT planWordsL
  generalize op.toNat = k
  match k with
  | 0 | 1 | 2 | 3 | 4 | 5 | 6 | 7 | 8 | 9 | 10 => decide
  | k + 11 => exact Nat.zero_le _
theorem blkT_size (l : List ByteArray) : (blkT l).size ≤ 4 + 2 * l.length + strsW1 l := by
  cases l with
  | nil => exact Nat.le_add_right 4 _ |> Nat.le_trans (by decide)
  | cons x r =>
    unfold blkT
    rw [ByteArray.size_append, ByteArray.size_append, joinB_size]
    have e1 : (⟨#[123, 32]⟩ : ByteArray).size = 2 := rfl
    have e2 : (⟨#[32, 125]⟩ : ByteArray).size = 2 := rfl
    have e3 : (⟨#[59, 32]⟩ : ByteArray).size = 2 := rfl
    rw [e1, e2, e3]
    simp only [List.length_cons]
    omega
theorem bodyT_size (l : List ByteArray) : (bodyT l).size ≤ 4 + 2 * l.length + strsW1 l := by
  cases l with
  | nil => exact Nat.zero_le _
  | cons x r =>
    unfold bodyT
    rw [ByteArray.size_append, joinB_size]
    have e2 : (⟨#[32]⟩ : ByteArray).size = 1 := rfl
    have e3 : (⟨#[59, 32]⟩ : ByteArray).size = 2 := rfl
    rw [e2, e3]
    simp only [List.length_cons]
    omega
/-- How long texts are. -/
def TxtB (l : List ActionT) : Prop := okL l → strsW1 (txtL l) ≤ 4194304 * sizeL l + 2 * actionsW1 l
theorem txtL_len (l : List ActionT) : (txtL l).length = l.length := by rw [txtL_map, List.length_map]
theorem txt_size (a : ActionT) (hA : TxtB a.A) (hB : TxtB a.B) (hok : a.ok) : a.txt.size ≤ 4194304 * a.size + 2 * actionW a := by
  have ho := (a.ok_iff).1 hok
  have bA := hA ho.2.1
  have bB := hB ho.2.2
  have w := wordT_size (op := a.op)
  have es := a.size_eq
  have ew := actionW_eq a
  have sl := ok_slot hok
  have ns := numT_size (n := a.slot) (by have := sl.1; omega) (by have := sl.2; omega)
  have e1 : (⟨#[32]⟩ : ByteArray).size = 1 := rfl
  have e2 : (⟨#[32, 102, 114, 111, 109, 32]⟩ : ByteArray).size = 6 := rfl
  have e3 : (⟨#[32, 101, 108, 115, 101, 32]⟩ : ByteArray).size = 6 := rfl
  have kA := blkT_size (txtL a.A)
  have kB := blkT_size (txtL a.B)
  rw [txtL_len] at kA kB
  unfold actionsW at ew
  rcases op_cases a.op with (h | h | h | h | h | h | h | h | h | h) | h
  · rw [txt_1 (.inl h)]; simp only [ByteArray.size_append]; omega
  · rw [txt_1 (.inr h)]; simp only [ByteArray.size_append]; omega
  · rw [txt_3 (.inl h)]; simp only [ByteArray.size_append]; omega
  · have so := ((okS_4 h).1 hok).2.1
    have no := numT_size (n := a.other) (by have := so.1; omega) (by have := so.2; omega)
    rw [txt_4 h]; simp only [ByteArray.size_append]; omega
  · rw [txt_3 (.inr h)]; simp only [ByteArray.size_append]; omega
  · have := faceT_size a.face
    rw [txt_6 h]; simp only [ByteArray.size_append]; omega
  · have := callT_size (x := a.call)
    rw [txt_7 h]; simp only [ByteArray.size_append]; omega
  · rw [txt_8 (.inl h)]; simp only [ByteArray.size_append]; omega
  · rw [txt_9 h]; simp only [ByteArray.size_append]; omega
  · rw [txt_8 (.inr h)]; simp only [ByteArray.size_append]; omega
  · exact absurd (ok_op hok) h.1
theorem txtB_all : ∀ l, TxtB l := by
  refine ActionT.ind fun l ih => ?_
  intro hok
  have each : ∀ a ∈ l, a.txt.size ≤ 4194304 * a.size + 2 * actionW a := fun a ha => txt_size a (ih a ha).1 (ih a ha).2 ((okL_iff l).1 hok a ha)
  clear ih hok
  induction l with
  | nil => simp [txtL, strsW1, sizeL]
  | cons a l ihl =>
    have h1 := each a (by simp)
    have h2 := ihl (fun b hb => each b (by simp [hb]))
    rw [txtL, sizeL]
    unfold strsW1 actionsW1 at *
    simp only [List.map_cons, List.sum_cons]
    omega
/-- A plan's texts are short enough to be joined. -/
theorem plan_small {l : List ActionT} (hok : okL l) (hs : sizeL l ≤ 14) (hW : actionsW l ≤ 1048576) : strsW1 (txtL l) ≤ 67108864 ∧ l.length ≤ 14 := by
  have h1 := txtB_all l hok
  have h2 : actionsW1 l ≤ actionsW l := by unfold actionsW; omega
  refine ⟨by omega, ?_⟩
  have : ∀ m : List ActionT, m.length ≤ sizeL m := by
    intro m
    induction m with
    | nil => exact Nat.zero_le _
    | cons a m ih => rw [sizeL]; have := a.size_eq; simp; omega
  have := this l
  omega
end Go.Proofs.YtldpibnfhomfgaaGreatDoor
