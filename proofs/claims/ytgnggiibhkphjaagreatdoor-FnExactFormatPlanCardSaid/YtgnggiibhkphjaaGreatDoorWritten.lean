/- strings.Builder: the shelf's closures at this program. Written by a program. / strings.Join, and JoinWith of the program and of the reference: the texts, one behind the other, with the separator between. Conditions: bounds on the lengths. / The text of a face: FormatFace of both packages. Conditions: for the program's, the names of the abilities stand in their variable. / The text of a call: FormatCall of both packages. Conditions: for the program's, the library's variables stand. / The texts of actions and plans, in plain Lean. / l8Line of the reference, by kinds of actions. Written by a program. / actionText of the program, by kinds of actions. Written by a program. / l8Text and FormatPlan of the reference. Written by a program. / blockText, planText and FormatPlan of the program. Written by a program. Conditions: the library's and the program's variables stand. / FnExactFormatPlan: the walk of the law. Conditions: the library's and the program's variables stand. Written by a program. -/
import Derived.Shelf.Strings.Builder1
import Derived.Shelf.Strings.Builder2
import Derived.Test.YtgnggiibhkphjaaGreatDoorProg
import Derived.Test.YtgnggiibhkphjaaGreatDoorStrs
import Derived.Lib.Join
import Derived.BigCall
import Derived.BigGuard
import Derived.Test.YtgnggiibhkphjaaGreatDoorFaces
import Derived.Test.YtgnggiibhkphjaaGreatDoorNumT
import Derived.Test.YtgnggiibhkphjaaGreatDoorApp
import Derived.Test.YtgnggiibhkphjaaGreatDoorCallR
import Derived.Test.YtgnggiibhkphjaaGreatDoorNumQ
import Derived.Deep.RegionHeld3
import Derived.Test.YtgnggiibhkphjaaGreatDoorOkS
import Derived.Test.YtgnggiibhkphjaaGreatDoorPlanOk
namespace Go.Proofs.YtgnggiibhkphjaaGreatDoor
open Go.Shelf
def lays165_ren : Go.Shelf.Ren := ⟨fun | 165 => 76 | 240 => 90 | 241 => 91 | 276 => 101 | 277 => 102 | n => n, fun | 0 => 0 | 3 => 3 | 4 => 4 | 5 => 5 | 9 => 9 | 20 => 20 | 37 => 64 | 70 => 78 | 72 => 80 | 75 => 83 | 80 => 86 | 127 => 91 | 164 => 97 | n => n, fun | n => n⟩
theorem lays165 : Go.Proofs.Lays.n165 Tryz.prog lays165_ren := {
  mixed := by kernel_rfl
  f165 := Tryz.func76.trans (congrArg some (by kernel_rfl))
  f240 := Tryz.func90.trans (congrArg some (by kernel_rfl))
  f241 := Tryz.func91.trans (congrArg some (by kernel_rfl))
  f276 := Tryz.func101.trans (congrArg some (by kernel_rfl))
  f277 := Tryz.func102.trans (congrArg some (by kernel_rfl))
  t0 := Tryz.underlying0
  a0 := Tryz.isAgg0
  z0 := Tryz.sizeOf0
  v0 := Tryz.zeroValue0
  t3 := Tryz.underlying3
  a3 := Tryz.isAgg3
  z3 := Tryz.sizeOf3
  v3 := Tryz.zeroValue3
  t4 := Tryz.underlying4
  a4 := Tryz.isAgg4
  z4 := Tryz.sizeOf4
  v4 := Tryz.zeroValue4
  t9 := Tryz.underlying9
  a9 := Tryz.isAgg9
  z9 := Tryz.sizeOf9
  v9 := Tryz.zeroValue9
  t20 := Tryz.underlying20
  a20 := Tryz.isAgg20
  z20 := Tryz.sizeOf20
  v20 := Tryz.zeroValue20
  t37 := Tryz.underlying64
  a37 := Tryz.isAgg64
  z37 := Tryz.sizeOf64
  v37 := Tryz.zeroValue64
  t70 := Tryz.underlying78
  a70 := Tryz.isAgg78
  z70 := Tryz.sizeOf78
  v70 := Tryz.zeroValue78
  t72 := Tryz.underlying80
  a72 := Tryz.isAgg80
  z72 := Tryz.sizeOf80
  v72 := Tryz.zeroValue80
  t164 := Tryz.underlying97
  a164 := Tryz.isAgg97
  z164 := Tryz.sizeOf97
  v164 := Tryz.zeroValue97 }
theorem extra165 : Builder.Extra Tryz.prog lays165_ren := {
  sizeBuilder := by kernel_rfl
  liesBuilder := by kernel_rfl
  t5 := Tryz.underlying5
  a5 := Tryz.isAgg5
  z5 := Tryz.sizeOf5
  v5 := Tryz.zeroValue5
  infoByte := by kernel_rfl
  cellsByte := by kernel_rfl
  sizeByte := by kernel_rfl
  neB5 := by decide }
def lays166_ren : Go.Shelf.Ren := ⟨fun | 166 => 77 | 240 => 90 | 276 => 101 | n => n, fun | 0 => 0 | 3 => 3 | 4 => 4 | 5 => 5 | 9 => 9 | 20 => 20 | 37 => 64 | 70 => 78 | 72 => 80 | 75 => 83 | 80 => 86 | 127 => 91 | 164 => 97 | n => n, fun | n => n⟩
theorem lays166 : Go.Proofs.Lays.n166 Tryz.prog lays166_ren := {
  mixed := by kernel_rfl
  f166 := Tryz.func77.trans (congrArg some (by kernel_rfl))
  f240 := Tryz.func90.trans (congrArg some (by kernel_rfl))
  f276 := Tryz.func101.trans (congrArg some (by kernel_rfl))
  t0 := Tryz.underlying0
  a0 := Tryz.isAgg0
  z0 := Tryz.sizeOf0
  v0 := Tryz.zeroValue0
  t3 := Tryz.underlying3
  a3 := Tryz.isAgg3
  z3 := Tryz.sizeOf3
  v3 := Tryz.zeroValue3
  t4 := Tryz.underlying4
  a4 := Tryz.isAgg4
  z4 := Tryz.sizeOf4
  v4 := Tryz.zeroValue4
  t9 := Tryz.underlying9
  a9 := Tryz.isAgg9
  z9 := Tryz.sizeOf9
  v9 := Tryz.zeroValue9
  t20 := Tryz.underlying20
  a20 := Tryz.isAgg20
  z20 := Tryz.sizeOf20
  v20 := Tryz.zeroValue20
  t37 := Tryz.underlying64
  a37 := Tryz.isAgg64
  z37 := Tryz.sizeOf64
  v37 := Tryz.zeroValue64
  t70 := Tryz.underlying78
  a70 := Tryz.isAgg78
  z70 := Tryz.sizeOf78
  v70 := Tryz.zeroValue78
  t72 := Tryz.underlying80
  a72 := Tryz.isAgg80
  z72 := Tryz.sizeOf80
  v72 := Tryz.zeroValue80
  t75 := Tryz.underlying83
  a75 := Tryz.isAgg83
  z75 := Tryz.sizeOf83
  v75 := Tryz.zeroValue83
  t164 := Tryz.underlying97
  a164 := Tryz.isAgg97
  z164 := Tryz.sizeOf97
  v164 := Tryz.zeroValue97 }
theorem extra166 : Builder.Extra Tryz.prog lays166_ren := {
  sizeBuilder := by kernel_rfl
  liesBuilder := by kernel_rfl
  t5 := Tryz.underlying5
  a5 := Tryz.isAgg5
  z5 := Tryz.sizeOf5
  v5 := Tryz.zeroValue5
  infoByte := by kernel_rfl
  cellsByte := by kernel_rfl
  sizeByte := by kernel_rfl
  neB5 := by decide }
def lays169_ren : Go.Shelf.Ren := ⟨fun | 169 => 78 | n => n, fun | 0 => 0 | 3 => 3 | 4 => 4 | 5 => 5 | 9 => 9 | 20 => 20 | 37 => 64 | 70 => 78 | 72 => 80 | 75 => 83 | 80 => 86 | 127 => 91 | 164 => 97 | n => n, fun | n => n⟩
theorem lays169 : Go.Proofs.Lays.n169 Tryz.prog lays169_ren := {
  mixed := by kernel_rfl
  f169 := Tryz.func78.trans (congrArg some (by kernel_rfl))
  t0 := Tryz.underlying0
  a0 := Tryz.isAgg0
  z0 := Tryz.sizeOf0
  v0 := Tryz.zeroValue0
  t3 := Tryz.underlying3
  a3 := Tryz.isAgg3
  z3 := Tryz.sizeOf3
  v3 := Tryz.zeroValue3
  t9 := Tryz.underlying9
  a9 := Tryz.isAgg9
  z9 := Tryz.sizeOf9
  v9 := Tryz.zeroValue9
  t37 := Tryz.underlying64
  a37 := Tryz.isAgg64
  z37 := Tryz.sizeOf64
  v37 := Tryz.zeroValue64
  t70 := Tryz.underlying78
  a70 := Tryz.isAgg78
  z70 := Tryz.sizeOf78
  v70 := Tryz.zeroValue78
  t72 := Tryz.underlying80
  a72 := Tryz.isAgg80
  z72 := Tryz.sizeOf80
  v72 := Tryz.zeroValue80
  t127 := Tryz.underlying91
  a127 := Tryz.isAgg91
  z127 := Tryz.sizeOf91
  v127 := Tryz.zeroValue91 }
theorem extra169 : Builder.Extra Tryz.prog lays169_ren := {
  sizeBuilder := by kernel_rfl
  liesBuilder := by kernel_rfl
  t5 := Tryz.underlying5
  a5 := Tryz.isAgg5
  z5 := Tryz.sizeOf5
  v5 := Tryz.zeroValue5
  infoByte := by kernel_rfl
  cellsByte := by kernel_rfl
  sizeByte := by kernel_rfl
  neB5 := by decide }
open Go.RowKit in
theorem builder_grow (B b n : Nat) (w : World) (hB : B ≤ b) (hbk : w.heap[b]? = some (.cells #[.pointer none, .slice none 0 0] 80 (0, 0))) (hBw : B ≤ w.heap.size) (hn : n ≤ 281474976710656) :
    Calls Tryz.prog 76 #[.pointer (some ⟨b, 0, none⟩), .int .i64 n] w fun e w' => e = .returned (.tuple #[]) ∧ (Lib.BuilderAt 80 5 B b (.pointer (some ⟨b, 0, none⟩)) [] w' ∧ Below B w w') := Any.Builder_Grow_fresh lays165 extra165 B b n w hB hbk hBw hn
open Go.RowKit in
theorem builder_write (B b : Nat) (bs : List Value) (s : ByteArray) (w : World) (h : Lib.IsBuilder 80 5 B b bs w) (hlen : bs.length + s.size ≤ 140737488355328) (hBw : B ≤ w.heap.size) :
    Calls Tryz.prog 77 #[.pointer (some ⟨b, 0, none⟩), .string s] w fun e w' => e = .returned (.tuple #[.int .i64 s.size, .nilIface]) ∧ (Lib.BuilderAt 80 5 B b (.pointer (some ⟨b, 0, none⟩)) (bs ++ Lib.strCells s) w' ∧ Below B w w') := Any.Builder_WriteString lays166 extra166 B b bs s w h hlen hBw
open Go.RowKit in
theorem builder_string (B b : Nat) (l : List UInt8) (w : World) (h : Lib.IsBuilder 80 5 B b (Lib.byteCells l) w) (hBw : B ≤ w.heap.size) :
    Calls Tryz.prog 78 #[.pointer (some ⟨b, 0, none⟩)] w fun e w' => e = .returned (.string ⟨l.toArray⟩) ∧ Below B w w' := Any.Builder_String_any lays169 extra169 B b l w h hBw
end Go.Proofs.YtgnggiibhkphjaaGreatDoor
namespace Go.Proofs.YtgnggiibhkphjaaGreatDoor
open Go.RowKit

/-- Texts as lists of bytes. -/
def bl (l : List ByteArray) : List (List UInt8) := l.map (·.data.toList)
/-- The texts joined. -/
def joinB (l : List ByteArray) (sep : ByteArray) : ByteArray := ⟨(Lib.join (bl l) sep.data.toList).toArray⟩
theorem lens_bl (l : List ByteArray) : Lib.lens (bl l) = strsW1 l := by
  unfold Lib.lens bl strsW1
  rw [List.map_map]
  rfl
theorem joinB_nil (sep : ByteArray) : joinB [] sep = ⟨#[]⟩ := rfl
theorem joinB_one (x sep : ByteArray) : joinB [x] sep = x := by
  unfold joinB bl
  rw [List.map_cons, List.map_nil, Lib.join_one]
theorem joinB_size (x : ByteArray) (r : List ByteArray) (sep : ByteArray) : (joinB (x :: r) sep).size = sep.size * r.length + strsW1 (x :: r) := by
  have h := Lib.join_length x.data.toList (bl r) sep.data.toList
  have e : bl (x :: r) = x.data.toList :: bl r := rfl
  have e2 := lens_bl (x :: r)
  rw [e] at e2
  rw [e2] at h
  show (Lib.join (bl (x :: r)) sep.data.toList).toArray.size = _
  rw [List.size_toArray, e, h]
  have e1 : (bl r).length = r.length := by unfold bl; rw [List.length_map]
  rw [e1]
  rfl
/-- What stands in the builder behind k further texts. -/
def joined (x : ByteArray) (r : List ByteArray) (sep : ByteArray) (k : Nat) : List UInt8 := x.data.toList ++ Lib.joinTail sep.data.toList (bl (r.take k))
theorem joined_zero (x : ByteArray) (r : List ByteArray) (sep : ByteArray) : joined x r sep 0 = x.data.toList := by unfold joined; rw [List.take_zero]; exact List.append_nil _
theorem joined_succ (x : ByteArray) (r : List ByteArray) (sep : ByteArray) (k : Nat) (h : k < r.length) : Lib.byteCells (joined x r sep k) ++ Lib.strCells sep ++ Lib.strCells r[k] = Lib.byteCells (joined x r sep (k + 1)) := by
  have e : bl (r.take (k + 1)) = (bl r).take (k + 1) := by unfold bl; rw [List.map_take]
  have e0 : bl (r.take k) = (bl r).take k := by unfold bl; rw [List.map_take]
  have e1 := Lib.joinTail_take_succ sep.data.toList (bl r) k r[k].data.toList (by unfold bl; rw [List.getElem?_map, List.getElem?_eq_getElem h]; rfl)
  unfold joined
  rw [e, e0, e1, Lib.strCells_eq, Lib.strCells_eq, ← Lib.byteCells_append, ← Lib.byteCells_append]
  simp only [List.append_assoc]
theorem joined_full (x : ByteArray) (r : List ByteArray) (sep : ByteArray) : (⟨(joined x r sep r.length).toArray⟩ : ByteArray) = joinB (x :: r) sep := by
  unfold joined joinB
  rw [List.take_length]
  have e : bl (x :: r) = x.data.toList :: bl r := rfl
  rw [e, Lib.join_cons]
theorem joined_len (x : ByteArray) (r : List ByteArray) (sep : ByteArray) (k : Nat) : (joined x r sep k).length ≤ sep.size * r.length + strsW1 (x :: r) := by
  have h := Lib.joinTail_take_le sep.data.toList (bl r) k
  have h2 := Lib.joinTail_length sep.data.toList (bl r)
  have e0 : bl (r.take k) = (bl r).take k := by unfold bl; rw [List.map_take]
  have e1 : (bl r).length = r.length := by unfold bl; rw [List.length_map]
  rw [lens_bl, e1] at h2
  unfold joined
  rw [List.length_append, e0]
  simp only [strsW1, List.map_cons, List.sum_cons] at h2 ⊢
  have e2 : x.data.toList.length = x.size := rfl
  have e3 : sep.data.toList.length = sep.size := rfl
  rw [e3] at h2
  omega

set_option maxRecDepth 100000 in
set_option maxHeartbeats 2000000 in
theorem join_many (x0 : ByteArray) (r : List ByteArray) (sep : ByteArray) (u : Value) (B : Nat) (w : World) (h2 : 0 < r.length) (hn : r.length ≤ 1073741823) (hs : sep.size ≤ 1024) (hW : strsW1 (x0 :: r) ≤ 1073741824)
    (hr : Rd w B (strs (x0 :: r)) u) (hB : B ≤ w.heap.size) :
    Calls Tryz.prog 61 #[u, .string sep] w fun e w' => e = .returned (.string (joinB (x0 :: r) sep)) ∧ Chg [] w w' := by
  obtain ⟨A, cap, rfl, h0, h1, hrow⟩ := strs_row hr
  obtain ⟨bk, o, rfl, hb, hc0⟩ := strs_cells hrow 0 (Nat.succ_pos _)
  unfold maxLen at h1
  have hbk : bk < w.heap.size := Nat.lt_of_lt_of_le hb hB
  have hcell : ∀ k, (hk : k < (x0 :: r).length) → w.cell? ⟨bk, o + k, none⟩ = some (.string (x0 :: r)[k]) := fun k hk => by
    obtain ⟨b', o', e, _, hx⟩ := strs_cells hrow k hk
    cases e; exact hx
  clear hr hrow
  simp only [List.length_cons] at *
  have HC := Lib.hid hcell
  clear hcell
  have hM : sep.size * r.length ≤ 1024 * 1073741823 := Nat.mul_le_mul hs hn
  have hML := joined_len x0 r sep
  have hdv : ¬ (9223372036854775807 / (r.length : Int) ≤ (sep.size : Int)) := by
    rw [Int.not_le]
    have h3 : (sep.size : Int) * (r.length : Int) ≤ 1024 * 1073741823 := by rw [← Int.natCast_mul]; omega
    apply Int.lt_of_lt_of_le (b := (sep.size : Int) + 1) (by omega)
    rw [Int.le_ediv_iff_mul_le (by omega), Int.add_mul]
    omega
  have hpr : (sep.size : Int) * (r.length : Int) = ((sep.size * r.length : Nat) : Int) := (Int.natCast_mul _ _).symm
  have hM0 : sep.size = 0 → sep.size * r.length = 0 := fun h => by rw [h, Nat.zero_mul]
  generalize hMe : sep.size * r.length = M at hM hML hpr hM0
  have HML := Lib.hid hML
  have HME := Lib.hid hMe
  clear hML hMe
  have hne0 : ((r.length : Int) + 1 == 0) = false := beq_eq_false_iff_ne.2 (by omega)
  have hne1 : ((r.length : Int) + 1 == 1) = false := beq_eq_false_iff_ne.2 (by omega)
  go_enter Tryz.func61, Tryz.ntmps61
  go_wp2_with fail
  all_goals
    go_loop [5, 41] (fun n i => ∃ (k : Nat) (x : Int), k ≤ r.length + 1 ∧ i = .int .i64 k ∧ n = .int .i64 x ∧ 0 ≤ x ∧ x ≤ 3000000000000 ∧ Hid (x = M + strsW1 ((x0 :: r).take k))) (fun _ i => r.length + 1 - (intOf i).toNat)
    case atStart => exact ⟨0, _, Nat.zero_le _, rfl, rfl, by omega, by omega, Lib.hid (by simp [strsW1]; try omega)⟩
    case round =>
      obtain ⟨k, x, hk, rfl, rfl, hx0, hx1, HX⟩ := hrel
      by_cases hlt : k < r.length + 1
      · have hc := HC.out k hlt
        have hst := sum_take ByteArray.size (x0 :: r) k hlt
        have hle := sum_le ByteArray.size (x0 :: r) (k + 1)
        have hxk : x + ((x0 :: r)[k].size : Int) = M + strsW1 ((x0 :: r).take (k + 1)) ∧ x + ((x0 :: r)[k].size : Int) ≤ 3000000000000 := by
          have := HX.out; unfold strsW1 at this hW ⊢; omega
        have HXK := Lib.hid hxk.1
        have hx2 := hxk.2
        clear hst hle hxk
        go_wp2
        exact ⟨⟨k + 1, _, by omega, by go_num, rfl, by omega, by omega, HXK⟩, by simp [intOf]; omega⟩
      · obtain rfl : k = r.length + 1 := by omega
        have hx3 := HX.out
        rw [show (x0 :: r).take (r.length + 1) = x0 :: r from List.take_length (l := x0 :: r)] at hx3
        have HML2 : ∀ k, (joined x0 r sep k).length ≤ M + strsW1 (x0 :: r) := fun k => by have := HML.out; have := joined_len x0 r sep k; rw [HME.out] at this; exact this
        have HL := Lib.hid HML2
        clear HML2 HX
        subst hx3
        go_wp2_with fail
        rw [show ((M : Int) + (strsW1 (x0 :: r) : Int)) = ((M + strsW1 (x0 :: r) : Nat) : Int) by omega]
        refine (builder_grow w.heap.size w.heap.size (M + strsW1 (x0 :: r)) _ (Nat.le_refl _) (heap_alloc_new w _) (by simp) (by omega)).mono ?_
        rintro e w1 ⟨rfl, h1, hb1⟩
        have hb1' : Below w.heap.size w w1 := ((Below.refl w.heap.size w).alloc (Nat.le_refl _) _).trans hb1
        have hx0 : w1.cell? ⟨bk, o, none⟩ = some (.string x0) := by
          rw [hb1'.cell (p := ⟨bk, o, none⟩) hbk]
          exact HC.out 0 (by omega)
        have H1 := Lib.hid (Or.inr h1 : Lib.IsBuilder 80 5 w.heap.size w.heap.size [] w1)
        have Hb1 := Lib.hid hb1'
        have hBw1 : w.heap.size ≤ w1.heap.size := hb1'.size
        clear h1 hb1 hb1'
        go_wp2_with fail
        refine (builder_write w.heap.size w.heap.size [] x0 w1 H1.out (by have := HL.out 0; rw [joined_zero] at this; simp only [List.length_nil, Nat.zero_add]; have e : x0.size = x0.data.toList.length := rfl; omega) hBw1).mono ?_
        rintro e w2 ⟨rfl, h2', hb2⟩
        have hstart : ([] : List Value) ++ Lib.strCells x0 = Lib.byteCells (joined x0 r sep 0) := by rw [joined_zero, List.nil_append, Lib.strCells_eq]
        rw [hstart] at h2'
        have H2 := Lib.hid (Or.inr h2' : Lib.IsBuilder 80 5 w.heap.size w.heap.size _ w2)
        have Hb2 := Lib.hid (Hb1.out.trans hb2)
        clear h2' hb2 hstart
        go_wp2_with fail
        go_loopw [65] (fun i wr => ∃ k : Nat, k ≤ r.length ∧ i = .int .i64 k ∧ Hid (Lib.IsBuilder 80 5 w.heap.size w.heap.size (Lib.byteCells (joined x0 r sep k)) wr) ∧ Hid (Below w.heap.size w wr)) (fun i _ => r.length - (intOf i).toNat)
        case atStart => exact ⟨0, Nat.zero_le _, rfl, H2, Hb2⟩
        case round =>
          obtain ⟨k, hk', rfl, HB, HW⟩ := hrel
          have hBw : w.heap.size ≤ wr.heap.size := HW.out.size
          by_cases hkr : k < r.length
          · have hcy : wr.cell? ⟨bk, o + 1 + k, none⟩ = some (.string r[k]) := by
              rw [HW.out.cell (p := ⟨bk, o + 1 + k, none⟩) hbk, show o + 1 + k = o + (k + 1) by omega]
              exact HC.out (k + 1) (by omega)
            have hl1 := HL.out (k + 1)
            have hnx := congrArg List.length (joined_succ x0 r sep k hkr)
            rw [List.length_append, List.length_append, Lib.byteCells_length, Lib.byteCells_length, Lib.strCells_length, Lib.strCells_length] at hnx
            have Hn := Lib.hid (joined_succ x0 r sep k hkr)
            generalize hJ1 : (joined x0 r sep (k + 1)).length = J1 at hl1 hnx
            generalize hJ : (joined x0 r sep k).length = J at hnx
            have HJ := Lib.hid hJ
            clear hJ1 hJ
            go_wp2_with fail
            refine (builder_write w.heap.size w.heap.size _ sep wr HB.out (by rw [Lib.byteCells_length, HJ.out]; omega) hBw).mono ?_
            rintro e w3 ⟨rfl, h3, hb3⟩
            have hBw3 : w.heap.size ≤ w3.heap.size := Nat.le_trans hBw hb3.size
            have H3 := Lib.hid h3
            have Hb3 := Lib.hid hb3
            clear h3 hb3
            go_wp2_with fail
            refine (builder_write w.heap.size w.heap.size _ r[k] w3 (Or.inr H3.out) (by rw [List.length_append, Lib.byteCells_length, HJ.out, Lib.strCells_length]; omega) hBw3).mono ?_
            rintro e w4 ⟨rfl, h4, hb4⟩
            rw [Hn.out] at h4
            have H4 := Lib.hid (Or.inr h4 : Lib.IsBuilder 80 5 w.heap.size w.heap.size _ w4)
            have Hb4 := Lib.hid ((HW.out.trans Hb3.out).trans hb4)
            clear h4 hb4
            go_wp2
            exact ⟨⟨k + 1, by omega, by go_num, H4, Hb4⟩, by simp [intOf]; omega⟩
          · obtain rfl : k = r.length := by omega
            go_wp2_with fail
            refine (builder_string w.heap.size w.heap.size _ wr HB.out hBw).mono ?_
            rintro e w5 ⟨rfl, hb5⟩
            have Hb5 := Lib.hid (HW.out.trans hb5)
            clear hb5
            go_wp2
            go_ret
            exact ⟨by rw [joined_full]; rfl, Chg.of_below Hb5.out _⟩
set_option maxRecDepth 100000 in
set_option maxHeartbeats 1000000 in
theorem join_any (l : List ByteArray) (sep : ByteArray) (u : Value) (B : Nat) (w : World) (hn : l.length ≤ 1073741824) (hs : sep.size ≤ 1024) (hW : strsW1 l ≤ 1073741824)
    (hr : Rd w B (strs l) u) (hB : B ≤ w.heap.size) :
    Calls Tryz.prog 61 #[u, .string sep] w fun e w' => e = .returned (.string (joinB l sep)) ∧ Chg [] w w' := by
  match l, hn, hW, hr with
  | [], _, _, hr =>
    obtain ⟨A, cap, rfl, h0, h1, hrow⟩ := strs_row hr
    clear hr hrow
    go_enter Tryz.func61, Tryz.ntmps61
    go_wp2
    go_ret
    exact ⟨rfl, Chg.refl _ _⟩
  | [x], _, _, hr =>
    obtain ⟨A, cap, rfl, h0, h1, hrow⟩ := strs_row hr
    obtain ⟨bk, o, rfl, hb, hc0⟩ := strs_cells hrow 0 (Nat.succ_pos _)
    have hc : w.cell? ⟨bk, o, none⟩ = some (.string x) := hc0
    clear hr hrow hc0
    go_enter Tryz.func61, Tryz.ntmps61
    go_wp2
    go_ret
    exact ⟨by rw [joinB_one]; rfl, Chg.refl _ _⟩
  | x :: y :: r, hn, hW, hr => exact join_many x (y :: r) sep u B w (Nat.succ_pos _) (by simp only [List.length_cons] at hn ⊢; omega) hs hW hr hB
set_option maxRecDepth 100000 in
set_option maxHeartbeats 1000000 in
theorem joinWith_impl_any (l : List ByteArray) (sep : ByteArray) (u : Value) (B : Nat) (w : World) (hn : l.length ≤ 1073741824) (hs : sep.size ≤ 1024) (hW : strsW1 l ≤ 1073741824)
    (hr : Rd w B (strs l) u) (hB : B ≤ w.heap.size) :
    Calls Tryz.prog 40 #[u, .string sep] w fun e w' => e = .returned (.string (joinB l sep)) ∧ Chg [] w w' := by
  go_enter Tryz.func40, Tryz.ntmps40
  go_wp2_with fail
  refine (join_any l sep _ B _ hn hs hW hr hB).mono ?_; rintro e w1 ⟨rfl, c1⟩
  go_wp2_with fail
  go_ret
  exact ⟨rfl, c1⟩
theorem joinB_take (l : List ByteArray) (sep : ByteArray) (k : Nat) (h : k < l.length) : joinB (l.take (k + 1)) sep = if k = 0 then l[k] else joinB (l.take k) sep ++ sep ++ l[k] := by
  match l, k, h with
  | x :: r, 0, _ => rw [if_pos rfl]; exact joinB_one x sep
  | x :: r, k + 1, h =>
    rw [if_neg (by omega)]
    have hk : k < r.length := Nat.lt_of_succ_lt_succ h
    have e1 := Lib.joinTail_take_succ sep.data.toList (bl r) k r[k].data.toList (by unfold bl; rw [List.getElem?_map, List.getElem?_eq_getElem hk]; rfl)
    have f : ∀ n, bl (r.take n) = (bl r).take n := fun n => by unfold bl; rw [List.map_take]
    have g : ∀ n, Lib.join (bl ((x :: r).take (n + 1))) sep.data.toList = x.data.toList ++ Lib.joinTail sep.data.toList ((bl r).take n) := fun n => by
      rw [← f, ← Lib.join_cons]; rfl
    apply ByteArray.ext
    apply Array.ext'
    show Lib.join (bl ((x :: r).take (k + 1 + 1))) sep.data.toList = (joinB ((x :: r).take (k + 1)) sep ++ sep ++ r[k]).data.toList
    rw [g, e1]
    have e2 : (joinB ((x :: r).take (k + 1)) sep).data.toList = x.data.toList ++ Lib.joinTail sep.data.toList ((bl r).take k) := g k
    rw [ByteArray.data_append, ByteArray.data_append, Array.toList_append, Array.toList_append, e2]
    simp only [List.append_assoc]
theorem joinB_bound (l : List ByteArray) (sep : ByteArray) (k : Nat) (hs : sep.size ≤ 1024) (hn : l.length ≤ 1073741824) (hW : strsW1 l ≤ 1073741824) : (joinB (l.take k) sep).size ≤ 1200000000000 := by
  have h1 : strsW1 (l.take k) ≤ strsW1 l := sum_le ByteArray.size l k
  have h2 : (l.take k).length ≤ l.length := by rw [List.length_take]; omega
  cases e : l.take k with
  | nil => rw [joinB_nil]; decide
  | cons x r =>
    rw [joinB_size, ← e]
    rw [e, List.length_cons] at h2
    have : sep.size * r.length ≤ 1024 * 1073741824 := Nat.mul_le_mul hs (by omega)
    omega
set_option maxRecDepth 100000 in
set_option maxHeartbeats 1000000 in
theorem joinWith_spec_any (l : List ByteArray) (sep : ByteArray) (u : Value) (B : Nat) (w : World) (hn : l.length ≤ 1073741824) (hs : sep.size ≤ 1024) (hW : strsW1 l ≤ 1073741824)
    (hr : Rd w B (strs l) u) (hB : B ≤ w.heap.size) :
    Calls Tryz.prog 27 #[u, .string sep] w fun e w' => e = .returned (.string (joinB l sep)) ∧ Chg [] w w' := by
  obtain ⟨A, cap, rfl, h0, h1, hrow⟩ := strs_row hr
  unfold maxLen at h1
  clear hr
  have HJ := Lib.hid (joinB_bound l sep · hs hn hW)
  go_enter Tryz.func27, Tryz.ntmps27
  go_wp2_with fail
  go_loopw [5, 10] (fun v i wr => ∃ (k : Nat) (x : ByteArray), k ≤ l.length ∧ i = .int .i64 k ∧ v = .string x ∧ x.size ≤ 1200000000000 ∧ Hid (x = joinB (l.take k) sep) ∧ Chg [] w wr) (fun _ i _ => l.length - (intOf i).toNat)
  case atStart => exact ⟨0, _, Nat.zero_le _, rfl, rfl, by decide, by rw [List.take_zero]; exact rfl, Chg.refl _ _⟩
  case round =>
    obtain ⟨k, x, hk, rfl, rfl, hx, HX, hc⟩ := hrel
    by_cases hlt : k < l.length
    · obtain ⟨b, off, rfl, hb, q0⟩ := strs_cells (hrow.chg0 hc hB) k hlt
      have hst := joinB_take l sep k hlt
      have hbd := HJ.out (k + 1)
      have hsz : l[k].size ≤ 1200000000000 := by have := sum_mem ByteArray.size (List.getElem_mem hlt); unfold strsW1 at hW; omega
      rw [← HX.out] at hst
      have HS := Lib.hid hst
      have HB := Lib.hid hbd
      clear hst hbd
      go_wp2_with fail
      · have e := HS.out
        have b1 := HB.out
        rw [if_neg (by omega)] at e
        rw [e] at b1
        exact ⟨⟨k + 1, _, by omega, by go_num, rfl, b1, e.symm, hc⟩, by simp [intOf]; omega⟩
      · have e := HS.out
        have b1 := HB.out
        obtain rfl : k = 0 := by omega
        rw [if_pos rfl] at e
        rw [e] at b1
        have e0 : x ++ l[0] = l[0] := by
          rw [HX.out, List.take_zero, joinB_nil]
          apply ByteArray.ext
          rw [ByteArray.data_append]
          exact Array.empty_append
        rw [e0]
        exact ⟨⟨0 + 1, _, by omega, by go_num, rfl, b1, e.symm, hc⟩, by simp [intOf]; omega⟩
    · obtain rfl : k = l.length := by omega
      have h5 := HX.out
      rw [List.take_length] at h5
      go_wp2_with fail
      go_ret
      exact ⟨by rw [h5]; rfl, hc⟩
end Go.Proofs.YtgnggiibhkphjaaGreatDoor
namespace Go.Proofs.YtgnggiibhkphjaaGreatDoor
open Go.RowKit

/-- The names of the abilities. -/
def abil : List ByteArray := [⟨#[114, 117, 110]⟩, ⟨#[107, 101, 101, 112]⟩, ⟨#[116, 101, 108, 108]⟩, ⟨#[104, 101, 97, 114]⟩, ⟨#[115, 97, 118, 101]⟩, ⟨#[104, 101, 97, 108]⟩]
def abilAt (k : Nat) : ByteArray := abil.getD k ⟨#[]⟩
/-- The names of those of the first k abilities that are in a face. -/
def faceK (f : Int) : Nat → List ByteArray
  | 0 => []
  | k + 1 => if has f k = true then faceK f k ++ [abilAt k] else faceK f k
instance (f : Int) : Decidable (IsF f) := inferInstanceAs (Decidable (_ ∧ _))
/-- The text of a face. -/
def faceT (f : Int) : ByteArray := if f = 0 then ⟨#[110, 111, 110, 101]⟩ else if IsF f then joinB (faceK f 6) ⟨#[43]⟩ else ⟨#[]⟩
theorem faceT_zero : faceT 0 = ⟨#[110, 111, 110, 101]⟩ := rfl
theorem faceT_face {f : Int} (h0 : f ≠ 0) (h : IsF f) : faceT f = joinB (faceK f 6) ⟨#[43]⟩ := by
  unfold faceT; rw [if_neg h0, if_pos h]
theorem faceT_none {f : Int} (h : ¬ IsF f) : faceT f = ⟨#[]⟩ := by
  unfold faceT
  have h0 : f ≠ 0 := fun e => h ⟨by omega, by omega⟩
  rw [if_neg h0, if_neg h]
theorem faceK_len (f : Int) : ∀ k, (faceK f k).length ≤ k
  | 0 => Nat.le_refl _
  | k + 1 => by
    rw [faceK]
    have := faceK_len f k
    split
    · simp; omega
    · omega
theorem abilAt_size (k : Nat) : (abilAt k).size ≤ 4 := by
  unfold abilAt abil
  match k with
  | 0 | 1 | 2 | 3 | 4 | 5 => decide
  | k + 6 => simp [ByteArray.size]
theorem faceK_W (f : Int) : ∀ k, strsW1 (faceK f k) ≤ 4 * k
  | 0 => Nat.le_refl _
  | k + 1 => by
    rw [faceK]
    have := faceK_W f k
    have := abilAt_size k
    unfold strsW1 at *
    split
    · simp; omega
    · omega
theorem faceK_pos {f : Int} {k : Nat} (h : has f k = true) : faceK f (k + 1) = faceK f k ++ [abilAt k] := by rw [faceK, if_pos h]
theorem faceK_no {f : Int} {k : Nat} (h : has f k = false) : faceK f (k + 1) = faceK f k := by rw [faceK, if_neg (by simp [h])]
theorem joinB_size_le (l : List ByteArray) (sep : ByteArray) (n m : Nat) (hs : sep.size ≤ 8) (hn : l.length ≤ n) (hW : strsW1 l ≤ m) : (joinB l sep).size ≤ 8 * n + m := by
  cases l with
  | nil => simp [joinB_nil, ByteArray.size]
  | cons x r =>
    rw [joinB_size]
    simp at hn
    have : sep.size * r.length ≤ 8 * n := Nat.mul_le_mul hs (by omega)
    omega
theorem faceT_size (f : Int) : (faceT f).size ≤ 100 := by
  unfold faceT
  split
  · decide
  · split
    · exact Nat.le_trans (joinB_size_le _ ⟨#[43]⟩ 6 24 (by decide) (faceK_len f 6) (faceK_W f 6)) (by decide)
    · decide
theorem and_bit : ∀ (f : Fin 64) (k : Fin 6), (bits .and .i64 (((f.1 : Nat) : Int) / (2 ^ k.1 : Nat)) 1 == 1) = has ((f.1 : Nat) : Int) k := by decide +kernel
set_option maxRecDepth 100000 in
theorem l2Names_any (w : World) :
    Calls Tryz.prog 72 #[] w fun e w' => e = .returned (.slice (some ⟨w.heap.size, 0, none⟩) 6 6) ∧ w' = w.alloc (.cells (abil.map Value.string).toArray 9) := by
  go_enter Tryz.func72, Tryz.ntmps72
  go_wp2_with fail
  go_ret
  exact ⟨rfl, rfl⟩
set_option maxRecDepth 100000 in
set_option maxHeartbeats 1000000 in
theorem abilityName_spec_any (k : Nat) (w : World) (hk : k < 6) :
    Calls Tryz.prog 55 #[.int .i64 k] w (StrPost (abilAt k) w) := by
  go_enter Tryz.func55, Tryz.ntmps55
  go_wp2_with fail
  refine (l2Names_any w).mono ?_
  rintro e w1 ⟨rfl, hw1⟩
  have hc : w1.cell? ⟨w.heap.size, k, none⟩ = some (.string (abilAt k)) := by
    rw [hw1, cell_of_row (w.alloc (.cells (abil.map Value.string).toArray 9)) w.heap.size k _ 9 (0, 0) (heap_alloc_new w _)]
    match k, hk with
    | 0, _ | 1, _ | 2, _ | 3, _ | 4, _ | 5, _ => rfl
  have c1 : Chg [] w w1 := hw1 ▸ (Chg.refl [] w).alloc _
  clear hw1
  go_wp2_with fail
  go_ret
  exact ⟨rfl, c1⟩
set_option maxRecDepth 100000 in
set_option maxHeartbeats 2000000 in
theorem formatFace_spec_any (f : Int) (w : World) :
    Calls Tryz.prog 36 #[.int .i64 f] w (StrPost (faceT f) w) := by
  by_cases hf : IsF f
  · have IF := Lib.hid (fun W => (isFace_spec_any f W).mono (BoolIs.pos hf))
    have HF := Lib.hid hf
    clear hf
    go_enter Tryz.func36, Tryz.ntmps36
    go_wp2_with fail
    go_loopw [3, 4] (fun v i wr => ∃ (k : Nat) (A' : Option Addr) (cap' : Nat), k ≤ 6 ∧ i = .int .i64 k ∧ v = .slice A' (faceK f k).length cap' ∧ App w wr 9 1 (.slice A' (faceK f k).length cap') (faceK f k).length ((faceK f k).flatMap strC)) (fun _ i _ => 6 - (intOf i).toNat)
    case atStart => exact ⟨0, _, 0, by omega, rfl, rfl, App.empty w _ _ (Chg.refl _ _)⟩
    case round =>
      obtain ⟨k, A', cap', hk, rfl, rfl, hh⟩ := hrel
      obtain ⟨L, hL⟩ : ∃ L, L = faceK f k := ⟨_, rfl⟩
      have hlen := faceK_len f k
      have hlw := faceK_W f k
      rw [← hL] at hh hlen hlw
      rw [← hL]
      have LL := Lib.hid hL
      clear hL
      by_cases hlt : k < 6
      · cases hb : has f k
        · have HB := Lib.hid (faceK_no hb)
          have L2 := fun W => (l2Has_any f k W HF.out hlt).mono (BoolIs.neg (by simp [hb]))
          have L2 := Lib.hid L2
          clear hb
          go_wp2_with fail
          refine (IF.out _).mono ?_
          rintro e w1 ⟨rfl, rfl⟩
          go_wp2_with fail
          refine (L2.out _).mono ?_
          rintro e w1 ⟨rfl, rfl⟩
          go_wp2_with fail
          go_roundw
          case rel => exact ⟨k + 1, A', cap', by omega, by go_num, by rw [HB.out, ← LL.out], by rw [HB.out, ← LL.out]; exact hh⟩
          case measure => simp [intOf]; omega
        · have HB := Lib.hid (faceK_pos hb)
          have L2 := fun W => (l2Has_any f k W HF.out hlt).mono (BoolIs.pos hb)
          have L2 := Lib.hid L2
          clear hb
          go_wp2_with fail
          refine (IF.out _).mono ?_
          rintro e w1 ⟨rfl, rfl⟩
          go_wp2_with fail
          refine (L2.out _).mono ?_
          rintro e w1 ⟨rfl, rfl⟩
          go_wp2_with fail
          refine (abilityName_spec_any k _ hlt).mono ?_
          rintro e w2 ⟨rfl, c2⟩
          go_wp2_with (at_builtin; refine wpList_app rfl (.tmp 17) (.tmp 20) _ rfl 9 _ 1 16 Tryz.underlying42 string_info rfl (by omega) hh (us := [.string (abilAt k)]) (dsE := strC (abilAt k)) ⟨[], HasL.cons_v (HasL.nil _), by simp, c2.alloc _⟩ rfl w2.heap.size 1 rfl rfl (by intro j u hj; cases j with | zero => cases hj; go_simp | succ j => simp at hj) (by intro u hu; simp at hu; subst hu; rfl) (by omega) (by omega) ?_; intro A2 cap2 w3 hA2)
          go_roundw
          case rel => exact ⟨k + 1, A2, cap2, by omega, by go_num, by rw [HB.out, ← LL.out]; simp, by rw [HB.out, ← LL.out, List.flatMap_append]; simpa using hA2⟩
          case measure => simp [intOf]; omega
      · obtain rfl : k = 6 := by omega
        have hn := hh.new
        by_cases h0 : f = 0
        · subst h0
          go_wp2_with fail
          go_ret
          exact ⟨str_ret rfl, hh.chg⟩
        · have hj := Lib.hid (fun W (hc : Chg [] wr W) => joinWith_spec_any L ⟨#[43]⟩ _ wr.heap.size W (by omega) (by decide) (by omega) (show Rd W wr.heap.size (strs L) _ from hn.rd.chg0 hc (Nat.le_refl _)) hc.size)
          have hcg := hh.chg
          go_wp2_with fail
          refine (hj.out _ (Chg.refl _ _)).mono ?_
          rintro e w1 ⟨rfl, c1⟩
          go_wp2_with fail
          go_ret
          exact ⟨str_ret (by rw [faceT_face h0 HF.out, ← LL.out]), hcg.trans0 c1⟩
  · have IF := Lib.hid (fun W => (isFace_spec_any f W).mono (BoolIs.neg hf))
    have hz := Lib.hid (faceT_none hf)
    have h0 : f ≠ 0 := fun e => hf ⟨by omega, by omega⟩
    clear hf
    go_enter Tryz.func36, Tryz.ntmps36
    go_wp2_with fail
    go_loopw [3, 4] (fun v i wr => i = .int .i64 0 ∧ v = .slice (some ⟨w.heap.size, 0, none⟩) 0 0 ∧ wr = w.alloc (.cells #[] 9)) (fun _ i _ => 0)
    case atStart => exact ⟨rfl, rfl, rfl⟩
    case round =>
      obtain ⟨rfl, rfl, hw⟩ := hrel
      have c1 : Chg [] w wr := hw ▸ (Chg.refl [] w).alloc _
      have hrd : Rd wr wr.heap.size (strs []) (.slice (some ⟨w.heap.size, 0, none⟩) 0 0) := by
        unfold strs
        rw [Rd]
        exact ⟨_, 0, rfl, Nat.le_refl _, by unfold maxLen; omega, .inl rfl⟩
      have hj := Lib.hid (fun W (hc : Chg [] wr W) => joinWith_spec_any [] ⟨#[43]⟩ _ wr.heap.size W (by simp) (by decide) (by simp [strsW1]) (hrd.chg0 hc (Nat.le_refl _)) hc.size)
      clear hw hrd
      go_wp2_with fail
      refine (IF.out _).mono ?_
      rintro e w1 ⟨rfl, rfl⟩
      go_wp2_with fail
      refine (hj.out _ (Chg.refl _ _)).mono ?_
      rintro e w1 ⟨rfl, c2⟩
      go_wp2_with fail
      go_ret
      exact ⟨str_ret hz.out.symm, c1.trans0 c2⟩
/-- The names of the abilities stand in their variable. -/
def AbilAt (w : World) : Prop := 1 < w.heap.size ∧ ∀ k : Fin 6, w.cell? ⟨1, k, none⟩ = some (.string (abilAt k))
theorem AbilAt.keep {w w' : World} (h : AbilAt w) (hc : Chg [] w w') : AbilAt w' :=
  ⟨Nat.lt_of_lt_of_le h.1 hc.size, fun k => (hc.cell (p := ⟨1, k, none⟩) h.1 (by simp)).trans (h.2 k)⟩
set_option maxRecDepth 100000 in
set_option maxHeartbeats 2000000 in
theorem formatFace_impl_any (f : Int) (w : World) (hg : AbilAt w) :
    Calls Tryz.prog 58 #[.int .i64 f] w (StrPost (faceT f) w) := by
  by_cases hf : IsF f
  · have IF := Lib.hid (fun W => (isFace_impl_any f W).mono (BoolIs.pos hf))
    have HF := Lib.hid hf
    by_cases h0 : f = 0
    · subst h0
      clear hf
      go_enter Tryz.func58, Tryz.ntmps58
      go_wp2_with fail
      refine (IF.out _).mono ?_
      rintro e w1 ⟨rfl, rfl⟩
      go_wp2_with fail
      go_ret
      exact ⟨str_ret rfl, Chg.refl _ _⟩
    · have q0 : w.cell? ⟨1, 0, none⟩ = some (.string (abilAt 0)) := hg.2 0
      have q1 : w.cell? ⟨1, 1, none⟩ = some (.string (abilAt 1)) := hg.2 1
      have q2 : w.cell? ⟨1, 2, none⟩ = some (.string (abilAt 2)) := hg.2 2
      have q3 : w.cell? ⟨1, 3, none⟩ = some (.string (abilAt 3)) := hg.2 3
      have q4 : w.cell? ⟨1, 4, none⟩ = some (.string (abilAt 4)) := hg.2 4
      have q5 : w.cell? ⟨1, 5, none⟩ = some (.string (abilAt 5)) := hg.2 5
      have hz0 : (f == 0) = false := by simpa using h0
      clear hf hg
      go_enter Tryz.func58, Tryz.ntmps58
      go_wp2_with fail
      refine (IF.out _).mono ?_
      rintro e w1 ⟨rfl, rfl⟩
      go_wp2_with fail
      go_loopw [3, 12] (fun v i wr => ∃ (k : Nat) (A' : Option Addr) (cap' : Nat), k ≤ 6 ∧ i = .int .i64 k ∧ v = .slice A' (faceK f k).length cap' ∧ App w1 wr 9 1 (.slice A' (faceK f k).length cap') (faceK f k).length ((faceK f k).flatMap strC)) (fun _ i _ => 6 - (intOf i).toNat)
      case atStart => exact ⟨0, none, 0, by omega, rfl, rfl, App.nil w1 _ _ (Chg.refl _ _)⟩
      case round =>
        obtain ⟨k, A', cap', hk, rfl, rfl, hh⟩ := hrel
        obtain ⟨L, hL⟩ : ∃ L, L = faceK f k := ⟨_, rfl⟩
        have hlen := faceK_len f k
        have hlw := faceK_W f k
        rw [← hL] at hh hlen hlw
        rw [← hL]
        have LL := Lib.hid hL
        clear hL q0 q1 q2 q3 q4 q5
        by_cases hlt : k < 6
        · have hidx : ∀ W, (Instr.index 77 (.agg #[.string (abilAt 0), .string (abilAt 1), .string (abilAt 2), .string (abilAt 3), .string (abilAt 4), .string (abilAt 5)]) (.int .i64 k)).run Tryz.prog W = .ok (.string (abilAt k)) W := by
            obtain rfl | rfl | rfl | rfl | rfl | rfl : k = 0 ∨ k = 1 ∨ k = 2 ∨ k = 3 ∨ k = 4 ∨ k = 5 := by omega
            all_goals exact fun W => by kernel_rfl
          have hbit : (bits .and .i64 (f / 2 ^ k) 1 == 1) = has f k := by
            have h0' := HF.out.1
            have := and_bit ⟨f.toNat, by have := HF.out; unfold IsF at this; omega⟩ ⟨k, hlt⟩
            simpa [Int.toNat_of_nonneg h0'] using this
          cases hb : has f k
          · rw [hb] at hbit
            have HB := Lib.hid (faceK_no hb)
            clear hb
            go_wp2_with fail
            go_roundw
            case rel => exact ⟨k + 1, A', cap', by omega, by go_num, by rw [HB.out, ← LL.out], by rw [HB.out, ← LL.out]; exact hh⟩
            case measure => simp [intOf]; omega
          · rw [hb] at hbit
            have HB := Lib.hid (faceK_pos hb)
            clear hb
            go_wp2_with (at_builtin; refine wpList_app rfl (.tmp 21) (.tmp 23) _ rfl 9 _ 1 16 Tryz.underlying42 string_info rfl (by omega) hh (us := [.string (abilAt k)]) (dsE := strC (abilAt k)) ⟨[], HasL.cons_v (HasL.nil _), by simp, (Chg.refl _ _).alloc _⟩ rfl wr.heap.size 1 rfl rfl (by intro j u hj; cases j with | zero => cases hj; go_simp | succ j => simp at hj) (by intro u hu; simp at hu; subst hu; rfl) (by omega) (by omega) ?_; intro A2 cap2 w3 hA2)
            go_roundw
            case rel => exact ⟨k + 1, A2, cap2, by omega, by go_num, by rw [HB.out, ← LL.out]; simp, by rw [HB.out, ← LL.out, List.flatMap_append]; simpa using hA2⟩
            case measure => simp [intOf]; omega
        · obtain rfl : k = 6 := by omega
          have hn := hh.new
          have hj := Lib.hid (fun W (hc : Chg [] wr W) => joinWith_impl_any L ⟨#[43]⟩ _ wr.heap.size W (by omega) (by decide) (by omega) (show Rd W wr.heap.size (strs L) _ from hn.rd.chg0 hc (Nat.le_refl _)) hc.size)
          have hcg := hh.chg
          go_wp2_with fail
          refine (hj.out _ (Chg.refl _ _)).mono ?_
          rintro e w2 ⟨rfl, c1⟩
          go_wp2_with fail
          go_ret
          exact ⟨str_ret (by rw [faceT_face h0 HF.out, ← LL.out]), hcg.trans0 c1⟩
  · have IF := Lib.hid (fun W => (isFace_impl_any f W).mono (BoolIs.neg hf))
    have hz := Lib.hid (faceT_none hf)
    clear hf
    go_enter Tryz.func58, Tryz.ntmps58
    go_wp2_with fail
    refine (IF.out _).mono ?_
    rintro e w1 ⟨rfl, rfl⟩
    go_wp2_with fail
    go_ret
    exact ⟨str_ret hz.out.symm, Chg.refl _ _⟩
end Go.Proofs.YtgnggiibhkphjaaGreatDoor
namespace Go.Proofs.YtgnggiibhkphjaaGreatDoor
open Go.RowKit

/-- Two texts joined, as a fact for a walk. -/
theorem cat_is {P : Program} {a b x : ByteArray} (hx : x = a ++ b) (h : a.size + b.size ≤ 9223372036854775807) (W : World) : (Op.stringOp .add a b).run P W = .ok (.string x) W := by
  rw [hx]; exact run_string_add_sum _ _ _ h
open Classical in
/-- The text of a call. -/
noncomputable def callT (x : CallT) : ByteArray :=
  if CallOk x then
    if x.method = mPut then ⟨#[80, 117, 116, 32]⟩ ++ x.key ++ ⟨#[32]⟩ ++ numT x.value
    else if x.method = mGet then ⟨#[71, 101, 116, 32]⟩ ++ x.key
    else if x.method = mHear then ⟨#[72, 101, 97, 114, 32]⟩ ++ numT x.value
    else if x.method = mLoad then ⟨#[76, 111, 97, 100, 32]⟩ ++ x.text
    else x.method
  else ⟨#[]⟩
theorem callT_no {x : CallT} (h : ¬ CallOk x) : callT x = ⟨#[]⟩ := by unfold callT; rw [if_neg h]
theorem callT_put {x : CallT} (h : CallOk x) (hm : x.method = mPut) : callT x = ⟨#[80, 117, 116, 32]⟩ ++ x.key ++ ⟨#[32]⟩ ++ numT x.value := by unfold callT; rw [if_pos h, if_pos hm]
theorem callT_get {x : CallT} (h : CallOk x) (hm : x.method = mGet) : callT x = ⟨#[71, 101, 116, 32]⟩ ++ x.key := by
  unfold callT; rw [if_pos h, if_neg (by rw [hm]; decide), if_pos hm]
theorem callT_hear {x : CallT} (h : CallOk x) (hm : x.method = mHear) : callT x = ⟨#[72, 101, 97, 114, 32]⟩ ++ numT x.value := by
  unfold callT; rw [if_pos h, if_neg (by rw [hm]; decide), if_neg (by rw [hm]; decide), if_pos hm]
theorem callT_load {x : CallT} (h : CallOk x) (hm : x.method = mLoad) : callT x = ⟨#[76, 111, 97, 100, 32]⟩ ++ x.text := by
  unfold callT; rw [if_pos h, if_neg (by rw [hm]; decide), if_neg (by rw [hm]; decide), if_neg (by rw [hm]; decide), if_pos hm]
theorem callT_other {x : CallT} (h : CallOk x) (hm : x.method ≠ mGet ∧ x.method ≠ mPut ∧ x.method ≠ mHear ∧ x.method ≠ mLoad) : callT x = x.method := by
  unfold callT; rw [if_pos h, if_neg hm.2.1, if_neg hm.1, if_neg hm.2.2.1, if_neg hm.2.2.2]
theorem callOk_value {x : CallT} (h : CallOk x) : 0 ≤ x.value ∧ x.value ≤ 999 := by
  obtain ⟨_, _, h⟩ := h
  unfold IsNum at h
  rcases h with h | h | h | h <;> omega
theorem callT_size {x : CallT} : (callT x).size ≤ callW x + 1048600 := by
  by_cases h : CallOk x
  · have hv := callOk_value h
    have hn := numT_size (n := x.value) (by omega) (by omega)
    unfold callW
    rcases methCases x.method with ⟨hm, _⟩ | ⟨hm, _⟩ | ⟨hm, _⟩ | ⟨hm, _⟩ | ⟨hm, _⟩
    · rw [callT_get h hm, ByteArray.size_append]
      have e : (⟨#[71, 101, 116, 32]⟩ : ByteArray).size = 4 := rfl
      omega
    · rw [callT_put h hm, ByteArray.size_append, ByteArray.size_append, ByteArray.size_append]
      have e : (⟨#[80, 117, 116, 32]⟩ : ByteArray).size = 4 := rfl
      have e2 : (⟨#[32]⟩ : ByteArray).size = 1 := rfl
      omega
    · rw [callT_hear h hm, ByteArray.size_append]
      have e : (⟨#[72, 101, 97, 114, 32]⟩ : ByteArray).size = 5 := rfl
      omega
    · rw [callT_load h hm, ByteArray.size_append]
      have e : (⟨#[76, 111, 97, 100, 32]⟩ : ByteArray).size = 5 := rfl
      omega
    · rw [callT_other h hm]; omega
  · rw [callT_no h]
    have e : (⟨#[]⟩ : ByteArray).size = 0 := rfl
    omega
set_option maxRecDepth 100000 in
set_option maxHeartbeats 4000000 in
theorem formatCall_spec_any (x : CallT) (w : World) (hk : x.key.size ≤ 1048576) (hx : x.text.size ≤ 1048576) :
    Calls Tryz.prog 37 #[.agg #[.string x.method, .string x.key, .int .i64 x.value, .string x.text]] w (StrPost (callT x) w) := by
  by_cases hok : CallOk x
  · have IC := Lib.hid (fun W => (isCall_spec_any x W hk).mono (BoolPost.pos hok))
    have hv := callOk_value hok
    have FN := Lib.hid (fun W (_ : Chg [] w W) => formatNumber_spec_any x.value W (by omega) (by omega))
    have hn := numT_size (n := x.value) (by omega) (by omega)
    have e1 : (⟨#[80, 117, 116, 32]⟩ : ByteArray).size = 4 := rfl
    have e2 : (⟨#[32]⟩ : ByteArray).size = 1 := rfl
    have e3 : (⟨#[71, 101, 116, 32]⟩ : ByteArray).size = 4 := rfl
    have e4 : (⟨#[72, 101, 97, 114, 32]⟩ : ByteArray).size = 5 := rfl
    have e5 : (⟨#[76, 111, 97, 100, 32]⟩ : ByteArray).size = 5 := rfl
    obtain ⟨n, hnn⟩ : ∃ n, n = numT x.value := ⟨_, rfl⟩
    rw [← hnn] at FN hn
    rcases methCases x.method with ⟨hm, m1, m2, m3, m4⟩ | ⟨hm, m1, m2, m3, m4⟩ | ⟨hm, m1, m2, m3, m4⟩ | ⟨hm, m1, m2, m3, m4⟩ | ⟨hm, m1, m2, m3, m4⟩
    · obtain ⟨y, hy⟩ : ∃ y, y = callT x := ⟨_, rfl⟩
      have hy2 := hy.trans (callT_get hok hm)
      rw [← hy]
      have k1 := cat_is (P := Tryz.prog) hy2 (by omega)
      clear hy hy2 hok hm hv e1 e2 e3 e4 e5 hnn
      go_enter Tryz.func37, Tryz.ntmps37
      go_wp2_with fail
      refine (IC.out _).mono ?_
      rintro e w1 ⟨rfl, c1⟩
      have p0 : w1.cell? ⟨w.heap.size, 0, none⟩ = some (.string x.method) := (c1.cell (p := ⟨w.heap.size, 0, none⟩) (by simp) (by simp)).trans (by go_simp)
      have p1 : w1.cell? ⟨w.heap.size, 1, none⟩ = some (.string x.key) := (c1.cell (p := ⟨w.heap.size, 1, none⟩) (by simp) (by simp)).trans (by go_simp)
      have p2 : w1.cell? ⟨w.heap.size, 2, none⟩ = some (.int .i64 x.value) := (c1.cell (p := ⟨w.heap.size, 2, none⟩) (by simp) (by simp)).trans (by go_simp)
      have p3 : w1.cell? ⟨w.heap.size, 3, none⟩ = some (.string x.text) := (c1.cell (p := ⟨w.heap.size, 3, none⟩) (by simp) (by simp)).trans (by go_simp)
      have hlt : w.heap.size < w1.heap.size := by have := c1.size; simp at this; omega
      have d1 : Chg [] w w1 := ((Chg.refl _ _).alloc _).trans0 c1
      clear c1
      go_wp2_with fail
      go_ret
      exact ⟨rfl, d1⟩
    · obtain ⟨y, hy⟩ : ∃ y, y = callT x := ⟨_, rfl⟩
      have hy2 := hy.trans (callT_put hok hm)
      rw [← hy]
      rw [← hnn] at hy2
      obtain ⟨x1, hx1⟩ : ∃ z, z = ⟨#[80, 117, 116, 32]⟩ ++ x.key := ⟨_, rfl⟩
      obtain ⟨x2, hx2⟩ : ∃ z, z = x1 ++ ⟨#[32]⟩ := ⟨_, rfl⟩
      rw [← hx1, ← hx2] at hy2
      have z1 : x1.size = 4 + x.key.size := by rw [hx1, ByteArray.size_append, e1]
      have z2 : x2.size = x1.size + 1 := by rw [hx2, ByteArray.size_append, e2]
      have k1 := cat_is (P := Tryz.prog) hx1 (by omega)
      have k2 := cat_is (P := Tryz.prog) hx2 (by omega)
      have k3 := cat_is (P := Tryz.prog) hy2 (by omega)
      clear hy hy2 hx1 hx2 z1 z2 hok hm hv e1 e2 e3 e4 e5 hnn
      go_enter Tryz.func37, Tryz.ntmps37
      go_wp2_with fail
      refine (IC.out _).mono ?_
      rintro e w1 ⟨rfl, c1⟩
      have p0 : w1.cell? ⟨w.heap.size, 0, none⟩ = some (.string x.method) := (c1.cell (p := ⟨w.heap.size, 0, none⟩) (by simp) (by simp)).trans (by go_simp)
      have p1 : w1.cell? ⟨w.heap.size, 1, none⟩ = some (.string x.key) := (c1.cell (p := ⟨w.heap.size, 1, none⟩) (by simp) (by simp)).trans (by go_simp)
      have p2 : w1.cell? ⟨w.heap.size, 2, none⟩ = some (.int .i64 x.value) := (c1.cell (p := ⟨w.heap.size, 2, none⟩) (by simp) (by simp)).trans (by go_simp)
      have p3 : w1.cell? ⟨w.heap.size, 3, none⟩ = some (.string x.text) := (c1.cell (p := ⟨w.heap.size, 3, none⟩) (by simp) (by simp)).trans (by go_simp)
      have hlt : w.heap.size < w1.heap.size := by have := c1.size; simp at this; omega
      have d1 : Chg [] w w1 := ((Chg.refl _ _).alloc _).trans0 c1
      clear c1
      go_wp2_with fail
      go_region_held3 (fun w' => w'.cell? ⟨w.heap.size, 1, none⟩ = some (.string x.key) ∧ w'.cell? ⟨w.heap.size, 2, none⟩ = some (.int .i64 x.value) ∧ w.heap.size < w'.heap.size ∧ Chg [] w w') (first | exact ⟨p1, p2, hlt, d1.drew⟩ | exact ⟨(c1.cell E3 (by simp)).trans E1, (c1.cell E3 (by simp)).trans E2, by have := c1.size; omega, E4.trans0 c1⟩) (first | (go_at_call 35; obtain ⟨E1, E2, E3, E4⟩ := ‹_ ∧ _ ∧ _ ∧ Chg [] w _›; (with_reducible refine (FN.out _ E4).mono ?_); rintro e w1 ⟨rfl, c1⟩))
      obtain ⟨_, _, _, E⟩ := ‹_ ∧ _ ∧ _ ∧ Chg [] w _›
      go_wp2_with fail
      go_ret
      exact ⟨rfl, E⟩
    · obtain ⟨y, hy⟩ : ∃ y, y = callT x := ⟨_, rfl⟩
      have hy2 := hy.trans (callT_hear hok hm)
      rw [← hy]
      rw [← hnn] at hy2
      have k1 := cat_is (P := Tryz.prog) hy2 (by omega)
      clear hy hy2 hok hm hv e1 e2 e3 e4 e5 hnn
      go_enter Tryz.func37, Tryz.ntmps37
      go_wp2_with fail
      refine (IC.out _).mono ?_
      rintro e w1 ⟨rfl, c1⟩
      have p0 : w1.cell? ⟨w.heap.size, 0, none⟩ = some (.string x.method) := (c1.cell (p := ⟨w.heap.size, 0, none⟩) (by simp) (by simp)).trans (by go_simp)
      have p1 : w1.cell? ⟨w.heap.size, 1, none⟩ = some (.string x.key) := (c1.cell (p := ⟨w.heap.size, 1, none⟩) (by simp) (by simp)).trans (by go_simp)
      have p2 : w1.cell? ⟨w.heap.size, 2, none⟩ = some (.int .i64 x.value) := (c1.cell (p := ⟨w.heap.size, 2, none⟩) (by simp) (by simp)).trans (by go_simp)
      have p3 : w1.cell? ⟨w.heap.size, 3, none⟩ = some (.string x.text) := (c1.cell (p := ⟨w.heap.size, 3, none⟩) (by simp) (by simp)).trans (by go_simp)
      have hlt : w.heap.size < w1.heap.size := by have := c1.size; simp at this; omega
      have d1 : Chg [] w w1 := ((Chg.refl _ _).alloc _).trans0 c1
      clear c1
      go_wp2_with fail
      refine (FN.out _ d1).mono ?_
      rintro e w2 ⟨rfl, c2⟩
      go_wp2_with fail
      go_ret
      exact ⟨rfl, d1.trans0 c2⟩
    · obtain ⟨y, hy⟩ : ∃ y, y = callT x := ⟨_, rfl⟩
      have hy2 := hy.trans (callT_load hok hm)
      rw [← hy]
      have k1 := cat_is (P := Tryz.prog) hy2 (by omega)
      clear hy hy2 hok hm hv e1 e2 e3 e4 e5 hnn
      go_enter Tryz.func37, Tryz.ntmps37
      go_wp2_with fail
      refine (IC.out _).mono ?_
      rintro e w1 ⟨rfl, c1⟩
      have p0 : w1.cell? ⟨w.heap.size, 0, none⟩ = some (.string x.method) := (c1.cell (p := ⟨w.heap.size, 0, none⟩) (by simp) (by simp)).trans (by go_simp)
      have p1 : w1.cell? ⟨w.heap.size, 1, none⟩ = some (.string x.key) := (c1.cell (p := ⟨w.heap.size, 1, none⟩) (by simp) (by simp)).trans (by go_simp)
      have p2 : w1.cell? ⟨w.heap.size, 2, none⟩ = some (.int .i64 x.value) := (c1.cell (p := ⟨w.heap.size, 2, none⟩) (by simp) (by simp)).trans (by go_simp)
      have p3 : w1.cell? ⟨w.heap.size, 3, none⟩ = some (.string x.text) := (c1.cell (p := ⟨w.heap.size, 3, none⟩) (by simp) (by simp)).trans (by go_simp)
      have hlt : w.heap.size < w1.heap.size := by have := c1.size; simp at this; omega
      have d1 : Chg [] w w1 := ((Chg.refl _ _).alloc _).trans0 c1
      clear c1
      go_wp2_with fail
      go_ret
      exact ⟨rfl, d1⟩
    · have HY := Lib.hid (callT_other hok hm)
      clear hok hm hv e1 e2 e3 e4 e5 hnn
      go_enter Tryz.func37, Tryz.ntmps37
      go_wp2_with fail
      refine (IC.out _).mono ?_
      rintro e w1 ⟨rfl, c1⟩
      have p0 : w1.cell? ⟨w.heap.size, 0, none⟩ = some (.string x.method) := (c1.cell (p := ⟨w.heap.size, 0, none⟩) (by simp) (by simp)).trans (by go_simp)
      have p1 : w1.cell? ⟨w.heap.size, 1, none⟩ = some (.string x.key) := (c1.cell (p := ⟨w.heap.size, 1, none⟩) (by simp) (by simp)).trans (by go_simp)
      have p2 : w1.cell? ⟨w.heap.size, 2, none⟩ = some (.int .i64 x.value) := (c1.cell (p := ⟨w.heap.size, 2, none⟩) (by simp) (by simp)).trans (by go_simp)
      have p3 : w1.cell? ⟨w.heap.size, 3, none⟩ = some (.string x.text) := (c1.cell (p := ⟨w.heap.size, 3, none⟩) (by simp) (by simp)).trans (by go_simp)
      have hlt : w.heap.size < w1.heap.size := by have := c1.size; simp at this; omega
      have d1 : Chg [] w w1 := ((Chg.refl _ _).alloc _).trans0 c1
      clear c1
      go_wp2_with fail
      go_ret
      exact ⟨str_ret HY.out.symm, d1⟩
  · have IC := Lib.hid (fun W => (isCall_spec_any x W hk).mono (BoolPost.neg hok))
    have HY := Lib.hid (callT_no hok)
    clear hok
    go_enter Tryz.func37, Tryz.ntmps37
    go_wp2_with fail
    refine (IC.out _).mono ?_
    rintro e w1 ⟨rfl, c1⟩
    go_wp2_with fail
    go_ret
    exact ⟨str_ret HY.out.symm, ((Chg.refl _ _).alloc _).trans0 c1⟩
set_option maxRecDepth 100000 in
set_option maxHeartbeats 4000000 in
theorem formatCall_impl_any (x : CallT) (w : World) (hk : x.key.size ≤ 1048576) (hx : x.text.size ≤ 1048576) (hE : Env w) :
    Calls Tryz.prog 59 #[.agg #[.string x.method, .string x.key, .int .i64 x.value, .string x.text]] w (StrPost (callT x) w) := by
  by_cases hok : CallOk x
  · have IC := Lib.hid (fun W => (isCall_impl_any x W hk).mono (BoolPost.pos hok))
    have hv := callOk_value hok
    have FN := Lib.hid (fun W (hc : Chg [] w W) => formatNumber_impl_any x.value W (by omega) (by omega) (hE.pow.keep hc))
    have hn := numT_size (n := x.value) (by omega) (by omega)
    have e1 : (⟨#[80, 117, 116, 32]⟩ : ByteArray).size = 4 := rfl
    have e2 : (⟨#[32]⟩ : ByteArray).size = 1 := rfl
    have e3 : (⟨#[71, 101, 116, 32]⟩ : ByteArray).size = 4 := rfl
    have e4 : (⟨#[72, 101, 97, 114, 32]⟩ : ByteArray).size = 5 := rfl
    have e5 : (⟨#[76, 111, 97, 100, 32]⟩ : ByteArray).size = 5 := rfl
    obtain ⟨n, hnn⟩ : ∃ n, n = numT x.value := ⟨_, rfl⟩
    rw [← hnn] at FN hn
    rcases methCases x.method with ⟨hm, m1, m2, m3, m4⟩ | ⟨hm, m1, m2, m3, m4⟩ | ⟨hm, m1, m2, m3, m4⟩ | ⟨hm, m1, m2, m3, m4⟩ | ⟨hm, m1, m2, m3, m4⟩
    · obtain ⟨y, hy⟩ : ∃ y, y = callT x := ⟨_, rfl⟩
      have hy2 := hy.trans (callT_get hok hm)
      rw [← hy]
      have k1 := cat_is (P := Tryz.prog) hy2 (by omega)
      clear hy hy2 hok hm hv e1 e2 e3 e4 e5 hnn
      go_enter Tryz.func59, Tryz.ntmps59
      go_wp2_with fail
      refine (IC.out _).mono ?_
      rintro e w1 ⟨rfl, c1⟩
      have p0 : w1.cell? ⟨w.heap.size, 0, none⟩ = some (.string x.method) := (c1.cell (p := ⟨w.heap.size, 0, none⟩) (by simp) (by simp)).trans (by go_simp)
      have p1 : w1.cell? ⟨w.heap.size, 1, none⟩ = some (.string x.key) := (c1.cell (p := ⟨w.heap.size, 1, none⟩) (by simp) (by simp)).trans (by go_simp)
      have p2 : w1.cell? ⟨w.heap.size, 2, none⟩ = some (.int .i64 x.value) := (c1.cell (p := ⟨w.heap.size, 2, none⟩) (by simp) (by simp)).trans (by go_simp)
      have p3 : w1.cell? ⟨w.heap.size, 3, none⟩ = some (.string x.text) := (c1.cell (p := ⟨w.heap.size, 3, none⟩) (by simp) (by simp)).trans (by go_simp)
      have hlt : w.heap.size < w1.heap.size := by have := c1.size; simp at this; omega
      have d1 : Chg [] w w1 := ((Chg.refl _ _).alloc _).trans0 c1
      clear c1
      go_wp2_with fail
      go_ret
      exact ⟨rfl, d1⟩
    · obtain ⟨y, hy⟩ : ∃ y, y = callT x := ⟨_, rfl⟩
      have hy2 := hy.trans (callT_put hok hm)
      rw [← hy]
      rw [← hnn] at hy2
      obtain ⟨x1, hx1⟩ : ∃ z, z = ⟨#[80, 117, 116, 32]⟩ ++ x.key := ⟨_, rfl⟩
      obtain ⟨x2, hx2⟩ : ∃ z, z = x1 ++ ⟨#[32]⟩ := ⟨_, rfl⟩
      rw [← hx1, ← hx2] at hy2
      have z1 : x1.size = 4 + x.key.size := by rw [hx1, ByteArray.size_append, e1]
      have z2 : x2.size = x1.size + 1 := by rw [hx2, ByteArray.size_append, e2]
      have k1 := cat_is (P := Tryz.prog) hx1 (by omega)
      have k2 := cat_is (P := Tryz.prog) hx2 (by omega)
      have k3 := cat_is (P := Tryz.prog) hy2 (by omega)
      clear hy hy2 hx1 hx2 z1 z2 hok hm hv e1 e2 e3 e4 e5 hnn
      go_enter Tryz.func59, Tryz.ntmps59
      go_wp2_with fail
      refine (IC.out _).mono ?_
      rintro e w1 ⟨rfl, c1⟩
      have p0 : w1.cell? ⟨w.heap.size, 0, none⟩ = some (.string x.method) := (c1.cell (p := ⟨w.heap.size, 0, none⟩) (by simp) (by simp)).trans (by go_simp)
      have p1 : w1.cell? ⟨w.heap.size, 1, none⟩ = some (.string x.key) := (c1.cell (p := ⟨w.heap.size, 1, none⟩) (by simp) (by simp)).trans (by go_simp)
      have p2 : w1.cell? ⟨w.heap.size, 2, none⟩ = some (.int .i64 x.value) := (c1.cell (p := ⟨w.heap.size, 2, none⟩) (by simp) (by simp)).trans (by go_simp)
      have p3 : w1.cell? ⟨w.heap.size, 3, none⟩ = some (.string x.text) := (c1.cell (p := ⟨w.heap.size, 3, none⟩) (by simp) (by simp)).trans (by go_simp)
      have hlt : w.heap.size < w1.heap.size := by have := c1.size; simp at this; omega
      have d1 : Chg [] w w1 := ((Chg.refl _ _).alloc _).trans0 c1
      clear c1
      go_wp2_with fail
      go_region_held3 (fun w' => w'.cell? ⟨w.heap.size, 1, none⟩ = some (.string x.key) ∧ w'.cell? ⟨w.heap.size, 2, none⟩ = some (.int .i64 x.value) ∧ w.heap.size < w'.heap.size ∧ Chg [] w w') (first | exact ⟨p1, p2, hlt, d1.drew⟩ | exact ⟨(c1.cell E3 (by simp)).trans E1, (c1.cell E3 (by simp)).trans E2, by have := c1.size; omega, E4.trans0 c1⟩) (first | (go_at_call 57; obtain ⟨E1, E2, E3, E4⟩ := ‹_ ∧ _ ∧ _ ∧ Chg [] w _›; (with_reducible refine (FN.out _ E4).mono ?_); rintro e w1 ⟨rfl, c1⟩))
      obtain ⟨_, _, _, E⟩ := ‹_ ∧ _ ∧ _ ∧ Chg [] w _›
      go_wp2_with fail
      go_ret
      exact ⟨rfl, E⟩
    · obtain ⟨y, hy⟩ : ∃ y, y = callT x := ⟨_, rfl⟩
      have hy2 := hy.trans (callT_hear hok hm)
      rw [← hy]
      rw [← hnn] at hy2
      have k1 := cat_is (P := Tryz.prog) hy2 (by omega)
      clear hy hy2 hok hm hv e1 e2 e3 e4 e5 hnn
      go_enter Tryz.func59, Tryz.ntmps59
      go_wp2_with fail
      refine (IC.out _).mono ?_
      rintro e w1 ⟨rfl, c1⟩
      have p0 : w1.cell? ⟨w.heap.size, 0, none⟩ = some (.string x.method) := (c1.cell (p := ⟨w.heap.size, 0, none⟩) (by simp) (by simp)).trans (by go_simp)
      have p1 : w1.cell? ⟨w.heap.size, 1, none⟩ = some (.string x.key) := (c1.cell (p := ⟨w.heap.size, 1, none⟩) (by simp) (by simp)).trans (by go_simp)
      have p2 : w1.cell? ⟨w.heap.size, 2, none⟩ = some (.int .i64 x.value) := (c1.cell (p := ⟨w.heap.size, 2, none⟩) (by simp) (by simp)).trans (by go_simp)
      have p3 : w1.cell? ⟨w.heap.size, 3, none⟩ = some (.string x.text) := (c1.cell (p := ⟨w.heap.size, 3, none⟩) (by simp) (by simp)).trans (by go_simp)
      have hlt : w.heap.size < w1.heap.size := by have := c1.size; simp at this; omega
      have d1 : Chg [] w w1 := ((Chg.refl _ _).alloc _).trans0 c1
      clear c1
      go_wp2_with fail
      refine (FN.out _ d1).mono ?_
      rintro e w2 ⟨rfl, c2⟩
      go_wp2_with fail
      go_ret
      exact ⟨rfl, d1.trans0 c2⟩
    · obtain ⟨y, hy⟩ : ∃ y, y = callT x := ⟨_, rfl⟩
      have hy2 := hy.trans (callT_load hok hm)
      rw [← hy]
      have k1 := cat_is (P := Tryz.prog) hy2 (by omega)
      clear hy hy2 hok hm hv e1 e2 e3 e4 e5 hnn
      go_enter Tryz.func59, Tryz.ntmps59
      go_wp2_with fail
      refine (IC.out _).mono ?_
      rintro e w1 ⟨rfl, c1⟩
      have p0 : w1.cell? ⟨w.heap.size, 0, none⟩ = some (.string x.method) := (c1.cell (p := ⟨w.heap.size, 0, none⟩) (by simp) (by simp)).trans (by go_simp)
      have p1 : w1.cell? ⟨w.heap.size, 1, none⟩ = some (.string x.key) := (c1.cell (p := ⟨w.heap.size, 1, none⟩) (by simp) (by simp)).trans (by go_simp)
      have p2 : w1.cell? ⟨w.heap.size, 2, none⟩ = some (.int .i64 x.value) := (c1.cell (p := ⟨w.heap.size, 2, none⟩) (by simp) (by simp)).trans (by go_simp)
      have p3 : w1.cell? ⟨w.heap.size, 3, none⟩ = some (.string x.text) := (c1.cell (p := ⟨w.heap.size, 3, none⟩) (by simp) (by simp)).trans (by go_simp)
      have hlt : w.heap.size < w1.heap.size := by have := c1.size; simp at this; omega
      have d1 : Chg [] w w1 := ((Chg.refl _ _).alloc _).trans0 c1
      clear c1
      go_wp2_with fail
      go_ret
      exact ⟨rfl, d1⟩
    · have HY := Lib.hid (callT_other hok hm)
      clear hok hm hv e1 e2 e3 e4 e5 hnn
      go_enter Tryz.func59, Tryz.ntmps59
      go_wp2_with fail
      refine (IC.out _).mono ?_
      rintro e w1 ⟨rfl, c1⟩
      have p0 : w1.cell? ⟨w.heap.size, 0, none⟩ = some (.string x.method) := (c1.cell (p := ⟨w.heap.size, 0, none⟩) (by simp) (by simp)).trans (by go_simp)
      have p1 : w1.cell? ⟨w.heap.size, 1, none⟩ = some (.string x.key) := (c1.cell (p := ⟨w.heap.size, 1, none⟩) (by simp) (by simp)).trans (by go_simp)
      have p2 : w1.cell? ⟨w.heap.size, 2, none⟩ = some (.int .i64 x.value) := (c1.cell (p := ⟨w.heap.size, 2, none⟩) (by simp) (by simp)).trans (by go_simp)
      have p3 : w1.cell? ⟨w.heap.size, 3, none⟩ = some (.string x.text) := (c1.cell (p := ⟨w.heap.size, 3, none⟩) (by simp) (by simp)).trans (by go_simp)
      have hlt : w.heap.size < w1.heap.size := by have := c1.size; simp at this; omega
      have d1 : Chg [] w w1 := ((Chg.refl _ _).alloc _).trans0 c1
      clear c1
      go_wp2_with fail
      go_ret
      exact ⟨str_ret HY.out.symm, d1⟩
  · have IC := Lib.hid (fun W => (isCall_impl_any x W hk).mono (BoolPost.neg hok))
    have HY := Lib.hid (callT_no hok)
    clear hok
    go_enter Tryz.func59, Tryz.ntmps59
    go_wp2_with fail
    refine (IC.out _).mono ?_
    rintro e w1 ⟨rfl, c1⟩
    go_wp2_with fail
    go_ret
    exact ⟨str_ret HY.out.symm, ((Chg.refl _ _).alloc _).trans0 c1⟩
end Go.Proofs.YtgnggiibhkphjaaGreatDoor
namespace Go.Proofs.YtgnggiibhkphjaaGreatDoor
open Go.RowKit

/-- The words of the kinds of actions. -/
def planWordsL : List ByteArray := [⟨#[]⟩, ⟨#[109, 97, 107, 101]⟩, ⟨#[119, 114, 97, 112]⟩, ⟨#[117, 110, 119, 114, 97, 112]⟩, ⟨#[99, 111, 112, 121]⟩, ⟨#[100, 114, 111, 112]⟩, ⟨#[97, 115, 107]⟩, ⟨#[99, 97, 108, 108]⟩, ⟨#[105, 102]⟩, ⟨#[108, 111, 111, 112]⟩, ⟨#[116, 114, 121]⟩]
def wordT (op : Int) : ByteArray := planWordsL.getD op.toNat ⟨#[]⟩
/-- A block, as the program writes it. -/
def blkT : List ByteArray → ByteArray
  | [] => ⟨#[123, 32, 125]⟩
  | x :: r => ⟨#[123, 32]⟩ ++ joinB (x :: r) ⟨#[59, 32]⟩ ++ ⟨#[32, 125]⟩
/-- What is in a block, as the reference writes it. -/
def bodyT : List ByteArray → ByteArray
  | [] => ⟨#[]⟩
  | x :: r => joinB (x :: r) ⟨#[59, 32]⟩ ++ ⟨#[32]⟩
mutual
noncomputable def ActionT.txt : ActionT → ByteArray
  | .mk op slot other word call face A B =>
    if op = 1 ∨ op = 2 then wordT op ++ ⟨#[32]⟩ ++ numT slot ++ ⟨#[32]⟩ ++ word
    else if op = 4 then wordT op ++ ⟨#[32]⟩ ++ numT slot ++ ⟨#[32, 102, 114, 111, 109, 32]⟩ ++ numT other
    else if op = 6 then wordT op ++ ⟨#[32]⟩ ++ numT slot ++ ⟨#[32]⟩ ++ faceT face
    else if op = 7 then wordT op ++ ⟨#[32]⟩ ++ numT slot ++ ⟨#[32]⟩ ++ callT call
    else if op = 8 ∨ op = 10 then wordT op ++ ⟨#[32]⟩ ++ blkT (txtL A) ++ ⟨#[32, 101, 108, 115, 101, 32]⟩ ++ blkT (txtL B)
    else if op = 9 then wordT op ++ ⟨#[32]⟩ ++ blkT (txtL A)
    else wordT op ++ ⟨#[32]⟩ ++ numT slot
noncomputable def txtL : List ActionT → List ByteArray
  | [] => []
  | a :: l => a.txt :: txtL l
end
theorem txtL_map : ∀ l : List ActionT, txtL l = l.map ActionT.txt
  | [] => by rw [txtL]; rfl
  | a :: l => by rw [txtL, txtL_map l]; rfl
theorem txt_1 {a : ActionT} (h : a.op = 1 ∨ a.op = 2) : a.txt = wordT a.op ++ ⟨#[32]⟩ ++ numT a.slot ++ ⟨#[32]⟩ ++ a.word := by
  cases a; rw [ActionT.txt]; exact if_pos h
theorem txt_4 {a : ActionT} (h : a.op = 4) : a.txt = wordT a.op ++ ⟨#[32]⟩ ++ numT a.slot ++ ⟨#[32, 102, 114, 111, 109, 32]⟩ ++ numT a.other := by
  cases a with | mk op slot other word call face A B =>
  have h : op = 4 := h
  rw [ActionT.txt, if_neg (by omega), if_pos h]; rfl
theorem txt_6 {a : ActionT} (h : a.op = 6) : a.txt = wordT a.op ++ ⟨#[32]⟩ ++ numT a.slot ++ ⟨#[32]⟩ ++ faceT a.face := by
  cases a with | mk op slot other word call face A B =>
  have h : op = 6 := h
  rw [ActionT.txt, if_neg (by omega), if_neg (by omega), if_pos h]; rfl
theorem txt_7 {a : ActionT} (h : a.op = 7) : a.txt = wordT a.op ++ ⟨#[32]⟩ ++ numT a.slot ++ ⟨#[32]⟩ ++ callT a.call := by
  cases a with | mk op slot other word call face A B =>
  have h : op = 7 := h
  rw [ActionT.txt, if_neg (by omega), if_neg (by omega), if_neg (by omega), if_pos h]; rfl
theorem txt_8 {a : ActionT} (h : a.op = 8 ∨ a.op = 10) : a.txt = wordT a.op ++ ⟨#[32]⟩ ++ blkT (txtL a.A) ++ ⟨#[32, 101, 108, 115, 101, 32]⟩ ++ blkT (txtL a.B) := by
  cases a with | mk op slot other word call face A B =>
  have h : op = 8 ∨ op = 10 := h
  rw [ActionT.txt, if_neg (by omega), if_neg (by omega), if_neg (by omega), if_neg (by omega), if_pos h]; rfl
theorem txt_9 {a : ActionT} (h : a.op = 9) : a.txt = wordT a.op ++ ⟨#[32]⟩ ++ blkT (txtL a.A) := by
  cases a with | mk op slot other word call face A B =>
  have h : op = 9 := h
  rw [ActionT.txt, if_neg (by omega), if_neg (by omega), if_neg (by omega), if_neg (by omega), if_neg (by omega), if_pos h]; rfl
theorem txt_3 {a : ActionT} (h : a.op = 3 ∨ a.op = 5) : a.txt = wordT a.op ++ ⟨#[32]⟩ ++ numT a.slot := by
  cases a with | mk op slot other word call face A B =>
  have h : op = 3 ∨ op = 5 := h
  rw [ActionT.txt, if_neg (by omega), if_neg (by omega), if_neg (by omega), if_neg (by omega), if_neg (by omega), if_neg (by omega)]; rfl
theorem wordT_size {op : Int} : (wordT op).size ≤ 6 := by
  unfold wordT planWordsL
  generalize op.toNat = k
  match k with
  | 0 | 1 | 2 | 3 | 4 | 5 | 6 | 7 | 8 | 9 | 10 => decide
  | k + 11 => exact Nat.zero_le _
theorem blkT_size (l : List ByteArray) : (blkT l).size ≤ 4 + 2 * l.length + strsW1 l := by
  cases l with
  | nil => exact Nat.le_add_right 4 _ |> Nat.le_trans (by decide)
  | cons x r =>
    unfold blkT
    rw [ByteArray.size_append, ByteArray.size_append, joinB_size]
    have e1 : (⟨#[123, 32]⟩ : ByteArray).size = 2 := rfl
    have e2 : (⟨#[32, 125]⟩ : ByteArray).size = 2 := rfl
    have e3 : (⟨#[59, 32]⟩ : ByteArray).size = 2 := rfl
    rw [e1, e2, e3]
    simp only [List.length_cons]
    omega
theorem bodyT_size (l : List ByteArray) : (bodyT l).size ≤ 4 + 2 * l.length + strsW1 l := by
  cases l with
  | nil => exact Nat.zero_le _
  | cons x r =>
    unfold bodyT
    rw [ByteArray.size_append, joinB_size]
    have e2 : (⟨#[32]⟩ : ByteArray).size = 1 := rfl
    have e3 : (⟨#[59, 32]⟩ : ByteArray).size = 2 := rfl
    rw [e2, e3]
    simp only [List.length_cons]
    omega
/-- How long texts are. -/
def TxtB (l : List ActionT) : Prop := okL l → strsW1 (txtL l) ≤ 4194304 * sizeL l + 2 * actionsW1 l
theorem txtL_len (l : List ActionT) : (txtL l).length = l.length := by rw [txtL_map, List.length_map]
theorem txt_size (a : ActionT) (hA : TxtB a.A) (hB : TxtB a.B) (hok : a.ok) : a.txt.size ≤ 4194304 * a.size + 2 * actionW a := by
  have ho := (a.ok_iff).1 hok
  have bA := hA ho.2.1
  have bB := hB ho.2.2
  have w := wordT_size (op := a.op)
  have es := a.size_eq
  have ew := actionW_eq a
  have sl := ok_slot hok
  have ns := numT_size (n := a.slot) (by have := sl.1; omega) (by have := sl.2; omega)
  have e1 : (⟨#[32]⟩ : ByteArray).size = 1 := rfl
  have e2 : (⟨#[32, 102, 114, 111, 109, 32]⟩ : ByteArray).size = 6 := rfl
  have e3 : (⟨#[32, 101, 108, 115, 101, 32]⟩ : ByteArray).size = 6 := rfl
  have kA := blkT_size (txtL a.A)
  have kB := blkT_size (txtL a.B)
  rw [txtL_len] at kA kB
  unfold actionsW at ew
  rcases op_cases a.op with (h | h | h | h | h | h | h | h | h | h) | h
  · rw [txt_1 (.inl h)]; simp only [ByteArray.size_append]; omega
  · rw [txt_1 (.inr h)]; simp only [ByteArray.size_append]; omega
  · rw [txt_3 (.inl h)]; simp only [ByteArray.size_append]; omega
  · have so := ((okS_4 h).1 hok).2.1
    have no := numT_size (n := a.other) (by have := so.1; omega) (by have := so.2; omega)
    rw [txt_4 h]; simp only [ByteArray.size_append]; omega
  · rw [txt_3 (.inr h)]; simp only [ByteArray.size_append]; omega
  · have := faceT_size a.face
    rw [txt_6 h]; simp only [ByteArray.size_append]; omega
  · have := callT_size (x := a.call)
    rw [txt_7 h]; simp only [ByteArray.size_append]; omega
  · rw [txt_8 (.inl h)]; simp only [ByteArray.size_append]; omega
  · rw [txt_9 h]; simp only [ByteArray.size_append]; omega
  · rw [txt_8 (.inr h)]; simp only [ByteArray.size_append]; omega
  · exact absurd (ok_op hok) h.1
theorem txtB_all : ∀ l, TxtB l := by
  refine ActionT.ind fun l ih => ?_
  intro hok
  have each : ∀ a ∈ l, a.txt.size ≤ 4194304 * a.size + 2 * actionW a := fun a ha => txt_size a (ih a ha).1 (ih a ha).2 ((okL_iff l).1 hok a ha)
  clear ih hok
  induction l with
  | nil => simp [txtL, strsW1, sizeL]
  | cons a l ihl =>
    have h1 := each a (by simp)
    have h2 := ihl (fun b hb => each b (by simp [hb]))
    rw [txtL, sizeL]
    unfold strsW1 actionsW1 at *
    simp only [List.map_cons, List.sum_cons]
    omega
/-- A plan's texts are short enough to be joined. -/
theorem plan_small {l : List ActionT} (hok : okL l) (hs : sizeL l ≤ 14) (hW : actionsW l ≤ 1048576) : strsW1 (txtL l) ≤ 67108864 ∧ l.length ≤ 14 := by
  have h1 := txtB_all l hok
  have h2 : actionsW1 l ≤ actionsW l := by unfold actionsW; omega
  refine ⟨by omega, ?_⟩
  have : ∀ m : List ActionT, m.length ≤ sizeL m := by
    intro m
    induction m with
    | nil => exact Nat.zero_le _
    | cons a m ih => rw [sizeL]; have := a.size_eq; simp; omega
  have := this l
  omega
end Go.Proofs.YtgnggiibhkphjaaGreatDoor
namespace Go.Proofs.YtgnggiibhkphjaaGreatDoor
open Go.RowKit

theorem cat_sz {a b x : ByteArray} (hx : x = a ++ b) : x.size = a.size + b.size := by rw [hx, ByteArray.size_append]
theorem wordT_1 : wordT 1 = ⟨#[109, 97, 107, 101]⟩ := rfl
theorem wordT_2 : wordT 2 = ⟨#[119, 114, 97, 112]⟩ := rfl
theorem wordT_3 : wordT 3 = ⟨#[117, 110, 119, 114, 97, 112]⟩ := rfl
theorem wordT_4 : wordT 4 = ⟨#[99, 111, 112, 121]⟩ := rfl
theorem wordT_5 : wordT 5 = ⟨#[100, 114, 111, 112]⟩ := rfl
theorem wordT_6 : wordT 6 = ⟨#[97, 115, 107]⟩ := rfl
theorem wordT_7 : wordT 7 = ⟨#[99, 97, 108, 108]⟩ := rfl
theorem wordT_8 : wordT 8 = ⟨#[105, 102]⟩ := rfl
theorem wordT_9 : wordT 9 = ⟨#[108, 111, 111, 112]⟩ := rfl
theorem wordT_10 : wordT 10 = ⟨#[116, 114, 121]⟩ := rfl
theorem blk_body (l : List ByteArray) : blkT l = ⟨#[123, 32]⟩ ++ bodyT l ++ ⟨#[125]⟩ := by
  cases l with
  | nil => rfl
  | cons x r =>
    unfold blkT bodyT
    rw [show (⟨#[32, 125]⟩ : ByteArray) = ⟨#[32]⟩ ++ ⟨#[125]⟩ from rfl]
    simp only [ByteArray.append_assoc]
theorem act_small {a : ActionT} (hW : actionW a ≤ 1048576) : a.word.size ≤ 1048576 ∧ a.call.key.size ≤ 1048576 ∧ a.call.text.size ≤ 1048576 ∧ callW a.call ≤ 1048576 := by
  have h2 := actionW_eq a
  have h3 : a.call.key.size ≤ callW a.call := by unfold callW; omega
  have h4 : a.call.text.size ≤ callW a.call := by unfold callW; omega
  refine ⟨?_, ?_, ?_, ?_⟩ <;> omega
theorem sub_small {a : ActionT} (hok : a.ok) (hz : a.size ≤ 14) (hW : actionW a ≤ 1048576) : (okL a.A ∧ sizeL a.A ≤ 14 ∧ actionsW a.A ≤ 1048576) ∧ (okL a.B ∧ sizeL a.B ≤ 14 ∧ actionsW a.B ≤ 1048576) := by
  have h1 := (a.ok_iff).1 hok
  have h2 := a.size_eq
  have h3 := actionW_eq a
  refine ⟨⟨h1.2.1, ?_, ?_⟩, h1.2.2, ?_, ?_⟩ <;> omega
theorem body_small {a : ActionT} (hok : a.ok) (hz : a.size ≤ 14) (hW : actionW a ≤ 1048576) : (bodyT (txtL a.A)).size ≤ 67109000 ∧ (bodyT (txtL a.B)).size ≤ 67109000 ∧ (blkT (txtL a.A)).size ≤ 67109000 ∧ (blkT (txtL a.B)).size ≤ 67109000 := by
  obtain ⟨⟨a1, a2, a3⟩, b1, b2, b3⟩ := sub_small hok hz hW
  have sA := plan_small a1 a2 a3
  have sB := plan_small b1 b2 b3
  have k1 := bodyT_size (txtL a.A)
  have k2 := bodyT_size (txtL a.B)
  have k3 := blkT_size (txtL a.A)
  have k4 := blkT_size (txtL a.B)
  rw [txtL_len] at k1 k2 k3 k4
  refine ⟨?_, ?_, ?_, ?_⟩ <;> omega
set_option maxRecDepth 100000 in
set_option maxHeartbeats 8000000 in
theorem l8Line_1 (a : ActionT) (A1 A2 : Option Addr) (c1 c2 : Nat) (w : World) (h : a.op = 1) (hok : a.ok) (hW : actionW a ≤ 1048576) :
    Calls Tryz.prog 26 #[.agg #[.int .i64 a.op, .int .i64 a.slot, .int .i64 a.other, .string a.word, .string a.call.method, .string a.call.key, .int .i64 a.call.value, .string a.call.text, .int .i64 a.face, .slice A1 a.A.length c1, .slice A2 a.B.length c2]] w (StrPost a.txt w) := by
  have sl := ok_slot hok
  have FN := Lib.hid (fun W (_ : Chg [] w W) => formatNumber_spec_any a.slot W (by have := sl.1; omega) (by have := sl.2; omega))
  have ns := numT_size (n := a.slot) (by have := sl.1; omega) (by have := sl.2; omega)
  obtain ⟨n, hn⟩ : ∃ n, n = numT a.slot := ⟨_, rfl⟩
  rw [← hn] at FN ns
  have ac := (act_small hW).1
  obtain ⟨T, hT⟩ : ∃ T, T = a.txt := ⟨_, rfl⟩
  have hT2 := hT.trans (txt_1 (.inl h))
  rw [← hT]
  obtain ⟨x0, hx0⟩ : ∃ x, x = (⟨#[32]⟩ : ByteArray) ++ n := ⟨_, rfl⟩
  obtain ⟨x1, hx1⟩ : ∃ x, x = (⟨#[109, 97, 107, 101]⟩ : ByteArray) ++ x0 := ⟨_, rfl⟩
  obtain ⟨x3, hx3⟩ : ∃ x, x = x1 ++ (⟨#[32]⟩ : ByteArray) := ⟨_, rfl⟩
  obtain ⟨x4, hx4⟩ : ∃ x, x = x3 ++ a.word := ⟨_, rfl⟩
  have ex0 : (⟨#[32]⟩ : ByteArray).size = 1 := rfl
  have ex1 : (⟨#[109, 97, 107, 101]⟩ : ByteArray).size = 4 := rfl
  have ex3 : (⟨#[32]⟩ : ByteArray).size = 1 := rfl
  have zx0 := cat_sz hx0
  have zx1 := cat_sz hx1
  have zx3 := cat_sz hx3
  have zx4 := cat_sz hx4
  have kx0 := cat_is (P := Tryz.prog) hx0 (by omega)
  have kx1 := cat_is (P := Tryz.prog) hx1 (by omega)
  have kx3 := cat_is (P := Tryz.prog) hx3 (by omega)
  have kx4 := cat_is (P := Tryz.prog) hx4 (by omega)
  have HE : Hid (x4 = T) := by
    show _ = _
    rw [hT2, h, wordT_1, hx4, hx3, hx1, hx0, hn]
    try simp only [ByteArray.append_assoc]
  rw [h]
  clear ex0 ex1 ex3 zx0 zx1 zx3 zx4 hx0 hx1 hx3 hx4 hn ns sl hT hT2 hok h ac hW
  go_enter Tryz.func26, Tryz.ntmps26
  go_wp2_with fail
  obtain ⟨wb, hwb⟩ : ∃ wb, wb = w.alloc (.cells #[.int .i64 1, .int .i64 a.slot, .int .i64 a.other, .string a.word, .string a.call.method, .string a.call.key, .int .i64 a.call.value, .string a.call.text, .int .i64 a.face, .slice A1 a.A.length c1, .slice A2 a.B.length c2] 38) := ⟨_, rfl⟩
  have db : Chg [] w wb := hwb ▸ (Chg.refl [] w).alloc _
  have sb : w.heap.size < wb.heap.size := by rw [hwb]; simp
  have v0 : wb.cell? ⟨w.heap.size, 0, none⟩ = some (.int .i64 1) := by rw [hwb]; go_simp
  have v3 : wb.cell? ⟨w.heap.size, 3, none⟩ = some (.string a.word) := by rw [hwb]; go_simp
  rw [← hwb]
  clear hwb
  refine (FN.out _ db).mono ?_
  rintro e w1 ⟨rfl, k1⟩
  have p0 := (k1.cell (p := ⟨w.heap.size, 0, none⟩) sb (by simp)).trans v0
  have p3 := (k1.cell (p := ⟨w.heap.size, 3, none⟩) sb (by simp)).trans v3
  have hlt : w.heap.size < w1.heap.size := by have := k1.size; omega
  have d1 : Chg [] w w1 := db.trans0 k1
  clear k1 v0 v3
  go_wp2_with fail
  go_ret
  exact ⟨str_ret HE.out, d1⟩
set_option maxRecDepth 100000 in
set_option maxHeartbeats 8000000 in
theorem l8Line_2 (a : ActionT) (A1 A2 : Option Addr) (c1 c2 : Nat) (w : World) (h : a.op = 2) (hok : a.ok) (hW : actionW a ≤ 1048576) :
    Calls Tryz.prog 26 #[.agg #[.int .i64 a.op, .int .i64 a.slot, .int .i64 a.other, .string a.word, .string a.call.method, .string a.call.key, .int .i64 a.call.value, .string a.call.text, .int .i64 a.face, .slice A1 a.A.length c1, .slice A2 a.B.length c2]] w (StrPost a.txt w) := by
  have sl := ok_slot hok
  have FN := Lib.hid (fun W (_ : Chg [] w W) => formatNumber_spec_any a.slot W (by have := sl.1; omega) (by have := sl.2; omega))
  have ns := numT_size (n := a.slot) (by have := sl.1; omega) (by have := sl.2; omega)
  obtain ⟨n, hn⟩ : ∃ n, n = numT a.slot := ⟨_, rfl⟩
  rw [← hn] at FN ns
  have ac := (act_small hW).1
  obtain ⟨T, hT⟩ : ∃ T, T = a.txt := ⟨_, rfl⟩
  have hT2 := hT.trans (txt_1 (.inr h))
  rw [← hT]
  obtain ⟨x0, hx0⟩ : ∃ x, x = (⟨#[32]⟩ : ByteArray) ++ n := ⟨_, rfl⟩
  obtain ⟨x1, hx1⟩ : ∃ x, x = (⟨#[119, 114, 97, 112]⟩ : ByteArray) ++ x0 := ⟨_, rfl⟩
  obtain ⟨x3, hx3⟩ : ∃ x, x = x1 ++ (⟨#[32]⟩ : ByteArray) := ⟨_, rfl⟩
  obtain ⟨x4, hx4⟩ : ∃ x, x = x3 ++ a.word := ⟨_, rfl⟩
  have ex0 : (⟨#[32]⟩ : ByteArray).size = 1 := rfl
  have ex1 : (⟨#[119, 114, 97, 112]⟩ : ByteArray).size = 4 := rfl
  have ex3 : (⟨#[32]⟩ : ByteArray).size = 1 := rfl
  have zx0 := cat_sz hx0
  have zx1 := cat_sz hx1
  have zx3 := cat_sz hx3
  have zx4 := cat_sz hx4
  have kx0 := cat_is (P := Tryz.prog) hx0 (by omega)
  have kx1 := cat_is (P := Tryz.prog) hx1 (by omega)
  have kx3 := cat_is (P := Tryz.prog) hx3 (by omega)
  have kx4 := cat_is (P := Tryz.prog) hx4 (by omega)
  have HE : Hid (x4 = T) := by
    show _ = _
    rw [hT2, h, wordT_2, hx4, hx3, hx1, hx0, hn]
    try simp only [ByteArray.append_assoc]
  rw [h]
  clear ex0 ex1 ex3 zx0 zx1 zx3 zx4 hx0 hx1 hx3 hx4 hn ns sl hT hT2 hok h ac hW
  go_enter Tryz.func26, Tryz.ntmps26
  go_wp2_with fail
  obtain ⟨wb, hwb⟩ : ∃ wb, wb = w.alloc (.cells #[.int .i64 2, .int .i64 a.slot, .int .i64 a.other, .string a.word, .string a.call.method, .string a.call.key, .int .i64 a.call.value, .string a.call.text, .int .i64 a.face, .slice A1 a.A.length c1, .slice A2 a.B.length c2] 38) := ⟨_, rfl⟩
  have db : Chg [] w wb := hwb ▸ (Chg.refl [] w).alloc _
  have sb : w.heap.size < wb.heap.size := by rw [hwb]; simp
  have v0 : wb.cell? ⟨w.heap.size, 0, none⟩ = some (.int .i64 2) := by rw [hwb]; go_simp
  have v3 : wb.cell? ⟨w.heap.size, 3, none⟩ = some (.string a.word) := by rw [hwb]; go_simp
  rw [← hwb]
  clear hwb
  refine (FN.out _ db).mono ?_
  rintro e w1 ⟨rfl, k1⟩
  have p0 := (k1.cell (p := ⟨w.heap.size, 0, none⟩) sb (by simp)).trans v0
  have p3 := (k1.cell (p := ⟨w.heap.size, 3, none⟩) sb (by simp)).trans v3
  have hlt : w.heap.size < w1.heap.size := by have := k1.size; omega
  have d1 : Chg [] w w1 := db.trans0 k1
  clear k1 v0 v3
  go_wp2_with fail
  go_ret
  exact ⟨str_ret HE.out, d1⟩
set_option maxRecDepth 100000 in
set_option maxHeartbeats 8000000 in
theorem l8Line_3 (a : ActionT) (A1 A2 : Option Addr) (c1 c2 : Nat) (w : World) (h : a.op = 3) (hok : a.ok) :
    Calls Tryz.prog 26 #[.agg #[.int .i64 a.op, .int .i64 a.slot, .int .i64 a.other, .string a.word, .string a.call.method, .string a.call.key, .int .i64 a.call.value, .string a.call.text, .int .i64 a.face, .slice A1 a.A.length c1, .slice A2 a.B.length c2]] w (StrPost a.txt w) := by
  have sl := ok_slot hok
  have FN := Lib.hid (fun W (_ : Chg [] w W) => formatNumber_spec_any a.slot W (by have := sl.1; omega) (by have := sl.2; omega))
  have ns := numT_size (n := a.slot) (by have := sl.1; omega) (by have := sl.2; omega)
  obtain ⟨n, hn⟩ : ∃ n, n = numT a.slot := ⟨_, rfl⟩
  rw [← hn] at FN ns
  obtain ⟨T, hT⟩ : ∃ T, T = a.txt := ⟨_, rfl⟩
  have hT2 := hT.trans (txt_3 (.inl h))
  rw [← hT]
  obtain ⟨x0, hx0⟩ : ∃ x, x = (⟨#[32]⟩ : ByteArray) ++ n := ⟨_, rfl⟩
  obtain ⟨x1, hx1⟩ : ∃ x, x = (⟨#[117, 110, 119, 114, 97, 112]⟩ : ByteArray) ++ x0 := ⟨_, rfl⟩
  have ex0 : (⟨#[32]⟩ : ByteArray).size = 1 := rfl
  have ex1 : (⟨#[117, 110, 119, 114, 97, 112]⟩ : ByteArray).size = 6 := rfl
  have zx0 := cat_sz hx0
  have zx1 := cat_sz hx1
  have kx0 := cat_is (P := Tryz.prog) hx0 (by omega)
  have kx1 := cat_is (P := Tryz.prog) hx1 (by omega)
  have HE : Hid (x1 = T) := by
    show _ = _
    rw [hT2, h, wordT_3, hx1, hx0, hn]
    try simp only [ByteArray.append_assoc]
  rw [h]
  clear ex0 ex1 zx0 zx1 hx0 hx1 hn ns sl hT hT2 hok h
  go_enter Tryz.func26, Tryz.ntmps26
  go_wp2_with fail
  obtain ⟨wb, hwb⟩ : ∃ wb, wb = w.alloc (.cells #[.int .i64 3, .int .i64 a.slot, .int .i64 a.other, .string a.word, .string a.call.method, .string a.call.key, .int .i64 a.call.value, .string a.call.text, .int .i64 a.face, .slice A1 a.A.length c1, .slice A2 a.B.length c2] 38) := ⟨_, rfl⟩
  have db : Chg [] w wb := hwb ▸ (Chg.refl [] w).alloc _
  have sb : w.heap.size < wb.heap.size := by rw [hwb]; simp
  have v0 : wb.cell? ⟨w.heap.size, 0, none⟩ = some (.int .i64 3) := by rw [hwb]; go_simp
  rw [← hwb]
  clear hwb
  refine (FN.out _ db).mono ?_
  rintro e w1 ⟨rfl, k1⟩
  have p0 := (k1.cell (p := ⟨w.heap.size, 0, none⟩) sb (by simp)).trans v0
  have hlt : w.heap.size < w1.heap.size := by have := k1.size; omega
  have d1 : Chg [] w w1 := db.trans0 k1
  clear k1 v0
  go_wp2_with fail
  go_ret
  exact ⟨str_ret HE.out, d1⟩
set_option maxRecDepth 100000 in
set_option maxHeartbeats 8000000 in
theorem l8Line_4 (a : ActionT) (A1 A2 : Option Addr) (c1 c2 : Nat) (w : World) (h : a.op = 4) (hok : a.ok) :
    Calls Tryz.prog 26 #[.agg #[.int .i64 a.op, .int .i64 a.slot, .int .i64 a.other, .string a.word, .string a.call.method, .string a.call.key, .int .i64 a.call.value, .string a.call.text, .int .i64 a.face, .slice A1 a.A.length c1, .slice A2 a.B.length c2]] w (StrPost a.txt w) := by
  have sl := ok_slot hok
  have FN := Lib.hid (fun W (_ : Chg [] w W) => formatNumber_spec_any a.slot W (by have := sl.1; omega) (by have := sl.2; omega))
  have ns := numT_size (n := a.slot) (by have := sl.1; omega) (by have := sl.2; omega)
  obtain ⟨n, hn⟩ : ∃ n, n = numT a.slot := ⟨_, rfl⟩
  rw [← hn] at FN ns
  have so := ((okS_4 h).1 hok).2.1
  have FO := Lib.hid (fun W (_ : Chg [] w W) => formatNumber_spec_any a.other W (by have := so.1; omega) (by have := so.2; omega))
  have ms := numT_size (n := a.other) (by have := so.1; omega) (by have := so.2; omega)
  obtain ⟨m, hm⟩ : ∃ m, m = numT a.other := ⟨_, rfl⟩
  rw [← hm] at FO ms
  obtain ⟨T, hT⟩ : ∃ T, T = a.txt := ⟨_, rfl⟩
  have hT2 := hT.trans (txt_4 h)
  rw [← hT]
  obtain ⟨x0, hx0⟩ : ∃ x, x = (⟨#[32]⟩ : ByteArray) ++ n := ⟨_, rfl⟩
  obtain ⟨x1, hx1⟩ : ∃ x, x = (⟨#[99, 111, 112, 121]⟩ : ByteArray) ++ x0 := ⟨_, rfl⟩
  obtain ⟨x3, hx3⟩ : ∃ x, x = x1 ++ (⟨#[32, 102, 114, 111, 109, 32]⟩ : ByteArray) := ⟨_, rfl⟩
  obtain ⟨x4, hx4⟩ : ∃ x, x = x3 ++ m := ⟨_, rfl⟩
  have ex0 : (⟨#[32]⟩ : ByteArray).size = 1 := rfl
  have ex1 : (⟨#[99, 111, 112, 121]⟩ : ByteArray).size = 4 := rfl
  have ex3 : (⟨#[32, 102, 114, 111, 109, 32]⟩ : ByteArray).size = 6 := rfl
  have zx0 := cat_sz hx0
  have zx1 := cat_sz hx1
  have zx3 := cat_sz hx3
  have zx4 := cat_sz hx4
  have kx0 := cat_is (P := Tryz.prog) hx0 (by omega)
  have kx1 := cat_is (P := Tryz.prog) hx1 (by omega)
  have kx3 := cat_is (P := Tryz.prog) hx3 (by omega)
  have kx4 := cat_is (P := Tryz.prog) hx4 (by omega)
  have HE : Hid (x4 = T) := by
    show _ = _
    rw [hT2, h, wordT_4, hx4, hx3, hx1, hx0, hn, hm]
    try simp only [ByteArray.append_assoc]
  rw [h]
  clear ex0 ex1 ex3 zx0 zx1 zx3 zx4 hx0 hx1 hx3 hx4 hn hm ns sl hT hT2 hok h ms so
  go_enter Tryz.func26, Tryz.ntmps26
  go_wp2_with fail
  obtain ⟨wb, hwb⟩ : ∃ wb, wb = w.alloc (.cells #[.int .i64 4, .int .i64 a.slot, .int .i64 a.other, .string a.word, .string a.call.method, .string a.call.key, .int .i64 a.call.value, .string a.call.text, .int .i64 a.face, .slice A1 a.A.length c1, .slice A2 a.B.length c2] 38) := ⟨_, rfl⟩
  have db : Chg [] w wb := hwb ▸ (Chg.refl [] w).alloc _
  have sb : w.heap.size < wb.heap.size := by rw [hwb]; simp
  have v0 : wb.cell? ⟨w.heap.size, 0, none⟩ = some (.int .i64 4) := by rw [hwb]; go_simp
  have v2 : wb.cell? ⟨w.heap.size, 2, none⟩ = some (.int .i64 a.other) := by rw [hwb]; go_simp
  rw [← hwb]
  clear hwb
  refine (FN.out _ db).mono ?_
  rintro e w1 ⟨rfl, k1⟩
  have p0 := (k1.cell (p := ⟨w.heap.size, 0, none⟩) sb (by simp)).trans v0
  have p2 := (k1.cell (p := ⟨w.heap.size, 2, none⟩) sb (by simp)).trans v2
  have hlt : w.heap.size < w1.heap.size := by have := k1.size; omega
  have d1 : Chg [] w w1 := db.trans0 k1
  clear k1 v0 v2
  go_wp2_with fail
  refine (FO.out _ d1).mono ?_
  rintro e w2 ⟨rfl, k2⟩
  go_wp2_with fail
  go_ret
  exact ⟨str_ret HE.out, d1.trans0 k2⟩
set_option maxRecDepth 100000 in
set_option maxHeartbeats 8000000 in
theorem l8Line_5 (a : ActionT) (A1 A2 : Option Addr) (c1 c2 : Nat) (w : World) (h : a.op = 5) (hok : a.ok) :
    Calls Tryz.prog 26 #[.agg #[.int .i64 a.op, .int .i64 a.slot, .int .i64 a.other, .string a.word, .string a.call.method, .string a.call.key, .int .i64 a.call.value, .string a.call.text, .int .i64 a.face, .slice A1 a.A.length c1, .slice A2 a.B.length c2]] w (StrPost a.txt w) := by
  have sl := ok_slot hok
  have FN := Lib.hid (fun W (_ : Chg [] w W) => formatNumber_spec_any a.slot W (by have := sl.1; omega) (by have := sl.2; omega))
  have ns := numT_size (n := a.slot) (by have := sl.1; omega) (by have := sl.2; omega)
  obtain ⟨n, hn⟩ : ∃ n, n = numT a.slot := ⟨_, rfl⟩
  rw [← hn] at FN ns
  obtain ⟨T, hT⟩ : ∃ T, T = a.txt := ⟨_, rfl⟩
  have hT2 := hT.trans (txt_3 (.inr h))
  rw [← hT]
  obtain ⟨x0, hx0⟩ : ∃ x, x = (⟨#[32]⟩ : ByteArray) ++ n := ⟨_, rfl⟩
  obtain ⟨x1, hx1⟩ : ∃ x, x = (⟨#[100, 114, 111, 112]⟩ : ByteArray) ++ x0 := ⟨_, rfl⟩
  have ex0 : (⟨#[32]⟩ : ByteArray).size = 1 := rfl
  have ex1 : (⟨#[100, 114, 111, 112]⟩ : ByteArray).size = 4 := rfl
  have zx0 := cat_sz hx0
  have zx1 := cat_sz hx1
  have kx0 := cat_is (P := Tryz.prog) hx0 (by omega)
  have kx1 := cat_is (P := Tryz.prog) hx1 (by omega)
  have HE : Hid (x1 = T) := by
    show _ = _
    rw [hT2, h, wordT_5, hx1, hx0, hn]
    try simp only [ByteArray.append_assoc]
  rw [h]
  clear ex0 ex1 zx0 zx1 hx0 hx1 hn ns sl hT hT2 hok h
  go_enter Tryz.func26, Tryz.ntmps26
  go_wp2_with fail
  obtain ⟨wb, hwb⟩ : ∃ wb, wb = w.alloc (.cells #[.int .i64 5, .int .i64 a.slot, .int .i64 a.other, .string a.word, .string a.call.method, .string a.call.key, .int .i64 a.call.value, .string a.call.text, .int .i64 a.face, .slice A1 a.A.length c1, .slice A2 a.B.length c2] 38) := ⟨_, rfl⟩
  have db : Chg [] w wb := hwb ▸ (Chg.refl [] w).alloc _
  have sb : w.heap.size < wb.heap.size := by rw [hwb]; simp
  have v0 : wb.cell? ⟨w.heap.size, 0, none⟩ = some (.int .i64 5) := by rw [hwb]; go_simp
  rw [← hwb]
  clear hwb
  refine (FN.out _ db).mono ?_
  rintro e w1 ⟨rfl, k1⟩
  have p0 := (k1.cell (p := ⟨w.heap.size, 0, none⟩) sb (by simp)).trans v0
  have hlt : w.heap.size < w1.heap.size := by have := k1.size; omega
  have d1 : Chg [] w w1 := db.trans0 k1
  clear k1 v0
  go_wp2_with fail
  go_ret
  exact ⟨str_ret HE.out, d1⟩
set_option maxRecDepth 100000 in
set_option maxHeartbeats 8000000 in
theorem l8Line_6 (a : ActionT) (A1 A2 : Option Addr) (c1 c2 : Nat) (w : World) (h : a.op = 6) (hok : a.ok) :
    Calls Tryz.prog 26 #[.agg #[.int .i64 a.op, .int .i64 a.slot, .int .i64 a.other, .string a.word, .string a.call.method, .string a.call.key, .int .i64 a.call.value, .string a.call.text, .int .i64 a.face, .slice A1 a.A.length c1, .slice A2 a.B.length c2]] w (StrPost a.txt w) := by
  have sl := ok_slot hok
  have FN := Lib.hid (fun W (_ : Chg [] w W) => formatNumber_spec_any a.slot W (by have := sl.1; omega) (by have := sl.2; omega))
  have ns := numT_size (n := a.slot) (by have := sl.1; omega) (by have := sl.2; omega)
  obtain ⟨n, hn⟩ : ∃ n, n = numT a.slot := ⟨_, rfl⟩
  rw [← hn] at FN ns
  have FO := Lib.hid (fun W (_ : Chg [] w W) => formatFace_spec_any a.face W)
  have ms := faceT_size a.face
  obtain ⟨m, hm⟩ : ∃ m, m = faceT a.face := ⟨_, rfl⟩
  rw [← hm] at FO ms
  obtain ⟨T, hT⟩ : ∃ T, T = a.txt := ⟨_, rfl⟩
  have hT2 := hT.trans (txt_6 h)
  rw [← hT]
  obtain ⟨x0, hx0⟩ : ∃ x, x = (⟨#[32]⟩ : ByteArray) ++ n := ⟨_, rfl⟩
  obtain ⟨x1, hx1⟩ : ∃ x, x = (⟨#[97, 115, 107]⟩ : ByteArray) ++ x0 := ⟨_, rfl⟩
  obtain ⟨x3, hx3⟩ : ∃ x, x = x1 ++ (⟨#[32]⟩ : ByteArray) := ⟨_, rfl⟩
  obtain ⟨x4, hx4⟩ : ∃ x, x = x3 ++ m := ⟨_, rfl⟩
  have ex0 : (⟨#[32]⟩ : ByteArray).size = 1 := rfl
  have ex1 : (⟨#[97, 115, 107]⟩ : ByteArray).size = 3 := rfl
  have ex3 : (⟨#[32]⟩ : ByteArray).size = 1 := rfl
  have zx0 := cat_sz hx0
  have zx1 := cat_sz hx1
  have zx3 := cat_sz hx3
  have zx4 := cat_sz hx4
  have kx0 := cat_is (P := Tryz.prog) hx0 (by omega)
  have kx1 := cat_is (P := Tryz.prog) hx1 (by omega)
  have kx3 := cat_is (P := Tryz.prog) hx3 (by omega)
  have kx4 := cat_is (P := Tryz.prog) hx4 (by omega)
  have HE : Hid (x4 = T) := by
    show _ = _
    rw [hT2, h, wordT_6, hx4, hx3, hx1, hx0, hn, hm]
    try simp only [ByteArray.append_assoc]
  rw [h]
  clear ex0 ex1 ex3 zx0 zx1 zx3 zx4 hx0 hx1 hx3 hx4 hn hm ns sl hT hT2 hok h ms
  go_enter Tryz.func26, Tryz.ntmps26
  go_wp2_with fail
  obtain ⟨wb, hwb⟩ : ∃ wb, wb = w.alloc (.cells #[.int .i64 6, .int .i64 a.slot, .int .i64 a.other, .string a.word, .string a.call.method, .string a.call.key, .int .i64 a.call.value, .string a.call.text, .int .i64 a.face, .slice A1 a.A.length c1, .slice A2 a.B.length c2] 38) := ⟨_, rfl⟩
  have db : Chg [] w wb := hwb ▸ (Chg.refl [] w).alloc _
  have sb : w.heap.size < wb.heap.size := by rw [hwb]; simp
  have v0 : wb.cell? ⟨w.heap.size, 0, none⟩ = some (.int .i64 6) := by rw [hwb]; go_simp
  have v8 : wb.cell? ⟨w.heap.size, 8, none⟩ = some (.int .i64 a.face) := by rw [hwb]; go_simp
  rw [← hwb]
  clear hwb
  refine (FN.out _ db).mono ?_
  rintro e w1 ⟨rfl, k1⟩
  have p0 := (k1.cell (p := ⟨w.heap.size, 0, none⟩) sb (by simp)).trans v0
  have p8 := (k1.cell (p := ⟨w.heap.size, 8, none⟩) sb (by simp)).trans v8
  have hlt : w.heap.size < w1.heap.size := by have := k1.size; omega
  have d1 : Chg [] w w1 := db.trans0 k1
  clear k1 v0 v8
  go_wp2_with fail
  refine (FO.out _ d1).mono ?_
  rintro e w2 ⟨rfl, k2⟩
  go_wp2_with fail
  go_ret
  exact ⟨str_ret HE.out, d1.trans0 k2⟩
set_option maxRecDepth 100000 in
set_option maxHeartbeats 8000000 in
theorem l8Line_7 (a : ActionT) (A1 A2 : Option Addr) (c1 c2 : Nat) (w : World) (h : a.op = 7) (hok : a.ok) (hW : actionW a ≤ 1048576) :
    Calls Tryz.prog 26 #[.agg #[.int .i64 a.op, .int .i64 a.slot, .int .i64 a.other, .string a.word, .string a.call.method, .string a.call.key, .int .i64 a.call.value, .string a.call.text, .int .i64 a.face, .slice A1 a.A.length c1, .slice A2 a.B.length c2]] w (StrPost a.txt w) := by
  have sl := ok_slot hok
  have FN := Lib.hid (fun W (_ : Chg [] w W) => formatNumber_spec_any a.slot W (by have := sl.1; omega) (by have := sl.2; omega))
  have ns := numT_size (n := a.slot) (by have := sl.1; omega) (by have := sl.2; omega)
  obtain ⟨n, hn⟩ : ∃ n, n = numT a.slot := ⟨_, rfl⟩
  rw [← hn] at FN ns
  have asz := act_small hW
  have FO := Lib.hid (fun W (_ : Chg [] w W) => formatCall_spec_any a.call W asz.2.1 asz.2.2.1)
  have ms := callT_size (x := a.call)
  obtain ⟨m, hm⟩ : ∃ m, m = callT a.call := ⟨_, rfl⟩
  rw [← hm] at FO ms
  have ac := asz.2.2.2
  obtain ⟨T, hT⟩ : ∃ T, T = a.txt := ⟨_, rfl⟩
  have hT2 := hT.trans (txt_7 h)
  rw [← hT]
  obtain ⟨x0, hx0⟩ : ∃ x, x = (⟨#[32]⟩ : ByteArray) ++ n := ⟨_, rfl⟩
  obtain ⟨x1, hx1⟩ : ∃ x, x = (⟨#[99, 97, 108, 108]⟩ : ByteArray) ++ x0 := ⟨_, rfl⟩
  obtain ⟨x3, hx3⟩ : ∃ x, x = x1 ++ (⟨#[32]⟩ : ByteArray) := ⟨_, rfl⟩
  obtain ⟨x4, hx4⟩ : ∃ x, x = x3 ++ m := ⟨_, rfl⟩
  have ex0 : (⟨#[32]⟩ : ByteArray).size = 1 := rfl
  have ex1 : (⟨#[99, 97, 108, 108]⟩ : ByteArray).size = 4 := rfl
  have ex3 : (⟨#[32]⟩ : ByteArray).size = 1 := rfl
  have zx0 := cat_sz hx0
  have zx1 := cat_sz hx1
  have zx3 := cat_sz hx3
  have zx4 := cat_sz hx4
  have kx0 := cat_is (P := Tryz.prog) hx0 (by omega)
  have kx1 := cat_is (P := Tryz.prog) hx1 (by omega)
  have kx3 := cat_is (P := Tryz.prog) hx3 (by omega)
  have kx4 := cat_is (P := Tryz.prog) hx4 (by omega)
  have HE : Hid (x4 = T) := by
    show _ = _
    rw [hT2, h, wordT_7, hx4, hx3, hx1, hx0, hn, hm]
    try simp only [ByteArray.append_assoc]
  rw [h]
  clear ex0 ex1 ex3 zx0 zx1 zx3 zx4 hx0 hx1 hx3 hx4 hn hm ns sl hT hT2 hok h ms ac asz hW
  go_enter Tryz.func26, Tryz.ntmps26
  go_wp2_with fail
  obtain ⟨wb, hwb⟩ : ∃ wb, wb = w.alloc (.cells #[.int .i64 7, .int .i64 a.slot, .int .i64 a.other, .string a.word, .string a.call.method, .string a.call.key, .int .i64 a.call.value, .string a.call.text, .int .i64 a.face, .slice A1 a.A.length c1, .slice A2 a.B.length c2] 38) := ⟨_, rfl⟩
  have db : Chg [] w wb := hwb ▸ (Chg.refl [] w).alloc _
  have sb : w.heap.size < wb.heap.size := by rw [hwb]; simp
  have v0 : wb.cell? ⟨w.heap.size, 0, none⟩ = some (.int .i64 7) := by rw [hwb]; go_simp
  have v4 : wb.cell? ⟨w.heap.size, 4, none⟩ = some (.string a.call.method) := by rw [hwb]; go_simp
  have v5 : wb.cell? ⟨w.heap.size, 5, none⟩ = some (.string a.call.key) := by rw [hwb]; go_simp
  have v6 : wb.cell? ⟨w.heap.size, 6, none⟩ = some (.int .i64 a.call.value) := by rw [hwb]; go_simp
  have v7 : wb.cell? ⟨w.heap.size, 7, none⟩ = some (.string a.call.text) := by rw [hwb]; go_simp
  rw [← hwb]
  clear hwb
  refine (FN.out _ db).mono ?_
  rintro e w1 ⟨rfl, k1⟩
  have p0 := (k1.cell (p := ⟨w.heap.size, 0, none⟩) sb (by simp)).trans v0
  have p4 := (k1.cell (p := ⟨w.heap.size, 4, none⟩) sb (by simp)).trans v4
  have p5 := (k1.cell (p := ⟨w.heap.size, 5, none⟩) sb (by simp)).trans v5
  have p6 := (k1.cell (p := ⟨w.heap.size, 6, none⟩) sb (by simp)).trans v6
  have p7 := (k1.cell (p := ⟨w.heap.size, 7, none⟩) sb (by simp)).trans v7
  have hlt : w.heap.size < w1.heap.size := by have := k1.size; omega
  have d1 : Chg [] w w1 := db.trans0 k1
  clear k1 v0 v4 v5 v6 v7
  go_wp2_with fail
  refine (FO.out _ d1).mono ?_
  rintro e w2 ⟨rfl, k2⟩
  go_wp2_with fail
  go_ret
  exact ⟨str_ret HE.out, d1.trans0 k2⟩
set_option maxRecDepth 100000 in
set_option maxHeartbeats 8000000 in
theorem l8Line_8 (a : ActionT) (A1 A2 : Option Addr) (c1 c2 : Nat) (w : World) (h : a.op = 8) (hok : a.ok) (hz : a.size ≤ 14) (hW : actionW a ≤ 1048576) (IA : ∀ W, Chg [] w W → Calls Tryz.prog 38 #[.slice A1 a.A.length c1] W (StrPost (bodyT (txtL a.A)) W)) (IB : ∀ W, Chg [] w W → Calls Tryz.prog 38 #[.slice A2 a.B.length c2] W (StrPost (bodyT (txtL a.B)) W)) :
    Calls Tryz.prog 26 #[.agg #[.int .i64 a.op, .int .i64 a.slot, .int .i64 a.other, .string a.word, .string a.call.method, .string a.call.key, .int .i64 a.call.value, .string a.call.text, .int .i64 a.face, .slice A1 a.A.length c1, .slice A2 a.B.length c2]] w (StrPost a.txt w) := by
  have sl := ok_slot hok
  have FN := Lib.hid (fun W (_ : Chg [] w W) => formatNumber_spec_any a.slot W (by have := sl.1; omega) (by have := sl.2; omega))
  have ns := numT_size (n := a.slot) (by have := sl.1; omega) (by have := sl.2; omega)
  obtain ⟨n, hn⟩ : ∃ n, n = numT a.slot := ⟨_, rfl⟩
  rw [← hn] at FN ns
  have bs := body_small hok hz hW
  have bA_ := bs.1
  have IA := Lib.hid IA
  obtain ⟨bA, hbA⟩ : ∃ b, b = bodyT (txtL a.A) := ⟨_, rfl⟩
  rw [← hbA] at IA bA_
  have bB_ := bs.2.1
  have IB := Lib.hid IB
  obtain ⟨bB, hbB⟩ : ∃ b, b = bodyT (txtL a.B) := ⟨_, rfl⟩
  rw [← hbB] at IB bB_
  clear bs
  obtain ⟨T, hT⟩ : ∃ T, T = a.txt := ⟨_, rfl⟩
  have hT2 := hT.trans (txt_8 (.inl h))
  rw [← hT]
  obtain ⟨x0, hx0⟩ : ∃ x, x = (⟨#[32]⟩ : ByteArray) ++ n := ⟨_, rfl⟩
  obtain ⟨y1, hy1⟩ : ∃ x, x = (⟨#[105, 102, 32, 123, 32]⟩ : ByteArray) ++ bA := ⟨_, rfl⟩
  obtain ⟨y2, hy2⟩ : ∃ x, x = y1 ++ (⟨#[125, 32, 101, 108, 115, 101, 32, 123, 32]⟩ : ByteArray) := ⟨_, rfl⟩
  obtain ⟨y3, hy3⟩ : ∃ x, x = y2 ++ bB := ⟨_, rfl⟩
  obtain ⟨y4, hy4⟩ : ∃ x, x = y3 ++ (⟨#[125]⟩ : ByteArray) := ⟨_, rfl⟩
  have ex0 : (⟨#[32]⟩ : ByteArray).size = 1 := rfl
  have ey1 : (⟨#[105, 102, 32, 123, 32]⟩ : ByteArray).size = 5 := rfl
  have ey2 : (⟨#[125, 32, 101, 108, 115, 101, 32, 123, 32]⟩ : ByteArray).size = 9 := rfl
  have ey4 : (⟨#[125]⟩ : ByteArray).size = 1 := rfl
  have zx0 := cat_sz hx0
  have zy1 := cat_sz hy1
  have zy2 := cat_sz hy2
  have zy3 := cat_sz hy3
  have zy4 := cat_sz hy4
  have kx0 := cat_is (P := Tryz.prog) hx0 (by omega)
  have ky1 := cat_is (P := Tryz.prog) hy1 (by omega)
  have ky2 := cat_is (P := Tryz.prog) hy2 (by omega)
  have ky3 := cat_is (P := Tryz.prog) hy3 (by omega)
  have ky4 := cat_is (P := Tryz.prog) hy4 (by omega)
  have HE : Hid (y4 = T) := by
    show _ = _
    rw [hT2, h, wordT_8, blk_body, blk_body, hy4, hy3, hy2, hy1, hbA, hbB, show (⟨#[105, 102, 32, 123, 32]⟩ : ByteArray) = ⟨#[105, 102]⟩ ++ ⟨#[32]⟩ ++ ⟨#[123, 32]⟩ from rfl, show (⟨#[125, 32, 101, 108, 115, 101, 32, 123, 32]⟩ : ByteArray) = ⟨#[125]⟩ ++ ⟨#[32, 101, 108, 115, 101, 32]⟩ ++ ⟨#[123, 32]⟩ from rfl]
    try simp only [ByteArray.append_assoc]
  rw [h]
  clear ex0 ey1 ey2 ey4 zx0 zy1 zy2 zy3 zy4 hx0 hy1 hy2 hy3 hy4 hn hbA hbB ns sl hT hT2 hok h hz hW bA_ bB_
  go_enter Tryz.func26, Tryz.ntmps26
  go_wp2_with fail
  obtain ⟨wb, hwb⟩ : ∃ wb, wb = w.alloc (.cells #[.int .i64 8, .int .i64 a.slot, .int .i64 a.other, .string a.word, .string a.call.method, .string a.call.key, .int .i64 a.call.value, .string a.call.text, .int .i64 a.face, .slice A1 a.A.length c1, .slice A2 a.B.length c2] 38) := ⟨_, rfl⟩
  have db : Chg [] w wb := hwb ▸ (Chg.refl [] w).alloc _
  have sb : w.heap.size < wb.heap.size := by rw [hwb]; simp
  have v0 : wb.cell? ⟨w.heap.size, 0, none⟩ = some (.int .i64 8) := by rw [hwb]; go_simp
  have v9 : wb.cell? ⟨w.heap.size, 9, none⟩ = some (.slice A1 a.A.length c1) := by rw [hwb]; go_simp
  have v10 : wb.cell? ⟨w.heap.size, 10, none⟩ = some (.slice A2 a.B.length c2) := by rw [hwb]; go_simp
  rw [← hwb]
  clear hwb
  refine (FN.out _ db).mono ?_
  rintro e w1 ⟨rfl, k1⟩
  have p0 := (k1.cell (p := ⟨w.heap.size, 0, none⟩) sb (by simp)).trans v0
  have p9 := (k1.cell (p := ⟨w.heap.size, 9, none⟩) sb (by simp)).trans v9
  have p10 := (k1.cell (p := ⟨w.heap.size, 10, none⟩) sb (by simp)).trans v10
  have hlt : w.heap.size < w1.heap.size := by have := k1.size; omega
  have d1 : Chg [] w w1 := db.trans0 k1
  clear k1 v0 v9 v10
  go_wp2_with fail
  go_region_held3 (fun w' => w'.cell? ⟨w.heap.size, 9, none⟩ = some (.slice A1 a.A.length c1) ∧ w'.cell? ⟨w.heap.size, 10, none⟩ = some (.slice A2 a.B.length c2) ∧ w.heap.size < w'.heap.size ∧ Chg [] w w') (first | exact ⟨p9, p10, hlt, d1.drew⟩ | exact ⟨(c1.cell E3 (by simp)).trans E1, (c1.cell E3 (by simp)).trans E2, by have := c1.size; omega, E4.trans0 c1⟩) (first | (go_at_call 38; obtain ⟨E1, E2, E3, E4⟩ := ‹_ ∧ _ ∧ _ ∧ Chg [] w _›; (with_reducible refine (IA.out _ E4).mono ?_); rintro e w1 ⟨rfl, c1⟩) | (go_at_call 38; obtain ⟨E1, E2, E3, E4⟩ := ‹_ ∧ _ ∧ _ ∧ Chg [] w _›; (with_reducible refine (IB.out _ E4).mono ?_); rintro e w1 ⟨rfl, c1⟩))
  obtain ⟨_, _, _, E⟩ := ‹_ ∧ _ ∧ _ ∧ Chg [] w _›
  go_wp2_with fail
  go_ret
  exact ⟨str_ret HE.out, E⟩
set_option maxRecDepth 100000 in
set_option maxHeartbeats 8000000 in
theorem l8Line_9 (a : ActionT) (A1 A2 : Option Addr) (c1 c2 : Nat) (w : World) (h : a.op = 9) (hok : a.ok) (hz : a.size ≤ 14) (hW : actionW a ≤ 1048576) (IA : ∀ W, Chg [] w W → Calls Tryz.prog 38 #[.slice A1 a.A.length c1] W (StrPost (bodyT (txtL a.A)) W)) :
    Calls Tryz.prog 26 #[.agg #[.int .i64 a.op, .int .i64 a.slot, .int .i64 a.other, .string a.word, .string a.call.method, .string a.call.key, .int .i64 a.call.value, .string a.call.text, .int .i64 a.face, .slice A1 a.A.length c1, .slice A2 a.B.length c2]] w (StrPost a.txt w) := by
  have sl := ok_slot hok
  have FN := Lib.hid (fun W (_ : Chg [] w W) => formatNumber_spec_any a.slot W (by have := sl.1; omega) (by have := sl.2; omega))
  have ns := numT_size (n := a.slot) (by have := sl.1; omega) (by have := sl.2; omega)
  obtain ⟨n, hn⟩ : ∃ n, n = numT a.slot := ⟨_, rfl⟩
  rw [← hn] at FN ns
  have bs := body_small hok hz hW
  have bA_ := bs.1
  have IA := Lib.hid IA
  obtain ⟨bA, hbA⟩ : ∃ b, b = bodyT (txtL a.A) := ⟨_, rfl⟩
  rw [← hbA] at IA bA_
  clear bs
  obtain ⟨T, hT⟩ : ∃ T, T = a.txt := ⟨_, rfl⟩
  have hT2 := hT.trans (txt_9 h)
  rw [← hT]
  obtain ⟨x0, hx0⟩ : ∃ x, x = (⟨#[32]⟩ : ByteArray) ++ n := ⟨_, rfl⟩
  obtain ⟨y1, hy1⟩ : ∃ x, x = (⟨#[108, 111, 111, 112, 32, 123, 32]⟩ : ByteArray) ++ bA := ⟨_, rfl⟩
  obtain ⟨y2, hy2⟩ : ∃ x, x = y1 ++ (⟨#[125]⟩ : ByteArray) := ⟨_, rfl⟩
  have ex0 : (⟨#[32]⟩ : ByteArray).size = 1 := rfl
  have ey1 : (⟨#[108, 111, 111, 112, 32, 123, 32]⟩ : ByteArray).size = 7 := rfl
  have ey2 : (⟨#[125]⟩ : ByteArray).size = 1 := rfl
  have zx0 := cat_sz hx0
  have zy1 := cat_sz hy1
  have zy2 := cat_sz hy2
  have kx0 := cat_is (P := Tryz.prog) hx0 (by omega)
  have ky1 := cat_is (P := Tryz.prog) hy1 (by omega)
  have ky2 := cat_is (P := Tryz.prog) hy2 (by omega)
  have HE : Hid (y2 = T) := by
    show _ = _
    rw [hT2, h, wordT_9, blk_body, hy2, hy1, hbA, show (⟨#[108, 111, 111, 112, 32, 123, 32]⟩ : ByteArray) = ⟨#[108, 111, 111, 112]⟩ ++ ⟨#[32]⟩ ++ ⟨#[123, 32]⟩ from rfl]
    try simp only [ByteArray.append_assoc]
  rw [h]
  clear ex0 ey1 ey2 zx0 zy1 zy2 hx0 hy1 hy2 hn hbA ns sl hT hT2 hok h hz hW bA_
  go_enter Tryz.func26, Tryz.ntmps26
  go_wp2_with fail
  obtain ⟨wb, hwb⟩ : ∃ wb, wb = w.alloc (.cells #[.int .i64 9, .int .i64 a.slot, .int .i64 a.other, .string a.word, .string a.call.method, .string a.call.key, .int .i64 a.call.value, .string a.call.text, .int .i64 a.face, .slice A1 a.A.length c1, .slice A2 a.B.length c2] 38) := ⟨_, rfl⟩
  have db : Chg [] w wb := hwb ▸ (Chg.refl [] w).alloc _
  have sb : w.heap.size < wb.heap.size := by rw [hwb]; simp
  have v0 : wb.cell? ⟨w.heap.size, 0, none⟩ = some (.int .i64 9) := by rw [hwb]; go_simp
  have v9 : wb.cell? ⟨w.heap.size, 9, none⟩ = some (.slice A1 a.A.length c1) := by rw [hwb]; go_simp
  rw [← hwb]
  clear hwb
  refine (FN.out _ db).mono ?_
  rintro e w1 ⟨rfl, k1⟩
  have p0 := (k1.cell (p := ⟨w.heap.size, 0, none⟩) sb (by simp)).trans v0
  have p9 := (k1.cell (p := ⟨w.heap.size, 9, none⟩) sb (by simp)).trans v9
  have hlt : w.heap.size < w1.heap.size := by have := k1.size; omega
  have d1 : Chg [] w w1 := db.trans0 k1
  clear k1 v0 v9
  go_wp2_with fail
  refine (IA.out _ d1).mono ?_
  rintro e w2 ⟨rfl, k2⟩
  go_wp2_with fail
  go_ret
  exact ⟨str_ret HE.out, d1.trans0 k2⟩
set_option maxRecDepth 100000 in
set_option maxHeartbeats 8000000 in
theorem l8Line_10 (a : ActionT) (A1 A2 : Option Addr) (c1 c2 : Nat) (w : World) (h : a.op = 10) (hok : a.ok) (hz : a.size ≤ 14) (hW : actionW a ≤ 1048576) (IA : ∀ W, Chg [] w W → Calls Tryz.prog 38 #[.slice A1 a.A.length c1] W (StrPost (bodyT (txtL a.A)) W)) (IB : ∀ W, Chg [] w W → Calls Tryz.prog 38 #[.slice A2 a.B.length c2] W (StrPost (bodyT (txtL a.B)) W)) :
    Calls Tryz.prog 26 #[.agg #[.int .i64 a.op, .int .i64 a.slot, .int .i64 a.other, .string a.word, .string a.call.method, .string a.call.key, .int .i64 a.call.value, .string a.call.text, .int .i64 a.face, .slice A1 a.A.length c1, .slice A2 a.B.length c2]] w (StrPost a.txt w) := by
  have sl := ok_slot hok
  have FN := Lib.hid (fun W (_ : Chg [] w W) => formatNumber_spec_any a.slot W (by have := sl.1; omega) (by have := sl.2; omega))
  have ns := numT_size (n := a.slot) (by have := sl.1; omega) (by have := sl.2; omega)
  obtain ⟨n, hn⟩ : ∃ n, n = numT a.slot := ⟨_, rfl⟩
  rw [← hn] at FN ns
  have bs := body_small hok hz hW
  have bA_ := bs.1
  have IA := Lib.hid IA
  obtain ⟨bA, hbA⟩ : ∃ b, b = bodyT (txtL a.A) := ⟨_, rfl⟩
  rw [← hbA] at IA bA_
  have bB_ := bs.2.1
  have IB := Lib.hid IB
  obtain ⟨bB, hbB⟩ : ∃ b, b = bodyT (txtL a.B) := ⟨_, rfl⟩
  rw [← hbB] at IB bB_
  clear bs
  obtain ⟨T, hT⟩ : ∃ T, T = a.txt := ⟨_, rfl⟩
  have hT2 := hT.trans (txt_8 (.inr h))
  rw [← hT]
  obtain ⟨x0, hx0⟩ : ∃ x, x = (⟨#[32]⟩ : ByteArray) ++ n := ⟨_, rfl⟩
  obtain ⟨y1, hy1⟩ : ∃ x, x = (⟨#[116, 114, 121, 32, 123, 32]⟩ : ByteArray) ++ bA := ⟨_, rfl⟩
  obtain ⟨y2, hy2⟩ : ∃ x, x = y1 ++ (⟨#[125, 32, 101, 108, 115, 101, 32, 123, 32]⟩ : ByteArray) := ⟨_, rfl⟩
  obtain ⟨y3, hy3⟩ : ∃ x, x = y2 ++ bB := ⟨_, rfl⟩
  obtain ⟨y4, hy4⟩ : ∃ x, x = y3 ++ (⟨#[125]⟩ : ByteArray) := ⟨_, rfl⟩
  have ex0 : (⟨#[32]⟩ : ByteArray).size = 1 := rfl
  have ey1 : (⟨#[116, 114, 121, 32, 123, 32]⟩ : ByteArray).size = 6 := rfl
  have ey2 : (⟨#[125, 32, 101, 108, 115, 101, 32, 123, 32]⟩ : ByteArray).size = 9 := rfl
  have ey4 : (⟨#[125]⟩ : ByteArray).size = 1 := rfl
  have zx0 := cat_sz hx0
  have zy1 := cat_sz hy1
  have zy2 := cat_sz hy2
  have zy3 := cat_sz hy3
  have zy4 := cat_sz hy4
  have kx0 := cat_is (P := Tryz.prog) hx0 (by omega)
  have ky1 := cat_is (P := Tryz.prog) hy1 (by omega)
  have ky2 := cat_is (P := Tryz.prog) hy2 (by omega)
  have ky3 := cat_is (P := Tryz.prog) hy3 (by omega)
  have ky4 := cat_is (P := Tryz.prog) hy4 (by omega)
  have HE : Hid (y4 = T) := by
    show _ = _
    rw [hT2, h, wordT_10, blk_body, blk_body, hy4, hy3, hy2, hy1, hbA, hbB, show (⟨#[116, 114, 121, 32, 123, 32]⟩ : ByteArray) = ⟨#[116, 114, 121]⟩ ++ ⟨#[32]⟩ ++ ⟨#[123, 32]⟩ from rfl, show (⟨#[125, 32, 101, 108, 115, 101, 32, 123, 32]⟩ : ByteArray) = ⟨#[125]⟩ ++ ⟨#[32, 101, 108, 115, 101, 32]⟩ ++ ⟨#[123, 32]⟩ from rfl]
    try simp only [ByteArray.append_assoc]
  rw [h]
  clear ex0 ey1 ey2 ey4 zx0 zy1 zy2 zy3 zy4 hx0 hy1 hy2 hy3 hy4 hn hbA hbB ns sl hT hT2 hok h hz hW bA_ bB_
  go_enter Tryz.func26, Tryz.ntmps26
  go_wp2_with fail
  obtain ⟨wb, hwb⟩ : ∃ wb, wb = w.alloc (.cells #[.int .i64 10, .int .i64 a.slot, .int .i64 a.other, .string a.word, .string a.call.method, .string a.call.key, .int .i64 a.call.value, .string a.call.text, .int .i64 a.face, .slice A1 a.A.length c1, .slice A2 a.B.length c2] 38) := ⟨_, rfl⟩
  have db : Chg [] w wb := hwb ▸ (Chg.refl [] w).alloc _
  have sb : w.heap.size < wb.heap.size := by rw [hwb]; simp
  have v0 : wb.cell? ⟨w.heap.size, 0, none⟩ = some (.int .i64 10) := by rw [hwb]; go_simp
  have v9 : wb.cell? ⟨w.heap.size, 9, none⟩ = some (.slice A1 a.A.length c1) := by rw [hwb]; go_simp
  have v10 : wb.cell? ⟨w.heap.size, 10, none⟩ = some (.slice A2 a.B.length c2) := by rw [hwb]; go_simp
  rw [← hwb]
  clear hwb
  refine (FN.out _ db).mono ?_
  rintro e w1 ⟨rfl, k1⟩
  have p0 := (k1.cell (p := ⟨w.heap.size, 0, none⟩) sb (by simp)).trans v0
  have p9 := (k1.cell (p := ⟨w.heap.size, 9, none⟩) sb (by simp)).trans v9
  have p10 := (k1.cell (p := ⟨w.heap.size, 10, none⟩) sb (by simp)).trans v10
  have hlt : w.heap.size < w1.heap.size := by have := k1.size; omega
  have d1 : Chg [] w w1 := db.trans0 k1
  clear k1 v0 v9 v10
  go_wp2_with fail
  go_region_held3 (fun w' => w'.cell? ⟨w.heap.size, 9, none⟩ = some (.slice A1 a.A.length c1) ∧ w'.cell? ⟨w.heap.size, 10, none⟩ = some (.slice A2 a.B.length c2) ∧ w.heap.size < w'.heap.size ∧ Chg [] w w') (first | exact ⟨p9, p10, hlt, d1.drew⟩ | exact ⟨(c1.cell E3 (by simp)).trans E1, (c1.cell E3 (by simp)).trans E2, by have := c1.size; omega, E4.trans0 c1⟩) (first | (go_at_call 38; obtain ⟨E1, E2, E3, E4⟩ := ‹_ ∧ _ ∧ _ ∧ Chg [] w _›; (with_reducible refine (IA.out _ E4).mono ?_); rintro e w1 ⟨rfl, c1⟩) | (go_at_call 38; obtain ⟨E1, E2, E3, E4⟩ := ‹_ ∧ _ ∧ _ ∧ Chg [] w _›; (with_reducible refine (IB.out _ E4).mono ?_); rintro e w1 ⟨rfl, c1⟩))
  obtain ⟨_, _, _, E⟩ := ‹_ ∧ _ ∧ _ ∧ Chg [] w _›
  go_wp2_with fail
  go_ret
  exact ⟨str_ret HE.out, E⟩
theorem l8Line_any (a : ActionT) (A1 A2 : Option Addr) (c1 c2 : Nat) (w : World) (hok : a.ok) (hz : a.size ≤ 14) (hW : actionW a ≤ 1048576) (IA : ∀ W, Chg [] w W → Calls Tryz.prog 38 #[.slice A1 a.A.length c1] W (StrPost (bodyT (txtL a.A)) W)) (IB : ∀ W, Chg [] w W → Calls Tryz.prog 38 #[.slice A2 a.B.length c2] W (StrPost (bodyT (txtL a.B)) W)) :
    Calls Tryz.prog 26 #[.agg #[.int .i64 a.op, .int .i64 a.slot, .int .i64 a.other, .string a.word, .string a.call.method, .string a.call.key, .int .i64 a.call.value, .string a.call.text, .int .i64 a.face, .slice A1 a.A.length c1, .slice A2 a.B.length c2]] w (StrPost a.txt w) := by
  rcases op_cases a.op with (h | h | h | h | h | h | h | h | h | h) | h
  · exact l8Line_1 a A1 A2 c1 c2 w h hok hW
  · exact l8Line_2 a A1 A2 c1 c2 w h hok hW
  · exact l8Line_3 a A1 A2 c1 c2 w h hok
  · exact l8Line_4 a A1 A2 c1 c2 w h hok
  · exact l8Line_5 a A1 A2 c1 c2 w h hok
  · exact l8Line_6 a A1 A2 c1 c2 w h hok
  · exact l8Line_7 a A1 A2 c1 c2 w h hok hW
  · exact l8Line_8 a A1 A2 c1 c2 w h hok hz hW IA IB
  · exact l8Line_9 a A1 A2 c1 c2 w h hok hz hW IA
  · exact l8Line_10 a A1 A2 c1 c2 w h hok hz hW IA IB
  · exact absurd (ok_op hok) h.1
end Go.Proofs.YtgnggiibhkphjaaGreatDoor
namespace Go.Proofs.YtgnggiibhkphjaaGreatDoor
open Go.RowKit

/-- The words of the kinds of actions stand in their variable. -/
def WordsAt (w : World) : Prop := 0 < w.heap.size ∧ ∀ k : Fin 11, w.cell? ⟨0, k, none⟩ = some (.string (planWordsL.getD k ⟨#[]⟩))
theorem WordsAt.keep {w w' : World} (h : WordsAt w) (hc : Chg [] w w') : WordsAt w' :=
  ⟨Nat.lt_of_lt_of_le h.1 hc.size, fun k => (hc.cell (p := ⟨0, k, none⟩) h.1 (by simp)).trans (h.2 k)⟩
/-- What the program's writing leans on. -/
def EnvT (w : World) : Prop := Env w ∧ AbilAt w ∧ WordsAt w
theorem EnvT.keep {w w' : World} (h : EnvT w) (hc : Chg [] w w') : EnvT w' := ⟨h.1.keep hc, h.2.1.keep hc, h.2.2.keep hc⟩
set_option maxRecDepth 100000 in
set_option maxHeartbeats 8000000 in
theorem actionText_1 (a : ActionT) (A1 A2 : Option Addr) (c1 c2 : Nat) (w : World) (h : a.op = 1) (hok : a.ok) (hW : actionW a ≤ 1048576) (hE : EnvT w) :
    Calls Tryz.prog 39 #[.agg #[.int .i64 a.op, .int .i64 a.slot, .int .i64 a.other, .string a.word, .string a.call.method, .string a.call.key, .int .i64 a.call.value, .string a.call.text, .int .i64 a.face, .slice A1 a.A.length c1, .slice A2 a.B.length c2]] w (StrPost a.txt w) := by
  have sl := ok_slot hok
  have FN := Lib.hid (fun W (hc : Chg [] w W) => formatNumber_impl_any a.slot W (by have := sl.1; omega) (by have := sl.2; omega) (hE.1.pow.keep hc))
  have ns := numT_size (n := a.slot) (by have := sl.1; omega) (by have := sl.2; omega)
  obtain ⟨n, hn⟩ : ∃ n, n = numT a.slot := ⟨_, rfl⟩
  rw [← hn] at FN ns
  have ac := (act_small hW).1
  obtain ⟨wd, hwd⟩ : ∃ d, d = (⟨#[109, 97, 107, 101]⟩ : ByteArray) := ⟨_, rfl⟩
  have wds : wd.size = 4 := by rw [hwd]; rfl
  have db0 : Chg [] w (w.alloc (.cells #[.int .i64 1, .int .i64 a.slot, .int .i64 a.other, .string a.word, .string a.call.method, .string a.call.key, .int .i64 a.call.value, .string a.call.text, .int .i64 a.face, .slice A1 a.A.length c1, .slice A2 a.B.length c2] 38)) := (Chg.refl [] w).alloc _
  have qw : (w.alloc (.cells #[.int .i64 1, .int .i64 a.slot, .int .i64 a.other, .string a.word, .string a.call.method, .string a.call.key, .int .i64 a.call.value, .string a.call.text, .int .i64 a.face, .slice A1 a.A.length c1, .slice A2 a.B.length c2] 38)).cell? ⟨0, 1, none⟩ = some (.string wd) := (db0.cell (p := ⟨0, 1, none⟩) hE.2.2.1 (by simp)).trans (by rw [hwd]; exact hE.2.2.2 ⟨1, by decide⟩)
  clear db0
  obtain ⟨T, hT⟩ : ∃ T, T = a.txt := ⟨_, rfl⟩
  have hT2 := hT.trans (txt_1 (.inl h))
  rw [← hT]
  obtain ⟨x1, hx1⟩ : ∃ x, x = wd ++ (⟨#[32]⟩ : ByteArray) := ⟨_, rfl⟩
  obtain ⟨x2, hx2⟩ : ∃ x, x = x1 ++ n := ⟨_, rfl⟩
  obtain ⟨x3, hx3⟩ : ∃ x, x = x2 ++ (⟨#[32]⟩ : ByteArray) := ⟨_, rfl⟩
  obtain ⟨x4, hx4⟩ : ∃ x, x = x3 ++ a.word := ⟨_, rfl⟩
  have ex1 : (⟨#[32]⟩ : ByteArray).size = 1 := rfl
  have ex3 : (⟨#[32]⟩ : ByteArray).size = 1 := rfl
  have zx1 := cat_sz hx1
  have zx2 := cat_sz hx2
  have zx3 := cat_sz hx3
  have zx4 := cat_sz hx4
  have kx1 := cat_is (P := Tryz.prog) hx1 (by omega)
  have kx2 := cat_is (P := Tryz.prog) hx2 (by omega)
  have kx3 := cat_is (P := Tryz.prog) hx3 (by omega)
  have kx4 := cat_is (P := Tryz.prog) hx4 (by omega)
  have HE : Hid (x4 = T) := by
    show _ = _
    rw [hT2, h, wordT_1, hx4, hx3, hx2, hx1, hn, hwd]
    try simp only [ByteArray.append_assoc]
  rw [h]
  clear ex1 ex3 zx1 zx2 zx3 zx4 hx1 hx2 hx3 hx4 hn hwd ns sl hT hT2 hok h ac hW hE wds
  go_enter Tryz.func39, Tryz.ntmps39
  go_wp2_with fail
  obtain ⟨wb, hwb⟩ : ∃ wb, wb = w.alloc (.cells #[.int .i64 1, .int .i64 a.slot, .int .i64 a.other, .string a.word, .string a.call.method, .string a.call.key, .int .i64 a.call.value, .string a.call.text, .int .i64 a.face, .slice A1 a.A.length c1, .slice A2 a.B.length c2] 38) := ⟨_, rfl⟩
  have db : Chg [] w wb := hwb ▸ (Chg.refl [] w).alloc _
  have sb : w.heap.size < wb.heap.size := by rw [hwb]; simp
  have v0 : wb.cell? ⟨w.heap.size, 0, none⟩ = some (.int .i64 1) := by rw [hwb]; go_simp
  have v3 : wb.cell? ⟨w.heap.size, 3, none⟩ = some (.string a.word) := by rw [hwb]; go_simp
  rw [← hwb]
  clear hwb qw
  refine (FN.out _ db).mono ?_
  rintro e w1 ⟨rfl, k1⟩
  have p0 := (k1.cell (p := ⟨w.heap.size, 0, none⟩) sb (by simp)).trans v0
  have p3 := (k1.cell (p := ⟨w.heap.size, 3, none⟩) sb (by simp)).trans v3
  have hlt : w.heap.size < w1.heap.size := by have := k1.size; omega
  have d1 : Chg [] w w1 := db.trans0 k1
  clear k1 v0 v3
  go_wp2_with fail
  go_ret
  exact ⟨str_ret HE.out, d1⟩
set_option maxRecDepth 100000 in
set_option maxHeartbeats 8000000 in
theorem actionText_2 (a : ActionT) (A1 A2 : Option Addr) (c1 c2 : Nat) (w : World) (h : a.op = 2) (hok : a.ok) (hW : actionW a ≤ 1048576) (hE : EnvT w) :
    Calls Tryz.prog 39 #[.agg #[.int .i64 a.op, .int .i64 a.slot, .int .i64 a.other, .string a.word, .string a.call.method, .string a.call.key, .int .i64 a.call.value, .string a.call.text, .int .i64 a.face, .slice A1 a.A.length c1, .slice A2 a.B.length c2]] w (StrPost a.txt w) := by
  have sl := ok_slot hok
  have FN := Lib.hid (fun W (hc : Chg [] w W) => formatNumber_impl_any a.slot W (by have := sl.1; omega) (by have := sl.2; omega) (hE.1.pow.keep hc))
  have ns := numT_size (n := a.slot) (by have := sl.1; omega) (by have := sl.2; omega)
  obtain ⟨n, hn⟩ : ∃ n, n = numT a.slot := ⟨_, rfl⟩
  rw [← hn] at FN ns
  have ac := (act_small hW).1
  obtain ⟨wd, hwd⟩ : ∃ d, d = (⟨#[119, 114, 97, 112]⟩ : ByteArray) := ⟨_, rfl⟩
  have wds : wd.size = 4 := by rw [hwd]; rfl
  have db0 : Chg [] w (w.alloc (.cells #[.int .i64 2, .int .i64 a.slot, .int .i64 a.other, .string a.word, .string a.call.method, .string a.call.key, .int .i64 a.call.value, .string a.call.text, .int .i64 a.face, .slice A1 a.A.length c1, .slice A2 a.B.length c2] 38)) := (Chg.refl [] w).alloc _
  have qw : (w.alloc (.cells #[.int .i64 2, .int .i64 a.slot, .int .i64 a.other, .string a.word, .string a.call.method, .string a.call.key, .int .i64 a.call.value, .string a.call.text, .int .i64 a.face, .slice A1 a.A.length c1, .slice A2 a.B.length c2] 38)).cell? ⟨0, 2, none⟩ = some (.string wd) := (db0.cell (p := ⟨0, 2, none⟩) hE.2.2.1 (by simp)).trans (by rw [hwd]; exact hE.2.2.2 ⟨2, by decide⟩)
  clear db0
  obtain ⟨T, hT⟩ : ∃ T, T = a.txt := ⟨_, rfl⟩
  have hT2 := hT.trans (txt_1 (.inr h))
  rw [← hT]
  obtain ⟨x1, hx1⟩ : ∃ x, x = wd ++ (⟨#[32]⟩ : ByteArray) := ⟨_, rfl⟩
  obtain ⟨x2, hx2⟩ : ∃ x, x = x1 ++ n := ⟨_, rfl⟩
  obtain ⟨x3, hx3⟩ : ∃ x, x = x2 ++ (⟨#[32]⟩ : ByteArray) := ⟨_, rfl⟩
  obtain ⟨x4, hx4⟩ : ∃ x, x = x3 ++ a.word := ⟨_, rfl⟩
  have ex1 : (⟨#[32]⟩ : ByteArray).size = 1 := rfl
  have ex3 : (⟨#[32]⟩ : ByteArray).size = 1 := rfl
  have zx1 := cat_sz hx1
  have zx2 := cat_sz hx2
  have zx3 := cat_sz hx3
  have zx4 := cat_sz hx4
  have kx1 := cat_is (P := Tryz.prog) hx1 (by omega)
  have kx2 := cat_is (P := Tryz.prog) hx2 (by omega)
  have kx3 := cat_is (P := Tryz.prog) hx3 (by omega)
  have kx4 := cat_is (P := Tryz.prog) hx4 (by omega)
  have HE : Hid (x4 = T) := by
    show _ = _
    rw [hT2, h, wordT_2, hx4, hx3, hx2, hx1, hn, hwd]
    try simp only [ByteArray.append_assoc]
  rw [h]
  clear ex1 ex3 zx1 zx2 zx3 zx4 hx1 hx2 hx3 hx4 hn hwd ns sl hT hT2 hok h ac hW hE wds
  go_enter Tryz.func39, Tryz.ntmps39
  go_wp2_with fail
  obtain ⟨wb, hwb⟩ : ∃ wb, wb = w.alloc (.cells #[.int .i64 2, .int .i64 a.slot, .int .i64 a.other, .string a.word, .string a.call.method, .string a.call.key, .int .i64 a.call.value, .string a.call.text, .int .i64 a.face, .slice A1 a.A.length c1, .slice A2 a.B.length c2] 38) := ⟨_, rfl⟩
  have db : Chg [] w wb := hwb ▸ (Chg.refl [] w).alloc _
  have sb : w.heap.size < wb.heap.size := by rw [hwb]; simp
  have v0 : wb.cell? ⟨w.heap.size, 0, none⟩ = some (.int .i64 2) := by rw [hwb]; go_simp
  have v3 : wb.cell? ⟨w.heap.size, 3, none⟩ = some (.string a.word) := by rw [hwb]; go_simp
  rw [← hwb]
  clear hwb qw
  refine (FN.out _ db).mono ?_
  rintro e w1 ⟨rfl, k1⟩
  have p0 := (k1.cell (p := ⟨w.heap.size, 0, none⟩) sb (by simp)).trans v0
  have p3 := (k1.cell (p := ⟨w.heap.size, 3, none⟩) sb (by simp)).trans v3
  have hlt : w.heap.size < w1.heap.size := by have := k1.size; omega
  have d1 : Chg [] w w1 := db.trans0 k1
  clear k1 v0 v3
  go_wp2_with fail
  go_ret
  exact ⟨str_ret HE.out, d1⟩
set_option maxRecDepth 100000 in
set_option maxHeartbeats 8000000 in
theorem actionText_3 (a : ActionT) (A1 A2 : Option Addr) (c1 c2 : Nat) (w : World) (h : a.op = 3) (hok : a.ok) (hE : EnvT w) :
    Calls Tryz.prog 39 #[.agg #[.int .i64 a.op, .int .i64 a.slot, .int .i64 a.other, .string a.word, .string a.call.method, .string a.call.key, .int .i64 a.call.value, .string a.call.text, .int .i64 a.face, .slice A1 a.A.length c1, .slice A2 a.B.length c2]] w (StrPost a.txt w) := by
  have sl := ok_slot hok
  have FN := Lib.hid (fun W (hc : Chg [] w W) => formatNumber_impl_any a.slot W (by have := sl.1; omega) (by have := sl.2; omega) (hE.1.pow.keep hc))
  have ns := numT_size (n := a.slot) (by have := sl.1; omega) (by have := sl.2; omega)
  obtain ⟨n, hn⟩ : ∃ n, n = numT a.slot := ⟨_, rfl⟩
  rw [← hn] at FN ns
  obtain ⟨wd, hwd⟩ : ∃ d, d = (⟨#[117, 110, 119, 114, 97, 112]⟩ : ByteArray) := ⟨_, rfl⟩
  have wds : wd.size = 6 := by rw [hwd]; rfl
  have db0 : Chg [] w (w.alloc (.cells #[.int .i64 3, .int .i64 a.slot, .int .i64 a.other, .string a.word, .string a.call.method, .string a.call.key, .int .i64 a.call.value, .string a.call.text, .int .i64 a.face, .slice A1 a.A.length c1, .slice A2 a.B.length c2] 38)) := (Chg.refl [] w).alloc _
  have qw : (w.alloc (.cells #[.int .i64 3, .int .i64 a.slot, .int .i64 a.other, .string a.word, .string a.call.method, .string a.call.key, .int .i64 a.call.value, .string a.call.text, .int .i64 a.face, .slice A1 a.A.length c1, .slice A2 a.B.length c2] 38)).cell? ⟨0, 3, none⟩ = some (.string wd) := (db0.cell (p := ⟨0, 3, none⟩) hE.2.2.1 (by simp)).trans (by rw [hwd]; exact hE.2.2.2 ⟨3, by decide⟩)
  clear db0
  obtain ⟨T, hT⟩ : ∃ T, T = a.txt := ⟨_, rfl⟩
  have hT2 := hT.trans (txt_3 (.inl h))
  rw [← hT]
  obtain ⟨x1, hx1⟩ : ∃ x, x = wd ++ (⟨#[32]⟩ : ByteArray) := ⟨_, rfl⟩
  obtain ⟨x2, hx2⟩ : ∃ x, x = x1 ++ n := ⟨_, rfl⟩
  have ex1 : (⟨#[32]⟩ : ByteArray).size = 1 := rfl
  have zx1 := cat_sz hx1
  have zx2 := cat_sz hx2
  have kx1 := cat_is (P := Tryz.prog) hx1 (by omega)
  have kx2 := cat_is (P := Tryz.prog) hx2 (by omega)
  have HE : Hid (x2 = T) := by
    show _ = _
    rw [hT2, h, wordT_3, hx2, hx1, hn, hwd]
    try simp only [ByteArray.append_assoc]
  rw [h]
  clear ex1 zx1 zx2 hx1 hx2 hn hwd ns sl hT hT2 hok h hE wds
  go_enter Tryz.func39, Tryz.ntmps39
  go_wp2_with fail
  obtain ⟨wb, hwb⟩ : ∃ wb, wb = w.alloc (.cells #[.int .i64 3, .int .i64 a.slot, .int .i64 a.other, .string a.word, .string a.call.method, .string a.call.key, .int .i64 a.call.value, .string a.call.text, .int .i64 a.face, .slice A1 a.A.length c1, .slice A2 a.B.length c2] 38) := ⟨_, rfl⟩
  have db : Chg [] w wb := hwb ▸ (Chg.refl [] w).alloc _
  have sb : w.heap.size < wb.heap.size := by rw [hwb]; simp
  have v0 : wb.cell? ⟨w.heap.size, 0, none⟩ = some (.int .i64 3) := by rw [hwb]; go_simp
  rw [← hwb]
  clear hwb qw
  refine (FN.out _ db).mono ?_
  rintro e w1 ⟨rfl, k1⟩
  have p0 := (k1.cell (p := ⟨w.heap.size, 0, none⟩) sb (by simp)).trans v0
  have hlt : w.heap.size < w1.heap.size := by have := k1.size; omega
  have d1 : Chg [] w w1 := db.trans0 k1
  clear k1 v0
  go_wp2_with fail
  go_ret
  exact ⟨str_ret HE.out, d1⟩
set_option maxRecDepth 100000 in
set_option maxHeartbeats 8000000 in
theorem actionText_4 (a : ActionT) (A1 A2 : Option Addr) (c1 c2 : Nat) (w : World) (h : a.op = 4) (hok : a.ok) (hE : EnvT w) :
    Calls Tryz.prog 39 #[.agg #[.int .i64 a.op, .int .i64 a.slot, .int .i64 a.other, .string a.word, .string a.call.method, .string a.call.key, .int .i64 a.call.value, .string a.call.text, .int .i64 a.face, .slice A1 a.A.length c1, .slice A2 a.B.length c2]] w (StrPost a.txt w) := by
  have sl := ok_slot hok
  have FN := Lib.hid (fun W (hc : Chg [] w W) => formatNumber_impl_any a.slot W (by have := sl.1; omega) (by have := sl.2; omega) (hE.1.pow.keep hc))
  have ns := numT_size (n := a.slot) (by have := sl.1; omega) (by have := sl.2; omega)
  obtain ⟨n, hn⟩ : ∃ n, n = numT a.slot := ⟨_, rfl⟩
  rw [← hn] at FN ns
  have so := ((okS_4 h).1 hok).2.1
  have FO := Lib.hid (fun W (hc : Chg [] w W) => formatNumber_impl_any a.other W (by have := so.1; omega) (by have := so.2; omega) (hE.1.pow.keep hc))
  have ms := numT_size (n := a.other) (by have := so.1; omega) (by have := so.2; omega)
  obtain ⟨m, hm⟩ : ∃ m, m = numT a.other := ⟨_, rfl⟩
  rw [← hm] at FO ms
  obtain ⟨wd, hwd⟩ : ∃ d, d = (⟨#[99, 111, 112, 121]⟩ : ByteArray) := ⟨_, rfl⟩
  have wds : wd.size = 4 := by rw [hwd]; rfl
  have db0 : Chg [] w (w.alloc (.cells #[.int .i64 4, .int .i64 a.slot, .int .i64 a.other, .string a.word, .string a.call.method, .string a.call.key, .int .i64 a.call.value, .string a.call.text, .int .i64 a.face, .slice A1 a.A.length c1, .slice A2 a.B.length c2] 38)) := (Chg.refl [] w).alloc _
  have qw : (w.alloc (.cells #[.int .i64 4, .int .i64 a.slot, .int .i64 a.other, .string a.word, .string a.call.method, .string a.call.key, .int .i64 a.call.value, .string a.call.text, .int .i64 a.face, .slice A1 a.A.length c1, .slice A2 a.B.length c2] 38)).cell? ⟨0, 4, none⟩ = some (.string wd) := (db0.cell (p := ⟨0, 4, none⟩) hE.2.2.1 (by simp)).trans (by rw [hwd]; exact hE.2.2.2 ⟨4, by decide⟩)
  clear db0
  obtain ⟨T, hT⟩ : ∃ T, T = a.txt := ⟨_, rfl⟩
  have hT2 := hT.trans (txt_4 h)
  rw [← hT]
  obtain ⟨x1, hx1⟩ : ∃ x, x = wd ++ (⟨#[32]⟩ : ByteArray) := ⟨_, rfl⟩
  obtain ⟨x2, hx2⟩ : ∃ x, x = x1 ++ n := ⟨_, rfl⟩
  obtain ⟨x3, hx3⟩ : ∃ x, x = x2 ++ (⟨#[32, 102, 114, 111, 109, 32]⟩ : ByteArray) := ⟨_, rfl⟩
  obtain ⟨x4, hx4⟩ : ∃ x, x = x3 ++ m := ⟨_, rfl⟩
  have ex1 : (⟨#[32]⟩ : ByteArray).size = 1 := rfl
  have ex3 : (⟨#[32, 102, 114, 111, 109, 32]⟩ : ByteArray).size = 6 := rfl
  have zx1 := cat_sz hx1
  have zx2 := cat_sz hx2
  have zx3 := cat_sz hx3
  have zx4 := cat_sz hx4
  have kx1 := cat_is (P := Tryz.prog) hx1 (by omega)
  have kx2 := cat_is (P := Tryz.prog) hx2 (by omega)
  have kx3 := cat_is (P := Tryz.prog) hx3 (by omega)
  have kx4 := cat_is (P := Tryz.prog) hx4 (by omega)
  have HE : Hid (x4 = T) := by
    show _ = _
    rw [hT2, h, wordT_4, hx4, hx3, hx2, hx1, hn, hm, hwd]
    try simp only [ByteArray.append_assoc]
  rw [h]
  clear ex1 ex3 zx1 zx2 zx3 zx4 hx1 hx2 hx3 hx4 hn hm hwd ns sl hT hT2 hok h ms so hE wds
  go_enter Tryz.func39, Tryz.ntmps39
  go_wp2_with fail
  obtain ⟨wb, hwb⟩ : ∃ wb, wb = w.alloc (.cells #[.int .i64 4, .int .i64 a.slot, .int .i64 a.other, .string a.word, .string a.call.method, .string a.call.key, .int .i64 a.call.value, .string a.call.text, .int .i64 a.face, .slice A1 a.A.length c1, .slice A2 a.B.length c2] 38) := ⟨_, rfl⟩
  have db : Chg [] w wb := hwb ▸ (Chg.refl [] w).alloc _
  have sb : w.heap.size < wb.heap.size := by rw [hwb]; simp
  have v0 : wb.cell? ⟨w.heap.size, 0, none⟩ = some (.int .i64 4) := by rw [hwb]; go_simp
  have v2 : wb.cell? ⟨w.heap.size, 2, none⟩ = some (.int .i64 a.other) := by rw [hwb]; go_simp
  rw [← hwb]
  clear hwb qw
  refine (FN.out _ db).mono ?_
  rintro e w1 ⟨rfl, k1⟩
  have p0 := (k1.cell (p := ⟨w.heap.size, 0, none⟩) sb (by simp)).trans v0
  have p2 := (k1.cell (p := ⟨w.heap.size, 2, none⟩) sb (by simp)).trans v2
  have hlt : w.heap.size < w1.heap.size := by have := k1.size; omega
  have d1 : Chg [] w w1 := db.trans0 k1
  clear k1 v0 v2
  go_wp2_with fail
  refine (FO.out _ d1).mono ?_
  rintro e w2 ⟨rfl, k2⟩
  go_wp2_with fail
  go_ret
  exact ⟨str_ret HE.out, d1.trans0 k2⟩
set_option maxRecDepth 100000 in
set_option maxHeartbeats 8000000 in
theorem actionText_5 (a : ActionT) (A1 A2 : Option Addr) (c1 c2 : Nat) (w : World) (h : a.op = 5) (hok : a.ok) (hE : EnvT w) :
    Calls Tryz.prog 39 #[.agg #[.int .i64 a.op, .int .i64 a.slot, .int .i64 a.other, .string a.word, .string a.call.method, .string a.call.key, .int .i64 a.call.value, .string a.call.text, .int .i64 a.face, .slice A1 a.A.length c1, .slice A2 a.B.length c2]] w (StrPost a.txt w) := by
  have sl := ok_slot hok
  have FN := Lib.hid (fun W (hc : Chg [] w W) => formatNumber_impl_any a.slot W (by have := sl.1; omega) (by have := sl.2; omega) (hE.1.pow.keep hc))
  have ns := numT_size (n := a.slot) (by have := sl.1; omega) (by have := sl.2; omega)
  obtain ⟨n, hn⟩ : ∃ n, n = numT a.slot := ⟨_, rfl⟩
  rw [← hn] at FN ns
  obtain ⟨wd, hwd⟩ : ∃ d, d = (⟨#[100, 114, 111, 112]⟩ : ByteArray) := ⟨_, rfl⟩
  have wds : wd.size = 4 := by rw [hwd]; rfl
  have db0 : Chg [] w (w.alloc (.cells #[.int .i64 5, .int .i64 a.slot, .int .i64 a.other, .string a.word, .string a.call.method, .string a.call.key, .int .i64 a.call.value, .string a.call.text, .int .i64 a.face, .slice A1 a.A.length c1, .slice A2 a.B.length c2] 38)) := (Chg.refl [] w).alloc _
  have qw : (w.alloc (.cells #[.int .i64 5, .int .i64 a.slot, .int .i64 a.other, .string a.word, .string a.call.method, .string a.call.key, .int .i64 a.call.value, .string a.call.text, .int .i64 a.face, .slice A1 a.A.length c1, .slice A2 a.B.length c2] 38)).cell? ⟨0, 5, none⟩ = some (.string wd) := (db0.cell (p := ⟨0, 5, none⟩) hE.2.2.1 (by simp)).trans (by rw [hwd]; exact hE.2.2.2 ⟨5, by decide⟩)
  clear db0
  obtain ⟨T, hT⟩ : ∃ T, T = a.txt := ⟨_, rfl⟩
  have hT2 := hT.trans (txt_3 (.inr h))
  rw [← hT]
  obtain ⟨x1, hx1⟩ : ∃ x, x = wd ++ (⟨#[32]⟩ : ByteArray) := ⟨_, rfl⟩
  obtain ⟨x2, hx2⟩ : ∃ x, x = x1 ++ n := ⟨_, rfl⟩
  have ex1 : (⟨#[32]⟩ : ByteArray).size = 1 := rfl
  have zx1 := cat_sz hx1
  have zx2 := cat_sz hx2
  have kx1 := cat_is (P := Tryz.prog) hx1 (by omega)
  have kx2 := cat_is (P := Tryz.prog) hx2 (by omega)
  have HE : Hid (x2 = T) := by
    show _ = _
    rw [hT2, h, wordT_5, hx2, hx1, hn, hwd]
    try simp only [ByteArray.append_assoc]
  rw [h]
  clear ex1 zx1 zx2 hx1 hx2 hn hwd ns sl hT hT2 hok h hE wds
  go_enter Tryz.func39, Tryz.ntmps39
  go_wp2_with fail
  obtain ⟨wb, hwb⟩ : ∃ wb, wb = w.alloc (.cells #[.int .i64 5, .int .i64 a.slot, .int .i64 a.other, .string a.word, .string a.call.method, .string a.call.key, .int .i64 a.call.value, .string a.call.text, .int .i64 a.face, .slice A1 a.A.length c1, .slice A2 a.B.length c2] 38) := ⟨_, rfl⟩
  have db : Chg [] w wb := hwb ▸ (Chg.refl [] w).alloc _
  have sb : w.heap.size < wb.heap.size := by rw [hwb]; simp
  have v0 : wb.cell? ⟨w.heap.size, 0, none⟩ = some (.int .i64 5) := by rw [hwb]; go_simp
  rw [← hwb]
  clear hwb qw
  refine (FN.out _ db).mono ?_
  rintro e w1 ⟨rfl, k1⟩
  have p0 := (k1.cell (p := ⟨w.heap.size, 0, none⟩) sb (by simp)).trans v0
  have hlt : w.heap.size < w1.heap.size := by have := k1.size; omega
  have d1 : Chg [] w w1 := db.trans0 k1
  clear k1 v0
  go_wp2_with fail
  go_ret
  exact ⟨str_ret HE.out, d1⟩
set_option maxRecDepth 100000 in
set_option maxHeartbeats 8000000 in
theorem actionText_6 (a : ActionT) (A1 A2 : Option Addr) (c1 c2 : Nat) (w : World) (h : a.op = 6) (hok : a.ok) (hE : EnvT w) :
    Calls Tryz.prog 39 #[.agg #[.int .i64 a.op, .int .i64 a.slot, .int .i64 a.other, .string a.word, .string a.call.method, .string a.call.key, .int .i64 a.call.value, .string a.call.text, .int .i64 a.face, .slice A1 a.A.length c1, .slice A2 a.B.length c2]] w (StrPost a.txt w) := by
  have sl := ok_slot hok
  have FN := Lib.hid (fun W (hc : Chg [] w W) => formatNumber_impl_any a.slot W (by have := sl.1; omega) (by have := sl.2; omega) (hE.1.pow.keep hc))
  have ns := numT_size (n := a.slot) (by have := sl.1; omega) (by have := sl.2; omega)
  obtain ⟨n, hn⟩ : ∃ n, n = numT a.slot := ⟨_, rfl⟩
  rw [← hn] at FN ns
  have FO := Lib.hid (fun W (hc : Chg [] w W) => formatFace_impl_any a.face W (hE.2.1.keep hc))
  have ms := faceT_size a.face
  obtain ⟨m, hm⟩ : ∃ m, m = faceT a.face := ⟨_, rfl⟩
  rw [← hm] at FO ms
  obtain ⟨wd, hwd⟩ : ∃ d, d = (⟨#[97, 115, 107]⟩ : ByteArray) := ⟨_, rfl⟩
  have wds : wd.size = 3 := by rw [hwd]; rfl
  have db0 : Chg [] w (w.alloc (.cells #[.int .i64 6, .int .i64 a.slot, .int .i64 a.other, .string a.word, .string a.call.method, .string a.call.key, .int .i64 a.call.value, .string a.call.text, .int .i64 a.face, .slice A1 a.A.length c1, .slice A2 a.B.length c2] 38)) := (Chg.refl [] w).alloc _
  have qw : (w.alloc (.cells #[.int .i64 6, .int .i64 a.slot, .int .i64 a.other, .string a.word, .string a.call.method, .string a.call.key, .int .i64 a.call.value, .string a.call.text, .int .i64 a.face, .slice A1 a.A.length c1, .slice A2 a.B.length c2] 38)).cell? ⟨0, 6, none⟩ = some (.string wd) := (db0.cell (p := ⟨0, 6, none⟩) hE.2.2.1 (by simp)).trans (by rw [hwd]; exact hE.2.2.2 ⟨6, by decide⟩)
  clear db0
  obtain ⟨T, hT⟩ : ∃ T, T = a.txt := ⟨_, rfl⟩
  have hT2 := hT.trans (txt_6 h)
  rw [← hT]
  obtain ⟨x1, hx1⟩ : ∃ x, x = wd ++ (⟨#[32]⟩ : ByteArray) := ⟨_, rfl⟩
  obtain ⟨x2, hx2⟩ : ∃ x, x = x1 ++ n := ⟨_, rfl⟩
  obtain ⟨x3, hx3⟩ : ∃ x, x = x2 ++ (⟨#[32]⟩ : ByteArray) := ⟨_, rfl⟩
  obtain ⟨x4, hx4⟩ : ∃ x, x = x3 ++ m := ⟨_, rfl⟩
  have ex1 : (⟨#[32]⟩ : ByteArray).size = 1 := rfl
  have ex3 : (⟨#[32]⟩ : ByteArray).size = 1 := rfl
  have zx1 := cat_sz hx1
  have zx2 := cat_sz hx2
  have zx3 := cat_sz hx3
  have zx4 := cat_sz hx4
  have kx1 := cat_is (P := Tryz.prog) hx1 (by omega)
  have kx2 := cat_is (P := Tryz.prog) hx2 (by omega)
  have kx3 := cat_is (P := Tryz.prog) hx3 (by omega)
  have kx4 := cat_is (P := Tryz.prog) hx4 (by omega)
  have HE : Hid (x4 = T) := by
    show _ = _
    rw [hT2, h, wordT_6, hx4, hx3, hx2, hx1, hn, hm, hwd]
    try simp only [ByteArray.append_assoc]
  rw [h]
  clear ex1 ex3 zx1 zx2 zx3 zx4 hx1 hx2 hx3 hx4 hn hm hwd ns sl hT hT2 hok h ms hE wds
  go_enter Tryz.func39, Tryz.ntmps39
  go_wp2_with fail
  obtain ⟨wb, hwb⟩ : ∃ wb, wb = w.alloc (.cells #[.int .i64 6, .int .i64 a.slot, .int .i64 a.other, .string a.word, .string a.call.method, .string a.call.key, .int .i64 a.call.value, .string a.call.text, .int .i64 a.face, .slice A1 a.A.length c1, .slice A2 a.B.length c2] 38) := ⟨_, rfl⟩
  have db : Chg [] w wb := hwb ▸ (Chg.refl [] w).alloc _
  have sb : w.heap.size < wb.heap.size := by rw [hwb]; simp
  have v0 : wb.cell? ⟨w.heap.size, 0, none⟩ = some (.int .i64 6) := by rw [hwb]; go_simp
  have v8 : wb.cell? ⟨w.heap.size, 8, none⟩ = some (.int .i64 a.face) := by rw [hwb]; go_simp
  rw [← hwb]
  clear hwb qw
  refine (FN.out _ db).mono ?_
  rintro e w1 ⟨rfl, k1⟩
  have p0 := (k1.cell (p := ⟨w.heap.size, 0, none⟩) sb (by simp)).trans v0
  have p8 := (k1.cell (p := ⟨w.heap.size, 8, none⟩) sb (by simp)).trans v8
  have hlt : w.heap.size < w1.heap.size := by have := k1.size; omega
  have d1 : Chg [] w w1 := db.trans0 k1
  clear k1 v0 v8
  go_wp2_with fail
  refine (FO.out _ d1).mono ?_
  rintro e w2 ⟨rfl, k2⟩
  go_wp2_with fail
  go_ret
  exact ⟨str_ret HE.out, d1.trans0 k2⟩
set_option maxRecDepth 100000 in
set_option maxHeartbeats 8000000 in
theorem actionText_7 (a : ActionT) (A1 A2 : Option Addr) (c1 c2 : Nat) (w : World) (h : a.op = 7) (hok : a.ok) (hW : actionW a ≤ 1048576) (hE : EnvT w) :
    Calls Tryz.prog 39 #[.agg #[.int .i64 a.op, .int .i64 a.slot, .int .i64 a.other, .string a.word, .string a.call.method, .string a.call.key, .int .i64 a.call.value, .string a.call.text, .int .i64 a.face, .slice A1 a.A.length c1, .slice A2 a.B.length c2]] w (StrPost a.txt w) := by
  have sl := ok_slot hok
  have FN := Lib.hid (fun W (hc : Chg [] w W) => formatNumber_impl_any a.slot W (by have := sl.1; omega) (by have := sl.2; omega) (hE.1.pow.keep hc))
  have ns := numT_size (n := a.slot) (by have := sl.1; omega) (by have := sl.2; omega)
  obtain ⟨n, hn⟩ : ∃ n, n = numT a.slot := ⟨_, rfl⟩
  rw [← hn] at FN ns
  have asz := act_small hW
  have FO := Lib.hid (fun W (hc : Chg [] w W) => formatCall_impl_any a.call W asz.2.1 asz.2.2.1 (hE.1.keep hc))
  have ms := callT_size (x := a.call)
  obtain ⟨m, hm⟩ : ∃ m, m = callT a.call := ⟨_, rfl⟩
  rw [← hm] at FO ms
  have ac := asz.2.2.2
  obtain ⟨wd, hwd⟩ : ∃ d, d = (⟨#[99, 97, 108, 108]⟩ : ByteArray) := ⟨_, rfl⟩
  have wds : wd.size = 4 := by rw [hwd]; rfl
  have db0 : Chg [] w (w.alloc (.cells #[.int .i64 7, .int .i64 a.slot, .int .i64 a.other, .string a.word, .string a.call.method, .string a.call.key, .int .i64 a.call.value, .string a.call.text, .int .i64 a.face, .slice A1 a.A.length c1, .slice A2 a.B.length c2] 38)) := (Chg.refl [] w).alloc _
  have qw : (w.alloc (.cells #[.int .i64 7, .int .i64 a.slot, .int .i64 a.other, .string a.word, .string a.call.method, .string a.call.key, .int .i64 a.call.value, .string a.call.text, .int .i64 a.face, .slice A1 a.A.length c1, .slice A2 a.B.length c2] 38)).cell? ⟨0, 7, none⟩ = some (.string wd) := (db0.cell (p := ⟨0, 7, none⟩) hE.2.2.1 (by simp)).trans (by rw [hwd]; exact hE.2.2.2 ⟨7, by decide⟩)
  clear db0
  obtain ⟨T, hT⟩ : ∃ T, T = a.txt := ⟨_, rfl⟩
  have hT2 := hT.trans (txt_7 h)
  rw [← hT]
  obtain ⟨x1, hx1⟩ : ∃ x, x = wd ++ (⟨#[32]⟩ : ByteArray) := ⟨_, rfl⟩
  obtain ⟨x2, hx2⟩ : ∃ x, x = x1 ++ n := ⟨_, rfl⟩
  obtain ⟨x3, hx3⟩ : ∃ x, x = x2 ++ (⟨#[32]⟩ : ByteArray) := ⟨_, rfl⟩
  obtain ⟨x4, hx4⟩ : ∃ x, x = x3 ++ m := ⟨_, rfl⟩
  have ex1 : (⟨#[32]⟩ : ByteArray).size = 1 := rfl
  have ex3 : (⟨#[32]⟩ : ByteArray).size = 1 := rfl
  have zx1 := cat_sz hx1
  have zx2 := cat_sz hx2
  have zx3 := cat_sz hx3
  have zx4 := cat_sz hx4
  have kx1 := cat_is (P := Tryz.prog) hx1 (by omega)
  have kx2 := cat_is (P := Tryz.prog) hx2 (by omega)
  have kx3 := cat_is (P := Tryz.prog) hx3 (by omega)
  have kx4 := cat_is (P := Tryz.prog) hx4 (by omega)
  have HE : Hid (x4 = T) := by
    show _ = _
    rw [hT2, h, wordT_7, hx4, hx3, hx2, hx1, hn, hm, hwd]
    try simp only [ByteArray.append_assoc]
  rw [h]
  clear ex1 ex3 zx1 zx2 zx3 zx4 hx1 hx2 hx3 hx4 hn hm hwd ns sl hT hT2 hok h ms ac asz hW hE wds
  go_enter Tryz.func39, Tryz.ntmps39
  go_wp2_with fail
  obtain ⟨wb, hwb⟩ : ∃ wb, wb = w.alloc (.cells #[.int .i64 7, .int .i64 a.slot, .int .i64 a.other, .string a.word, .string a.call.method, .string a.call.key, .int .i64 a.call.value, .string a.call.text, .int .i64 a.face, .slice A1 a.A.length c1, .slice A2 a.B.length c2] 38) := ⟨_, rfl⟩
  have db : Chg [] w wb := hwb ▸ (Chg.refl [] w).alloc _
  have sb : w.heap.size < wb.heap.size := by rw [hwb]; simp
  have v0 : wb.cell? ⟨w.heap.size, 0, none⟩ = some (.int .i64 7) := by rw [hwb]; go_simp
  have v4 : wb.cell? ⟨w.heap.size, 4, none⟩ = some (.string a.call.method) := by rw [hwb]; go_simp
  have v5 : wb.cell? ⟨w.heap.size, 5, none⟩ = some (.string a.call.key) := by rw [hwb]; go_simp
  have v6 : wb.cell? ⟨w.heap.size, 6, none⟩ = some (.int .i64 a.call.value) := by rw [hwb]; go_simp
  have v7 : wb.cell? ⟨w.heap.size, 7, none⟩ = some (.string a.call.text) := by rw [hwb]; go_simp
  rw [← hwb]
  clear hwb qw
  refine (FN.out _ db).mono ?_
  rintro e w1 ⟨rfl, k1⟩
  have p0 := (k1.cell (p := ⟨w.heap.size, 0, none⟩) sb (by simp)).trans v0
  have p4 := (k1.cell (p := ⟨w.heap.size, 4, none⟩) sb (by simp)).trans v4
  have p5 := (k1.cell (p := ⟨w.heap.size, 5, none⟩) sb (by simp)).trans v5
  have p6 := (k1.cell (p := ⟨w.heap.size, 6, none⟩) sb (by simp)).trans v6
  have p7 := (k1.cell (p := ⟨w.heap.size, 7, none⟩) sb (by simp)).trans v7
  have hlt : w.heap.size < w1.heap.size := by have := k1.size; omega
  have d1 : Chg [] w w1 := db.trans0 k1
  clear k1 v0 v4 v5 v6 v7
  go_wp2_with fail
  refine (FO.out _ d1).mono ?_
  rintro e w2 ⟨rfl, k2⟩
  go_wp2_with fail
  go_ret
  exact ⟨str_ret HE.out, d1.trans0 k2⟩
set_option maxRecDepth 100000 in
set_option maxHeartbeats 8000000 in
theorem actionText_8 (a : ActionT) (A1 A2 : Option Addr) (c1 c2 : Nat) (w : World) (h : a.op = 8) (hok : a.ok) (hz : a.size ≤ 14) (hW : actionW a ≤ 1048576) (hE : EnvT w) (IA : ∀ W, Chg [] w W → Calls Tryz.prog 60 #[.slice A1 a.A.length c1] W (StrPost (blkT (txtL a.A)) W)) (IB : ∀ W, Chg [] w W → Calls Tryz.prog 60 #[.slice A2 a.B.length c2] W (StrPost (blkT (txtL a.B)) W)) :
    Calls Tryz.prog 39 #[.agg #[.int .i64 a.op, .int .i64 a.slot, .int .i64 a.other, .string a.word, .string a.call.method, .string a.call.key, .int .i64 a.call.value, .string a.call.text, .int .i64 a.face, .slice A1 a.A.length c1, .slice A2 a.B.length c2]] w (StrPost a.txt w) := by
  have sl := ok_slot hok
  have FN := Lib.hid (fun W (hc : Chg [] w W) => formatNumber_impl_any a.slot W (by have := sl.1; omega) (by have := sl.2; omega) (hE.1.pow.keep hc))
  have ns := numT_size (n := a.slot) (by have := sl.1; omega) (by have := sl.2; omega)
  obtain ⟨n, hn⟩ : ∃ n, n = numT a.slot := ⟨_, rfl⟩
  rw [← hn] at FN ns
  have bs := body_small hok hz hW
  have bA_ := bs.2.2.1
  have IA := Lib.hid IA
  obtain ⟨bA, hbA⟩ : ∃ b, b = blkT (txtL a.A) := ⟨_, rfl⟩
  rw [← hbA] at IA bA_
  have bB_ := bs.2.2.2
  have IB := Lib.hid IB
  obtain ⟨bB, hbB⟩ : ∃ b, b = blkT (txtL a.B) := ⟨_, rfl⟩
  rw [← hbB] at IB bB_
  clear bs
  obtain ⟨wd, hwd⟩ : ∃ d, d = (⟨#[105, 102]⟩ : ByteArray) := ⟨_, rfl⟩
  have wds : wd.size = 2 := by rw [hwd]; rfl
  have db0 : Chg [] w (w.alloc (.cells #[.int .i64 8, .int .i64 a.slot, .int .i64 a.other, .string a.word, .string a.call.method, .string a.call.key, .int .i64 a.call.value, .string a.call.text, .int .i64 a.face, .slice A1 a.A.length c1, .slice A2 a.B.length c2] 38)) := (Chg.refl [] w).alloc _
  have qw : (w.alloc (.cells #[.int .i64 8, .int .i64 a.slot, .int .i64 a.other, .string a.word, .string a.call.method, .string a.call.key, .int .i64 a.call.value, .string a.call.text, .int .i64 a.face, .slice A1 a.A.length c1, .slice A2 a.B.length c2] 38)).cell? ⟨0, 8, none⟩ = some (.string wd) := (db0.cell (p := ⟨0, 8, none⟩) hE.2.2.1 (by simp)).trans (by rw [hwd]; exact hE.2.2.2 ⟨8, by decide⟩)
  clear db0
  obtain ⟨T, hT⟩ : ∃ T, T = a.txt := ⟨_, rfl⟩
  have hT2 := hT.trans (txt_8 (.inl h))
  rw [← hT]
  obtain ⟨x1, hx1⟩ : ∃ x, x = wd ++ (⟨#[32]⟩ : ByteArray) := ⟨_, rfl⟩
  obtain ⟨x2, hx2⟩ : ∃ x, x = x1 ++ n := ⟨_, rfl⟩
  obtain ⟨y2, hy2⟩ : ∃ x, x = x1 ++ bA := ⟨_, rfl⟩
  obtain ⟨y3, hy3⟩ : ∃ x, x = y2 ++ (⟨#[32, 101, 108, 115, 101, 32]⟩ : ByteArray) := ⟨_, rfl⟩
  obtain ⟨y4, hy4⟩ : ∃ x, x = y3 ++ bB := ⟨_, rfl⟩
  have ex1 : (⟨#[32]⟩ : ByteArray).size = 1 := rfl
  have ey3 : (⟨#[32, 101, 108, 115, 101, 32]⟩ : ByteArray).size = 6 := rfl
  have zx1 := cat_sz hx1
  have zx2 := cat_sz hx2
  have zy2 := cat_sz hy2
  have zy3 := cat_sz hy3
  have zy4 := cat_sz hy4
  have kx1 := cat_is (P := Tryz.prog) hx1 (by omega)
  have kx2 := cat_is (P := Tryz.prog) hx2 (by omega)
  have ky2 := cat_is (P := Tryz.prog) hy2 (by omega)
  have ky3 := cat_is (P := Tryz.prog) hy3 (by omega)
  have ky4 := cat_is (P := Tryz.prog) hy4 (by omega)
  have HE : Hid (y4 = T) := by
    show _ = _
    rw [hT2, h, wordT_8, hy4, hy3, hy2, hx1, hbA, hbB, hwd]
    try simp only [ByteArray.append_assoc]
  rw [h]
  clear ex1 ey3 zx1 zx2 zy2 zy3 zy4 hx1 hx2 hy2 hy3 hy4 hn hbA hbB hwd ns sl hT hT2 hok h hz hW bA_ bB_ hE wds
  go_enter Tryz.func39, Tryz.ntmps39
  go_wp2_with fail
  obtain ⟨wb, hwb⟩ : ∃ wb, wb = w.alloc (.cells #[.int .i64 8, .int .i64 a.slot, .int .i64 a.other, .string a.word, .string a.call.method, .string a.call.key, .int .i64 a.call.value, .string a.call.text, .int .i64 a.face, .slice A1 a.A.length c1, .slice A2 a.B.length c2] 38) := ⟨_, rfl⟩
  have db : Chg [] w wb := hwb ▸ (Chg.refl [] w).alloc _
  have sb : w.heap.size < wb.heap.size := by rw [hwb]; simp
  have v0 : wb.cell? ⟨w.heap.size, 0, none⟩ = some (.int .i64 8) := by rw [hwb]; go_simp
  have v9 : wb.cell? ⟨w.heap.size, 9, none⟩ = some (.slice A1 a.A.length c1) := by rw [hwb]; go_simp
  have v10 : wb.cell? ⟨w.heap.size, 10, none⟩ = some (.slice A2 a.B.length c2) := by rw [hwb]; go_simp
  rw [← hwb]
  clear hwb qw
  refine (FN.out _ db).mono ?_
  rintro e w1 ⟨rfl, k1⟩
  have p0 := (k1.cell (p := ⟨w.heap.size, 0, none⟩) sb (by simp)).trans v0
  have p9 := (k1.cell (p := ⟨w.heap.size, 9, none⟩) sb (by simp)).trans v9
  have p10 := (k1.cell (p := ⟨w.heap.size, 10, none⟩) sb (by simp)).trans v10
  have hlt : w.heap.size < w1.heap.size := by have := k1.size; omega
  have d1 : Chg [] w w1 := db.trans0 k1
  clear k1 v0 v9 v10
  go_wp2_with fail
  go_region_held3 (fun w' => w'.cell? ⟨w.heap.size, 9, none⟩ = some (.slice A1 a.A.length c1) ∧ w'.cell? ⟨w.heap.size, 10, none⟩ = some (.slice A2 a.B.length c2) ∧ w.heap.size < w'.heap.size ∧ Chg [] w w') (first | exact ⟨p9, p10, hlt, d1.drew⟩ | exact ⟨(c1.cell E3 (by simp)).trans E1, (c1.cell E3 (by simp)).trans E2, by have := c1.size; omega, E4.trans0 c1⟩) (first | (go_at_call 60; obtain ⟨E1, E2, E3, E4⟩ := ‹_ ∧ _ ∧ _ ∧ Chg [] w _›; (with_reducible refine (IA.out _ E4).mono ?_); rintro e w1 ⟨rfl, c1⟩) | (go_at_call 60; obtain ⟨E1, E2, E3, E4⟩ := ‹_ ∧ _ ∧ _ ∧ Chg [] w _›; (with_reducible refine (IB.out _ E4).mono ?_); rintro e w1 ⟨rfl, c1⟩))
  obtain ⟨_, _, _, E⟩ := ‹_ ∧ _ ∧ _ ∧ Chg [] w _›
  go_wp2_with fail
  go_ret
  exact ⟨str_ret HE.out, E⟩
set_option maxRecDepth 100000 in
set_option maxHeartbeats 8000000 in
theorem actionText_9 (a : ActionT) (A1 A2 : Option Addr) (c1 c2 : Nat) (w : World) (h : a.op = 9) (hok : a.ok) (hz : a.size ≤ 14) (hW : actionW a ≤ 1048576) (hE : EnvT w) (IA : ∀ W, Chg [] w W → Calls Tryz.prog 60 #[.slice A1 a.A.length c1] W (StrPost (blkT (txtL a.A)) W)) :
    Calls Tryz.prog 39 #[.agg #[.int .i64 a.op, .int .i64 a.slot, .int .i64 a.other, .string a.word, .string a.call.method, .string a.call.key, .int .i64 a.call.value, .string a.call.text, .int .i64 a.face, .slice A1 a.A.length c1, .slice A2 a.B.length c2]] w (StrPost a.txt w) := by
  have sl := ok_slot hok
  have FN := Lib.hid (fun W (hc : Chg [] w W) => formatNumber_impl_any a.slot W (by have := sl.1; omega) (by have := sl.2; omega) (hE.1.pow.keep hc))
  have ns := numT_size (n := a.slot) (by have := sl.1; omega) (by have := sl.2; omega)
  obtain ⟨n, hn⟩ : ∃ n, n = numT a.slot := ⟨_, rfl⟩
  rw [← hn] at FN ns
  have bs := body_small hok hz hW
  have bA_ := bs.2.2.1
  have IA := Lib.hid IA
  obtain ⟨bA, hbA⟩ : ∃ b, b = blkT (txtL a.A) := ⟨_, rfl⟩
  rw [← hbA] at IA bA_
  clear bs
  obtain ⟨wd, hwd⟩ : ∃ d, d = (⟨#[108, 111, 111, 112]⟩ : ByteArray) := ⟨_, rfl⟩
  have wds : wd.size = 4 := by rw [hwd]; rfl
  have db0 : Chg [] w (w.alloc (.cells #[.int .i64 9, .int .i64 a.slot, .int .i64 a.other, .string a.word, .string a.call.method, .string a.call.key, .int .i64 a.call.value, .string a.call.text, .int .i64 a.face, .slice A1 a.A.length c1, .slice A2 a.B.length c2] 38)) := (Chg.refl [] w).alloc _
  have qw : (w.alloc (.cells #[.int .i64 9, .int .i64 a.slot, .int .i64 a.other, .string a.word, .string a.call.method, .string a.call.key, .int .i64 a.call.value, .string a.call.text, .int .i64 a.face, .slice A1 a.A.length c1, .slice A2 a.B.length c2] 38)).cell? ⟨0, 9, none⟩ = some (.string wd) := (db0.cell (p := ⟨0, 9, none⟩) hE.2.2.1 (by simp)).trans (by rw [hwd]; exact hE.2.2.2 ⟨9, by decide⟩)
  clear db0
  obtain ⟨T, hT⟩ : ∃ T, T = a.txt := ⟨_, rfl⟩
  have hT2 := hT.trans (txt_9 h)
  rw [← hT]
  obtain ⟨x1, hx1⟩ : ∃ x, x = wd ++ (⟨#[32]⟩ : ByteArray) := ⟨_, rfl⟩
  obtain ⟨x2, hx2⟩ : ∃ x, x = x1 ++ n := ⟨_, rfl⟩
  obtain ⟨y2, hy2⟩ : ∃ x, x = x1 ++ bA := ⟨_, rfl⟩
  have ex1 : (⟨#[32]⟩ : ByteArray).size = 1 := rfl
  have zx1 := cat_sz hx1
  have zx2 := cat_sz hx2
  have zy2 := cat_sz hy2
  have kx1 := cat_is (P := Tryz.prog) hx1 (by omega)
  have kx2 := cat_is (P := Tryz.prog) hx2 (by omega)
  have ky2 := cat_is (P := Tryz.prog) hy2 (by omega)
  have HE : Hid (y2 = T) := by
    show _ = _
    rw [hT2, h, wordT_9, hy2, hx1, hbA, hwd]
    try simp only [ByteArray.append_assoc]
  rw [h]
  clear ex1 zx1 zx2 zy2 hx1 hx2 hy2 hn hbA hwd ns sl hT hT2 hok h hz hW bA_ hE wds
  go_enter Tryz.func39, Tryz.ntmps39
  go_wp2_with fail
  obtain ⟨wb, hwb⟩ : ∃ wb, wb = w.alloc (.cells #[.int .i64 9, .int .i64 a.slot, .int .i64 a.other, .string a.word, .string a.call.method, .string a.call.key, .int .i64 a.call.value, .string a.call.text, .int .i64 a.face, .slice A1 a.A.length c1, .slice A2 a.B.length c2] 38) := ⟨_, rfl⟩
  have db : Chg [] w wb := hwb ▸ (Chg.refl [] w).alloc _
  have sb : w.heap.size < wb.heap.size := by rw [hwb]; simp
  have v0 : wb.cell? ⟨w.heap.size, 0, none⟩ = some (.int .i64 9) := by rw [hwb]; go_simp
  have v9 : wb.cell? ⟨w.heap.size, 9, none⟩ = some (.slice A1 a.A.length c1) := by rw [hwb]; go_simp
  rw [← hwb]
  clear hwb qw
  refine (FN.out _ db).mono ?_
  rintro e w1 ⟨rfl, k1⟩
  have p0 := (k1.cell (p := ⟨w.heap.size, 0, none⟩) sb (by simp)).trans v0
  have p9 := (k1.cell (p := ⟨w.heap.size, 9, none⟩) sb (by simp)).trans v9
  have hlt : w.heap.size < w1.heap.size := by have := k1.size; omega
  have d1 : Chg [] w w1 := db.trans0 k1
  clear k1 v0 v9
  go_wp2_with fail
  refine (IA.out _ d1).mono ?_
  rintro e w2 ⟨rfl, k2⟩
  go_wp2_with fail
  go_ret
  exact ⟨str_ret HE.out, d1.trans0 k2⟩
set_option maxRecDepth 100000 in
set_option maxHeartbeats 8000000 in
theorem actionText_10 (a : ActionT) (A1 A2 : Option Addr) (c1 c2 : Nat) (w : World) (h : a.op = 10) (hok : a.ok) (hz : a.size ≤ 14) (hW : actionW a ≤ 1048576) (hE : EnvT w) (IA : ∀ W, Chg [] w W → Calls Tryz.prog 60 #[.slice A1 a.A.length c1] W (StrPost (blkT (txtL a.A)) W)) (IB : ∀ W, Chg [] w W → Calls Tryz.prog 60 #[.slice A2 a.B.length c2] W (StrPost (blkT (txtL a.B)) W)) :
    Calls Tryz.prog 39 #[.agg #[.int .i64 a.op, .int .i64 a.slot, .int .i64 a.other, .string a.word, .string a.call.method, .string a.call.key, .int .i64 a.call.value, .string a.call.text, .int .i64 a.face, .slice A1 a.A.length c1, .slice A2 a.B.length c2]] w (StrPost a.txt w) := by
  have sl := ok_slot hok
  have FN := Lib.hid (fun W (hc : Chg [] w W) => formatNumber_impl_any a.slot W (by have := sl.1; omega) (by have := sl.2; omega) (hE.1.pow.keep hc))
  have ns := numT_size (n := a.slot) (by have := sl.1; omega) (by have := sl.2; omega)
  obtain ⟨n, hn⟩ : ∃ n, n = numT a.slot := ⟨_, rfl⟩
  rw [← hn] at FN ns
  have bs := body_small hok hz hW
  have bA_ := bs.2.2.1
  have IA := Lib.hid IA
  obtain ⟨bA, hbA⟩ : ∃ b, b = blkT (txtL a.A) := ⟨_, rfl⟩
  rw [← hbA] at IA bA_
  have bB_ := bs.2.2.2
  have IB := Lib.hid IB
  obtain ⟨bB, hbB⟩ : ∃ b, b = blkT (txtL a.B) := ⟨_, rfl⟩
  rw [← hbB] at IB bB_
  clear bs
  obtain ⟨wd, hwd⟩ : ∃ d, d = (⟨#[116, 114, 121]⟩ : ByteArray) := ⟨_, rfl⟩
  have wds : wd.size = 3 := by rw [hwd]; rfl
  have db0 : Chg [] w (w.alloc (.cells #[.int .i64 10, .int .i64 a.slot, .int .i64 a.other, .string a.word, .string a.call.method, .string a.call.key, .int .i64 a.call.value, .string a.call.text, .int .i64 a.face, .slice A1 a.A.length c1, .slice A2 a.B.length c2] 38)) := (Chg.refl [] w).alloc _
  have qw : (w.alloc (.cells #[.int .i64 10, .int .i64 a.slot, .int .i64 a.other, .string a.word, .string a.call.method, .string a.call.key, .int .i64 a.call.value, .string a.call.text, .int .i64 a.face, .slice A1 a.A.length c1, .slice A2 a.B.length c2] 38)).cell? ⟨0, 10, none⟩ = some (.string wd) := (db0.cell (p := ⟨0, 10, none⟩) hE.2.2.1 (by simp)).trans (by rw [hwd]; exact hE.2.2.2 ⟨10, by decide⟩)
  clear db0
  obtain ⟨T, hT⟩ : ∃ T, T = a.txt := ⟨_, rfl⟩
  have hT2 := hT.trans (txt_8 (.inr h))
  rw [← hT]
  obtain ⟨x1, hx1⟩ : ∃ x, x = wd ++ (⟨#[32]⟩ : ByteArray) := ⟨_, rfl⟩
  obtain ⟨x2, hx2⟩ : ∃ x, x = x1 ++ n := ⟨_, rfl⟩
  obtain ⟨y2, hy2⟩ : ∃ x, x = x1 ++ bA := ⟨_, rfl⟩
  obtain ⟨y3, hy3⟩ : ∃ x, x = y2 ++ (⟨#[32, 101, 108, 115, 101, 32]⟩ : ByteArray) := ⟨_, rfl⟩
  obtain ⟨y4, hy4⟩ : ∃ x, x = y3 ++ bB := ⟨_, rfl⟩
  have ex1 : (⟨#[32]⟩ : ByteArray).size = 1 := rfl
  have ey3 : (⟨#[32, 101, 108, 115, 101, 32]⟩ : ByteArray).size = 6 := rfl
  have zx1 := cat_sz hx1
  have zx2 := cat_sz hx2
  have zy2 := cat_sz hy2
  have zy3 := cat_sz hy3
  have zy4 := cat_sz hy4
  have kx1 := cat_is (P := Tryz.prog) hx1 (by omega)
  have kx2 := cat_is (P := Tryz.prog) hx2 (by omega)
  have ky2 := cat_is (P := Tryz.prog) hy2 (by omega)
  have ky3 := cat_is (P := Tryz.prog) hy3 (by omega)
  have ky4 := cat_is (P := Tryz.prog) hy4 (by omega)
  have HE : Hid (y4 = T) := by
    show _ = _
    rw [hT2, h, wordT_10, hy4, hy3, hy2, hx1, hbA, hbB, hwd]
    try simp only [ByteArray.append_assoc]
  rw [h]
  clear ex1 ey3 zx1 zx2 zy2 zy3 zy4 hx1 hx2 hy2 hy3 hy4 hn hbA hbB hwd ns sl hT hT2 hok h hz hW bA_ bB_ hE wds
  go_enter Tryz.func39, Tryz.ntmps39
  go_wp2_with fail
  obtain ⟨wb, hwb⟩ : ∃ wb, wb = w.alloc (.cells #[.int .i64 10, .int .i64 a.slot, .int .i64 a.other, .string a.word, .string a.call.method, .string a.call.key, .int .i64 a.call.value, .string a.call.text, .int .i64 a.face, .slice A1 a.A.length c1, .slice A2 a.B.length c2] 38) := ⟨_, rfl⟩
  have db : Chg [] w wb := hwb ▸ (Chg.refl [] w).alloc _
  have sb : w.heap.size < wb.heap.size := by rw [hwb]; simp
  have v0 : wb.cell? ⟨w.heap.size, 0, none⟩ = some (.int .i64 10) := by rw [hwb]; go_simp
  have v9 : wb.cell? ⟨w.heap.size, 9, none⟩ = some (.slice A1 a.A.length c1) := by rw [hwb]; go_simp
  have v10 : wb.cell? ⟨w.heap.size, 10, none⟩ = some (.slice A2 a.B.length c2) := by rw [hwb]; go_simp
  rw [← hwb]
  clear hwb qw
  refine (FN.out _ db).mono ?_
  rintro e w1 ⟨rfl, k1⟩
  have p0 := (k1.cell (p := ⟨w.heap.size, 0, none⟩) sb (by simp)).trans v0
  have p9 := (k1.cell (p := ⟨w.heap.size, 9, none⟩) sb (by simp)).trans v9
  have p10 := (k1.cell (p := ⟨w.heap.size, 10, none⟩) sb (by simp)).trans v10
  have hlt : w.heap.size < w1.heap.size := by have := k1.size; omega
  have d1 : Chg [] w w1 := db.trans0 k1
  clear k1 v0 v9 v10
  go_wp2_with fail
  go_region_held3 (fun w' => w'.cell? ⟨w.heap.size, 9, none⟩ = some (.slice A1 a.A.length c1) ∧ w'.cell? ⟨w.heap.size, 10, none⟩ = some (.slice A2 a.B.length c2) ∧ w.heap.size < w'.heap.size ∧ Chg [] w w') (first | exact ⟨p9, p10, hlt, d1.drew⟩ | exact ⟨(c1.cell E3 (by simp)).trans E1, (c1.cell E3 (by simp)).trans E2, by have := c1.size; omega, E4.trans0 c1⟩) (first | (go_at_call 60; obtain ⟨E1, E2, E3, E4⟩ := ‹_ ∧ _ ∧ _ ∧ Chg [] w _›; (with_reducible refine (IA.out _ E4).mono ?_); rintro e w1 ⟨rfl, c1⟩) | (go_at_call 60; obtain ⟨E1, E2, E3, E4⟩ := ‹_ ∧ _ ∧ _ ∧ Chg [] w _›; (with_reducible refine (IB.out _ E4).mono ?_); rintro e w1 ⟨rfl, c1⟩))
  obtain ⟨_, _, _, E⟩ := ‹_ ∧ _ ∧ _ ∧ Chg [] w _›
  go_wp2_with fail
  go_ret
  exact ⟨str_ret HE.out, E⟩
theorem actionText_any (a : ActionT) (A1 A2 : Option Addr) (c1 c2 : Nat) (w : World) (hok : a.ok) (hz : a.size ≤ 14) (hW : actionW a ≤ 1048576) (hE : EnvT w) (IA : ∀ W, Chg [] w W → Calls Tryz.prog 60 #[.slice A1 a.A.length c1] W (StrPost (blkT (txtL a.A)) W)) (IB : ∀ W, Chg [] w W → Calls Tryz.prog 60 #[.slice A2 a.B.length c2] W (StrPost (blkT (txtL a.B)) W)) :
    Calls Tryz.prog 39 #[.agg #[.int .i64 a.op, .int .i64 a.slot, .int .i64 a.other, .string a.word, .string a.call.method, .string a.call.key, .int .i64 a.call.value, .string a.call.text, .int .i64 a.face, .slice A1 a.A.length c1, .slice A2 a.B.length c2]] w (StrPost a.txt w) := by
  rcases op_cases a.op with (h | h | h | h | h | h | h | h | h | h) | h
  · exact actionText_1 a A1 A2 c1 c2 w h hok hW hE
  · exact actionText_2 a A1 A2 c1 c2 w h hok hW hE
  · exact actionText_3 a A1 A2 c1 c2 w h hok hE
  · exact actionText_4 a A1 A2 c1 c2 w h hok hE
  · exact actionText_5 a A1 A2 c1 c2 w h hok hE
  · exact actionText_6 a A1 A2 c1 c2 w h hok hE
  · exact actionText_7 a A1 A2 c1 c2 w h hok hW hE
  · exact actionText_8 a A1 A2 c1 c2 w h hok hz hW hE IA IB
  · exact actionText_9 a A1 A2 c1 c2 w h hok hz hW hE IA
  · exact actionText_10 a A1 A2 c1 c2 w h hok hz hW hE IA IB
  · exact absurd (ok_op hok) h.1
end Go.Proofs.YtgnggiibhkphjaaGreatDoor
namespace Go.Proofs.YtgnggiibhkphjaaGreatDoor
open Go.RowKit

theorem bodyT_pos {L : List ByteArray} (h : L.length ≠ 0) : bodyT L = joinB L ⟨#[59, 32]⟩ ++ ⟨#[32]⟩ := by
  cases L with
  | nil => exact absurd rfl h
  | cons x r => rfl
theorem bodyT_nil {L : List ByteArray} (h : L.length = 0) : bodyT L = ⟨#[]⟩ := by
  cases L with
  | nil => rfl
  | cons x r => simp at h
theorem joinB_small {l : List ActionT} (h : strsW1 (txtL l) ≤ 67108864 ∧ l.length ≤ 14) : (joinB (txtL l) ⟨#[59, 32]⟩).size ≤ 67109000 := by
  have := joinB_size_le (txtL l) ⟨#[59, 32]⟩ 14 67108864 (by decide) (by rw [txtL_len]; exact h.2) h.1
  omega
open Classical in
/-- The text of a plan. -/
noncomputable def planT (l : List ActionT) : ByteArray := if PlanOk l then (if l.length = 0 then ⟨#[110, 111, 116, 104, 105, 110, 103]⟩ else joinB (txtL l) ⟨#[59, 32]⟩) else ⟨#[]⟩
theorem planT_no {l : List ActionT} (h : ¬ PlanOk l) : planT l = ⟨#[]⟩ := by unfold planT; rw [if_neg h]
theorem planT_nil {l : List ActionT} (h : PlanOk l) (h0 : l.length = 0) : planT l = ⟨#[110, 111, 116, 104, 105, 110, 103]⟩ := by unfold planT; rw [if_pos h, if_pos h0]
theorem planT_pos {l : List ActionT} (h : PlanOk l) (h0 : ¬ l.length = 0) : planT l = joinB (txtL l) ⟨#[59, 32]⟩ := by unfold planT; rw [if_pos h, if_neg h0]
/-- l8Text of a list is known. -/
def TextS (l : List ActionT) : Prop := ∀ (u : Value) (B : Nat) (w : World), okL l → sizeL l ≤ 14 → actionsW l ≤ 1048576 → Rd w B (actions l) u → B ≤ w.heap.size →
    Calls Tryz.prog 38 #[u] w (StrPost (bodyT (txtL l)) w)
/-- The text of one of the actions of a list. -/
theorem lineS_in {l : List ActionT} (ih : ∀ a ∈ l, TextS a.A ∧ TextS a.B) (hok : okL l) (hz : sizeL l ≤ 14) (hW : actionsW l ≤ 1048576) {w : World} {B : Nat} (hB : B ≤ w.heap.size) {a : ActionT} (ha : a ∈ l) {A1 A2 : Option Addr} {c1 c2 : Nat} (rA : Rd w B (actions a.A) (.slice A1 a.A.length c1)) (rB : Rd w B (actions a.B) (.slice A2 a.B.length c2)) (W : World) (hc : Chg [] w W) :
    Calls Tryz.prog 26 #[.agg #[.int .i64 a.op, .int .i64 a.slot, .int .i64 a.other, .string a.word, .string a.call.method, .string a.call.key, .int .i64 a.call.value, .string a.call.text, .int .i64 a.face, .slice A1 a.A.length c1, .slice A2 a.B.length c2]] W (StrPost a.txt W) := by
  have hao := (okL_iff l).1 hok a ha
  have haz := Nat.le_trans (sizeL_mem ha) hz
  have haw : actionW a ≤ 1048576 := by have := actionsW_mem ha; unfold actionsW at hW; omega
  obtain ⟨⟨a1, a2, a3⟩, b1, b2, b3⟩ := sub_small hao haz haw
  exact l8Line_any a A1 A2 c1 c2 W hao haz haw
    (fun V hV => (ih a ha).1 _ B V a1 a2 a3 (rA.chg0 (hc.trans0 hV) hB) (Nat.le_trans hB (hc.trans0 hV).size))
    (fun V hV => (ih a ha).2 _ B V b1 b2 b3 (rB.chg0 (hc.trans0 hV) hB) (Nat.le_trans hB (hc.trans0 hV).size))
set_option maxRecDepth 100000 in
set_option maxHeartbeats 4000000 in
theorem l8Text_all : ∀ l, TextS l := by
  refine ActionT.ind fun l ih => ?_
  intro u B w hok hz hW hr hB
  obtain ⟨A, cap, rfl, h0, h1, hrow⟩ := actions_row hr
  unfold maxLen at h1
  have HS := Lib.hid (plan_small hok hz hW)
  have hll := HS.out.2
  have LL := Lib.hid (fun (W0 : World) (hc : Chg [] w W0) (a : ActionT) (ha : a ∈ l) (A1 A2 : Option Addr) (c1 c2 : Nat) (rA : Rd W0 B (actions a.A) (.slice A1 a.A.length c1)) (rB : Rd W0 B (actions a.B) (.slice A2 a.B.length c2)) (W : World) (hW0 : Chg [] W0 W) => lineS_in ih hok hz hW (Nat.le_trans hB hc.size) ha rA rB W hW0)
  clear ih hr hok hz hW
  go_enter Tryz.func38, Tryz.ntmps38
  go_wp2_with fail
  go_loopw [3, 9] (fun v i wr => ∃ (k : Nat) (A' : Option Addr) (cap' : Nat), k ≤ l.length ∧ i = .int .i64 k ∧ v = .slice A' k cap' ∧ App w wr 9 1 (.slice A' k cap') k (((l.take k).map ActionT.txt).flatMap strC)) (fun _ i _ => l.length - (intOf i).toNat)
  case atStart => exact ⟨0, _, 0, Nat.zero_le _, rfl, rfl, App.empty w _ _ (Chg.refl _ _)⟩
  case round =>
    obtain ⟨k, A', cap', hk, rfl, rfl, hh⟩ := hrel
    have hcg : Chg [] w wr := hh.chg
    by_cases hlt : k < l.length
    · obtain ⟨b, off, uA, uB, rfl, hb, q0, q1, q2, q3, q4, q5, q6, q7, q8, q9, q10, rA, rB⟩ := actions_cells (hrow.chg0 hcg hB) k hlt
      obtain ⟨A1, cap1, rfl, _, _, _⟩ := actions_row rA
      obtain ⟨A2, cap2, rfl, _, _, _⟩ := actions_row rB
      have hmem := List.getElem_mem hlt
      have hsz := hcg.size
      have LN := Lib.hid (fun W (hc : Chg [] wr W) => LL.out _ hcg _ hmem _ _ _ _ rA rB W hc)
      obtain ⟨y, hy⟩ : ∃ y, y = l[k].txt := ⟨_, rfl⟩
      rw [← hy] at LN
      have HY := Lib.hid hy
      clear hy rA rB hmem
      go_wp2_with fail
      refine (LN.out _ ((Chg.refl _ _).alloc _)).mono ?_
      rintro e w2 ⟨rfl, c2⟩
      have d2 : Chg [] wr w2 := Chg.trans0 ((Chg.refl _ _).alloc _) c2
      go_wp2_with (at_builtin; refine wpList_app rfl (.tmp 13) (.tmp 16) _ rfl 9 _ 1 16 Tryz.underlying42 string_info rfl (by omega) hh (us := [.string y]) (dsE := strC y) ⟨[], HasL.cons_v (HasL.nil _), by simp, d2.alloc _⟩ rfl w2.heap.size 1 rfl rfl (by intro j u hj; cases j with | zero => cases hj; go_simp | succ j => simp at hj) (by intro u hu; simp at hu; subst hu; rfl) (by omega) (by omega) ?_; intro A3 cap3 w3 hA3)
      go_roundw
      case rel => exact ⟨k + 1, A3, cap3, by omega, by go_num, by go_num, by rw [List.take_succ_eq_append_getElem hlt, List.map_append, List.flatMap_append]; rw [HY.out] at hA3; simpa using hA3⟩
      case measure => simp [intOf]; omega
    · obtain rfl : k = l.length := by omega
      rw [List.take_length] at hh
      have hn : Rd wr wr.heap.size (strs (txtL l)) (.slice A' l.length cap') := by have := hh.new.rd; rw [txtL_map]; unfold strs; rw [List.length_map]; exact this
      clear hh LL
      by_cases hz0 : l.length = 0
      · have HE := Lib.hid (bodyT_nil (L := txtL l) (by rw [txtL_len]; exact hz0))
        clear hn
        go_wp2_with fail
        go_ret
        exact ⟨str_ret HE.out.symm, hcg⟩
      · have hz1 : ¬ l = [] := fun e => hz0 (by rw [e]; rfl)
        have hz2 : ((l.length : Int) == 0) = false := by simpa using hz1
        have HE := Lib.hid (bodyT_pos (L := txtL l) (by rw [txtL_len]; exact hz0))
        have JW := Lib.hid (fun W (hc : Chg [] wr W) => joinWith_spec_any (txtL l) ⟨#[59, 32]⟩ _ wr.heap.size W (by rw [txtL_len]; omega) (by decide) (by have := HS.out.1; omega) (hn.chg0 hc (Nat.le_refl _)) hc.size)
        have hjs := joinB_small HS.out
        obtain ⟨J, hJ⟩ : ∃ J, J = joinB (txtL l) ⟨#[59, 32]⟩ := ⟨_, rfl⟩
        rw [← hJ] at JW HE hjs
        obtain ⟨x, hx⟩ : ∃ x, x = J ++ ⟨#[32]⟩ := ⟨_, rfl⟩
        rw [← hx] at HE
        have e1 : (⟨#[32]⟩ : ByteArray).size = 1 := rfl
        have kx := cat_is (P := Tryz.prog) hx (by omega)
        clear hx hJ e1 hjs hn
        go_wp2_with fail
        refine (JW.out _ (Chg.refl _ _)).mono ?_
        rintro e w4 ⟨rfl, c4⟩
        go_wp2_with fail
        go_ret
        exact ⟨str_ret HE.out.symm, hcg.trans0 c4⟩
set_option maxRecDepth 100000 in
set_option maxHeartbeats 4000000 in
theorem formatPlan_spec_any (l : List ActionT) (u : Value) (B : Nat) (w : World) (hW : actionsW l ≤ 1048576) (hr : Rd w B (actions l) u) (hB : B ≤ w.heap.size) :
    Calls Tryz.prog 13 #[u] w (StrPost (planT l) w) := by
  by_cases hp : PlanOk l
  · have IP := Lib.hid ((isPlan_spec_law l u B w hW hr hB).mono (BoolPost.pos hp))
    obtain ⟨A, cap, rfl, h0, h1, hrow⟩ := actions_row hr
    unfold maxLen at h1
    have HP := Lib.hid hp
    have hok := hp.2.2
    have hz := hp.1
    have HS := Lib.hid (plan_small hok hz hW)
    have hll := HS.out.2
    have LL := Lib.hid (fun (W0 : World) (hc : Chg [] w W0) (a : ActionT) (ha : a ∈ l) (A1 A2 : Option Addr) (c1 c2 : Nat) (rA : Rd W0 B (actions a.A) (.slice A1 a.A.length c1)) (rB : Rd W0 B (actions a.B) (.slice A2 a.B.length c2)) (W : World) (hW0 : Chg [] W0 W) => lineS_in (fun a _ => ⟨l8Text_all a.A, l8Text_all a.B⟩) hok hz hW (Nat.le_trans hB hc.size) ha rA rB W hW0)
    clear hp hr hok hz hW
    go_enter Tryz.func13, Tryz.ntmps13
    go_wp2_with fail
    refine IP.out.mono ?_
    rintro e w1 ⟨rfl, c1⟩
    go_wp2_with fail
    go_loopw [3, 12] (fun v i wr => ∃ (k : Nat) (A' : Option Addr) (cap' : Nat), k ≤ l.length ∧ i = .int .i64 k ∧ v = .slice A' k cap' ∧ App w1 wr 9 1 (.slice A' k cap') k (((l.take k).map ActionT.txt).flatMap strC)) (fun _ i _ => l.length - (intOf i).toNat)
    case atStart => exact ⟨0, _, 0, Nat.zero_le _, rfl, rfl, App.empty w1 _ _ (Chg.refl _ _)⟩
    case round =>
      obtain ⟨k, A', cap', hk, rfl, rfl, hh⟩ := hrel
      have hcg : Chg [] w wr := c1.trans0 hh.chg
      by_cases hlt : k < l.length
      · obtain ⟨b, off, uA, uB, rfl, hb, q0, q1, q2, q3, q4, q5, q6, q7, q8, q9, q10, rA, rB⟩ := actions_cells (hrow.chg0 hcg hB) k hlt
        obtain ⟨A1, cap1, rfl, _, _, _⟩ := actions_row rA
        obtain ⟨A2, cap2, rfl, _, _, _⟩ := actions_row rB
        have hmem := List.getElem_mem hlt
        have hsz := hcg.size
        have LN := Lib.hid (fun W (hc : Chg [] wr W) => LL.out _ hcg _ hmem _ _ _ _ rA rB W hc)
        obtain ⟨y, hy⟩ : ∃ y, y = l[k].txt := ⟨_, rfl⟩
        rw [← hy] at LN
        have HY := Lib.hid hy
        clear hy rA rB hmem
        go_wp2_with fail
        refine (LN.out _ ((Chg.refl _ _).alloc _)).mono ?_
        rintro e w2 ⟨rfl, c2⟩
        have d2 : Chg [] wr w2 := Chg.trans0 ((Chg.refl _ _).alloc _) c2
        go_wp2_with (at_builtin; refine wpList_app rfl (.tmp 16) (.tmp 19) _ rfl 9 _ 1 16 Tryz.underlying42 string_info rfl (by omega) hh (us := [.string y]) (dsE := strC y) ⟨[], HasL.cons_v (HasL.nil _), by simp, d2.alloc _⟩ rfl w2.heap.size 1 rfl rfl (by intro j u hj; cases j with | zero => cases hj; go_simp | succ j => simp at hj) (by intro u hu; simp at hu; subst hu; rfl) (by omega) (by omega) ?_; intro A3 cap3 w3 hA3)
        go_roundw
        case rel => exact ⟨k + 1, A3, cap3, by omega, by go_num, by go_num, by rw [List.take_succ_eq_append_getElem hlt, List.map_append, List.flatMap_append]; rw [HY.out] at hA3; simpa using hA3⟩
        case measure => simp [intOf]; omega
      · obtain rfl : k = l.length := by omega
        rw [List.take_length] at hh
        have hn : Rd wr wr.heap.size (strs (txtL l)) (.slice A' l.length cap') := by have := hh.new.rd; rw [txtL_map]; unfold strs; rw [List.length_map]; exact this
        clear hh LL
        by_cases hz0 : l.length = 0
        · have HE := Lib.hid (planT_nil HP.out hz0)
          clear hn
          go_wp2_with fail
          go_ret
          exact ⟨str_ret HE.out.symm, hcg⟩
        · have hz1 : ¬ l = [] := fun e => hz0 (by rw [e]; rfl)
          have hz2 : ((l.length : Int) == 0) = false := by simpa using hz1
          have HE := Lib.hid (planT_pos HP.out hz0)
          have JW := Lib.hid (fun W (hc : Chg [] wr W) => joinWith_spec_any (txtL l) ⟨#[59, 32]⟩ _ wr.heap.size W (by rw [txtL_len]; omega) (by decide) (by have := HS.out.1; omega) (hn.chg0 hc (Nat.le_refl _)) hc.size)
          clear hn
          go_wp2_with fail
          refine (JW.out _ (Chg.refl _ _)).mono ?_
          rintro e w4 ⟨rfl, c4⟩
          go_wp2_with fail
          go_ret
          exact ⟨str_ret HE.out.symm, hcg.trans0 c4⟩
  · have IP := Lib.hid ((isPlan_spec_law l u B w hW hr hB).mono (BoolPost.neg hp))
    have HE := Lib.hid (planT_no hp)
    obtain ⟨A, cap, rfl, _, _, _⟩ := actions_row hr
    clear hp hr hW
    go_enter Tryz.func13, Tryz.ntmps13
    go_wp2_with fail
    refine IP.out.mono ?_
    rintro e w1 ⟨rfl, c1⟩
    go_wp2_with fail
    go_ret
    exact ⟨str_ret HE.out.symm, c1⟩
end Go.Proofs.YtgnggiibhkphjaaGreatDoor
namespace Go.Proofs.YtgnggiibhkphjaaGreatDoor
open Go.RowKit

theorem blkT_pos {L : List ByteArray} (h : L.length ≠ 0) : blkT L = ⟨#[123, 32]⟩ ++ joinB L ⟨#[59, 32]⟩ ++ ⟨#[32, 125]⟩ := by
  cases L with
  | nil => exact absurd rfl h
  | cons x r => rfl
theorem blkT_nil {L : List ByteArray} (h : L.length = 0) : blkT L = ⟨#[123, 32, 125]⟩ := by
  cases L with
  | nil => rfl
  | cons x r => simp at h
/-- planText of a list is known. -/
def TextI (l : List ActionT) : Prop := ∀ (u : Value) (B : Nat) (w : World), EnvT w → okL l → sizeL l ≤ 14 → actionsW l ≤ 1048576 → Rd w B (actions l) u → B ≤ w.heap.size →
    Calls Tryz.prog 28 #[u] w (StrPost (joinB (txtL l) ⟨#[59, 32]⟩) w)
set_option maxRecDepth 100000 in
set_option maxHeartbeats 4000000 in
theorem blockText_of {l : List ActionT} (hT : TextI l) (u : Value) (B : Nat) (w : World) (hE : EnvT w) (hok : okL l) (hz : sizeL l ≤ 14) (hW : actionsW l ≤ 1048576) (hr : Rd w B (actions l) u) (hB : B ≤ w.heap.size) :
    Calls Tryz.prog 60 #[u] w (StrPost (blkT (txtL l)) w) := by
  have HT := Lib.hid (hT u B w hE hok hz hW hr hB)
  have hjs := joinB_small (plan_small hok hz hW)
  obtain ⟨A, cap, rfl, h0, h1, _⟩ := actions_row hr
  unfold maxLen at h1
  clear hT hE hok hz hW hr hB
  by_cases hz0 : l.length = 0
  · have HE := Lib.hid (blkT_nil (L := txtL l) (by rw [txtL_len]; exact hz0))
    clear HT hjs
    go_enter Tryz.func60, Tryz.ntmps60
    go_wp2_with fail
    go_ret
    exact ⟨str_ret HE.out.symm, Chg.refl _ _⟩
  · have hz1 : ¬ l = [] := fun e => hz0 (by rw [e]; rfl)
    have hz2 : ((l.length : Int) == 0) = false := by simpa using hz1
    have HE := Lib.hid (blkT_pos (L := txtL l) (by rw [txtL_len]; exact hz0))
    obtain ⟨J, hJ⟩ : ∃ J, J = joinB (txtL l) ⟨#[59, 32]⟩ := ⟨_, rfl⟩
    rw [← hJ] at HT HE hjs
    obtain ⟨x1, hx1⟩ : ∃ x, x = (⟨#[123, 32]⟩ : ByteArray) ++ J := ⟨_, rfl⟩
    obtain ⟨x2, hx2⟩ : ∃ x, x = x1 ++ (⟨#[32, 125]⟩ : ByteArray) := ⟨_, rfl⟩
    rw [← hx1, ← hx2] at HE
    have e1 : (⟨#[123, 32]⟩ : ByteArray).size = 2 := rfl
    have e2 : (⟨#[32, 125]⟩ : ByteArray).size = 2 := rfl
    have z1 := cat_sz hx1
    have k1 := cat_is (P := Tryz.prog) hx1 (by omega)
    have k2 := cat_is (P := Tryz.prog) hx2 (by omega)
    clear hx1 hx2 hJ e1 e2 z1 hjs
    go_enter Tryz.func60, Tryz.ntmps60
    go_wp2_with fail
    refine HT.out.mono ?_
    rintro e w1 ⟨rfl, c1⟩
    go_wp2_with fail
    go_ret
    exact ⟨str_ret HE.out.symm, c1⟩
/-- The text of one of the actions of a list. -/
theorem lineI_in {l : List ActionT} (ih : ∀ a ∈ l, TextI a.A ∧ TextI a.B) (hok : okL l) (hz : sizeL l ≤ 14) (hW : actionsW l ≤ 1048576) {w : World} {B : Nat} (hE : EnvT w) (hB : B ≤ w.heap.size) {a : ActionT} (ha : a ∈ l) {A1 A2 : Option Addr} {c1 c2 : Nat} (rA : Rd w B (actions a.A) (.slice A1 a.A.length c1)) (rB : Rd w B (actions a.B) (.slice A2 a.B.length c2)) (W : World) (hc : Chg [] w W) :
    Calls Tryz.prog 39 #[.agg #[.int .i64 a.op, .int .i64 a.slot, .int .i64 a.other, .string a.word, .string a.call.method, .string a.call.key, .int .i64 a.call.value, .string a.call.text, .int .i64 a.face, .slice A1 a.A.length c1, .slice A2 a.B.length c2]] W (StrPost a.txt W) := by
  have hao := (okL_iff l).1 hok a ha
  have haz := Nat.le_trans (sizeL_mem ha) hz
  have haw : actionW a ≤ 1048576 := by have := actionsW_mem ha; unfold actionsW at hW; omega
  obtain ⟨⟨a1, a2, a3⟩, b1, b2, b3⟩ := sub_small hao haz haw
  exact actionText_any a A1 A2 c1 c2 W hao haz haw (hE.keep hc)
    (fun V hV => blockText_of (ih a ha).1 _ B V (hE.keep (hc.trans0 hV)) a1 a2 a3 (rA.chg0 (hc.trans0 hV) hB) (Nat.le_trans hB (hc.trans0 hV).size))
    (fun V hV => blockText_of (ih a ha).2 _ B V (hE.keep (hc.trans0 hV)) b1 b2 b3 (rB.chg0 (hc.trans0 hV) hB) (Nat.le_trans hB (hc.trans0 hV).size))
set_option maxRecDepth 100000 in
set_option maxHeartbeats 4000000 in
theorem planText_all : ∀ l, TextI l := by
  refine ActionT.ind fun l ih => ?_
  intro u B w hE hok hz hW hr hB
  obtain ⟨A, cap, rfl, h0, h1, hrow⟩ := actions_row hr
  unfold maxLen at h1
  have HS := Lib.hid (plan_small hok hz hW)
  have hll := HS.out.2
  have LL := Lib.hid (fun (W0 : World) (hc : Chg [] w W0) (a : ActionT) (ha : a ∈ l) (A1 A2 : Option Addr) (c1 c2 : Nat) (rA : Rd W0 B (actions a.A) (.slice A1 a.A.length c1)) (rB : Rd W0 B (actions a.B) (.slice A2 a.B.length c2)) (W : World) (hW0 : Chg [] W0 W) => lineI_in ih hok hz hW (hE.keep hc) (Nat.le_trans hB hc.size) ha rA rB W hW0)
  clear ih hr hok hz hW hE
  go_enter Tryz.func28, Tryz.ntmps28
  go_wp2_with fail
  go_loopw [3, 8] (fun v i wr => ∃ (k : Nat) (A' : Option Addr) (cap' : Nat), k ≤ l.length ∧ i = .int .i64 k ∧ v = .slice A' k cap' ∧ App w wr 9 1 (.slice A' k cap') k (((l.take k).map ActionT.txt).flatMap strC)) (fun _ i _ => l.length - (intOf i).toNat)
  case atStart => exact ⟨0, _, 0, Nat.zero_le _, rfl, rfl, App.nil w _ _ (Chg.refl _ _)⟩
  case round =>
    obtain ⟨k, A', cap', hk, rfl, rfl, hh⟩ := hrel
    have hcg : Chg [] w wr := hh.chg
    by_cases hlt : k < l.length
    · obtain ⟨b, off, uA, uB, rfl, hb, q0, q1, q2, q3, q4, q5, q6, q7, q8, q9, q10, rA, rB⟩ := actions_cells (hrow.chg0 hcg hB) k hlt
      obtain ⟨A1, cap1, rfl, _, _, _⟩ := actions_row rA
      obtain ⟨A2, cap2, rfl, _, _, _⟩ := actions_row rB
      have hmem := List.getElem_mem hlt
      have hsz := hcg.size
      have LN := Lib.hid (fun W (hc : Chg [] wr W) => LL.out _ hcg _ hmem _ _ _ _ rA rB W hc)
      obtain ⟨y, hy⟩ : ∃ y, y = l[k].txt := ⟨_, rfl⟩
      rw [← hy] at LN
      have HY := Lib.hid hy
      clear hy rA rB hmem
      go_wp2_with fail
      refine (LN.out _ ((Chg.refl _ _).alloc _)).mono ?_
      rintro e w2 ⟨rfl, c2⟩
      have d2 : Chg [] wr w2 := Chg.trans0 ((Chg.refl _ _).alloc _) c2
      go_wp2_with (at_builtin; refine wpList_app rfl (.tmp 12) (.tmp 15) _ rfl 9 _ 1 16 Tryz.underlying42 string_info rfl (by omega) hh (us := [.string y]) (dsE := strC y) ⟨[], HasL.cons_v (HasL.nil _), by simp, d2.alloc _⟩ rfl w2.heap.size 1 rfl rfl (by intro j u hj; cases j with | zero => cases hj; go_simp | succ j => simp at hj) (by intro u hu; simp at hu; subst hu; rfl) (by omega) (by omega) ?_; intro A3 cap3 w3 hA3)
      go_roundw
      case rel => exact ⟨k + 1, A3, cap3, by omega, by go_num, by go_num, by rw [List.take_succ_eq_append_getElem hlt, List.map_append, List.flatMap_append]; rw [HY.out] at hA3; simpa using hA3⟩
      case measure => simp [intOf]; omega
    · obtain rfl : k = l.length := by omega
      rw [List.take_length] at hh
      have hn : Rd wr wr.heap.size (strs (txtL l)) (.slice A' l.length cap') := by have := hh.new.rd; rw [txtL_map]; unfold strs; rw [List.length_map]; exact this
      clear hh LL
      have JW := Lib.hid (fun W (hc : Chg [] wr W) => joinWith_impl_any (txtL l) ⟨#[59, 32]⟩ _ wr.heap.size W (by rw [txtL_len]; omega) (by decide) (by have := HS.out.1; omega) (hn.chg0 hc (Nat.le_refl _)) hc.size)
      clear hn
      go_wp2_with fail
      refine (JW.out _ (Chg.refl _ _)).mono ?_
      rintro e w4 ⟨rfl, c4⟩
      go_wp2_with fail
      go_ret
      exact ⟨rfl, hcg.trans0 c4⟩
set_option maxRecDepth 100000 in
set_option maxHeartbeats 4000000 in
theorem formatPlan_impl_any {w : World} (hE : EnvT w) (l : List ActionT) (u : Value) (B : Nat) (hW : actionsW l ≤ 1048576) (hr : Rd w B (actions l) u) (hB : B ≤ w.heap.size) :
    Calls Tryz.prog 14 #[u] w (StrPost (planT l) w) := by
  by_cases hp : PlanOk l
  · have IP := Lib.hid ((isPlan_impl_any l u B w hE.1 hW hr hB).mono (BoolPost.pos hp))
    have PT := Lib.hid (fun W (hc : Chg [] w W) => planText_all l u B W (hE.keep hc) hp.2.2 hp.1 hW (hr.chg0 hc hB) (Nat.le_trans hB hc.size))
    obtain ⟨A, cap, rfl, h0, h1, _⟩ := actions_row hr
    unfold maxLen at h1
    by_cases hz0 : l.length = 0
    · have HE := Lib.hid (planT_nil hp hz0)
      have hz3 := Lib.hid hz0
      have hz4 : ((l.length : Int) == 0) = true := by simp [hz0]
      clear hp hr hW hE PT hz0
      go_enter Tryz.func14, Tryz.ntmps14
      go_wp2_with fail
      refine IP.out.mono ?_
      rintro e w1 ⟨rfl, c1⟩
      have hz0 := hz3.out
      go_wp2_with fail
      go_ret
      exact ⟨str_ret HE.out.symm, c1⟩
    · have hz1 : ¬ l = [] := fun e => hz0 (by rw [e]; rfl)
      have hz2 : ((l.length : Int) == 0) = false := by simpa using hz1
      have HE := Lib.hid (planT_pos hp hz0)
      clear hp hr hW hE
      go_enter Tryz.func14, Tryz.ntmps14
      go_wp2_with fail
      refine IP.out.mono ?_
      rintro e w1 ⟨rfl, c1⟩
      go_wp2_with fail
      refine (PT.out _ c1).mono ?_
      rintro e w2 ⟨rfl, c2⟩
      go_wp2_with fail
      go_ret
      exact ⟨str_ret HE.out.symm, c1.trans0 c2⟩
  · have IP := Lib.hid ((isPlan_impl_any l u B w hE.1 hW hr hB).mono (BoolPost.neg hp))
    have HE := Lib.hid (planT_no hp)
    obtain ⟨A, cap, rfl, _, _, _⟩ := actions_row hr
    clear hp hr hW hE
    go_enter Tryz.func14, Tryz.ntmps14
    go_wp2_with fail
    refine IP.out.mono ?_
    rintro e w1 ⟨rfl, c1⟩
    go_wp2_with fail
    go_ret
    exact ⟨str_ret HE.out.symm, c1⟩
end Go.Proofs.YtgnggiibhkphjaaGreatDoor
namespace Go.Proofs.YtgnggiibhkphjaaGreatDoor
open Go.RowKit

set_option maxRecDepth 100000 in
set_option maxHeartbeats 2000000 in
theorem formatPlan_law (l : List ActionT) (ul : Value) (B : Nat) (w : World) (hfl : FitL [actions l]) (rl_0 : Rd w B (actions l) ul) (hB : B ≤ w.heap.size) (hE : EnvT w) :
    Calls Tryz.prog 5 #[ul] w fun e w' => e = .returned (.bool true) ∧ Chg [] w w' := by
  have EH := Lib.hid (fun W (hc : Chg [] w W) => hE.keep hc)
  clear hE
  go_enter Tryz.func5, Tryz.ntmps5
  go_wp2_with fail
  refine (szActionS_any l _ _ B _ (by omega) (by omega) hfl rl_0 (by omega)).mono ?_; rintro e w1 ⟨z1, rfl, L1, c1⟩
  have bd1 := L1.bd (by omega)
  have b1 := Chg.size (c1)
  have rl_1 := Rd.chg0 rl_0 (c1) (by omega)
  have d1 : Chg [] w w1 := Chg.trans0 (Chg.refl [] w) c1
  go_wp2_with fail
  · go_ret
    exact ⟨rfl, d1⟩
  have hWl : actionsW l ≤ 1048576 ∧ (0 ≤ z1) := by simp only [Left] at L1; omega
  refine (toActionS_any l _ B _ (by omega) rl_1 (by omega)).mono ?_; intro e w2 G2; obtain ⟨A2, cap2, rfl, n2⟩ := G2.sl
  have b2 := Chg.size (n2.chg)
  have rl_2 := Rd.chg0 rl_1 (n2.chg) (by omega)
  have sl_2 := n2.rd
  have d2 : Chg [] w w2 := Chg.trans0 (d1) n2.chg
  go_wp2_with fail
  refine (formatPlan_spec_any l _ _ _ hWl.1 sl_2 (by omega)).mono ?_; rintro e w3 ⟨rfl, c3⟩
  have b3 := Chg.size (c3)
  have rl_3 := Rd.chg0 rl_2 (c3) (by omega)
  have sl_3 := Rd.chg0 sl_2 (c3) (by omega)
  have d3 : Chg [] w w3 := Chg.trans0 (d2) (c3)
  go_wp2_with fail
  refine (toActionS_any l _ B _ (by omega) rl_3 (by omega)).mono ?_; intro e w4 G4; obtain ⟨A4, cap4, rfl, n4⟩ := G4.sl
  have b4 := Chg.size (n4.chg)
  have rl_4 := Rd.chg0 rl_3 (n4.chg) (by omega)
  have xl_4 := n4.rd
  have d4 : Chg [] w w4 := Chg.trans0 (d3) n4.chg
  go_wp2_with fail
  refine (formatPlan_impl_any (EH.out _ (d4)) l _ _ hWl.1 xl_4 (by omega)).mono ?_; rintro e w5 ⟨rfl, c5⟩
  have b5 := Chg.size (c5)
  have rl_5 := Rd.chg0 rl_4 (c5) (by omega)
  have xl_5 := Rd.chg0 xl_4 (c5) (by omega)
  have d5 : Chg [] w w5 := Chg.trans0 (d4) (c5)
  go_wp2_with fail
  refine (toActionS_any l _ B _ (by omega) rl_5 (by omega)).mono ?_; intro e w6 G6; obtain ⟨A6, cap6, rfl, n6⟩ := G6.sl
  have b6 := Chg.size (n6.chg)
  have rl_6 := Rd.chg0 rl_5 (n6.chg) (by omega)
  have xl_6 := Rd.chg0 xl_5 (n6.chg) (by omega)
  have yl_6 := n6.rd
  have d6 : Chg [] w w6 := Chg.trans0 (d5) n6.chg
  go_wp2_with fail
  refine (eqActionS_same l _ _ _ _ _ xl_6 yl_6 (by omega) (by omega)).mono ?_; rintro e w7 ⟨rfl, c7⟩
  have b7 := Chg.size (c7)
  have rl_7 := Rd.chg0 rl_6 (c7) (by omega)
  have xl_7 := Rd.chg0 xl_6 (c7) (by omega)
  have yl_7 := Rd.chg0 yl_6 (c7) (by omega)
  have d7 : Chg [] w w7 := Chg.trans0 (d6) c7
  go_wp2_with fail
  go_ret
  exact ⟨rfl, d7⟩
end Go.Proofs.YtgnggiibhkphjaaGreatDoor
