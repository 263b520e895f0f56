/- big: whether a code is too long. Conditions: none. / Runs of valid plans on valid slots, as the laws meet them. Conditions: the library's variables stand. / texts of the laws: whether two lists of texts are the same. Conditions: none. -/
import Derived.Test.YtdlkbomojjmnlaaGreatDoorPlan
import Derived.Test.YtdlkbomojjmnlaaGreatDoorRunPI
import Derived.Test.YtdlkbomojjmnlaaGreatDoorPlains
import Derived.Test.YtdlkbomojjmnlaaGreatDoorCurs
import Derived.Test.YtdlkbomojjmnlaaGreatDoorApps
import Derived.Test.YtdlkbomojjmnlaaGreatDoorGround
import Derived.Test.YtdlkbomojjmnlaaGreatDoorTexts
import Derived.Test.YtdlkbomojjmnlaaGreatDoorNames
import Derived.Deep.QuietTactic
set_option maxRecDepth 100000
set_option maxHeartbeats 2000000
namespace Go.Proofs.YtdlkbomojjmnlaaGreatDoor
open Go.RowKit

theorem big_no (A : Option Addr) (n cap : Nat) (w : World) (h : n ≤ 4096) : Calls Tryz.prog 9 #[.slice A n cap] w fun e w' => e = .returned (.bool false) ∧ w' = w := by
 have h2 : ¬ (4096 : Int) < (n : Int) := by omega
 go_enter Tryz.func9, Tryz.ntmps9
 go_wp2_with fail
 go_ret
 exact ⟨rfl, rfl⟩
theorem big_yes (A : Option Addr) (n cap : Nat) (w : World) (h : ¬ n ≤ 4096) : Calls Tryz.prog 9 #[.slice A n cap] w fun e w' => e = .returned (.bool true) ∧ w' = w := by
 have h2 : (4096 : Int) < (n : Int) := by omega
 go_enter Tryz.func9, Tryz.ntmps9
 go_wp2_with fail
 go_ret
 exact ⟨rfl, rfl⟩
end Go.Proofs.YtdlkbomojjmnlaaGreatDoor
namespace Go.Proofs.YtdlkbomojjmnlaaGreatDoor
open Go.RowKit

theorem BytesAt.keep {w w' : World} {A : Option Addr} {n : Nat} (h : BytesAt w w.heap.size A n) (hc : Chg [] w w') : BytesAt w' w'.heap.size A n := fun j hj => by
 obtain ⟨b, off, z, e, hb, hz, h1⟩ := h j hj
 exact ⟨b, off, z, e, Nat.lt_of_lt_of_le hb hc.size, (hc.cell (p := ⟨b, off + j, none⟩) hb (by simp)).trans hz, h1⟩
/-- What a run gives. -/
def RunIs (q : RunT × EndT) (W : World) (e : Ending) (w' : World) : Prop := ∃ (A : Option Addr) (cap : Nat), e = .returned (.tuple #[.agg #[.int .i64 q.2.code, .int .i64 q.2.place, .int .i64 q.2.want, .int .i64 q.2.had], .slice A q.1.slots.length cap, .int .i64 q.1.taken]) ∧ Rd w' w'.heap.size (slots q.1.slots) (.slice A q.1.slots.length cap) ∧ Chg [] W w'
theorem run_law {w : World} (hE : Env w) {s : List SlotT} {p : List ActionT} (input : List Int) {us um ui : Value} (hs : SlotsOk s) (hp : PlanOk p) (hW : actionsW p ≤ 1048576) (rs : Rd w w.heap.size (slots s) us) (rm : Rd w w.heap.size (actions p) um) (ri : Rd w w.heap.size (ints input) ui) (W : World) (hc : Chg [] w W) :
  Calls Tryz.prog 13 #[us, um, ui] W (RunIs (runL input p 0 ⟨s, 0⟩) W) := by
 refine (runPlan_impl_any s p input us um ui w.heap.size W (by have := hs.1; omega) (fun x hx => ?_) hW (rs.chg0 hc (Nat.le_refl _)) (rm.chg0 hc (Nat.le_refl _)) (ri.chg0 hc (Nat.le_refl _)) hc.size (hE.keep hc)).mono (fun e w' h => ?_)
 ·obtain ⟨i, hi, rfl⟩ := List.getElem_of_mem hx
  exact slot_small (hs.2 i hi)
 ·rw [runT_ok hs hp] at h
  obtain ⟨A, cap, e, N⟩ := h
  exact ⟨A, cap, e, N.rd, N.chg⟩
end Go.Proofs.YtdlkbomojjmnlaaGreatDoor
namespace Go.Proofs.YtdlkbomojjmnlaaGreatDoor
open Go.RowKit

theorem texts_same (l : List ByteArray) (u v : Value) (w : World) (r : Rd w w.heap.size (strs l) u) (r' : Rd w w.heap.size (strs l) v) :
  Calls Tryz.prog 23 #[u, v] w fun e w' => e = .returned (.bool true) ∧ Chg [] w w' := by
 obtain ⟨A, cap, rfl, h0, h1, hrow⟩ := strs_row r
 obtain ⟨A', cap', rfl, h0', h1', hrow'⟩ := strs_row r'
 unfold maxLen at h1 h1'
 have HR := Lib.hid hrow
 have HR' := Lib.hid hrow'
 clear r r' hrow hrow'
 go_enter Tryz.func23, Tryz.ntmps23
 go_wp2_with fail
 go_loopw [5] (fun i wr => ∃ k : Nat, k ≤ l.length ∧ i = .int .i64 k ∧ Hid (Chg [] w wr)) (fun i _ => l.length - (intOf i).toNat)
 case atStart => exact ⟨0, Nat.zero_le _, rfl, Lib.hid (Chg.refl _ _)⟩
 case round =>
  obtain ⟨k, hk, rfl, hC⟩ := hrel
  by_cases hlt : k < l.length
  ·obtain ⟨b, off, rfl, hb, q0⟩ := strs_cells HR.out k hlt
   obtain ⟨b', off', rfl, hb', q0'⟩ := strs_cells HR'.out k hlt
   have p0 : ∀ n, (wr.drewN n).cell? ⟨b, off + k, none⟩ = some (.string l[k]) := fun n => (hC.out.cell (p := ⟨b, off + k, none⟩) hb (by simp)).trans q0
   have p0' : ∀ n, (wr.drewN n).cell? ⟨b', off' + k, none⟩ = some (.string l[k]) := fun n => (hC.out.cell (p := ⟨b', off' + k, none⟩) hb' (by simp)).trans q0'
   have p1 : wr.cell? ⟨b, off + k, none⟩ = some (.string l[k]) := p0 0
   have p1' : wr.cell? ⟨b', off' + k, none⟩ = some (.string l[k]) := p0' 0
   clear q0 q0'
   have wj : IntKind.i64.wrap ((k : Int) + 1) = (k : Int) + 1 := wr_id (by omega) (by omega)
   go_wp2_with fail
   go_quiet (fail)
   go_wp2_with fail
   go_roundw
   case rel => exact ⟨k + 1, by omega, by first | rfl | go_num, Lib.hid (Chg.to hC.out)⟩
   case measure => first | (simp [intOf]; omega) | (simp [intOf])
  ·obtain rfl : k = l.length := by omega
   go_wp2_with fail
   go_ret
   exact ⟨rfl, hC.out⟩
end Go.Proofs.YtdlkbomojjmnlaaGreatDoor
