/- ParseFace of both packages. Conditions: for the program's, the names of the abilities stand in their variable. / ParseCall of the program. Conditions: the tables and variables of the library stand as they are laid. Written by a program. / readAction of the program. Conditions: the tables and variables of the library and the words stand as they are laid. Written by a program. -/
import Derived.Test.YtkgffhlpcjjobaaGreatDoorParses
import Derived.Test.YtkgffhlpcjjobaaGreatDoorCellsAll
import Derived.Test.YtkgffhlpcjjobaaGreatDoorLines
namespace Go.Proofs.YtkgffhlpcjjobaaGreatDoor
open Go.RowKit

theorem str_ne {a b : ByteArray} (h : a ≠ b) : (a.toList == b.toList) = false := by
  rw [beq_eq_false_iff_ne, ByteArray.toList_eq, ByteArray.toList_eq]
  exact fun e => h (list_inj e)
set_option maxRecDepth 100000 in
set_option maxHeartbeats 4000000 in
theorem parseFace_impl_any (s : ByteArray) (w : World) (hg : AbilAt w) :
    Calls Tryz.prog 139 #[.string s] w (OptPost (faceOf s) w) := by
  have HS := Lib.hid (fun (k : Nat) (hk : k < 64) => faceOf_some (t := s) hk)
  have HN := Lib.hid (faceOf_none (t := s))
  have FF := Lib.hid (fun (k : Nat) W (hc : Chg [] w W) => formatFace_impl_any k W (hg.keep hc))
  clear hg
  go_enter Tryz.func139, Tryz.ntmps139
  go_wp2_with fail
  go_loopw [5] (fun i wr => ∃ k : Nat, k ≤ 64 ∧ i = .int .i64 k ∧ Chg [] w wr ∧ Hid (∀ j : Nat, j < k → faceT j ≠ s)) (fun i _ => 64 - (intOf i).toNat)
  case atStart => exact ⟨0, by omega, rfl, Chg.refl _ _, fun j hj => absurd hj (by omega)⟩
  case round =>
    obtain ⟨k, hk, rfl, hc, HJ⟩ := hrel
    by_cases hlt : k < 64
    · have FK := Lib.hid (FF.out k)
      by_cases ht : faceT k = s
      · have HO := Lib.hid (HS.out k hlt ht HJ.out)
        rw [ht] at FK
        clear ht
        go_wp2_with fail
        refine (FK.out _ hc).mono ?_
        rintro e w1 ⟨rfl, c1⟩
        go_wp2_with fail
        go_ret2
        exact OptPost.of HO.out rfl (hc.trans0 c1)
      · have hb := str_ne ht
        have HJ2 : Hid (∀ j : Nat, j < k + 1 → faceT j ≠ s) := fun j hj => by
          rcases Nat.lt_or_ge j k with h | h
          · exact HJ.out j h
          · obtain rfl : j = k := by omega
            exact ht
        obtain ⟨t, hT⟩ : ∃ t : ByteArray, t = faceT k := ⟨_, rfl⟩
        rw [← hT] at FK hb
        clear hT ht
        go_wp2_with fail
        refine (FK.out _ hc).mono ?_
        rintro e w1 ⟨rfl, c1⟩
        go_wp2_with fail
        go_roundw
        case rel => exact ⟨k + 1, by omega, by go_num, hc.trans0 c1, HJ2⟩
        case measure => simp [intOf]; omega
    · obtain rfl : k = 64 := by omega
      go_wp2_with fail
      go_ret2
      exact OptPost.of (HN.out HJ.out) rfl hc
end Go.Proofs.YtkgffhlpcjjobaaGreatDoor
namespace Go.Proofs.YtkgffhlpcjjobaaGreatDoor
open Go.RowKit

/-- A call, and whether there is one. -/
def CallIs (o : Option CallT) (w : World) (e : Ending) (w' : World) : Prop := e = .returned (.tuple #[.agg #[.string (o.getD zeroC).method, .string (o.getD zeroC).key, .int .i64 (o.getD zeroC).value, .string (o.getD zeroC).text], .bool o.isSome]) ∧ Chg [] w w'
theorem CallIs.no {o : Option CallT} {w w' : World} (h : o = none) (hc : Chg [] w w') : CallIs o w (.returned (.tuple #[.agg #[.string ⟨#[]⟩, .string ⟨#[]⟩, .int .i64 0, .string ⟨#[]⟩], .bool false])) w' := by subst h; exact ⟨rfl, hc⟩
theorem CallIs.yes {o : Option CallT} {x : CallT} {w w' : World} (h : o = some x) (hc : Chg [] w w') : CallIs o w (.returned (.tuple #[.agg #[.string x.method, .string x.key, .int .i64 x.value, .string x.text], .bool true])) w' := by subst h; exact ⟨rfl, hc⟩
theorem callI_yes {s : ByteArray} {X : CallT} (h : rawI s = X) (h1 : CallOk X) (h2 : callT X = s) : callI s = some X := by
  unfold callI; rw [h, if_pos ⟨h1, h2⟩]
theorem callI_no {s : ByteArray} {X : CallT} (h : rawI s = X) (h1 : ¬ (CallOk X ∧ callT X = s)) : callI s = none := by
  unfold callI; rw [h, if_neg h1]
theorem cutW (l : List UInt8) (c : UInt8) : (bytesOf (Lib.cut l [c]).1).size ≤ l.length ∧ (bytesOf (Lib.cut l [c]).2.1).size ≤ l.length := cut_size l c
theorem cut32_any (t : ByteArray) (W : World) (ht : t.size ≤ 1048576) (hE : Env W) : Calls Tryz.prog 137 #[.string t, .string ⟨#[32]⟩] W fun e w' => e = .returned (.tuple #[.string (bytesOf (Lib.cut t.data.toList [32]).1), .string (bytesOf (Lib.cut t.data.toList [32]).2.1), .bool (Lib.cut t.data.toList [32]).2.2]) ∧ Chg [] W w' := by
  obtain ⟨m, hm⟩ := hE.max
  refine (Tryz.strings_Cut t ⟨#[32]⟩ m W (by omega) hm).mono ?_
  rintro e w' ⟨rfl, n, rfl⟩
  exact ⟨rfl, Chg.drawn _ _⟩
set_option maxRecDepth 100000 in
set_option maxHeartbeats 4000000 in
theorem parseCall_impl_any (s : ByteArray) (w : World) (hs : s.size ≤ 1048576) (hE : Env w) :
    Calls Tryz.prog 140 #[.string s] w (CallIs (callI s) w) := by
  have CUT := Lib.hid (fun (t : ByteArray) (ht : t.size ≤ 1048576) W (hc : Chg [] w W) => cut32_any t W ht (hE.keep hc))
  have PN := Lib.hid (fun (t : ByteArray) (ht : t.size ≤ 1048576) W (hc : Chg [] w W) => parseNumber_impl_any t W ht (hE.keep hc))
  have RAW : rawI s = rawI s := rfl
  conv at RAW => rhs; unfold rawI
  have C1 := CUT.out s hs
  have z1 := cutW s.data.toList 32
  rw [size_list] at z1
  obtain ⟨M, hM⟩ : ∃ M, M = bytesOf (Lib.cut s.data.toList [32]).1 := ⟨_, rfl⟩
  obtain ⟨R, hR⟩ : ∃ R, R = bytesOf (Lib.cut s.data.toList [32]).2.1 := ⟨_, rfl⟩
  obtain ⟨f1, hf1⟩ : ∃ f, f = (Lib.cut s.data.toList [32]).2.2 := ⟨_, rfl⟩
  have hRl : (Lib.cut s.data.toList [32]).2.1 = R.data.toList := by rw [hR]; rfl
  rw [hRl] at RAW
  rw [← hM] at RAW C1 z1
  rw [← hR] at C1 z1
  rw [← hf1] at C1
  have C2 := CUT.out R (by omega)
  have z2 := cutW R.data.toList 32
  rw [size_list] at z2
  have C1 := Lib.hid C1
  have C2 := Lib.hid C2
  have FC := Lib.hid (fun (x : CallT) (hk : x.key.size ≤ 1048576) (hx : x.text.size ≤ 1048576) W (hc : Chg [] w W) => formatCall_impl_any x W hk hx (hE.keep hc))
  have IC := Lib.hid (fun (x : CallT) (hk : x.key.size ≤ 1048576) W => isCall_impl_any x W hk)
  clear CUT hE hM hR hf1 hRl
  rcases methCases M with ⟨hm, m1, m2, m3, m4⟩ | ⟨hm, m1, m2, m3, m4⟩ | ⟨hm, m1, m2, m3, m4⟩ | ⟨hm, m1, m2, m3, m4⟩ | ⟨hm, m1, m2, m3, m4⟩
  · dsimp only at RAW
    rw [if_neg (by rw [hm]; decide), if_pos hm] at RAW
    try simp only [bytesOf_of] at RAW
    have RAW : Hid (rawI s = (⟨M, R, 0, ⟨#[]⟩⟩ : CallT)) := RAW
    have IX := Lib.hid (IC.out (⟨M, R, 0, ⟨#[]⟩⟩ : CallT) (by first | (show R.size ≤ _; omega) | (show K.size ≤ _; omega) | exact Nat.zero_le _))
    have FX := Lib.hid (FC.out (⟨M, R, 0, ⟨#[]⟩⟩ : CallT) (by first | (show R.size ≤ _; omega) | (show K.size ≤ _; omega) | exact Nat.zero_le _) (by first | (show R.size ≤ _; omega) | exact Nat.zero_le _))
    have YES := Lib.hid (callI_yes RAW.out)
    have NO := Lib.hid (callI_no RAW.out)
    obtain ⟨t, ht⟩ : ∃ t, t = callT (⟨M, R, 0, ⟨#[]⟩⟩ : CallT) := ⟨_, rfl⟩
    have FX := FX.out
    have YES := YES.out
    have NO := NO.out
    rw [← ht] at FX YES NO
    have FX := Lib.hid FX
    have YES := Lib.hid YES
    have NO := Lib.hid NO
    clear ht RAW hm IC FC PN z1 z2 C2
    by_cases hok : CallOk (⟨M, R,  0, ⟨#[]⟩⟩ : CallT)
    · have IX := Lib.hid (fun W => (IX.out W).mono (BoolPost.pos hok))
      by_cases hts : t = s
      · have HY := Lib.hid (YES.out hok hts)
        subst hts
        clear YES NO hok
        go_enter Tryz.func140, Tryz.ntmps140
        go_wp2_with fail
        refine (C1.out _ ((Chg.refl _ _).alloc _)).mono ?_
        rintro e w2 ⟨rfl, c2⟩
        obtain ⟨y2, z2, s2⟩ := c2.cells
        have d2 : Chg [] w w2 := Chg.trans0 ((Chg.refl _ _).alloc _) c2
        have t2 : w.heap.size < w2.heap.size := by simp at s2; omega
        have tt : w.heap.size < w.heap.size + 1 := by omega
        clear c2
        go_wp2_with fail
        refine (IX.out _).mono ?_
        rintro e w5 ⟨rfl, c5⟩
        obtain ⟨y5, z5, s5⟩ := c5.cells
        have d5 : Chg [] w w5 := Chg.trans0 (by repeat (first | with_reducible exact d2 | with_reducible exact Chg.refl _ _ | with_reducible refine Chg.drew ?_ | with_reducible refine Chg.drewN ?_ _ | with_reducible refine Chg.alloc ?_ _ | with_reducible refine Chg.setCell ?_ (.inr (by simp; try omega)) _)) c5
        have t5 : w.heap.size < w5.heap.size := by have := d5.size; simp at s5; omega
        have u5 : w2.heap.size < w5.heap.size := by simp at s5; omega
        have v5 : w2.heap.size < w2.heap.size + 1 := by omega
        have v6 : w.heap.size < w2.heap.size + 1 := by omega
        have b50 : w5.cell? ⟨w2.heap.size, 0, none⟩ = some (.string M) := by rw [y5 _ _ (by simp)]; go_simp
        have b51 : w5.cell? ⟨w2.heap.size, 1, none⟩ = some (.string R) := by rw [y5 _ _ (by simp)]; go_simp
        have b52 : w5.cell? ⟨w2.heap.size, 2, none⟩ = some (.int .i64 0) := by rw [y5 _ _ (by simp)]; go_simp
        have b53 : w5.cell? ⟨w2.heap.size, 3, none⟩ = some (.string ⟨#[]⟩) := by rw [y5 _ _ (by simp)]; go_simp
        clear c5
        go_wp2_with fail
        refine (FX.out _ d5).mono ?_
        rintro e w6 ⟨rfl, c6⟩
        obtain ⟨y6, z6, s6⟩ := c6.cells
        have d6 : Chg [] w w6 := Chg.trans0 d5 c6
        have t6 : w.heap.size < w6.heap.size := by omega
        have u6 : w2.heap.size < w6.heap.size := by omega
        have b60 : w6.cell? ⟨w2.heap.size, 0, none⟩ = some (.string M) := by rw [y6 _ _ u5]; exact b50
        have b61 : w6.cell? ⟨w2.heap.size, 1, none⟩ = some (.string R) := by rw [y6 _ _ u5]; exact b51
        have b62 : w6.cell? ⟨w2.heap.size, 2, none⟩ = some (.int .i64 0) := by rw [y6 _ _ u5]; exact b52
        have b63 : w6.cell? ⟨w2.heap.size, 3, none⟩ = some (.string ⟨#[]⟩) := by rw [y6 _ _ u5]; exact b53
        clear c6
        go_wp2_with fail
        refine bodyPost_ret (v := .tuple #[.agg #[.string M, .string R, .int .i64 0, .string ⟨#[]⟩], .bool true]) (by simp only [results, Tryz.results140]; go_simp) rfl ?_
        exact CallIs.yes (x := (⟨M, R,  0, ⟨#[]⟩⟩ : CallT)) HY.out (by repeat (first | with_reducible exact d6 | with_reducible exact Chg.refl _ _ | with_reducible refine Chg.drew ?_ | with_reducible refine Chg.drewN ?_ _ | with_reducible refine Chg.alloc ?_ _ | with_reducible refine Chg.setCell ?_ (.inr (by simp; try omega)) _))
      · have HN := Lib.hid (NO.out (fun h => hts h.2))
        have hb := str_ne hts
        clear YES NO hok hts
        go_enter Tryz.func140, Tryz.ntmps140
        go_wp2_with fail
        refine (C1.out _ ((Chg.refl _ _).alloc _)).mono ?_
        rintro e w2 ⟨rfl, c2⟩
        obtain ⟨y2, z2, s2⟩ := c2.cells
        have d2 : Chg [] w w2 := Chg.trans0 ((Chg.refl _ _).alloc _) c2
        have t2 : w.heap.size < w2.heap.size := by simp at s2; omega
        have tt : w.heap.size < w.heap.size + 1 := by omega
        clear c2
        go_wp2_with fail
        refine (IX.out _).mono ?_
        rintro e w5 ⟨rfl, c5⟩
        obtain ⟨y5, z5, s5⟩ := c5.cells
        have d5 : Chg [] w w5 := Chg.trans0 (by repeat (first | with_reducible exact d2 | with_reducible exact Chg.refl _ _ | with_reducible refine Chg.drew ?_ | with_reducible refine Chg.drewN ?_ _ | with_reducible refine Chg.alloc ?_ _ | with_reducible refine Chg.setCell ?_ (.inr (by simp; try omega)) _)) c5
        have t5 : w.heap.size < w5.heap.size := by have := d5.size; simp at s5; omega
        have u5 : w2.heap.size < w5.heap.size := by simp at s5; omega
        have v5 : w2.heap.size < w2.heap.size + 1 := by omega
        have v6 : w.heap.size < w2.heap.size + 1 := by omega
        have b50 : w5.cell? ⟨w2.heap.size, 0, none⟩ = some (.string M) := by rw [y5 _ _ (by simp)]; go_simp
        have b51 : w5.cell? ⟨w2.heap.size, 1, none⟩ = some (.string R) := by rw [y5 _ _ (by simp)]; go_simp
        have b52 : w5.cell? ⟨w2.heap.size, 2, none⟩ = some (.int .i64 0) := by rw [y5 _ _ (by simp)]; go_simp
        have b53 : w5.cell? ⟨w2.heap.size, 3, none⟩ = some (.string ⟨#[]⟩) := by rw [y5 _ _ (by simp)]; go_simp
        clear c5
        go_wp2_with fail
        refine (FX.out _ d5).mono ?_
        rintro e w6 ⟨rfl, c6⟩
        obtain ⟨y6, z6, s6⟩ := c6.cells
        have d6 : Chg [] w w6 := Chg.trans0 d5 c6
        have t6 : w.heap.size < w6.heap.size := by omega
        have u6 : w2.heap.size < w6.heap.size := by omega
        have b60 : w6.cell? ⟨w2.heap.size, 0, none⟩ = some (.string M) := by rw [y6 _ _ u5]; exact b50
        have b61 : w6.cell? ⟨w2.heap.size, 1, none⟩ = some (.string R) := by rw [y6 _ _ u5]; exact b51
        have b62 : w6.cell? ⟨w2.heap.size, 2, none⟩ = some (.int .i64 0) := by rw [y6 _ _ u5]; exact b52
        have b63 : w6.cell? ⟨w2.heap.size, 3, none⟩ = some (.string ⟨#[]⟩) := by rw [y6 _ _ u5]; exact b53
        clear c6
        go_wp2_with fail
        refine bodyPost_ret (v := .tuple #[.agg #[.string ⟨#[]⟩, .string ⟨#[]⟩, .int .i64 0, .string ⟨#[]⟩], .bool false]) (by simp only [results, Tryz.results140]; go_simp) rfl ?_
        exact CallIs.no HN.out (by repeat (first | with_reducible exact d6 | with_reducible exact Chg.refl _ _ | with_reducible refine Chg.drew ?_ | with_reducible refine Chg.drewN ?_ _ | with_reducible refine Chg.alloc ?_ _ | with_reducible refine Chg.setCell ?_ (.inr (by simp; try omega)) _))
    · have IX := Lib.hid (fun W => (IX.out W).mono (BoolPost.neg hok))
      have HN := Lib.hid (NO.out (fun h => hok h.1))
      clear YES NO hok
      go_enter Tryz.func140, Tryz.ntmps140
      go_wp2_with fail
      refine (C1.out _ ((Chg.refl _ _).alloc _)).mono ?_
      rintro e w2 ⟨rfl, c2⟩
      obtain ⟨y2, z2, s2⟩ := c2.cells
      have d2 : Chg [] w w2 := Chg.trans0 ((Chg.refl _ _).alloc _) c2
      have t2 : w.heap.size < w2.heap.size := by simp at s2; omega
      have tt : w.heap.size < w.heap.size + 1 := by omega
      clear c2
      go_wp2_with fail
      refine (IX.out _).mono ?_
      rintro e w5 ⟨rfl, c5⟩
      obtain ⟨y5, z5, s5⟩ := c5.cells
      have d5 : Chg [] w w5 := Chg.trans0 (by repeat (first | with_reducible exact d2 | with_reducible exact Chg.refl _ _ | with_reducible refine Chg.drew ?_ | with_reducible refine Chg.drewN ?_ _ | with_reducible refine Chg.alloc ?_ _ | with_reducible refine Chg.setCell ?_ (.inr (by simp; try omega)) _)) c5
      have t5 : w.heap.size < w5.heap.size := by have := d5.size; simp at s5; omega
      have u5 : w2.heap.size < w5.heap.size := by simp at s5; omega
      have v5 : w2.heap.size < w2.heap.size + 1 := by omega
      have v6 : w.heap.size < w2.heap.size + 1 := by omega
      have b50 : w5.cell? ⟨w2.heap.size, 0, none⟩ = some (.string M) := by rw [y5 _ _ (by simp)]; go_simp
      have b51 : w5.cell? ⟨w2.heap.size, 1, none⟩ = some (.string R) := by rw [y5 _ _ (by simp)]; go_simp
      have b52 : w5.cell? ⟨w2.heap.size, 2, none⟩ = some (.int .i64 0) := by rw [y5 _ _ (by simp)]; go_simp
      have b53 : w5.cell? ⟨w2.heap.size, 3, none⟩ = some (.string ⟨#[]⟩) := by rw [y5 _ _ (by simp)]; go_simp
      clear c5
      go_wp2_with fail
      refine bodyPost_ret (v := .tuple #[.agg #[.string ⟨#[]⟩, .string ⟨#[]⟩, .int .i64 0, .string ⟨#[]⟩], .bool false]) (by simp only [results, Tryz.results140]; go_simp) rfl ?_
      exact CallIs.no HN.out (by repeat (first | with_reducible exact d5 | with_reducible exact Chg.refl _ _ | with_reducible refine Chg.drew ?_ | with_reducible refine Chg.drewN ?_ _ | with_reducible refine Chg.alloc ?_ _ | with_reducible refine Chg.setCell ?_ (.inr (by simp; try omega)) _))
  · dsimp only at RAW
    rw [if_pos hm] at RAW
    try simp only [bytesOf_of] at RAW
    obtain ⟨K, hK⟩ : ∃ K, K = bytesOf (Lib.cut R.data.toList [32]).1 := ⟨_, rfl⟩
    obtain ⟨T, hT⟩ : ∃ T, T = bytesOf (Lib.cut R.data.toList [32]).2.1 := ⟨_, rfl⟩
    obtain ⟨f2, hf2⟩ : ∃ f, f = (Lib.cut R.data.toList [32]).2.2 := ⟨_, rfl⟩
    rw [← hK, ← hT] at RAW z2
    have C2 := C2.out
    rw [← hK, ← hT, ← hf2] at C2
    have C2 := Lib.hid C2
    have PT := Lib.hid (PN.out T (by omega))
    clear hK hT hf2
    have RAW : Hid (rawI s = (⟨M, K, ((parseNum T).getD 0), ⟨#[]⟩⟩ : CallT)) := RAW
    have IX := Lib.hid (IC.out (⟨M, K, ((parseNum T).getD 0), ⟨#[]⟩⟩ : CallT) (by first | (show R.size ≤ _; omega) | (show K.size ≤ _; omega) | exact Nat.zero_le _))
    have FX := Lib.hid (FC.out (⟨M, K, ((parseNum T).getD 0), ⟨#[]⟩⟩ : CallT) (by first | (show R.size ≤ _; omega) | (show K.size ≤ _; omega) | exact Nat.zero_le _) (by first | (show R.size ≤ _; omega) | exact Nat.zero_le _))
    have YES := Lib.hid (callI_yes RAW.out)
    have NO := Lib.hid (callI_no RAW.out)
    obtain ⟨t, ht⟩ : ∃ t, t = callT (⟨M, K, ((parseNum T).getD 0), ⟨#[]⟩⟩ : CallT) := ⟨_, rfl⟩
    have FX := FX.out
    have YES := YES.out
    have NO := NO.out
    rw [← ht] at FX YES NO
    have FX := Lib.hid FX
    have YES := Lib.hid YES
    have NO := Lib.hid NO
    clear ht RAW hm IC FC PN z1 z2
    obtain ⟨v, hv⟩ : ∃ v, v = parseNum T := ⟨_, rfl⟩
    rw [← hv] at PT IX FX YES NO
    obtain ⟨z, hz⟩ : ∃ z, z = v.getD 0 := ⟨_, rfl⟩
    have PT := PT.out
    unfold OptPost at PT
    rw [← hz] at PT IX FX YES NO
    obtain ⟨f3, hf3⟩ : ∃ f, f = v.isSome := ⟨_, rfl⟩
    rw [← hf3] at PT
    have PT := Lib.hid PT
    clear hv hz hf3
    by_cases hok : CallOk (⟨M, K,  z, ⟨#[]⟩⟩ : CallT)
    · have IX := Lib.hid (fun W => (IX.out W).mono (BoolPost.pos hok))
      by_cases hts : t = s
      · have HY := Lib.hid (YES.out hok hts)
        subst hts
        clear YES NO hok
        go_enter Tryz.func140, Tryz.ntmps140
        go_wp2_with fail
        refine (C1.out _ ((Chg.refl _ _).alloc _)).mono ?_
        rintro e w2 ⟨rfl, c2⟩
        obtain ⟨y2, z2, s2⟩ := c2.cells
        have d2 : Chg [] w w2 := Chg.trans0 ((Chg.refl _ _).alloc _) c2
        have t2 : w.heap.size < w2.heap.size := by simp at s2; omega
        have tt : w.heap.size < w.heap.size + 1 := by omega
        clear c2
        go_wp2_with fail
        refine (C2.out _ (by repeat (first | with_reducible exact d2 | with_reducible exact Chg.refl _ _ | with_reducible refine Chg.drew ?_ | with_reducible refine Chg.drewN ?_ _ | with_reducible refine Chg.alloc ?_ _ | with_reducible refine Chg.setCell ?_ (.inr (by simp; try omega)) _))).mono ?_
        rintro e w3 ⟨rfl, c3⟩
        obtain ⟨y3, z3, s3⟩ := c3.cells
        have d3 : Chg [] w w3 := Chg.trans0 (by repeat (first | with_reducible exact d2 | with_reducible exact Chg.refl _ _ | with_reducible refine Chg.drew ?_ | with_reducible refine Chg.drewN ?_ _ | with_reducible refine Chg.alloc ?_ _ | with_reducible refine Chg.setCell ?_ (.inr (by simp; try omega)) _)) c3
        have t3 : w.heap.size < w3.heap.size := by simp at s3; omega
        have u3 : w2.heap.size < w3.heap.size := by simp at s3; omega
        have v3 : w2.heap.size < w2.heap.size + 1 := by omega
        have b30 : w3.cell? ⟨w2.heap.size, 0, none⟩ = some (.string M) := by rw [y3 _ _ (by simp)]; go_simp
        have b31 : w3.cell? ⟨w2.heap.size, 1, none⟩ = some (.string ⟨#[]⟩) := by rw [y3 _ _ (by simp)]; go_simp
        have b32 : w3.cell? ⟨w2.heap.size, 2, none⟩ = some (.int .i64 0) := by rw [y3 _ _ (by simp)]; go_simp
        have b33 : w3.cell? ⟨w2.heap.size, 3, none⟩ = some (.string ⟨#[]⟩) := by rw [y3 _ _ (by simp)]; go_simp
        clear c3
        go_wp2_with fail
        refine (PT.out _ (by repeat (first | with_reducible exact d3 | with_reducible exact Chg.refl _ _ | with_reducible refine Chg.drew ?_ | with_reducible refine Chg.drewN ?_ _ | with_reducible refine Chg.alloc ?_ _ | with_reducible refine Chg.setCell ?_ (.inr (by simp; try omega)) _))).mono ?_
        rintro e w4 ⟨rfl, c4⟩
        obtain ⟨y4, z4, s4⟩ := c4.cells
        have d4 : Chg [] w w4 := Chg.trans0 (by repeat (first | with_reducible exact d3 | with_reducible exact Chg.refl _ _ | with_reducible refine Chg.drew ?_ | with_reducible refine Chg.drewN ?_ _ | with_reducible refine Chg.alloc ?_ _ | with_reducible refine Chg.setCell ?_ (.inr (by simp; try omega)) _)) c4
        have t4 : w.heap.size < w4.heap.size := by simp at s4; omega
        have u4 : w2.heap.size < w4.heap.size := by simp at s4; omega
        have b40 : w4.cell? ⟨w2.heap.size, 0, none⟩ = some (.string M) := by rw [y4 _ _ (by simpa using u3), World.cell?_setCell_other _ _ _ _ (by simp)]; exact b30
        have b41 : w4.cell? ⟨w2.heap.size, 1, none⟩ = some (.string K) := by rw [y4 _ _ (by simpa using u3)]; exact World.cell?_setCell_same _ _ _ b31
        have b42 : w4.cell? ⟨w2.heap.size, 2, none⟩ = some (.int .i64 0) := by rw [y4 _ _ (by simpa using u3), World.cell?_setCell_other _ _ _ _ (by simp)]; exact b32
        have b43 : w4.cell? ⟨w2.heap.size, 3, none⟩ = some (.string ⟨#[]⟩) := by rw [y4 _ _ (by simpa using u3), World.cell?_setCell_other _ _ _ _ (by simp)]; exact b33
        have e40 : ∀ u, (w4.setCell ⟨w2.heap.size, 2, none⟩ u).cell? ⟨w2.heap.size, 0, none⟩ = some (.string M) := fun u => by rw [World.cell?_setCell_other _ _ _ _ (by simp)]; exact b40
        have e41 : ∀ u, (w4.setCell ⟨w2.heap.size, 2, none⟩ u).cell? ⟨w2.heap.size, 1, none⟩ = some (.string K) := fun u => by rw [World.cell?_setCell_other _ _ _ _ (by simp)]; exact b41
        have e43 : ∀ u, (w4.setCell ⟨w2.heap.size, 2, none⟩ u).cell? ⟨w2.heap.size, 3, none⟩ = some (.string ⟨#[]⟩) := fun u => by rw [World.cell?_setCell_other _ _ _ _ (by simp)]; exact b43
        have e42 : ∀ u, (w4.setCell ⟨w2.heap.size, 2, none⟩ u).cell? ⟨w2.heap.size, 2, none⟩ = some u := fun u => World.cell?_setCell_same _ _ _ b42
        clear c4
        go_wp2_with fail
        refine (IX.out _).mono ?_
        rintro e w5 ⟨rfl, c5⟩
        obtain ⟨y5, z5, s5⟩ := c5.cells
        have d5 : Chg [] w w5 := Chg.trans0 (by repeat (first | with_reducible exact d4 | with_reducible exact Chg.refl _ _ | with_reducible refine Chg.drew ?_ | with_reducible refine Chg.drewN ?_ _ | with_reducible refine Chg.alloc ?_ _ | with_reducible refine Chg.setCell ?_ (.inr (by simp; try omega)) _)) c5
        have t5 : w.heap.size < w5.heap.size := by have := d5.size; simp at s5; omega
        have u5 : w2.heap.size < w5.heap.size := by simp at s5; omega
        have v5 : w2.heap.size < w2.heap.size + 1 := by omega
        have v6 : w.heap.size < w2.heap.size + 1 := by omega
        have b50 : w5.cell? ⟨w2.heap.size, 0, none⟩ = some (.string M) := by rw [y5 _ _ (by simpa using u4)]; exact e40 _
        have b51 : w5.cell? ⟨w2.heap.size, 1, none⟩ = some (.string K) := by rw [y5 _ _ (by simpa using u4)]; exact e41 _
        have b52 : w5.cell? ⟨w2.heap.size, 2, none⟩ = some (.int .i64 z) := by rw [y5 _ _ (by simpa using u4)]; exact e42 _
        have b53 : w5.cell? ⟨w2.heap.size, 3, none⟩ = some (.string ⟨#[]⟩) := by rw [y5 _ _ (by simpa using u4)]; exact e43 _
        clear c5
        go_wp2_with fail
        refine (FX.out _ d5).mono ?_
        rintro e w6 ⟨rfl, c6⟩
        obtain ⟨y6, z6, s6⟩ := c6.cells
        have d6 : Chg [] w w6 := Chg.trans0 d5 c6
        have t6 : w.heap.size < w6.heap.size := by omega
        have u6 : w2.heap.size < w6.heap.size := by omega
        have b60 : w6.cell? ⟨w2.heap.size, 0, none⟩ = some (.string M) := by rw [y6 _ _ u5]; exact b50
        have b61 : w6.cell? ⟨w2.heap.size, 1, none⟩ = some (.string K) := by rw [y6 _ _ u5]; exact b51
        have b62 : w6.cell? ⟨w2.heap.size, 2, none⟩ = some (.int .i64 z) := by rw [y6 _ _ u5]; exact b52
        have b63 : w6.cell? ⟨w2.heap.size, 3, none⟩ = some (.string ⟨#[]⟩) := by rw [y6 _ _ u5]; exact b53
        clear c6
        go_wp2_with fail
        refine bodyPost_ret (v := .tuple #[.agg #[.string M, .string K, .int .i64 z, .string ⟨#[]⟩], .bool true]) (by simp only [results, Tryz.results140]; go_simp) rfl ?_
        exact CallIs.yes (x := (⟨M, K,  z, ⟨#[]⟩⟩ : CallT)) HY.out (by repeat (first | with_reducible exact d6 | with_reducible exact Chg.refl _ _ | with_reducible refine Chg.drew ?_ | with_reducible refine Chg.drewN ?_ _ | with_reducible refine Chg.alloc ?_ _ | with_reducible refine Chg.setCell ?_ (.inr (by simp; try omega)) _))
      · have HN := Lib.hid (NO.out (fun h => hts h.2))
        have hb := str_ne hts
        clear YES NO hok hts
        go_enter Tryz.func140, Tryz.ntmps140
        go_wp2_with fail
        refine (C1.out _ ((Chg.refl _ _).alloc _)).mono ?_
        rintro e w2 ⟨rfl, c2⟩
        obtain ⟨y2, z2, s2⟩ := c2.cells
        have d2 : Chg [] w w2 := Chg.trans0 ((Chg.refl _ _).alloc _) c2
        have t2 : w.heap.size < w2.heap.size := by simp at s2; omega
        have tt : w.heap.size < w.heap.size + 1 := by omega
        clear c2
        go_wp2_with fail
        refine (C2.out _ (by repeat (first | with_reducible exact d2 | with_reducible exact Chg.refl _ _ | with_reducible refine Chg.drew ?_ | with_reducible refine Chg.drewN ?_ _ | with_reducible refine Chg.alloc ?_ _ | with_reducible refine Chg.setCell ?_ (.inr (by simp; try omega)) _))).mono ?_
        rintro e w3 ⟨rfl, c3⟩
        obtain ⟨y3, z3, s3⟩ := c3.cells
        have d3 : Chg [] w w3 := Chg.trans0 (by repeat (first | with_reducible exact d2 | with_reducible exact Chg.refl _ _ | with_reducible refine Chg.drew ?_ | with_reducible refine Chg.drewN ?_ _ | with_reducible refine Chg.alloc ?_ _ | with_reducible refine Chg.setCell ?_ (.inr (by simp; try omega)) _)) c3
        have t3 : w.heap.size < w3.heap.size := by simp at s3; omega
        have u3 : w2.heap.size < w3.heap.size := by simp at s3; omega
        have v3 : w2.heap.size < w2.heap.size + 1 := by omega
        have b30 : w3.cell? ⟨w2.heap.size, 0, none⟩ = some (.string M) := by rw [y3 _ _ (by simp)]; go_simp
        have b31 : w3.cell? ⟨w2.heap.size, 1, none⟩ = some (.string ⟨#[]⟩) := by rw [y3 _ _ (by simp)]; go_simp
        have b32 : w3.cell? ⟨w2.heap.size, 2, none⟩ = some (.int .i64 0) := by rw [y3 _ _ (by simp)]; go_simp
        have b33 : w3.cell? ⟨w2.heap.size, 3, none⟩ = some (.string ⟨#[]⟩) := by rw [y3 _ _ (by simp)]; go_simp
        clear c3
        go_wp2_with fail
        refine (PT.out _ (by repeat (first | with_reducible exact d3 | with_reducible exact Chg.refl _ _ | with_reducible refine Chg.drew ?_ | with_reducible refine Chg.drewN ?_ _ | with_reducible refine Chg.alloc ?_ _ | with_reducible refine Chg.setCell ?_ (.inr (by simp; try omega)) _))).mono ?_
        rintro e w4 ⟨rfl, c4⟩
        obtain ⟨y4, z4, s4⟩ := c4.cells
        have d4 : Chg [] w w4 := Chg.trans0 (by repeat (first | with_reducible exact d3 | with_reducible exact Chg.refl _ _ | with_reducible refine Chg.drew ?_ | with_reducible refine Chg.drewN ?_ _ | with_reducible refine Chg.alloc ?_ _ | with_reducible refine Chg.setCell ?_ (.inr (by simp; try omega)) _)) c4
        have t4 : w.heap.size < w4.heap.size := by simp at s4; omega
        have u4 : w2.heap.size < w4.heap.size := by simp at s4; omega
        have b40 : w4.cell? ⟨w2.heap.size, 0, none⟩ = some (.string M) := by rw [y4 _ _ (by simpa using u3), World.cell?_setCell_other _ _ _ _ (by simp)]; exact b30
        have b41 : w4.cell? ⟨w2.heap.size, 1, none⟩ = some (.string K) := by rw [y4 _ _ (by simpa using u3)]; exact World.cell?_setCell_same _ _ _ b31
        have b42 : w4.cell? ⟨w2.heap.size, 2, none⟩ = some (.int .i64 0) := by rw [y4 _ _ (by simpa using u3), World.cell?_setCell_other _ _ _ _ (by simp)]; exact b32
        have b43 : w4.cell? ⟨w2.heap.size, 3, none⟩ = some (.string ⟨#[]⟩) := by rw [y4 _ _ (by simpa using u3), World.cell?_setCell_other _ _ _ _ (by simp)]; exact b33
        have e40 : ∀ u, (w4.setCell ⟨w2.heap.size, 2, none⟩ u).cell? ⟨w2.heap.size, 0, none⟩ = some (.string M) := fun u => by rw [World.cell?_setCell_other _ _ _ _ (by simp)]; exact b40
        have e41 : ∀ u, (w4.setCell ⟨w2.heap.size, 2, none⟩ u).cell? ⟨w2.heap.size, 1, none⟩ = some (.string K) := fun u => by rw [World.cell?_setCell_other _ _ _ _ (by simp)]; exact b41
        have e43 : ∀ u, (w4.setCell ⟨w2.heap.size, 2, none⟩ u).cell? ⟨w2.heap.size, 3, none⟩ = some (.string ⟨#[]⟩) := fun u => by rw [World.cell?_setCell_other _ _ _ _ (by simp)]; exact b43
        have e42 : ∀ u, (w4.setCell ⟨w2.heap.size, 2, none⟩ u).cell? ⟨w2.heap.size, 2, none⟩ = some u := fun u => World.cell?_setCell_same _ _ _ b42
        clear c4
        go_wp2_with fail
        refine (IX.out _).mono ?_
        rintro e w5 ⟨rfl, c5⟩
        obtain ⟨y5, z5, s5⟩ := c5.cells
        have d5 : Chg [] w w5 := Chg.trans0 (by repeat (first | with_reducible exact d4 | with_reducible exact Chg.refl _ _ | with_reducible refine Chg.drew ?_ | with_reducible refine Chg.drewN ?_ _ | with_reducible refine Chg.alloc ?_ _ | with_reducible refine Chg.setCell ?_ (.inr (by simp; try omega)) _)) c5
        have t5 : w.heap.size < w5.heap.size := by have := d5.size; simp at s5; omega
        have u5 : w2.heap.size < w5.heap.size := by simp at s5; omega
        have v5 : w2.heap.size < w2.heap.size + 1 := by omega
        have v6 : w.heap.size < w2.heap.size + 1 := by omega
        have b50 : w5.cell? ⟨w2.heap.size, 0, none⟩ = some (.string M) := by rw [y5 _ _ (by simpa using u4)]; exact e40 _
        have b51 : w5.cell? ⟨w2.heap.size, 1, none⟩ = some (.string K) := by rw [y5 _ _ (by simpa using u4)]; exact e41 _
        have b52 : w5.cell? ⟨w2.heap.size, 2, none⟩ = some (.int .i64 z) := by rw [y5 _ _ (by simpa using u4)]; exact e42 _
        have b53 : w5.cell? ⟨w2.heap.size, 3, none⟩ = some (.string ⟨#[]⟩) := by rw [y5 _ _ (by simpa using u4)]; exact e43 _
        clear c5
        go_wp2_with fail
        refine (FX.out _ d5).mono ?_
        rintro e w6 ⟨rfl, c6⟩
        obtain ⟨y6, z6, s6⟩ := c6.cells
        have d6 : Chg [] w w6 := Chg.trans0 d5 c6
        have t6 : w.heap.size < w6.heap.size := by omega
        have u6 : w2.heap.size < w6.heap.size := by omega
        have b60 : w6.cell? ⟨w2.heap.size, 0, none⟩ = some (.string M) := by rw [y6 _ _ u5]; exact b50
        have b61 : w6.cell? ⟨w2.heap.size, 1, none⟩ = some (.string K) := by rw [y6 _ _ u5]; exact b51
        have b62 : w6.cell? ⟨w2.heap.size, 2, none⟩ = some (.int .i64 z) := by rw [y6 _ _ u5]; exact b52
        have b63 : w6.cell? ⟨w2.heap.size, 3, none⟩ = some (.string ⟨#[]⟩) := by rw [y6 _ _ u5]; exact b53
        clear c6
        go_wp2_with fail
        refine bodyPost_ret (v := .tuple #[.agg #[.string ⟨#[]⟩, .string ⟨#[]⟩, .int .i64 0, .string ⟨#[]⟩], .bool false]) (by simp only [results, Tryz.results140]; go_simp) rfl ?_
        exact CallIs.no HN.out (by repeat (first | with_reducible exact d6 | with_reducible exact Chg.refl _ _ | with_reducible refine Chg.drew ?_ | with_reducible refine Chg.drewN ?_ _ | with_reducible refine Chg.alloc ?_ _ | with_reducible refine Chg.setCell ?_ (.inr (by simp; try omega)) _))
    · have IX := Lib.hid (fun W => (IX.out W).mono (BoolPost.neg hok))
      have HN := Lib.hid (NO.out (fun h => hok h.1))
      clear YES NO hok
      go_enter Tryz.func140, Tryz.ntmps140
      go_wp2_with fail
      refine (C1.out _ ((Chg.refl _ _).alloc _)).mono ?_
      rintro e w2 ⟨rfl, c2⟩
      obtain ⟨y2, z2, s2⟩ := c2.cells
      have d2 : Chg [] w w2 := Chg.trans0 ((Chg.refl _ _).alloc _) c2
      have t2 : w.heap.size < w2.heap.size := by simp at s2; omega
      have tt : w.heap.size < w.heap.size + 1 := by omega
      clear c2
      go_wp2_with fail
      refine (C2.out _ (by repeat (first | with_reducible exact d2 | with_reducible exact Chg.refl _ _ | with_reducible refine Chg.drew ?_ | with_reducible refine Chg.drewN ?_ _ | with_reducible refine Chg.alloc ?_ _ | with_reducible refine Chg.setCell ?_ (.inr (by simp; try omega)) _))).mono ?_
      rintro e w3 ⟨rfl, c3⟩
      obtain ⟨y3, z3, s3⟩ := c3.cells
      have d3 : Chg [] w w3 := Chg.trans0 (by repeat (first | with_reducible exact d2 | with_reducible exact Chg.refl _ _ | with_reducible refine Chg.drew ?_ | with_reducible refine Chg.drewN ?_ _ | with_reducible refine Chg.alloc ?_ _ | with_reducible refine Chg.setCell ?_ (.inr (by simp; try omega)) _)) c3
      have t3 : w.heap.size < w3.heap.size := by simp at s3; omega
      have u3 : w2.heap.size < w3.heap.size := by simp at s3; omega
      have v3 : w2.heap.size < w2.heap.size + 1 := by omega
      have b30 : w3.cell? ⟨w2.heap.size, 0, none⟩ = some (.string M) := by rw [y3 _ _ (by simp)]; go_simp
      have b31 : w3.cell? ⟨w2.heap.size, 1, none⟩ = some (.string ⟨#[]⟩) := by rw [y3 _ _ (by simp)]; go_simp
      have b32 : w3.cell? ⟨w2.heap.size, 2, none⟩ = some (.int .i64 0) := by rw [y3 _ _ (by simp)]; go_simp
      have b33 : w3.cell? ⟨w2.heap.size, 3, none⟩ = some (.string ⟨#[]⟩) := by rw [y3 _ _ (by simp)]; go_simp
      clear c3
      go_wp2_with fail
      refine (PT.out _ (by repeat (first | with_reducible exact d3 | with_reducible exact Chg.refl _ _ | with_reducible refine Chg.drew ?_ | with_reducible refine Chg.drewN ?_ _ | with_reducible refine Chg.alloc ?_ _ | with_reducible refine Chg.setCell ?_ (.inr (by simp; try omega)) _))).mono ?_
      rintro e w4 ⟨rfl, c4⟩
      obtain ⟨y4, z4, s4⟩ := c4.cells
      have d4 : Chg [] w w4 := Chg.trans0 (by repeat (first | with_reducible exact d3 | with_reducible exact Chg.refl _ _ | with_reducible refine Chg.drew ?_ | with_reducible refine Chg.drewN ?_ _ | with_reducible refine Chg.alloc ?_ _ | with_reducible refine Chg.setCell ?_ (.inr (by simp; try omega)) _)) c4
      have t4 : w.heap.size < w4.heap.size := by simp at s4; omega
      have u4 : w2.heap.size < w4.heap.size := by simp at s4; omega
      have b40 : w4.cell? ⟨w2.heap.size, 0, none⟩ = some (.string M) := by rw [y4 _ _ (by simpa using u3), World.cell?_setCell_other _ _ _ _ (by simp)]; exact b30
      have b41 : w4.cell? ⟨w2.heap.size, 1, none⟩ = some (.string K) := by rw [y4 _ _ (by simpa using u3)]; exact World.cell?_setCell_same _ _ _ b31
      have b42 : w4.cell? ⟨w2.heap.size, 2, none⟩ = some (.int .i64 0) := by rw [y4 _ _ (by simpa using u3), World.cell?_setCell_other _ _ _ _ (by simp)]; exact b32
      have b43 : w4.cell? ⟨w2.heap.size, 3, none⟩ = some (.string ⟨#[]⟩) := by rw [y4 _ _ (by simpa using u3), World.cell?_setCell_other _ _ _ _ (by simp)]; exact b33
      have e40 : ∀ u, (w4.setCell ⟨w2.heap.size, 2, none⟩ u).cell? ⟨w2.heap.size, 0, none⟩ = some (.string M) := fun u => by rw [World.cell?_setCell_other _ _ _ _ (by simp)]; exact b40
      have e41 : ∀ u, (w4.setCell ⟨w2.heap.size, 2, none⟩ u).cell? ⟨w2.heap.size, 1, none⟩ = some (.string K) := fun u => by rw [World.cell?_setCell_other _ _ _ _ (by simp)]; exact b41
      have e43 : ∀ u, (w4.setCell ⟨w2.heap.size, 2, none⟩ u).cell? ⟨w2.heap.size, 3, none⟩ = some (.string ⟨#[]⟩) := fun u => by rw [World.cell?_setCell_other _ _ _ _ (by simp)]; exact b43
      have e42 : ∀ u, (w4.setCell ⟨w2.heap.size, 2, none⟩ u).cell? ⟨w2.heap.size, 2, none⟩ = some u := fun u => World.cell?_setCell_same _ _ _ b42
      clear c4
      go_wp2_with fail
      refine (IX.out _).mono ?_
      rintro e w5 ⟨rfl, c5⟩
      obtain ⟨y5, z5, s5⟩ := c5.cells
      have d5 : Chg [] w w5 := Chg.trans0 (by repeat (first | with_reducible exact d4 | with_reducible exact Chg.refl _ _ | with_reducible refine Chg.drew ?_ | with_reducible refine Chg.drewN ?_ _ | with_reducible refine Chg.alloc ?_ _ | with_reducible refine Chg.setCell ?_ (.inr (by simp; try omega)) _)) c5
      have t5 : w.heap.size < w5.heap.size := by have := d5.size; simp at s5; omega
      have u5 : w2.heap.size < w5.heap.size := by simp at s5; omega
      have v5 : w2.heap.size < w2.heap.size + 1 := by omega
      have v6 : w.heap.size < w2.heap.size + 1 := by omega
      have b50 : w5.cell? ⟨w2.heap.size, 0, none⟩ = some (.string M) := by rw [y5 _ _ (by simpa using u4)]; exact e40 _
      have b51 : w5.cell? ⟨w2.heap.size, 1, none⟩ = some (.string K) := by rw [y5 _ _ (by simpa using u4)]; exact e41 _
      have b52 : w5.cell? ⟨w2.heap.size, 2, none⟩ = some (.int .i64 z) := by rw [y5 _ _ (by simpa using u4)]; exact e42 _
      have b53 : w5.cell? ⟨w2.heap.size, 3, none⟩ = some (.string ⟨#[]⟩) := by rw [y5 _ _ (by simpa using u4)]; exact e43 _
      clear c5
      go_wp2_with fail
      refine bodyPost_ret (v := .tuple #[.agg #[.string ⟨#[]⟩, .string ⟨#[]⟩, .int .i64 0, .string ⟨#[]⟩], .bool false]) (by simp only [results, Tryz.results140]; go_simp) rfl ?_
      exact CallIs.no HN.out (by repeat (first | with_reducible exact d5 | with_reducible exact Chg.refl _ _ | with_reducible refine Chg.drew ?_ | with_reducible refine Chg.drewN ?_ _ | with_reducible refine Chg.alloc ?_ _ | with_reducible refine Chg.setCell ?_ (.inr (by simp; try omega)) _))
  · dsimp only at RAW
    rw [if_neg (by rw [hm]; decide), if_neg (by rw [hm]; decide), if_pos hm] at RAW
    try simp only [bytesOf_of] at RAW
    have PT := Lib.hid (PN.out R (by omega))
    have RAW : Hid (rawI s = (⟨M, ⟨#[]⟩, ((parseNum R).getD 0), ⟨#[]⟩⟩ : CallT)) := RAW
    have IX := Lib.hid (IC.out (⟨M, ⟨#[]⟩, ((parseNum R).getD 0), ⟨#[]⟩⟩ : CallT) (by first | (show R.size ≤ _; omega) | (show K.size ≤ _; omega) | exact Nat.zero_le _))
    have FX := Lib.hid (FC.out (⟨M, ⟨#[]⟩, ((parseNum R).getD 0), ⟨#[]⟩⟩ : CallT) (by first | (show R.size ≤ _; omega) | (show K.size ≤ _; omega) | exact Nat.zero_le _) (by first | (show R.size ≤ _; omega) | exact Nat.zero_le _))
    have YES := Lib.hid (callI_yes RAW.out)
    have NO := Lib.hid (callI_no RAW.out)
    obtain ⟨t, ht⟩ : ∃ t, t = callT (⟨M, ⟨#[]⟩, ((parseNum R).getD 0), ⟨#[]⟩⟩ : CallT) := ⟨_, rfl⟩
    have FX := FX.out
    have YES := YES.out
    have NO := NO.out
    rw [← ht] at FX YES NO
    have FX := Lib.hid FX
    have YES := Lib.hid YES
    have NO := Lib.hid NO
    clear ht RAW hm IC FC PN z1 z2 C2
    obtain ⟨v, hv⟩ : ∃ v, v = parseNum R := ⟨_, rfl⟩
    rw [← hv] at PT IX FX YES NO
    obtain ⟨z, hz⟩ : ∃ z, z = v.getD 0 := ⟨_, rfl⟩
    have PT := PT.out
    unfold OptPost at PT
    rw [← hz] at PT IX FX YES NO
    obtain ⟨f3, hf3⟩ : ∃ f, f = v.isSome := ⟨_, rfl⟩
    rw [← hf3] at PT
    have PT := Lib.hid PT
    clear hv hz hf3
    by_cases hok : CallOk (⟨M, ⟨#[]⟩,  z, ⟨#[]⟩⟩ : CallT)
    · have IX := Lib.hid (fun W => (IX.out W).mono (BoolPost.pos hok))
      by_cases hts : t = s
      · have HY := Lib.hid (YES.out hok hts)
        subst hts
        clear YES NO hok
        go_enter Tryz.func140, Tryz.ntmps140
        go_wp2_with fail
        refine (C1.out _ ((Chg.refl _ _).alloc _)).mono ?_
        rintro e w2 ⟨rfl, c2⟩
        obtain ⟨y2, z2, s2⟩ := c2.cells
        have d2 : Chg [] w w2 := Chg.trans0 ((Chg.refl _ _).alloc _) c2
        have t2 : w.heap.size < w2.heap.size := by simp at s2; omega
        have tt : w.heap.size < w.heap.size + 1 := by omega
        clear c2
        go_wp2_with fail
        refine (PT.out _ (by repeat (first | with_reducible exact d2 | with_reducible exact Chg.refl _ _ | with_reducible refine Chg.drew ?_ | with_reducible refine Chg.drewN ?_ _ | with_reducible refine Chg.alloc ?_ _ | with_reducible refine Chg.setCell ?_ (.inr (by simp; try omega)) _))).mono ?_
        rintro e w4 ⟨rfl, c4⟩
        obtain ⟨y4, z4, s4⟩ := c4.cells
        have d4 : Chg [] w w4 := Chg.trans0 (by repeat (first | with_reducible exact d2 | with_reducible exact Chg.refl _ _ | with_reducible refine Chg.drew ?_ | with_reducible refine Chg.drewN ?_ _ | with_reducible refine Chg.alloc ?_ _ | with_reducible refine Chg.setCell ?_ (.inr (by simp; try omega)) _)) c4
        have t4 : w.heap.size < w4.heap.size := by simp at s4; omega
        have u4 : w2.heap.size < w4.heap.size := by simp at s4; omega
        have v3 : w2.heap.size < w2.heap.size + 1 := by omega
        have b40 : w4.cell? ⟨w2.heap.size, 0, none⟩ = some (.string M) := by rw [y4 _ _ (by simp)]; go_simp
        have b41 : w4.cell? ⟨w2.heap.size, 1, none⟩ = some (.string ⟨#[]⟩) := by rw [y4 _ _ (by simp)]; go_simp
        have b42 : w4.cell? ⟨w2.heap.size, 2, none⟩ = some (.int .i64 0) := by rw [y4 _ _ (by simp)]; go_simp
        have b43 : w4.cell? ⟨w2.heap.size, 3, none⟩ = some (.string ⟨#[]⟩) := by rw [y4 _ _ (by simp)]; go_simp
        have e40 : ∀ u, (w4.setCell ⟨w2.heap.size, 2, none⟩ u).cell? ⟨w2.heap.size, 0, none⟩ = some (.string M) := fun u => by rw [World.cell?_setCell_other _ _ _ _ (by simp)]; exact b40
        have e41 : ∀ u, (w4.setCell ⟨w2.heap.size, 2, none⟩ u).cell? ⟨w2.heap.size, 1, none⟩ = some (.string ⟨#[]⟩) := fun u => by rw [World.cell?_setCell_other _ _ _ _ (by simp)]; exact b41
        have e43 : ∀ u, (w4.setCell ⟨w2.heap.size, 2, none⟩ u).cell? ⟨w2.heap.size, 3, none⟩ = some (.string ⟨#[]⟩) := fun u => by rw [World.cell?_setCell_other _ _ _ _ (by simp)]; exact b43
        have e42 : ∀ u, (w4.setCell ⟨w2.heap.size, 2, none⟩ u).cell? ⟨w2.heap.size, 2, none⟩ = some u := fun u => World.cell?_setCell_same _ _ _ b42
        clear c4
        go_wp2_with fail
        refine (IX.out _).mono ?_
        rintro e w5 ⟨rfl, c5⟩
        obtain ⟨y5, z5, s5⟩ := c5.cells
        have d5 : Chg [] w w5 := Chg.trans0 (by repeat (first | with_reducible exact d4 | with_reducible exact Chg.refl _ _ | with_reducible refine Chg.drew ?_ | with_reducible refine Chg.drewN ?_ _ | with_reducible refine Chg.alloc ?_ _ | with_reducible refine Chg.setCell ?_ (.inr (by simp; try omega)) _)) c5
        have t5 : w.heap.size < w5.heap.size := by have := d5.size; simp at s5; omega
        have u5 : w2.heap.size < w5.heap.size := by simp at s5; omega
        have v5 : w2.heap.size < w2.heap.size + 1 := by omega
        have v6 : w.heap.size < w2.heap.size + 1 := by omega
        have b50 : w5.cell? ⟨w2.heap.size, 0, none⟩ = some (.string M) := by rw [y5 _ _ (by simpa using u4)]; exact e40 _
        have b51 : w5.cell? ⟨w2.heap.size, 1, none⟩ = some (.string ⟨#[]⟩) := by rw [y5 _ _ (by simpa using u4)]; exact e41 _
        have b52 : w5.cell? ⟨w2.heap.size, 2, none⟩ = some (.int .i64 z) := by rw [y5 _ _ (by simpa using u4)]; exact e42 _
        have b53 : w5.cell? ⟨w2.heap.size, 3, none⟩ = some (.string ⟨#[]⟩) := by rw [y5 _ _ (by simpa using u4)]; exact e43 _
        clear c5
        go_wp2_with fail
        refine (FX.out _ d5).mono ?_
        rintro e w6 ⟨rfl, c6⟩
        obtain ⟨y6, z6, s6⟩ := c6.cells
        have d6 : Chg [] w w6 := Chg.trans0 d5 c6
        have t6 : w.heap.size < w6.heap.size := by omega
        have u6 : w2.heap.size < w6.heap.size := by omega
        have b60 : w6.cell? ⟨w2.heap.size, 0, none⟩ = some (.string M) := by rw [y6 _ _ u5]; exact b50
        have b61 : w6.cell? ⟨w2.heap.size, 1, none⟩ = some (.string ⟨#[]⟩) := by rw [y6 _ _ u5]; exact b51
        have b62 : w6.cell? ⟨w2.heap.size, 2, none⟩ = some (.int .i64 z) := by rw [y6 _ _ u5]; exact b52
        have b63 : w6.cell? ⟨w2.heap.size, 3, none⟩ = some (.string ⟨#[]⟩) := by rw [y6 _ _ u5]; exact b53
        clear c6
        go_wp2_with fail
        refine bodyPost_ret (v := .tuple #[.agg #[.string M, .string ⟨#[]⟩, .int .i64 z, .string ⟨#[]⟩], .bool true]) (by simp only [results, Tryz.results140]; go_simp) rfl ?_
        exact CallIs.yes (x := (⟨M, ⟨#[]⟩,  z, ⟨#[]⟩⟩ : CallT)) HY.out (by repeat (first | with_reducible exact d6 | with_reducible exact Chg.refl _ _ | with_reducible refine Chg.drew ?_ | with_reducible refine Chg.drewN ?_ _ | with_reducible refine Chg.alloc ?_ _ | with_reducible refine Chg.setCell ?_ (.inr (by simp; try omega)) _))
      · have HN := Lib.hid (NO.out (fun h => hts h.2))
        have hb := str_ne hts
        clear YES NO hok hts
        go_enter Tryz.func140, Tryz.ntmps140
        go_wp2_with fail
        refine (C1.out _ ((Chg.refl _ _).alloc _)).mono ?_
        rintro e w2 ⟨rfl, c2⟩
        obtain ⟨y2, z2, s2⟩ := c2.cells
        have d2 : Chg [] w w2 := Chg.trans0 ((Chg.refl _ _).alloc _) c2
        have t2 : w.heap.size < w2.heap.size := by simp at s2; omega
        have tt : w.heap.size < w.heap.size + 1 := by omega
        clear c2
        go_wp2_with fail
        refine (PT.out _ (by repeat (first | with_reducible exact d2 | with_reducible exact Chg.refl _ _ | with_reducible refine Chg.drew ?_ | with_reducible refine Chg.drewN ?_ _ | with_reducible refine Chg.alloc ?_ _ | with_reducible refine Chg.setCell ?_ (.inr (by simp; try omega)) _))).mono ?_
        rintro e w4 ⟨rfl, c4⟩
        obtain ⟨y4, z4, s4⟩ := c4.cells
        have d4 : Chg [] w w4 := Chg.trans0 (by repeat (first | with_reducible exact d2 | with_reducible exact Chg.refl _ _ | with_reducible refine Chg.drew ?_ | with_reducible refine Chg.drewN ?_ _ | with_reducible refine Chg.alloc ?_ _ | with_reducible refine Chg.setCell ?_ (.inr (by simp; try omega)) _)) c4
        have t4 : w.heap.size < w4.heap.size := by simp at s4; omega
        have u4 : w2.heap.size < w4.heap.size := by simp at s4; omega
        have v3 : w2.heap.size < w2.heap.size + 1 := by omega
        have b40 : w4.cell? ⟨w2.heap.size, 0, none⟩ = some (.string M) := by rw [y4 _ _ (by simp)]; go_simp
        have b41 : w4.cell? ⟨w2.heap.size, 1, none⟩ = some (.string ⟨#[]⟩) := by rw [y4 _ _ (by simp)]; go_simp
        have b42 : w4.cell? ⟨w2.heap.size, 2, none⟩ = some (.int .i64 0) := by rw [y4 _ _ (by simp)]; go_simp
        have b43 : w4.cell? ⟨w2.heap.size, 3, none⟩ = some (.string ⟨#[]⟩) := by rw [y4 _ _ (by simp)]; go_simp
        have e40 : ∀ u, (w4.setCell ⟨w2.heap.size, 2, none⟩ u).cell? ⟨w2.heap.size, 0, none⟩ = some (.string M) := fun u => by rw [World.cell?_setCell_other _ _ _ _ (by simp)]; exact b40
        have e41 : ∀ u, (w4.setCell ⟨w2.heap.size, 2, none⟩ u).cell? ⟨w2.heap.size, 1, none⟩ = some (.string ⟨#[]⟩) := fun u => by rw [World.cell?_setCell_other _ _ _ _ (by simp)]; exact b41
        have e43 : ∀ u, (w4.setCell ⟨w2.heap.size, 2, none⟩ u).cell? ⟨w2.heap.size, 3, none⟩ = some (.string ⟨#[]⟩) := fun u => by rw [World.cell?_setCell_other _ _ _ _ (by simp)]; exact b43
        have e42 : ∀ u, (w4.setCell ⟨w2.heap.size, 2, none⟩ u).cell? ⟨w2.heap.size, 2, none⟩ = some u := fun u => World.cell?_setCell_same _ _ _ b42
        clear c4
        go_wp2_with fail
        refine (IX.out _).mono ?_
        rintro e w5 ⟨rfl, c5⟩
        obtain ⟨y5, z5, s5⟩ := c5.cells
        have d5 : Chg [] w w5 := Chg.trans0 (by repeat (first | with_reducible exact d4 | with_reducible exact Chg.refl _ _ | with_reducible refine Chg.drew ?_ | with_reducible refine Chg.drewN ?_ _ | with_reducible refine Chg.alloc ?_ _ | with_reducible refine Chg.setCell ?_ (.inr (by simp; try omega)) _)) c5
        have t5 : w.heap.size < w5.heap.size := by have := d5.size; simp at s5; omega
        have u5 : w2.heap.size < w5.heap.size := by simp at s5; omega
        have v5 : w2.heap.size < w2.heap.size + 1 := by omega
        have v6 : w.heap.size < w2.heap.size + 1 := by omega
        have b50 : w5.cell? ⟨w2.heap.size, 0, none⟩ = some (.string M) := by rw [y5 _ _ (by simpa using u4)]; exact e40 _
        have b51 : w5.cell? ⟨w2.heap.size, 1, none⟩ = some (.string ⟨#[]⟩) := by rw [y5 _ _ (by simpa using u4)]; exact e41 _
        have b52 : w5.cell? ⟨w2.heap.size, 2, none⟩ = some (.int .i64 z) := by rw [y5 _ _ (by simpa using u4)]; exact e42 _
        have b53 : w5.cell? ⟨w2.heap.size, 3, none⟩ = some (.string ⟨#[]⟩) := by rw [y5 _ _ (by simpa using u4)]; exact e43 _
        clear c5
        go_wp2_with fail
        refine (FX.out _ d5).mono ?_
        rintro e w6 ⟨rfl, c6⟩
        obtain ⟨y6, z6, s6⟩ := c6.cells
        have d6 : Chg [] w w6 := Chg.trans0 d5 c6
        have t6 : w.heap.size < w6.heap.size := by omega
        have u6 : w2.heap.size < w6.heap.size := by omega
        have b60 : w6.cell? ⟨w2.heap.size, 0, none⟩ = some (.string M) := by rw [y6 _ _ u5]; exact b50
        have b61 : w6.cell? ⟨w2.heap.size, 1, none⟩ = some (.string ⟨#[]⟩) := by rw [y6 _ _ u5]; exact b51
        have b62 : w6.cell? ⟨w2.heap.size, 2, none⟩ = some (.int .i64 z) := by rw [y6 _ _ u5]; exact b52
        have b63 : w6.cell? ⟨w2.heap.size, 3, none⟩ = some (.string ⟨#[]⟩) := by rw [y6 _ _ u5]; exact b53
        clear c6
        go_wp2_with fail
        refine bodyPost_ret (v := .tuple #[.agg #[.string ⟨#[]⟩, .string ⟨#[]⟩, .int .i64 0, .string ⟨#[]⟩], .bool false]) (by simp only [results, Tryz.results140]; go_simp) rfl ?_
        exact CallIs.no HN.out (by repeat (first | with_reducible exact d6 | with_reducible exact Chg.refl _ _ | with_reducible refine Chg.drew ?_ | with_reducible refine Chg.drewN ?_ _ | with_reducible refine Chg.alloc ?_ _ | with_reducible refine Chg.setCell ?_ (.inr (by simp; try omega)) _))
    · have IX := Lib.hid (fun W => (IX.out W).mono (BoolPost.neg hok))
      have HN := Lib.hid (NO.out (fun h => hok h.1))
      clear YES NO hok
      go_enter Tryz.func140, Tryz.ntmps140
      go_wp2_with fail
      refine (C1.out _ ((Chg.refl _ _).alloc _)).mono ?_
      rintro e w2 ⟨rfl, c2⟩
      obtain ⟨y2, z2, s2⟩ := c2.cells
      have d2 : Chg [] w w2 := Chg.trans0 ((Chg.refl _ _).alloc _) c2
      have t2 : w.heap.size < w2.heap.size := by simp at s2; omega
      have tt : w.heap.size < w.heap.size + 1 := by omega
      clear c2
      go_wp2_with fail
      refine (PT.out _ (by repeat (first | with_reducible exact d2 | with_reducible exact Chg.refl _ _ | with_reducible refine Chg.drew ?_ | with_reducible refine Chg.drewN ?_ _ | with_reducible refine Chg.alloc ?_ _ | with_reducible refine Chg.setCell ?_ (.inr (by simp; try omega)) _))).mono ?_
      rintro e w4 ⟨rfl, c4⟩
      obtain ⟨y4, z4, s4⟩ := c4.cells
      have d4 : Chg [] w w4 := Chg.trans0 (by repeat (first | with_reducible exact d2 | with_reducible exact Chg.refl _ _ | with_reducible refine Chg.drew ?_ | with_reducible refine Chg.drewN ?_ _ | with_reducible refine Chg.alloc ?_ _ | with_reducible refine Chg.setCell ?_ (.inr (by simp; try omega)) _)) c4
      have t4 : w.heap.size < w4.heap.size := by simp at s4; omega
      have u4 : w2.heap.size < w4.heap.size := by simp at s4; omega
      have v3 : w2.heap.size < w2.heap.size + 1 := by omega
      have b40 : w4.cell? ⟨w2.heap.size, 0, none⟩ = some (.string M) := by rw [y4 _ _ (by simp)]; go_simp
      have b41 : w4.cell? ⟨w2.heap.size, 1, none⟩ = some (.string ⟨#[]⟩) := by rw [y4 _ _ (by simp)]; go_simp
      have b42 : w4.cell? ⟨w2.heap.size, 2, none⟩ = some (.int .i64 0) := by rw [y4 _ _ (by simp)]; go_simp
      have b43 : w4.cell? ⟨w2.heap.size, 3, none⟩ = some (.string ⟨#[]⟩) := by rw [y4 _ _ (by simp)]; go_simp
      have e40 : ∀ u, (w4.setCell ⟨w2.heap.size, 2, none⟩ u).cell? ⟨w2.heap.size, 0, none⟩ = some (.string M) := fun u => by rw [World.cell?_setCell_other _ _ _ _ (by simp)]; exact b40
      have e41 : ∀ u, (w4.setCell ⟨w2.heap.size, 2, none⟩ u).cell? ⟨w2.heap.size, 1, none⟩ = some (.string ⟨#[]⟩) := fun u => by rw [World.cell?_setCell_other _ _ _ _ (by simp)]; exact b41
      have e43 : ∀ u, (w4.setCell ⟨w2.heap.size, 2, none⟩ u).cell? ⟨w2.heap.size, 3, none⟩ = some (.string ⟨#[]⟩) := fun u => by rw [World.cell?_setCell_other _ _ _ _ (by simp)]; exact b43
      have e42 : ∀ u, (w4.setCell ⟨w2.heap.size, 2, none⟩ u).cell? ⟨w2.heap.size, 2, none⟩ = some u := fun u => World.cell?_setCell_same _ _ _ b42
      clear c4
      go_wp2_with fail
      refine (IX.out _).mono ?_
      rintro e w5 ⟨rfl, c5⟩
      obtain ⟨y5, z5, s5⟩ := c5.cells
      have d5 : Chg [] w w5 := Chg.trans0 (by repeat (first | with_reducible exact d4 | with_reducible exact Chg.refl _ _ | with_reducible refine Chg.drew ?_ | with_reducible refine Chg.drewN ?_ _ | with_reducible refine Chg.alloc ?_ _ | with_reducible refine Chg.setCell ?_ (.inr (by simp; try omega)) _)) c5
      have t5 : w.heap.size < w5.heap.size := by have := d5.size; simp at s5; omega
      have u5 : w2.heap.size < w5.heap.size := by simp at s5; omega
      have v5 : w2.heap.size < w2.heap.size + 1 := by omega
      have v6 : w.heap.size < w2.heap.size + 1 := by omega
      have b50 : w5.cell? ⟨w2.heap.size, 0, none⟩ = some (.string M) := by rw [y5 _ _ (by simpa using u4)]; exact e40 _
      have b51 : w5.cell? ⟨w2.heap.size, 1, none⟩ = some (.string ⟨#[]⟩) := by rw [y5 _ _ (by simpa using u4)]; exact e41 _
      have b52 : w5.cell? ⟨w2.heap.size, 2, none⟩ = some (.int .i64 z) := by rw [y5 _ _ (by simpa using u4)]; exact e42 _
      have b53 : w5.cell? ⟨w2.heap.size, 3, none⟩ = some (.string ⟨#[]⟩) := by rw [y5 _ _ (by simpa using u4)]; exact e43 _
      clear c5
      go_wp2_with fail
      refine bodyPost_ret (v := .tuple #[.agg #[.string ⟨#[]⟩, .string ⟨#[]⟩, .int .i64 0, .string ⟨#[]⟩], .bool false]) (by simp only [results, Tryz.results140]; go_simp) rfl ?_
      exact CallIs.no HN.out (by repeat (first | with_reducible exact d5 | with_reducible exact Chg.refl _ _ | with_reducible refine Chg.drew ?_ | with_reducible refine Chg.drewN ?_ _ | with_reducible refine Chg.alloc ?_ _ | with_reducible refine Chg.setCell ?_ (.inr (by simp; try omega)) _))
  · dsimp only at RAW
    rw [if_neg (by rw [hm]; decide), if_neg (by rw [hm]; decide), if_neg (by rw [hm]; decide), if_pos hm] at RAW
    try simp only [bytesOf_of] at RAW
    have RAW : Hid (rawI s = (⟨M, ⟨#[]⟩, 0, R⟩ : CallT)) := RAW
    have IX := Lib.hid (IC.out (⟨M, ⟨#[]⟩, 0, R⟩ : CallT) (by first | (show R.size ≤ _; omega) | (show K.size ≤ _; omega) | exact Nat.zero_le _))
    have FX := Lib.hid (FC.out (⟨M, ⟨#[]⟩, 0, R⟩ : CallT) (by first | (show R.size ≤ _; omega) | (show K.size ≤ _; omega) | exact Nat.zero_le _) (by first | (show R.size ≤ _; omega) | exact Nat.zero_le _))
    have YES := Lib.hid (callI_yes RAW.out)
    have NO := Lib.hid (callI_no RAW.out)
    obtain ⟨t, ht⟩ : ∃ t, t = callT (⟨M, ⟨#[]⟩, 0, R⟩ : CallT) := ⟨_, rfl⟩
    have FX := FX.out
    have YES := YES.out
    have NO := NO.out
    rw [← ht] at FX YES NO
    have FX := Lib.hid FX
    have YES := Lib.hid YES
    have NO := Lib.hid NO
    clear ht RAW hm IC FC PN z1 z2 C2
    by_cases hok : CallOk (⟨M, ⟨#[]⟩,  0, R⟩ : CallT)
    · have IX := Lib.hid (fun W => (IX.out W).mono (BoolPost.pos hok))
      by_cases hts : t = s
      · have HY := Lib.hid (YES.out hok hts)
        subst hts
        clear YES NO hok
        go_enter Tryz.func140, Tryz.ntmps140
        go_wp2_with fail
        refine (C1.out _ ((Chg.refl _ _).alloc _)).mono ?_
        rintro e w2 ⟨rfl, c2⟩
        obtain ⟨y2, z2, s2⟩ := c2.cells
        have d2 : Chg [] w w2 := Chg.trans0 ((Chg.refl _ _).alloc _) c2
        have t2 : w.heap.size < w2.heap.size := by simp at s2; omega
        have tt : w.heap.size < w.heap.size + 1 := by omega
        clear c2
        go_wp2_with fail
        refine (IX.out _).mono ?_
        rintro e w5 ⟨rfl, c5⟩
        obtain ⟨y5, z5, s5⟩ := c5.cells
        have d5 : Chg [] w w5 := Chg.trans0 (by repeat (first | with_reducible exact d2 | with_reducible exact Chg.refl _ _ | with_reducible refine Chg.drew ?_ | with_reducible refine Chg.drewN ?_ _ | with_reducible refine Chg.alloc ?_ _ | with_reducible refine Chg.setCell ?_ (.inr (by simp; try omega)) _)) c5
        have t5 : w.heap.size < w5.heap.size := by have := d5.size; simp at s5; omega
        have u5 : w2.heap.size < w5.heap.size := by simp at s5; omega
        have v5 : w2.heap.size < w2.heap.size + 1 := by omega
        have v6 : w.heap.size < w2.heap.size + 1 := by omega
        have b50 : w5.cell? ⟨w2.heap.size, 0, none⟩ = some (.string M) := by rw [y5 _ _ (by simp)]; go_simp
        have b51 : w5.cell? ⟨w2.heap.size, 1, none⟩ = some (.string ⟨#[]⟩) := by rw [y5 _ _ (by simp)]; go_simp
        have b52 : w5.cell? ⟨w2.heap.size, 2, none⟩ = some (.int .i64 0) := by rw [y5 _ _ (by simp)]; go_simp
        have b53 : w5.cell? ⟨w2.heap.size, 3, none⟩ = some (.string R) := by rw [y5 _ _ (by simp)]; go_simp
        clear c5
        go_wp2_with fail
        refine (FX.out _ d5).mono ?_
        rintro e w6 ⟨rfl, c6⟩
        obtain ⟨y6, z6, s6⟩ := c6.cells
        have d6 : Chg [] w w6 := Chg.trans0 d5 c6
        have t6 : w.heap.size < w6.heap.size := by omega
        have u6 : w2.heap.size < w6.heap.size := by omega
        have b60 : w6.cell? ⟨w2.heap.size, 0, none⟩ = some (.string M) := by rw [y6 _ _ u5]; exact b50
        have b61 : w6.cell? ⟨w2.heap.size, 1, none⟩ = some (.string ⟨#[]⟩) := by rw [y6 _ _ u5]; exact b51
        have b62 : w6.cell? ⟨w2.heap.size, 2, none⟩ = some (.int .i64 0) := by rw [y6 _ _ u5]; exact b52
        have b63 : w6.cell? ⟨w2.heap.size, 3, none⟩ = some (.string R) := by rw [y6 _ _ u5]; exact b53
        clear c6
        go_wp2_with fail
        refine bodyPost_ret (v := .tuple #[.agg #[.string M, .string ⟨#[]⟩, .int .i64 0, .string R], .bool true]) (by simp only [results, Tryz.results140]; go_simp) rfl ?_
        exact CallIs.yes (x := (⟨M, ⟨#[]⟩,  0, R⟩ : CallT)) HY.out (by repeat (first | with_reducible exact d6 | with_reducible exact Chg.refl _ _ | with_reducible refine Chg.drew ?_ | with_reducible refine Chg.drewN ?_ _ | with_reducible refine Chg.alloc ?_ _ | with_reducible refine Chg.setCell ?_ (.inr (by simp; try omega)) _))
      · have HN := Lib.hid (NO.out (fun h => hts h.2))
        have hb := str_ne hts
        clear YES NO hok hts
        go_enter Tryz.func140, Tryz.ntmps140
        go_wp2_with fail
        refine (C1.out _ ((Chg.refl _ _).alloc _)).mono ?_
        rintro e w2 ⟨rfl, c2⟩
        obtain ⟨y2, z2, s2⟩ := c2.cells
        have d2 : Chg [] w w2 := Chg.trans0 ((Chg.refl _ _).alloc _) c2
        have t2 : w.heap.size < w2.heap.size := by simp at s2; omega
        have tt : w.heap.size < w.heap.size + 1 := by omega
        clear c2
        go_wp2_with fail
        refine (IX.out _).mono ?_
        rintro e w5 ⟨rfl, c5⟩
        obtain ⟨y5, z5, s5⟩ := c5.cells
        have d5 : Chg [] w w5 := Chg.trans0 (by repeat (first | with_reducible exact d2 | with_reducible exact Chg.refl _ _ | with_reducible refine Chg.drew ?_ | with_reducible refine Chg.drewN ?_ _ | with_reducible refine Chg.alloc ?_ _ | with_reducible refine Chg.setCell ?_ (.inr (by simp; try omega)) _)) c5
        have t5 : w.heap.size < w5.heap.size := by have := d5.size; simp at s5; omega
        have u5 : w2.heap.size < w5.heap.size := by simp at s5; omega
        have v5 : w2.heap.size < w2.heap.size + 1 := by omega
        have v6 : w.heap.size < w2.heap.size + 1 := by omega
        have b50 : w5.cell? ⟨w2.heap.size, 0, none⟩ = some (.string M) := by rw [y5 _ _ (by simp)]; go_simp
        have b51 : w5.cell? ⟨w2.heap.size, 1, none⟩ = some (.string ⟨#[]⟩) := by rw [y5 _ _ (by simp)]; go_simp
        have b52 : w5.cell? ⟨w2.heap.size, 2, none⟩ = some (.int .i64 0) := by rw [y5 _ _ (by simp)]; go_simp
        have b53 : w5.cell? ⟨w2.heap.size, 3, none⟩ = some (.string R) := by rw [y5 _ _ (by simp)]; go_simp
        clear c5
        go_wp2_with fail
        refine (FX.out _ d5).mono ?_
        rintro e w6 ⟨rfl, c6⟩
        obtain ⟨y6, z6, s6⟩ := c6.cells
        have d6 : Chg [] w w6 := Chg.trans0 d5 c6
        have t6 : w.heap.size < w6.heap.size := by omega
        have u6 : w2.heap.size < w6.heap.size := by omega
        have b60 : w6.cell? ⟨w2.heap.size, 0, none⟩ = some (.string M) := by rw [y6 _ _ u5]; exact b50
        have b61 : w6.cell? ⟨w2.heap.size, 1, none⟩ = some (.string ⟨#[]⟩) := by rw [y6 _ _ u5]; exact b51
        have b62 : w6.cell? ⟨w2.heap.size, 2, none⟩ = some (.int .i64 0) := by rw [y6 _ _ u5]; exact b52
        have b63 : w6.cell? ⟨w2.heap.size, 3, none⟩ = some (.string R) := by rw [y6 _ _ u5]; exact b53
        clear c6
        go_wp2_with fail
        refine bodyPost_ret (v := .tuple #[.agg #[.string ⟨#[]⟩, .string ⟨#[]⟩, .int .i64 0, .string ⟨#[]⟩], .bool false]) (by simp only [results, Tryz.results140]; go_simp) rfl ?_
        exact CallIs.no HN.out (by repeat (first | with_reducible exact d6 | with_reducible exact Chg.refl _ _ | with_reducible refine Chg.drew ?_ | with_reducible refine Chg.drewN ?_ _ | with_reducible refine Chg.alloc ?_ _ | with_reducible refine Chg.setCell ?_ (.inr (by simp; try omega)) _))
    · have IX := Lib.hid (fun W => (IX.out W).mono (BoolPost.neg hok))
      have HN := Lib.hid (NO.out (fun h => hok h.1))
      clear YES NO hok
      go_enter Tryz.func140, Tryz.ntmps140
      go_wp2_with fail
      refine (C1.out _ ((Chg.refl _ _).alloc _)).mono ?_
      rintro e w2 ⟨rfl, c2⟩
      obtain ⟨y2, z2, s2⟩ := c2.cells
      have d2 : Chg [] w w2 := Chg.trans0 ((Chg.refl _ _).alloc _) c2
      have t2 : w.heap.size < w2.heap.size := by simp at s2; omega
      have tt : w.heap.size < w.heap.size + 1 := by omega
      clear c2
      go_wp2_with fail
      refine (IX.out _).mono ?_
      rintro e w5 ⟨rfl, c5⟩
      obtain ⟨y5, z5, s5⟩ := c5.cells
      have d5 : Chg [] w w5 := Chg.trans0 (by repeat (first | with_reducible exact d2 | with_reducible exact Chg.refl _ _ | with_reducible refine Chg.drew ?_ | with_reducible refine Chg.drewN ?_ _ | with_reducible refine Chg.alloc ?_ _ | with_reducible refine Chg.setCell ?_ (.inr (by simp; try omega)) _)) c5
      have t5 : w.heap.size < w5.heap.size := by have := d5.size; simp at s5; omega
      have u5 : w2.heap.size < w5.heap.size := by simp at s5; omega
      have v5 : w2.heap.size < w2.heap.size + 1 := by omega
      have v6 : w.heap.size < w2.heap.size + 1 := by omega
      have b50 : w5.cell? ⟨w2.heap.size, 0, none⟩ = some (.string M) := by rw [y5 _ _ (by simp)]; go_simp
      have b51 : w5.cell? ⟨w2.heap.size, 1, none⟩ = some (.string ⟨#[]⟩) := by rw [y5 _ _ (by simp)]; go_simp
      have b52 : w5.cell? ⟨w2.heap.size, 2, none⟩ = some (.int .i64 0) := by rw [y5 _ _ (by simp)]; go_simp
      have b53 : w5.cell? ⟨w2.heap.size, 3, none⟩ = some (.string R) := by rw [y5 _ _ (by simp)]; go_simp
      clear c5
      go_wp2_with fail
      refine bodyPost_ret (v := .tuple #[.agg #[.string ⟨#[]⟩, .string ⟨#[]⟩, .int .i64 0, .string ⟨#[]⟩], .bool false]) (by simp only [results, Tryz.results140]; go_simp) rfl ?_
      exact CallIs.no HN.out (by repeat (first | with_reducible exact d5 | with_reducible exact Chg.refl _ _ | with_reducible refine Chg.drew ?_ | with_reducible refine Chg.drewN ?_ _ | with_reducible refine Chg.alloc ?_ _ | with_reducible refine Chg.setCell ?_ (.inr (by simp; try omega)) _))
  · dsimp only at RAW
    rw [if_neg hm.2.1, if_neg hm.1, if_neg hm.2.2.1, if_neg hm.2.2.2] at RAW
    try simp only [bytesOf_of] at RAW
    have RAW : Hid (rawI s = (⟨M, ⟨#[]⟩, 0, ⟨#[]⟩⟩ : CallT)) := RAW
    have IX := Lib.hid (IC.out (⟨M, ⟨#[]⟩, 0, ⟨#[]⟩⟩ : CallT) (by first | (show R.size ≤ _; omega) | (show K.size ≤ _; omega) | exact Nat.zero_le _))
    have FX := Lib.hid (FC.out (⟨M, ⟨#[]⟩, 0, ⟨#[]⟩⟩ : CallT) (by first | (show R.size ≤ _; omega) | (show K.size ≤ _; omega) | exact Nat.zero_le _) (by first | (show R.size ≤ _; omega) | exact Nat.zero_le _))
    have YES := Lib.hid (callI_yes RAW.out)
    have NO := Lib.hid (callI_no RAW.out)
    obtain ⟨t, ht⟩ : ∃ t, t = callT (⟨M, ⟨#[]⟩, 0, ⟨#[]⟩⟩ : CallT) := ⟨_, rfl⟩
    have FX := FX.out
    have YES := YES.out
    have NO := NO.out
    rw [← ht] at FX YES NO
    have FX := Lib.hid FX
    have YES := Lib.hid YES
    have NO := Lib.hid NO
    clear ht RAW hm IC FC PN z1 z2 C2
    by_cases hok : CallOk (⟨M, ⟨#[]⟩,  0, ⟨#[]⟩⟩ : CallT)
    · have IX := Lib.hid (fun W => (IX.out W).mono (BoolPost.pos hok))
      by_cases hts : t = s
      · have HY := Lib.hid (YES.out hok hts)
        subst hts
        clear YES NO hok
        go_enter Tryz.func140, Tryz.ntmps140
        go_wp2_with fail
        refine (C1.out _ ((Chg.refl _ _).alloc _)).mono ?_
        rintro e w2 ⟨rfl, c2⟩
        obtain ⟨y2, z2, s2⟩ := c2.cells
        have d2 : Chg [] w w2 := Chg.trans0 ((Chg.refl _ _).alloc _) c2
        have t2 : w.heap.size < w2.heap.size := by simp at s2; omega
        have tt : w.heap.size < w.heap.size + 1 := by omega
        clear c2
        go_wp2_with fail
        refine (IX.out _).mono ?_
        rintro e w5 ⟨rfl, c5⟩
        obtain ⟨y5, z5, s5⟩ := c5.cells
        have d5 : Chg [] w w5 := Chg.trans0 (by repeat (first | with_reducible exact d2 | with_reducible exact Chg.refl _ _ | with_reducible refine Chg.drew ?_ | with_reducible refine Chg.drewN ?_ _ | with_reducible refine Chg.alloc ?_ _ | with_reducible refine Chg.setCell ?_ (.inr (by simp; try omega)) _)) c5
        have t5 : w.heap.size < w5.heap.size := by have := d5.size; simp at s5; omega
        have u5 : w2.heap.size < w5.heap.size := by simp at s5; omega
        have v5 : w2.heap.size < w2.heap.size + 1 := by omega
        have v6 : w.heap.size < w2.heap.size + 1 := by omega
        have b50 : w5.cell? ⟨w2.heap.size, 0, none⟩ = some (.string M) := by rw [y5 _ _ (by simp)]; go_simp
        have b51 : w5.cell? ⟨w2.heap.size, 1, none⟩ = some (.string ⟨#[]⟩) := by rw [y5 _ _ (by simp)]; go_simp
        have b52 : w5.cell? ⟨w2.heap.size, 2, none⟩ = some (.int .i64 0) := by rw [y5 _ _ (by simp)]; go_simp
        have b53 : w5.cell? ⟨w2.heap.size, 3, none⟩ = some (.string ⟨#[]⟩) := by rw [y5 _ _ (by simp)]; go_simp
        clear c5
        go_wp2_with fail
        refine (FX.out _ d5).mono ?_
        rintro e w6 ⟨rfl, c6⟩
        obtain ⟨y6, z6, s6⟩ := c6.cells
        have d6 : Chg [] w w6 := Chg.trans0 d5 c6
        have t6 : w.heap.size < w6.heap.size := by omega
        have u6 : w2.heap.size < w6.heap.size := by omega
        have b60 : w6.cell? ⟨w2.heap.size, 0, none⟩ = some (.string M) := by rw [y6 _ _ u5]; exact b50
        have b61 : w6.cell? ⟨w2.heap.size, 1, none⟩ = some (.string ⟨#[]⟩) := by rw [y6 _ _ u5]; exact b51
        have b62 : w6.cell? ⟨w2.heap.size, 2, none⟩ = some (.int .i64 0) := by rw [y6 _ _ u5]; exact b52
        have b63 : w6.cell? ⟨w2.heap.size, 3, none⟩ = some (.string ⟨#[]⟩) := by rw [y6 _ _ u5]; exact b53
        clear c6
        go_wp2_with fail
        refine bodyPost_ret (v := .tuple #[.agg #[.string M, .string ⟨#[]⟩, .int .i64 0, .string ⟨#[]⟩], .bool true]) (by simp only [results, Tryz.results140]; go_simp) rfl ?_
        exact CallIs.yes (x := (⟨M, ⟨#[]⟩,  0, ⟨#[]⟩⟩ : CallT)) HY.out (by repeat (first | with_reducible exact d6 | with_reducible exact Chg.refl _ _ | with_reducible refine Chg.drew ?_ | with_reducible refine Chg.drewN ?_ _ | with_reducible refine Chg.alloc ?_ _ | with_reducible refine Chg.setCell ?_ (.inr (by simp; try omega)) _))
      · have HN := Lib.hid (NO.out (fun h => hts h.2))
        have hb := str_ne hts
        clear YES NO hok hts
        go_enter Tryz.func140, Tryz.ntmps140
        go_wp2_with fail
        refine (C1.out _ ((Chg.refl _ _).alloc _)).mono ?_
        rintro e w2 ⟨rfl, c2⟩
        obtain ⟨y2, z2, s2⟩ := c2.cells
        have d2 : Chg [] w w2 := Chg.trans0 ((Chg.refl _ _).alloc _) c2
        have t2 : w.heap.size < w2.heap.size := by simp at s2; omega
        have tt : w.heap.size < w.heap.size + 1 := by omega
        clear c2
        go_wp2_with fail
        refine (IX.out _).mono ?_
        rintro e w5 ⟨rfl, c5⟩
        obtain ⟨y5, z5, s5⟩ := c5.cells
        have d5 : Chg [] w w5 := Chg.trans0 (by repeat (first | with_reducible exact d2 | with_reducible exact Chg.refl _ _ | with_reducible refine Chg.drew ?_ | with_reducible refine Chg.drewN ?_ _ | with_reducible refine Chg.alloc ?_ _ | with_reducible refine Chg.setCell ?_ (.inr (by simp; try omega)) _)) c5
        have t5 : w.heap.size < w5.heap.size := by have := d5.size; simp at s5; omega
        have u5 : w2.heap.size < w5.heap.size := by simp at s5; omega
        have v5 : w2.heap.size < w2.heap.size + 1 := by omega
        have v6 : w.heap.size < w2.heap.size + 1 := by omega
        have b50 : w5.cell? ⟨w2.heap.size, 0, none⟩ = some (.string M) := by rw [y5 _ _ (by simp)]; go_simp
        have b51 : w5.cell? ⟨w2.heap.size, 1, none⟩ = some (.string ⟨#[]⟩) := by rw [y5 _ _ (by simp)]; go_simp
        have b52 : w5.cell? ⟨w2.heap.size, 2, none⟩ = some (.int .i64 0) := by rw [y5 _ _ (by simp)]; go_simp
        have b53 : w5.cell? ⟨w2.heap.size, 3, none⟩ = some (.string ⟨#[]⟩) := by rw [y5 _ _ (by simp)]; go_simp
        clear c5
        go_wp2_with fail
        refine (FX.out _ d5).mono ?_
        rintro e w6 ⟨rfl, c6⟩
        obtain ⟨y6, z6, s6⟩ := c6.cells
        have d6 : Chg [] w w6 := Chg.trans0 d5 c6
        have t6 : w.heap.size < w6.heap.size := by omega
        have u6 : w2.heap.size < w6.heap.size := by omega
        have b60 : w6.cell? ⟨w2.heap.size, 0, none⟩ = some (.string M) := by rw [y6 _ _ u5]; exact b50
        have b61 : w6.cell? ⟨w2.heap.size, 1, none⟩ = some (.string ⟨#[]⟩) := by rw [y6 _ _ u5]; exact b51
        have b62 : w6.cell? ⟨w2.heap.size, 2, none⟩ = some (.int .i64 0) := by rw [y6 _ _ u5]; exact b52
        have b63 : w6.cell? ⟨w2.heap.size, 3, none⟩ = some (.string ⟨#[]⟩) := by rw [y6 _ _ u5]; exact b53
        clear c6
        go_wp2_with fail
        refine bodyPost_ret (v := .tuple #[.agg #[.string ⟨#[]⟩, .string ⟨#[]⟩, .int .i64 0, .string ⟨#[]⟩], .bool false]) (by simp only [results, Tryz.results140]; go_simp) rfl ?_
        exact CallIs.no HN.out (by repeat (first | with_reducible exact d6 | with_reducible exact Chg.refl _ _ | with_reducible refine Chg.drew ?_ | with_reducible refine Chg.drewN ?_ _ | with_reducible refine Chg.alloc ?_ _ | with_reducible refine Chg.setCell ?_ (.inr (by simp; try omega)) _))
    · have IX := Lib.hid (fun W => (IX.out W).mono (BoolPost.neg hok))
      have HN := Lib.hid (NO.out (fun h => hok h.1))
      clear YES NO hok
      go_enter Tryz.func140, Tryz.ntmps140
      go_wp2_with fail
      refine (C1.out _ ((Chg.refl _ _).alloc _)).mono ?_
      rintro e w2 ⟨rfl, c2⟩
      obtain ⟨y2, z2, s2⟩ := c2.cells
      have d2 : Chg [] w w2 := Chg.trans0 ((Chg.refl _ _).alloc _) c2
      have t2 : w.heap.size < w2.heap.size := by simp at s2; omega
      have tt : w.heap.size < w.heap.size + 1 := by omega
      clear c2
      go_wp2_with fail
      refine (IX.out _).mono ?_
      rintro e w5 ⟨rfl, c5⟩
      obtain ⟨y5, z5, s5⟩ := c5.cells
      have d5 : Chg [] w w5 := Chg.trans0 (by repeat (first | with_reducible exact d2 | with_reducible exact Chg.refl _ _ | with_reducible refine Chg.drew ?_ | with_reducible refine Chg.drewN ?_ _ | with_reducible refine Chg.alloc ?_ _ | with_reducible refine Chg.setCell ?_ (.inr (by simp; try omega)) _)) c5
      have t5 : w.heap.size < w5.heap.size := by have := d5.size; simp at s5; omega
      have u5 : w2.heap.size < w5.heap.size := by simp at s5; omega
      have v5 : w2.heap.size < w2.heap.size + 1 := by omega
      have v6 : w.heap.size < w2.heap.size + 1 := by omega
      have b50 : w5.cell? ⟨w2.heap.size, 0, none⟩ = some (.string M) := by rw [y5 _ _ (by simp)]; go_simp
      have b51 : w5.cell? ⟨w2.heap.size, 1, none⟩ = some (.string ⟨#[]⟩) := by rw [y5 _ _ (by simp)]; go_simp
      have b52 : w5.cell? ⟨w2.heap.size, 2, none⟩ = some (.int .i64 0) := by rw [y5 _ _ (by simp)]; go_simp
      have b53 : w5.cell? ⟨w2.heap.size, 3, none⟩ = some (.string ⟨#[]⟩) := by rw [y5 _ _ (by simp)]; go_simp
      clear c5
      go_wp2_with fail
      refine bodyPost_ret (v := .tuple #[.agg #[.string ⟨#[]⟩, .string ⟨#[]⟩, .int .i64 0, .string ⟨#[]⟩], .bool false]) (by simp only [results, Tryz.results140]; go_simp) rfl ?_
      exact CallIs.no HN.out (by repeat (first | with_reducible exact d5 | with_reducible exact Chg.refl _ _ | with_reducible refine Chg.drew ?_ | with_reducible refine Chg.drewN ?_ _ | with_reducible refine Chg.alloc ?_ _ | with_reducible refine Chg.setCell ?_ (.inr (by simp; try omega)) _))
end Go.Proofs.YtkgffhlpcjjobaaGreatDoor
namespace Go.Proofs.YtkgffhlpcjjobaaGreatDoor
open Go.RowKit

/-- An action without blocks, and whether there is one. -/
def ReadIs (o : Option ActionT) (w : World) (e : Ending) (w' : World) : Prop := ∃ (op slot other : Int) (word m k : ByteArray) (v : Int) (t : ByteArray) (face : Int) (b : Bool),
  e = .returned (.tuple #[.agg #[.int .i64 op, .int .i64 slot, .int .i64 other, .string word, .string m, .string k, .int .i64 v, .string t, .int .i64 face, .slice none 0 0, .slice none 0 0], .bool b]) ∧ Chg [] w w' ∧ (b = true → o = some (mkA op slot other word ⟨m, k, v, t⟩ face)) ∧ (b = false → o = none)
theorem readAct_no {s : List UInt8} (h : parseNum (bytesOf (Lib.cut (Lib.cut s [32]).2.1 [32]).1) = none) : readAct s = none := by unfold readAct; rw [h]; rfl
theorem readAct_some {s : List UInt8} {n : Int} (h : parseNum (bytesOf (Lib.cut (Lib.cut s [32]).2.1 [32]).1) = some n) : readAct s = readW (Lib.cut s [32]).1 n (Lib.cut (Lib.cut s [32]).2.1 [32]).2.1 := by unfold readAct; rw [h]; rfl
theorem readW_miss {w t : List UInt8} {n : Int} (h : ∀ j, 1 ≤ j → j < 8 → w ≠ wl j) : readW w n t = none := by
  unfold readW
  rw [if_neg (h 1 (by omega) (by omega)), if_neg (h 2 (by omega) (by omega)), if_neg (h 3 (by omega) (by omega)), if_neg (h 4 (by omega) (by omega)), if_neg (h 5 (by omega) (by omega)), if_neg (h 6 (by omega) (by omega)), if_neg (h 7 (by omega) (by omega))]
theorem readW_1 {t : List UInt8} {n : Int} : readW (wl 1) n t = some (mkA 1 n 0 (bytesOf t) zeroC 0) := by unfold readW; rw [if_pos rfl]
theorem readW_2 {t : List UInt8} {n : Int} : readW (wl 2) n t = some (mkA 2 n 0 (bytesOf t) zeroC 0) := by unfold readW; rw [if_neg (by decide), if_pos rfl]
theorem readW_3 {t : List UInt8} {n : Int} : readW (wl 3) n t = some (mkA 3 n 0 noB zeroC 0) := by unfold readW; rw [if_neg (by decide), if_neg (by decide), if_pos rfl]
theorem readW_4 {t : List UInt8} {n : Int} : readW (wl 4) n t = if [102, 114, 111, 109, 32].isPrefixOf t then (parseNum (bytesOf (t.drop 5))).map (fun m => mkA 4 n m noB zeroC 0) else none := by unfold readW; rw [if_neg (by decide), if_neg (by decide), if_neg (by decide), if_pos rfl]
theorem readW_5 {t : List UInt8} {n : Int} : readW (wl 5) n t = some (mkA 5 n 0 noB zeroC 0) := by unfold readW; rw [if_neg (by decide), if_neg (by decide), if_neg (by decide), if_neg (by decide), if_pos rfl]
theorem readW_6 {t : List UInt8} {n : Int} : readW (wl 6) n t = (faceOf (bytesOf t)).map (fun f => mkA 6 n 0 noB zeroC f) := by unfold readW; rw [if_neg (by decide), if_neg (by decide), if_neg (by decide), if_neg (by decide), if_neg (by decide), if_pos rfl]
theorem readW_7 {t : List UInt8} {n : Int} : readW (wl 7) n t = (callI (bytesOf t)).map (fun x => mkA 7 n 0 noB x 0) := by unfold readW; rw [if_neg (by decide), if_neg (by decide), if_neg (by decide), if_neg (by decide), if_neg (by decide), if_neg (by decide), if_pos rfl]
set_option maxRecDepth 100000 in
set_option maxHeartbeats 16000000 in
theorem readAction_any (s : ByteArray) (w : World) (hs : s.size ≤ 1048576) (hE : EnvT w) :
    Calls Tryz.prog 97 #[.string s] w (ReadIs (readAct s.data.toList) w) := by
  have CUT := Lib.hid (fun (t : ByteArray) (ht : t.size ≤ 1048576) W (hc : Chg [] w W) => cut32_any t W ht (hE.1.keep hc))
  have PN := Lib.hid (fun (t : ByteArray) (ht : t.size ≤ 1048576) W (hc : Chg [] w W) => parseNumber_impl_any t W ht (hE.1.keep hc))
  have NO := Lib.hid (readAct_no (s := s.data.toList))
  have SOME := Lib.hid (fun n => readAct_some (s := s.data.toList) (n := n))
  have C1 := CUT.out s hs
  have z1 := cutW s.data.toList 32
  rw [size_list] at z1
  obtain ⟨M, hM⟩ : ∃ M, M = bytesOf (Lib.cut s.data.toList [32]).1 := ⟨_, rfl⟩
  obtain ⟨R, hR⟩ : ∃ R, R = bytesOf (Lib.cut s.data.toList [32]).2.1 := ⟨_, rfl⟩
  obtain ⟨f1, hf1⟩ : ∃ f, f = (Lib.cut s.data.toList [32]).2.2 := ⟨_, rfl⟩
  have hRl : (Lib.cut s.data.toList [32]).2.1 = R.data.toList := by rw [hR]; rfl
  have hMl : (Lib.cut s.data.toList [32]).1 = M.data.toList := by rw [hM]; rfl
  rw [hRl] at NO SOME
  rw [hMl] at SOME
  rw [← hM] at C1 z1
  rw [← hR] at C1 z1
  rw [← hf1] at C1
  have C2 := CUT.out R (by omega)
  have z2 := cutW R.data.toList 32
  rw [size_list] at z2
  obtain ⟨S, hS⟩ : ∃ S, S = bytesOf (Lib.cut R.data.toList [32]).1 := ⟨_, rfl⟩
  obtain ⟨T, hT⟩ : ∃ T, T = bytesOf (Lib.cut R.data.toList [32]).2.1 := ⟨_, rfl⟩
  obtain ⟨f2, hf2⟩ : ∃ f, f = (Lib.cut R.data.toList [32]).2.2 := ⟨_, rfl⟩
  have hTl : (Lib.cut R.data.toList [32]).2.1 = T.data.toList := by rw [hT]; rfl
  rw [← hS] at NO SOME C2 z2
  rw [hTl] at SOME
  rw [← hT] at C2 z2
  rw [← hf2] at C2
  have PS := PN.out S (by omega)
  have C1 := Lib.hid C1
  have C2 := Lib.hid C2
  obtain ⟨o, ho⟩ : ∃ o, o = readAct s.data.toList := ⟨_, rfl⟩
  rw [← ho] at NO SOME
  rw [← ho]
  have hTs : T.size ≤ 1048576 := by omega
  clear CUT hM hR hf1 hRl hMl hS hT hf2 hTl ho z1 z2
  unfold OptPost at PS
  cases hv : parseNum S with
  | none =>
    have HN := Lib.hid (NO.out hv)
    rw [hv] at PS
    have PS := Lib.hid PS
    clear NO SOME hv PN hE
    go_enter Tryz.func97, Tryz.ntmps97
    go_wp2_with fail
    refine (C1.out _ ((Chg.refl _ _).alloc _)).mono ?_
    rintro e w2 ⟨rfl, c2⟩
    have d2 : Chg [] w w2 := Chg.trans0 ((Chg.refl _ _).alloc _) c2
    go_wp2_with fail
    refine (C2.out _ d2).mono ?_
    rintro e w3 ⟨rfl, c3⟩
    have d3 : Chg [] w w3 := Chg.trans0 d2 c3
    go_wp2_with fail
    refine (PS.out _ d3).mono ?_
    rintro e w4 ⟨rfl, c4⟩
    have e4 : Chg [] (w.alloc (.cells #[.int .i64 0, .int .i64 0, .int .i64 0, .string ⟨#[]⟩, .string ⟨#[]⟩, .string ⟨#[]⟩, .int .i64 0, .string ⟨#[]⟩, .int .i64 0, .slice none 0 0, .slice none 0 0] 38)) w4 := Chg.trans0 (Chg.trans0 c2 c3) c4
    have d4 : Chg [] w w4 := Chg.trans0 ((Chg.refl _ _).alloc _) e4
    obtain ⟨y4a, z4a, s4⟩ := e4.cells
    have y4 := fun o => y4a w.heap.size o (by simp)
    have z4 := fun o => z4a w.heap.size o (by simp)
    clear y4a z4a
    have t4 : w.heap.size < w4.heap.size := by simp at s4; omega
    have tt : w.heap.size < w.heap.size + 1 := by omega
    clear c2 c3 c4 e4
    go_wp2_with fail
    refine bodyPost_ret (v := .tuple #[.agg #[.int .i64 0, .int .i64 0, .int .i64 0, .string ⟨#[]⟩, .string ⟨#[]⟩, .string ⟨#[]⟩, .int .i64 0, .string ⟨#[]⟩, .int .i64 0, .slice none 0 0, .slice none 0 0], .bool false]) (by simp only [results, Tryz.results97]; go_simp) rfl ?_
    exact ⟨0, 0, 0, _, _, _, 0, _, 0, false, rfl, by repeat (first | with_reducible exact d4 | with_reducible exact Chg.refl _ _ | with_reducible refine Chg.drew ?_ | with_reducible refine Chg.drewN ?_ _ | with_reducible refine Chg.alloc ?_ _ | with_reducible refine Chg.setCell ?_ (.inr (by simp; try omega)) _), fun h => (by cases h), fun _ => HN.out⟩
  | some n =>
    have SM := SOME.out n hv
    rw [hv] at PS
    have PS := Lib.hid PS
    clear NO SOME hv
    go_enter Tryz.func97, Tryz.ntmps97
    go_wp2_with fail
    refine (C1.out _ ((Chg.refl _ _).alloc _)).mono ?_
    rintro e w2 ⟨rfl, c2⟩
    have d2 : Chg [] w w2 := Chg.trans0 ((Chg.refl _ _).alloc _) c2
    go_wp2_with fail
    refine (C2.out _ d2).mono ?_
    rintro e w3 ⟨rfl, c3⟩
    have d3 : Chg [] w w3 := Chg.trans0 d2 c3
    go_wp2_with fail
    refine (PS.out _ d3).mono ?_
    rintro e w4 ⟨rfl, c4⟩
    have e4 : Chg [] (w.alloc (.cells #[.int .i64 0, .int .i64 0, .int .i64 0, .string ⟨#[]⟩, .string ⟨#[]⟩, .string ⟨#[]⟩, .int .i64 0, .string ⟨#[]⟩, .int .i64 0, .slice none 0 0, .slice none 0 0] 38)) w4 := Chg.trans0 (Chg.trans0 c2 c3) c4
    have d4 : Chg [] w w4 := Chg.trans0 ((Chg.refl _ _).alloc _) e4
    obtain ⟨y4a, z4a, s4⟩ := e4.cells
    have y4 := fun o => y4a w.heap.size o (by simp)
    have z4 := fun o => z4a w.heap.size o (by simp)
    clear y4a z4a
    have t4 : w.heap.size < w4.heap.size := by simp at s4; omega
    have tt : w.heap.size < w.heap.size + 1 := by omega
    have HE4 := Lib.hid (hE.keep d4)
    clear c2 c3 c4 e4 hE
    go_wp2_with fail
    go_loopw [11, 12] (fun okv i wr => ∃ k : Nat, 1 ≤ k ∧ k ≤ 8 ∧ i = .int .i64 k ∧ okv = .bool true ∧ Hid (∀ j, 1 ≤ j → j < k → M.data.toList ≠ wl j) ∧ Still w4 wr) (fun _ i _ => 8 - (intOf i).toNat)
    case atStart => exact ⟨1, by omega, by omega, rfl, rfl, fun j h1 h2 => absurd h1 (by omega), rfl⟩
    case round =>
      obtain ⟨k, hk1, hk8, rfl, rfl, HJ, rfl⟩ := hrel
      rcases (show k = 1 ∨ k = 2 ∨ k = 3 ∨ k = 4 ∨ k = 5 ∨ k = 6 ∨ k = 7 ∨ k = 8 by omega) with rfl | rfl | rfl | rfl | rfl | rfl | rfl | rfl
      · have qw : wr.cell? ⟨0, 1, none⟩ = some (.string (wordT 1)) := HE4.out.2.2.2 ⟨1, by decide⟩
        by_cases hw : M.data.toList = wl 1
        · obtain rfl : M = wordT 1 := list_inj hw
          have SM : o = readW (wl 1) n T.data.toList := SM
          rw [readW_1] at SM
          rw [bytesOf_of] at SM
          have hq : ((wordT 1).toList == (wordT 1).toList) = true := beq_self_eq_true _
          obtain ⟨wd, hwd⟩ : ∃ wd, wd = wordT 1 := ⟨_, rfl⟩
          rw [← hwd] at qw hq
          have HSM := Lib.hid SM
          rw [← hwd]
          clear SM hw PN HJ hwd
          go_wp2_with fail
          refine bodyPost_ret (v := .tuple #[.agg #[.int .i64 1, .int .i64 n, .int .i64 0, .string T, .string ⟨#[]⟩, .string ⟨#[]⟩, .int .i64 0, .string ⟨#[]⟩, .int .i64 0, .slice none 0 0, .slice none 0 0], .bool true]) (by simp only [results, Tryz.results97]; go_simp) rfl ?_
          exact ⟨_, _, _, _, _, _, _, _, _, _, rfl, by repeat (first | with_reducible exact d4 | with_reducible exact Chg.refl _ _ | with_reducible refine Chg.drew ?_ | with_reducible refine Chg.drewN ?_ _ | with_reducible refine Chg.alloc ?_ _ | with_reducible refine Chg.setCell ?_ (.inr (by simp; try omega)) _), fun _ => HSM.out, fun h => by cases h⟩
        · have hq : ((wordT 1).toList == M.toList) = false := str_ne (fun e => hw (by rw [← e]; rfl))
          have HJ2 : Hid (∀ j, 1 ≤ j → j < 2 → M.data.toList ≠ wl j) := fun j h1 h2 => by
            rcases Nat.lt_or_ge j 1 with h | h
            · exact HJ.out j h1 h
            · obtain rfl : j = 1 := by omega
              exact hw
          obtain ⟨wd, hwd⟩ : ∃ wd, wd = wordT 1 := ⟨_, rfl⟩
          rw [← hwd] at qw hq
          clear hwd hw PN SM HJ
          go_wp2_with fail
          go_roundw
          case rel => exact ⟨2, by omega, by omega, by go_num, rfl, HJ2, rfl⟩
          case measure => simp [intOf]
      · have qw : wr.cell? ⟨0, 2, none⟩ = some (.string (wordT 2)) := HE4.out.2.2.2 ⟨2, by decide⟩
        by_cases hw : M.data.toList = wl 2
        · obtain rfl : M = wordT 2 := list_inj hw
          have SM : o = readW (wl 2) n T.data.toList := SM
          rw [readW_2] at SM
          rw [bytesOf_of] at SM
          have hq : ((wordT 2).toList == (wordT 2).toList) = true := beq_self_eq_true _
          obtain ⟨wd, hwd⟩ : ∃ wd, wd = wordT 2 := ⟨_, rfl⟩
          rw [← hwd] at qw hq
          have HSM := Lib.hid SM
          rw [← hwd]
          clear SM hw PN HJ hwd
          go_wp2_with fail
          refine bodyPost_ret (v := .tuple #[.agg #[.int .i64 2, .int .i64 n, .int .i64 0, .string T, .string ⟨#[]⟩, .string ⟨#[]⟩, .int .i64 0, .string ⟨#[]⟩, .int .i64 0, .slice none 0 0, .slice none 0 0], .bool true]) (by simp only [results, Tryz.results97]; go_simp) rfl ?_
          exact ⟨_, _, _, _, _, _, _, _, _, _, rfl, by repeat (first | with_reducible exact d4 | with_reducible exact Chg.refl _ _ | with_reducible refine Chg.drew ?_ | with_reducible refine Chg.drewN ?_ _ | with_reducible refine Chg.alloc ?_ _ | with_reducible refine Chg.setCell ?_ (.inr (by simp; try omega)) _), fun _ => HSM.out, fun h => by cases h⟩
        · have hq : ((wordT 2).toList == M.toList) = false := str_ne (fun e => hw (by rw [← e]; rfl))
          have HJ2 : Hid (∀ j, 1 ≤ j → j < 3 → M.data.toList ≠ wl j) := fun j h1 h2 => by
            rcases Nat.lt_or_ge j 2 with h | h
            · exact HJ.out j h1 h
            · obtain rfl : j = 2 := by omega
              exact hw
          obtain ⟨wd, hwd⟩ : ∃ wd, wd = wordT 2 := ⟨_, rfl⟩
          rw [← hwd] at qw hq
          clear hwd hw PN SM HJ
          go_wp2_with fail
          go_roundw
          case rel => exact ⟨3, by omega, by omega, by go_num, rfl, HJ2, rfl⟩
          case measure => simp [intOf]
      · have qw : wr.cell? ⟨0, 3, none⟩ = some (.string (wordT 3)) := HE4.out.2.2.2 ⟨3, by decide⟩
        by_cases hw : M.data.toList = wl 3
        · obtain rfl : M = wordT 3 := list_inj hw
          have SM : o = readW (wl 3) n T.data.toList := SM
          rw [readW_3] at SM
          have hq : ((wordT 3).toList == (wordT 3).toList) = true := beq_self_eq_true _
          obtain ⟨wd, hwd⟩ : ∃ wd, wd = wordT 3 := ⟨_, rfl⟩
          rw [← hwd] at qw hq
          have HSM := Lib.hid SM
          rw [← hwd]
          clear SM hw PN HJ hwd
          go_wp2_with fail
          refine bodyPost_ret (v := .tuple #[.agg #[.int .i64 3, .int .i64 n, .int .i64 0, .string ⟨#[]⟩, .string ⟨#[]⟩, .string ⟨#[]⟩, .int .i64 0, .string ⟨#[]⟩, .int .i64 0, .slice none 0 0, .slice none 0 0], .bool true]) (by simp only [results, Tryz.results97]; go_simp) rfl ?_
          exact ⟨_, _, _, _, _, _, _, _, _, _, rfl, by repeat (first | with_reducible exact d4 | with_reducible exact Chg.refl _ _ | with_reducible refine Chg.drew ?_ | with_reducible refine Chg.drewN ?_ _ | with_reducible refine Chg.alloc ?_ _ | with_reducible refine Chg.setCell ?_ (.inr (by simp; try omega)) _), fun _ => HSM.out, fun h => by cases h⟩
        · have hq : ((wordT 3).toList == M.toList) = false := str_ne (fun e => hw (by rw [← e]; rfl))
          have HJ2 : Hid (∀ j, 1 ≤ j → j < 4 → M.data.toList ≠ wl j) := fun j h1 h2 => by
            rcases Nat.lt_or_ge j 3 with h | h
            · exact HJ.out j h1 h
            · obtain rfl : j = 3 := by omega
              exact hw
          obtain ⟨wd, hwd⟩ : ∃ wd, wd = wordT 3 := ⟨_, rfl⟩
          rw [← hwd] at qw hq
          clear hwd hw PN SM HJ
          go_wp2_with fail
          go_roundw
          case rel => exact ⟨4, by omega, by omega, by go_num, rfl, HJ2, rfl⟩
          case measure => simp [intOf]
      · have qw : wr.cell? ⟨0, 4, none⟩ = some (.string (wordT 4)) := HE4.out.2.2.2 ⟨4, by decide⟩
        by_cases hw : M.data.toList = wl 4
        · obtain rfl : M = wordT 4 := list_inj hw
          have SM : o = readW (wl 4) n T.data.toList := SM
          rw [readW_4] at SM
          have hq : ((wordT 4).toList == (wordT 4).toList) = true := beq_self_eq_true _
          obtain ⟨wd, hwd⟩ : ∃ wd, wd = wordT 4 := ⟨_, rfl⟩
          rw [← hwd] at qw hq
          have HSM := Lib.hid SM
          have CP := Tryz.strings_CutPrefix T ⟨#[102, 114, 111, 109, 32]⟩
          obtain ⟨U, hU⟩ : ∃ U : ByteArray, U = ⟨(Lib.trimPrefix T.data.toList (⟨#[102, 114, 111, 109, 32]⟩ : ByteArray).data.toList).toArray⟩ := ⟨_, rfl⟩
          obtain ⟨p, hp⟩ : ∃ p, p = Lib.hasPrefix T.data.toList (⟨#[102, 114, 111, 109, 32]⟩ : ByteArray).data.toList := ⟨_, rfl⟩
          have hUs : U.size ≤ 1048576 := by rw [hU]; refine Nat.le_trans ?_ hTs; show (List.toArray _).size ≤ _; rw [List.size_toArray, ← size_list]; unfold Lib.trimPrefix; split <;> simp
          have SM4 : o = if p then (parseNum U).map (fun m => mkA 4 n m noB zeroC 0) else none := by
            rw [SM, hp, hU]
            show _ = if [102, 114, 111, 109, 32].isPrefixOf T.data.toList then _ else _
            by_cases hpp : [102, 114, 111, 109, 32].isPrefixOf T.data.toList = true
            · rw [if_pos hpp, if_pos hpp]; unfold Lib.trimPrefix; rw [if_pos (show Lib.hasPrefix T.data.toList [102, 114, 111, 109, 32] = true from hpp)]; rfl
            · rw [if_neg hpp, if_neg hpp]
          rw [← hU, ← hp] at CP
          have PU := PN.out U hUs
          unfold OptPost at PU
          obtain ⟨v, hv⟩ : ∃ v, v = parseNum U := ⟨_, rfl⟩
          rw [← hv] at PU SM4
          obtain ⟨z, hz⟩ : ∃ z, z = v.getD 0 := ⟨_, rfl⟩
          obtain ⟨f3, hf3⟩ : ∃ f, f = v.isSome := ⟨_, rfl⟩
          rw [← hz, ← hf3] at PU
          have PU := Lib.hid PU
          have CP := Lib.hid CP
          have FIN : Hid (((p && f3) = true → o = some (mkA 4 n z noB zeroC 0)) ∧ ((p && f3) = false → o = none)) := by
            rw [SM4, hz, hf3]
            cases p <;> cases v <;> simp [Hid]
          clear SM SM4 HSM hw PN HJ hU hp hv hz hf3 hUs
          rw [← hwd]
          clear hwd
          go_wp2_with fail
          refine (CP.out _).mono ?_
          rintro e w5 ⟨rfl, rfl⟩
          go_wp2_with fail
          refine (PU.out _ (by repeat (first | with_reducible exact d4 | with_reducible exact Chg.refl _ _ | with_reducible refine Chg.drew ?_ | with_reducible refine Chg.drewN ?_ _ | with_reducible refine Chg.alloc ?_ _ | with_reducible refine Chg.setCell ?_ (.inr (by simp; try omega)) _))).mono ?_
          rintro e w6 ⟨rfl, c6⟩
          obtain ⟨y6, z6, s6⟩ := c6.cells
          have d6 : Chg [] w w6 := Chg.trans0 (by repeat (first | with_reducible exact d4 | with_reducible exact Chg.refl _ _ | with_reducible refine Chg.drew ?_ | with_reducible refine Chg.drewN ?_ _ | with_reducible refine Chg.alloc ?_ _ | with_reducible refine Chg.setCell ?_ (.inr (by simp; try omega)) _)) c6
          have t6 : w.heap.size < w6.heap.size := by simp at s6; omega
          have u6 : wr.heap.size < w6.heap.size := by simp at s6; omega
          have v6 : wr.heap.size < wr.heap.size + 1 := by omega
          have v7 : w.heap.size < wr.heap.size + 1 := by omega
          have b60 : w6.cell? ⟨wr.heap.size, 0, none⟩ = some (.int .i64 4) := by rw [y6 _ _ (by simp)]; go_simp
          have b61 : w6.cell? ⟨wr.heap.size, 1, none⟩ = some (.int .i64 n) := by rw [y6 _ _ (by simp)]; go_simp
          have b62 : w6.cell? ⟨wr.heap.size, 2, none⟩ = some (.int .i64 0) := by rw [y6 _ _ (by simp)]; go_simp
          have b63 : w6.cell? ⟨wr.heap.size, 3, none⟩ = some (.string ⟨#[]⟩) := by rw [y6 _ _ (by simp)]; go_simp
          have b64 : w6.cell? ⟨wr.heap.size, 4, none⟩ = some (.string ⟨#[]⟩) := by rw [y6 _ _ (by simp)]; go_simp
          have b65 : w6.cell? ⟨wr.heap.size, 5, none⟩ = some (.string ⟨#[]⟩) := by rw [y6 _ _ (by simp)]; go_simp
          have b66 : w6.cell? ⟨wr.heap.size, 6, none⟩ = some (.int .i64 0) := by rw [y6 _ _ (by simp)]; go_simp
          have b67 : w6.cell? ⟨wr.heap.size, 7, none⟩ = some (.string ⟨#[]⟩) := by rw [y6 _ _ (by simp)]; go_simp
          have b68 : w6.cell? ⟨wr.heap.size, 8, none⟩ = some (.int .i64 0) := by rw [y6 _ _ (by simp)]; go_simp
          have b69 : w6.cell? ⟨wr.heap.size, 9, none⟩ = some (.slice none 0 0) := by rw [y6 _ _ (by simp)]; go_simp
          have b610 : w6.cell? ⟨wr.heap.size, 10, none⟩ = some (.slice none 0 0) := by rw [y6 _ _ (by simp)]; go_simp
          have e60 : ∀ u, (w6.setCell ⟨wr.heap.size, 2, none⟩ u).cell? ⟨wr.heap.size, 0, none⟩ = some (.int .i64 4) := fun u => by rw [World.cell?_setCell_other _ _ _ _ (by simp)]; exact b60
          have e61 : ∀ u, (w6.setCell ⟨wr.heap.size, 2, none⟩ u).cell? ⟨wr.heap.size, 1, none⟩ = some (.int .i64 n) := fun u => by rw [World.cell?_setCell_other _ _ _ _ (by simp)]; exact b61
          have e62 : ∀ u, (w6.setCell ⟨wr.heap.size, 2, none⟩ u).cell? ⟨wr.heap.size, 2, none⟩ = some u := fun u => World.cell?_setCell_same _ _ _ b62
          have e63 : ∀ u, (w6.setCell ⟨wr.heap.size, 2, none⟩ u).cell? ⟨wr.heap.size, 3, none⟩ = some (.string ⟨#[]⟩) := fun u => by rw [World.cell?_setCell_other _ _ _ _ (by simp)]; exact b63
          have e64 : ∀ u, (w6.setCell ⟨wr.heap.size, 2, none⟩ u).cell? ⟨wr.heap.size, 4, none⟩ = some (.string ⟨#[]⟩) := fun u => by rw [World.cell?_setCell_other _ _ _ _ (by simp)]; exact b64
          have e65 : ∀ u, (w6.setCell ⟨wr.heap.size, 2, none⟩ u).cell? ⟨wr.heap.size, 5, none⟩ = some (.string ⟨#[]⟩) := fun u => by rw [World.cell?_setCell_other _ _ _ _ (by simp)]; exact b65
          have e66 : ∀ u, (w6.setCell ⟨wr.heap.size, 2, none⟩ u).cell? ⟨wr.heap.size, 6, none⟩ = some (.int .i64 0) := fun u => by rw [World.cell?_setCell_other _ _ _ _ (by simp)]; exact b66
          have e67 : ∀ u, (w6.setCell ⟨wr.heap.size, 2, none⟩ u).cell? ⟨wr.heap.size, 7, none⟩ = some (.string ⟨#[]⟩) := fun u => by rw [World.cell?_setCell_other _ _ _ _ (by simp)]; exact b67
          have e68 : ∀ u, (w6.setCell ⟨wr.heap.size, 2, none⟩ u).cell? ⟨wr.heap.size, 8, none⟩ = some (.int .i64 0) := fun u => by rw [World.cell?_setCell_other _ _ _ _ (by simp)]; exact b68
          have e69 : ∀ u, (w6.setCell ⟨wr.heap.size, 2, none⟩ u).cell? ⟨wr.heap.size, 9, none⟩ = some (.slice none 0 0) := fun u => by rw [World.cell?_setCell_other _ _ _ _ (by simp)]; exact b69
          have e610 : ∀ u, (w6.setCell ⟨wr.heap.size, 2, none⟩ u).cell? ⟨wr.heap.size, 10, none⟩ = some (.slice none 0 0) := fun u => by rw [World.cell?_setCell_other _ _ _ _ (by simp)]; exact b610
          clear c6
          go_wp2_with fail
          all_goals
            refine bodyPost_ret (v := .tuple #[.agg #[.int .i64 4, .int .i64 n, .int .i64 z, .string ⟨#[]⟩, .string ⟨#[]⟩, .string ⟨#[]⟩, .int .i64 0, .string ⟨#[]⟩, .int .i64 0, .slice none 0 0, .slice none 0 0], .bool (p && f3)]) (by simp only [results, Tryz.results97]; go_simp; try simp_all) rfl ?_
            exact ⟨_, _, _, _, _, _, _, _, _, _, rfl, by repeat (first | with_reducible exact d6 | with_reducible exact Chg.refl _ _ | with_reducible refine Chg.drew ?_ | with_reducible refine Chg.drewN ?_ _ | with_reducible refine Chg.alloc ?_ _ | with_reducible refine Chg.setCell ?_ (.inr (by simp; try omega)) _), FIN.out.1, FIN.out.2⟩
        · have hq : ((wordT 4).toList == M.toList) = false := str_ne (fun e => hw (by rw [← e]; rfl))
          have HJ2 : Hid (∀ j, 1 ≤ j → j < 5 → M.data.toList ≠ wl j) := fun j h1 h2 => by
            rcases Nat.lt_or_ge j 4 with h | h
            · exact HJ.out j h1 h
            · obtain rfl : j = 4 := by omega
              exact hw
          obtain ⟨wd, hwd⟩ : ∃ wd, wd = wordT 4 := ⟨_, rfl⟩
          rw [← hwd] at qw hq
          clear hwd hw PN SM HJ
          go_wp2_with fail
          go_roundw
          case rel => exact ⟨5, by omega, by omega, by go_num, rfl, HJ2, rfl⟩
          case measure => simp [intOf]
      · have qw : wr.cell? ⟨0, 5, none⟩ = some (.string (wordT 5)) := HE4.out.2.2.2 ⟨5, by decide⟩
        by_cases hw : M.data.toList = wl 5
        · obtain rfl : M = wordT 5 := list_inj hw
          have SM : o = readW (wl 5) n T.data.toList := SM
          rw [readW_5] at SM
          have hq : ((wordT 5).toList == (wordT 5).toList) = true := beq_self_eq_true _
          obtain ⟨wd, hwd⟩ : ∃ wd, wd = wordT 5 := ⟨_, rfl⟩
          rw [← hwd] at qw hq
          have HSM := Lib.hid SM
          rw [← hwd]
          clear SM hw PN HJ hwd
          go_wp2_with fail
          refine bodyPost_ret (v := .tuple #[.agg #[.int .i64 5, .int .i64 n, .int .i64 0, .string ⟨#[]⟩, .string ⟨#[]⟩, .string ⟨#[]⟩, .int .i64 0, .string ⟨#[]⟩, .int .i64 0, .slice none 0 0, .slice none 0 0], .bool true]) (by simp only [results, Tryz.results97]; go_simp) rfl ?_
          exact ⟨_, _, _, _, _, _, _, _, _, _, rfl, by repeat (first | with_reducible exact d4 | with_reducible exact Chg.refl _ _ | with_reducible refine Chg.drew ?_ | with_reducible refine Chg.drewN ?_ _ | with_reducible refine Chg.alloc ?_ _ | with_reducible refine Chg.setCell ?_ (.inr (by simp; try omega)) _), fun _ => HSM.out, fun h => by cases h⟩
        · have hq : ((wordT 5).toList == M.toList) = false := str_ne (fun e => hw (by rw [← e]; rfl))
          have HJ2 : Hid (∀ j, 1 ≤ j → j < 6 → M.data.toList ≠ wl j) := fun j h1 h2 => by
            rcases Nat.lt_or_ge j 5 with h | h
            · exact HJ.out j h1 h
            · obtain rfl : j = 5 := by omega
              exact hw
          obtain ⟨wd, hwd⟩ : ∃ wd, wd = wordT 5 := ⟨_, rfl⟩
          rw [← hwd] at qw hq
          clear hwd hw PN SM HJ
          go_wp2_with fail
          go_roundw
          case rel => exact ⟨6, by omega, by omega, by go_num, rfl, HJ2, rfl⟩
          case measure => simp [intOf]
      · have qw : wr.cell? ⟨0, 6, none⟩ = some (.string (wordT 6)) := HE4.out.2.2.2 ⟨6, by decide⟩
        by_cases hw : M.data.toList = wl 6
        · obtain rfl : M = wordT 6 := list_inj hw
          have SM : o = readW (wl 6) n T.data.toList := SM
          rw [readW_6] at SM
          rw [bytesOf_of] at SM
          have hq : ((wordT 6).toList == (wordT 6).toList) = true := beq_self_eq_true _
          obtain ⟨wd, hwd⟩ : ∃ wd, wd = wordT 6 := ⟨_, rfl⟩
          rw [← hwd] at qw hq
          have HSM := Lib.hid SM
          have PF := fun W (hc : Chg [] wr W) => parseFace_impl_any T W (HE4.out.2.1.keep hc)
          unfold OptPost at PF
          obtain ⟨v, hv⟩ : ∃ v, v = faceOf T := ⟨_, rfl⟩
          rw [← hv] at PF SM
          obtain ⟨z, hz⟩ : ∃ z, z = v.getD 0 := ⟨_, rfl⟩
          obtain ⟨f3, hf3⟩ : ∃ f, f = v.isSome := ⟨_, rfl⟩
          rw [← hz, ← hf3] at PF
          have PF := Lib.hid PF
          have FIN : Hid ((f3 = true → o = some (mkA 6 n 0 noB zeroC z)) ∧ (f3 = false → o = none)) := by
            rw [SM, hz, hf3]
            cases v <;> simp [Hid]
          clear SM HSM hw PN HJ hv hz hf3
          rw [← hwd]
          clear hwd
          go_wp2_with fail
          refine (PF.out _ ((Chg.refl _ _).alloc _)).mono ?_
          rintro e w6 ⟨rfl, c6⟩
          obtain ⟨y6, z6, s6⟩ := c6.cells
          have d6 : Chg [] w w6 := Chg.trans0 (by repeat (first | with_reducible exact d4 | with_reducible exact Chg.refl _ _ | with_reducible refine Chg.drew ?_ | with_reducible refine Chg.drewN ?_ _ | with_reducible refine Chg.alloc ?_ _ | with_reducible refine Chg.setCell ?_ (.inr (by simp; try omega)) _)) c6
          have t6 : w.heap.size < w6.heap.size := by simp at s6; omega
          have u6 : wr.heap.size < w6.heap.size := by simp at s6; omega
          have v6 : wr.heap.size < wr.heap.size + 1 := by omega
          have v7 : w.heap.size < wr.heap.size + 1 := by omega
          have b60 : w6.cell? ⟨wr.heap.size, 0, none⟩ = some (.int .i64 6) := by rw [y6 _ _ (by simp)]; go_simp
          have b61 : w6.cell? ⟨wr.heap.size, 1, none⟩ = some (.int .i64 n) := by rw [y6 _ _ (by simp)]; go_simp
          have b62 : w6.cell? ⟨wr.heap.size, 2, none⟩ = some (.int .i64 0) := by rw [y6 _ _ (by simp)]; go_simp
          have b63 : w6.cell? ⟨wr.heap.size, 3, none⟩ = some (.string ⟨#[]⟩) := by rw [y6 _ _ (by simp)]; go_simp
          have b64 : w6.cell? ⟨wr.heap.size, 4, none⟩ = some (.string ⟨#[]⟩) := by rw [y6 _ _ (by simp)]; go_simp
          have b65 : w6.cell? ⟨wr.heap.size, 5, none⟩ = some (.string ⟨#[]⟩) := by rw [y6 _ _ (by simp)]; go_simp
          have b66 : w6.cell? ⟨wr.heap.size, 6, none⟩ = some (.int .i64 0) := by rw [y6 _ _ (by simp)]; go_simp
          have b67 : w6.cell? ⟨wr.heap.size, 7, none⟩ = some (.string ⟨#[]⟩) := by rw [y6 _ _ (by simp)]; go_simp
          have b68 : w6.cell? ⟨wr.heap.size, 8, none⟩ = some (.int .i64 0) := by rw [y6 _ _ (by simp)]; go_simp
          have b69 : w6.cell? ⟨wr.heap.size, 9, none⟩ = some (.slice none 0 0) := by rw [y6 _ _ (by simp)]; go_simp
          have b610 : w6.cell? ⟨wr.heap.size, 10, none⟩ = some (.slice none 0 0) := by rw [y6 _ _ (by simp)]; go_simp
          have e60 : ∀ u, (w6.setCell ⟨wr.heap.size, 8, none⟩ u).cell? ⟨wr.heap.size, 0, none⟩ = some (.int .i64 6) := fun u => by rw [World.cell?_setCell_other _ _ _ _ (by simp)]; exact b60
          have e61 : ∀ u, (w6.setCell ⟨wr.heap.size, 8, none⟩ u).cell? ⟨wr.heap.size, 1, none⟩ = some (.int .i64 n) := fun u => by rw [World.cell?_setCell_other _ _ _ _ (by simp)]; exact b61
          have e62 : ∀ u, (w6.setCell ⟨wr.heap.size, 8, none⟩ u).cell? ⟨wr.heap.size, 2, none⟩ = some (.int .i64 0) := fun u => by rw [World.cell?_setCell_other _ _ _ _ (by simp)]; exact b62
          have e63 : ∀ u, (w6.setCell ⟨wr.heap.size, 8, none⟩ u).cell? ⟨wr.heap.size, 3, none⟩ = some (.string ⟨#[]⟩) := fun u => by rw [World.cell?_setCell_other _ _ _ _ (by simp)]; exact b63
          have e64 : ∀ u, (w6.setCell ⟨wr.heap.size, 8, none⟩ u).cell? ⟨wr.heap.size, 4, none⟩ = some (.string ⟨#[]⟩) := fun u => by rw [World.cell?_setCell_other _ _ _ _ (by simp)]; exact b64
          have e65 : ∀ u, (w6.setCell ⟨wr.heap.size, 8, none⟩ u).cell? ⟨wr.heap.size, 5, none⟩ = some (.string ⟨#[]⟩) := fun u => by rw [World.cell?_setCell_other _ _ _ _ (by simp)]; exact b65
          have e66 : ∀ u, (w6.setCell ⟨wr.heap.size, 8, none⟩ u).cell? ⟨wr.heap.size, 6, none⟩ = some (.int .i64 0) := fun u => by rw [World.cell?_setCell_other _ _ _ _ (by simp)]; exact b66
          have e67 : ∀ u, (w6.setCell ⟨wr.heap.size, 8, none⟩ u).cell? ⟨wr.heap.size, 7, none⟩ = some (.string ⟨#[]⟩) := fun u => by rw [World.cell?_setCell_other _ _ _ _ (by simp)]; exact b67
          have e68 : ∀ u, (w6.setCell ⟨wr.heap.size, 8, none⟩ u).cell? ⟨wr.heap.size, 8, none⟩ = some u := fun u => World.cell?_setCell_same _ _ _ b68
          have e69 : ∀ u, (w6.setCell ⟨wr.heap.size, 8, none⟩ u).cell? ⟨wr.heap.size, 9, none⟩ = some (.slice none 0 0) := fun u => by rw [World.cell?_setCell_other _ _ _ _ (by simp)]; exact b69
          have e610 : ∀ u, (w6.setCell ⟨wr.heap.size, 8, none⟩ u).cell? ⟨wr.heap.size, 10, none⟩ = some (.slice none 0 0) := fun u => by rw [World.cell?_setCell_other _ _ _ _ (by simp)]; exact b610
          clear c6
          go_wp2_with fail
          refine bodyPost_ret (v := .tuple #[.agg #[.int .i64 6, .int .i64 n, .int .i64 0, .string ⟨#[]⟩, .string ⟨#[]⟩, .string ⟨#[]⟩, .int .i64 0, .string ⟨#[]⟩, .int .i64 z, .slice none 0 0, .slice none 0 0], .bool f3]) (by simp only [results, Tryz.results97]; go_simp) rfl ?_
          exact ⟨_, _, _, _, _, _, _, _, _, _, rfl, by repeat (first | with_reducible exact d6 | with_reducible exact Chg.refl _ _ | with_reducible refine Chg.drew ?_ | with_reducible refine Chg.drewN ?_ _ | with_reducible refine Chg.alloc ?_ _ | with_reducible refine Chg.setCell ?_ (.inr (by simp; try omega)) _), FIN.out.1, FIN.out.2⟩
        · have hq : ((wordT 6).toList == M.toList) = false := str_ne (fun e => hw (by rw [← e]; rfl))
          have HJ2 : Hid (∀ j, 1 ≤ j → j < 7 → M.data.toList ≠ wl j) := fun j h1 h2 => by
            rcases Nat.lt_or_ge j 6 with h | h
            · exact HJ.out j h1 h
            · obtain rfl : j = 6 := by omega
              exact hw
          obtain ⟨wd, hwd⟩ : ∃ wd, wd = wordT 6 := ⟨_, rfl⟩
          rw [← hwd] at qw hq
          clear hwd hw PN SM HJ
          go_wp2_with fail
          go_roundw
          case rel => exact ⟨7, by omega, by omega, by go_num, rfl, HJ2, rfl⟩
          case measure => simp [intOf]
      · have qw : wr.cell? ⟨0, 7, none⟩ = some (.string (wordT 7)) := HE4.out.2.2.2 ⟨7, by decide⟩
        by_cases hw : M.data.toList = wl 7
        · obtain rfl : M = wordT 7 := list_inj hw
          have SM : o = readW (wl 7) n T.data.toList := SM
          rw [readW_7] at SM
          rw [bytesOf_of] at SM
          have hq : ((wordT 7).toList == (wordT 7).toList) = true := beq_self_eq_true _
          obtain ⟨wd, hwd⟩ : ∃ wd, wd = wordT 7 := ⟨_, rfl⟩
          rw [← hwd] at qw hq
          have HSM := Lib.hid SM
          have PC := fun W (hc : Chg [] wr W) => parseCall_impl_any T W hTs (HE4.out.1.keep hc)
          unfold CallIs at PC
          obtain ⟨v, hv⟩ : ∃ v, v = callI T := ⟨_, rfl⟩
          rw [← hv] at PC SM
          obtain ⟨z, hz⟩ : ∃ z, z = v.getD zeroC := ⟨_, rfl⟩
          obtain ⟨f3, hf3⟩ : ∃ f, f = v.isSome := ⟨_, rfl⟩
          rw [← hz, ← hf3] at PC
          have PC := Lib.hid PC
          have FIN : Hid ((f3 = true → o = some (mkA 7 n 0 noB ⟨z.method, z.key, z.value, z.text⟩ 0)) ∧ (f3 = false → o = none)) := by
            rw [SM, hz, hf3]
            cases v <;> simp [Hid]
          clear SM HSM hw PN HJ hv hz hf3
          rw [← hwd]
          clear hwd
          go_wp2_with fail
          refine (PC.out _ ((Chg.refl _ _).alloc _)).mono ?_
          rintro e w6 ⟨rfl, c6⟩
          obtain ⟨y6, z6, s6⟩ := c6.cells
          have d6 : Chg [] w w6 := Chg.trans0 (by repeat (first | with_reducible exact d4 | with_reducible exact Chg.refl _ _ | with_reducible refine Chg.drew ?_ | with_reducible refine Chg.drewN ?_ _ | with_reducible refine Chg.alloc ?_ _ | with_reducible refine Chg.setCell ?_ (.inr (by simp; try omega)) _)) c6
          have t6 : w.heap.size < w6.heap.size := by simp at s6; omega
          have u6 : wr.heap.size < w6.heap.size := by simp at s6; omega
          have v6 : wr.heap.size < wr.heap.size + 1 := by omega
          have v7 : w.heap.size < wr.heap.size + 1 := by omega
          have b60 : w6.cell? ⟨wr.heap.size, 0, none⟩ = some (.int .i64 7) := by rw [y6 _ _ (by simp)]; go_simp
          have b61 : w6.cell? ⟨wr.heap.size, 1, none⟩ = some (.int .i64 n) := by rw [y6 _ _ (by simp)]; go_simp
          have b62 : w6.cell? ⟨wr.heap.size, 2, none⟩ = some (.int .i64 0) := by rw [y6 _ _ (by simp)]; go_simp
          have b63 : w6.cell? ⟨wr.heap.size, 3, none⟩ = some (.string ⟨#[]⟩) := by rw [y6 _ _ (by simp)]; go_simp
          have b64 : w6.cell? ⟨wr.heap.size, 4, none⟩ = some (.string ⟨#[]⟩) := by rw [y6 _ _ (by simp)]; go_simp
          have b65 : w6.cell? ⟨wr.heap.size, 5, none⟩ = some (.string ⟨#[]⟩) := by rw [y6 _ _ (by simp)]; go_simp
          have b66 : w6.cell? ⟨wr.heap.size, 6, none⟩ = some (.int .i64 0) := by rw [y6 _ _ (by simp)]; go_simp
          have b67 : w6.cell? ⟨wr.heap.size, 7, none⟩ = some (.string ⟨#[]⟩) := by rw [y6 _ _ (by simp)]; go_simp
          have b68 : w6.cell? ⟨wr.heap.size, 8, none⟩ = some (.int .i64 0) := by rw [y6 _ _ (by simp)]; go_simp
          have b69 : w6.cell? ⟨wr.heap.size, 9, none⟩ = some (.slice none 0 0) := by rw [y6 _ _ (by simp)]; go_simp
          have b610 : w6.cell? ⟨wr.heap.size, 10, none⟩ = some (.slice none 0 0) := by rw [y6 _ _ (by simp)]; go_simp
          clear c6
          go_wp2_with fail
          refine bodyPost_ret (v := .tuple #[.agg #[.int .i64 7, .int .i64 n, .int .i64 0, .string ⟨#[]⟩, .string z.method, .string z.key, .int .i64 z.value, .string z.text, .int .i64 0, .slice none 0 0, .slice none 0 0], .bool f3]) (by simp only [results, Tryz.results97]; go_simp) rfl ?_
          exact ⟨_, _, _, _, _, _, _, _, _, _, rfl, by repeat (first | with_reducible exact d6 | with_reducible exact Chg.refl _ _ | with_reducible refine Chg.drew ?_ | with_reducible refine Chg.drewN ?_ _ | with_reducible refine Chg.alloc ?_ _ | with_reducible refine Chg.setCell ?_ (.inr (by simp; try omega)) _), FIN.out.1, FIN.out.2⟩
        · have hq : ((wordT 7).toList == M.toList) = false := str_ne (fun e => hw (by rw [← e]; rfl))
          have HJ2 : Hid (∀ j, 1 ≤ j → j < 8 → M.data.toList ≠ wl j) := fun j h1 h2 => by
            rcases Nat.lt_or_ge j 7 with h | h
            · exact HJ.out j h1 h
            · obtain rfl : j = 7 := by omega
              exact hw
          obtain ⟨wd, hwd⟩ : ∃ wd, wd = wordT 7 := ⟨_, rfl⟩
          rw [← hwd] at qw hq
          clear hwd hw PN SM HJ
          go_wp2_with fail
          go_roundw
          case rel => exact ⟨8, by omega, by omega, by go_num, rfl, HJ2, rfl⟩
          case measure => simp [intOf]
      · have HN := Lib.hid (SM.trans (readW_miss HJ.out))
        clear PN SM HJ
        go_wp2_with fail
        refine bodyPost_ret (v := .tuple #[.agg #[.int .i64 0, .int .i64 0, .int .i64 0, .string ⟨#[]⟩, .string ⟨#[]⟩, .string ⟨#[]⟩, .int .i64 0, .string ⟨#[]⟩, .int .i64 0, .slice none 0 0, .slice none 0 0], .bool false]) (by simp only [results, Tryz.results97]; go_simp) rfl ?_
        exact ⟨0, 0, 0, _, _, _, 0, _, 0, false, rfl, by repeat (first | with_reducible exact d4 | with_reducible exact Chg.refl _ _ | with_reducible refine Chg.drew ?_ | with_reducible refine Chg.drewN ?_ _ | with_reducible refine Chg.alloc ?_ _ | with_reducible refine Chg.setCell ?_ (.inr (by simp; try omega)) _), fun h => (by cases h), fun _ => HN.out⟩
end Go.Proofs.YtkgffhlpcjjobaaGreatDoor
