/- ParseCells of the program. Conditions: the tables and variables of the library stand as they are laid. -/
import Derived.Test.YtgnggiibhkphjaaGreatDoorCellsR
import Derived.Test.YtgnggiibhkphjaaGreatDoorNumQ
import Derived.Test.YtgnggiibhkphjaaGreatDoorShSplit
import Derived.Test.YtgnggiibhkphjaaGreatDoorMethR
namespace Go.Proofs.YtgnggiibhkphjaaGreatDoor
open Go.RowKit

theorem cut_size (l : List UInt8) (c : UInt8) : (Lib.cut l [c]).1.length ≤ l.length ∧ (Lib.cut l [c]).2.1.length ≤ l.length := by
  unfold Lib.cut
  split
  · simp
    omega
  · simp
theorem Chg.drawn (w : World) (n : Nat) : Chg [] w (w.drewN n) := (Chg.refl _ _).drewN n
set_option maxRecDepth 100000 in
set_option maxHeartbeats 4000000 in
theorem parseCells_impl_any (s : ByteArray) (w : World) (hs : s.size ≤ 1048575) (he : Env w) :
    Calls Tryz.prog 52 #[.string s] w (CellsGives (parseCells s) w) := by
  cases hd : (s.toList == [45])
  · have hnd := not_dash hd
    obtain ⟨m, hm⟩ := he.max
    have hpl := splitS_len 44 s
    have SP := Tryz.strings_Split s ⟨#[44]⟩ m w (by omega) hm (by decide)
    have hcn : Lib.countB s ⟨#[44]⟩ + 1 = (splitS 44 s).length := by rw [← splitB_one 44 _ _ rfl, Lib.splitB_all _ (by decide) _ _ _ rfl]
    rw [splitB_one 44 _ _ rfl, hcn] at SP
    have hps : ∀ x ∈ splitS 44 s, x.size ≤ 1048575 := fun x hx => Nat.le_trans (splitS_piece hx) hs
    obtain ⟨L, hL⟩ : ∃ L, L = splitS 44 s := ⟨_, rfl⟩
    rw [← hL] at SP hpl hps
    have BAD : Hid (∀ (k : Nat) (hk : k < L.length), cellOf L[k] = none → parseCells s = none) := by rw [hL]; exact fun k hk h => parseCells_bad hnd hk h
    have LONG : Hid (4 < L.length → parseCells s = none) := by rw [hL]; exact fun h => parseCells_long hnd h
    have GOOD : Hid (∀ out : List CellT, L.map cellOf = out.map some → (CellsOk out → parseCells s = some out) ∧ (¬ CellsOk out → parseCells s = none)) := by rw [hL]; exact fun out h => ⟨fun hok => parseCells_some hnd h hok, fun hok => parseCells_not hnd h hok⟩
    have STEP : Hid (∀ (k : Nat) (hk : k < L.length) (out : List CellT) (c : CellT), (L.take k).map cellOf = out.map some → cellOf L[k] = some c → (L.take (k + 1)).map cellOf = (out ++ [c]).map some) := by rw [hL]; exact fun k hk out c h hc => splitS_take hk h hc
    have SPH := Lib.hid SP
    have HE := Lib.hid he
    clear hL hnd SP hcn hm he
    go_enter Tryz.func52, Tryz.ntmps52
    go_wp2_with fail
    refine SPH.out.mono ?_
    rintro e w1 ⟨rfl, hw1⟩
    have n1 := new_strs_at w w L 9 _ rfl (by unfold maxLen; omega) (Chg.refl _ _)
    rw [← hw1] at n1
    have d1 := n1.chg
    have hrd1 := n1.rd
    obtain ⟨_, _, e9, _, _, hrow⟩ := strs_row hrd1
    cases e9
    clear n1 hw1 hrd1
    go_wp2_with fail
    go_loopw [4, 17] (fun v i wr => ∃ (k : Nat) (A' : Option Addr) (cap' : Nat) (out : List CellT), k ≤ L.length ∧ i = .int .i64 k ∧ v = .slice A' k cap' ∧ out.length = k ∧ (∀ c ∈ out, c.key.size ≤ 1048576) ∧ Hid ((L.take k).map cellOf = out.map some) ∧ App w1 wr 72 2 (.slice A' k cap') k (out.flatMap cellF)) (fun _ i _ => L.length - (intOf i).toNat)
    case atStart => exact ⟨0, _, 0, [], Nat.zero_le _, rfl, rfl, rfl, by simp, by simp [Hid], App.nil w1 _ _ (Chg.refl _ _)⟩
    case round =>
      obtain ⟨k, A', cap', out, hk, rfl, rfl, hout, hkey, HM, hh⟩ := hrel
      have hcg := hh.chg
      have dr : Chg [] w wr := d1.trans0 hcg
      have HEr := Lib.hid (HE.out.keep dr)
      by_cases hlt : k < L.length
      · obtain ⟨b, off, e8, hb, q0⟩ := strs_cells (hrow.chg0 hcg (Nat.le_refl _)) k hlt
        cases e8
        simp only [Nat.zero_add] at q0
        have hsk := hps _ (List.getElem_mem hlt)
        obtain ⟨m, hm⟩ := HEr.out.max
        have CUT := Tryz.strings_Cut L[k] ⟨#[61]⟩ m wr (by omega) hm
        have hcs := cut_size L[k].data.toList 61
        rw [size_list] at hcs
        have hsep : (⟨#[61]⟩ : ByteArray).data.toList = [61] := rfl
        rw [hsep] at CUT
        have CNO := Lib.hid (cellOf_no (p := L[k]))
        have CBAD := Lib.hid (cellOf_bad (p := L[k]))
        have CGOOD := Lib.hid (fun n => cellOf_good (p := L[k]) (n := n))
        obtain ⟨K, hK⟩ : ∃ K : ByteArray, K = ⟨(Lib.cut L[k].data.toList [61]).1.toArray⟩ := ⟨_, rfl⟩
        obtain ⟨T, hT⟩ : ∃ T : ByteArray, T = ⟨(Lib.cut L[k].data.toList [61]).2.1.toArray⟩ := ⟨_, rfl⟩
        have hKs : K.size ≤ 1048576 := by rw [hK]; show (List.toArray _).size ≤ _; simp; omega
        have hTs : T.size ≤ 1048576 := by rw [hT]; show (List.toArray _).size ≤ _; simp; omega
        rw [← hK] at CUT CGOOD
        rw [← hT] at CUT CGOOD CBAD
        obtain ⟨f, hf⟩ : ∃ f, f = (Lib.cut L[k].data.toList [61]).2.2 := ⟨_, rfl⟩
        rw [← hf] at CUT CGOOD CBAD CNO
        have CUTH := Lib.hid CUT
        have HA := Lib.hid hh
        clear hK hT hf CUT hsep hcs hm hh
        cases f with
        | false =>
          have HB := Lib.hid (BAD.out k hlt (CNO.out rfl))
          go_wp2_with fail
          refine CUTH.out.mono ?_
          rintro e w2 ⟨rfl, n, hw2⟩
          have c2 : Chg [] wr w2 := hw2 ▸ Chg.drawn _ _
          clear hw2
          go_wp2_with fail
          refine (parseNumber_impl_any T _ hTs (HEr.out.keep c2)).mono ?_
          rintro e w3 ⟨he3, c3⟩
          subst he3
          go_wp2_with fail
          go_ret2
          exact CellsGives.no HB.out (App.toCells (l := []) (App.nil w 72 2 ((dr.trans0 c2).trans0 c3)) rfl)
        | true =>
          cases hp : parseNum T with
          | none =>
            have HB := Lib.hid (BAD.out k hlt (CBAD.out rfl hp))
            have PN := Lib.hid (fun W hE => parseNumber_impl_any T W hTs hE)
            rw [hp] at PN
            clear hp
            go_wp2_with fail
            refine CUTH.out.mono ?_
            rintro e w2 ⟨rfl, n, hw2⟩
            have c2 : Chg [] wr w2 := hw2 ▸ Chg.drawn _ _
            clear hw2
            go_wp2_with fail
            refine (PN.out _ (HEr.out.keep c2)).mono ?_
            rintro e w3 ⟨he3, c3⟩
            subst he3
            go_wp2_with fail
            go_ret2
            exact CellsGives.no HB.out (App.toCells (l := []) (App.nil w 72 2 ((dr.trans0 c2).trans0 c3)) rfl)
          | some z =>
            have HG := Lib.hid (STEP.out k hlt out ⟨K, z⟩ HM.out (CGOOD.out z rfl hp))
            have PN := Lib.hid (fun W hE => parseNumber_impl_any T W hTs hE)
            rw [hp] at PN
            clear hp
            by_cases h4 : 4 ≤ k
            · have HB := Lib.hid (LONG.out (by omega))
              go_wp2_with fail
              refine CUTH.out.mono ?_
              rintro e w2 ⟨rfl, n, hw2⟩
              have c2 : Chg [] wr w2 := hw2 ▸ Chg.drawn _ _
              clear hw2
              go_wp2_with fail
              refine (PN.out _ (HEr.out.keep c2)).mono ?_
              rintro e w3 ⟨he3, c3⟩
              subst he3
              go_wp2_with fail
              go_ret2
              exact CellsGives.no HB.out (App.toCells (l := []) (App.nil w 72 2 ((dr.trans0 c2).trans0 c3)) rfl)
            · go_wp2_with fail
              refine CUTH.out.mono ?_
              rintro e w2 ⟨rfl, n, hw2⟩
              have c2 : Chg [] wr w2 := hw2 ▸ Chg.drawn _ _
              clear hw2
              go_wp2_with fail
              refine (PN.out _ (HEr.out.keep c2)).mono ?_
              rintro e w3 ⟨he3, c3⟩
              subst he3
              have hA2 := Lib.hid ((HA.out.later c2).later c3)
              go_wp2_with (at_builtin; refine wpList_app rfl (.tmp 43) (.tmp 47) _ rfl 72 _ 2 24 Tryz.underlying61 cell1_info rfl (by omega) hA2.out (us := [.string K, .int .i64 z]) (dsE := cellF ⟨K, z⟩) (newL_cell ⟨K, z⟩ ((Chg.refl _ _).alloc _)) rfl w3.heap.size 1 rfl rfl (by intro j u hj; match j, hj with | 0, hj => cases hj; go_simp | 1, hj => cases hj; go_simp | j + 2, hj => simp at hj) (by intro u hu; simp at hu; rcases hu with rfl | rfl <;> rfl) (by omega) (by omega) ?_; intro A3 cap3 w4 hA3)
              go_roundw
              case rel => exact ⟨k + 1, A3, cap3, out ++ [⟨K, z⟩], by omega, by go_num, by go_num, by simp [hout], fun c hc => (List.mem_append.1 hc).elim (hkey c) (fun hc => by rw [List.mem_singleton] at hc; subst hc; exact hKs), HG, by rw [List.flatMap_append]; simpa using hA3⟩
              case measure => simp [intOf]; omega
      · obtain rfl : k = L.length := by omega
        have HM2 := HM.out
        rw [List.take_length] at HM2
        have HG := Lib.hid (GOOD.out out HM2)
        have hN := App.toCells (l := out) hh hout.symm
        have hrd : Rd wr wr.heap.size (cells out) (.slice A' L.length cap') := hN.rd
        have IC := Lib.hid (isCells_impl_any out _ wr.heap.size wr hrd (Nat.le_refl _) (by omega) hkey)
        have HNN := Lib.hid (show New w wr (cells out) (.slice A' L.length cap') from by
          obtain ⟨S, h1, h2, h3⟩ := hN
          exact ⟨S, h1, fun x hx => Nat.le_trans d1.size (h2 x hx), dr⟩)
        clear HM2 hN hrd hh
        by_cases hok : CellsOk out
        · have IC2 := Lib.hid (IC.out.mono (BoolPost.pos hok))
          have HP := Lib.hid (HG.out.1 hok)
          clear hok
          go_wp2_with fail
          refine IC2.out.mono ?_
          rintro e w2 ⟨rfl, c2⟩
          go_wp2_with fail
          go_ret2
          exact CellsGives.yes HP.out hout.symm (HNN.out.later c2)
        · have IC2 := Lib.hid (IC.out.mono (BoolPost.neg hok))
          have HP := Lib.hid (HG.out.2 hok)
          clear hok
          go_wp2_with fail
          refine IC2.out.mono ?_
          rintro e w2 ⟨rfl, c2⟩
          go_wp2_with fail
          go_ret2
          exact CellsGives.no HP.out (App.toCells (l := []) (App.nil w 72 2 (dr.trans0 c2)) rfl)
  · have HD := Lib.hid (is_dash hd)
    clear he
    go_enter Tryz.func52, Tryz.ntmps52
    go_wp2_with fail
    go_ret2
    exact CellsGives.yes (l := []) (by rw [HD.out]; exact parseCells_dash) rfl (App.toCells (l := []) (App.nil w 72 2 (Chg.refl _ _)) rfl)
end Go.Proofs.YtgnggiibhkphjaaGreatDoor
