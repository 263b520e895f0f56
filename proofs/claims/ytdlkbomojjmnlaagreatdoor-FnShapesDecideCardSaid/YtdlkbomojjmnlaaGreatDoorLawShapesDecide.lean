/- FnShapesDecide: the walk of the law. Conditions: the library's variables stand. -/
import Derived.Test.YtdlkbomojjmnlaaGreatDoorRunLws
import Derived.Test.YtdlkbomojjmnlaaGreatDoorDrawS
import Derived.Test.YtdlkbomojjmnlaaGreatDoorRunsP
import Derived.Test.YtdlkbomojjmnlaaGreatDoorMakes
import Derived.Test.YtdlkbomojjmnlaaGreatDoorShapes
import Derived.Test.YtdlkbomojjmnlaaGreatDoorTexts
import Derived.Test.YtdlkbomojjmnlaaGreatDoorApps
set_option maxRecDepth 100000
set_option maxHeartbeats 16000000
namespace Go.Proofs.YtdlkbomojjmnlaaGreatDoor
open Go.RowKit

/-- Valid slots are small. -/
theorem part_W {p : PartT} (h : PartOk p) : partW p ≤ 200 := by
 obtain ⟨⟨f, hf, hc, _⟩, hl, hL⟩ := h
 have h1 : p.core.kind.size ≤ 16 := by
  have hm := look_in hf
  rw [toList_data] at hm
  have hall : ∀ q ∈ kinds, q.1.length ≤ 16 := by decide
  have := hall _ hm
  rw [← size_list]; exact this
 have h2 : cellsW1 p.core.cells ≤ p.core.cells.length * 8 := by
  have hk := ((cellsOk_iff _).1 hc).2.1
  have : ∀ l : List CellT, (∀ c ∈ l, c.key.size ≤ 8) → (l.map cellW).sum ≤ l.length * 8 := by
   intro l
   induction l with
   | nil => intro _; simp
   | cons a l ih => intro h; simp only [List.map_cons, List.sum_cons, List.length_cons]; have := ih (fun c hc => h c (List.mem_cons_of_mem _ hc)); have := h a List.mem_cons_self; unfold cellW at *; omega
  exact this _ (fun c hc => (hk c hc).1.2.1)
 have h3 : layersW1 p.layers ≤ p.layers.length * 16 := by
  have hk : ∀ x ∈ p.layers, x.name.size ≤ 16 := by
   intro x hx
   obtain ⟨i, hi, rfl⟩ := List.getElem_of_mem hx
   obtain ⟨y, hy, _⟩ := hL i hi
   have hm := look_in hy
   rw [toList_data] at hm
   have hall : ∀ q ∈ layerTab, q.1.length ≤ 16 := by decide
   have := hall _ hm
   rw [← size_list]; exact this
  have : ∀ l : List LayerT, (∀ c ∈ l, c.name.size ≤ 16) → (l.map layerW).sum ≤ l.length * 16 := by
   intro l
   induction l with
   | nil => intro _; simp
   | cons a l ih => intro h; simp only [List.map_cons, List.sum_cons, List.length_cons]; have := ih (fun c hc => h c (List.mem_cons_of_mem _ hc)); have := h a List.mem_cons_self; unfold layerW at *; omega
  exact this _ hk
 have h4 := hc.1
 unfold partW coreW cellsW layersW
 omega
theorem slots_W {l : List SlotT} (h : SlotsOk l) : slotsW l ≤ 1048576 := by
 obtain ⟨a, b, c, rfl⟩ : ∃ a b c, l = [a, b, c] := by
  match l, h.1 with
  | [a, b, c], _ => exact ⟨a, b, c, rfl⟩
 have hs : ∀ x, SlotOk x → slotW x ≤ 200 := fun x hx => by
  unfold slotW
  cases hf : x.full with
  | true => exact part_W (hx.1 hf)
  | false => rw [hx.2 hf]; decide
 have h1 := hs a (h.2 0 (by simp))
 have h2 := hs b (h.2 1 (by simp))
 have h3 := hs c (h.2 2 (by simp))
 unfold slotsW slotsW1
 simp only [List.map_cons, List.map_nil, List.sum_cons, List.sum_nil, List.length_cons, List.length_nil]
 omega
theorem strs_new {w w' : World} {l : List ByteArray} {A : Option Addr} {cap : Nat} (h : New w w' (strs l) (.slice A l.length cap)) : NewT [] w (w'.alloc (.cells #[.slice A l.length cap] 56)) (strssC l) [.slice A l.length cap] := by
 obtain ⟨S, h1, h2, h3⟩ := h
 exact ⟨S ++ [], HasL.cons (h1.keep0 ((Chg.refl _ _).alloc _)) (HasL.nil _) (by simp), fun x hx => h2 x (by simpa using hx), h3.alloc _⟩
theorem rcps_len {s : List SlotT} (h : SlotsOk s) : (∀ x ∈ s.map rcpOf, x.length ≤ 1048576) := by
 intro x hx
 obtain ⟨y, hy, rfl⟩ := List.mem_map.1 hx
 obtain ⟨i, hi, rfl⟩ := List.getElem_of_mem hy
 unfold rcpOf
 split
 ·rename_i hf
  have := ((h.2 i hi).1 hf).2.1
  simp [recipe]
  omega
 ·simp
theorem shapesDecide_law (A : Option Addr) (n cap : Nat) (w : World) (hE : Env w) (hb : BytesAt w w.heap.size A n) :
  Calls Tryz.prog 6 #[.slice A n cap] w fun e w' => e = .returned (.bool true) ∧ Chg [] w w' := by
 have HE := Lib.hid hE
 by_cases hn : n ≤ 4096
 case neg =>
  have BG := Lib.hid (big_yes A n cap w hn)
  clear hb hn hE
  go_enter Tryz.func6, Tryz.ntmps6
  go_wp2_with fail
  refine BG.out.mono ?_
  rintro e w1 ⟨rfl, rfl⟩
  go_wp2_with fail
  go_ret
  exact ⟨rfl, Chg.refl _ _⟩
 case pos =>
  have BG := Lib.hid (big_no A n cap w hn)
  have DS := Lib.hid (drawStart_any A n cap w (by omega) hb)
  clear hb hn hE
  go_enter Tryz.func6, Tryz.ntmps6
  go_wp2_with fail
  refine BG.out.mono ?_
  rintro e w0 ⟨rfl, hw0⟩
  subst hw0
  go_wp2_with fail
  refine DS.out.mono ?_
  rintro e w1 ⟨p, A1, c1, l, A2, c2, s, A3, c3, rfl, hok, hW, hl, hs, rp, ri, rs, d1⟩
  have D1 := Lib.hid d1
  have RP := Lib.hid rp
  have X := Lib.hid (show PlanOk p ∧ actionsW p ≤ 26000 ∧ SlotsOk s from ⟨hok, hW, hs⟩)
  have RI := Lib.hid ri
  have RS := Lib.hid rs
  obtain ⟨n3, hn3⟩ : ∃ n3, n3 = s.length := ⟨_, rfl⟩
  have h3 : n3 = 3 := by rw [hn3]; exact hs.1
  have HN := Lib.hid hn3
  have H3 := Lib.hid h3
  rw [← hn3]
  have E1 := Lib.hid (HE.out.keep d1)
  clear rp ri rs d1 hok hW hl hs BG DS hn3 h3
  go_wp2_with fail
  go_loopw [6, 7] (fun v i wr => ∃ (j : Nat) (L : List (List ByteArray)) (A : Option Addr) (cap : Nat), i = .int .i64 (j : Int) ∧ v = .slice A L.length cap ∧ Hid (L.length = j) ∧ j ≤ n3 ∧ Hid (AppT [] w1 wr 56 1 (.slice A L.length cap) L.length (L.flatMap strssC)) ∧ Hid (L = (s.take j).map rcpOf)) (fun _ i _ => n3 - (intOf i).toNat)
  case atStart => exact ⟨0, [], _, _, rfl, rfl, Lib.hid rfl, Nat.zero_le _, Lib.hid (AppT.empty (T := []) w1 56 1 (Chg.refl _ _)), Lib.hid (by simp)⟩
  case round =>
   obtain ⟨j, L, AL, capL, rfl, rfl, hLj, hj, hA, hL⟩ := hrel
   by_cases hj3 : j < n3
   case neg =>
    have hjn : j = n3 := by omega
    have hLs : L = s.map rcpOf := by rw [hL.out, hjn, HN.out, List.take_length]
    obtain ⟨hfo, hFk, hSS⟩ := fill_rcps X.out.2.2
    have FS := Lib.hid (fillSlots_impl_any L _ wr.heap.size wr (by have := hLj.out; have := H3.out; omega) (by rw [hLs]; exact rcps_len X.out.2.2) (show Rd wr wr.heap.size (strss L) _ from hA.out.new.rd) (Nat.le_refl _))
    rw [show fillRes L = (fillSl L, true) by rw [hLs]; exact fillRes_ok hfo] at FS
    obtain ⟨F, hF⟩ : ∃ F, F = fillSl L := ⟨_, rfl⟩
    rw [← hF] at FS
    rw [← hLs, ← hF] at hFk hSS
    have HF := Lib.hid (show SlotsOk F ∧ SameS s F from ⟨hFk, hSS⟩)
    have DW := Lib.hid (D1.out.trans0 hA.out.chg)
    have RSw : Hid (Rd wr wr.heap.size (slots s) (.slice A3 n3 c3)) := Lib.hid (by rw [HN.out]; exact (RS.out.chg0 hA.out.chg (Nat.le_refl _)).mono hA.out.chg.size)
    have RPw := Lib.hid (RP.out.chg0 hA.out.chg (Nat.le_refl _) |>.mono hA.out.chg.size)
    have RIw := Lib.hid (RI.out.chg0 hA.out.chg (Nat.le_refl _) |>.mono hA.out.chg.size)
    have EW := Lib.hid (E1.out.keep hA.out.chg)
    have WS := Lib.hid (slots_W X.out.2.2)
    have WF := Lib.hid (slots_W HF.out.1)
    have hji : ¬ (j : Int) < (n3 : Int) := by omega
    clear hLs hfo hFk hSS hF hL hLj hjn hj hj3 RS RP RI E1 D1 hA
    go_wp2_with fail
    refine FS.out.mono ?_
    rintro e w9 ⟨A9, cap9, rfl, N9⟩
    have N9r := Lib.hid N9.rd
    have K9 := Lib.hid N9.chg
    obtain ⟨T, hT⟩ : ∃ T, T = shapes s := ⟨_, rfl⟩
    have hTF : shapes F = T := by rw [hT]; exact shapes_same HF.out.2
    have SF := Lib.hid (fun W (hc : Chg [] w9 W) => shapesOf_impl_any F _ w9.heap.size W WF.out (N9r.out.chg0 hc (Nat.le_refl _)) hc.size)
    have SS := Lib.hid (fun W (hc : Chg [] w9 W) => shapesOf_impl_any s _ wr.heap.size W WS.out (RSw.out.chg0 (K9.out.trans0 hc) (Nat.le_refl _)) (Nat.le_trans K9.out.size hc.size))
    rw [hTF] at SF
    rw [← hT] at SS
    clear N9 FS hT hTF
    go_wp2_with fail
    refine (SF.out _ (Chg.refl _ _)).mono ?_
    rintro e wa Ga
    obtain ⟨Aa, capa, rfl, Na⟩ := Ga.sl
    have Na := Lib.hid Na
    clear Ga
    go_wp2_with fail
    refine (SS.out _ Na.out.chg).mono ?_
    rintro e wb Gb
    obtain ⟨Ab, capb, rfl, Nb⟩ := Gb.sl
    have TX := Lib.hid (texts_same T _ _ wb (Na.out.rd.chg0 Nb.chg (Nat.le_refl _) |>.mono Nb.chg.size) Nb.rd)
    have KB := Lib.hid (Na.out.chg.trans0 Nb.chg)
    clear Gb Nb Na
    go_wp2_with fail
    refine TX.out.mono ?_
    rintro e wc ⟨rfl, kc⟩
    have KC := Lib.hid (K9.out.trans0 (KB.out.trans0 kc))
    have K9C := Lib.hid (KB.out.trans0 kc)
    have R1 := Lib.hid (fun W (hc : Chg [] wr W) => run_law EW.out l X.out.2.2 X.out.1 (Nat.le_trans X.out.2.1 (by decide)) RSw.out RPw.out RIw.out W hc)
    have R2 := Lib.hid (fun W (hc : Chg [] w9 W) => run_law (EW.out.keep K9.out) l HF.out.1 X.out.1 (Nat.le_trans X.out.2.1 (by decide)) N9r.out (RPw.out.chg0 K9.out (Nat.le_refl _) |>.mono K9.out.size) (RIw.out.chg0 K9.out (Nat.le_refl _) |>.mono K9.out.size) W hc)
    obtain ⟨hq1, hq2, hq3⟩ := runL_shapes l X.out.2.2 HF.out.1 HF.out.2 X.out.1
    have ok1 := runL_ok l p X.out.1.2.2 0 ⟨s, 0⟩ X.out.2.2
    have ok2 := runL_ok l p X.out.1.2.2 0 ⟨F, 0⟩ HF.out.1
    obtain ⟨q, hq⟩ : ∃ q, q = runL l p 0 ⟨s, 0⟩ := ⟨_, rfl⟩
    obtain ⟨r, hr⟩ : ∃ r, r = runL l p 0 ⟨F, 0⟩ := ⟨_, rfl⟩
    rw [← hq] at R1 hq1 hq2 hq3 ok1
    rw [← hr] at R2 hq1 hq2 hq3 ok2
    have OK1 := Lib.hid (slots_W ok1)
    have OK2 := Lib.hid (slots_W ok2)
    have R2 := Lib.hid (fun W (hc : Chg [] w9 W) => (R2.out W hc).mono (fun e w' h => (show ∃ (A : Option Addr) (cap : Nat), e = .returned (.tuple #[.agg #[.int .i64 q.2.code, .int .i64 q.2.place, .int .i64 q.2.want, .int .i64 q.2.had], .slice A r.1.slots.length cap, .int .i64 q.1.taken]) ∧ Rd w' w'.heap.size (slots r.1.slots) (.slice A r.1.slots.length cap) ∧ Chg [] W w' from by obtain ⟨A, cap, e1, h1, h2⟩ := h; rw [hq1, hq2] at e1; exact ⟨A, cap, e1, h1, h2⟩)))
    obtain ⟨U, hU⟩ : ∃ U, U = shapes q.1.slots := ⟨_, rfl⟩
    rw [← hU] at hq3
    have HU := Lib.hid hU
    have HQ3 := Lib.hid hq3
    clear kc KB TX SF SS hq hr hq1 hq2 hq3 ok1 ok2 hU
    go_wp2_with fail
    refine (R1.out _ KC.out).mono ?_
    rintro e wd ⟨B1, b1, rfl, N1, kd⟩
    have KD := Lib.hid (K9C.out.trans0 kd)
    have N1 := Lib.hid N1
    clear kd R1 KC K9C
    go_wp2_with fail
    refine calls_name fun xe hxe => ?_
    have ee : Chg [] wd xe := by rw [hxe]; exact Chg.now
    have ZE : Box xe wd.heap.size [.int .i64 q.2.code, .int .i64 q.2.place, .int .i64 q.2.want, .int .i64 q.2.had] := by rw [hxe]; exact Box.new _ _ _
    clear hxe
    refine (R2.out _ (KD.out.trans0 ee)).mono ?_
    rintro e wf ⟨B2, b2, rfl, N2, kf⟩
    have ZF := ZE.keep kf
    have KF := Lib.hid (K9.out.trans0 ((KD.out.trans0 ee).trans0 kf))
    have KDF := Lib.hid (ee.trans0 kf)
    have N2 := Lib.hid N2
    obtain ⟨z0, z1, z2, z3⟩ := ZF.o4
    have lz := ZF.lt
    have S1 := Lib.hid (fun W (hc : Chg [] wf W) => shapesOf_impl_any q.1.slots _ wd.heap.size W OK1.out (N1.out.chg0 (KDF.out.trans0 hc) (Nat.le_refl _)) (Nat.le_trans KDF.out.size hc.size))
    have S2 := Lib.hid (fun W (hc : Chg [] wf W) => shapesOf_impl_any r.1.slots _ wf.heap.size W OK2.out (N2.out.chg0 hc (Nat.le_refl _)) hc.size)
    rw [← HU.out] at S1
    rw [HQ3.out] at S2
    clear ZE ZF ee kf R2 KD
    go_wp2_with fail
    refine calls_name fun xg hxg => ?_
    have eg : Chg [] wf xg := by rw [hxg]; exact Chg.now
    clear hxg
    refine (S1.out _ eg).mono ?_
    rintro e wh Gh
    obtain ⟨Ah, caph, rfl, Nh⟩ := Gh.sl
    have Nh := Lib.hid Nh
    have KH := Lib.hid (eg.trans0 Nh.out.chg)
    clear Gh eg
    go_wp2_with fail
    refine (S2.out _ KH.out).mono ?_
    rintro e wi Gi
    obtain ⟨Ai, capi, rfl, Ni⟩ := Gi.sl
    have TX := Lib.hid (texts_same U _ _ wi (Nh.out.rd.chg0 Ni.chg (Nat.le_refl _) |>.mono Ni.chg.size) Ni.rd)
    have KI := Lib.hid (KF.out.trans0 (KH.out.trans0 Ni.chg))
    clear Gi Ni Nh
    go_wp2_with fail
    refine TX.out.mono ?_
    rintro e wj ⟨rfl, kj⟩
    have KJ := Lib.hid (DW.out.trans0 (KI.out.trans0 kj))
    clear kj KI
    go_wp2_with fail
    go_ret
    exact ⟨rfl, Chg.to KJ.out⟩
   case pos =>
    have hjs : j < s.length := by rw [← HN.out]; exact hj3
    have wj : IntKind.i64.wrap ((j : Int) + 1) = (j : Int) + 1 := by have := H3.out; exact wr_id (by omega) (by omega)
    have hCw := hA.out.chg
    have RSw := RS.out.chg0 hCw (Nat.le_refl _)
    obtain ⟨As, cs, e0, _, hms, hrow⟩ := slots_row RSw
    simp only [Value.slice.injEq] at e0
    obtain ⟨rfl, -, rfl⟩ := e0
    obtain ⟨b, off, u4, u6, rfl, hbl, q0, q1, q2, q3, q4, q5, q6, r4, r6⟩ := slots_cells hrow j hjs
    obtain ⟨B4, d4, rfl, _, _, _⟩ := cells_row r4
    obtain ⟨B6, d6, rfl, _, _, _⟩ := layers_row r6
    have hbl2 : b < wr.heap.size := Nat.lt_of_lt_of_le hbl hCw.size
    have hnext : ∀ R, R = rcpOf s[j] → L ++ [R] = (s.take (j + 1)).map rcpOf := fun R e => by
     rw [List.take_succ_eq_append_getElem hjs, List.map_append, ← hL.out, e]; rfl
    have HX := Lib.hid hnext
    have hfu : s[j].full = true ∨ s[j].full = false := by cases s[j].full <;> simp
    clear hrow RSw hnext
    rcases hfu with hfu | hfu
    case inr =>
     rw [hfu] at q0
     have HR : Hid ([] = rcpOf s[j]) := Lib.hid (by unfold rcpOf; rw [if_neg (by rw [hfu]; decide)])
     clear q1 q2 q3 q4 q5 q6 r4 r6 hfu hCw
     have hb3 : ∀ o, (wr.alloc (.cells #[] 9)).cell? ⟨b, o, none⟩ = wr.cell? ⟨b, o, none⟩ := fun o => World.cell?_alloc_lt _ _ _ hbl2
     have N3 : New wr (wr.alloc (.cells #[] 9)) (strs []) (.slice (some ⟨wr.heap.size, 0, none⟩) ([] : List ByteArray).length 0) := (App.empty wr 9 1 (Chg.refl _ _)).new
     have NT := Lib.hid (strs_new N3)
     have NW := Box.new (wr.alloc (.cells #[] 9)) #[.slice (some ⟨wr.heap.size, 0, none⟩) ([] : List ByteArray).length 0] 56
     rw [show (wr.alloc (.cells #[] 9)).heap.size = wr.heap.size + 1 by simp] at NW
     have NW := Lib.hid NW.c
     have HONE := Lib.hid (show ∀ u ∈ ([.slice (some ⟨wr.heap.size, 0, none⟩) ([] : List ByteArray).length 0] : List Value), u.oneCell' = true by intro u hu; simp at hu; subst hu; rfl)
     clear N3
     go_wp2_with (at_builtin; refine wpList_appT (T := []) rfl (.tmp 44) (.tmp 46) _ rfl 56 _ 1 24 Tryz.underlying55 strs2_info rfl (by omega) hA.out (by simp) NT.out rfl (wr.heap.size + 1) 1 1 rfl rfl NW.out HONE.out (by have := hLj.out; have := H3.out; omega) (by omega) ?_; intro A6 cap6 w6 hA6 hM6)
     go_roundw
     case rel => exact ⟨j + 1, L ++ [[]], A6, cap6, by first | rfl | go_num, by simp, Lib.hid (by rw [List.length_append, hLj.out]; rfl), by omega, Lib.hid (by simpa [List.flatMap_append] using hA6), Lib.hid (HX.out _ HR.out)⟩
     case measure => first | (simp [intOf]; omega) | (simp [intOf])
    case inl =>
     rw [hfu] at q0
     obtain ⟨R, hR⟩ : ∃ R, R = recipe s[j].part := ⟨_, rfl⟩
     have HR : Hid (R = rcpOf s[j]) := Lib.hid (by unfold rcpOf; rw [if_pos hfu]; exact hR)
     have hlen : s[j].part.layers.length ≤ 1048576 := by have := ((X.out.2.2.2 j hjs).1 hfu).2.1; omega
     have RO := Lib.hid (fun W (hc : Chg [] wr W) => recipeOf_impl_any s[j].part (.slice B4 s[j].part.core.cells.length d4) (.slice B6 s[j].part.layers.length d6) w1.heap.size W hlen (r6.chg0 hc hCw.size) (Nat.le_trans hCw.size hc.size))
     rw [← hR] at RO
     have hb3 : ∀ o, (wr.alloc (.cells #[] 9)).cell? ⟨b, o, none⟩ = wr.cell? ⟨b, o, none⟩ := fun o => World.cell?_alloc_lt _ _ _ hbl2
     clear r4 r6 hfu hCw hR hlen
     go_wp2_with fail
     refine calls_name fun x2 hx2 => ?_
     have e2 : Chg [] wr x2 := by rw [hx2]; exact Chg.now
     clear hx2
     refine (RO.out _ e2).mono ?_
     rintro e w5 G
     obtain ⟨A5, cap5, rfl, S5, g1, g2, g3⟩ := G.sl
     have N5 : New wr w5 (strs R) (.slice A5 R.length cap5) := ⟨S5, g1, fun y hy => Nat.le_trans e2.size (g2 y hy), e2.trans0 g3⟩
     have NT := Lib.hid (strs_new N5)
     have NW := Lib.hid (Box.new w5 #[.slice A5 R.length cap5] 56).c
     have HONE := Lib.hid (show ∀ u ∈ ([.slice A5 R.length cap5] : List Value), u.oneCell' = true by intro u hu; simp at hu; subst hu; rfl)
     clear N5 G g1 g2 g3 e2 q0 q1 q2 q3 q4 q5 q6 hb3
     go_wp2_with (at_builtin; refine wpList_appT (T := []) rfl (.tmp 44) (.tmp 46) _ rfl 56 _ 1 24 Tryz.underlying55 strs2_info rfl (by omega) hA.out (by simp) NT.out rfl w5.heap.size 1 1 rfl rfl NW.out HONE.out (by have := hLj.out; have := H3.out; omega) (by omega) ?_; intro A6 cap6 w6 hA6 hM6)
     go_roundw
     case rel => exact ⟨j + 1, L ++ [R], A6, cap6, by first | rfl | go_num, by simp, Lib.hid (by rw [List.length_append, hLj.out]; rfl), by omega, Lib.hid (by simpa [List.flatMap_append] using hA6), Lib.hid (HX.out _ HR.out)⟩
     case measure => first | (simp [intOf]; omega) | (simp [intOf])
end Go.Proofs.YtdlkbomojjmnlaaGreatDoor
