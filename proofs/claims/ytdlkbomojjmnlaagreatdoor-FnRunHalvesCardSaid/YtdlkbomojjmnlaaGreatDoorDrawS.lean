/- DrawStart of the reference: a valid plan, an input and valid slots, drawn. Conditions: at most 5000 bytes, which read as bytes. Written by a program. -/
import Derived.Test.YtdlkbomojjmnlaaGreatDoorDraw7
import Derived.Test.YtdlkbomojjmnlaaGreatDoorDraw6
import Derived.Test.YtdlkbomojjmnlaaGreatDoorDrawR
import Derived.Test.YtdlkbomojjmnlaaGreatDoorMakes
import Derived.Test.YtdlkbomojjmnlaaGreatDoorRunsP
import Derived.Test.YtdlkbomojjmnlaaGreatDoorPlains
set_option maxRecDepth 100000
set_option maxHeartbeats 8000000
namespace Go.Proofs.YtdlkbomojjmnlaaGreatDoor
open Go.RowKit

theorem makeOf_ok {l : List ByteArray} (h : (makeOf l).2.code = 0) : PartOk (makeOf l).1 := by
 cases l with
 | nil => exact absurd h (by decide)
 | cons k r =>
  cases hk : kindOf k with
  | none => rw [makeOf_none hk] at h; exact absurd h (by decide)
  | some f =>
   rw [makeOf_some hk] at h ⊢
   exact (makeFold_ok r _ (newPart_ok (by rw [hk]; simp)) h).1
theorem fill_drawn {L : List (List ByteArray)} (h3 : L.length = 3) (h : ∀ l ∈ L, l.length ≤ 5 ∧ (l = [] ∨ RcpOk l)) : FillOk L ∧ SlotsOk (fillSl L) := by
 have hat : ∀ l ∈ L, ∃ y, slotOf l = some y ∧ SlotOk y := by
  intro l hl
  rcases (h l hl).2 with rfl | ⟨hne, hc⟩
  ·exact ⟨_, rfl, slotOk_off rfl rfl⟩
  ·cases l with
   | nil => exact absurd rfl hne
   | cons k r => exact ⟨⟨true, (makeOf (k :: r)).1⟩, if_pos hc, slotOk_on rfl (makeOf_ok hc)⟩
 refine ⟨⟨h3, fun l hl => ?_⟩, ⟨by simp [fillSl, h3], fun k hk => ?_⟩⟩
 ·obtain ⟨y, e, _⟩ := hat l hl
  rw [e]; rfl
 ·have hk2 : k < L.length := by simpa [fillSl] using hk
  obtain ⟨y, e, hy⟩ := hat L[k] (List.getElem_mem hk2)
  have : (fillSl L)[k] = y := by simp [fillSl, e]
  rw [this]; exact hy
/-- A plan, an input and slots, drawn. -/
def DrStart (w : World) (e : Ending) (w' : World) : Prop := ∃ (p : List ActionT) (A1 : Option Addr) (c1 : Nat) (l : List Int) (A2 : Option Addr) (c2 : Nat) (s : List SlotT) (A3 : Option Addr) (c3 : Nat),
 e = .returned (.tuple #[.slice A1 p.length c1, .slice A2 l.length c2, .slice A3 s.length c3]) ∧ PlanOk p ∧ actionsW p ≤ 26000 ∧ l.length ≤ 10 ∧ SlotsOk s ∧ Rd w' w'.heap.size (actions p) (.slice A1 p.length c1) ∧ Rd w' w'.heap.size (ints l) (.slice A2 l.length c2) ∧ Rd w' w'.heap.size (slots s) (.slice A3 s.length c3) ∧ Chg [] w w'
theorem drawStart_any (A : Option Addr) (n cap : Nat) (w : World) (hn : n ≤ 5000) (hb : BytesAt w w.heap.size A n) :
  Calls Tryz.prog 10 #[.slice A n cap] w (DrStart w) := by
 have NE := Lib.hid (l1New_any A n cap w hn hb)
 clear hb
 go_enter Tryz.func10, Tryz.ntmps10
 go_wp2_with fail
 refine NE.out.mono ?_
 rintro e w1 ⟨k, rfl, hk0, q1, c1⟩
 have C1 := Lib.hid c1
 have DR := Lib.hid (l8Draw_any k w1 q1)
 have ON := Lib.hid (fun n W (hc : Cur W k) => l1Once_any k n W hc)
 have DQ := Lib.hid (fun W (hc : Cur W k) => l4Draw_any k W hc)
 have q1k := q1.lt
 clear NE c1 q1
 go_wp2_with fail
 refine DR.out.mono ?_
 rintro e w2 ⟨p, A1, cap1, rfl, hAp, hok, hW, _, q2⟩
 have NP := Lib.hid hAp.new
 have IN := Lib.hid (l8Input_any k w2 q2)
 have HOK := Lib.hid (show PlanOk p ∧ actionsW p ≤ 26000 from ⟨hok, hW⟩)
 have s2 := hAp.chg.size
 clear hAp q2 DR hok hW
 go_wp2_with fail
 refine IN.out.mono ?_
 rintro e w3 ⟨l, A2, cap2, rfl, N3, hl, q3⟩
 have NI := Lib.hid N3
 have RC := Lib.hid (l8Recipes_any k w3 q3)
 have s3 := N3.chg.size
 clear N3 q3 IN
 go_wp2_with fail
 refine RC.out.mono ?_
 rintro e w4 ⟨L, AL, capL, rfl, N4, hL3, hLok, q4⟩
 obtain ⟨hf, hsok⟩ := fill_drawn hL3 hLok
 have FS := Lib.hid (fillSlots_spec_any L _ w4.heap.size w4 (by omega) (fun x hx => by have := (hLok x hx).1; omega) N4.rd (Nat.le_refl _))
 rw [fillRes_ok hf] at FS
 obtain ⟨s0, hs0⟩ : ∃ s0, s0 = fillSl L := ⟨_, rfl⟩
 rw [← hs0] at FS hsok
 have HS0 := Lib.hid hsok
 have C4 := Lib.hid N4.chg
 have s4 := N4.chg.size
 clear N4 RC hLok hf hs0 hsok hL3
 go_wp2_with fail
 refine FS.out.mono ?_
 rintro e w5 ⟨A3, cap3, rfl, S3, H3, lo3, c5⟩
 have h3 : s0.length = 3 := HS0.out.1
 have H3b : Has w5 (slots s0) (.slice A3 s0.length cap3) S3 := H3
 unfold slots at H3
 obtain ⟨g, rfl, hg⟩ := H3.own (by show 0 < s0.length; omega)
 simp only [h3] at H3b ⊢
 have q5 := q4.keep0 c5
 have hgl := lo3 g hg
 have hkg : k ≠ g := by omega
 have X5 := Lib.hid (show Has w5 (slots s0) (.slice (some ⟨g, 0, none⟩) 3 cap3) S3 ∧ (∀ y, y ∈ S3 → w4.heap.size ≤ y) from ⟨H3b, lo3⟩)
 have C5 := Lib.hid c5
 have s5 := c5.size
 clear H3 H3b lo3 c5 q4 FS hg h3
 go_wp2_with fail
 go_loopw [25] (fun i wr => ∃ (j : Nat), i = .int .i64 (j : Int) ∧ j ≤ 3 ∧ Hid (∃ (s : List SlotT) (S : List Nat), SlotsOk s ∧ Has wr (slots s) (.slice (some ⟨g, 0, none⟩) 3 cap3) S ∧ (∀ y, y ∈ S → w4.heap.size ≤ y)) ∧ Cur wr k ∧ Hid (Chg [k, g] w5 wr)) (fun i _ => 3 - (intOf i).toNat)
 case atStart => exact ⟨0, rfl, by omega, Lib.hid ⟨s0, S3, HS0.out, X5.out.1, X5.out.2⟩, q5, Lib.hid (Chg.refl _ _)⟩
 case round =>
  obtain ⟨j, rfl, hj, hX, hq, hD⟩ := hrel
  obtain ⟨s, S, hsok, hH, hlo⟩ := hX.out
  by_cases hj3 : j < 3
  case neg =>
   have hj3i : ¬ (j : Int) < 3 := by omega
   have HH := Lib.hid (show SlotsOk s ∧ Has wr (slots s) (.slice (some ⟨g, 0, none⟩) 3 cap3) S ∧ (∀ y, y ∈ S → w4.heap.size ≤ y) from ⟨hsok, hH, hlo⟩)
   clear hsok hH hlo hX
   go_wp2_with fail
   refine bodyPost_ret (v := .tuple #[.slice A1 p.length cap1, .slice A2 l.length cap2, .slice (some ⟨g, 0, none⟩) 3 cap3]) (by simp only [results, Tryz.results10]; go_simp) rfl ?_
   obtain ⟨S1, p1, p2, p3⟩ := NP.out
   obtain ⟨S2, i1, i2, i3⟩ := NI.out
   have hlt1 := p1.lt
   have hlt2 := i1.lt
   have c25 : Chg [k, g] w2 wr := ((i3.trans C4.out (fun _ h => .inl h)).trans0 C5.out |>.mono (T := [k, g]) (fun y hy => .inl (by simp at hy; simp [hy]))).trans hD.out (fun _ h => .inl h)
   have c35 : Chg [k, g] w3 wr := (C4.out.trans0 C5.out |>.mono (T := [k, g]) (fun y hy => .inl (by simp at hy; simp [hy]))).trans hD.out (fun _ h => .inl h)
   have h3 : s.length = 3 := HH.out.1.1
   refine ⟨p, A1, cap1, l, A2, cap2, s, some ⟨g, 0, none⟩, cap3, by rw [h3], HOK.out.1, HOK.out.2, hl, HH.out.1, (p1.keep c25 (fun y hy e => ?_)).rd, (i1.keep c35 (fun y hy e => ?_)).rd, by rw [h3]; exact HH.out.2.1.rd, ?_⟩
   ·have := p2 y hy; have := hlt1 y hy; simp at e; omega
   ·have := i2 y hy; have := hlt2 y hy; simp at e; omega
   ·exact ((C1.out.mono (T := [k]) (by simp)).trans p3 (fun _ h => .inl h) |>.mono (T := [k, g]) (fun y hy => .inl (by simp at hy; simp [hy]))).trans c25 (fun _ h => .inl h) |>.mono (fun y hy => .inr (by have := C1.out.size; simp at hy; omega))
  case pos =>
   have hj3i : (j : Int) < 3 := by omega
   have wj : IntKind.i64.wrap ((j : Int) + 1) = (j : Int) + 1 := wr_id (by omega) (by omega)
   have hsl := hsok.1
   have hjs : j < s.length := by omega
   obtain ⟨B3, d3, B5, d5, f0, f1, f2, f3, f4, f5, f6, -, -, hf, hgw⟩ := hH.slotAt hsl hj3 hjs
   have HH := Lib.hid (show SlotsOk s ∧ Has wr (slots s) (.slice (some ⟨g, 0, none⟩) 3 cap3) S ∧ (∀ y, y ∈ S → w4.heap.size ≤ y) from ⟨hsok, hH, hlo⟩)
   have KEEP := Lib.hid (fun W (c : Chg [k] wr W) => (show Has W (slots s) (.slice (some ⟨g, 0, none⟩) 3 cap3) S from hH.keep c (fun y hy e => by have := hlo y hy; simp at e; omega)))
   have hfu : s[j].full = true ∨ s[j].full = false := by cases s[j].full <;> simp
   clear hsok hH hlo hX
   rcases hfu with hfu | hfu
   case inr =>
    rw [hfu] at f0
    clear hf f1 f2 f3 f4 f5 f6
    go_wp2_with fail
    go_roundw
    case rel => exact ⟨j + 1, by first | rfl | go_num, by omega, Lib.hid ⟨s, S, HH.out⟩, hq, hD⟩
    case measure => first | (simp [intOf]; omega) | (simp [intOf])
   case inl =>
    rw [hfu] at f0
    have HFU := Lib.hid hfu
    clear hf f1 f2 f3 f4 f5 f6 hfu
    go_wp2_with fail
    refine (ON.out 2 _ hq).mono ?_
    rintro e w6 ⟨t, rfl, q6, c6⟩
    have C6 := Lib.hid c6
    have D6 := Lib.hid (hD.out.trans c6 (fun y hy => .inl (by simp at hy; simp [hy])))
    clear c6 f0
    cases t
    case false =>
     go_wp2_with fail
     go_roundw
     case rel => exact ⟨j + 1, by first | rfl | go_num, by omega, Lib.hid ⟨s, S, HH.out.1, KEEP.out _ C6.out, HH.out.2.2⟩, q6, D6⟩
     case measure => first | (simp [intOf]; omega) | (simp [intOf])
    case true =>
     go_wp2_with fail
     refine (DQ.out _ q6).mono ?_
     rintro e w7 ⟨q, E3, e3, E5, e5, T, rfl, P, q7, c7⟩
     have H7 := KEEP.out _ (C6.out.trans c7 (fun y hy => .inl hy))
     obtain ⟨B3, d3, B5, d5, f0, f1, f2, f3, f4, f5, f6, -, -, hf, hgw7⟩ := H7.slotAt hsl hj3 hjs
     have z1 := hf 1 (by omega)
     have z2 := hf 2 (by omega)
     have z3 := hf 3 (by omega)
     have z4 := hf 4 (by omega)
     have z5 := hf 5 (by omega)
     have z6 := hf 6 (by omega)
     have hlt := HH.out.2.1.lt
     have s6 := C6.out.size
     obtain ⟨S', k1, k2, k3, k4⟩ := H7.slotPart hsl hj3 P.has (fun y hy hyS => by have := P.new y hy; have := hlt y hyS; omega) hjs
     have K := Lib.hid (show Has _ (slots (s.set j ⟨s[j].full, q⟩)) _ S' ∧ (∀ y, y ∈ S' → w4.heap.size ≤ y) ∧ SlotsOk (s.set j ⟨s[j].full, q⟩) from ⟨k1, fun y hy => (k2 y hy).elim (HH.out.2.2 y) (fun h => by have := P.new y h; have := hD.out.size; omega), slotsOk_set HH.out.1 (slotOk_on HFU.out P.ok)⟩)
     have D7 := Lib.hid (D6.out.trans c7 (fun y hy => .inl (by simp at hy; simp [hy])))
     have hk7 := q7.lt
     have Q7 := Lib.hid (q7.keep k4 (by simp; omega))
     have K4 := Lib.hid k4
     clear k1 k2 k3 k4 H7 hf f0 P c7
     go_wp2_with fail
     go_roundw
     case rel => exact ⟨j + 1, by first | rfl | go_num, by omega, Lib.hid ⟨_, S', K.out.2.2, K.out.1, K.out.2.1⟩, Q7.out, Lib.hid (D7.out.trans K4.out (fun y hy => .inl (by simp at hy; simp [hy])))⟩
     case measure => first | (simp [intOf]; omega) | (simp [intOf])
end Go.Proofs.YtdlkbomojjmnlaaGreatDoor
