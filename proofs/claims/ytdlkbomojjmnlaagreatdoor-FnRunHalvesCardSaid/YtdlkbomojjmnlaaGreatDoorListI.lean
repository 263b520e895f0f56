/- one whatever the action, and list, of the program. Conditions: the library's variables stand. Written by a program. -/
import Derived.Test.YtdlkbomojjmnlaaGreatDoorOneI
import Derived.Test.YtdlkbomojjmnlaaGreatDoorIsActP
set_option maxRecDepth 100000
set_option maxHeartbeats 8000000
namespace Go.Proofs.YtdlkbomojjmnlaaGreatDoor
open Go.RowKit
theorem Chg.any2 {S : List Nat} {w W : World} (h : Chg S w W := by (repeat (first | (refine Hid.out ?_; with_reducible assumption) | with_reducible exact Chg.refl _ _ | with_reducible refine Chg.drew ?_ | with_reducible refine Chg.drewN ?_ _ | with_reducible refine Chg.alloc ?_ _ | with_reducible refine Chg.setCell ?_ (by first | (refine .inl ?_; simp; done) | (refine .inl ?_; assumption) | (refine .inl (List.mem_cons_of_mem _ ?_); assumption) | (refine .inl (List.mem_cons_of_mem _ (Hid.out ?_)); assumption) | (refine .inr ?_; simp <;> omega)) _)); done) : Chg S w W := h

/-- What a run leans on besides its own block. -/
structure Amb (B : Nat) (input : List Int) (vi : Value) (w : World) : Prop where
 env : EnvB B w
 le : B ≤ w.heap.size
 inp : Rd w B (ints input) vi
theorem Amb.keep {B : Nat} {input : List Int} {vi : Value} {w w' : World} {T : List Nat} (h : Amb B input vi w) (hc : Chg T w w') (hT : ∀ y, y ∈ T → B ≤ y) : Amb B input vi w' :=
 ⟨h.env.keep hc hT h.le, Nat.le_trans h.le hc.size, h.inp.chg hc h.le hT⟩
def ListC (m : List ActionT) : Prop := ∀ (ul : Value) (place : Int) (r gs cap : Nat) (vi : Value) (input : List Int) (l : List SlotT) (t : Int) (S : List Nat) (w : World) (B : Nat), okL m → actionsW m ≤ 1048576 → SlotsOk l → RB w r gs cap vi l t S → Rd w B (actions m) ul → Amb B input vi w → (∀ y, y ∈ r :: S → B ≤ y) → 0 ≤ place → place + sizeL m ≤ 1000 → 0 ≤ t → t + costL m ≤ 1000000 →
 Calls Tryz.prog 49 #[.pointer (some ⟨r, 0, none⟩), ul, .int .i64 place] w (RunD r gs cap vi (runL input m place ⟨l, t⟩).1.slots (runL input m place ⟨l, t⟩).1.taken (runL input m place ⟨l, t⟩).2 (decide ((runL input m place ⟨l, t⟩).2.code = 0)) S w)
theorem slot_small {s : SlotT} (h : SlotOk s) : SlotSmall s := by
 cases hf : s.full with
 | true => have := partOk_small (h.1 hf); exact ⟨this.2.1, this.1, this.2.2⟩
 | false => rw [SlotSmall, h.2 hf]; exact ⟨by simp [zeroPart], by simp [zeroPart], by simp [zeroPart]⟩
theorem one_any (a : ActionT) (hA : ListC a.A) (hB : ListC a.B) (uA uB : Value) (place : Int) (r gs cap : Nat) (vi : Value) (input : List Int) (l : List SlotT) (t : Int) (S : List Nat) (w : World) (B : Nat) (hok : a.ok) (hW : actionW a ≤ 1048575) (hs : SlotsOk l) (h : RB w r gs cap vi l t S)
  (rA : Rd w B (actions a.A) uA) (rB : Rd w B (actions a.B) uB) (hAm : Amb B input vi w) (hS : ∀ y, y ∈ r :: S → B ≤ y) (hp0 : 0 ≤ place) (hp1 : place + a.size ≤ 1000) (ht0 : 0 ≤ t) (ht1 : t + a.cost ≤ 1000000) :
  Calls Tryz.prog 82 #[.pointer (some ⟨r, 0, none⟩), .agg #[.int .i64 a.op, .int .i64 a.slot, .int .i64 a.other, .string a.word, .string a.call.method, .string a.call.key, .int .i64 a.call.value, .string a.call.text, .int .i64 a.face, uA, uB], .int .i64 place] w (RunD r gs cap vi (a.run input place ⟨l, t⟩).1.slots (a.run input place ⟨l, t⟩).1.taken (a.run input place ⟨l, t⟩).2 (decide ((a.run input place ⟨l, t⟩).2.code = 0)) S w) := by
 obtain ⟨hact, okA, okB⟩ := a.ok_iff.1 hok
 have hWe := actionW_eq a
 unfold callW at hWe
 have hck : a.call.key.size ≤ 1048576 := by omega
 have hct : a.call.text.size ≤ 1048575 := by omega
 have hwA : actionsW a.A ≤ 1048576 := by omega
 have hwB : actionsW a.B ≤ 1048576 := by omega
 have hsz := a.size_eq
 have hcost := a.cost_eq
 obtain ⟨n0, n2⟩ := actOk_slot hact
 obtain ⟨i, hi0⟩ : ∃ i, i = a.slot.toNat := ⟨_, rfl⟩
 have hsl : a.slot = (i : Int) := by omega
 have hi : i < l.length := by rw [hs.1]; omega
 have hat : slotAt l a.slot = l[i] := by unfold slotAt; rw [← hi0, List.getElem?_eq_getElem hi]; rfl
 have hso := hs.2 i hi
 have tk := takeN_le input t
 have NU : ∀ W, Chg [] w W → Calls Tryz.prog 131 #[.pointer (some ⟨r, 0, none⟩)] W (fun e w' => e = .returned (.int .i64 (takeN input t)) ∧ RB w' r gs cap vi l (t + 1) S ∧ Chg [r] W w') := fun W hc =>
  number_any r gs cap vi input l t S W B (h.keep0 hc) (hAm.keep hc (by simp)).inp ht0 (by omega)
 have PS : ∀ W, Chg (r :: S) w W → Calls Tryz.prog 16 #[uA] W (fun e w' => e = .returned (.int .i64 (sizeL a.A : Int)) ∧ Chg [] W w') := fun W hc =>
  planSize_impl_any a.A uA B W (by omega) (rA.chg hc hAm.le hS) (Nat.le_trans hAm.le hc.size)
 by_cases h8 : a.op = 8
 ·rw [run_8 h8]
  by_cases hodd : takeN input t % 2 = 1
  ·rw [if_pos hodd]
   exact one_ifA r gs cap vi l t S w a uA uB i place h hi hsl h8 _ tk.1 tk.2 hodd _ _ _ _ hp0 (by omega) NU (fun W hR hc => hA uA (place + 1) r gs cap vi input l (t + 1) S W B okA hwA hs hR (rA.chg hc hAm.le hS) (hAm.keep hc hS) hS (by omega) (by omega) (by omega) (by omega))
  ·rw [if_neg hodd]
   exact one_ifB r gs cap vi l t S w a uA uB i place h hi hsl h8 _ tk.1 tk.2 hodd _ _ _ _ hp0 (by omega) NU (sizeL a.A : Int) (by omega) (by omega) PS (fun W hR hc => hB uB (place + 1 + sizeL a.A) r gs cap vi input l (t + 1) S W B okB hwB hs hR (rB.chg hc hAm.le hS) (hAm.keep hc hS) hS (by omega) (by omega) (by omega) (by omega))
 by_cases h9 : a.op = 9
 ·rw [run_9 h9]
  have hn : ((takeN input t).toNat : Int) = takeN input t := Int.toNat_of_nonneg tk.1
  rw [← hn] at NU
  exact one_loop r gs cap vi l t S w a uA uB i place h hi hsl h9 (takeN input t).toNat (costL a.A) (by omega) (fun s => runL input a.A (place + 1) s) (fun s hs => runL_okEnd _ _ _ _ hs) (fun s => runL_taken _ _ _ _) SlotsOk hs (fun s hs => runL_ok _ _ okA _ _ hs) hp0 (by omega) NU
   (fun W l' t' S' hR hP h1 h2 hS' hc => hA uA (place + 1) r gs cap vi input l' t' S' W B okA hwA hP hR (rA.chg hc hAm.le hS) (hAm.keep hc hS) (fun y hy => by
    rcases List.mem_cons.1 hy with rfl | hy
    ·exact hS _ (by simp)
    ·rcases hS' y hy with hx | hx
     ·exact hS y (by simp [hx])
     ·have := hAm.le; omega) (by omega) (by omega) (by omega) (by omega))
 by_cases h10 : a.op = 10
 ·rw [run_10 h10]
  have LA : ∀ W, RB W r gs cap vi l t S → Chg (r :: S) w W → Calls Tryz.prog 49 #[.pointer (some ⟨r, 0, none⟩), uA, .int .i64 (place + 1)] W (RunD r gs cap vi (runL input a.A (place + 1) ⟨l, t⟩).1.slots (runL input a.A (place + 1) ⟨l, t⟩).1.taken (runL input a.A (place + 1) ⟨l, t⟩).2 (decide ((runL input a.A (place + 1) ⟨l, t⟩).2.code = 0)) S W) :=
   fun W hR hc => hA uA (place + 1) r gs cap vi input l t S W B okA hwA hs hR (rA.chg hc hAm.le hS) (hAm.keep hc hS) hS (by omega) (by omega) (by omega) (by omega)
  have htk := runL_taken input a.A (place + 1) ⟨l, t⟩
  have hs1 := runL_ok input a.A okA (place + 1) ⟨l, t⟩ hs
  simp only at htk
  by_cases hc1 : (runL input a.A (place + 1) ⟨l, t⟩).2.code = 1
  ·rw [if_pos hc1]
   exact one_try1 r gs cap vi l t S w a uA uB i place h hi hsl h10 _ _ _ _ hp0 (by omega) LA rfl hc1 _ _ _ _ (sizeL a.A : Int) (by omega) (by omega) PS
    (fun W S1 hR hS1 hc => hB uB (place + 1 + sizeL a.A) r gs cap vi input (runL input a.A (place + 1) ⟨l, t⟩).1.slots (runL input a.A (place + 1) ⟨l, t⟩).1.taken S1 W B okB hwB hs1 hR (rB.chg hc hAm.le hS) (hAm.keep hc hS) (fun y hy => by
     rcases List.mem_cons.1 hy with rfl | hy
     ·exact hS _ (by simp)
     ·rcases hS1 y hy with hx | hx
      ·exact hS y (by simp [hx])
      ·have := hAm.le; omega) (by omega) (by omega) (by omega) (by omega))
  ·rw [if_neg hc1]
   exact one_try0 r gs cap vi l t S w a uA uB i place h hi hsl h10 _ _ _ _ hp0 (by omega) LA hc1
 rw [run_s h8 h9 h10]
 by_cases h1 : a.op = 1
 ·rw [stepT_1 h1, ← hi0]
  exact one_make r gs cap vi l t S w a uA uB i place h hi hsl h1 ((actOk_1 h1).1 hact).2.1
 by_cases h5 : a.op = 5
 ·rw [stepT_5 h5, ← hi0]
  exact one_drop r gs cap vi l t S w a uA uB i place h hi hsl h5
 by_cases h4 : a.op = 4
 ·obtain ⟨_, ⟨m0, m2⟩, _⟩ := (actOk_4 h4).1 hact
  have hj : a.other.toNat < l.length := by rw [hs.1]; omega
  have hat2 : slotAt l a.other = l[a.other.toNat] := by unfold slotAt; rw [List.getElem?_eq_getElem hj]; rfl
  rw [stepT_4 h4, ← hi0, hat2]
  exact one_copy r gs cap vi l t S w a uA uB i place h hi hsl h4 a.other.toNat hj (by omega) (slot_small (hs.2 _ hj))
 have hop : a.op = 3 ∨ a.op = 2 ∨ a.op = 6 ∨ a.op = 7 := by have := actOk_op hact; omega
 by_cases hf : (slotAt l a.slot).full = false
 ·rw [stepT_e h1 h5 h4 hf]
  exact one_empty r gs cap vi l t S w a uA uB i place h hi hsl hop (by rw [← hat]; exact hf)
 have hft : l[i].full = true := by rw [← hat]; simpa using hf
 have hpo : PartOk l[i].part := hso.1 hft
 have WP : ∀ (l' : List SlotT) (en : EndT) (b : Bool), (∀ W, Chg [] w W → Calls Tryz.prog 132 #[.pointer (some ⟨r, 0, none⟩), .pointer (some ⟨gs, i * 7, none⟩), .agg #[.int .i64 a.op, .int .i64 a.slot, .int .i64 a.other, .string a.word, .string a.call.method, .string a.call.key, .int .i64 a.call.value, .string a.call.text, .int .i64 a.face, uA, uB], .int .i64 place] W (RunD r gs cap vi l' t en b S W)) →
   Calls Tryz.prog 82 #[.pointer (some ⟨r, 0, none⟩), .agg #[.int .i64 a.op, .int .i64 a.slot, .int .i64 a.other, .string a.word, .string a.call.method, .string a.call.key, .int .i64 a.call.value, .string a.call.text, .int .i64 a.face, uA, uB], .int .i64 place] w (RunD r gs cap vi l' t en b S w) := fun l' en b hw => one_with r gs cap vi l t S w a uA uB i place h hi hsl hop l' en b hft hw
 by_cases hc : (withT a (slotAt l a.slot).part).2.code = 1
 ·rw [stepT_f h1 h5 h4 hf hc]
  simp only [hat, ← hi0] at hc ⊢
  rcases hop with ho | ho | ho | ho
  ·rw [withT_3 ho] at hc; simp [repOf] at hc
  ·rw [withT_2 ho] at hc ⊢
   by_cases hn : 3 ≤ l[i].part.layers.length
   ·exfalso
    cases hx : layerOf a.word with
    | none => rw [wrapOf_none hx] at hc; simp [repOf] at hc
    | some x => rw [wrapOf_full hx hpo hn] at hc; simp [repOf] at hc
   ·exact WP _ _ _ (fun W hW => withPart_wrapNo r gs cap vi l t S W a uA uB i place (h.keep0 hW) hi hft hpo ho hn hc)
  ·rw [withT_6 ho] at hc ⊢
   by_cases hof : Offer (faceAt l[i].part l[i].part.layers.length) a.face
   ·rw [if_pos hof] at hc; simp [repOf] at hc
   ·rw [if_neg hof]
    have := set_same hi hft
    simp only [this]
    exact WP _ _ _ (fun W hW => withPart_askNo r gs cap vi l t S W a uA uB i place (h.keep0 hW) hi hft hpo ho hof)
  ·rw [withT_7 ho] at hc ⊢
   exact WP _ _ _ (fun W hW => withPart_callNo r gs cap vi l t S W a uA uB i place (h.keep0 hW) hi hft hpo ho hct hck (hAm.keep hW (by simp)).env.env hc)
 ·rw [stepT_g h1 h5 h4 hf hc]
  simp only [hat, ← hi0] at hc ⊢
  rcases hop with ho | ho | ho | ho
  ·rw [withT_3 ho]
   exact WP _ _ _ (fun W hW => withPart_unwrap r gs cap vi l t S W a uA uB i place (h.keep0 hW) hi hft hpo ho)
  ·rw [withT_2 ho] at hc ⊢
   by_cases hn : 3 ≤ l[i].part.layers.length
   ·have hk : layerOf a.word ≠ none := ((actOk_2 ho).1 hact).2.1
    obtain ⟨x, hx⟩ := Option.ne_none_iff_exists'.1 hk
    rw [wrapOf_full hx hpo hn]
    have := set_same hi hft
    simp only [this]
    exact WP _ _ _ (fun W hW => withPart_wrapFull r gs cap vi l t S W a uA uB i place (h.keep0 hW) hi hft hpo ho hn)
   ·exact WP _ _ _ (fun W hW => withPart_wrap r gs cap vi l t S W a uA uB i place (h.keep0 hW) hi hft hpo ho hn hc)
  ·rw [withT_6 ho]
   have := set_same hi hft
   simp only [this]
   by_cases hof : Offer (faceAt l[i].part l[i].part.layers.length) a.face
   ·exact WP _ _ _ (fun W hW => withPart_ask r gs cap vi l t S W a uA uB i place (h.keep0 hW) hi hft hpo ho hof)
   ·rw [withT_6 ho, if_neg hof] at hc; simp [repOf] at hc
  ·rw [withT_7 ho] at hc ⊢
   exact WP _ _ _ (fun W hW => withPart_call r gs cap vi l t S W a uA uB i place (h.keep0 hW) hi hft hpo ho hct hck (hAm.keep hW (by simp)).env.env hc)
theorem list_any : ∀ m, ListC m := by
 refine ActionT.ind fun m ih => ?_
 intro ul place r gs cap vi input l t S w B hok hW hs h rl hAm hS hp0 hp1 ht0 ht1
 obtain ⟨A, cp, rfl, h0, h1, hrow⟩ := actions_row rl
 unfold maxLen at h1
 have hml : m.length ≤ 1048576 := by unfold actionsW at hW; omega
 have hrl : r < w.heap.size := lt_of_cell h.c0
 have lt0 := Lib.hid h.lt
 have hgs0 := Lib.hid h.gs.1
 have hBw := Lib.hid hAm.le
 have hWk : ∀ (k : Nat) (hk : k < m.length), actionW m[k] ≤ 1048575 := fun k hk => by
  have h2 := actionsW_mem (List.getElem_mem hk)
  have h3 : 0 < m.length := by omega
  unfold actionsW at hW
  omega
 have ON := Lib.hid (fun (k : Nat) (hk : k < m.length) (uA uB : Value) (pl : Int) (l' : List SlotT) (t' : Int) (S' : List Nat) (W : World) (hs' : SlotsOk l') (hR : RB W r gs cap vi l' t' S') (rA : Rd W B (actions m[k].A) uA) (rB : Rd W B (actions m[k].B) uB) (hAm' : Amb B input vi W) (hS' : ∀ y, y ∈ r :: S' → B ≤ y) (hq0 : 0 ≤ pl) (hq1 : pl + m[k].size ≤ 1000) (hu0 : 0 ≤ t') (hu1 : t' + m[k].cost ≤ 1000000) =>
  one_any m[k] (ih m[k] (List.getElem_mem hk)).1 (ih m[k] (List.getElem_mem hk)).2 uA uB pl r gs cap vi input l' t' S' W B ((okL_iff m).1 hok _ (List.getElem_mem hk)) (hWk k hk) hs' hR rA rB hAm' hS' hq0 hq1 hu0 hu1)
 have SO := Lib.hid (fun (k : Nat) (place : Int) (s : RunT) (h : SlotsOk s.slots) => runL_ok input (m.take k) ((okL_iff _).2 (fun a ha => (okL_iff m).1 hok a (List.mem_of_mem_take ha))) place s h)
 have AM := Lib.hid hAm
 have HS := Lib.hid hS
 have S0 := Lib.hid hs
 have H := Lib.hid h
 have T01 := Lib.hid (And.intro ht0 ht1)
 have hp2 : place ≤ 1000 := by omega
 have PP := Lib.hid hp1
 obtain ⟨R, hR⟩ : ∃ R, R = runL input m place ⟨l, t⟩ := ⟨_, rfl⟩
 rw [← hR]
 have HR := Lib.hid hR
 clear ih hok hW hWk hs h rl hAm hS hp1 ht0 ht1 hR
 go_enter Tryz.func49, Tryz.ntmps49
 go_wp2_with fail
 go_loopw [2, 14] (fun p i wr => ∃ (k : Nat) (l' : List SlotT) (t' : Int) (S' : List Nat) (z : Int), k ≤ m.length ∧ i = .int .i64 k ∧ p = .int .i64 z ∧ 0 ≤ z ∧ z ≤ 1000 ∧ Hid (z = place + sizeL (m.take k)) ∧ Hid (runL input (m.take k) place ⟨l, t⟩ = (⟨l', t'⟩, okEnd)) ∧ Hid (RB wr r gs cap vi l' t' S') ∧ Hid (∀ y, y ∈ S' → y ∈ S ∨ w.heap.size + 1 ≤ y) ∧ Hid (Chg (r :: S) w wr) ∧ w.heap.size + 1 ≤ wr.heap.size ∧ Hid (∀ o, wr.cell? ⟨w.heap.size, o, none⟩ = (w.alloc (.cells #[.int .i64 0, .int .i64 0, .int .i64 0, .int .i64 0] 35)).cell? ⟨w.heap.size, o, none⟩) ∧ Hid (∀ o, wr.frozen? ⟨w.heap.size, o, none⟩ = (w.alloc (.cells #[.int .i64 0, .int .i64 0, .int .i64 0, .int .i64 0] 35)).frozen? ⟨w.heap.size, o, none⟩)) (fun _ i _ => m.length - (intOf i).toNat)
 case atStart => exact ⟨0, l, t, S, place, Nat.zero_le _, rfl, rfl, hp0, hp2, Lib.hid (by simp [sizeL]), Lib.hid (by rw [List.take_zero, runL]), Lib.hid (H.out.keep0 Chg.now), Lib.hid (fun y hy => .inl hy), Lib.hid (Chg.mono (S := []) Chg.now (by simp)), by simp, Lib.hid (fun o => rfl), Lib.hid (fun o => rfl)⟩
 case round =>
  obtain ⟨k, l', t', S', z, hk, rfl, rfl, hz0, hz1, HZ, HE, HB, HL, HD, hsz, yc, zc⟩ := hrel
  have yc2 := yc.out; have zc2 := zc.out
  clear yc zc
  have u0 : w.heap.size < wr.heap.size := by omega
  have uu : wr.heap.size < wr.heap.size + 1 := Nat.lt_succ_self _
  have HS' := Lib.hid (show ∀ y, y ∈ r :: S' → B ≤ y from fun y hy => by
   rcases List.mem_cons.1 hy with rfl | hy
   ·exact HS.out _ (by simp)
   ·rcases HL.out y hy with hx | hx
    ·exact HS.out y (by simp [hx])
    ·have := hBw.out; omega)
  have lt1 : Hid (∀ y, y ∈ r :: S' → y < wr.heap.size ∧ (y < w.heap.size ∨ w.heap.size + 1 ≤ y)) := Lib.hid (fun y hy => ⟨HB.out.lt y hy, by
   rcases List.mem_cons.1 hy with rfl | h
   ·omega
   ·rcases HL.out y h with h | h
    ·have := lt0.out y (by simp [h]); omega
    ·omega⟩)
  by_cases hlt : k < m.length
  ·have hlt2 : (k : Int) < (m.length : Int) := by omega
   obtain ⟨b, off, u9, u10, rfl, hb, q0, q1, q2, q3, q4, q5, q6, q7, q8, q9, q10, r9, r10⟩ := actions_cells (hrow.chg HD.out hBw.out HS.out) k hlt
   have hbw : b < wr.heap.size := by have := hBw.out; omega
   obtain ⟨X9, d9, rfl, _, _, _⟩ := actions_row r9
   obtain ⟨X10, d10, rfl, _, _, _⟩ := actions_row r10
   have e1 := sizeL_take m k hlt
   have e2 := sizeL_le m (k + 1)
   have e3 := m[k].size_eq
   have c1 := costL_take m k hlt
   have c2 := costL_take_le m (k + 1)
   have tk1 := runL_taken input (m.take k) place ⟨l, t⟩
   rw [HE.out] at tk1
   simp only at tk1
   have hzb : z + m[k].size ≤ 1000 := by have := HZ.out; have := PP.out; omega
   have hms : 1 + (sizeL m[k].A : Int) + (sizeL m[k].B : Int) ≤ 1000 := by omega
   have ON2 := Lib.hid (fun W (hR : RB W r gs cap vi l' t' S') (hc : Chg [] wr W) => ON.out k hlt (.slice X9 m[k].A.length d9) (.slice X10 m[k].B.length d10) z l' t' S' W (by have := SO.out k place ⟨l, t⟩ S0.out; rw [HE.out] at this; exact this) hR (r9.chg0 hc (by have := hBw.out; omega)) (r10.chg0 hc (by have := hBw.out; omega)) (AM.out.keep (HD.out.trans0 hc) HS.out) HS'.out hz0 hzb (by have := T01.out.1; omega) (by have := T01.out.2; omega))
   have PA := Lib.hid (fun W (hc : Chg [] wr W) => planSize_impl_any m[k].A (.slice X9 m[k].A.length d9) B W (by omega) (r9.chg0 hc (by have := hBw.out; omega)) (by have := hBw.out; have := hc.size; omega))
   have PBB := Lib.hid (fun W (hc : Chg [] wr W) => planSize_impl_any m[k].B (.slice X10 m[k].B.length d10) B W (by omega) (r10.chg0 hc (by have := hBw.out; omega)) (by have := hBw.out; have := hc.size; omega))
   have PA2 := Lib.hid (fun W (hc : Chg (r :: S') wr W) => planSize_impl_any m[k].A (.slice X9 m[k].A.length d9) B W (by omega) (r9.chg hc (by have := hBw.out; omega) HS'.out) (by have := hBw.out; have := hc.size; omega))
   have PB2 := Lib.hid (fun W (hc : Chg (r :: S') wr W) => planSize_impl_any m[k].B (.slice X10 m[k].B.length d10) B W (by omega) (r10.chg hc (by have := hBw.out; omega) HS'.out) (by have := hBw.out; have := hc.size; omega))
   have hmore := Lib.hid (runL_more1 input m k hlt place ⟨l, t⟩ (by rw [HE.out]; rfl))
   obtain ⟨q, hq⟩ : ∃ q, q = m[k].run input z ⟨l', t'⟩ := ⟨_, rfl⟩
   rw [← hq] at ON2
   have hq2 : Hid (runL input (m.take (k + 1)) place ⟨l, t⟩ = q) := Lib.hid (by rw [hmore.out, HE.out, hq, HZ.out])
   have E1 := Lib.hid (show sizeL (m.take (k + 1)) = sizeL (m.take k) + (1 + sizeL m[k].A + sizeL m[k].B) from by rw [e1, e3])
   have mA0 : (0 : Int) ≤ (sizeL m[k].A : Int) := by omega
   have mB0 : (0 : Int) ≤ (sizeL m[k].B : Int) := by omega
   obtain ⟨mA, hmA⟩ : ∃ mA : Int, mA = (sizeL m[k].A : Int) := ⟨_, rfl⟩
   obtain ⟨mB, hmB⟩ : ∃ mB : Int, mB = (sizeL m[k].B : Int) := ⟨_, rfl⟩
   rw [← hmA] at PA2 mA0 hms
   rw [← hmB] at PB2 mB0 hms
   have HMA := Lib.hid hmA
   have HMB := Lib.hid hmB
   have wa1 : IntKind.i64.wrap (1 + mA) = 1 + mA := wr_id (by omega) (by omega)
   have wa2 : IntKind.i64.wrap (1 + mA + mB) = 1 + mA + mB := wr_id (by omega) (by omega)
   have wa3 : IntKind.i64.wrap (z + (1 + mA + mB)) = z + (1 + mA + mB) := wr_id (by omega) (by omega)
   have hzz : Hid (z + (1 + mA + mB) ≤ 1000) := Lib.hid (by omega)
   clear hq e1 e2 e3 c1 c2 tk1 hzb PA PBB hmore hmA hmB r9 r10
   by_cases hc : q.2.code = 0
   ·have hd : decide (q.2.code = 0) = true := by simp [hc]
    rw [hd] at ON2
    have HC := Lib.hid hc
    clear hc hd
    go_wp2_with fail
    refine (ON2.out _ (HB.out.keep0 Chg.now) Chg.now).mono ?_
    rintro e w2 ⟨S2, rfl, rb2, hS2, c2⟩
    have s2 := c2.size
    have v2 : wr.heap.size + 1 ≤ w2.heap.size := by (try simp at s2) <;> omega
    have yc2 := c2.ce w.heap.size (hn := fun hx => by have := lt1.out _ hx; (try simp at this) <;> omega)
    have zc2 := c2.fe w.heap.size (hn := fun hx => by have := lt1.out _ hx; (try simp at this) <;> omega)
    have xc2 : w.heap.size < w2.heap.size := by omega
    have yn2 := c2.ce wr.heap.size (hn := fun hx => by have := lt1.out _ hx; (try simp at this) <;> omega)
    have zn2 := c2.fe wr.heap.size (hn := fun hx => by have := lt1.out _ hx; (try simp at this) <;> omega)
    have xn2 : wr.heap.size < w2.heap.size := by omega
    clear s2
    have lo2 : Hid (∀ y, y ∈ S2 → y ∈ S ∨ w.heap.size + 1 ≤ y) := Lib.hid (fun y hy => by rcases hS2 y hy with h | h; (exact HL.out y h); (exact .inr (by (try simp at h) <;> omega)))
    have D2 : Hid (Chg (r :: S) w w2) := Lib.hid (Chg.trans (S := r :: S) (Chg.to HD.out) c2 (fun x hx => by rcases List.mem_cons.1 hx with rfl | h; (exact .inl (by simp)); (exact (HL.out x h).imp (fun h => by simp [h]) (fun h => by omega))))
    have C2 : Hid (Chg (r :: S') wr w2) := Lib.hid (Chg.trans (S := r :: S') (Chg.mono (S := []) Chg.now (by simp)) c2 (fun x hx => .inl hx))
    have RB2 := Lib.hid rb2
    have n9 : w2.cell? ⟨wr.heap.size, 9, none⟩ = some (.slice X9 m[k].A.length d9) := (yn2 9).trans (by go_simp)
    have n10 : w2.cell? ⟨wr.heap.size, 10, none⟩ = some (.slice X10 m[k].B.length d10) := (yn2 10).trans (by go_simp)
    clear rb2 hS2 c2
    go_wp2_with fail
    go_region_held3 (fun w' => w'.cell? ⟨wr.heap.size, 9, none⟩ = some (.slice X9 m[k].A.length d9) ∧ w'.cell? ⟨wr.heap.size, 10, none⟩ = some (.slice X10 m[k].B.length d10)) (((refine ⟨?_, ?_⟩) <;> (first | (go_keep; done) | (go_simp; done) | (simp [*]; done)))) (first | (go_simp; go_at_call 16; (with_reducible refine (PA2.out _ Chg.any2).mono ?_); rintro e w3 ⟨rfl, c3⟩; (have s3 := c3.size); (have v3 : w2.heap.size + 1 ≤ w3.heap.size := by (try simp at s3) <;> omega); (have yc3 := c3.ce w.heap.size); (have zc3 := c3.fe w.heap.size); (have xc3 : w.heap.size < w3.heap.size := by omega); (have yn3 := c3.ce wr.heap.size); (have zn3 := c3.fe wr.heap.size); (have xn3 : wr.heap.size < w3.heap.size := by omega); (have xe3 : w2.heap.size < w3.heap.size := by omega); (have C3 : Hid (Chg (r :: S') wr w3) := Lib.hid (Chg.trans0 Chg.any2 c3)); (have D3 : Hid (Chg (r :: S) w w3) := Lib.hid (Chg.trans0 Chg.any2 c3)); (have RB3 : Hid (RB w3 r gs cap vi q.1.slots q.1.taken S2) := Lib.hid (RB.keep0 (by first | exact RB4.out.keep0 Chg.now | exact RB3.out.keep0 Chg.now | exact RB2.out.keep0 Chg.now) c3)); clear c3 s3; simp only []) | (go_simp; go_at_call 16; (with_reducible refine (PB2.out _ Chg.any2).mono ?_); rintro e w4 ⟨rfl, c4⟩; (have s4 := c4.size); (have v4 : w2.heap.size + 1 ≤ w4.heap.size := by (try simp at s4) <;> omega); (have yc4 := c4.ce w.heap.size); (have zc4 := c4.fe w.heap.size); (have xc4 : w.heap.size < w4.heap.size := by omega); (have yn4 := c4.ce wr.heap.size); (have zn4 := c4.fe wr.heap.size); (have xn4 : wr.heap.size < w4.heap.size := by omega); (have xe4 : w2.heap.size < w4.heap.size := by omega); (have C4 : Hid (Chg (r :: S') wr w4) := Lib.hid (Chg.trans0 Chg.any2 c4)); (have D4 : Hid (Chg (r :: S) w w4) := Lib.hid (Chg.trans0 Chg.any2 c4)); (have RB4 : Hid (RB w4 r gs cap vi q.1.slots q.1.taken S2) := Lib.hid (RB.keep0 (by first | exact RB4.out.keep0 Chg.now | exact RB3.out.keep0 Chg.now | exact RB2.out.keep0 Chg.now) c4)); clear c4 s4; simp only []) | fail)
    all_goals
     go_wp2_with fail
     go_roundw
     case rel => exact ⟨k + 1, q.1.slots, q.1.taken, S2, z + (1 + mA + mB), by omega, by go_num, rfl, by omega, hzz.out, Lib.hid (by rw [HZ.out, E1.out, HMA.out, HMB.out]; omega), Lib.hid (by rw [hq2.out]; exact Prod.ext rfl (by have h5 := runL_okEnd input (m.take (k + 1)) place ⟨l, t⟩; rw [hq2.out] at h5; exact h5 HC.out)), Lib.hid (by first | exact RB4.out.keep0 Chg.now | exact RB3.out.keep0 Chg.now | exact RB2.out.keep0 Chg.now), lo2, Lib.hid Chg.any2, by (try simp) <;> omega, Lib.hid (fun o => by go_simp), Lib.hid (fun o => by go_simp)⟩
     case measure => simp [intOf]; omega
   ·have hd : decide (q.2.code = 0) = false := by simp [hc]
    rw [hd] at ON2
    have HC := Lib.hid hc
    clear hc hd
    go_wp2_with fail
    refine (ON2.out _ (HB.out.keep0 Chg.now) Chg.now).mono ?_
    rintro e w2 ⟨S2, rfl, rb2, hS2, c2⟩
    have s2 := c2.size
    have v2 : wr.heap.size + 1 ≤ w2.heap.size := by (try simp at s2) <;> omega
    have yc2 := c2.ce w.heap.size (hn := fun hx => by have := lt1.out _ hx; (try simp at this) <;> omega)
    have zc2 := c2.fe w.heap.size (hn := fun hx => by have := lt1.out _ hx; (try simp at this) <;> omega)
    have xc2 : w.heap.size < w2.heap.size := by omega
    have yn2 := c2.ce wr.heap.size (hn := fun hx => by have := lt1.out _ hx; (try simp at this) <;> omega)
    have zn2 := c2.fe wr.heap.size (hn := fun hx => by have := lt1.out _ hx; (try simp at this) <;> omega)
    have xn2 : wr.heap.size < w2.heap.size := by omega
    clear s2
    have lo2 : Hid (∀ y, y ∈ S2 → y ∈ S ∨ w.heap.size + 1 ≤ y) := Lib.hid (fun y hy => by rcases hS2 y hy with h | h; (exact HL.out y h); (exact .inr (by (try simp at h) <;> omega)))
    have D2 : Hid (Chg (r :: S) w w2) := Lib.hid (Chg.trans (S := r :: S) (Chg.to HD.out) c2 (fun x hx => by rcases List.mem_cons.1 hx with rfl | h; (exact .inl (by simp)); (exact (HL.out x h).imp (fun h => by simp [h]) (fun h => by omega))))
    have C2 : Hid (Chg (r :: S') wr w2) := Lib.hid (Chg.trans (S := r :: S') (Chg.mono (S := []) Chg.now (by simp)) c2 (fun x hx => .inl hx))
    have RB2 := Lib.hid rb2
    have n9 : w2.cell? ⟨wr.heap.size, 9, none⟩ = some (.slice X9 m[k].A.length d9) := (yn2 9).trans (by go_simp)
    have n10 : w2.cell? ⟨wr.heap.size, 10, none⟩ = some (.slice X10 m[k].B.length d10) := (yn2 10).trans (by go_simp)
    clear rb2 hS2 c2
    go_wp2_with fail
    have hRq : R = q := by rw [HR.out]; have h5 := runL_stop input m (k + 1) place ⟨l, t⟩; rw [hq2.out] at h5; exact h5 HC.out
    refine bodyPost_ret (v := .tuple #[.agg #[.int .i64 q.2.code, .int .i64 q.2.place, .int .i64 q.2.want, .int .i64 q.2.had], .bool false]) (by simp only [results, Tryz.results49]; go_simp) rfl ?_
    rw [hRq]
    have hd2 : decide (q.2.code = 0) = false := decide_eq_false HC.out
    rw [hd2]
    have hgs := hgs0.out
    exact ⟨S2, rfl, RB2.out.keep (T := [w.heap.size]) Chg.now (by have := lt0.out r (by simp); simp; omega) (fun y hy => by rcases lo2.out y hy with h | h; (have := lt0.out y (by simp [h]); simp; omega); (simp; omega)), fun y hy => (lo2.out y hy).imp id (fun h => by omega), (Chg.to D2.out)⟩
  ·obtain rfl : k = m.length := by omega
   have hRq : R = (⟨l', t'⟩, okEnd) := by rw [HR.out, ← HE.out, List.take_length]
   go_wp2_with fail
   refine bodyPost_ret (v := .tuple #[.agg #[.int .i64 0, .int .i64 0, .int .i64 0, .int .i64 0], .bool true]) (by simp only [results, Tryz.results49]; go_simp) rfl ?_
   rw [hRq]
   have hgs := hgs0.out
   exact ⟨S', rfl, HB.out.keep (T := [w.heap.size]) Chg.now (by have := lt0.out r (by simp); simp; omega) (fun y hy => by rcases HL.out y hy with h | h; (have := lt0.out y (by simp [h]); simp; omega); (simp; omega)), fun y hy => (HL.out y hy).imp id (fun h => by omega), (Chg.to HD.out)⟩
end Go.Proofs.YtdlkbomojjmnlaaGreatDoor
