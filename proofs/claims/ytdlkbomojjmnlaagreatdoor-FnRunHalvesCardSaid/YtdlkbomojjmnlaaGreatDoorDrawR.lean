/- Recipes, drawn: l4Recipe, l6Recipe, l8Recipes of the reference. Conditions: none. Written by a program. -/
import Derived.Test.YtdlkbomojjmnlaaGreatDoorDraw6
import Derived.Test.YtdlkbomojjmnlaaGreatDoorMakes
import Derived.Test.YtdlkbomojjmnlaaGreatDoorApps
set_option maxRecDepth 100000
set_option maxHeartbeats 8000000
namespace Go.Proofs.YtdlkbomojjmnlaaGreatDoor
open Go.RowKit

/-- A slice of plain cells, written as it stands. -/
theorem AppT.lit {T : List Nat} (w0 : World) (e : TypeId) {w : World} (h : Chg T w0 w) (cs : Array Value) (n : Nat) (hn : cs.size = n * 1) (hm : n ≤ maxLen) : AppT T w0 (w.alloc (.cells cs e)) e 1 (.slice (some ⟨w.heap.size, 0, none⟩) n n) n (cs.toList.map Dat.v) := by
 have own : ∀ us : List Value, OwnL (w.alloc (.cells cs e)) (us.map Dat.v) us [] := fun us => by
  induction us with
  | nil => rw [List.map_nil, OwnL]; exact ⟨rfl, rfl⟩
  | cons u us ih => rw [List.map_cons, OwnL]; exact ⟨u, us, [], [], rfl, rfl, by rw [Own]; exact ⟨rfl, rfl⟩, ih⟩
 refine ⟨cs.toList, [], ⟨by simpa using hn, .inr ⟨w.heap.size, n, cs, rfl, h.size, by show (w.heap.push _)[_]? = _; rw [Array.getElem?_push]; simp, Nat.le_refl _, hm, hn, ?_⟩⟩, own _, List.nodup_nil, by simp, by simp, h.alloc _⟩
 rw [List.take_of_length_le]
 simp [hn]
theorem strs2_info : (Tryz.prog.info? 56).map (fun i => (i.zero, i.size, i.bytes)) = some (some (.slice none 0 0), 1, 24) := by kernel_rfl
theorem str_one {k : Nat} (w : World) (x : ByteArray) : NewT [k] w (w.alloc (.cells #[.string x] 9)) (strC x) [.string x] := ⟨[], HasL.cons_v (HasL.nil _), by simp, (Chg.refl _ _).alloc _⟩
theorem faceRes_code {l : List ByteArray} (h : (faceRes l).2 = true) : (makeOf l).2.code = 0 := by
 unfold faceRes at h
 split at h
 ·assumption
 ·cases h
/-- A recipe that can be made. -/
def RcpOk (l : List ByteArray) : Prop := l ≠ [] ∧ (makeOf l).2.code = 0
theorem makeOf_one {s : ByteArray} {f : Int} (h : kindOf s = some f) : (makeOf [s]).2.code = 0 := by
 rw [makeOf_some h]
 rfl
theorem rcp_one {s : ByteArray} (h : s ∈ ([⟨#[114, 111, 98, 111, 116]⟩, ⟨#[118, 97, 117, 108, 116]⟩, ⟨#[100, 114, 97, 119, 101, 114]⟩] : List ByteArray)) : RcpOk [s] := by
 refine ⟨by simp, ?_⟩
 have hk : ∃ f, kindOf s = some f := by
  simp only [List.mem_cons, List.not_mem_nil, or_false] at h
  rcases h with rfl | rfl | rfl
  ·exact ⟨63, by unfold kindOf; rw [ByteArray.toList_eq]; rfl⟩
  ·exact ⟨19, by unfold kindOf; rw [ByteArray.toList_eq]; rfl⟩
  ·exact ⟨3, by unfold kindOf; rw [ByteArray.toList_eq]; rfl⟩
 obtain ⟨f, hf⟩ := hk
 exact makeOf_one hf
/-- A list of texts, drawn. -/
def DrStrs (k most : Nat) (Q : List ByteArray → Prop) (w : World) (e : Ending) (w' : World) : Prop := ∃ (l : List ByteArray) (A : Option Addr) (cap : Nat), e = .returned (.slice A l.length cap) ∧ NewS [k] w w' (strs l) (.slice A l.length cap) ∧ l.length ≤ most ∧ Q l ∧ Cur w' k
theorem l4Recipe_any (k : Nat) (w : World) (hcur : Cur w k) :
  Calls Tryz.prog 108 #[.pointer (some ⟨k, 0, none⟩)] w (DrStrs k 5 (fun l => l ≠ []) w) := by
 have hk := hcur.lt
 have KI := Lib.hid (l3Kind_any k w hcur)
 have BL := Lib.hid (fun n W (hc : Cur W k) => l1Below_any k n W hc)
 have FI := Lib.hid (fun f W (hc : Cur W k) => l4Fitting_any k f W hc)
 have hT : Hid (∀ x ∈ [k], x < w.heap.size) := Lib.hid (by simpa using hk)
 go_enter Tryz.func108, Tryz.ntmps108
 go_wp2_with fail
 refine KI.out.mono ?_
 rintro e w1 ⟨s, rfl, hs, q1, c1⟩
 have hA1 := Lib.hid (AppT.lit (T := [k]) w 9 c1 #[.string s] 1 rfl (by unfold maxLen; omega))
 clear hs c1
 go_wp2_with fail
 refine (BL.out 4 _ (q1.keep0 ((Chg.refl _ _).alloc _))).mono ?_
 rintro e w2 ⟨r, rfl, ⟨r0, r1⟩, q2, c2⟩
 have r1 := r1 (by omega)
 obtain ⟨n, rfl⟩ : ∃ n : Nat, r = (n : Int) := ⟨r.toNat, by omega⟩
 have nm : 1 + n ≤ 4 := by omega
 have hA2 := Lib.hid (hA1.out.later c2 hT.out)
 clear r0 r1 c2 hA1 KI
 go_wp2_with fail
 go_loopw [3, 4] (fun v n wr => ∃ (j : Nat) (l : List ByteArray) (A : Option Addr) (cap : Nat), n = .int .i64 (j : Int) ∧ v = .slice A l.length cap ∧ l.length + j ≤ 4 ∧ 1 ≤ l.length ∧ Hid (AppT [k] w wr 9 1 (.slice A l.length cap) l.length (l.flatMap strC)) ∧ Cur wr k) (fun _ n _ => (intOf n).toNat)
 case atStart => exact ⟨n, [s], _, _, rfl, rfl, by simpa using nm, by simp, Lib.hid (by have := hA2.out; simpa [strC] using this), q2⟩
 case round =>
  obtain ⟨j, l, A, cap, rfl, rfl, hlj, hl1, hA, hq⟩ := hrel
  by_cases hj : 0 < j
  case neg =>
   obtain rfl : j = 0 := by omega
   go_wp2_with fail
   go_ret
   exact ⟨l, A, cap, rfl, hA.out.new, by omega, fun h => by subst h; simp at hl1, hq⟩
  case pos =>
   obtain ⟨j, rfl⟩ : ∃ m, j = m + 1 := ⟨j - 1, by omega⟩
   have hj0 : (0 : Int) < ((j + 1 : Nat) : Int) := by omega
   have wj : IntKind.i64.wrap (((j + 1 : Nat) : Int) - 1) = (j : Int) := by rw [wr_id (by omega) (by omega)]; omega
   have RF := Lib.hid (recipeFace_spec_any l _ _ wr (show Rd wr wr.heap.size (strs l) _ from hA.out.new.rd) (Nat.le_refl _) (by omega))
   go_wp2_with fail
   refine RF.out.mono ?_
   rintro e w3 ⟨rfl, c3⟩
   have q3 := hq.keep0 c3
   have hA3 := Lib.hid (hA.out.later (c3.mono (by simp)) hT.out)
   obtain ⟨f, hf⟩ : ∃ f, f = (faceRes l).1 := ⟨_, rfl⟩
   obtain ⟨ok, hok⟩ : ∃ ok, ok = (faceRes l).2 := ⟨_, rfl⟩
   rw [← hf, ← hok]
   clear hf hok c3 RF hA hq
   go_wp2_with fail
   refine (FI.out f _ q3).mono ?_
   rintro e w4 ⟨x, rfl, hx, q4, c4⟩
   have hA4 := Lib.hid (hA3.out.later c4 hT.out)
   have NT := Lib.hid (str_one (k := k) w4 x)
   have NW := Lib.hid ((Box.new w4 #[.string x] 9).c)
   have HONE := Lib.hid (show ∀ u ∈ ([.string x] : List Value), u.oneCell' = true by intro u hu; simp at hu; subst hu; rfl)
   clear c4 hA3 q3 hx
   go_wp2_with (at_builtin; refine wpList_appT (T := [k]) rfl (.tmp 21) (.tmp 25) _ rfl 9 _ 1 16 Tryz.underlying56 string_info rfl (by omega) hA4.out hT.out NT.out rfl w4.heap.size 1 1 rfl rfl NW.out HONE.out (by omega) (by omega) ?_; intro A6 cap6 w6 hA6 hM6)
   go_roundw
   case rel => exact ⟨j, l ++ [x], A6, cap6, by first | rfl | go_num, by simp, by simp; omega, by simp, Lib.hid (by simpa [List.flatMap_append, strC] using hA6), (q4.keep0 ((Chg.refl _ _).alloc _)).mid hM6 hk⟩
   case measure => first | (simp [intOf]; done) | (simp [intOf]; omega)
theorem l6Recipe_any (k : Nat) (w : World) (hcur : Cur w k) :
  Calls Tryz.prog 73 #[.pointer (some ⟨k, 0, none⟩)] w (DrStrs k 5 RcpOk w) := by
 have hk := hcur.lt
 have RE := Lib.hid (fun W (hc : Cur W k) => l4Recipe_any k W hc)
 have LS := Lib.hid (fun L g cap W hc h0 h1 hg hl hx => l1Str_any k L g cap W hc h0 h1 hg hl hx)
 have HR := Lib.hid (fun s (h : s ∈ ([⟨#[114, 111, 98, 111, 116]⟩, ⟨#[118, 97, 117, 108, 116]⟩, ⟨#[100, 114, 97, 119, 101, 114]⟩] : List ByteArray)) => rcp_one h)
 have hT : Hid (∀ x ∈ [k], x < w.heap.size) := Lib.hid (by simpa using hk)
 go_enter Tryz.func73, Tryz.ntmps73
 go_wp2_with fail
 go_loopw [3] (fun i wr => ∃ (j : Nat), i = .int .i64 (j : Int) ∧ j ≤ 4 ∧ Cur wr k ∧ Hid (Chg [k] w wr)) (fun i _ => 4 - (intOf i).toNat)
 case atStart => exact ⟨0, rfl, by omega, hcur, Lib.hid (Chg.refl _ _)⟩
 case round =>
  obtain ⟨j, rfl, hj, hq, hd⟩ := hrel
  by_cases hj4 : j < 4
  case neg =>
   have hj4i : ¬ (j : Int) < 4 := by omega
   have kq := hq.lt
   go_wp2_with fail
   refine calls_name fun x4 hx4 => ?_
   have e4 : Chg [] wr x4 := by rw [hx4]; exact Chg.now
   obtain ⟨lt4, LT4⟩ := lit_strsE (g := wr.heap.size) [⟨#[114, 111, 98, 111, 116]⟩, ⟨#[118, 97, 117, 108, 116]⟩, ⟨#[100, 114, 97, 119, 101, 114]⟩] hx4 rfl
   clear hx4
   refine (LS.out [⟨#[114, 111, 98, 111, 116]⟩, ⟨#[118, 97, 117, 108, 116]⟩, ⟨#[100, 114, 97, 119, 101, 114]⟩] wr.heap.size 3 _ (hq.keep0 e4) (by decide) (by decide) (by omega) lt4 LT4).mono ?_
   rintro e w5 ⟨y, rfl, hy, q5, c5⟩
   have HY := Lib.hid (HR.out y hy)
   have d5 := Lib.hid ((hd.out.trans0 e4).trans c5 (fun x hx => .inl hx))
   clear hy lt4 LT4 e4 c5
   go_wp2_with fail
   go_ret
   exact ⟨[y], _, _, rfl, by have := (AppT.lit (T := [k]) w 9 d5.out #[.string y] 1 rfl (by unfold maxLen; omega)).new; unfold strs; simpa [strC] using this, by simp, HY.out, q5.keep0 ((Chg.refl _ _).alloc _)⟩
  case pos =>
   have hj4i : (j : Int) < 4 := by omega
   have wj : IntKind.i64.wrap ((j : Int) + 1) = (j : Int) + 1 := wr_id (by omega) (by omega)
   go_wp2_with fail
   refine (RE.out _ hq).mono ?_
   rintro e w2 ⟨l, A, cap, rfl, N2, hl, hne, q2⟩
   have RF := Lib.hid (recipeFace_spec_any l _ _ w2 N2.rd (Nat.le_refl _) (by omega))
   have N2 := Lib.hid N2
   go_wp2_with fail
   refine RF.out.mono ?_
   rintro e w3 ⟨rfl, c3⟩
   have kwr := hq.lt
   have N3 := Lib.hid (N2.out.later (c3.mono (by simp)) (by simpa using kwr))
   have q3 := q2.keep0 c3
   have d3 := Lib.hid (hd.out.trans N3.out.chg (fun x hx => .inl hx))
   have HF := Lib.hid (show (faceRes l).2 = true → (makeOf l).2.code = 0 from faceRes_code)
   obtain ⟨f, hf⟩ : ∃ f, f = (faceRes l).1 := ⟨_, rfl⟩
   obtain ⟨ok, hok⟩ : ∃ ok, ok = (faceRes l).2 := ⟨_, rfl⟩
   rw [← hok] at HF
   rw [← hf, ← hok]
   clear hf hok c3 RF N2 q2
   by_cases hy : ok = true ∧ f ≠ 0
   case pos =>
    obtain ⟨rfl, hf0⟩ := hy
    have hf1 : (f == 0) = false := by rw [beq_eq_false_iff_ne]; exact hf0
    have hf2 : (f != 0) = true := by rw [bne, hf1]; rfl
    have HD := hd
    go_wp2_with fail
    go_ret
    exact ⟨l, A, cap, rfl, N3.out.sooner HD.out, hl, ⟨hne, by have := HF.out; simpa using this⟩, q3⟩
   case neg =>
    have hcs : ok = false ∨ (ok = true ∧ f = 0) := by
     cases ok
     ·exact .inl rfl
     ·exact .inr ⟨rfl, Classical.byContradiction fun h => hy ⟨rfl, h⟩⟩
    clear hy HF
    rcases hcs with rfl | ⟨rfl, rfl⟩
    all_goals
     go_wp2_with fail
     go_roundw
     case rel => exact ⟨j + 1, by first | rfl | go_num, by omega, q3, d3⟩
     case measure => first | (simp [intOf]; omega) | (simp [intOf])
theorem strs_one {k : Nat} {w w' : World} {l : List ByteArray} {A : Option Addr} {cap : Nat} (h : NewS [k] w w' (strs l) (.slice A l.length cap)) : NewT [k] w (w'.alloc (.cells #[.slice A l.length cap] 56)) (strssC l) [.slice A l.length cap] := by
 obtain ⟨S, h1, h2, h3⟩ := h
 exact ⟨S ++ [], HasL.cons (h1.keep0 ((Chg.refl _ _).alloc _)) (HasL.nil _) (by simp), fun x hx => h2 x (by simpa using hx), h3.alloc _⟩
theorem l8Recipes_any (k : Nat) (w : World) (hcur : Cur w k) :
  Calls Tryz.prog 40 #[.pointer (some ⟨k, 0, none⟩), .bool false] w (fun e w' => ∃ (L : List (List ByteArray)) (A : Option Addr) (cap : Nat), e = .returned (.slice A L.length cap) ∧ NewS [k] w w' (strss L) (.slice A L.length cap) ∧ L.length = 3 ∧ (∀ l ∈ L, l.length ≤ 5 ∧ (l = [] ∨ RcpOk l)) ∧ Cur w' k) := by
 have hk := hcur.lt
 have RE := Lib.hid (fun W (hc : Cur W k) => l6Recipe_any k W hc)
 have ON := Lib.hid (fun n W (hc : Cur W k) => l1Once_any k n W hc)
 have hT : Hid (∀ x ∈ [k], x < w.heap.size) := Lib.hid (by simpa using hk)
 go_enter Tryz.func40, Tryz.ntmps40
 go_wp2_with fail
 go_loopw [5, 6] (fun v i wr => ∃ (j : Nat) (L : List (List ByteArray)) (A : Option Addr) (cap : Nat), i = .int .i64 (j : Int) ∧ v = .slice A L.length cap ∧ Hid (L.length = j) ∧ j ≤ 3 ∧ Hid (AppT [k] w wr 56 1 (.slice A L.length cap) L.length (L.flatMap strssC)) ∧ Hid (∀ l ∈ L, l.length ≤ 5 ∧ (l = [] ∨ RcpOk l)) ∧ Cur wr k) (fun _ i _ => 3 - (intOf i).toNat)
 case atStart => exact ⟨0, [], _, _, rfl, rfl, Lib.hid rfl, by omega, Lib.hid (AppT.empty (T := [k]) w 56 1 (Chg.refl _ _)), Lib.hid (by simp), hcur.keep0 ((Chg.refl _ _).alloc _)⟩
 case round =>
  obtain ⟨j, L, A, cap, rfl, rfl, hLj, hj, hA, hL, hq⟩ := hrel
  by_cases hj3 : j < 3
  case neg =>
   have hj3i : ¬ (j : Int) < 3 := by omega
   go_wp2_with fail
   go_ret
   exact ⟨L, A, cap, rfl, hA.out.new, by have := hLj.out; omega, hL.out, hq⟩
  case pos =>
   have hj3i : (j : Int) < 3 := by omega
   have wj : IntKind.i64.wrap ((j : Int) + 1) = (j : Int) + 1 := wr_id (by omega) (by omega)
   go_wp2_with fail
   refine (ON.out 3 _ hq).mono ?_
   rintro e w2 ⟨ok, rfl, q2, c2⟩
   have hA2 := Lib.hid (hA.out.later c2 hT.out)
   clear c2 hA hq
   cases ok
   case true =>
    have N3 : NewS [k] w2 (w2.alloc (.cells #[] 9)) (strs []) (.slice (some ⟨w2.heap.size, 0, none⟩) ([] : List ByteArray).length 0) := (AppT.empty (T := [k]) w2 9 1 (Chg.refl _ _)).new
    have NT := Lib.hid (strs_one N3)
    have NW := Box.new (w2.alloc (.cells #[] 9)) #[.slice (some ⟨w2.heap.size, 0, none⟩) ([] : List ByteArray).length 0] 56
    rw [show (w2.alloc (.cells #[] 9)).heap.size = w2.heap.size + 1 by simp] at NW
    have NW := Lib.hid NW.c
    have HONE := Lib.hid (show ∀ u ∈ ([.slice (some ⟨w2.heap.size, 0, none⟩) ([] : List ByteArray).length 0] : List Value), u.oneCell' = true by intro u hu; simp at hu; subst hu; rfl)
    clear N3
    go_wp2_with (at_builtin; refine wpList_appT (T := [k]) rfl (.tmp 18) (.tmp 20) _ rfl 56 _ 1 24 Tryz.underlying55 strs2_info rfl (by omega) hA2.out hT.out NT.out rfl (w2.heap.size + 1) 1 1 rfl rfl NW.out HONE.out (by have := hLj.out; omega) (by omega) ?_; intro A6 cap6 w6 hA6 hM6)
    go_roundw
    case rel => exact ⟨j + 1, L ++ [[]], A6, cap6, by first | rfl | go_num, by simp, Lib.hid (by rw [List.length_append, hLj.out]; rfl), by omega, Lib.hid (by simpa [List.flatMap_append] using hA6), Lib.hid (fun l hl => by rcases List.mem_append.1 hl with hl | hl; exact hL.out l hl; simp at hl; subst hl; exact ⟨by simp, .inl rfl⟩), (q2.keep0 Chg.now).mid hM6 hk⟩
    case measure => first | (simp [intOf]; omega) | (simp [intOf])
   case false =>
    go_wp2_with fail
    refine (RE.out _ q2).mono ?_
    rintro e w3 ⟨l, Al, cl, rfl, N3, hl, hok, q3⟩
    have NT := Lib.hid (strs_one N3)
    have hA3 := Lib.hid (hA2.out)
    have NW := Lib.hid (Box.new w3 #[.slice Al l.length cl] 56).c
    have HONE := Lib.hid (show ∀ u ∈ ([.slice Al l.length cl] : List Value), u.oneCell' = true by intro u hu; simp at hu; subst hu; rfl)
    have HOK := Lib.hid hok
    clear N3 hok
    go_wp2_with (at_builtin; refine wpList_appT (T := [k]) rfl (.tmp 22) (.tmp 25) _ rfl 56 _ 1 24 Tryz.underlying55 strs2_info rfl (by omega) hA3.out hT.out NT.out rfl w3.heap.size 1 1 rfl rfl NW.out HONE.out (by have := hLj.out; omega) (by omega) ?_; intro A6 cap6 w6 hA6 hM6)
    go_roundw
    case rel => exact ⟨j + 1, L ++ [l], A6, cap6, by first | rfl | go_num, by simp, Lib.hid (by rw [List.length_append, hLj.out]; rfl), by omega, Lib.hid (by simpa [List.flatMap_append] using hA6), Lib.hid (fun m hm => by rcases List.mem_append.1 hm with hm | hm; exact hL.out m hm; simp at hm; subst hm; exact ⟨hl, .inr HOK.out⟩), (q3.keep0 Chg.now).mid hM6 hk⟩
    case measure => first | (simp [intOf]; omega) | (simp [intOf])
end Go.Proofs.YtdlkbomojjmnlaaGreatDoor
