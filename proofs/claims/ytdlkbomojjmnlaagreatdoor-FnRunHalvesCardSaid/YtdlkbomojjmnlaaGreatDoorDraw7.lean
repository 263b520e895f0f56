/- A valid core, drawn: l3Draw of the reference. Conditions: none. Written by a program. / A valid part, drawn: l4Draw of the reference. Conditions: none. Written by a program. -/
import Derived.Test.YtdlkbomojjmnlaaGreatDoorDraw6
import Derived.Test.YtdlkbomojjmnlaaGreatDoorParts
import Derived.Test.YtdlkbomojjmnlaaGreatDoorApps
import Derived.Deep.Cut
import Derived.Test.YtdlkbomojjmnlaaGreatDoorWraps
import Derived.Test.YtdlkbomojjmnlaaGreatDoorBoxes
import Derived.Test.YtdlkbomojjmnlaaGreatDoorPlains
import Derived.Deep.CutRange
import Derived.Test.YtdlkbomojjmnlaaGreatDoorRegs
set_option maxRecDepth 100000
set_option maxHeartbeats 8000000
namespace Go.Proofs.YtdlkbomojjmnlaaGreatDoor
open Go.RowKit

theorem Box.o5 {w : World} {b : Nat} {v0 v1 v2 v3 v4 : Value} (H : Box w b [v0, v1, v2, v3, v4]) : w.cell? ⟨b, 0, none⟩ = some v0 ∧ w.cell? ⟨b, 1, none⟩ = some v1 ∧ w.cell? ⟨b, 2, none⟩ = some v2 ∧ w.cell? ⟨b, 3, none⟩ = some v3 ∧ w.cell? ⟨b, 4, none⟩ = some v4 := ⟨H.c 0 _ rfl, H.c 1 _ rfl, H.c 2 _ rfl, H.c 3 _ rfl, H.c 4 _ rfl⟩
/-- A core's box, made since w: of a kind with face f. -/
structure CoreIn (k : Nat) (w x : World) (b : Nat) (f : Int) (Q : CoreT → Prop) : Prop where
 ex : ∃ (p : CoreT) (A : Option Addr) (cap : Nat) (S : List Nat), Box x b [.string p.kind, .bool p.on, .bool p.broken, .slice A p.cells.length cap, .int .i64 p.count] ∧ Has x (cells p.cells) (.slice A p.cells.length cap) S ∧ (∀ y, y ∈ S → w.heap.size ≤ y ∧ y ≠ b ∧ y ≠ w.heap.size) ∧ kindOf p.kind = some f ∧ CellsOk p.cells ∧ IsNum p.count ∧ Q p
 z : Box x w.heap.size [.string ⟨#[]⟩, .bool false, .bool false, .slice none 0 0, .int .i64 0]
 cur : Cur x k
 chg : Chg [k] w x
 lo : w.heap.size < b
 hk : k < w.heap.size
section
variable {k b : Nat} {w x x' : World} {f : Int} {Q R : CoreT → Prop}
theorem CoreIn.call (C : CoreIn k w x b f Q) (c : Chg [k] x x') (q : Cur x' k) : CoreIn k w x' b f Q := by
 obtain ⟨⟨p, A, cap, S, B, h1, h2, h3, h4, h5, h6⟩, z, _, d, l, hk⟩ := C
 exact ⟨⟨p, A, cap, S, B.keep c (by simp; omega), h1.keep c (fun y hy => by have := h2 y hy; simp; omega), h2, h3, h4, h5, h6⟩, z.keep c (by simp; omega), q, d.trans c (fun y hy => .inl hy), l, hk⟩
theorem CoreIn.put (C : CoreIn k w x b f Q) (i : Nat) (v : Value) (u : CoreT → CoreT) (hx : x' = x.setCell ⟨b, i, none⟩ v)
  (hu : ∀ (p : CoreT) (A : Option Addr) (cap : Nat), Q p → IsNum p.count → (u p).kind = p.kind ∧ (u p).cells = p.cells ∧ IsNum (u p).count ∧ R (u p) ∧ [.string p.kind, .bool p.on, .bool p.broken, .slice A p.cells.length cap, .int .i64 p.count].set i v = [.string (u p).kind, .bool (u p).on, .bool (u p).broken, .slice A (u p).cells.length cap, .int .i64 (u p).count]) : CoreIn k w x' b f R := by
 obtain ⟨⟨p, A, cap, S, B, h1, h2, h3, h4, h5, h6⟩, z, q, d, l, hk⟩ := C
 obtain ⟨e1, e2, e3, e4, e5⟩ := hu p A cap h6 h5
 have B' := B.set i v
 rw [e5] at B'
 have cb : Chg [b] x x' := by rw [hx]; exact (Chg.refl _ _).setCell (.inl (by simp)) _
 subst hx
 exact ⟨⟨u p, A, cap, S, B', by rw [e2]; exact h1.keep cb (fun y hy => by have := h2 y hy; simp; omega), h2, by rw [e1]; exact h3, by rw [e2]; exact h4, e3, e4⟩, z.keep cb (by simp; omega), q.keep cb (by simp; omega), d.trans cb (fun y hy => .inr (by simp at hy; omega)), l, hk⟩
theorem CoreIn.fill (C : CoreIn k w x b f Q) {l : List CellT} {A : Option Addr} {cap : Nat} {x0 : World} (N : NewS [k] x0 x (cells l) (.slice A l.length cap)) (h0 : b < x0.heap.size) (ok : CellsOk l) (hx : x' = x.setCell ⟨b, 3, none⟩ (.slice A l.length cap))
  (hu : ∀ p : CoreT, Q p → R ⟨p.kind, p.on, p.broken, l, p.count⟩) : CoreIn k w x' b f R := by
 obtain ⟨⟨p, A', cap', S, B, h1, h2, h3, h4, h5, h6⟩, z, q, d, lo, hk⟩ := C
 obtain ⟨S', n1, n2, n3⟩ := N
 have cb : Chg [b] x x' := by rw [hx]; exact (Chg.refl _ _).setCell (.inl (by simp)) _
 have B' := B.set 3 (.slice A l.length cap)
 subst hx
 have l' : ∀ y, y ∈ S' → w.heap.size ≤ y ∧ y ≠ b ∧ y ≠ w.heap.size := fun y hy => by have := n2 y hy; omega
 exact ⟨⟨⟨p.kind, p.on, p.broken, l, p.count⟩, A, cap, S', B', n1.keep cb (fun y hy => by have := l' y hy; simp; omega), l', h3, ok, h5, hu p h6⟩, z.keep cb (by simp; omega), q.keep cb (by simp; omega), d.trans cb (fun y hy => .inr (by simp at hy; omega)), lo, hk⟩
theorem CoreIn.look (C : CoreIn k w x b f Q) : ∃ (p : CoreT) (A : Option Addr) (cap : Nat), x.cell? ⟨b, 0, none⟩ = some (.string p.kind) ∧ x.cell? ⟨b, 1, none⟩ = some (.bool p.on) ∧ x.cell? ⟨b, 2, none⟩ = some (.bool p.broken) ∧ x.cell? ⟨b, 3, none⟩ = some (.slice A p.cells.length cap) ∧ x.cell? ⟨b, 4, none⟩ = some (.int .i64 p.count) ∧ (∀ o, x.frozen? ⟨b, o, none⟩ = false) ∧ Q p := by
 obtain ⟨⟨p, A, cap, S, B, h1, h2, h3, h4, h5, h6⟩, z, q, d, l, hk⟩ := C
 obtain ⟨b0, b1, b2, b3, b4⟩ := B.o5
 exact ⟨p, A, cap, b0, b1, b2, b3, b4, B.f, h6⟩
end
/-- A valid core, drawn. -/
def DrCore (k : Nat) (w : World) (e : Ending) (w' : World) : Prop := ∃ (p : CoreT) (A : Option Addr) (cap : Nat), e = .returned (.agg #[.string p.kind, .bool p.on, .bool p.broken, .slice A p.cells.length cap, .int .i64 p.count]) ∧ NewS [k] w w' (cells p.cells) (.slice A p.cells.length cap) ∧ CoreOk p ∧ Cur w' k
theorem optPost_any {o : Option Int} {w : World} (e : Ending) (w' : World) (h : OptPost o w e w') : ∃ (f : Int) (ok : Bool), e = .returned (.tuple #[.int .i64 f, .bool ok]) ∧ (ok = true → o = some f) ∧ Chg [] w w' := by
 obtain ⟨rfl, c⟩ := h
 cases o with
 | none => exact ⟨0, false, rfl, fun h => (by cases h), c⟩
 | some x => exact ⟨x, true, rfl, fun _ => rfl, c⟩
theorem robot_face : kindOf ⟨#[114, 111, 98, 111, 116]⟩ = some 63 := by unfold kindOf; rw [ByteArray.toList_eq]; rfl
theorem l3Draw_any (k : Nat) (w : World) (hcur : Cur w k) :
  Calls Tryz.prog 74 #[.pointer (some ⟨k, 0, none⟩)] w (DrCore k w) := by
 have hk := hcur.lt
 have BL := Lib.hid (fun n W (hc : Cur W k) => l1Below_any k n W hc)
 have ON := Lib.hid (fun n W (hc : Cur W k) => l1Once_any k n W hc)
 have CE := Lib.hid (fun W (hc : Cur W k) => l3CellsOk_any k W hc)
 have KI := Lib.hid (fun W (hc : Cur W k) => l3Kind_any k W hc)
 have RF := Lib.hid robot_face
 go_enter Tryz.func74, Tryz.ntmps74
 go_wp2_with fail
 refine calls_name fun x0 hx0 => ?_
 have c0 : Chg [k] w x0 := by rw [hx0]; exact Chg.now
 have Z0 : Box x0 w.heap.size [.string ⟨#[]⟩, .bool false, .bool false, .slice none 0 0, .int .i64 0] := by rw [hx0]; exact Box.new _ _ _
 have Q0 := hcur.keep (S := []) (show Chg [] w x0 by rw [hx0]; exact Chg.now) (by simp)
 clear hx0 hcur
 refine (KI.out _ Q0).mono ?_
 rintro e w1 ⟨s, rfl, -, q1, c1⟩
 have Z1 := Z0.keep c1 (by simp; omega)
 have d1 := c0.trans c1 (fun x hx => .inl hx)
 have KF := Lib.hid ((kindFace_spec_any s w1).mono optPost_any)
 clear c0 c1 Q0 Z0
 go_wp2_with fail
 refine KF.out.mono ?_
 rintro e w2 ⟨f, ok, rfl, hok, c2⟩
 have Z2 := Lib.hid (Z1.keep c2)
 have q2 := q1.keep0 c2
 have d2 := Lib.hid (d1.trans0 c2)
 have HOK := Lib.hid hok
 clear c2 d1 Z1 KF hok q1
 go_upto_if 15 with fail
 go_cut [3, 4] from 7 (fun s3 s4 wx => ∃ s f, s3 = .string s ∧ s4 = .int .i64 f ∧ kindOf s = some f ∧ Hid (Box wx w.heap.size [.string ⟨#[]⟩, .bool false, .bool false, .slice none 0 0, .int .i64 0]) ∧ Cur wx k ∧ Hid (Chg [k] w wx))
 case first =>
  cases ok
  case false =>
   go_wp2_with fail
   go_meet
   case rel => exact ⟨_, 63, rfl, rfl, RF.out, Z2, q2, d2⟩
  case true =>
   have HK : Hid (kindOf s = some f) := Lib.hid (HOK.out rfl)
   clear HOK
   go_wp2_with fail
   go_meet
   case rel => exact ⟨s, f, rfl, rfl, HK.out, Z2, q2, d2⟩
 case rest =>
  obtain ⟨s, f, rfl, rfl, hf, Z3, q3, d3⟩ := hcut
  have HF := Lib.hid hf
  have hface := Lib.hid (kindOf_face hf)
  clear hf Z2 q2 d2 HOK
  go_wp2_with fail
  refine (BL.out 5 _ q3).mono ?_
  rintro e w4 ⟨r, rfl, ⟨r0, r5⟩, q4, c4⟩
  have r5 := r5 (by omega)
  have t4 : w.heap.size < w4.heap.size := Nat.lt_of_lt_of_le Z3.out.lt c4.size
  have Z4 := Lib.hid (Z3.out.keep c4 (by simp; omega))
  have d4 := Lib.hid (d3.out.trans c4 (fun x hx => .inl hx))
  have k4 := q4.lt
  have H0 := Lib.hid (fun W => (l2Has_any f 0 W hface.out (by omega)).mono (BoolIs.eq_ (has f 0) rfl))
  have H1 := Lib.hid (fun W => (l2Has_any f 1 W hface.out (by omega)).mono (BoolIs.eq_ (has f 1) rfl))
  have HH0 := Lib.hid (show has f ((0 : Nat) : Int).toNat = has f 0 from rfl)
  obtain ⟨t0, ht0⟩ : ∃ t, t = has f 0 := ⟨_, rfl⟩
  obtain ⟨t1, ht1⟩ : ∃ t, t = has f 1 := ⟨_, rfl⟩
  rw [← ht0] at H0
  rw [← ht1] at H1
  have HT0 := Lib.hid ht0
  have HT1 := Lib.hid ht1
  clear c4 d3 q3 Z3 ht0 ht1 HH0
  go_wp2_with fail
  refine calls_name fun x5 hx5 => ?_
  have C5 : Hid (CoreIn k w x5 w4.heap.size f (fun p => p.on = false ∧ p.broken = false ∧ p.cells = [])) := by
   rw [hx5]
   exact Lib.hid ⟨⟨⟨s, false, false, [], r⟩, none, 0, [], Box.new _ _ _, ⟨by rw [cells, Own]; exact .inl ⟨rfl, rfl, rfl, rfl⟩, List.nodup_nil⟩, by simp, HF.out, cellsOk_nil, ⟨r0, by show r ≤ 999; omega⟩, rfl, rfl, rfl⟩, Z4.out.alloc _, q4.keep0 Chg.now, Chg.to d4.out, t4, hk⟩
  clear hx5 Z4 d4 q4 r0 r5
  refine (H0.out _).mono ?_
  rintro e w5 ⟨rfl, hw5⟩
  subst hw5
  go_upto_if 21 with fail
  go_cut [] from 7 (fun wx => Hid (CoreIn k w wx w4.heap.size f (fun p => ¬ (p.on = true ∧ p.broken = true) ∧ (t0 = true ∨ (p.on = false ∧ p.broken = false)) ∧ p.cells = [])))
  case first =>
   cases t0
   case false =>
    go_wp2_with fail
    go_meet
    case rel =>
     obtain ⟨⟨p, A, cap, S, B, h1, h2, h3, h4, h5, h6, h7, h8⟩, z, q, c, l, hk⟩ := C5.out
     exact Lib.hid ⟨⟨p, A, cap, S, B, h1, h2, h3, h4, h5, by rw [h6]; simp, .inr ⟨h6, h7⟩, h8⟩, z, q, c, l, hk⟩
   case true =>
    go_wp2_with fail
    refine (BL.out 3 _ C5.out.cur).mono ?_
    rintro e w6 ⟨r, rfl, -, q6, c6⟩
    have C6 := Lib.hid (C5.out.call c6 q6)
    clear C5 q6 c6
    obtain ⟨p, A, cap, b0, b1, b2, b3, b4, bf, -⟩ := C6.out.look
    by_cases hr : 0 < r
    case pos =>
     go_upto_region 9 with fail
     refine wp_called ?_
     intro x hx
     have C7 : Hid (CoreIn k w x w4.heap.size f (fun p => p.on = true ∧ p.broken = false ∧ p.cells = [])) := Lib.hid (C6.out.put 1 (.bool true) (fun p => ⟨p.kind, true, p.broken, p.cells, p.count⟩) hx (fun p A cap h n => ⟨rfl, rfl, n, ⟨rfl, h.2.1, h.2.2⟩, rfl⟩))
     clear b0 b1 b2 b3 b4 bf hx C6 p A cap
     obtain ⟨p, A, cap, b0, b1, b2, b3, b4, bf, hon, -⟩ := C7.out.look
     rw [hon] at b1
     clear hon
     go_wp2_with fail
     go_meet
     case rel => exact Lib.hid (C7.out.put 2 (.bool false) (fun p => ⟨p.kind, p.on, false, p.cells, p.count⟩) rfl (fun p A cap h n => ⟨rfl, rfl, n, ⟨by simp, .inl (by trivial), h.2.2⟩, rfl⟩))
    case neg =>
     have hd : decide (0 < r) = false := by simpa using hr
     go_upto_region 9 with fail
     refine wp_called ?_
     intro x hx
     clear hd
     have C7 : Hid (CoreIn k w x w4.heap.size f (fun p => p.on = false ∧ p.broken = false ∧ p.cells = [])) := Lib.hid (C6.out.put 1 (.bool false) (fun p => ⟨p.kind, false, p.broken, p.cells, p.count⟩) hx (fun p A cap h n => ⟨rfl, rfl, n, ⟨rfl, h.2.1, h.2.2⟩, rfl⟩))
     clear b0 b1 b2 b3 b4 bf hx C6 p A cap
     obtain ⟨p, A, cap, b0, b1, b2, b3, b4, bf, hon, -⟩ := C7.out.look
     rw [hon] at b1
     clear hon
     go_wp2_with fail
     refine (ON.out 3 _ C7.out.cur).mono ?_
     rintro e w8 ⟨t, rfl, q8, c8⟩
     have C8 := Lib.hid (C7.out.call c8 q8)
     clear b0 b1 b2 b3 b4 bf C7 q8 c8 p A cap
     obtain ⟨p, A, cap, b0, b1, b2, b3, b4, bf, -⟩ := C8.out.look
     go_wp2_with fail
     go_meet
     case rel => exact Lib.hid (C8.out.put 2 (.bool t) (fun p => ⟨p.kind, p.on, t, p.cells, p.count⟩) rfl (fun p A cap h n => ⟨rfl, rfl, n, ⟨by simp [h.1], .inl (by trivial), h.2.2⟩, rfl⟩))
  case rest =>
   have C6 := hcut
   clear hcut C5
   go_wp2_with fail
   refine (H1.out _).mono ?_
   rintro e w7 ⟨rfl, hw7⟩
   subst hw7
   go_upto_if 35 with fail
   go_cut [] from 7 (fun wx => Hid (CoreIn k w wx w4.heap.size f (fun p => ¬ (p.on = true ∧ p.broken = true) ∧ (t0 = true ∨ (p.on = false ∧ p.broken = false)) ∧ (0 < p.cells.length → t1 = true))))
   case first =>
    cases t1
    case false =>
     go_wp2_with fail
     go_meet
     case rel =>
      obtain ⟨⟨p, A, cap, S, B, h1, h2, h3, h4, h5, h6, h7, h8⟩, z, q, c, l, hk⟩ := C6.out
      exact Lib.hid ⟨⟨p, A, cap, S, B, h1, h2, h3, h4, h5, h6, h7, by rw [h8]; simp⟩, z, q, c, l, hk⟩
    case true =>
     go_wp2_with fail
     refine (CE.out _ C6.out.cur).mono ?_
     rintro e w8 ⟨l, Al, cl, rfl, N, ok, q8⟩
     have C8 := Lib.hid (C6.out.call N.chg q8)
     have lt8 : w4.heap.size < w7.heap.size := by obtain ⟨_, _, _, _, B, _⟩ := C6.out.ex; exact B.lt
     have N := Lib.hid N
     have OK := Lib.hid ok
     clear C6 q8 ok
     obtain ⟨p, A, cap, b0, b1, b2, b3, b4, bf, -⟩ := C8.out.look
     go_wp2_with fail
     go_meet
     case rel => exact Lib.hid (C8.out.fill N.out lt8 OK.out rfl (fun p h => ⟨h.1, h.2.1, fun _ => (by trivial)⟩))
   case rest =>
    have C7 := hcut
    clear hcut C6
    go_wp2_with fail
    refine (ON.out 12 _ C7.out.cur).mono ?_
    rintro e w8 ⟨t, rfl, q8, c8⟩
    have C8 := Lib.hid (C7.out.call c8 q8)
    clear C7 q8 c8
    go_upto_if 40 with fail
    go_cut [] from 7 (fun wx => Hid (CoreIn k w wx w4.heap.size f (fun p => ¬ (p.on = true ∧ p.broken = true) ∧ (t0 = true ∨ (p.on = false ∧ p.broken = false)) ∧ (0 < p.cells.length → t1 = true))))
    case first =>
     cases t
     case false =>
      go_wp2_with fail
      go_meet
      case rel => exact C8
     case true =>
      go_wp2_with fail
      refine (BL.out 2 _ C8.out.cur).mono ?_
      rintro e w9 ⟨r, rfl, ⟨r0, r2⟩, q9, c9⟩
      have r2 := r2 (by omega)
      have C9 := Lib.hid (C8.out.call c9 q9)
      clear C8 q9 c9
      obtain ⟨p, A, cap, b0, b1, b2, b3, b4, bf, -⟩ := C9.out.look
      have wr : IntKind.i64.wrap (999 - r) = 999 - r := wr_id (by omega) (by omega)
      go_wp2_with fail
      go_meet
      case rel => exact Lib.hid (C9.out.put 4 (.int .i64 (999 - r)) (fun p => ⟨p.kind, p.on, p.broken, p.cells, 999 - r⟩) rfl (fun p A cap h n => ⟨rfl, rfl, ⟨by show (0 : Int) ≤ 999 - r; omega, by show 999 - r ≤ 999; omega⟩, h, rfl⟩))
    case rest =>
     have C9 := hcut
     clear hcut C8
     obtain ⟨⟨p, A, cap, S, B, h1, h2, h3, h4, h5, h6, h7, h8⟩, z, q, c, l, -⟩ := C9.out
     obtain ⟨b0, b1, b2, b3, b4⟩ := B.o5
     have bf := B.f
     obtain ⟨z0, z1, z2, z3, z4⟩ := z.o5
     have zf := z.f
     have lb := B.lt
     have lz := z.lt
     have HC := Lib.hid (show CoreOk p from ⟨f, h3, h4, fun hl => HT1.out.symm.trans (h8 hl), h5, h6, h7.imp (fun h => HT0.out.symm.trans h) id⟩)
     have HS := Lib.hid (show Has wc (cells p.cells) (.slice A p.cells.length cap) S ∧ (∀ y, y ∈ S → w.heap.size ≤ y ∧ y ≠ w4.heap.size ∧ y ≠ w.heap.size) ∧ Cur wc k ∧ Chg [k] w wc from ⟨h1, h2, q, c⟩)
     clear B z h1 h2 h3 h4 h5 h6 h7 h8 q c C9
     go_wp2_with fail
     refine bodyPost_ret (v := .agg #[.string p.kind, .bool p.on, .bool p.broken, .slice A p.cells.length cap, .int .i64 p.count]) (by simp only [results, Tryz.results74]; go_simp) rfl ?_
     exact ⟨p, A, cap, rfl, ⟨S, HS.out.1.keep (S0 := [w.heap.size]) Chg.now (fun y hy => by have := HS.out.2.1 y hy; simp; omega), fun y hy => (HS.out.2.1 y hy).1, Chg.to HS.out.2.2.2⟩, HC.out, HS.out.2.2.1.keep (S := [w.heap.size]) Chg.now (by simp; omega)⟩
end Go.Proofs.YtdlkbomojjmnlaaGreatDoor
namespace Go.Proofs.YtdlkbomojjmnlaaGreatDoor
open Go.RowKit

theorem Box.o6 {w : World} {b : Nat} {v0 v1 v2 v3 v4 v5 : Value} (H : Box w b [v0, v1, v2, v3, v4, v5]) : w.cell? ⟨b, 0, none⟩ = some v0 ∧ w.cell? ⟨b, 1, none⟩ = some v1 ∧ w.cell? ⟨b, 2, none⟩ = some v2 ∧ w.cell? ⟨b, 3, none⟩ = some v3 ∧ w.cell? ⟨b, 4, none⟩ = some v4 ∧ w.cell? ⟨b, 5, none⟩ = some v5 := ⟨H.c 0 _ rfl, H.c 1 _ rfl, H.c 2 _ rfl, H.c 3 _ rfl, H.c 4 _ rfl, H.c 5 _ rfl⟩
theorem partOk_few {p : PartT} (h : PartOk p) : p.layers.length ≤ 1048576 ∧ p.core.cells.length ≤ 1048576 ∧ ∀ c ∈ p.core.cells, c.key.size ≤ 1048576 := by
 obtain ⟨⟨_, _, hcc, _⟩, h2, _⟩ := h
 refine ⟨by omega, by have := hcc.1; omega, fun c hc => ?_⟩
 have := ((cellsOk_iff _).1 hcc).2.1 c hc
 have := this.1.2.1
 omega
theorem HasL.part {x : World} {p : PartT} {u3 u5 : Value} {S : List Nat} (h : HasL x (partF p) [.string p.core.kind, .bool p.core.on, .bool p.core.broken, u3, .int .i64 p.core.count, u5] S) :
  ∃ S3 S5, S = S3 ++ S5 ∧ Has x (cells p.core.cells) u3 S3 ∧ Has x (layers p.layers) u5 S5 ∧ (∀ y, y ∈ S3 → y ∉ S5) := by
 rw [partF_eq] at h
 obtain ⟨_, e, h⟩ := h.uncons_v; cases e
 obtain ⟨_, e, h⟩ := h.uncons_v; cases e
 obtain ⟨_, e, h⟩ := h.uncons_v; cases e
 obtain ⟨_, _, S3, S4, e, rfl, h3, h, hd⟩ := h.uncons; cases e
 obtain ⟨_, e, h⟩ := h.uncons_v; cases e
 obtain ⟨_, _, S5, S6, e, rfl, h5, h, _⟩ := h.uncons; cases e
 obtain ⟨_, rfl⟩ := h.unnil
 exact ⟨S3, S5 ++ [], rfl, h3, by simpa using h5, hd⟩
theorem HasL.ofPart {x : World} {p : PartT} {u3 u5 : Value} {S3 S5 : List Nat} (h3 : Has x (cells p.core.cells) u3 S3) (h5 : Has x (layers p.layers) u5 S5) (hd : ∀ y, y ∈ S3 → y ∉ S5) :
  HasL x (partF p) [.string p.core.kind, .bool p.core.on, .bool p.core.broken, u3, .int .i64 p.core.count, u5] (S3 ++ S5) := by
 rw [partF_eq]
 have hl := HasL.append (HasL.one h3) (HasL.cons_v (x := .int .i64 p.core.count) (HasL.one h5)) hd
 exact HasL.cons_v (HasL.cons_v (HasL.cons_v hl))
/-- A valid part of one's own, made since w. -/
structure PartIs (w x : World) (p : PartT) (u3 u5 : Value) (S : List Nat) : Prop where
 has : HasL x (partF p) [.string p.core.kind, .bool p.core.on, .bool p.core.broken, u3, .int .i64 p.core.count, u5] S
 new : ∀ y, y ∈ S → w.heap.size ≤ y
 ok : PartOk p
/-- A part's box, made since w. -/
structure PartIn (k : Nat) (w x : World) (b : Nat) (p : PartT) (A3 : Option Addr) (c3 : Nat) (A5 : Option Addr) (c5 : Nat) (S : List Nat) : Prop where
 box : Box x b [.string p.core.kind, .bool p.core.on, .bool p.core.broken, .slice A3 p.core.cells.length c3, .int .i64 p.core.count, .slice A5 p.layers.length c5]
 is : PartIs w x p (.slice A3 p.core.cells.length c3) (.slice A5 p.layers.length c5) S
 nb : b ∉ S
 nz : w.heap.size ∉ S
 z : Box x w.heap.size [.string ⟨#[]⟩, .bool false, .bool false, .slice none 0 0, .int .i64 0, .slice none 0 0]
 cur : Cur x k
 chg : Chg [k] w x
 lo : w.heap.size < b
 hk : k < w.heap.size
section
variable {k b : Nat} {w x x' : World} {p : PartT} {A3 A5 : Option Addr} {c3 c5 : Nat} {S : List Nat}
theorem PartIn.keep (C : PartIn k w x b p A3 c3 A5 c5 S) (c : Chg [k] x x') (q : Cur x' k) : PartIn k w x' b p A3 c3 A5 c5 S :=
 ⟨C.box.keep c (by have := C.lo; have := C.hk; simp; omega), ⟨C.is.has.keep c (fun y hy => by have := C.is.new y hy; have := C.hk; simp; omega), C.is.new, C.is.ok⟩, C.nb, C.nz, C.z.keep c (by have := C.hk; simp; omega), q, C.chg.trans c (fun y hy => .inl hy), C.lo, C.hk⟩
theorem PartIn.keep0 (C : PartIn k w x b p A3 c3 A5 c5 S) (c : Chg [] x x') : PartIn k w x' b p A3 c3 A5 c5 S := C.keep (c.mono (by simp)) (C.cur.keep0 c)
theorem PartIn.put (C : PartIn k w x b p A3 c3 A5 c5 S) {q : PartT} {B3 B5 : Option Addr} {d3 d5 : Nat} {T : List Nat} (P : PartIs w x q (.slice B3 q.core.cells.length d3) (.slice B5 q.layers.length d5) T) (hb : b ∉ T) (hz : w.heap.size ∉ T)
  (hx : x' = (((((x.setCell ⟨b, 0, none⟩ (.string q.core.kind)).setCell ⟨b, 1, none⟩ (.bool q.core.on)).setCell ⟨b, 2, none⟩ (.bool q.core.broken)).setCell ⟨b, 3, none⟩ (.slice B3 q.core.cells.length d3)).setCell ⟨b, 4, none⟩ (.int .i64 q.core.count)).setCell ⟨b, 5, none⟩ (.slice B5 q.layers.length d5)) : PartIn k w x' b q B3 d3 B5 d5 T := by
 have c : Chg [b] x x' := by rw [hx]; exact Chg.now
 have lo := C.lo
 have hk := C.hk
 refine ⟨?_, ⟨P.has.keep c (fun y hy e => by simp at e; subst e; exact hb hy), P.new, P.ok⟩, hb, hz, C.z.keep c (by simp; omega), C.cur.keep c (by simp; omega), C.chg.trans c (fun y hy => .inr (by simp at hy; omega)), lo, hk⟩
 rw [hx]
 exact (((((C.box.set 0 _).set 1 _).set 2 _).set 3 _).set 4 _).set 5 _
theorem PartIs.rd {u3 u5 : Value} (C : PartIs w x p u3 u5 S) : Rd x x.heap.size (cells p.core.cells) u3 ∧ Rd x x.heap.size (layers p.layers) u5 := by
 obtain ⟨S3, S5, _, h3, h5, _⟩ := C.has.part
 exact ⟨h3.rd, h5.rd⟩
end
theorem LayerAt.of {p q : PartT} {k : Nat} {h : k < p.layers.length} {h' : k < q.layers.length} (L : LayerAt p k h) (hn : q.layers[k].name = p.layers[k].name) (hf : faceAt q k = faceAt p k) (hc : IsNum q.layers[k].count ∧ (q.layers[k].count = 0 ∨ q.layers[k].name.toList = [99, 111, 117, 110, 116, 115] ∨ q.layers[k].name.toList = [104, 101, 97, 114, 115])) : LayerAt q k h' := by
 obtain ⟨x, h1, h2, _⟩ := L
 exact ⟨x, by rw [hn]; exact h1, by rw [hf]; exact h2, hc⟩
/-- A layer's count in a valid part. -/
theorem partOk_count {p : PartT} (h : PartOk p) {j : Nat} (hj : j < p.layers.length) {v : Int} (hv : IsNum v) (hn : p.layers[j].name.toList = [99, 111, 117, 110, 116, 115] ∨ p.layers[j].name.toList = [104, 101, 97, 114, 115]) : PartOk ⟨p.core, p.layers.set j ⟨p.layers[j].name, v⟩⟩ := by
 obtain ⟨h1, h2, h3⟩ := h
 refine ⟨h1, by simpa using h2, fun k hk => ?_⟩
 have hk' : k < p.layers.length := by simpa using hk
 have hnm : ∀ (i : Nat) (hi : i < p.layers.length), (p.layers.set j ⟨p.layers[j].name, v⟩)[i]'(by simpa using hi) = if j = i then ⟨p.layers[j].name, v⟩ else p.layers[i] := fun i hi => by rw [List.getElem_set]
 have hfc : faceAt ⟨p.core, p.layers.set j ⟨p.layers[j].name, v⟩⟩ k = faceAt p k := faceAt_congr rfl (fun i _ => by
  show ((p.layers.set j ⟨p.layers[j].name, v⟩)[i]?).map (·.name) = _
  rw [List.getElem?_set]
  by_cases e : j = i
  ·subst e; rw [if_pos rfl, if_pos hj, List.getElem?_eq_getElem hj]; rfl
  ·rw [if_neg e])
 have hL := h3 k hk'
 have e := hnm k hk'
 by_cases ej : j = k
 ·subst ej
  rw [if_pos rfl] at e
  exact LayerAt.of hL (by show ((p.layers.set j ⟨p.layers[j].name, v⟩)[j]'hk).name = _; rw [e]) hfc (by show IsNum ((p.layers.set j ⟨p.layers[j].name, v⟩)[j]'hk).count ∧ _; show _ ∧ (((p.layers.set j ⟨p.layers[j].name, v⟩)[j]'hk).count = 0 ∨ ((p.layers.set j ⟨p.layers[j].name, v⟩)[j]'hk).name.toList = _ ∨ ((p.layers.set j ⟨p.layers[j].name, v⟩)[j]'hk).name.toList = _); rw [e]; exact ⟨hv, .inr hn⟩)
 ·rw [if_neg ej] at e
  obtain ⟨x, q1, q2, q3, q4⟩ := hL
  exact LayerAt.of ⟨x, q1, q2, q3, q4⟩ (by show ((p.layers.set j ⟨p.layers[j].name, v⟩)[k]'hk).name = _; rw [e]) hfc (by show IsNum ((p.layers.set j ⟨p.layers[j].name, v⟩)[k]'hk).count ∧ (((p.layers.set j ⟨p.layers[j].name, v⟩)[k]'hk).count = 0 ∨ ((p.layers.set j ⟨p.layers[j].name, v⟩)[k]'hk).name.toList = _ ∨ ((p.layers.set j ⟨p.layers[j].name, v⟩)[k]'hk).name.toList = _); rw [e]; exact ⟨q3, q4⟩)
theorem PartIs.keepS {w x x' : World} {p : PartT} {u3 u5 : Value} {S T : List Nat} (C : PartIs w x p u3 u5 S) (c : Chg T x x') (h : ∀ y, y ∈ S → y ∉ T) : PartIs w x' p u3 u5 S := ⟨C.has.keep c h, C.new, C.ok⟩
/-- One layer of a part of one's own. -/
theorem PartIs.layerAt {w x : World} {p : PartT} {u3 : Value} {A5 : Option Addr} {c5 : Nat} {S : List Nat} (C : PartIs w x p u3 (.slice A5 p.layers.length c5) S) {j : Nat} (hj : j < p.layers.length) :
  ∃ g, A5 = some ⟨g, 0, none⟩ ∧ g ∈ S ∧ x.cell? ⟨g, j * 2, none⟩ = some (.string p.layers[j].name) ∧ x.cell? ⟨g, j * 2 + 1, none⟩ = some (.int .i64 p.layers[j].count) ∧ x.frozen? ⟨g, j * 2 + 1, none⟩ = false ∧
   ∀ v, IsNum v → (p.layers[j].name.toList = [99, 111, 117, 110, 116, 115] ∨ p.layers[j].name.toList = [104, 101, 97, 114, 115]) → PartIs w (x.setCell ⟨g, j * 2 + 1, none⟩ (.int .i64 v)) ⟨p.core, p.layers.set j ⟨p.layers[j].name, v⟩⟩ u3 (.slice A5 p.layers.length c5) S := by
 obtain ⟨S3, S5, rfl, h3, h5, hd⟩ := C.has.part
 have h5' := h5
 unfold layers at h5'
 obtain ⟨g, rfl, hg⟩ := h5'.own (by omega)
 obtain ⟨A, cap, e, _, _, hrow⟩ := layers_row h5.rd
 obtain ⟨b, off, e2, _, q1, q2⟩ := layers_cells hrow j hj
 cases e
 cases e2
 rw [Nat.zero_add] at q1 q2
 refine ⟨g, rfl, List.mem_append_right _ hg, q1, q2, (h5.layerVal hj 0).2.1, fun v hv hn => ⟨?_, C.new, partOk_count C.ok hj hv hn⟩⟩
 have k3 : Has (x.setCell ⟨g, j * 2 + 1, none⟩ (.int .i64 v)) (cells p.core.cells) u3 S3 := h3.keep (S0 := [g]) ((Chg.refl _ _).setCell (.inl (by simp)) _) (fun y hy e => by simp at e; subst e; exact hd y hy hg)
 have := HasL.ofPart (p := ⟨p.core, p.layers.set j ⟨p.layers[j].name, v⟩⟩) k3 (h5.layerVal hj v).1 hd
 exact this
theorem PartIn.count {k b : Nat} {w x x' : World} {p : PartT} {A3 : Option Addr} {c3 g c5 : Nat} {S : List Nat} (C : PartIn k w x b p A3 c3 (some ⟨g, 0, none⟩) c5 S) {j : Nat} (hj : j < p.layers.length) (v : Int) (hv : IsNum v) (hn : p.layers[j].name.toList = [99, 111, 117, 110, 116, 115] ∨ p.layers[j].name.toList = [104, 101, 97, 114, 115])
  (hx : x' = x.setCell ⟨g, j * 2 + 1, none⟩ (.int .i64 v)) : PartIn k w x' b ⟨p.core, p.layers.set j ⟨p.layers[j].name, v⟩⟩ A3 c3 (some ⟨g, 0, none⟩) c5 S := by
 obtain ⟨g', e, hg, _, _, _, hput⟩ := C.is.layerAt hj
 cases e
 have P := hput v hv hn
 have c : Chg [g] x x' := by rw [hx]; exact (Chg.refl _ _).setCell (.inl (by simp)) _
 have hge := C.is.new g hg
 have hgb : b ≠ g := fun e => C.nb (e ▸ hg)
 have hgz : w.heap.size ≠ g := fun e => C.nz (e ▸ hg)
 subst hx
 exact ⟨by have := C.box.keep c (by simpa using hgb); simpa using this, by simpa using P, C.nb, C.nz, C.z.keep c (by simpa using hgz), C.cur.keep c (by have := C.hk; simp; omega), C.chg.trans c (fun y hy => .inr (by simp at hy; omega)), C.lo, C.hk⟩
/-- A valid part, drawn. -/
def DrPart (k : Nat) (w : World) (e : Ending) (w' : World) : Prop := ∃ (p : PartT) (A3 : Option Addr) (c3 : Nat) (A5 : Option Addr) (c5 : Nat) (S : List Nat), e = .returned (.agg #[.string p.core.kind, .bool p.core.on, .bool p.core.broken, .slice A3 p.core.cells.length c3, .int .i64 p.core.count, .slice A5 p.layers.length c5]) ∧ PartIs w w' p (.slice A3 p.core.cells.length c3) (.slice A5 p.layers.length c5) S ∧ Cur w' k ∧ Chg [k] w w'
/-- What the loop's first region finds. -/
def Wrapped (k : Nat) (w : World) (b : Nat) (s5 s6 : Value) (wx : World) : Prop := ∃ (g5 g6 : Nat) (q : PartT) (rp : RepT) (B3 : Option Addr) (d3 : Nat) (B5 : Option Addr) (d5 : Nat) (T : List Nat),
 s5 = .pointer (some ⟨g5, 0, none⟩) ∧ s6 = .pointer (some ⟨g6, 0, none⟩) ∧ Hid (∃ (p : PartT) (A3 : Option Addr) (c3 : Nat) (A5 : Option Addr) (c5 : Nat) (S : List Nat), PartIn k w wx b p A3 c3 A5 c5 S) ∧
 Hid (Box wx g5 [.string q.core.kind, .bool q.core.on, .bool q.core.broken, .slice B3 q.core.cells.length d3, .int .i64 q.core.count, .slice B5 q.layers.length d5]) ∧ Hid (Box wx g6 [.int .i64 rp.code, .int .i64 rp.value, .string rp.text, .int .i64 rp.want, .int .i64 rp.had]) ∧ Hid (PartIs w wx q (.slice B3 q.core.cells.length d3) (.slice B5 q.layers.length d5) T) ∧ Hid (b ∉ T ∧ w.heap.size ∉ T ∧ g5 ≠ b ∧ g5 ≠ w.heap.size)
structure Wit5 where
 fc : Int
 name : ByteArray
 q : PartT
 rp : RepT
 B3 : Option Addr
 e3 : Nat
 B5 : Option Addr
 e5 : Nat
 T : List Nat
 g5 : Nat
 g6 : Nat
/-- What holds within the region that wraps, whatever has come up. -/
structure Wr5 (k : Nat) (w wr : World) (p : PartT) (A3 : Option Addr) (c3 : Nat) (A5 : Option Addr) (c5 : Nat) (d : Nat → Bool) (v : Nat → Value) (W : World) (z : Wit5) : Prop where
 h0 : d 0 = true → v 19 = .agg #[.string p.core.kind, .bool p.core.on, .bool p.core.broken, .slice A3 p.core.cells.length c3, .int .i64 p.core.count, .slice A5 p.layers.length c5]
 h1 : d 1 = true → v 20 = .pointer (some ⟨k, 0, none⟩)
 h2 : d 2 = true → v 21 = .agg #[.string p.core.kind, .bool p.core.on, .bool p.core.broken, .slice A3 p.core.cells.length c3, .int .i64 p.core.count, .slice A5 p.layers.length c5]
 h3 : d 3 = true → v 22 = .int .i64 z.fc
 h4 : d 4 = true → v 23 = .string z.name
 h5 : d 5 = true → v 24 = .tuple #[.agg #[.string z.q.core.kind, .bool z.q.core.on, .bool z.q.core.broken, .slice z.B3 z.q.core.cells.length z.e3, .int .i64 z.q.core.count, .slice z.B5 z.q.layers.length z.e5], .agg #[.int .i64 z.rp.code, .int .i64 z.rp.value, .string z.rp.text, .int .i64 z.rp.want, .int .i64 z.rp.had]]
 h6 : d 6 = true → v 18 = .tuple #[.agg #[.string z.q.core.kind, .bool z.q.core.on, .bool z.q.core.broken, .slice z.B3 z.q.core.cells.length z.e3, .int .i64 z.q.core.count, .slice z.B5 z.q.layers.length z.e5], .agg #[.int .i64 z.rp.code, .int .i64 z.rp.value, .string z.rp.text, .int .i64 z.rp.want, .int .i64 z.rp.had]]
 h7 : d 7 = true → v 25 = .agg #[.string z.q.core.kind, .bool z.q.core.on, .bool z.q.core.broken, .slice z.B3 z.q.core.cells.length z.e3, .int .i64 z.q.core.count, .slice z.B5 z.q.layers.length z.e5]
 h8 : d 8 = true → v 26 = .agg #[.int .i64 z.rp.code, .int .i64 z.rp.value, .string z.rp.text, .int .i64 z.rp.want, .int .i64 z.rp.had]
 h9 : d 9 = true → v 5 = .pointer (some ⟨z.g5, 0, none⟩)
 h10 : d 10 = true → v 6 = .pointer (some ⟨z.g6, 0, none⟩)
 h11 : d 9 = true → d 10 = true → z.g5 ≠ z.g6
 h12 : Chg [k] wr W
 h13 : Cur W k
 h14 : d 5 = true → PartIs w W z.q (.slice z.B3 z.q.core.cells.length z.e3) (.slice z.B5 z.q.layers.length z.e5) z.T ∧ (∀ y, y ∈ z.T → wr.heap.size ≤ y) ∧ (d 9 = true → z.g5 ∉ z.T) ∧ (d 10 = true → z.g6 ∉ z.T)
 h15 : d 9 = true → wr.heap.size ≤ z.g5 ∧ Box W z.g5 (if d 11 = true then [.string z.q.core.kind, .bool z.q.core.on, .bool z.q.core.broken, .slice z.B3 z.q.core.cells.length z.e3, .int .i64 z.q.core.count, .slice z.B5 z.q.layers.length z.e5] else [.string ⟨#[]⟩, .bool false, .bool false, .slice none 0 0, .int .i64 0, .slice none 0 0])
 h16 : d 10 = true → wr.heap.size ≤ z.g6 ∧ Box W z.g6 (if d 12 = true then [.int .i64 z.rp.code, .int .i64 z.rp.value, .string z.rp.text, .int .i64 z.rp.want, .int .i64 z.rp.had] else [.int .i64 0, .int .i64 0, .string ⟨#[]⟩, .int .i64 0, .int .i64 0])
 h17 : (d 6 = true → d 5 = true) ∧ (d 7 = true → d 5 = true) ∧ (d 8 = true → d 5 = true) ∧ (d 11 = true → d 5 = true ∧ d 9 = true) ∧ (d 12 = true → d 5 = true ∧ d 10 = true)
 h18 : k < wr.heap.size
theorem Wr5.world {k : Nat} {w wr W W2 : World} {p : PartT} {A3 : Option Addr} {c3 : Nat} {A5 : Option Addr} {c5 : Nat} {d : Nat → Bool} {v : Nat → Value} {z : Wit5} (H : Wr5 k w wr p A3 c3 A5 c5 d v W z) (c : Chg [k] W W2) (q : Cur W2 k) : Wr5 k w wr p A3 c3 A5 c5 d v W2 z :=
 ⟨H.h0, H.h1, H.h2, H.h3, H.h4, H.h5, H.h6, H.h7, H.h8, H.h9, H.h10, H.h11, H.h12.trans c (fun y hy => .inl hy), q, fun h => ⟨(H.h14 h).1.keepS c (fun y hy e => by have := (H.h14 h).2.1 y hy; have := H.h18; simp at e; omega), (H.h14 h).2⟩,
   fun h => ⟨(H.h15 h).1, (H.h15 h).2.keep c (by have := (H.h15 h).1; have := H.h18; simp; omega)⟩, fun h => ⟨(H.h16 h).1, (H.h16 h).2.keep c (by have := (H.h16 h).1; have := H.h18; simp; omega)⟩, H.h17, H.h18⟩
theorem wK {K : Act → World → Prop} {a : Act} {w : World} (h : ∀ W2, W2 = w → K a W2) : K a w := h w rfl
def J5 (k : Nat) (w wr : World) (p : PartT) (A3 : Option Addr) (c3 : Nat) (A5 : Option Addr) (c5 : Nat) (d : Nat → Bool) (v : Nat → Value) (W : World) : Prop := ∃ z, Wr5 k w wr p A3 c3 A5 c5 d v W z
/-- What holds within the region that sets a count. -/
structure Cn12 (k : Nat) (w x : World) (b : Nat) (p : PartT) (A3 : Option Addr) (c3 g c5 n2 : Nat) (S : List Nat) (j2 : Nat) (hj : j2 < p.layers.length) (d : Nat → Bool) (v : Nat → Value) (W : World) (z : Int) : Prop where
 h0 : d 0 = true → v 47 = .pointer (some ⟨b, 5, none⟩)
 h1 : d 1 = true → v 48 = .slice (some ⟨g, 0, none⟩) n2 c5
 h2 : d 2 = true → v 49 = .int .i64 (j2 : Int)
 h3 : d 3 = true → v 50 = .pointer (some ⟨k, 0, none⟩)
 h4 : d 4 = true → v 51 = .int .i64 z
 h5 : d 5 = true → v 52 = .pointer (some ⟨g, j2 * 2, none⟩)
 h6 : d 6 = true → v 53 = .pointer (some ⟨g, j2 * 2 + 1, none⟩)
 h7 : d 7 = true → PartIn k w W b ⟨p.core, p.layers.set j2 ⟨p.layers[j2].name, z⟩⟩ A3 c3 (some ⟨g, 0, none⟩) c5 S
 h8 : d 7 = false → Chg [k] x W ∧ Cur W k
 h9 : d 4 = true → 0 ≤ z ∧ z < 4
 h10 : d 7 = true → d 1 = true ∧ d 4 = true
def J12 (k : Nat) (w x : World) (b : Nat) (p : PartT) (A3 : Option Addr) (c3 g c5 n2 : Nat) (S : List Nat) (j2 : Nat) (hj : j2 < p.layers.length) (d : Nat → Bool) (v : Nat → Value) (W : World) : Prop := ∃ z, Cn12 k w x b p A3 c3 g c5 n2 S j2 hj d v W z
theorem l4Draw_any (k : Nat) (w : World) (hcur : Cur w k) :
  Calls Tryz.prog 42 #[.pointer (some ⟨k, 0, none⟩)] w (DrPart k w) := by
 have hk := hcur.lt
 have BL := Lib.hid (fun n W (hc : Cur W k) => l1Below_any k n W hc)
 have ON := Lib.hid (fun n W (hc : Cur W k) => l1Once_any k n W hc)
 have DC := Lib.hid (fun W (hc : Cur W k) => l3Draw_any k W hc)
 have FI := Lib.hid (fun f W (hc : Cur W k) => l4Fitting_any k f W hc)
 go_enter Tryz.func42, Tryz.ntmps42
 go_wp2_with fail
 refine calls_name fun x0 hx0 => ?_
 have c0 : Chg [] w x0 := by rw [hx0]; exact Chg.now
 have Z0 : Box x0 w.heap.size [.string ⟨#[]⟩, .bool false, .bool false, .slice none 0 0, .int .i64 0, .slice none 0 0] := by rw [hx0]; exact Box.new _ _ _
 clear hx0
 refine (DC.out _ (hcur.keep0 c0)).mono ?_
 rintro e w1 ⟨p, A, cap, rfl, ⟨S, N, lo, c1⟩, ok, q1⟩
 have s0 := c0.size
 have l0 := Z0.lt
 have s1 := c1.size
 have Z1 := Lib.hid (Z0.keep c1 (by simp; omega))
 have D1 := Lib.hid ((c0.mono (T := [k]) (by simp)).trans c1 (fun x hx => .inl hx))
 have N1 := Lib.hid (show Has w1 (cells p.cells) (.slice A p.cells.length cap) S ∧ (∀ y, y ∈ S → x0.heap.size ≤ y) ∧ CoreOk p from ⟨N, lo, ok⟩)
 have t1 : w.heap.size < w1.heap.size := by omega
 have L0 := Lib.hid l0
 clear Z0 c0 c1 N lo ok l0 s1 s0 hcur
 go_wp2_with fail
 refine calls_name fun x2 hx2 => ?_
 have C2 : Hid (PartIn k w x2 w1.heap.size ⟨p, []⟩ A cap none 0 (S ++ [])) := by
  have e2 : Chg [] w1 x2 := by rw [hx2]; exact Chg.now
  have hlt := N1.out.1.lt
  exact Lib.hid ⟨by rw [hx2]; exact Box.new _ _ _, ⟨HasL.ofPart (p := ⟨p, []⟩) (N1.out.1.keep0 e2) ⟨by rw [layers, Own]; exact .inl ⟨rfl, rfl, rfl, rfl⟩, List.nodup_nil⟩ (by simp), fun y hy => by have := N1.out.2.1 y (by simpa using hy); (have := L0.out; omega), ⟨N1.out.2.2, by simp, fun k h => by simp at h⟩⟩, fun h => by have := hlt _ (by simpa using h); omega, fun h => by (have := N1.out.2.1 _ (by simpa using h); have := L0.out; omega), Z1.out.keep e2, q1.keep0 e2, D1.out.trans0 e2, t1, hk⟩
 clear hx2 N1 Z1 D1 L0 q1
 obtain ⟨b, hb⟩ : ∃ b, b = w1.heap.size := ⟨_, rfl⟩
 rw [← hb] at C2 ⊢
 clear hb
 refine (BL.out 4 _ C2.out.cur).mono ?_
 rintro e w3 ⟨r, rfl, ⟨r0, r4⟩, q3, c3⟩
 have r4 := r4 (by omega)
 obtain ⟨n, rfl⟩ : ∃ n : Nat, r = (n : Int) := ⟨r.toNat, by omega⟩
 have hn : n ≤ 3 := by omega
 have C3 := Lib.hid (C2.out.keep c3 q3)
 clear C2 c3 q3 r0 r4
 go_wp2_with fail
 go_loopw [4] (fun n wr => ∃ (j : Nat), n = .int .i64 (j : Int) ∧ j ≤ 3 ∧ Hid (∃ (p : PartT) (A3 : Option Addr) (c3 : Nat) (A5 : Option Addr) (c5 : Nat) (S : List Nat), PartIn k w wr b p A3 c3 A5 c5 S)) (fun n _ => (intOf n).toNat)
 case atStart => exact ⟨n, rfl, hn, Lib.hid ⟨_, _, _, _, _, _, C3.out⟩⟩
 case round =>
  obtain ⟨j, rfl, hj, hC⟩ := hrel
  obtain ⟨p, A3, c3, A5, c5, S, C⟩ := hC.out
  by_cases hj0 : 0 < j
  case neg =>
   obtain rfl : j = 0 := by omega
   have HC := Lib.hid C
   clear hC C
   clear FI DC
   have HZ := Lib.hid (fun W (hW : W = wr) => (show PartIn k w W b p A3 c3 A5 c5 S from by rw [hW]; exact HC.out))
   obtain ⟨b0, b1, b2, b3, b4, b5⟩ := HC.out.box.o6
   obtain ⟨n2, hn2⟩ : ∃ n2, n2 = p.layers.length := ⟨_, rfl⟩
   rw [← hn2] at b5
   have HN := Lib.hid hn2
   clear hn2
   go_wp2_with fail
   go_loopw [34] (fun i wr2 => ∃ (j : Nat), i = .int .i64 (j : Int) ∧ j ≤ n2 ∧ Hid (∃ p' : PartT, p'.layers.length = n2 ∧ PartIn k w wr2 b p' A3 c3 A5 c5 S)) (fun i _ => n2 - (intOf i).toNat)
   case atStart => exact ⟨0, rfl, Nat.zero_le _, Lib.hid ⟨p, HN.out.symm, HC.out⟩⟩
   case round =>
    obtain ⟨j2, rfl, hj2, hC2⟩ := hrel
    by_cases hj3 : j2 < n2
    case neg =>
     obtain ⟨p', hlen, C'⟩ := hC2.out
     obtain ⟨b0, b1, b2, b3, b4, b5⟩ := C'.box.o6
     have bf := C'.box.f
     obtain ⟨z0, z1, z2, z3, z4, z5⟩ := C'.z.o6
     have zf := C'.z.f
     have C' := Lib.hid C'
     clear hC2
     go_wp2_with fail
     refine bodyPost_ret (v := .agg #[.string p'.core.kind, .bool p'.core.on, .bool p'.core.broken, .slice A3 p'.core.cells.length c3, .int .i64 p'.core.count, .slice A5 p'.layers.length c5]) (by simp only [results, Tryz.results42]; go_simp) rfl ?_
     exact ⟨p', A3, c3, A5, c5, S, rfl, C'.out.is.keepS (T := [w.heap.size]) Chg.now (fun y hy e => by simp at e; subst e; exact C'.out.nz hy), C'.out.cur.keep (S := [w.heap.size]) Chg.now (by have := C'.out.hk; simp; omega), Chg.to C'.out.chg⟩
    case pos =>
     obtain ⟨p', hlen, C'⟩ := hC2.out
     have hjp : j2 < p'.layers.length := by omega
     obtain ⟨g, rfl, hg, l0, l1, lf, hput⟩ := C'.is.layerAt hjp
     obtain ⟨nm, hnm⟩ : ∃ nm, nm = p'.layers[j2].name := ⟨_, rfl⟩
     rw [← hnm] at l0
     have HL := Lib.hid hlen
     have HP := Lib.hid hput
     have HM := Lib.hid hnm
     have C' := Lib.hid C'
     clear hC2 hput hlen hnm
     have h3 := C'.out.is.ok.2.1
     have wj : IntKind.i64.wrap ((j2 : Int) + 1) = (j2 : Int) + 1 := wr_id (by omega) (by omega)
     by_cases hnn : nm.toList = [99, 111, 117, 110, 116, 115] ∨ nm.toList = [104, 101, 97, 114, 115]
     case neg =>
      have e1 : ¬ nm.toList = [99, 111, 117, 110, 116, 115] := fun h => hnn (.inl h)
      have e2 : ¬ nm.toList = [104, 101, 97, 114, 115] := fun h => hnn (.inr h)
      have e3 : (nm.toList == [99, 111, 117, 110, 116, 115]) = false := by rw [beq_eq_false_iff_ne]; exact e1
      have e4 : (nm.toList == [104, 101, 97, 114, 115]) = false := by rw [beq_eq_false_iff_ne]; exact e2
      clear hnn
      go_wp2_with fail
      go_roundw
      case rel => exact ⟨j2 + 1, by first | rfl | go_num, by omega, Lib.hid ⟨p', HL.out, C'.out.keep0 Chg.now⟩⟩
      case measure => first | (simp [intOf]; omega) | (simp [intOf])
     case pos =>
      have HNN := Lib.hid hnn
      rcases hnn with hcn | hcn
      all_goals
       go_upto_region 12 with fail
       refine wp_called ?_
       intro x hx
       have CX : Hid (PartIn k w x b p' A3 c3 (some ⟨g, 0, none⟩) c5 S) := Lib.hid (C'.out.keep0 (by rw [hx]; exact Chg.now))
       have NX : Hid (p'.layers[j2].name.toList = [99, 111, 117, 110, 116, 115] ∨ p'.layers[j2].name.toList = [104, 101, 97, 114, 115]) := Lib.hid (by rw [← HM.out]; exact HNN.out)
       clear hx l0 l1 lf hcn C' HP
       have LX := Lib.hid (fun W (c : Chg [k] x W) => (show W.cell? ⟨b, 5, none⟩ = some (.slice (some ⟨g, 0, none⟩) n2 c5) from by have := (CX.out.box.keep c (by have := CX.out.lo; have := CX.out.hk; simp; omega)).c 5 _ rfl; rw [HL.out] at this; exact this))
       refine wp_region_J (b := ⟨#[], []⟩) [47, 48, 49, 50, 51, 52, 53] (J12 k w x b p' A3 c3 g c5 n2 S j2 hjp) (by kernel_rfl) (by rfl) (by kernel_rfl) (by kernel_rfl) ?_ ?_ ?_
       ·exact ⟨0, by simp, by simp, by simp, by simp, by simp, by simp, by simp, by simp, fun _ => ⟨Chg.now, CX.out.cur.keep0 Chg.now⟩, by simp, by simp⟩
       ·refine ⟨?_, ?_, ?_, ?_, ?_, ?_, ?_, ?_, trivial⟩
        ·intro d v W hd hpre hJ K hK
         obtain ⟨z, H⟩ := hJ
         have H := Lib.hid H
         clear hpre
         simp only [upd, List.set_cons_zero, List.set_cons_succ]
         go_simp
         refine regK hK (by simp only [upd, Act.put, List.setIfInBounds_toArray, List.set_cons_zero, List.set_cons_succ]; rfl) ?_
         exact ⟨z, ⟨by simp [putv], by simpa [putv] using H.out.h1, by simpa [putv] using H.out.h2, by simpa [putv] using H.out.h3, by simpa [putv] using H.out.h4, by simpa [putv] using H.out.h5, by simpa [putv] using H.out.h6, by simpa [putv] using H.out.h7, by simpa [putv] using H.out.h8, by simpa [putv] using H.out.h9, by simpa [putv] using H.out.h10⟩⟩
        ·intro d v W hd hpre hJ K hK
         obtain ⟨z, H⟩ := hJ
         have H := Lib.hid H
         have p0 : d 0 = true := hpre ⟨0, Ground.data⟩ (by simp) rfl
         clear hpre
         have d7 : d 7 = false := by cases h : d 7 with | false => rfl | true => exact absurd ((H.out.h10 h).1.symm.trans hd) (by simp)
         have y5 := LX.out W (H.out.h8 d7).1
         have e100 := H.out.h0 p0
         simp only [upd, List.set_cons_zero, List.set_cons_succ, e100]
         go_simp
         refine regK hK (by simp only [upd, Act.put, List.setIfInBounds_toArray, List.set_cons_zero, List.set_cons_succ, e100]; rfl) ?_
         exact ⟨z, ⟨by simpa [putv] using H.out.h0, by simp [putv], by simpa [putv] using H.out.h2, by simpa [putv] using H.out.h3, by simpa [putv] using H.out.h4, by simpa [putv] using H.out.h5, by simpa [putv] using H.out.h6, by simpa [putv] using H.out.h7, by simpa [putv] using H.out.h8, by simpa [putv] using H.out.h9, fun h => by have h := H.out.h10 (by simpa using h); simp [h]⟩⟩
        ·intro d v W hd hpre hJ K hK
         obtain ⟨z, H⟩ := hJ
         have H := Lib.hid H
         clear hpre
         simp only [upd, List.set_cons_zero, List.set_cons_succ]
         go_simp
         refine regK hK (by simp only [upd, Act.put, List.setIfInBounds_toArray, List.set_cons_zero, List.set_cons_succ]; rfl) ?_
         exact ⟨z, ⟨by simpa [putv] using H.out.h0, by simpa [putv] using H.out.h1, by simp [putv], by simpa [putv] using H.out.h3, by simpa [putv] using H.out.h4, by simpa [putv] using H.out.h5, by simpa [putv] using H.out.h6, by simpa [putv] using H.out.h7, by simpa [putv] using H.out.h8, by simpa [putv] using H.out.h9, by simpa [putv] using H.out.h10⟩⟩
        ·intro d v W hd hpre hJ K hK
         obtain ⟨z, H⟩ := hJ
         have H := Lib.hid H
         clear hpre
         simp only [upd, List.set_cons_zero, List.set_cons_succ]
         go_simp
         refine regK hK (by simp only [upd, Act.put, List.setIfInBounds_toArray, List.set_cons_zero, List.set_cons_succ]; rfl) ?_
         exact ⟨z, ⟨by simpa [putv] using H.out.h0, by simpa [putv] using H.out.h1, by simpa [putv] using H.out.h2, by simp [putv], by simpa [putv] using H.out.h4, by simpa [putv] using H.out.h5, by simpa [putv] using H.out.h6, by simpa [putv] using H.out.h7, by simpa [putv] using H.out.h8, by simpa [putv] using H.out.h9, by simpa [putv] using H.out.h10⟩⟩
        ·intro d v W hd hpre hJ K hK
         obtain ⟨z, H⟩ := hJ
         have H := Lib.hid H
         have p3 : d 3 = true := hpre ⟨3, Ground.data⟩ (by simp) rfl
         clear hpre
         have d7 : d 7 = false := by cases h : d 7 with | false => rfl | true => exact absurd ((H.out.h10 h).2.symm.trans hd) (by simp)
         have e103 := H.out.h3 p3
         simp only [upd, List.set_cons_zero, List.set_cons_succ, e103]
         go_simp
         go_at_call 51
         refine (BL.out 4 W (H.out.h8 d7).2).mono ?_
         rintro e W2 ⟨z2, rfl, ⟨y0, y1⟩, q2, c2⟩
         dsimp only
         have y1 := y1 (by omega)
         have HC := Lib.hid ((H.out.h8 d7).1.trans c2 (fun y hy => .inl hy))
         refine regK hK (by simp only [upd, Act.put, List.setIfInBounds_toArray, List.set_cons_zero, List.set_cons_succ, e103]; rfl) ?_
         exact ⟨z2, ⟨by simpa [putv] using H.out.h0, by simpa [putv] using H.out.h1, by simpa [putv] using H.out.h2, by simpa [putv] using H.out.h3, by simp [putv], by simpa [putv] using H.out.h5, by simpa [putv] using H.out.h6, fun h => absurd (h.symm.trans (show _ = false by simpa using d7)) (by simp), fun _ => ⟨HC.out, q2⟩, fun _ => ⟨y0, by omega⟩, fun h => absurd (h.symm.trans (show _ = false by simpa using d7)) (by simp)⟩⟩
        ·intro d v W hd hpre hJ K hK
         obtain ⟨z, H⟩ := hJ
         have H := Lib.hid H
         have p1 : d 1 = true := hpre ⟨1, Ground.data⟩ (by simp) rfl
         have p2 : d 2 = true := hpre ⟨2, Ground.data⟩ (by simp) rfl
         clear hpre
         have e101 := H.out.h1 p1
         have e102 := H.out.h2 p2
         simp only [upd, List.set_cons_zero, List.set_cons_succ, e101, e102]
         go_simp
         refine regK hK (by simp only [upd, Act.put, List.setIfInBounds_toArray, List.set_cons_zero, List.set_cons_succ, e101, e102]; rfl) ?_
         exact ⟨z, ⟨by simpa [putv] using H.out.h0, by simpa [putv] using H.out.h1, by simpa [putv] using H.out.h2, by simpa [putv] using H.out.h3, by simpa [putv] using H.out.h4, by simp [putv], by simpa [putv] using H.out.h6, by simpa [putv] using H.out.h7, by simpa [putv] using H.out.h8, by simpa [putv] using H.out.h9, by simpa [putv] using H.out.h10⟩⟩
        ·intro d v W hd hpre hJ K hK
         obtain ⟨z, H⟩ := hJ
         have H := Lib.hid H
         have p5 : d 5 = true := hpre ⟨5, Ground.data⟩ (by simp) rfl
         clear hpre
         have e105 := H.out.h5 p5
         simp only [upd, List.set_cons_zero, List.set_cons_succ, e105]
         go_simp
         refine regK hK (by simp only [upd, Act.put, List.setIfInBounds_toArray, List.set_cons_zero, List.set_cons_succ, e105]; rfl) ?_
         exact ⟨z, ⟨by simpa [putv] using H.out.h0, by simpa [putv] using H.out.h1, by simpa [putv] using H.out.h2, by simpa [putv] using H.out.h3, by simpa [putv] using H.out.h4, by simpa [putv] using H.out.h5, by simp [putv], by simpa [putv] using H.out.h7, by simpa [putv] using H.out.h8, by simpa [putv] using H.out.h9, by simpa [putv] using H.out.h10⟩⟩
        ·intro d v W hd hpre hJ K hK
         obtain ⟨z, H⟩ := hJ
         have H := Lib.hid H
         have p6 : d 6 = true := hpre ⟨6, Ground.data⟩ (by simp) rfl
         have p4 : d 4 = true := hpre ⟨4, Ground.data⟩ (by simp) rfl
         have p1 : d 1 = true := hpre ⟨1, Ground.phase⟩ (by simp) rfl
         clear hpre
         have ⟨g', eg, hg', m0, m1, mf, mput⟩ := (CX.out.keep (H.out.h8 hd).1 (H.out.h8 hd).2).is.layerAt hjp
         cases eg
         clear mput hg'
         have e106 := H.out.h6 p6
         have e104 := H.out.h4 p4
         simp only [upd, List.set_cons_zero, List.set_cons_succ, e106, e104]
         go_simp
         refine wK ?_
         intro W2 hW2
         have CW2 := Lib.hid ((CX.out.keep (H.out.h8 hd).1 (H.out.h8 hd).2).count hjp z ⟨(H.out.h9 p4).1, by have := (H.out.h9 p4).2; omega⟩ NX.out hW2)
         clear hW2
         refine regK (x := undef) hK (by (try simp only [upd, Act.put, List.set_cons_zero, List.set_cons_succ, e106, e104]); (try rfl)) ?_
         exact ⟨z, ⟨by simpa [putv] using H.out.h0, by simpa [putv] using H.out.h1, by simpa [putv] using H.out.h2, by simpa [putv] using H.out.h3, by simpa [putv] using H.out.h4, by simpa [putv] using H.out.h5, by simpa [putv] using H.out.h6, fun _ => CW2.out, fun h => absurd h (by simp), by simpa [putv] using H.out.h9, fun _ => by simp [p1, p4]⟩⟩
       ·intro v W hJ
        obtain ⟨z, H⟩ := hJ
        have C7 := Lib.hid (H.h7 rfl)
        have E := Lib.hid (show p'.layers.length = (⟨p'.core, p'.layers.set j2 ⟨p'.layers[j2].name, z⟩⟩ : PartT).layers.length from by simp)
        clear H LX CX
        simp only [upd, List.set_cons_zero, List.set_cons_succ]
        go_wp2_with fail
        refine (ON.out 15 _ C7.out.cur).mono ?_
        rintro e W8 ⟨t, rfl, q8, c8⟩
        have C8 := Lib.hid (C7.out.keep c8 q8)
        clear q8 c8 C7
        have hj8 : j2 < (⟨p'.core, p'.layers.set j2 ⟨p'.layers[j2].name, z⟩⟩ : PartT).layers.length := by simpa using hjp
        have N8 : Hid ((⟨p'.core, p'.layers.set j2 ⟨p'.layers[j2].name, z⟩⟩ : PartT).layers[j2].name.toList = [99, 111, 117, 110, 116, 115] ∨ (⟨p'.core, p'.layers.set j2 ⟨p'.layers[j2].name, z⟩⟩ : PartT).layers[j2].name.toList = [104, 101, 97, 114, 115]) := Lib.hid (by simpa using NX.out)
        cases t
        case false =>
         go_wp2_with fail
         go_roundw
         case rel => (repeat apply Exists.intro); exact ⟨⟨j2 + 1, by first | rfl | go_num, by omega, Lib.hid ⟨_, E.out.symm.trans HL.out, C8.out.keep0 Chg.now⟩⟩, rfl⟩
         case measure => first | (simp [intOf]; omega) | (simp [intOf])
        case true =>
         have ⟨g8, eg, hg8, m0, m1, mf, mput⟩ := C8.out.is.layerAt hj8
         cases eg
         clear mput hg8
         have y5 := C8.out.box.c 5 _ rfl
         rw [← E.out, HL.out] at y5
         go_wp2_with fail
         go_roundw
         case rel => (repeat apply Exists.intro); exact ⟨⟨j2 + 1, by first | rfl | go_num, by omega, Lib.hid ⟨_, (by show (List.set _ _ _).length = n2; rw [List.length_set]; exact E.out.symm.trans HL.out), C8.out.count hj8 999 ⟨by decide, by decide⟩ N8.out rfl⟩⟩, rfl⟩
         case measure => first | (simp [intOf]; omega) | (simp [intOf])
  case pos =>
   obtain ⟨i, rfl⟩ : ∃ i, j = i + 1 := ⟨j - 1, by omega⟩
   have hji : (0 : Int) < ((i + 1 : Nat) : Int) := by omega
   have wj : IntKind.i64.wrap (((i + 1 : Nat) : Int) - 1) = (i : Int) := by rw [wr_id (by omega) (by omega)]; omega
   obtain ⟨b0, b1, b2, b3, b4, b5⟩ := C.box.o6
   have bf := C.box.f
   have C := Lib.hid C
   have CX := C
   have BX := Lib.hid (fun W (c : Chg [k] wr W) (q : Cur W k) => (C.out.keep c q).box.o6)
   have FO := Lib.hid (fun W (c : Chg [k] wr W) (q : Cur W k) => (faceOf_spec_any p (.slice A3 p.core.cells.length c3) _ W.heap.size W (C.out.keep c q).is.rd.2 (Nat.le_refl _)).mono (fun e w' h => (show ∃ fc, e = .returned (.int .i64 fc) ∧ Chg [] W w' from ⟨_, h⟩)))
   have WR := Lib.hid (fun name W (hW : Chg [k] wr W) (q : Cur W k) => (wrap_spec_any p name _ _ W.heap.size W (C.out.keep hW q).is.rd.1 (C.out.keep hW q).is.rd.2 (Nat.le_refl _) (partOk_few C.out.is.ok).1 (partOk_few C.out.is.ok).2.1 (partOk_few C.out.is.ok).2.2).mono (fun e w' h => (show ∃ (q : PartT) (rp : RepT) (B3 : Option Addr) (d3 : Nat) (B5 : Option Addr) (d5 : Nat), e = .returned (.tuple #[.agg #[.string q.core.kind, .bool q.core.on, .bool q.core.broken, .slice B3 q.core.cells.length d3, .int .i64 q.core.count, .slice B5 q.layers.length d5], .agg #[.int .i64 rp.code, .int .i64 rp.value, .string rp.text, .int .i64 rp.want, .int .i64 rp.had]]) ∧ PartOk q ∧ NewL W w' (partF q) [.string q.core.kind, .bool q.core.on, .bool q.core.broken, .slice B3 q.core.cells.length d3, .int .i64 q.core.count, .slice B5 q.layers.length d5] from by obtain ⟨B3, d3, B5, d5, e, N⟩ := h; exact ⟨_, _, B3, d3, B5, d5, e, wrapOf_ok C.out.is.ok, N⟩)))
   clear hC
   go_upto_region 5 with fail
   go_cut [5, 6] from 14 to 30 (fun s5 s6 wx => Wrapped k w b s5 s6 wx)
   case first =>
     refine wp_region_J (b := ⟨#[], []⟩) [19, 20, 21, 22, 23, 24, 18, 25, 26, 5, 6] (J5 k w wr p A3 c3 A5 c5) (by kernel_rfl) (by rfl) (by kernel_rfl) (by kernel_rfl) ?_ ?_ ?_
     ·exact ⟨⟨0, ⟨#[]⟩, p, repOf 0 0 0 0, A3, c3, A5, c5, [], 0, 0⟩, by simp, by simp, by simp, by simp, by simp, by simp, by simp, by simp, by simp, by simp, by simp, by simp, Chg.now, C.out.cur.keep0 Chg.now, by simp, by simp, by simp, by simp, (by have := C.out.hk; have := C.out.chg.size; omega)⟩
     ·refine ⟨?_, ?_, ?_, ?_, ?_, ?_, ?_, ?_, ?_, ?_, ?_, ?_, ?_, trivial⟩
      ·intro d v W hd hpre hJ K hK
       obtain ⟨z, H⟩ := hJ
       have H := Lib.hid H
       clear hpre
       have y := BX.out W H.out.h12 H.out.h13
       have y0 := y.1
       have y1 := y.2.1
       have y2 := y.2.2.1
       have y3 := y.2.2.2.1
       have y4 := y.2.2.2.2.1
       have y5 := y.2.2.2.2.2
       clear y
       simp only [upd, List.set_cons_zero, List.set_cons_succ]
       go_simp
       refine regK hK (by simp only [upd, Act.put, List.setIfInBounds_toArray, List.set_cons_zero, List.set_cons_succ]; rfl) ?_
       exact ⟨z, ⟨by simp [putv], by simpa [putv] using H.out.h1, by simpa [putv] using H.out.h2, by simpa [putv] using H.out.h3, by simpa [putv] using H.out.h4, by simpa [putv] using H.out.h5, by simpa [putv] using H.out.h6, by simpa [putv] using H.out.h7, by simpa [putv] using H.out.h8, by simpa [putv] using H.out.h9, by simpa [putv] using H.out.h10, by simpa [putv] using H.out.h11, by simpa [putv] using H.out.h12, by simpa [putv] using H.out.h13, by simpa [putv] using H.out.h14, by simpa [putv] using H.out.h15, by simpa [putv] using H.out.h16, by simpa [putv] using H.out.h17, by simpa [putv] using H.out.h18⟩⟩
      ·intro d v W hd hpre hJ K hK
       obtain ⟨z, H⟩ := hJ
       have H := Lib.hid H
       clear hpre
       simp only [upd, List.set_cons_zero, List.set_cons_succ]
       go_simp
       refine regK hK (by simp only [upd, Act.put, List.setIfInBounds_toArray, List.set_cons_zero, List.set_cons_succ]; rfl) ?_
       exact ⟨z, ⟨by simpa [putv] using H.out.h0, by simp [putv], by simpa [putv] using H.out.h2, by simpa [putv] using H.out.h3, by simpa [putv] using H.out.h4, by simpa [putv] using H.out.h5, by simpa [putv] using H.out.h6, by simpa [putv] using H.out.h7, by simpa [putv] using H.out.h8, by simpa [putv] using H.out.h9, by simpa [putv] using H.out.h10, by simpa [putv] using H.out.h11, by simpa [putv] using H.out.h12, by simpa [putv] using H.out.h13, by simpa [putv] using H.out.h14, by simpa [putv] using H.out.h15, by simpa [putv] using H.out.h16, by simpa [putv] using H.out.h17, by simpa [putv] using H.out.h18⟩⟩
      ·intro d v W hd hpre hJ K hK
       obtain ⟨z, H⟩ := hJ
       have H := Lib.hid H
       clear hpre
       have y := BX.out W H.out.h12 H.out.h13
       have y0 := y.1
       have y1 := y.2.1
       have y2 := y.2.2.1
       have y3 := y.2.2.2.1
       have y4 := y.2.2.2.2.1
       have y5 := y.2.2.2.2.2
       clear y
       simp only [upd, List.set_cons_zero, List.set_cons_succ]
       go_simp
       refine regK hK (by simp only [upd, Act.put, List.setIfInBounds_toArray, List.set_cons_zero, List.set_cons_succ]; rfl) ?_
       exact ⟨z, ⟨by simpa [putv] using H.out.h0, by simpa [putv] using H.out.h1, by simp [putv], by simpa [putv] using H.out.h3, by simpa [putv] using H.out.h4, by simpa [putv] using H.out.h5, by simpa [putv] using H.out.h6, by simpa [putv] using H.out.h7, by simpa [putv] using H.out.h8, by simpa [putv] using H.out.h9, by simpa [putv] using H.out.h10, by simpa [putv] using H.out.h11, by simpa [putv] using H.out.h12, by simpa [putv] using H.out.h13, by simpa [putv] using H.out.h14, by simpa [putv] using H.out.h15, by simpa [putv] using H.out.h16, by simpa [putv] using H.out.h17, by simpa [putv] using H.out.h18⟩⟩
      ·intro d v W hd hpre hJ K hK
       obtain ⟨z, H⟩ := hJ
       have H := Lib.hid H
       have p2 : d 2 = true := hpre ⟨2, Ground.data⟩ (by simp) rfl
       clear hpre
       have e102 := H.out.h2 p2
       simp only [upd, List.set_cons_zero, List.set_cons_succ, e102]
       go_simp
       go_at_call 77
       refine (FO.out W H.out.h12 H.out.h13).mono ?_
       rintro e W2 ⟨fc, rfl, c2⟩
       dsimp only
       have H2 := Lib.hid (H.out.world (c2.mono (by simp)) (H.out.h13.keep0 c2))
       refine regK hK (by simp only [upd, Act.put, List.setIfInBounds_toArray, List.set_cons_zero, List.set_cons_succ, e102]; rfl) ?_
       exact ⟨⟨fc, z.name, z.q, z.rp, z.B3, z.e3, z.B5, z.e5, z.T, z.g5, z.g6⟩, ⟨by simpa [putv] using H2.out.h0, by simpa [putv] using H2.out.h1, by simpa [putv] using H2.out.h2, by simp [putv], by simpa [putv] using H2.out.h4, by simpa [putv] using H2.out.h5, by simpa [putv] using H2.out.h6, by simpa [putv] using H2.out.h7, by simpa [putv] using H2.out.h8, by simpa [putv] using H2.out.h9, by simpa [putv] using H2.out.h10, by simpa [putv] using H2.out.h11, by simpa [putv] using H2.out.h12, by simpa [putv] using H2.out.h13, by simpa [putv] using H2.out.h14, by simpa [putv] using H2.out.h15, by simpa [putv] using H2.out.h16, by simpa [putv] using H2.out.h17, by simpa [putv] using H2.out.h18⟩⟩
      ·intro d v W hd hpre hJ K hK
       obtain ⟨z, H⟩ := hJ
       have H := Lib.hid H
       have p1 : d 1 = true := hpre ⟨1, Ground.data⟩ (by simp) rfl
       have p3 : d 3 = true := hpre ⟨3, Ground.data⟩ (by simp) rfl
       clear hpre
       have e101 := H.out.h1 p1
       have e103 := H.out.h3 p3
       simp only [upd, List.set_cons_zero, List.set_cons_succ, e101, e103]
       go_simp
       go_at_call 76
       refine (FI.out z.fc W H.out.h13).mono ?_
       rintro e W2 ⟨name, rfl, -, q2, c2⟩
       dsimp only
       have H2 := Lib.hid (H.out.world c2 q2)
       refine regK hK (by simp only [upd, Act.put, List.setIfInBounds_toArray, List.set_cons_zero, List.set_cons_succ, e101, e103]; rfl) ?_
       exact ⟨⟨z.fc, name, z.q, z.rp, z.B3, z.e3, z.B5, z.e5, z.T, z.g5, z.g6⟩, ⟨by simpa [putv] using H2.out.h0, by simpa [putv] using H2.out.h1, by simpa [putv] using H2.out.h2, by simpa [putv] using H2.out.h3, by simp [putv], by simpa [putv] using H2.out.h5, by simpa [putv] using H2.out.h6, by simpa [putv] using H2.out.h7, by simpa [putv] using H2.out.h8, by simpa [putv] using H2.out.h9, by simpa [putv] using H2.out.h10, by simpa [putv] using H2.out.h11, by simpa [putv] using H2.out.h12, by simpa [putv] using H2.out.h13, by simpa [putv] using H2.out.h14, by simpa [putv] using H2.out.h15, by simpa [putv] using H2.out.h16, by simpa [putv] using H2.out.h17, by simpa [putv] using H2.out.h18⟩⟩
      ·intro d v W hd hpre hJ K hK
       obtain ⟨z, H⟩ := hJ
       have H := Lib.hid H
       have p0 : d 0 = true := hpre ⟨0, Ground.data⟩ (by simp) rfl
       have p4 : d 4 = true := hpre ⟨4, Ground.data⟩ (by simp) rfl
       clear hpre
       have e100 := H.out.h0 p0
       have e104 := H.out.h4 p4
       simp only [upd, List.set_cons_zero, List.set_cons_succ, e100, e104]
       go_simp
       go_at_call 75
       refine (WR.out z.name W H.out.h12 H.out.h13).mono ?_
       rintro e W2 ⟨q, rp, B3, e3, B5, e5, rfl, okq, T, hT, lT, c2⟩
       dsimp only
       have H2 := Lib.hid (H.out.world (c2.mono (by simp)) (H.out.h13.keep0 c2))
       have dn := H.out.h17
       rw [hd] at dn
       have s12 := H.out.h12.size
       have sl : d 9 = true → z.g5 < W.heap.size := fun h => (H.out.h15 h).2.lt
       have sm : d 10 = true → z.g6 < W.heap.size := fun h => (H.out.h16 h).2.lt
       have sw := C.out.chg.size
       have n11 : ¬ d 11 = true := fun h => absurd (dn.2.2.2.1 h).1 (by simp)
       have n12 : ¬ d 12 = true := fun h => absurd (dn.2.2.2.2 h).1 (by simp)
       refine regK hK (by simp only [upd, Act.put, List.setIfInBounds_toArray, List.set_cons_zero, List.set_cons_succ, e100, e104]; rfl) ?_
       exact ⟨⟨z.fc, z.name, q, rp, B3, e3, B5, e5, T, z.g5, z.g6⟩, ⟨by simpa [putv] using H2.out.h0, by simpa [putv] using H2.out.h1, by simpa [putv] using H2.out.h2, by simpa [putv] using H2.out.h3, by simpa [putv] using H2.out.h4, by simp [putv], fun h => absurd (dn.1 (by simpa using h)) (by simp), fun h => absurd (dn.2.1 (by simpa using h)) (by simp), fun h => absurd (dn.2.2.1 (by simpa using h)) (by simp), by simpa [putv] using H2.out.h9, by simpa [putv] using H2.out.h10, by simpa [putv] using H2.out.h11, by simpa [putv] using H2.out.h12, by simpa [putv] using H2.out.h13, fun _ => ⟨⟨hT, fun y hy => by have := lT y hy; omega, okq⟩, fun y hy => by have := lT y hy; omega, fun h hy => absurd (sl (by simpa using h)) (Nat.not_lt.2 (lT _ hy)), fun h hy => absurd (sm (by simpa using h)) (Nat.not_lt.2 (lT _ hy))⟩, fun h => by have hh := H2.out.h15 (by simpa using h); rw [if_neg n11] at hh; show _ ∧ Box W2 z.g5 (if d 11 = true then _ else _); rw [if_neg n11]; exact hh, fun h => by have hh := H2.out.h16 (by simpa using h); rw [if_neg n12] at hh; show _ ∧ Box W2 z.g6 (if d 12 = true then _ else _); rw [if_neg n12]; exact hh, by simp only [show ((5 : Nat) == 5) = true from rfl, Bool.true_or, implies_true, true_and]; exact ⟨fun h => (dn.2.2.2.1 (by simpa using h)).2, fun h => (dn.2.2.2.2 (by simpa using h)).2⟩, by simpa [putv] using H2.out.h18⟩⟩
      ·intro d v W hd hpre hJ K hK
       obtain ⟨z, H⟩ := hJ
       have H := Lib.hid H
       have p5 : d 5 = true := hpre ⟨5, Ground.data⟩ (by simp) rfl
       clear hpre
       have e105 := H.out.h5 p5
       simp only [upd, List.set_cons_zero, List.set_cons_succ, e105]
       go_simp
       refine regK hK (by simp only [upd, Act.put, List.setIfInBounds_toArray, List.set_cons_zero, List.set_cons_succ, e105]; rfl) ?_
       exact ⟨z, ⟨by simpa [putv] using H.out.h0, by simpa [putv] using H.out.h1, by simpa [putv] using H.out.h2, by simpa [putv] using H.out.h3, by simpa [putv] using H.out.h4, by simpa [putv] using H.out.h5, by simp [putv], by simpa [putv] using H.out.h7, by simpa [putv] using H.out.h8, by simpa [putv] using H.out.h9, by simpa [putv] using H.out.h10, by simpa [putv] using H.out.h11, by simpa [putv] using H.out.h12, by simpa [putv] using H.out.h13, by simpa [putv] using H.out.h14, by simpa [putv] using H.out.h15, by simpa [putv] using H.out.h16, by have qq := H.out.h17; simp [p5]; exact ⟨fun h => (qq.2.2.2.1 h).2, fun h => (qq.2.2.2.2 h).2⟩, by simpa [putv] using H.out.h18⟩⟩
      ·intro d v W hd hpre hJ K hK
       obtain ⟨z, H⟩ := hJ
       have H := Lib.hid H
       have p6 : d 6 = true := hpre ⟨6, Ground.data⟩ (by simp) rfl
       clear hpre
       have p5 := H.out.h17.1 p6
       have e106 := H.out.h6 p6
       simp only [upd, List.set_cons_zero, List.set_cons_succ, e106]
       go_simp
       refine regK hK (by simp only [upd, Act.put, List.setIfInBounds_toArray, List.set_cons_zero, List.set_cons_succ, e106]; rfl) ?_
       exact ⟨z, ⟨by simpa [putv] using H.out.h0, by simpa [putv] using H.out.h1, by simpa [putv] using H.out.h2, by simpa [putv] using H.out.h3, by simpa [putv] using H.out.h4, by simpa [putv] using H.out.h5, by simpa [putv] using H.out.h6, by simp [putv], by simpa [putv] using H.out.h8, by simpa [putv] using H.out.h9, by simpa [putv] using H.out.h10, by simpa [putv] using H.out.h11, by simpa [putv] using H.out.h12, by simpa [putv] using H.out.h13, by simpa [putv] using H.out.h14, by simpa [putv] using H.out.h15, by simpa [putv] using H.out.h16, by have qq := H.out.h17; simp [p5]; exact ⟨fun h => (qq.2.2.2.1 h).2, fun h => (qq.2.2.2.2 h).2⟩, by simpa [putv] using H.out.h18⟩⟩
      ·intro d v W hd hpre hJ K hK
       obtain ⟨z, H⟩ := hJ
       have H := Lib.hid H
       have p6 : d 6 = true := hpre ⟨6, Ground.data⟩ (by simp) rfl
       clear hpre
       have p5 := H.out.h17.1 p6
       have e106 := H.out.h6 p6
       simp only [upd, List.set_cons_zero, List.set_cons_succ, e106]
       go_simp
       refine regK hK (by simp only [upd, Act.put, List.setIfInBounds_toArray, List.set_cons_zero, List.set_cons_succ, e106]; rfl) ?_
       exact ⟨z, ⟨by simpa [putv] using H.out.h0, by simpa [putv] using H.out.h1, by simpa [putv] using H.out.h2, by simpa [putv] using H.out.h3, by simpa [putv] using H.out.h4, by simpa [putv] using H.out.h5, by simpa [putv] using H.out.h6, by simpa [putv] using H.out.h7, by simp [putv], by simpa [putv] using H.out.h9, by simpa [putv] using H.out.h10, by simpa [putv] using H.out.h11, by simpa [putv] using H.out.h12, by simpa [putv] using H.out.h13, by simpa [putv] using H.out.h14, by simpa [putv] using H.out.h15, by simpa [putv] using H.out.h16, by have qq := H.out.h17; simp [p5]; exact ⟨fun h => (qq.2.2.2.1 h).2, fun h => (qq.2.2.2.2 h).2⟩, by simpa [putv] using H.out.h18⟩⟩
      ·intro d v W hd hpre hJ K hK
       obtain ⟨z, H⟩ := hJ
       have H := Lib.hid H
       clear hpre
       simp only [upd, List.set_cons_zero, List.set_cons_succ]
       go_simp
       have H2 := Lib.hid (H.out.world (W2 := W.alloc (.cells #[.string ⟨#[]⟩, .bool false, .bool false, .slice none 0 0, .int .i64 0, .slice none 0 0] 50)) ((Chg.refl _ _).alloc _) (H.out.h13.keep0 ((Chg.refl _ _).alloc _)))
       have dn := H.out.h17
       rw [hd] at dn
       have s12 := H.out.h12.size
       have sl : d 9 = true → z.g5 < W.heap.size := fun h => (H.out.h15 h).2.lt
       have sm : d 10 = true → z.g6 < W.heap.size := fun h => (H.out.h16 h).2.lt
       have st : d 5 = true → ∀ y ∈ z.T, y < W.heap.size := fun h => (H.out.h14 h).1.has.lt
       refine regK hK (by simp only [upd, Act.put, List.setIfInBounds_toArray, List.set_cons_zero, List.set_cons_succ]; rfl) ?_
       exact ⟨⟨z.fc, z.name, z.q, z.rp, z.B3, z.e3, z.B5, z.e5, z.T, W.heap.size, z.g6⟩, ⟨by simpa [putv] using H2.out.h0, by simpa [putv] using H2.out.h1, by simpa [putv] using H2.out.h2, by simpa [putv] using H2.out.h3, by simpa [putv] using H2.out.h4, by simpa [putv] using H2.out.h5, by simpa [putv] using H2.out.h6, by simpa [putv] using H2.out.h7, by simpa [putv] using H2.out.h8, by simp [putv], by simpa [putv] using H2.out.h10, fun _ h e => by have := sm (by simpa using h); simp only at e; omega, by simpa [putv] using H2.out.h12, by simpa [putv] using H2.out.h13, fun h => by have h6 := H2.out.h14 (by simpa using h); exact ⟨h6.1, h6.2.1, fun _ hy => absurd (st (by simpa using h) _ hy) (Nat.lt_irrefl _), fun h => h6.2.2.2 (by simpa using h)⟩, fun _ => ⟨s12, by rw [if_neg (fun h => absurd (dn.2.2.2.1 (by simpa using h)).2 (by simp))]; exact Box.new _ _ _⟩, by simpa [putv] using H2.out.h16, by have qq := H.out.h17; simp; exact ⟨qq.1, qq.2.1, qq.2.2.1, fun h => (qq.2.2.2.1 h).1, qq.2.2.2.2⟩, by simpa [putv] using H2.out.h18⟩⟩
      ·intro d v W hd hpre hJ K hK
       obtain ⟨z, H⟩ := hJ
       have H := Lib.hid H
       clear hpre
       simp only [upd, List.set_cons_zero, List.set_cons_succ]
       go_simp
       have H2 := Lib.hid (H.out.world (W2 := W.alloc (.cells #[.int .i64 0, .int .i64 0, .string ⟨#[]⟩, .int .i64 0, .int .i64 0] 93)) ((Chg.refl _ _).alloc _) (H.out.h13.keep0 ((Chg.refl _ _).alloc _)))
       have dn := H.out.h17
       rw [hd] at dn
       have s12 := H.out.h12.size
       have sl : d 9 = true → z.g5 < W.heap.size := fun h => (H.out.h15 h).2.lt
       have sm : d 10 = true → z.g6 < W.heap.size := fun h => (H.out.h16 h).2.lt
       have st : d 5 = true → ∀ y ∈ z.T, y < W.heap.size := fun h => (H.out.h14 h).1.has.lt
       refine regK hK (by simp only [upd, Act.put, List.setIfInBounds_toArray, List.set_cons_zero, List.set_cons_succ]; rfl) ?_
       exact ⟨⟨z.fc, z.name, z.q, z.rp, z.B3, z.e3, z.B5, z.e5, z.T, z.g5, W.heap.size⟩, ⟨by simpa [putv] using H2.out.h0, by simpa [putv] using H2.out.h1, by simpa [putv] using H2.out.h2, by simpa [putv] using H2.out.h3, by simpa [putv] using H2.out.h4, by simpa [putv] using H2.out.h5, by simpa [putv] using H2.out.h6, by simpa [putv] using H2.out.h7, by simpa [putv] using H2.out.h8, by simpa [putv] using H2.out.h9, by simp [putv], fun h _ e => by have := sl (by simpa using h); simp only at e; omega, by simpa [putv] using H2.out.h12, by simpa [putv] using H2.out.h13, fun h => by have h6 := H2.out.h14 (by simpa using h); exact ⟨h6.1, h6.2.1, fun h => h6.2.2.1 (by simpa using h), fun _ hy => absurd (st (by simpa using h) _ hy) (Nat.lt_irrefl _)⟩, by simpa [putv] using H2.out.h15, fun _ => ⟨s12, by rw [if_neg (fun h => absurd (dn.2.2.2.2 (by simpa using h)).2 (by simp))]; exact Box.new _ _ _⟩, by have qq := H.out.h17; simp; exact ⟨qq.1, qq.2.1, qq.2.2.1, qq.2.2.2.1, fun h => (qq.2.2.2.2 h).1⟩, by simpa [putv] using H2.out.h18⟩⟩
      ·intro d v W hd hpre hJ K hK
       obtain ⟨z, H⟩ := hJ
       have H := Lib.hid H
       have p9 : d 9 = true := hpre ⟨9, Ground.data⟩ (by simp) rfl
       have p7 : d 7 = true := hpre ⟨7, Ground.data⟩ (by simp) rfl
       have p5 : d 5 = true := hpre ⟨5, Ground.phase⟩ (by simp) rfl
       have p10 : d 10 = true := hpre ⟨10, Ground.phase⟩ (by simp) rfl
       clear hpre
       have BG := (H.out.h15 p9).2
       rw [if_neg (by rw [hd]; simp)] at BG
       have bo := BG.o6
       have y0 := bo.1
       have y1 := bo.2.1
       have y2 := bo.2.2.1
       have y3 := bo.2.2.2.1
       have y4 := bo.2.2.2.2.1
       have y5 := bo.2.2.2.2.2
       have yf := BG.f
       have BG := Lib.hid BG
       clear bo
       have e109 := H.out.h9 p9
       have e107 := H.out.h7 p7
       simp only [upd, List.set_cons_zero, List.set_cons_succ, e109, e107]
       go_simp
       refine wK ?_
       intro W2 hW2
       have BX2 : Box W2 z.g5 [.string z.q.core.kind, .bool z.q.core.on, .bool z.q.core.broken, .slice z.B3 z.q.core.cells.length z.e3, .int .i64 z.q.core.count, .slice z.B5 z.q.layers.length z.e5] := by rw [hW2]; exact ((((((BG.out.set 0 (.string z.q.core.kind)).set 1 (.bool z.q.core.on)).set 2 (.bool z.q.core.broken)).set 3 (.slice z.B3 z.q.core.cells.length z.e3)).set 4 (.int .i64 z.q.core.count)).set 5 (.slice z.B5 z.q.layers.length z.e5))
       have d2 : Chg [z.g5] W W2 := by rw [hW2]; exact Chg.now
       clear hW2
       have hlow := (H.out.h15 p9).1
       have hT := H.out.h14 p5
       have hk2 := H.out.h18
       have s12 := H.out.h12.size
       have hne : d 10 = true → z.g6 ≠ z.g5 := fun h e => H.out.h11 p9 h e.symm
       refine regK (x := undef) hK (by (try simp only [upd, Act.put, List.set_cons_zero, List.set_cons_succ, e109, e107]); (try rfl)) ?_
       exact ⟨z, ⟨by simpa [putv] using H.out.h0, by simpa [putv] using H.out.h1, by simpa [putv] using H.out.h2, by simpa [putv] using H.out.h3, by simpa [putv] using H.out.h4, by simpa [putv] using H.out.h5, by simpa [putv] using H.out.h6, by simpa [putv] using H.out.h7, by simpa [putv] using H.out.h8, by simpa [putv] using H.out.h9, by simpa [putv] using H.out.h10, by simpa [putv] using H.out.h11, H.out.h12.trans d2 (fun y hy => .inr (by simp at hy; omega)), H.out.h13.keep d2 (by simp; omega), fun h => ⟨hT.1.keepS d2 (fun y hy e => by simp at e; subst e; exact (hT.2.2.1 p9) hy), hT.2.1, by simpa using hT.2.2.1, by simpa using hT.2.2.2⟩, fun _ => ⟨hlow, by simpa using BX2⟩, fun h => by have h := (show d 10 = true by simpa using h); have q := H.out.h16 h; exact ⟨q.1, by simpa using q.2.keep d2 (by simpa using hne h)⟩, by have qq := H.out.h17; simp [p5, p9]; exact fun h => (qq.2.2.2.2 h).2, by simpa [putv] using H.out.h18⟩⟩
      ·intro d v W hd hpre hJ K hK
       obtain ⟨z, H⟩ := hJ
       have H := Lib.hid H
       have p10 : d 10 = true := hpre ⟨10, Ground.data⟩ (by simp) rfl
       have p8 : d 8 = true := hpre ⟨8, Ground.data⟩ (by simp) rfl
       have p5 : d 5 = true := hpre ⟨5, Ground.phase⟩ (by simp) rfl
       have p9 : d 9 = true := hpre ⟨9, Ground.phase⟩ (by simp) rfl
       clear hpre
       have BG := (H.out.h16 p10).2
       rw [if_neg (by rw [hd]; simp)] at BG
       have bo := BG.o5
       have y0 := bo.1
       have y1 := bo.2.1
       have y2 := bo.2.2.1
       have y3 := bo.2.2.2.1
       have y4 := bo.2.2.2.2
       have yf := BG.f
       have BG := Lib.hid BG
       clear bo
       have e110 := H.out.h10 p10
       have e108 := H.out.h8 p8
       simp only [upd, List.set_cons_zero, List.set_cons_succ, e110, e108]
       go_simp
       refine wK ?_
       intro W2 hW2
       have BX2 : Box W2 z.g6 [.int .i64 z.rp.code, .int .i64 z.rp.value, .string z.rp.text, .int .i64 z.rp.want, .int .i64 z.rp.had] := by rw [hW2]; exact (((((BG.out.set 0 (.int .i64 z.rp.code)).set 1 (.int .i64 z.rp.value)).set 2 (.string z.rp.text)).set 3 (.int .i64 z.rp.want)).set 4 (.int .i64 z.rp.had))
       have d2 : Chg [z.g6] W W2 := by rw [hW2]; exact Chg.now
       clear hW2
       have hlow := (H.out.h16 p10).1
       have hT := H.out.h14 p5
       have hk2 := H.out.h18
       have s12 := H.out.h12.size
       have hne : d 9 = true → z.g5 ≠ z.g6 := fun h => H.out.h11 h p10
       refine regK (x := undef) hK (by (try simp only [upd, Act.put, List.set_cons_zero, List.set_cons_succ, e110, e108]); (try rfl)) ?_
       exact ⟨z, ⟨by simpa [putv] using H.out.h0, by simpa [putv] using H.out.h1, by simpa [putv] using H.out.h2, by simpa [putv] using H.out.h3, by simpa [putv] using H.out.h4, by simpa [putv] using H.out.h5, by simpa [putv] using H.out.h6, by simpa [putv] using H.out.h7, by simpa [putv] using H.out.h8, by simpa [putv] using H.out.h9, by simpa [putv] using H.out.h10, by simpa [putv] using H.out.h11, H.out.h12.trans d2 (fun y hy => .inr (by simp at hy; omega)), H.out.h13.keep d2 (by simp; omega), fun h => ⟨hT.1.keepS d2 (fun y hy e => by simp at e; subst e; exact (hT.2.2.2 p10) hy), hT.2.1, by simpa using hT.2.2.1, by simpa using hT.2.2.2⟩, fun h => by have h := (show d 9 = true by simpa using h); have q := H.out.h15 h; exact ⟨q.1, by simpa using q.2.keep d2 (by simpa using hne h)⟩, fun _ => ⟨hlow, by simpa using BX2⟩, by have qq := H.out.h17; simp [p5, p10]; exact fun h => (qq.2.2.2.1 h).2, by simpa [putv] using H.out.h18⟩⟩
     ·intro v W hJ
      obtain ⟨z, H⟩ := hJ
      have e9 := H.h9 rfl
      have e10 := H.h10 rfl
      have H := Lib.hid H
      simp only [upd, List.set_cons_zero, List.set_cons_succ, e9, e10]
      go_wp2_with fail
      go_meet
      case rel =>
       have lb := C.out.box.lt
       have sw := C.out.chg.size
       have lz := C.out.z.lt
       have hT := H.out.h14 rfl
       have l5 := (H.out.h15 rfl).1
       exact ⟨z.g5, z.g6, z.q, z.rp, z.B3, z.e3, z.B5, z.e5, z.T, rfl, rfl, Lib.hid ⟨p, A3, c3, A5, c5, S, C.out.keep H.out.h12 H.out.h13⟩, Lib.hid (by simpa using (H.out.h15 rfl).2), Lib.hid (by simpa using (H.out.h16 rfl).2), Lib.hid hT.1, Lib.hid ⟨fun h => by have := hT.2.1 _ h; omega, fun h => by have := hT.2.1 _ h; omega, by omega, by omega⟩⟩
   case rest =>
    obtain ⟨g5, g6, q, rp, B3, d3, B5, d5, T, rfl, rfl, hC2, hQ, hR, hP, hn⟩ := hcut
    have r0 := hR.out.c 0 _ rfl
    have r1 := hR.out.f
    clear C CX BX FO WR b0 b1 b2 b3 b4 b5 bf
    by_cases hc : rp.code = 0
    case pos =>
     rw [hc] at r0
     obtain ⟨p', A3', c3', A5', c5', S', C'⟩ := hC2.out
     obtain ⟨b0, b1, b2, b3, b4, b5⟩ := C'.box.o6
     have bf := C'.box.f
     obtain ⟨q0, q1, q2, q3, q4, q5⟩ := hQ.out.o6
     have C' := Lib.hid C'
     clear hR r1 hc
     go_wp2_with fail
     go_roundw
     case rel => exact ⟨i, by first | rfl | go_num, by omega, Lib.hid ⟨q, B3, d3, B5, d5, T, C'.out.put hP.out hn.out.1 hn.out.2.1 rfl⟩⟩
     case measure => first | (simp [intOf]; done) | (simp [intOf]; omega)
    case neg =>
     have hc2 : (rp.code == 0) = false := by rw [beq_eq_false_iff_ne]; exact hc
     clear hR r1 hQ hP hn
     go_wp2_with fail
     go_roundw
     case rel => exact ⟨i, by first | rfl | go_num, by omega, hC2⟩
     case measure => first | (simp [intOf]; done) | (simp [intOf]; omega)
end Go.Proofs.YtdlkbomojjmnlaaGreatDoor
