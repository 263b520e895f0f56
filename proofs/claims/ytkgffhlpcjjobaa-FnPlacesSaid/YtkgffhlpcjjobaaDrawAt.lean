/- DrawActionAt of the reference: actions and a place, drawn. Conditions: at most 4096 bytes, which read as bytes. Written by a program. -/
import Derived.Test.YtkgffhlpcjjobaaDrawAny
namespace Go.Proofs.Ytkgffhlpcjjobaa
open Go.RowKit

theorem NewS.new0 {k : Nat} {w w1 w' : World} {d : Dat} {u : Value} (h : NewS [k] w1 w' d u) (hc : Chg [] w w1) (hk : w.heap.size ≤ k) : New w w' d u := by
  obtain ⟨S, h1, h2, h3⟩ := h
  exact ⟨S, h1, fun x hx => Nat.le_trans hc.size (h2 x hx), (hc.mono (T := [k]) (by simp)).trans h3 (fun _ h => .inl h) |>.mono (fun y hy => .inr (by simp at hy; omega))⟩
/-- Actions and a place, drawn. -/
def DrawAt (w : World) (e : Ending) (w' : World) : Prop := ∃ (l : List ActionT) (A : Option Addr) (cap : Nat) (p : Int), e = .returned (.tuple #[.slice A l.length cap, .int .i64 p]) ∧ New w w' (actions l) (.slice A l.length cap) ∧ actionsW l ≤ 250000 ∧ -9223372036854775808 ≤ p ∧ p ≤ 9223372036854775807
set_option maxRecDepth 100000 in
set_option maxHeartbeats 4000000 in
theorem drawActionAt_any (A : Option Addr) (n cap : Nat) (w : World) (hn : n ≤ 4096) (hb : BytesAt w w.heap.size A n) :
    Calls Try.prog 5 #[.slice A n cap] w (DrawAt w) := by
  have NE := Lib.hid (l1New_any A n cap w hn hb)
  clear hb
  go_enter Try.func5, Try.ntmps5
  go_wp2_with fail
  refine NE.out.mono ?_
  rintro e w1 ⟨k, rfl, hk, q1, c1⟩
  have AN := Lib.hid (l8Any_any k w1 q1)
  have ON := Lib.hid (fun n W (hc : Cur W k) => l1Once_any k n W hc)
  have OD := Lib.hid (fun W (hc : Cur W k) => l1Odd_any k W hc)
  have BL := Lib.hid (fun n W (hc : Cur W k) => l1Below_any k n W hc)
  have k1 := q1.lt
  have hT : Hid (∀ x ∈ [k], x < w1.heap.size) := Lib.hid (by simpa using k1)
  go_wp2_with fail
  refine AN.out.mono ?_
  rintro e w2 ⟨l, A2, cap2, rfl, N2, hW, q2⟩
  have N2 := Lib.hid N2
  go_wp2_with fail
  refine (ON.out 8 _ q2).mono ?_
  rintro e w3 ⟨ok, rfl, q3, c3⟩
  have N3 := Lib.hid (N2.out.later c3 hT.out)
  have k3 := q3.lt
  clear c3 N2 q2 q1
  cases ok
  · have PS := Lib.hid (planSize_spec_law l _ _ w3 (Nat.le_trans hW (by decide)) N3.out.rd (Nat.le_refl _))
    have hz := sizeL_W l
    have wz : IntKind.i64.wrap ((sizeL l : Int) + 2) = (sizeL l : Int) + 2 := wr_id (by omega) (by omega)
    go_wp2_with fail
    refine PS.out.mono ?_
    rintro e w4 ⟨rfl, c4⟩
    have N4 := Lib.hid (N3.out.later (c4.mono (by simp)) hT.out)
    have q4 := q3.keep0 c4
    clear PS c4 N3 q3
    go_wp2_with fail
    refine (BL.out _ _ q4).mono ?_
    rintro e w5 ⟨r, rfl, ⟨r0, r1⟩, q5, c5⟩
    have r1 := r1 (by omega)
    have N5 := Lib.hid (N4.out.later c5 hT.out)
    clear c5 N4 q4
    go_wp2_with fail
    go_ret2
    exact ⟨l, A2, cap2, r, rfl, N5.out.new0 c1 hk, hW, by omega, by omega⟩
  · go_wp2_with fail
    refine (OD.out _ q3).mono ?_
    rintro e w5 ⟨r, rfl, ⟨r0, r1⟩, q5, c5⟩
    have N5 := Lib.hid (N3.out.later c5 hT.out)
    clear c5 N3 q3
    go_wp2_with fail
    go_ret2
    exact ⟨l, A2, cap2, r, rfl, N5.out.new0 c1 hk, hW, r0, r1⟩
end Go.Proofs.Ytkgffhlpcjjobaa
