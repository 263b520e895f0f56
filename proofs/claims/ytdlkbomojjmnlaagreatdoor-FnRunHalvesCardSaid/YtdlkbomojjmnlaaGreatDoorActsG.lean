/- No action of two kinds, at any depth: plain Lean. Conditions: none. / Lists of actions, as they are drawn: weights, boxes. Conditions: none. -/
import Derived.Test.YtdlkbomojjmnlaaGreatDoorTypesA
import Derived.Test.YtdlkbomojjmnlaaGreatDoorCurs
import Derived.Test.YtdlkbomojjmnlaaGreatDoorApps
namespace Go.Proofs.YtdlkbomojjmnlaaGreatDoor
open Go.RowKit

mutual
/-- No action of two kinds, at any depth. -/
def ActionT.no (p q : Int) : ActionT → Prop
 | .mk op _ _ _ _ _ A B => (op ≠ p ∧ op ≠ q) ∧ noL p q A ∧ noL p q B
def noL (p q : Int) : List ActionT → Prop
 | [] => True
 | a :: l => a.no p q ∧ noL p q l
end
theorem ActionT.no_iff (p q : Int) (a : ActionT) : a.no p q ↔ (a.op ≠ p ∧ a.op ≠ q) ∧ noL p q a.A ∧ noL p q a.B := by
 cases a; rw [ActionT.no]; rfl
theorem noL_iff (p q : Int) : ∀ l : List ActionT, noL p q l ↔ ∀ a ∈ l, a.no p q
 | [] => by simp [noL]
 | a :: l => by rw [noL, noL_iff p q l]; simp
end Go.Proofs.YtdlkbomojjmnlaaGreatDoor
namespace Go.Proofs.YtdlkbomojjmnlaaGreatDoor
open Go.RowKit

def cB : Nat → Nat
 | 0 => 200
 | d + 1 => 200 + 4 * cB d
theorem noL_nil : noL 10 3 [] := by rw [noL]; trivial
theorem noL_append {p q : Int} (l m : List ActionT) : noL p q (l ++ m) ↔ noL p q l ∧ noL p q m := by
 simp only [noL_iff, List.mem_append]
 exact ⟨fun h => ⟨fun a ha => h a (.inl ha), fun a ha => h a (.inr ha)⟩, fun h a ha => ha.elim (h.1 a) (h.2 a)⟩
theorem actionsW_app (l m : List ActionT) : actionsW (l ++ m) = actionsW l + actionsW m := by
 unfold actionsW actionsW1
 simp only [List.length_append, List.map_append, List.sum_append]
 omega
theorem actionsW_one (a : ActionT) : actionsW [a] = actionW a + 1 := by
 unfold actionsW actionsW1
 simp
 omega
theorem actionsW_nil : actionsW [] = 0 := rfl
theorem flat_W (op sl ot : Int) (wd m y : ByteArray) (v : Int) (t : ByteArray) (fc : Int) : actionW (.mk op sl ot wd ⟨m, y, v, t⟩ fc [] []) = wd.size + callW ⟨m, y, v, t⟩ := by
 rw [actionW_eq]
 rfl
theorem callW_mk (m y : ByteArray) (v : Int) (t : ByteArray) : callW ⟨m, y, v, t⟩ = m.size + y.size + t.size := by
 unfold callW
 rfl
/-- What a draw of actions answers. -/
def DrActs (k N most : Nat) (pl : Bool) (w : World) (e : Ending) (w' : World) : Prop := ∃ (l : List ActionT) (A : Option Addr) (cap : Nat), e = .returned (.slice A l.length cap) ∧ AppT [k] w w' 32 11 (.slice A l.length cap) l.length (l.flatMap actionF) ∧ 1 ≤ l.length ∧ l.length ≤ most ∧ actionsW l ≤ N ∧ (pl = true → noL 10 3 l) ∧ Cur w' k
/-- What holds of an action's blocks, and of the action, if Try and Unwrap are out of the question. -/
def InPl (pl : Bool) (a : ActionT) : Prop := pl = true → noL 10 3 a.A ∧ noL 10 3 a.B
def NoPl (pl : Bool) (a : ActionT) : Prop := pl = true → a.no 10 3
/-- An action in a box, made since wr. -/
structure ActIn (k : Nat) (wr x : World) (b N : Nat) (Q : ActionT → Prop) : Prop where
 ex : ∃ (a : ActionT) (A9 : Option Addr) (c9 : Nat) (A10 : Option Addr) (c10 : Nat) (S : List Nat), Box x b [.int .i64 a.op, .int .i64 a.slot, .int .i64 a.other, .string a.word, .string a.call.method, .string a.call.key, .int .i64 a.call.value, .string a.call.text, .int .i64 a.face, .slice A9 a.A.length c9, .slice A10 a.B.length c10] ∧ HasL x (actionF a) [.int .i64 a.op, .int .i64 a.slot, .int .i64 a.other, .string a.word, .string a.call.method, .string a.call.key, .int .i64 a.call.value, .string a.call.text, .int .i64 a.face, .slice A9 a.A.length c9, .slice A10 a.B.length c10] S ∧ (∀ y, y ∈ S → wr.heap.size ≤ y) ∧ b ∉ S ∧ actionW a + 1 ≤ N ∧ Q a
 cur : Cur x k
 chg : Chg [k] wr x
 lo : wr.heap.size ≤ b
section
variable {k : Nat} {wr x x' : World} {b N M : Nat} {Q : ActionT → Prop}
theorem ActIn.b_lt (h : ActIn k wr x b N Q) : b < x.heap.size := by
 obtain ⟨a, _, _, _, _, _, h1, _⟩ := h.ex
 exact h1.lt
theorem ActIn.more (h : ActIn k wr x b N Q) (hN : N ≤ M) : ActIn k wr x b M Q := by
 obtain ⟨⟨a, A9, c9, A10, c10, S, h1, h2, h3, h4, h5, h6⟩, h7, h8, h9⟩ := h
 exact ⟨⟨a, A9, c9, A10, c10, S, h1, h2, h3, h4, by omega, h6⟩, h7, h8, h9⟩
theorem ActIn.later (h : ActIn k wr x b N Q) (hc : Chg [k] x x') (hq : Cur x' k) (hk : k < wr.heap.size) : ActIn k wr x' b N Q := by
 obtain ⟨⟨a, A9, c9, A10, c10, S, h1, h2, h3, h4, h5, h6⟩, h7, h8, h9⟩ := h
 exact ⟨⟨a, A9, c9, A10, c10, S, h1.keep hc (by simp; omega), h2.keep hc (fun y hy => by have := h3 y hy; simp; omega), h3, h4, h5, h6⟩, hq, h8.trans hc (fun _ h => .inl h), h9⟩
theorem ActIn.same (h : ActIn k wr x b N Q) (hc : Chg [] x x') : ActIn k wr x' b N Q := by
 obtain ⟨⟨a, A9, c9, A10, c10, S, h1, h2, h3, h4, h5, h6⟩, h7, h8, h9⟩ := h
 exact ⟨⟨a, A9, c9, A10, c10, S, h1.keep hc, h2.keep0 hc, h3, h4, h5, h6⟩, h7.keep0 hc, h8.trans0 hc, h9⟩
theorem ActIn.raw (h : ActIn k wr x b N Q) : ∃ v0 v1 v2 v3 v4 v5 v6 v7 v8 v9 v10, Box x b [v0, v1, v2, v3, v4, v5, v6, v7, v8, v9, v10] := by
 obtain ⟨a, A9, c9, A10, c10, S, h1, _⟩ := h.ex
 exact ⟨_, _, _, _, _, _, _, _, _, _, _, h1⟩
end
theorem act_ones {a0 a1 a2 : Int} {s3 s4 s5 : ByteArray} {a6 : Int} {s7 : ByteArray} {a8 : Int} {A9 : Option Addr} {n9 c9 : Nat} {A10 : Option Addr} {n10 c10 : Nat} : ∀ u ∈ ([.int .i64 a0, .int .i64 a1, .int .i64 a2, .string s3, .string s4, .string s5, .int .i64 a6, .string s7, .int .i64 a8, .slice A9 n9 c9, .slice A10 n10 c10] : List Value), u.oneCell' = true := by
 intro u hu; simp at hu; rcases hu with rfl | rfl | rfl | rfl | rfl | rfl | rfl | rfl | rfl | rfl | rfl <;> rfl
/-- All cells of a box are written. -/
theorem Box.all11 {w : World} {b : Nat} {v0 v1 v2 v3 v4 v5 v6 v7 v8 v9 v10 u0 u1 u2 u3 u4 u5 u6 u7 u8 u9 u10 : Value} (h : Box w b [v0, v1, v2, v3, v4, v5, v6, v7, v8, v9, v10]) :
  Box (((((((((((w.setCell ⟨b, 0, none⟩ u0).setCell ⟨b, 1, none⟩ u1).setCell ⟨b, 2, none⟩ u2).setCell ⟨b, 3, none⟩ u3).setCell ⟨b, 4, none⟩ u4).setCell ⟨b, 5, none⟩ u5).setCell ⟨b, 6, none⟩ u6).setCell ⟨b, 7, none⟩ u7).setCell ⟨b, 8, none⟩ u8).setCell ⟨b, 9, none⟩ u9).setCell ⟨b, 10, none⟩ u10) b [u0, u1, u2, u3, u4, u5, u6, u7, u8, u9, u10] :=
 ((((((((((h.set 0 u0).set 1 u1).set 2 u2).set 3 u3).set 4 u4).set 5 u5).set 6 u6).set 7 u7).set 8 u8).set 9 u9).set 10 u10
/-- A change of a new box, behind a change. -/
theorem chg_box {k b : Nat} {w x x' : World} (h : Chg [k] w x) (hb : w.heap.size ≤ b) (hc : Chg [b] x x') : Chg [k] w x' := h.trans hc (fun y hy => .inr (by simp at hy; omega))
theorem act_hasAB {w : World} {A B : List ActionT} {u9 u10 : Value} {SA SB : List Nat} {op sl ot : Int} {wd m y : ByteArray} {v : Int} {t : ByteArray} {fc : Int} (hA : Has w (actions A) u9 SA) (hB : Has w (actions B) u10 SB) (hd : ∀ y, y ∈ SA → y ∉ SB) :
  HasL w (actionF (.mk op sl ot wd ⟨m, y, v, t⟩ fc A B)) [.int .i64 op, .int .i64 sl, .int .i64 ot, .string wd, .string m, .string y, .int .i64 v, .string t, .int .i64 fc, u9, u10] (SA ++ SB) := by
 rw [actionF_eq]
 refine HasL.cons_v (HasL.cons_v (HasL.cons_v (HasL.cons_v (HasL.cons_v (HasL.cons_v (HasL.cons_v (HasL.cons_v (HasL.cons_v ?_))))))))
 have h := HasL.cons hB (HasL.nil w) (by simp)
 rw [List.append_nil] at h
 exact HasL.cons hA h hd
theorem nil_has (w : World) : Has w (actions []) (.slice none 0 0) [] := ⟨by unfold actions; rw [Own]; exact .inl ⟨rfl, rfl, rfl, rfl⟩, List.nodup_nil⟩
theorem act_hasA {w : World} {A : List ActionT} {u9 : Value} {SA : List Nat} {op sl ot : Int} {wd m y : ByteArray} {v : Int} {t : ByteArray} {fc : Int} (hA : Has w (actions A) u9 SA) :
  HasL w (actionF (.mk op sl ot wd ⟨m, y, v, t⟩ fc A [])) [.int .i64 op, .int .i64 sl, .int .i64 ot, .string wd, .string m, .string y, .int .i64 v, .string t, .int .i64 fc, u9, .slice none 0 0] SA := by
 have h := act_hasAB (op := op) (sl := sl) (ot := ot) (wd := wd) (m := m) (y := y) (v := v) (t := t) (fc := fc) hA (nil_has w) (by simp)
 rwa [List.append_nil] at h
theorem flat_has (w : World) (op sl ot : Int) (wd m y : ByteArray) (v : Int) (t : ByteArray) (fc : Int) :
  HasL w (actionF (.mk op sl ot wd ⟨m, y, v, t⟩ fc [] [])) [.int .i64 op, .int .i64 sl, .int .i64 ot, .string wd, .string m, .string y, .int .i64 v, .string t, .int .i64 fc, .slice none 0 0, .slice none 0 0] [] := act_hasA (nil_has w)
theorem actAB_W {d : Nat} {A B : List ActionT} {op : Int} (hA : actionsW A ≤ 2 * cB d) (hB : actionsW B ≤ 2 * cB d) : actionW (.mk op 0 0 ⟨#[]⟩ ⟨⟨#[]⟩, ⟨#[]⟩, 0, ⟨#[]⟩⟩ 0 A B) + 1 ≤ cB (d + 1) := by
 rw [actionW_eq]
 show (0 : Nat) + 0 + actionsW A + actionsW B + 1 ≤ 200 + 4 * cB d
 omega
theorem actA_W {d : Nat} {A : List ActionT} {op : Int} (hA : actionsW A ≤ 2 * cB d) : actionW (.mk op 0 0 ⟨#[]⟩ ⟨⟨#[]⟩, ⟨#[]⟩, 0, ⟨#[]⟩⟩ 0 A []) + 1 ≤ cB (d + 1) := actAB_W hA (by rw [actionsW_nil]; omega)
theorem acts_ones {T : List Nat} {w w' : World} {l : List ActionT} {us : List Value} (h : NewT T w w' (l.flatMap actionF) us) : ∀ u ∈ us, u.oneCell' = true := by
 obtain ⟨S, h1, _⟩ := h
 refine OwnL.ones h1.1 (fun x hx => ?_)
 obtain ⟨a, _, ha⟩ := List.mem_flatMap.1 hx
 rw [actionF_eq] at ha
 simp [actions] at ha
 rcases ha with rfl | rfl | rfl | rfl | rfl | rfl | rfl | rfl | rfl <;> rfl
theorem notin1 {b : Nat} {S : List Nat} (h : b ∉ S) : ∀ x, x ∈ S → x ∉ [b] := fun x hx hb => h (by simp at hb; exact hb ▸ hx)
theorem low1 {k lo : Nat} {S : List Nat} (h : ∀ y, y ∈ S → lo ≤ y) (hk : k < lo) : ∀ x, x ∈ S → x ∉ [k] := fun x hx hb => by have := h x hx; simp at hb; omega
theorem Cur.mid {w w' : World} {a b k : Nat} (H : Cur w k) (hM : Mid a b w w') (hk : k < a) : Cur w' k := by
 obtain ⟨S, hc, hS⟩ := hM
 exact H.keep hc (fun x hx => by have := (hS x hx).1; omega)
theorem cB_200 : ∀ d, 200 ≤ cB d
 | 0 => by unfold cB; omega
 | d + 1 => by unfold cB; omega
theorem cB_one (d : Nat) {op s f : Int} : actionW (.mk op s 0 ⟨#[]⟩ ⟨⟨#[]⟩, ⟨#[]⟩, 0, ⟨#[]⟩⟩ f [] []) + 1 ≤ cB d := by
 have h := cB_200 d
 rw [flat_W, callW_mk]
 show 0 + (0 + 0 + 0) + 1 ≤ cB d
 omega
theorem no_flat {op s f : Int} (h1 : op ≠ 10) (h2 : op ≠ 3) : (ActionT.mk op s 0 ⟨#[]⟩ ⟨⟨#[]⟩, ⟨#[]⟩, 0, ⟨#[]⟩⟩ f [] []).no 10 3 := by
 rw [ActionT.no]
 exact ⟨⟨h1, h2⟩, noL_nil, noL_nil⟩
end Go.Proofs.YtdlkbomojjmnlaaGreatDoor
