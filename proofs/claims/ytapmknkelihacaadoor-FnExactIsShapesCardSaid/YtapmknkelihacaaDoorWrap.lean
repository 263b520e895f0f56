/- Wrap of both packages. Written by a program. -/
import Derived.Test.YtapmknkelihacaaDoorNewP
import Derived.Test.YtapmknkelihacaaDoorCopyP
namespace Go.Proofs.YtapmknkelihacaaDoor
open Go.RowKit
/-- A part of one's own and a reply are given. -/
def PartRep (r : PartT × RepT) (w : World) (e : Ending) (w' : World) : Prop := ∃ A3 c3 A5 c5, e = .returned (.tuple #[.agg #[.string r.1.core.kind, .bool r.1.core.on, .bool r.1.core.broken, .slice A3 r.1.core.cells.length c3, .int .i64 r.1.core.count, .slice A5 r.1.layers.length c5], .agg #[.int .i64 r.2.code, .int .i64 r.2.value, .string r.2.text, .int .i64 r.2.want, .int .i64 r.2.had]]) ∧
  NewL w w' (partF r.1) [.string r.1.core.kind, .bool r.1.core.on, .bool r.1.core.broken, .slice A3 r.1.core.cells.length c3, .int .i64 r.1.core.count, .slice A5 r.1.layers.length c5]
theorem App.outP {w w0 w2 w3 : World} {T : List Nat} {e : TypeId} {size n : Nat} {v : Value} {us : List Value} (h : App w0 w2 e size v n (us.map Dat.v)) (h0 : Chg [] w w0) (hc : Chg T w2 w3) (hT : ∀ t, t ∈ T → w.heap.size ≤ t ∧ t ∉ ownL v) : App w w3 e size v n (us.map Dat.v) := by
  obtain ⟨xs, S', h1, h2, h3, h4, h5, h6⟩ := h
  have hS := OwnL.plain_nil h2
  subst hS
  refine ⟨xs, [], ⟨h1.1, ?_⟩, OwnL.keep hc _ xs [] (by simp) h2, h3, by simp, by simp, (h0.trans0 h6).trans hc (fun x hx => .inr (hT x hx).1)⟩
  rcases h1.2 with hl | ⟨g, cap, cur, rfl, hb, hg, r⟩
  · exact .inl hl
  · refine .inr ⟨g, cap, cur, rfl, Nat.le_trans h0.size hb, (hc.block g (Array.getElem?_eq_some_iff.1 hg).1 (fun hgT => (hT g hgT).2 (by rw [ownL_mem]; rfl))).trans hg, r⟩
theorem part_newL {p : PartT} {w w5 : World} {s3 s5 : Value} {S3 : List Nat} (h3 : Has w5 (cells p.core.cells) s3 S3) (hlo : ∀ x, x ∈ S3 → w.heap.size ≤ x) (hA : App w w5 89 2 s5 p.layers.length ((layerU p.layers).map Dat.v)) (hd : ∀ x, x ∈ S3 → x ∉ ownL s5) :
    NewL w w5 (partF p) [.string p.core.kind, .bool p.core.on, .bool p.core.broken, s3, .int .i64 p.core.count, s5] := by
  obtain ⟨h5, h6⟩ := hA.has
  have hl := HasL.append (HasL.one h3) (HasL.cons_v (x := .int .i64 p.core.count) (HasL.one h5)) hd
  refine ⟨S3 ++ ownL s5, ?_, fun x hx => (List.mem_append.1 hx).elim (hlo x) (h6 x), hA.chg⟩
  rw [partF_eq, layers_plain]
  exact HasL.cons_v (HasL.cons_v (HasL.cons_v hl))
theorem PartNew.ends {p : PartT} {w wb w1 w2 w5 : World} {s3 s5 : Value} {g1 g2 : Nat} (n1 : PartNew p wb w1 s3 s5) (h0 : Chg [] w wb) (h12 : Chg [] w1 w2) (a1 : w.heap.size ≤ g1) (a2 : w.heap.size ≤ g2) (b1 : g1 < wb.heap.size) (b2 : g2 < wb.heap.size) (hc : Chg [g1, g2] w2 w5) :
    NewL w w5 (partF p) [.string p.core.kind, .bool p.core.on, .bool p.core.broken, s3, .int .i64 p.core.count, s5] := by
  obtain ⟨⟨S3, h3, hS⟩, hA⟩ := n1
  have hA2 := hA.later h12
  have hlow := hA.has.2
  have e0 := h0.size
  refine part_newL ((h3.keep0 h12).keep hc (fun x hx => by have := (hS x hx).1; simp; omega)) (fun x hx => by have := (hS x hx).1; omega) (hA2.outP h0 hc (fun t ht => ?_)) (fun x hx => (hS x hx).2)
  refine ⟨by simp at ht; omega, fun hx => ?_⟩
  have := hlow t hx
  simp at ht
  omega
theorem PartNew.grown {p : PartT} {w wb w1 w3 w4 w5 : World} {s3 s5 s6 : Value} {g1 g2 : Nat} {name : ByteArray} (n1 : PartNew p wb w1 s3 s5) (h0 : Chg [] w wb) (h13 : Chg [] w1 w3) (hc4 : Chg (ownL s5) w3 w4)
    (hA : App wb w4 89 2 s6 (p.layers.length + 1) ((layerU p.layers).map Dat.v ++ [Value.string name, Value.int .i64 0].map Dat.v)) (hat : s6.ownBlock = s5.ownBlock ∨ ∃ g, s6.ownBlock = some g ∧ w1.heap.size < g)
    (a1 : w.heap.size ≤ g1) (a2 : w.heap.size ≤ g2) (b1 : g1 < wb.heap.size) (b2 : g2 < wb.heap.size) (hc : Chg [w1.heap.size, g1, g2] w4 w5) :
    NewL w w5 (partF ⟨p.core, p.layers ++ [⟨name, 0⟩]⟩) [.string p.core.kind, .bool p.core.on, .bool p.core.broken, s3, .int .i64 p.core.count, s6] := by
  obtain ⟨⟨S3, h3, hS⟩, hA1⟩ := n1
  have hlt := h3.lt
  have hlow := hA1.has.2
  have hlt5 := hA1.has.1.lt
  have e0 := h0.size
  have e1 := hA1.chg.size
  have hU : (layerU p.layers).map Dat.v ++ [Value.string name, Value.int .i64 0].map Dat.v = (layerU (p.layers ++ [⟨name, 0⟩])).map Dat.v := by simp [layerU]
  rw [hU] at hA
  have own6 : ∀ x, x ∈ ownL s6 → x ∈ ownL s5 ∨ w1.heap.size < x := by
    intro x hx
    rw [ownL_mem] at hx ⊢
    rcases hat with h | ⟨g, h, hg⟩
    · exact .inl (h.symm.trans hx)
    · rw [hx] at h
      cases h
      exact .inr hg
  have h3' : Has w5 (cells p.core.cells) s3 S3 := ((h3.keep0 h13).keep hc4 (fun x hx => (hS x hx).2)).keep hc (fun x hx => by have := (hS x hx).1; have := hlt x hx; simp; omega)
  have hA5 : App w w5 89 2 s6 (p.layers ++ [(⟨name, 0⟩ : LayerT)]).length ((layerU (p.layers ++ [(⟨name, 0⟩ : LayerT)])).map Dat.v) := by
    rw [List.length_append]
    refine App.outP hA h0 hc (fun t ht => And.intro (by simp at ht; omega) (fun hx => ?_))
    rcases own6 t hx with h | h
    · have := hlow t h; have := hlt5 t h; simp at ht; omega
    · simp at ht; omega
  exact part_newL (p := ⟨p.core, p.layers ++ [⟨name, 0⟩]⟩) h3' (fun x hx => by have := (hS x hx).1; omega) hA5 (fun x hx hx6 => by
    rcases own6 x hx6 with h | h
    · exact (hS x hx).2 h
    · have := hlt x hx; omega)
theorem Opt2Post.some_ {o : Option (Int × Int)} {f : Int × Int} {w : World} (h : o = some f) (e : Ending) (w' : World) (hb : Opt2Post o w e w') : e = .returned (.tuple #[.int .i64 f.1, .int .i64 f.2, .bool true]) ∧ Chg [] w w' := by subst h; exact hb
theorem Opt2Post.none_ {o : Option (Int × Int)} {w : World} (h : o = none) (e : Ending) (w' : World) (hb : Opt2Post o w e w') : e = .returned (.tuple #[.int .i64 0, .int .i64 0, .bool false]) ∧ Chg [] w w' := by subst h; exact hb
set_option maxRecDepth 100000 in
set_option maxHeartbeats 4000000 in
theorem wrap_impl_any (p : PartT) (name : ByteArray) (u3 u5 : Value) (B : Nat) (w : World) (r3 : Rd w B (cells p.core.cells) u3) (r5 : Rd w B (layers p.layers) u5) (hB : B ≤ w.heap.size) (hl : p.layers.length ≤ 1048576) (hcl : p.core.cells.length ≤ 1048576) (hs : ∀ c ∈ p.core.cells, c.key.size ≤ 1048576) :
    Calls Tryd.prog 49 #[.agg #[.string p.core.kind, .bool p.core.on, .bool p.core.broken, u3, .int .i64 p.core.count, u5], .string name] w (PartRep (wrapOf p name) w) := by
  obtain ⟨A3, cap3, rfl, _, _, _⟩ := cells_row r3
  obtain ⟨A5, cap5, rfl, h0, h1, _⟩ := layers_row r5
  unfold maxLen at h1
  have tt : w.heap.size < w.heap.size + 1 := Nat.lt_succ_self _
  have tt2 : w.heap.size < w.heap.size + 1 + 1 := by omega
  have tt3 : w.heap.size < w.heap.size + 1 + 1 + 1 := by omega
  have tt4 : w.heap.size + 1 < w.heap.size + 1 + 1 + 1 := by omega
  have CP := Lib.hid (fun W (hW : Chg [] w W) => copyPart_any p _ _ B W hl hcl (r3.chg0 hW hB) (r5.chg0 hW hB) (by have := hW.size; omega))
  have FO := Lib.hid (fun W (hW : Chg [] w W) => faceOf_impl_any p (.slice A3 p.core.cells.length cap3) _ B W (r5.chg0 hW hB) (by have := hW.size; omega))
  have ip := fun W (hW : Chg [] w W) => isPart_impl_any p _ _ B W (r3.chg0 hW hB) (r5.chg0 hW hB) (by have := hW.size; omega) hl hcl hs
  cases hx : layerOf name with
  | none =>
    have LF := Lib.hid (fun W => (layerFaces_impl_any name W).mono (Opt2Is.none_ hx))
    by_cases n1p : PartOk p
    · have IP := Lib.hid (fun W (hW : Chg [] w W) => (ip W hW).mono (BoolPost.pos n1p))
      clear ip r3 r5 hs
      go_enter Tryd.func49, Tryd.ntmps49
      go_wp2_with fail
      refine (CP.out _ ?_).mono ?_
      · repeat (first | with_reducible exact Chg.refl _ _ | with_reducible refine Chg.drew ?_ | with_reducible refine Chg.alloc ?_ _)
      rintro e w1 ⟨A4, cap4, A6, cap6, rfl, n1⟩
      have e1 : Chg [] (((w.alloc (.cells #[.string p.core.kind, .bool p.core.on, .bool p.core.broken, .slice A3 p.core.cells.length cap3, .int .i64 p.core.count, .slice A5 p.layers.length cap5] 62)).alloc (.cells #[.string ⟨#[]⟩, .bool false, .bool false, .slice none 0 0, .int .i64 0, .slice none 0 0] 62)).alloc (.cells #[.int .i64 0, .int .i64 0, .string ⟨#[]⟩, .int .i64 0, .int .i64 0] 69)) w1 := n1.2.chg
      have t1 : w.heap.size + 1 + 1 < w1.heap.size := by have := e1.size; simp at this; omega
      have t1a : w.heap.size + 1 < w1.heap.size := by omega
      have t1b : w.heap.size < w1.heap.size := by omega
      have tr : w1.heap.size < w1.heap.size + 1 := Nat.lt_succ_self _
      have E1 : Chg [] w w1 := Chg.trans0 (by repeat (first | with_reducible exact Chg.refl _ _ | with_reducible refine Chg.drew ?_ | with_reducible refine Chg.alloc ?_ _)) e1
      have a10 : w1.cell? ⟨w.heap.size, 0, none⟩ = some (.string p.core.kind) := (e1.cell (p := ⟨w.heap.size, 0, none⟩) (by simp <;> omega) (by simp)).trans (by go_simp)
      have a11 : w1.cell? ⟨w.heap.size, 1, none⟩ = some (.bool p.core.on) := (e1.cell (p := ⟨w.heap.size, 1, none⟩) (by simp <;> omega) (by simp)).trans (by go_simp)
      have a12 : w1.cell? ⟨w.heap.size, 2, none⟩ = some (.bool p.core.broken) := (e1.cell (p := ⟨w.heap.size, 2, none⟩) (by simp <;> omega) (by simp)).trans (by go_simp)
      have a13 : w1.cell? ⟨w.heap.size, 3, none⟩ = some (.slice A3 p.core.cells.length cap3) := (e1.cell (p := ⟨w.heap.size, 3, none⟩) (by simp <;> omega) (by simp)).trans (by go_simp)
      have a14 : w1.cell? ⟨w.heap.size, 4, none⟩ = some (.int .i64 p.core.count) := (e1.cell (p := ⟨w.heap.size, 4, none⟩) (by simp <;> omega) (by simp)).trans (by go_simp)
      have a15 : w1.cell? ⟨w.heap.size, 5, none⟩ = some (.slice A5 p.layers.length cap5) := (e1.cell (p := ⟨w.heap.size, 5, none⟩) (by simp <;> omega) (by simp)).trans (by go_simp)
      have b10 : w1.cell? ⟨w.heap.size + 1, 0, none⟩ = some (.string ⟨#[]⟩) := (e1.cell (p := ⟨w.heap.size + 1, 0, none⟩) (by simp <;> omega) (by simp)).trans (by go_simp)
      have b11 : w1.cell? ⟨w.heap.size + 1, 1, none⟩ = some (.bool false) := (e1.cell (p := ⟨w.heap.size + 1, 1, none⟩) (by simp <;> omega) (by simp)).trans (by go_simp)
      have b12 : w1.cell? ⟨w.heap.size + 1, 2, none⟩ = some (.bool false) := (e1.cell (p := ⟨w.heap.size + 1, 2, none⟩) (by simp <;> omega) (by simp)).trans (by go_simp)
      have b13 : w1.cell? ⟨w.heap.size + 1, 3, none⟩ = some (.slice none 0 0) := (e1.cell (p := ⟨w.heap.size + 1, 3, none⟩) (by simp <;> omega) (by simp)).trans (by go_simp)
      have b14 : w1.cell? ⟨w.heap.size + 1, 4, none⟩ = some (.int .i64 0) := (e1.cell (p := ⟨w.heap.size + 1, 4, none⟩) (by simp <;> omega) (by simp)).trans (by go_simp)
      have b15 : w1.cell? ⟨w.heap.size + 1, 5, none⟩ = some (.slice none 0 0) := (e1.cell (p := ⟨w.heap.size + 1, 5, none⟩) (by simp <;> omega) (by simp)).trans (by go_simp)
      have b1f0 : w1.frozen? ⟨w.heap.size + 1, 0, none⟩ = false := (e1.frozen (p := ⟨w.heap.size + 1, 0, none⟩) (by simp <;> omega) (by simp)).trans (by go_simp)
      have b1f1 : w1.frozen? ⟨w.heap.size + 1, 1, none⟩ = false := (e1.frozen (p := ⟨w.heap.size + 1, 1, none⟩) (by simp <;> omega) (by simp)).trans (by go_simp)
      have b1f2 : w1.frozen? ⟨w.heap.size + 1, 2, none⟩ = false := (e1.frozen (p := ⟨w.heap.size + 1, 2, none⟩) (by simp <;> omega) (by simp)).trans (by go_simp)
      have b1f3 : w1.frozen? ⟨w.heap.size + 1, 3, none⟩ = false := (e1.frozen (p := ⟨w.heap.size + 1, 3, none⟩) (by simp <;> omega) (by simp)).trans (by go_simp)
      have b1f4 : w1.frozen? ⟨w.heap.size + 1, 4, none⟩ = false := (e1.frozen (p := ⟨w.heap.size + 1, 4, none⟩) (by simp <;> omega) (by simp)).trans (by go_simp)
      have b1f5 : w1.frozen? ⟨w.heap.size + 1, 5, none⟩ = false := (e1.frozen (p := ⟨w.heap.size + 1, 5, none⟩) (by simp <;> omega) (by simp)).trans (by go_simp)
      have c10 : w1.cell? ⟨w.heap.size + 1 + 1, 0, none⟩ = some (.int .i64 0) := (e1.cell (p := ⟨w.heap.size + 1 + 1, 0, none⟩) (by simp <;> omega) (by simp)).trans (by go_simp)
      have c11 : w1.cell? ⟨w.heap.size + 1 + 1, 1, none⟩ = some (.int .i64 0) := (e1.cell (p := ⟨w.heap.size + 1 + 1, 1, none⟩) (by simp <;> omega) (by simp)).trans (by go_simp)
      have c12 : w1.cell? ⟨w.heap.size + 1 + 1, 2, none⟩ = some (.string ⟨#[]⟩) := (e1.cell (p := ⟨w.heap.size + 1 + 1, 2, none⟩) (by simp <;> omega) (by simp)).trans (by go_simp)
      have c13 : w1.cell? ⟨w.heap.size + 1 + 1, 3, none⟩ = some (.int .i64 0) := (e1.cell (p := ⟨w.heap.size + 1 + 1, 3, none⟩) (by simp <;> omega) (by simp)).trans (by go_simp)
      have c14 : w1.cell? ⟨w.heap.size + 1 + 1, 4, none⟩ = some (.int .i64 0) := (e1.cell (p := ⟨w.heap.size + 1 + 1, 4, none⟩) (by simp <;> omega) (by simp)).trans (by go_simp)
      have c1f0 : w1.frozen? ⟨w.heap.size + 1 + 1, 0, none⟩ = false := (e1.frozen (p := ⟨w.heap.size + 1 + 1, 0, none⟩) (by simp <;> omega) (by simp)).trans (by go_simp)
      have c1f1 : w1.frozen? ⟨w.heap.size + 1 + 1, 1, none⟩ = false := (e1.frozen (p := ⟨w.heap.size + 1 + 1, 1, none⟩) (by simp <;> omega) (by simp)).trans (by go_simp)
      have c1f2 : w1.frozen? ⟨w.heap.size + 1 + 1, 2, none⟩ = false := (e1.frozen (p := ⟨w.heap.size + 1 + 1, 2, none⟩) (by simp <;> omega) (by simp)).trans (by go_simp)
      have c1f3 : w1.frozen? ⟨w.heap.size + 1 + 1, 3, none⟩ = false := (e1.frozen (p := ⟨w.heap.size + 1 + 1, 3, none⟩) (by simp <;> omega) (by simp)).trans (by go_simp)
      have c1f4 : w1.frozen? ⟨w.heap.size + 1 + 1, 4, none⟩ = false := (e1.frozen (p := ⟨w.heap.size + 1 + 1, 4, none⟩) (by simp <;> omega) (by simp)).trans (by go_simp)
      clear e1
      go_wp2_with fail
      refine (LF.out _).mono ?_
      rintro e w1b ⟨rfl, rfl⟩
      go_wp2_with fail
      refine (IP.out _ (E1.alloc _)).mono ?_
      rintro e w2 ⟨rfl, c2⟩
      have d12 : Chg [] w1 w2 := ((Chg.refl [] w1).alloc _).trans0 c2
      have a20 : w2.cell? ⟨w.heap.size, 0, none⟩ = some (.string p.core.kind) := (d12.cell (p := ⟨w.heap.size, 0, none⟩) t1b (by simp)).trans (a10)
      have a21 : w2.cell? ⟨w.heap.size, 1, none⟩ = some (.bool p.core.on) := (d12.cell (p := ⟨w.heap.size, 1, none⟩) t1b (by simp)).trans (a11)
      have a22 : w2.cell? ⟨w.heap.size, 2, none⟩ = some (.bool p.core.broken) := (d12.cell (p := ⟨w.heap.size, 2, none⟩) t1b (by simp)).trans (a12)
      have a23 : w2.cell? ⟨w.heap.size, 3, none⟩ = some (.slice A3 p.core.cells.length cap3) := (d12.cell (p := ⟨w.heap.size, 3, none⟩) t1b (by simp)).trans (a13)
      have a24 : w2.cell? ⟨w.heap.size, 4, none⟩ = some (.int .i64 p.core.count) := (d12.cell (p := ⟨w.heap.size, 4, none⟩) t1b (by simp)).trans (a14)
      have a25 : w2.cell? ⟨w.heap.size, 5, none⟩ = some (.slice A5 p.layers.length cap5) := (d12.cell (p := ⟨w.heap.size, 5, none⟩) t1b (by simp)).trans (a15)
      have b20 : w2.cell? ⟨w.heap.size + 1, 0, none⟩ = some (.string ⟨#[]⟩) := (d12.cell (p := ⟨w.heap.size + 1, 0, none⟩) t1a (by simp)).trans (b10)
      have b21 : w2.cell? ⟨w.heap.size + 1, 1, none⟩ = some (.bool false) := (d12.cell (p := ⟨w.heap.size + 1, 1, none⟩) t1a (by simp)).trans (b11)
      have b22 : w2.cell? ⟨w.heap.size + 1, 2, none⟩ = some (.bool false) := (d12.cell (p := ⟨w.heap.size + 1, 2, none⟩) t1a (by simp)).trans (b12)
      have b23 : w2.cell? ⟨w.heap.size + 1, 3, none⟩ = some (.slice none 0 0) := (d12.cell (p := ⟨w.heap.size + 1, 3, none⟩) t1a (by simp)).trans (b13)
      have b24 : w2.cell? ⟨w.heap.size + 1, 4, none⟩ = some (.int .i64 0) := (d12.cell (p := ⟨w.heap.size + 1, 4, none⟩) t1a (by simp)).trans (b14)
      have b25 : w2.cell? ⟨w.heap.size + 1, 5, none⟩ = some (.slice none 0 0) := (d12.cell (p := ⟨w.heap.size + 1, 5, none⟩) t1a (by simp)).trans (b15)
      have b2f0 : w2.frozen? ⟨w.heap.size + 1, 0, none⟩ = false := (d12.frozen (p := ⟨w.heap.size + 1, 0, none⟩) t1a (by simp)).trans (b1f0)
      have b2f1 : w2.frozen? ⟨w.heap.size + 1, 1, none⟩ = false := (d12.frozen (p := ⟨w.heap.size + 1, 1, none⟩) t1a (by simp)).trans (b1f1)
      have b2f2 : w2.frozen? ⟨w.heap.size + 1, 2, none⟩ = false := (d12.frozen (p := ⟨w.heap.size + 1, 2, none⟩) t1a (by simp)).trans (b1f2)
      have b2f3 : w2.frozen? ⟨w.heap.size + 1, 3, none⟩ = false := (d12.frozen (p := ⟨w.heap.size + 1, 3, none⟩) t1a (by simp)).trans (b1f3)
      have b2f4 : w2.frozen? ⟨w.heap.size + 1, 4, none⟩ = false := (d12.frozen (p := ⟨w.heap.size + 1, 4, none⟩) t1a (by simp)).trans (b1f4)
      have b2f5 : w2.frozen? ⟨w.heap.size + 1, 5, none⟩ = false := (d12.frozen (p := ⟨w.heap.size + 1, 5, none⟩) t1a (by simp)).trans (b1f5)
      have c20 : w2.cell? ⟨w.heap.size + 1 + 1, 0, none⟩ = some (.int .i64 0) := (d12.cell (p := ⟨w.heap.size + 1 + 1, 0, none⟩) t1 (by simp)).trans (c10)
      have c21 : w2.cell? ⟨w.heap.size + 1 + 1, 1, none⟩ = some (.int .i64 0) := (d12.cell (p := ⟨w.heap.size + 1 + 1, 1, none⟩) t1 (by simp)).trans (c11)
      have c22 : w2.cell? ⟨w.heap.size + 1 + 1, 2, none⟩ = some (.string ⟨#[]⟩) := (d12.cell (p := ⟨w.heap.size + 1 + 1, 2, none⟩) t1 (by simp)).trans (c12)
      have c23 : w2.cell? ⟨w.heap.size + 1 + 1, 3, none⟩ = some (.int .i64 0) := (d12.cell (p := ⟨w.heap.size + 1 + 1, 3, none⟩) t1 (by simp)).trans (c13)
      have c24 : w2.cell? ⟨w.heap.size + 1 + 1, 4, none⟩ = some (.int .i64 0) := (d12.cell (p := ⟨w.heap.size + 1 + 1, 4, none⟩) t1 (by simp)).trans (c14)
      have c2f0 : w2.frozen? ⟨w.heap.size + 1 + 1, 0, none⟩ = false := (d12.frozen (p := ⟨w.heap.size + 1 + 1, 0, none⟩) t1 (by simp)).trans (c1f0)
      have c2f1 : w2.frozen? ⟨w.heap.size + 1 + 1, 1, none⟩ = false := (d12.frozen (p := ⟨w.heap.size + 1 + 1, 1, none⟩) t1 (by simp)).trans (c1f1)
      have c2f2 : w2.frozen? ⟨w.heap.size + 1 + 1, 2, none⟩ = false := (d12.frozen (p := ⟨w.heap.size + 1 + 1, 2, none⟩) t1 (by simp)).trans (c1f2)
      have c2f3 : w2.frozen? ⟨w.heap.size + 1 + 1, 3, none⟩ = false := (d12.frozen (p := ⟨w.heap.size + 1 + 1, 3, none⟩) t1 (by simp)).trans (c1f3)
      have c2f4 : w2.frozen? ⟨w.heap.size + 1 + 1, 4, none⟩ = false := (d12.frozen (p := ⟨w.heap.size + 1 + 1, 4, none⟩) t1 (by simp)).trans (c1f4)
      have d20 : w2.cell? ⟨w1.heap.size, 0, none⟩ = some (.string p.core.kind) := (c2.cell (p := ⟨w1.heap.size, 0, none⟩) (by simp) (by simp)).trans (by go_simp)
      have d21 : w2.cell? ⟨w1.heap.size, 1, none⟩ = some (.bool p.core.on) := (c2.cell (p := ⟨w1.heap.size, 1, none⟩) (by simp) (by simp)).trans (by go_simp)
      have d22 : w2.cell? ⟨w1.heap.size, 2, none⟩ = some (.bool p.core.broken) := (c2.cell (p := ⟨w1.heap.size, 2, none⟩) (by simp) (by simp)).trans (by go_simp)
      have d23 : w2.cell? ⟨w1.heap.size, 3, none⟩ = some (.slice A4 p.core.cells.length cap4) := (c2.cell (p := ⟨w1.heap.size, 3, none⟩) (by simp) (by simp)).trans (by go_simp)
      have d24 : w2.cell? ⟨w1.heap.size, 4, none⟩ = some (.int .i64 p.core.count) := (c2.cell (p := ⟨w1.heap.size, 4, none⟩) (by simp) (by simp)).trans (by go_simp)
      have d25 : w2.cell? ⟨w1.heap.size, 5, none⟩ = some (.slice A6 p.layers.length cap6) := (c2.cell (p := ⟨w1.heap.size, 5, none⟩) (by simp) (by simp)).trans (by go_simp)
      have d2f0 : w2.frozen? ⟨w1.heap.size, 0, none⟩ = false := (c2.frozen (p := ⟨w1.heap.size, 0, none⟩) (by simp) (by simp)).trans (by go_simp)
      have d2f1 : w2.frozen? ⟨w1.heap.size, 1, none⟩ = false := (c2.frozen (p := ⟨w1.heap.size, 1, none⟩) (by simp) (by simp)).trans (by go_simp)
      have d2f2 : w2.frozen? ⟨w1.heap.size, 2, none⟩ = false := (c2.frozen (p := ⟨w1.heap.size, 2, none⟩) (by simp) (by simp)).trans (by go_simp)
      have d2f3 : w2.frozen? ⟨w1.heap.size, 3, none⟩ = false := (c2.frozen (p := ⟨w1.heap.size, 3, none⟩) (by simp) (by simp)).trans (by go_simp)
      have d2f4 : w2.frozen? ⟨w1.heap.size, 4, none⟩ = false := (c2.frozen (p := ⟨w1.heap.size, 4, none⟩) (by simp) (by simp)).trans (by go_simp)
      have d2f5 : w2.frozen? ⟨w1.heap.size, 5, none⟩ = false := (c2.frozen (p := ⟨w1.heap.size, 5, none⟩) (by simp) (by simp)).trans (by go_simp)
      have t2 : w1.heap.size < w2.heap.size := by have := c2.size; simp at this; omega
      have t2a : w.heap.size < w2.heap.size := by omega
      have t2b : w.heap.size + 1 < w2.heap.size := by omega
      have t2c : w.heap.size + 1 + 1 < w2.heap.size := by omega
      have E2 : Chg [] w w2 := E1.trans0 d12
      clear c2
      clear a10 a11 a12 a13 a14 a15 b10 b1f0 b11 b1f1 b12 b1f2 b13 b1f3 b14 b1f4 b15 b1f5 c10 c1f0 c11 c1f1 c12 c1f2 c13 c1f3 c14 c1f4
      go_wp2_with fail
      refine bodyPost_ret (v := .tuple #[.agg #[.string p.core.kind, .bool p.core.on, .bool p.core.broken, .slice A4 p.core.cells.length cap4, .int .i64 p.core.count, .slice A6 p.layers.length cap6], .agg #[.int .i64 7, .int .i64 0, .string ⟨#[]⟩, .int .i64 0, .int .i64 0]]) (by simp only [results, Tryd.results49]; go_simp) rfl ?_
      rw [wrapOf_none hx]
      refine ⟨A4, cap4, _, _, rfl, ?_⟩
      exact PartNew.ends (w := w) (wb := (((w.alloc (.cells #[.string p.core.kind, .bool p.core.on, .bool p.core.broken, .slice A3 p.core.cells.length cap3, .int .i64 p.core.count, .slice A5 p.layers.length cap5] 62)).alloc (.cells #[.string ⟨#[]⟩, .bool false, .bool false, .slice none 0 0, .int .i64 0, .slice none 0 0] 62)).alloc (.cells #[.int .i64 0, .int .i64 0, .string ⟨#[]⟩, .int .i64 0, .int .i64 0] 69))) (g1 := w.heap.size + 1) (g2 := w.heap.size + 1 + 1) n1 (by repeat (first | with_reducible exact Chg.refl _ _ | with_reducible refine Chg.drew ?_ | with_reducible refine Chg.alloc ?_ _)) d12 (by omega) (by omega) (by simp <;> omega) (by simp <;> omega) (by repeat (first | with_reducible exact Chg.refl _ _ | with_reducible refine Chg.drew ?_ | with_reducible refine Chg.alloc ?_ _ | with_reducible refine Chg.setCell ?_ (.inl (by simp)) _))
    · have IP := Lib.hid (fun W (hW : Chg [] w W) => (ip W hW).mono (BoolPost.neg n1p))
      clear ip r3 r5 hs
      go_enter Tryd.func49, Tryd.ntmps49
      go_wp2_with fail
      refine (CP.out _ ?_).mono ?_
      · repeat (first | with_reducible exact Chg.refl _ _ | with_reducible refine Chg.drew ?_ | with_reducible refine Chg.alloc ?_ _)
      rintro e w1 ⟨A4, cap4, A6, cap6, rfl, n1⟩
      have e1 : Chg [] (((w.alloc (.cells #[.string p.core.kind, .bool p.core.on, .bool p.core.broken, .slice A3 p.core.cells.length cap3, .int .i64 p.core.count, .slice A5 p.layers.length cap5] 62)).alloc (.cells #[.string ⟨#[]⟩, .bool false, .bool false, .slice none 0 0, .int .i64 0, .slice none 0 0] 62)).alloc (.cells #[.int .i64 0, .int .i64 0, .string ⟨#[]⟩, .int .i64 0, .int .i64 0] 69)) w1 := n1.2.chg
      have t1 : w.heap.size + 1 + 1 < w1.heap.size := by have := e1.size; simp at this; omega
      have t1a : w.heap.size + 1 < w1.heap.size := by omega
      have t1b : w.heap.size < w1.heap.size := by omega
      have tr : w1.heap.size < w1.heap.size + 1 := Nat.lt_succ_self _
      have E1 : Chg [] w w1 := Chg.trans0 (by repeat (first | with_reducible exact Chg.refl _ _ | with_reducible refine Chg.drew ?_ | with_reducible refine Chg.alloc ?_ _)) e1
      have a10 : w1.cell? ⟨w.heap.size, 0, none⟩ = some (.string p.core.kind) := (e1.cell (p := ⟨w.heap.size, 0, none⟩) (by simp <;> omega) (by simp)).trans (by go_simp)
      have a11 : w1.cell? ⟨w.heap.size, 1, none⟩ = some (.bool p.core.on) := (e1.cell (p := ⟨w.heap.size, 1, none⟩) (by simp <;> omega) (by simp)).trans (by go_simp)
      have a12 : w1.cell? ⟨w.heap.size, 2, none⟩ = some (.bool p.core.broken) := (e1.cell (p := ⟨w.heap.size, 2, none⟩) (by simp <;> omega) (by simp)).trans (by go_simp)
      have a13 : w1.cell? ⟨w.heap.size, 3, none⟩ = some (.slice A3 p.core.cells.length cap3) := (e1.cell (p := ⟨w.heap.size, 3, none⟩) (by simp <;> omega) (by simp)).trans (by go_simp)
      have a14 : w1.cell? ⟨w.heap.size, 4, none⟩ = some (.int .i64 p.core.count) := (e1.cell (p := ⟨w.heap.size, 4, none⟩) (by simp <;> omega) (by simp)).trans (by go_simp)
      have a15 : w1.cell? ⟨w.heap.size, 5, none⟩ = some (.slice A5 p.layers.length cap5) := (e1.cell (p := ⟨w.heap.size, 5, none⟩) (by simp <;> omega) (by simp)).trans (by go_simp)
      have b10 : w1.cell? ⟨w.heap.size + 1, 0, none⟩ = some (.string ⟨#[]⟩) := (e1.cell (p := ⟨w.heap.size + 1, 0, none⟩) (by simp <;> omega) (by simp)).trans (by go_simp)
      have b11 : w1.cell? ⟨w.heap.size + 1, 1, none⟩ = some (.bool false) := (e1.cell (p := ⟨w.heap.size + 1, 1, none⟩) (by simp <;> omega) (by simp)).trans (by go_simp)
      have b12 : w1.cell? ⟨w.heap.size + 1, 2, none⟩ = some (.bool false) := (e1.cell (p := ⟨w.heap.size + 1, 2, none⟩) (by simp <;> omega) (by simp)).trans (by go_simp)
      have b13 : w1.cell? ⟨w.heap.size + 1, 3, none⟩ = some (.slice none 0 0) := (e1.cell (p := ⟨w.heap.size + 1, 3, none⟩) (by simp <;> omega) (by simp)).trans (by go_simp)
      have b14 : w1.cell? ⟨w.heap.size + 1, 4, none⟩ = some (.int .i64 0) := (e1.cell (p := ⟨w.heap.size + 1, 4, none⟩) (by simp <;> omega) (by simp)).trans (by go_simp)
      have b15 : w1.cell? ⟨w.heap.size + 1, 5, none⟩ = some (.slice none 0 0) := (e1.cell (p := ⟨w.heap.size + 1, 5, none⟩) (by simp <;> omega) (by simp)).trans (by go_simp)
      have b1f0 : w1.frozen? ⟨w.heap.size + 1, 0, none⟩ = false := (e1.frozen (p := ⟨w.heap.size + 1, 0, none⟩) (by simp <;> omega) (by simp)).trans (by go_simp)
      have b1f1 : w1.frozen? ⟨w.heap.size + 1, 1, none⟩ = false := (e1.frozen (p := ⟨w.heap.size + 1, 1, none⟩) (by simp <;> omega) (by simp)).trans (by go_simp)
      have b1f2 : w1.frozen? ⟨w.heap.size + 1, 2, none⟩ = false := (e1.frozen (p := ⟨w.heap.size + 1, 2, none⟩) (by simp <;> omega) (by simp)).trans (by go_simp)
      have b1f3 : w1.frozen? ⟨w.heap.size + 1, 3, none⟩ = false := (e1.frozen (p := ⟨w.heap.size + 1, 3, none⟩) (by simp <;> omega) (by simp)).trans (by go_simp)
      have b1f4 : w1.frozen? ⟨w.heap.size + 1, 4, none⟩ = false := (e1.frozen (p := ⟨w.heap.size + 1, 4, none⟩) (by simp <;> omega) (by simp)).trans (by go_simp)
      have b1f5 : w1.frozen? ⟨w.heap.size + 1, 5, none⟩ = false := (e1.frozen (p := ⟨w.heap.size + 1, 5, none⟩) (by simp <;> omega) (by simp)).trans (by go_simp)
      have c10 : w1.cell? ⟨w.heap.size + 1 + 1, 0, none⟩ = some (.int .i64 0) := (e1.cell (p := ⟨w.heap.size + 1 + 1, 0, none⟩) (by simp <;> omega) (by simp)).trans (by go_simp)
      have c11 : w1.cell? ⟨w.heap.size + 1 + 1, 1, none⟩ = some (.int .i64 0) := (e1.cell (p := ⟨w.heap.size + 1 + 1, 1, none⟩) (by simp <;> omega) (by simp)).trans (by go_simp)
      have c12 : w1.cell? ⟨w.heap.size + 1 + 1, 2, none⟩ = some (.string ⟨#[]⟩) := (e1.cell (p := ⟨w.heap.size + 1 + 1, 2, none⟩) (by simp <;> omega) (by simp)).trans (by go_simp)
      have c13 : w1.cell? ⟨w.heap.size + 1 + 1, 3, none⟩ = some (.int .i64 0) := (e1.cell (p := ⟨w.heap.size + 1 + 1, 3, none⟩) (by simp <;> omega) (by simp)).trans (by go_simp)
      have c14 : w1.cell? ⟨w.heap.size + 1 + 1, 4, none⟩ = some (.int .i64 0) := (e1.cell (p := ⟨w.heap.size + 1 + 1, 4, none⟩) (by simp <;> omega) (by simp)).trans (by go_simp)
      have c1f0 : w1.frozen? ⟨w.heap.size + 1 + 1, 0, none⟩ = false := (e1.frozen (p := ⟨w.heap.size + 1 + 1, 0, none⟩) (by simp <;> omega) (by simp)).trans (by go_simp)
      have c1f1 : w1.frozen? ⟨w.heap.size + 1 + 1, 1, none⟩ = false := (e1.frozen (p := ⟨w.heap.size + 1 + 1, 1, none⟩) (by simp <;> omega) (by simp)).trans (by go_simp)
      have c1f2 : w1.frozen? ⟨w.heap.size + 1 + 1, 2, none⟩ = false := (e1.frozen (p := ⟨w.heap.size + 1 + 1, 2, none⟩) (by simp <;> omega) (by simp)).trans (by go_simp)
      have c1f3 : w1.frozen? ⟨w.heap.size + 1 + 1, 3, none⟩ = false := (e1.frozen (p := ⟨w.heap.size + 1 + 1, 3, none⟩) (by simp <;> omega) (by simp)).trans (by go_simp)
      have c1f4 : w1.frozen? ⟨w.heap.size + 1 + 1, 4, none⟩ = false := (e1.frozen (p := ⟨w.heap.size + 1 + 1, 4, none⟩) (by simp <;> omega) (by simp)).trans (by go_simp)
      clear e1
      go_wp2_with fail
      refine (LF.out _).mono ?_
      rintro e w1b ⟨rfl, rfl⟩
      go_wp2_with fail
      refine (IP.out _ (E1.alloc _)).mono ?_
      rintro e w2 ⟨rfl, c2⟩
      have d12 : Chg [] w1 w2 := ((Chg.refl [] w1).alloc _).trans0 c2
      have a20 : w2.cell? ⟨w.heap.size, 0, none⟩ = some (.string p.core.kind) := (d12.cell (p := ⟨w.heap.size, 0, none⟩) t1b (by simp)).trans (a10)
      have a21 : w2.cell? ⟨w.heap.size, 1, none⟩ = some (.bool p.core.on) := (d12.cell (p := ⟨w.heap.size, 1, none⟩) t1b (by simp)).trans (a11)
      have a22 : w2.cell? ⟨w.heap.size, 2, none⟩ = some (.bool p.core.broken) := (d12.cell (p := ⟨w.heap.size, 2, none⟩) t1b (by simp)).trans (a12)
      have a23 : w2.cell? ⟨w.heap.size, 3, none⟩ = some (.slice A3 p.core.cells.length cap3) := (d12.cell (p := ⟨w.heap.size, 3, none⟩) t1b (by simp)).trans (a13)
      have a24 : w2.cell? ⟨w.heap.size, 4, none⟩ = some (.int .i64 p.core.count) := (d12.cell (p := ⟨w.heap.size, 4, none⟩) t1b (by simp)).trans (a14)
      have a25 : w2.cell? ⟨w.heap.size, 5, none⟩ = some (.slice A5 p.layers.length cap5) := (d12.cell (p := ⟨w.heap.size, 5, none⟩) t1b (by simp)).trans (a15)
      have b20 : w2.cell? ⟨w.heap.size + 1, 0, none⟩ = some (.string ⟨#[]⟩) := (d12.cell (p := ⟨w.heap.size + 1, 0, none⟩) t1a (by simp)).trans (b10)
      have b21 : w2.cell? ⟨w.heap.size + 1, 1, none⟩ = some (.bool false) := (d12.cell (p := ⟨w.heap.size + 1, 1, none⟩) t1a (by simp)).trans (b11)
      have b22 : w2.cell? ⟨w.heap.size + 1, 2, none⟩ = some (.bool false) := (d12.cell (p := ⟨w.heap.size + 1, 2, none⟩) t1a (by simp)).trans (b12)
      have b23 : w2.cell? ⟨w.heap.size + 1, 3, none⟩ = some (.slice none 0 0) := (d12.cell (p := ⟨w.heap.size + 1, 3, none⟩) t1a (by simp)).trans (b13)
      have b24 : w2.cell? ⟨w.heap.size + 1, 4, none⟩ = some (.int .i64 0) := (d12.cell (p := ⟨w.heap.size + 1, 4, none⟩) t1a (by simp)).trans (b14)
      have b25 : w2.cell? ⟨w.heap.size + 1, 5, none⟩ = some (.slice none 0 0) := (d12.cell (p := ⟨w.heap.size + 1, 5, none⟩) t1a (by simp)).trans (b15)
      have b2f0 : w2.frozen? ⟨w.heap.size + 1, 0, none⟩ = false := (d12.frozen (p := ⟨w.heap.size + 1, 0, none⟩) t1a (by simp)).trans (b1f0)
      have b2f1 : w2.frozen? ⟨w.heap.size + 1, 1, none⟩ = false := (d12.frozen (p := ⟨w.heap.size + 1, 1, none⟩) t1a (by simp)).trans (b1f1)
      have b2f2 : w2.frozen? ⟨w.heap.size + 1, 2, none⟩ = false := (d12.frozen (p := ⟨w.heap.size + 1, 2, none⟩) t1a (by simp)).trans (b1f2)
      have b2f3 : w2.frozen? ⟨w.heap.size + 1, 3, none⟩ = false := (d12.frozen (p := ⟨w.heap.size + 1, 3, none⟩) t1a (by simp)).trans (b1f3)
      have b2f4 : w2.frozen? ⟨w.heap.size + 1, 4, none⟩ = false := (d12.frozen (p := ⟨w.heap.size + 1, 4, none⟩) t1a (by simp)).trans (b1f4)
      have b2f5 : w2.frozen? ⟨w.heap.size + 1, 5, none⟩ = false := (d12.frozen (p := ⟨w.heap.size + 1, 5, none⟩) t1a (by simp)).trans (b1f5)
      have c20 : w2.cell? ⟨w.heap.size + 1 + 1, 0, none⟩ = some (.int .i64 0) := (d12.cell (p := ⟨w.heap.size + 1 + 1, 0, none⟩) t1 (by simp)).trans (c10)
      have c21 : w2.cell? ⟨w.heap.size + 1 + 1, 1, none⟩ = some (.int .i64 0) := (d12.cell (p := ⟨w.heap.size + 1 + 1, 1, none⟩) t1 (by simp)).trans (c11)
      have c22 : w2.cell? ⟨w.heap.size + 1 + 1, 2, none⟩ = some (.string ⟨#[]⟩) := (d12.cell (p := ⟨w.heap.size + 1 + 1, 2, none⟩) t1 (by simp)).trans (c12)
      have c23 : w2.cell? ⟨w.heap.size + 1 + 1, 3, none⟩ = some (.int .i64 0) := (d12.cell (p := ⟨w.heap.size + 1 + 1, 3, none⟩) t1 (by simp)).trans (c13)
      have c24 : w2.cell? ⟨w.heap.size + 1 + 1, 4, none⟩ = some (.int .i64 0) := (d12.cell (p := ⟨w.heap.size + 1 + 1, 4, none⟩) t1 (by simp)).trans (c14)
      have c2f0 : w2.frozen? ⟨w.heap.size + 1 + 1, 0, none⟩ = false := (d12.frozen (p := ⟨w.heap.size + 1 + 1, 0, none⟩) t1 (by simp)).trans (c1f0)
      have c2f1 : w2.frozen? ⟨w.heap.size + 1 + 1, 1, none⟩ = false := (d12.frozen (p := ⟨w.heap.size + 1 + 1, 1, none⟩) t1 (by simp)).trans (c1f1)
      have c2f2 : w2.frozen? ⟨w.heap.size + 1 + 1, 2, none⟩ = false := (d12.frozen (p := ⟨w.heap.size + 1 + 1, 2, none⟩) t1 (by simp)).trans (c1f2)
      have c2f3 : w2.frozen? ⟨w.heap.size + 1 + 1, 3, none⟩ = false := (d12.frozen (p := ⟨w.heap.size + 1 + 1, 3, none⟩) t1 (by simp)).trans (c1f3)
      have c2f4 : w2.frozen? ⟨w.heap.size + 1 + 1, 4, none⟩ = false := (d12.frozen (p := ⟨w.heap.size + 1 + 1, 4, none⟩) t1 (by simp)).trans (c1f4)
      have d20 : w2.cell? ⟨w1.heap.size, 0, none⟩ = some (.string p.core.kind) := (c2.cell (p := ⟨w1.heap.size, 0, none⟩) (by simp) (by simp)).trans (by go_simp)
      have d21 : w2.cell? ⟨w1.heap.size, 1, none⟩ = some (.bool p.core.on) := (c2.cell (p := ⟨w1.heap.size, 1, none⟩) (by simp) (by simp)).trans (by go_simp)
      have d22 : w2.cell? ⟨w1.heap.size, 2, none⟩ = some (.bool p.core.broken) := (c2.cell (p := ⟨w1.heap.size, 2, none⟩) (by simp) (by simp)).trans (by go_simp)
      have d23 : w2.cell? ⟨w1.heap.size, 3, none⟩ = some (.slice A4 p.core.cells.length cap4) := (c2.cell (p := ⟨w1.heap.size, 3, none⟩) (by simp) (by simp)).trans (by go_simp)
      have d24 : w2.cell? ⟨w1.heap.size, 4, none⟩ = some (.int .i64 p.core.count) := (c2.cell (p := ⟨w1.heap.size, 4, none⟩) (by simp) (by simp)).trans (by go_simp)
      have d25 : w2.cell? ⟨w1.heap.size, 5, none⟩ = some (.slice A6 p.layers.length cap6) := (c2.cell (p := ⟨w1.heap.size, 5, none⟩) (by simp) (by simp)).trans (by go_simp)
      have d2f0 : w2.frozen? ⟨w1.heap.size, 0, none⟩ = false := (c2.frozen (p := ⟨w1.heap.size, 0, none⟩) (by simp) (by simp)).trans (by go_simp)
      have d2f1 : w2.frozen? ⟨w1.heap.size, 1, none⟩ = false := (c2.frozen (p := ⟨w1.heap.size, 1, none⟩) (by simp) (by simp)).trans (by go_simp)
      have d2f2 : w2.frozen? ⟨w1.heap.size, 2, none⟩ = false := (c2.frozen (p := ⟨w1.heap.size, 2, none⟩) (by simp) (by simp)).trans (by go_simp)
      have d2f3 : w2.frozen? ⟨w1.heap.size, 3, none⟩ = false := (c2.frozen (p := ⟨w1.heap.size, 3, none⟩) (by simp) (by simp)).trans (by go_simp)
      have d2f4 : w2.frozen? ⟨w1.heap.size, 4, none⟩ = false := (c2.frozen (p := ⟨w1.heap.size, 4, none⟩) (by simp) (by simp)).trans (by go_simp)
      have d2f5 : w2.frozen? ⟨w1.heap.size, 5, none⟩ = false := (c2.frozen (p := ⟨w1.heap.size, 5, none⟩) (by simp) (by simp)).trans (by go_simp)
      have t2 : w1.heap.size < w2.heap.size := by have := c2.size; simp at this; omega
      have t2a : w.heap.size < w2.heap.size := by omega
      have t2b : w.heap.size + 1 < w2.heap.size := by omega
      have t2c : w.heap.size + 1 + 1 < w2.heap.size := by omega
      have E2 : Chg [] w w2 := E1.trans0 d12
      clear c2
      clear a10 a11 a12 a13 a14 a15 b10 b1f0 b11 b1f1 b12 b1f2 b13 b1f3 b14 b1f4 b15 b1f5 c10 c1f0 c11 c1f1 c12 c1f2 c13 c1f3 c14 c1f4
      go_wp2_with fail
      refine bodyPost_ret (v := .tuple #[.agg #[.string p.core.kind, .bool p.core.on, .bool p.core.broken, .slice A4 p.core.cells.length cap4, .int .i64 p.core.count, .slice A6 p.layers.length cap6], .agg #[.int .i64 7, .int .i64 0, .string ⟨#[]⟩, .int .i64 0, .int .i64 0]]) (by simp only [results, Tryd.results49]; go_simp) rfl ?_
      rw [wrapOf_none hx]
      refine ⟨A4, cap4, _, _, rfl, ?_⟩
      exact PartNew.ends (w := w) (wb := (((w.alloc (.cells #[.string p.core.kind, .bool p.core.on, .bool p.core.broken, .slice A3 p.core.cells.length cap3, .int .i64 p.core.count, .slice A5 p.layers.length cap5] 62)).alloc (.cells #[.string ⟨#[]⟩, .bool false, .bool false, .slice none 0 0, .int .i64 0, .slice none 0 0] 62)).alloc (.cells #[.int .i64 0, .int .i64 0, .string ⟨#[]⟩, .int .i64 0, .int .i64 0] 69))) (g1 := w.heap.size + 1) (g2 := w.heap.size + 1 + 1) n1 (by repeat (first | with_reducible exact Chg.refl _ _ | with_reducible refine Chg.drew ?_ | with_reducible refine Chg.alloc ?_ _)) d12 (by omega) (by omega) (by simp <;> omega) (by simp <;> omega) (by repeat (first | with_reducible exact Chg.refl _ _ | with_reducible refine Chg.drew ?_ | with_reducible refine Chg.alloc ?_ _ | with_reducible refine Chg.setCell ?_ (.inl (by simp)) _))
  | some x =>
    have LF := Lib.hid (fun W => (layerFaces_impl_any name W).mono (Opt2Is.some_ hx))
    by_cases n1p : PartOk p
    · have IP := Lib.hid (fun W (hW : Chg [] w W) => (ip W hW).mono (BoolPost.pos n1p))
      clear ip r3 r5 hs
      have n5 : p.layers.length ≤ 3 := n1p.2.1
      by_cases n3 : 3 ≤ p.layers.length
      · have i3 : (3 : Int) ≤ (p.layers.length : Int) := by omega
        go_enter Tryd.func49, Tryd.ntmps49
        go_wp2_with fail
        refine (CP.out _ ?_).mono ?_
        · repeat (first | with_reducible exact Chg.refl _ _ | with_reducible refine Chg.drew ?_ | with_reducible refine Chg.alloc ?_ _)
        rintro e w1 ⟨A4, cap4, A6, cap6, rfl, n1⟩
        have e1 : Chg [] (((w.alloc (.cells #[.string p.core.kind, .bool p.core.on, .bool p.core.broken, .slice A3 p.core.cells.length cap3, .int .i64 p.core.count, .slice A5 p.layers.length cap5] 62)).alloc (.cells #[.string ⟨#[]⟩, .bool false, .bool false, .slice none 0 0, .int .i64 0, .slice none 0 0] 62)).alloc (.cells #[.int .i64 0, .int .i64 0, .string ⟨#[]⟩, .int .i64 0, .int .i64 0] 69)) w1 := n1.2.chg
        have t1 : w.heap.size + 1 + 1 < w1.heap.size := by have := e1.size; simp at this; omega
        have t1a : w.heap.size + 1 < w1.heap.size := by omega
        have t1b : w.heap.size < w1.heap.size := by omega
        have tr : w1.heap.size < w1.heap.size + 1 := Nat.lt_succ_self _
        have E1 : Chg [] w w1 := Chg.trans0 (by repeat (first | with_reducible exact Chg.refl _ _ | with_reducible refine Chg.drew ?_ | with_reducible refine Chg.alloc ?_ _)) e1
        have a10 : w1.cell? ⟨w.heap.size, 0, none⟩ = some (.string p.core.kind) := (e1.cell (p := ⟨w.heap.size, 0, none⟩) (by simp <;> omega) (by simp)).trans (by go_simp)
        have a11 : w1.cell? ⟨w.heap.size, 1, none⟩ = some (.bool p.core.on) := (e1.cell (p := ⟨w.heap.size, 1, none⟩) (by simp <;> omega) (by simp)).trans (by go_simp)
        have a12 : w1.cell? ⟨w.heap.size, 2, none⟩ = some (.bool p.core.broken) := (e1.cell (p := ⟨w.heap.size, 2, none⟩) (by simp <;> omega) (by simp)).trans (by go_simp)
        have a13 : w1.cell? ⟨w.heap.size, 3, none⟩ = some (.slice A3 p.core.cells.length cap3) := (e1.cell (p := ⟨w.heap.size, 3, none⟩) (by simp <;> omega) (by simp)).trans (by go_simp)
        have a14 : w1.cell? ⟨w.heap.size, 4, none⟩ = some (.int .i64 p.core.count) := (e1.cell (p := ⟨w.heap.size, 4, none⟩) (by simp <;> omega) (by simp)).trans (by go_simp)
        have a15 : w1.cell? ⟨w.heap.size, 5, none⟩ = some (.slice A5 p.layers.length cap5) := (e1.cell (p := ⟨w.heap.size, 5, none⟩) (by simp <;> omega) (by simp)).trans (by go_simp)
        have b10 : w1.cell? ⟨w.heap.size + 1, 0, none⟩ = some (.string ⟨#[]⟩) := (e1.cell (p := ⟨w.heap.size + 1, 0, none⟩) (by simp <;> omega) (by simp)).trans (by go_simp)
        have b11 : w1.cell? ⟨w.heap.size + 1, 1, none⟩ = some (.bool false) := (e1.cell (p := ⟨w.heap.size + 1, 1, none⟩) (by simp <;> omega) (by simp)).trans (by go_simp)
        have b12 : w1.cell? ⟨w.heap.size + 1, 2, none⟩ = some (.bool false) := (e1.cell (p := ⟨w.heap.size + 1, 2, none⟩) (by simp <;> omega) (by simp)).trans (by go_simp)
        have b13 : w1.cell? ⟨w.heap.size + 1, 3, none⟩ = some (.slice none 0 0) := (e1.cell (p := ⟨w.heap.size + 1, 3, none⟩) (by simp <;> omega) (by simp)).trans (by go_simp)
        have b14 : w1.cell? ⟨w.heap.size + 1, 4, none⟩ = some (.int .i64 0) := (e1.cell (p := ⟨w.heap.size + 1, 4, none⟩) (by simp <;> omega) (by simp)).trans (by go_simp)
        have b15 : w1.cell? ⟨w.heap.size + 1, 5, none⟩ = some (.slice none 0 0) := (e1.cell (p := ⟨w.heap.size + 1, 5, none⟩) (by simp <;> omega) (by simp)).trans (by go_simp)
        have b1f0 : w1.frozen? ⟨w.heap.size + 1, 0, none⟩ = false := (e1.frozen (p := ⟨w.heap.size + 1, 0, none⟩) (by simp <;> omega) (by simp)).trans (by go_simp)
        have b1f1 : w1.frozen? ⟨w.heap.size + 1, 1, none⟩ = false := (e1.frozen (p := ⟨w.heap.size + 1, 1, none⟩) (by simp <;> omega) (by simp)).trans (by go_simp)
        have b1f2 : w1.frozen? ⟨w.heap.size + 1, 2, none⟩ = false := (e1.frozen (p := ⟨w.heap.size + 1, 2, none⟩) (by simp <;> omega) (by simp)).trans (by go_simp)
        have b1f3 : w1.frozen? ⟨w.heap.size + 1, 3, none⟩ = false := (e1.frozen (p := ⟨w.heap.size + 1, 3, none⟩) (by simp <;> omega) (by simp)).trans (by go_simp)
        have b1f4 : w1.frozen? ⟨w.heap.size + 1, 4, none⟩ = false := (e1.frozen (p := ⟨w.heap.size + 1, 4, none⟩) (by simp <;> omega) (by simp)).trans (by go_simp)
        have b1f5 : w1.frozen? ⟨w.heap.size + 1, 5, none⟩ = false := (e1.frozen (p := ⟨w.heap.size + 1, 5, none⟩) (by simp <;> omega) (by simp)).trans (by go_simp)
        have c10 : w1.cell? ⟨w.heap.size + 1 + 1, 0, none⟩ = some (.int .i64 0) := (e1.cell (p := ⟨w.heap.size + 1 + 1, 0, none⟩) (by simp <;> omega) (by simp)).trans (by go_simp)
        have c11 : w1.cell? ⟨w.heap.size + 1 + 1, 1, none⟩ = some (.int .i64 0) := (e1.cell (p := ⟨w.heap.size + 1 + 1, 1, none⟩) (by simp <;> omega) (by simp)).trans (by go_simp)
        have c12 : w1.cell? ⟨w.heap.size + 1 + 1, 2, none⟩ = some (.string ⟨#[]⟩) := (e1.cell (p := ⟨w.heap.size + 1 + 1, 2, none⟩) (by simp <;> omega) (by simp)).trans (by go_simp)
        have c13 : w1.cell? ⟨w.heap.size + 1 + 1, 3, none⟩ = some (.int .i64 0) := (e1.cell (p := ⟨w.heap.size + 1 + 1, 3, none⟩) (by simp <;> omega) (by simp)).trans (by go_simp)
        have c14 : w1.cell? ⟨w.heap.size + 1 + 1, 4, none⟩ = some (.int .i64 0) := (e1.cell (p := ⟨w.heap.size + 1 + 1, 4, none⟩) (by simp <;> omega) (by simp)).trans (by go_simp)
        have c1f0 : w1.frozen? ⟨w.heap.size + 1 + 1, 0, none⟩ = false := (e1.frozen (p := ⟨w.heap.size + 1 + 1, 0, none⟩) (by simp <;> omega) (by simp)).trans (by go_simp)
        have c1f1 : w1.frozen? ⟨w.heap.size + 1 + 1, 1, none⟩ = false := (e1.frozen (p := ⟨w.heap.size + 1 + 1, 1, none⟩) (by simp <;> omega) (by simp)).trans (by go_simp)
        have c1f2 : w1.frozen? ⟨w.heap.size + 1 + 1, 2, none⟩ = false := (e1.frozen (p := ⟨w.heap.size + 1 + 1, 2, none⟩) (by simp <;> omega) (by simp)).trans (by go_simp)
        have c1f3 : w1.frozen? ⟨w.heap.size + 1 + 1, 3, none⟩ = false := (e1.frozen (p := ⟨w.heap.size + 1 + 1, 3, none⟩) (by simp <;> omega) (by simp)).trans (by go_simp)
        have c1f4 : w1.frozen? ⟨w.heap.size + 1 + 1, 4, none⟩ = false := (e1.frozen (p := ⟨w.heap.size + 1 + 1, 4, none⟩) (by simp <;> omega) (by simp)).trans (by go_simp)
        clear e1
        go_wp2_with fail
        refine (LF.out _).mono ?_
        rintro e w1b ⟨rfl, rfl⟩
        go_wp2_with fail
        refine (IP.out _ (E1.alloc _)).mono ?_
        rintro e w2 ⟨rfl, c2⟩
        have d12 : Chg [] w1 w2 := ((Chg.refl [] w1).alloc _).trans0 c2
        have a20 : w2.cell? ⟨w.heap.size, 0, none⟩ = some (.string p.core.kind) := (d12.cell (p := ⟨w.heap.size, 0, none⟩) t1b (by simp)).trans (a10)
        have a21 : w2.cell? ⟨w.heap.size, 1, none⟩ = some (.bool p.core.on) := (d12.cell (p := ⟨w.heap.size, 1, none⟩) t1b (by simp)).trans (a11)
        have a22 : w2.cell? ⟨w.heap.size, 2, none⟩ = some (.bool p.core.broken) := (d12.cell (p := ⟨w.heap.size, 2, none⟩) t1b (by simp)).trans (a12)
        have a23 : w2.cell? ⟨w.heap.size, 3, none⟩ = some (.slice A3 p.core.cells.length cap3) := (d12.cell (p := ⟨w.heap.size, 3, none⟩) t1b (by simp)).trans (a13)
        have a24 : w2.cell? ⟨w.heap.size, 4, none⟩ = some (.int .i64 p.core.count) := (d12.cell (p := ⟨w.heap.size, 4, none⟩) t1b (by simp)).trans (a14)
        have a25 : w2.cell? ⟨w.heap.size, 5, none⟩ = some (.slice A5 p.layers.length cap5) := (d12.cell (p := ⟨w.heap.size, 5, none⟩) t1b (by simp)).trans (a15)
        have b20 : w2.cell? ⟨w.heap.size + 1, 0, none⟩ = some (.string ⟨#[]⟩) := (d12.cell (p := ⟨w.heap.size + 1, 0, none⟩) t1a (by simp)).trans (b10)
        have b21 : w2.cell? ⟨w.heap.size + 1, 1, none⟩ = some (.bool false) := (d12.cell (p := ⟨w.heap.size + 1, 1, none⟩) t1a (by simp)).trans (b11)
        have b22 : w2.cell? ⟨w.heap.size + 1, 2, none⟩ = some (.bool false) := (d12.cell (p := ⟨w.heap.size + 1, 2, none⟩) t1a (by simp)).trans (b12)
        have b23 : w2.cell? ⟨w.heap.size + 1, 3, none⟩ = some (.slice none 0 0) := (d12.cell (p := ⟨w.heap.size + 1, 3, none⟩) t1a (by simp)).trans (b13)
        have b24 : w2.cell? ⟨w.heap.size + 1, 4, none⟩ = some (.int .i64 0) := (d12.cell (p := ⟨w.heap.size + 1, 4, none⟩) t1a (by simp)).trans (b14)
        have b25 : w2.cell? ⟨w.heap.size + 1, 5, none⟩ = some (.slice none 0 0) := (d12.cell (p := ⟨w.heap.size + 1, 5, none⟩) t1a (by simp)).trans (b15)
        have b2f0 : w2.frozen? ⟨w.heap.size + 1, 0, none⟩ = false := (d12.frozen (p := ⟨w.heap.size + 1, 0, none⟩) t1a (by simp)).trans (b1f0)
        have b2f1 : w2.frozen? ⟨w.heap.size + 1, 1, none⟩ = false := (d12.frozen (p := ⟨w.heap.size + 1, 1, none⟩) t1a (by simp)).trans (b1f1)
        have b2f2 : w2.frozen? ⟨w.heap.size + 1, 2, none⟩ = false := (d12.frozen (p := ⟨w.heap.size + 1, 2, none⟩) t1a (by simp)).trans (b1f2)
        have b2f3 : w2.frozen? ⟨w.heap.size + 1, 3, none⟩ = false := (d12.frozen (p := ⟨w.heap.size + 1, 3, none⟩) t1a (by simp)).trans (b1f3)
        have b2f4 : w2.frozen? ⟨w.heap.size + 1, 4, none⟩ = false := (d12.frozen (p := ⟨w.heap.size + 1, 4, none⟩) t1a (by simp)).trans (b1f4)
        have b2f5 : w2.frozen? ⟨w.heap.size + 1, 5, none⟩ = false := (d12.frozen (p := ⟨w.heap.size + 1, 5, none⟩) t1a (by simp)).trans (b1f5)
        have c20 : w2.cell? ⟨w.heap.size + 1 + 1, 0, none⟩ = some (.int .i64 0) := (d12.cell (p := ⟨w.heap.size + 1 + 1, 0, none⟩) t1 (by simp)).trans (c10)
        have c21 : w2.cell? ⟨w.heap.size + 1 + 1, 1, none⟩ = some (.int .i64 0) := (d12.cell (p := ⟨w.heap.size + 1 + 1, 1, none⟩) t1 (by simp)).trans (c11)
        have c22 : w2.cell? ⟨w.heap.size + 1 + 1, 2, none⟩ = some (.string ⟨#[]⟩) := (d12.cell (p := ⟨w.heap.size + 1 + 1, 2, none⟩) t1 (by simp)).trans (c12)
        have c23 : w2.cell? ⟨w.heap.size + 1 + 1, 3, none⟩ = some (.int .i64 0) := (d12.cell (p := ⟨w.heap.size + 1 + 1, 3, none⟩) t1 (by simp)).trans (c13)
        have c24 : w2.cell? ⟨w.heap.size + 1 + 1, 4, none⟩ = some (.int .i64 0) := (d12.cell (p := ⟨w.heap.size + 1 + 1, 4, none⟩) t1 (by simp)).trans (c14)
        have c2f0 : w2.frozen? ⟨w.heap.size + 1 + 1, 0, none⟩ = false := (d12.frozen (p := ⟨w.heap.size + 1 + 1, 0, none⟩) t1 (by simp)).trans (c1f0)
        have c2f1 : w2.frozen? ⟨w.heap.size + 1 + 1, 1, none⟩ = false := (d12.frozen (p := ⟨w.heap.size + 1 + 1, 1, none⟩) t1 (by simp)).trans (c1f1)
        have c2f2 : w2.frozen? ⟨w.heap.size + 1 + 1, 2, none⟩ = false := (d12.frozen (p := ⟨w.heap.size + 1 + 1, 2, none⟩) t1 (by simp)).trans (c1f2)
        have c2f3 : w2.frozen? ⟨w.heap.size + 1 + 1, 3, none⟩ = false := (d12.frozen (p := ⟨w.heap.size + 1 + 1, 3, none⟩) t1 (by simp)).trans (c1f3)
        have c2f4 : w2.frozen? ⟨w.heap.size + 1 + 1, 4, none⟩ = false := (d12.frozen (p := ⟨w.heap.size + 1 + 1, 4, none⟩) t1 (by simp)).trans (c1f4)
        have d20 : w2.cell? ⟨w1.heap.size, 0, none⟩ = some (.string p.core.kind) := (c2.cell (p := ⟨w1.heap.size, 0, none⟩) (by simp) (by simp)).trans (by go_simp)
        have d21 : w2.cell? ⟨w1.heap.size, 1, none⟩ = some (.bool p.core.on) := (c2.cell (p := ⟨w1.heap.size, 1, none⟩) (by simp) (by simp)).trans (by go_simp)
        have d22 : w2.cell? ⟨w1.heap.size, 2, none⟩ = some (.bool p.core.broken) := (c2.cell (p := ⟨w1.heap.size, 2, none⟩) (by simp) (by simp)).trans (by go_simp)
        have d23 : w2.cell? ⟨w1.heap.size, 3, none⟩ = some (.slice A4 p.core.cells.length cap4) := (c2.cell (p := ⟨w1.heap.size, 3, none⟩) (by simp) (by simp)).trans (by go_simp)
        have d24 : w2.cell? ⟨w1.heap.size, 4, none⟩ = some (.int .i64 p.core.count) := (c2.cell (p := ⟨w1.heap.size, 4, none⟩) (by simp) (by simp)).trans (by go_simp)
        have d25 : w2.cell? ⟨w1.heap.size, 5, none⟩ = some (.slice A6 p.layers.length cap6) := (c2.cell (p := ⟨w1.heap.size, 5, none⟩) (by simp) (by simp)).trans (by go_simp)
        have d2f0 : w2.frozen? ⟨w1.heap.size, 0, none⟩ = false := (c2.frozen (p := ⟨w1.heap.size, 0, none⟩) (by simp) (by simp)).trans (by go_simp)
        have d2f1 : w2.frozen? ⟨w1.heap.size, 1, none⟩ = false := (c2.frozen (p := ⟨w1.heap.size, 1, none⟩) (by simp) (by simp)).trans (by go_simp)
        have d2f2 : w2.frozen? ⟨w1.heap.size, 2, none⟩ = false := (c2.frozen (p := ⟨w1.heap.size, 2, none⟩) (by simp) (by simp)).trans (by go_simp)
        have d2f3 : w2.frozen? ⟨w1.heap.size, 3, none⟩ = false := (c2.frozen (p := ⟨w1.heap.size, 3, none⟩) (by simp) (by simp)).trans (by go_simp)
        have d2f4 : w2.frozen? ⟨w1.heap.size, 4, none⟩ = false := (c2.frozen (p := ⟨w1.heap.size, 4, none⟩) (by simp) (by simp)).trans (by go_simp)
        have d2f5 : w2.frozen? ⟨w1.heap.size, 5, none⟩ = false := (c2.frozen (p := ⟨w1.heap.size, 5, none⟩) (by simp) (by simp)).trans (by go_simp)
        have t2 : w1.heap.size < w2.heap.size := by have := c2.size; simp at this; omega
        have t2a : w.heap.size < w2.heap.size := by omega
        have t2b : w.heap.size + 1 < w2.heap.size := by omega
        have t2c : w.heap.size + 1 + 1 < w2.heap.size := by omega
        have E2 : Chg [] w w2 := E1.trans0 d12
        clear c2
        clear a10 a11 a12 a13 a14 a15 b10 b1f0 b11 b1f1 b12 b1f2 b13 b1f3 b14 b1f4 b15 b1f5 c10 c1f0 c11 c1f1 c12 c1f2 c13 c1f3 c14 c1f4
        go_wp2_with fail
        refine bodyPost_ret (v := .tuple #[.agg #[.string p.core.kind, .bool p.core.on, .bool p.core.broken, .slice A4 p.core.cells.length cap4, .int .i64 p.core.count, .slice A6 p.layers.length cap6], .agg #[.int .i64 5, .int .i64 0, .string ⟨#[]⟩, .int .i64 0, .int .i64 0]]) (by simp only [results, Tryd.results49]; go_simp) rfl ?_
        rw [wrapOf_full hx n1p n3]
        refine ⟨A4, cap4, _, _, rfl, ?_⟩
        exact PartNew.ends (w := w) (wb := (((w.alloc (.cells #[.string p.core.kind, .bool p.core.on, .bool p.core.broken, .slice A3 p.core.cells.length cap3, .int .i64 p.core.count, .slice A5 p.layers.length cap5] 62)).alloc (.cells #[.string ⟨#[]⟩, .bool false, .bool false, .slice none 0 0, .int .i64 0, .slice none 0 0] 62)).alloc (.cells #[.int .i64 0, .int .i64 0, .string ⟨#[]⟩, .int .i64 0, .int .i64 0] 69))) (g1 := w.heap.size + 1) (g2 := w.heap.size + 1 + 1) n1 (by repeat (first | with_reducible exact Chg.refl _ _ | with_reducible refine Chg.drew ?_ | with_reducible refine Chg.alloc ?_ _)) d12 (by omega) (by omega) (by simp <;> omega) (by simp <;> omega) (by repeat (first | with_reducible exact Chg.refl _ _ | with_reducible refine Chg.drew ?_ | with_reducible refine Chg.alloc ?_ _ | with_reducible refine Chg.setCell ?_ (.inl (by simp)) _))
      · have i3 : (p.layers.length : Int) < 3 := by omega
        by_cases n4 : Offer (faceAt p p.layers.length) x.1
        · have OF := Lib.hid (fun W => (offers_impl_any (faceAt p p.layers.length) x.1 W).mono (BoolIs.pos n4))
          go_enter Tryd.func49, Tryd.ntmps49
          go_wp2_with fail
          refine (CP.out _ ?_).mono ?_
          · repeat (first | with_reducible exact Chg.refl _ _ | with_reducible refine Chg.drew ?_ | with_reducible refine Chg.alloc ?_ _)
          rintro e w1 ⟨A4, cap4, A6, cap6, rfl, n1⟩
          have e1 : Chg [] (((w.alloc (.cells #[.string p.core.kind, .bool p.core.on, .bool p.core.broken, .slice A3 p.core.cells.length cap3, .int .i64 p.core.count, .slice A5 p.layers.length cap5] 62)).alloc (.cells #[.string ⟨#[]⟩, .bool false, .bool false, .slice none 0 0, .int .i64 0, .slice none 0 0] 62)).alloc (.cells #[.int .i64 0, .int .i64 0, .string ⟨#[]⟩, .int .i64 0, .int .i64 0] 69)) w1 := n1.2.chg
          have t1 : w.heap.size + 1 + 1 < w1.heap.size := by have := e1.size; simp at this; omega
          have t1a : w.heap.size + 1 < w1.heap.size := by omega
          have t1b : w.heap.size < w1.heap.size := by omega
          have tr : w1.heap.size < w1.heap.size + 1 := Nat.lt_succ_self _
          have E1 : Chg [] w w1 := Chg.trans0 (by repeat (first | with_reducible exact Chg.refl _ _ | with_reducible refine Chg.drew ?_ | with_reducible refine Chg.alloc ?_ _)) e1
          have a10 : w1.cell? ⟨w.heap.size, 0, none⟩ = some (.string p.core.kind) := (e1.cell (p := ⟨w.heap.size, 0, none⟩) (by simp <;> omega) (by simp)).trans (by go_simp)
          have a11 : w1.cell? ⟨w.heap.size, 1, none⟩ = some (.bool p.core.on) := (e1.cell (p := ⟨w.heap.size, 1, none⟩) (by simp <;> omega) (by simp)).trans (by go_simp)
          have a12 : w1.cell? ⟨w.heap.size, 2, none⟩ = some (.bool p.core.broken) := (e1.cell (p := ⟨w.heap.size, 2, none⟩) (by simp <;> omega) (by simp)).trans (by go_simp)
          have a13 : w1.cell? ⟨w.heap.size, 3, none⟩ = some (.slice A3 p.core.cells.length cap3) := (e1.cell (p := ⟨w.heap.size, 3, none⟩) (by simp <;> omega) (by simp)).trans (by go_simp)
          have a14 : w1.cell? ⟨w.heap.size, 4, none⟩ = some (.int .i64 p.core.count) := (e1.cell (p := ⟨w.heap.size, 4, none⟩) (by simp <;> omega) (by simp)).trans (by go_simp)
          have a15 : w1.cell? ⟨w.heap.size, 5, none⟩ = some (.slice A5 p.layers.length cap5) := (e1.cell (p := ⟨w.heap.size, 5, none⟩) (by simp <;> omega) (by simp)).trans (by go_simp)
          have b10 : w1.cell? ⟨w.heap.size + 1, 0, none⟩ = some (.string ⟨#[]⟩) := (e1.cell (p := ⟨w.heap.size + 1, 0, none⟩) (by simp <;> omega) (by simp)).trans (by go_simp)
          have b11 : w1.cell? ⟨w.heap.size + 1, 1, none⟩ = some (.bool false) := (e1.cell (p := ⟨w.heap.size + 1, 1, none⟩) (by simp <;> omega) (by simp)).trans (by go_simp)
          have b12 : w1.cell? ⟨w.heap.size + 1, 2, none⟩ = some (.bool false) := (e1.cell (p := ⟨w.heap.size + 1, 2, none⟩) (by simp <;> omega) (by simp)).trans (by go_simp)
          have b13 : w1.cell? ⟨w.heap.size + 1, 3, none⟩ = some (.slice none 0 0) := (e1.cell (p := ⟨w.heap.size + 1, 3, none⟩) (by simp <;> omega) (by simp)).trans (by go_simp)
          have b14 : w1.cell? ⟨w.heap.size + 1, 4, none⟩ = some (.int .i64 0) := (e1.cell (p := ⟨w.heap.size + 1, 4, none⟩) (by simp <;> omega) (by simp)).trans (by go_simp)
          have b15 : w1.cell? ⟨w.heap.size + 1, 5, none⟩ = some (.slice none 0 0) := (e1.cell (p := ⟨w.heap.size + 1, 5, none⟩) (by simp <;> omega) (by simp)).trans (by go_simp)
          have b1f0 : w1.frozen? ⟨w.heap.size + 1, 0, none⟩ = false := (e1.frozen (p := ⟨w.heap.size + 1, 0, none⟩) (by simp <;> omega) (by simp)).trans (by go_simp)
          have b1f1 : w1.frozen? ⟨w.heap.size + 1, 1, none⟩ = false := (e1.frozen (p := ⟨w.heap.size + 1, 1, none⟩) (by simp <;> omega) (by simp)).trans (by go_simp)
          have b1f2 : w1.frozen? ⟨w.heap.size + 1, 2, none⟩ = false := (e1.frozen (p := ⟨w.heap.size + 1, 2, none⟩) (by simp <;> omega) (by simp)).trans (by go_simp)
          have b1f3 : w1.frozen? ⟨w.heap.size + 1, 3, none⟩ = false := (e1.frozen (p := ⟨w.heap.size + 1, 3, none⟩) (by simp <;> omega) (by simp)).trans (by go_simp)
          have b1f4 : w1.frozen? ⟨w.heap.size + 1, 4, none⟩ = false := (e1.frozen (p := ⟨w.heap.size + 1, 4, none⟩) (by simp <;> omega) (by simp)).trans (by go_simp)
          have b1f5 : w1.frozen? ⟨w.heap.size + 1, 5, none⟩ = false := (e1.frozen (p := ⟨w.heap.size + 1, 5, none⟩) (by simp <;> omega) (by simp)).trans (by go_simp)
          have c10 : w1.cell? ⟨w.heap.size + 1 + 1, 0, none⟩ = some (.int .i64 0) := (e1.cell (p := ⟨w.heap.size + 1 + 1, 0, none⟩) (by simp <;> omega) (by simp)).trans (by go_simp)
          have c11 : w1.cell? ⟨w.heap.size + 1 + 1, 1, none⟩ = some (.int .i64 0) := (e1.cell (p := ⟨w.heap.size + 1 + 1, 1, none⟩) (by simp <;> omega) (by simp)).trans (by go_simp)
          have c12 : w1.cell? ⟨w.heap.size + 1 + 1, 2, none⟩ = some (.string ⟨#[]⟩) := (e1.cell (p := ⟨w.heap.size + 1 + 1, 2, none⟩) (by simp <;> omega) (by simp)).trans (by go_simp)
          have c13 : w1.cell? ⟨w.heap.size + 1 + 1, 3, none⟩ = some (.int .i64 0) := (e1.cell (p := ⟨w.heap.size + 1 + 1, 3, none⟩) (by simp <;> omega) (by simp)).trans (by go_simp)
          have c14 : w1.cell? ⟨w.heap.size + 1 + 1, 4, none⟩ = some (.int .i64 0) := (e1.cell (p := ⟨w.heap.size + 1 + 1, 4, none⟩) (by simp <;> omega) (by simp)).trans (by go_simp)
          have c1f0 : w1.frozen? ⟨w.heap.size + 1 + 1, 0, none⟩ = false := (e1.frozen (p := ⟨w.heap.size + 1 + 1, 0, none⟩) (by simp <;> omega) (by simp)).trans (by go_simp)
          have c1f1 : w1.frozen? ⟨w.heap.size + 1 + 1, 1, none⟩ = false := (e1.frozen (p := ⟨w.heap.size + 1 + 1, 1, none⟩) (by simp <;> omega) (by simp)).trans (by go_simp)
          have c1f2 : w1.frozen? ⟨w.heap.size + 1 + 1, 2, none⟩ = false := (e1.frozen (p := ⟨w.heap.size + 1 + 1, 2, none⟩) (by simp <;> omega) (by simp)).trans (by go_simp)
          have c1f3 : w1.frozen? ⟨w.heap.size + 1 + 1, 3, none⟩ = false := (e1.frozen (p := ⟨w.heap.size + 1 + 1, 3, none⟩) (by simp <;> omega) (by simp)).trans (by go_simp)
          have c1f4 : w1.frozen? ⟨w.heap.size + 1 + 1, 4, none⟩ = false := (e1.frozen (p := ⟨w.heap.size + 1 + 1, 4, none⟩) (by simp <;> omega) (by simp)).trans (by go_simp)
          clear e1
          go_wp2_with fail
          refine (LF.out _).mono ?_
          rintro e w1b ⟨rfl, rfl⟩
          go_wp2_with fail
          refine (IP.out _ (E1.alloc _)).mono ?_
          rintro e w2 ⟨rfl, c2⟩
          have d12 : Chg [] w1 w2 := ((Chg.refl [] w1).alloc _).trans0 c2
          have a20 : w2.cell? ⟨w.heap.size, 0, none⟩ = some (.string p.core.kind) := (d12.cell (p := ⟨w.heap.size, 0, none⟩) t1b (by simp)).trans (a10)
          have a21 : w2.cell? ⟨w.heap.size, 1, none⟩ = some (.bool p.core.on) := (d12.cell (p := ⟨w.heap.size, 1, none⟩) t1b (by simp)).trans (a11)
          have a22 : w2.cell? ⟨w.heap.size, 2, none⟩ = some (.bool p.core.broken) := (d12.cell (p := ⟨w.heap.size, 2, none⟩) t1b (by simp)).trans (a12)
          have a23 : w2.cell? ⟨w.heap.size, 3, none⟩ = some (.slice A3 p.core.cells.length cap3) := (d12.cell (p := ⟨w.heap.size, 3, none⟩) t1b (by simp)).trans (a13)
          have a24 : w2.cell? ⟨w.heap.size, 4, none⟩ = some (.int .i64 p.core.count) := (d12.cell (p := ⟨w.heap.size, 4, none⟩) t1b (by simp)).trans (a14)
          have a25 : w2.cell? ⟨w.heap.size, 5, none⟩ = some (.slice A5 p.layers.length cap5) := (d12.cell (p := ⟨w.heap.size, 5, none⟩) t1b (by simp)).trans (a15)
          have b20 : w2.cell? ⟨w.heap.size + 1, 0, none⟩ = some (.string ⟨#[]⟩) := (d12.cell (p := ⟨w.heap.size + 1, 0, none⟩) t1a (by simp)).trans (b10)
          have b21 : w2.cell? ⟨w.heap.size + 1, 1, none⟩ = some (.bool false) := (d12.cell (p := ⟨w.heap.size + 1, 1, none⟩) t1a (by simp)).trans (b11)
          have b22 : w2.cell? ⟨w.heap.size + 1, 2, none⟩ = some (.bool false) := (d12.cell (p := ⟨w.heap.size + 1, 2, none⟩) t1a (by simp)).trans (b12)
          have b23 : w2.cell? ⟨w.heap.size + 1, 3, none⟩ = some (.slice none 0 0) := (d12.cell (p := ⟨w.heap.size + 1, 3, none⟩) t1a (by simp)).trans (b13)
          have b24 : w2.cell? ⟨w.heap.size + 1, 4, none⟩ = some (.int .i64 0) := (d12.cell (p := ⟨w.heap.size + 1, 4, none⟩) t1a (by simp)).trans (b14)
          have b25 : w2.cell? ⟨w.heap.size + 1, 5, none⟩ = some (.slice none 0 0) := (d12.cell (p := ⟨w.heap.size + 1, 5, none⟩) t1a (by simp)).trans (b15)
          have b2f0 : w2.frozen? ⟨w.heap.size + 1, 0, none⟩ = false := (d12.frozen (p := ⟨w.heap.size + 1, 0, none⟩) t1a (by simp)).trans (b1f0)
          have b2f1 : w2.frozen? ⟨w.heap.size + 1, 1, none⟩ = false := (d12.frozen (p := ⟨w.heap.size + 1, 1, none⟩) t1a (by simp)).trans (b1f1)
          have b2f2 : w2.frozen? ⟨w.heap.size + 1, 2, none⟩ = false := (d12.frozen (p := ⟨w.heap.size + 1, 2, none⟩) t1a (by simp)).trans (b1f2)
          have b2f3 : w2.frozen? ⟨w.heap.size + 1, 3, none⟩ = false := (d12.frozen (p := ⟨w.heap.size + 1, 3, none⟩) t1a (by simp)).trans (b1f3)
          have b2f4 : w2.frozen? ⟨w.heap.size + 1, 4, none⟩ = false := (d12.frozen (p := ⟨w.heap.size + 1, 4, none⟩) t1a (by simp)).trans (b1f4)
          have b2f5 : w2.frozen? ⟨w.heap.size + 1, 5, none⟩ = false := (d12.frozen (p := ⟨w.heap.size + 1, 5, none⟩) t1a (by simp)).trans (b1f5)
          have c20 : w2.cell? ⟨w.heap.size + 1 + 1, 0, none⟩ = some (.int .i64 0) := (d12.cell (p := ⟨w.heap.size + 1 + 1, 0, none⟩) t1 (by simp)).trans (c10)
          have c21 : w2.cell? ⟨w.heap.size + 1 + 1, 1, none⟩ = some (.int .i64 0) := (d12.cell (p := ⟨w.heap.size + 1 + 1, 1, none⟩) t1 (by simp)).trans (c11)
          have c22 : w2.cell? ⟨w.heap.size + 1 + 1, 2, none⟩ = some (.string ⟨#[]⟩) := (d12.cell (p := ⟨w.heap.size + 1 + 1, 2, none⟩) t1 (by simp)).trans (c12)
          have c23 : w2.cell? ⟨w.heap.size + 1 + 1, 3, none⟩ = some (.int .i64 0) := (d12.cell (p := ⟨w.heap.size + 1 + 1, 3, none⟩) t1 (by simp)).trans (c13)
          have c24 : w2.cell? ⟨w.heap.size + 1 + 1, 4, none⟩ = some (.int .i64 0) := (d12.cell (p := ⟨w.heap.size + 1 + 1, 4, none⟩) t1 (by simp)).trans (c14)
          have c2f0 : w2.frozen? ⟨w.heap.size + 1 + 1, 0, none⟩ = false := (d12.frozen (p := ⟨w.heap.size + 1 + 1, 0, none⟩) t1 (by simp)).trans (c1f0)
          have c2f1 : w2.frozen? ⟨w.heap.size + 1 + 1, 1, none⟩ = false := (d12.frozen (p := ⟨w.heap.size + 1 + 1, 1, none⟩) t1 (by simp)).trans (c1f1)
          have c2f2 : w2.frozen? ⟨w.heap.size + 1 + 1, 2, none⟩ = false := (d12.frozen (p := ⟨w.heap.size + 1 + 1, 2, none⟩) t1 (by simp)).trans (c1f2)
          have c2f3 : w2.frozen? ⟨w.heap.size + 1 + 1, 3, none⟩ = false := (d12.frozen (p := ⟨w.heap.size + 1 + 1, 3, none⟩) t1 (by simp)).trans (c1f3)
          have c2f4 : w2.frozen? ⟨w.heap.size + 1 + 1, 4, none⟩ = false := (d12.frozen (p := ⟨w.heap.size + 1 + 1, 4, none⟩) t1 (by simp)).trans (c1f4)
          have d20 : w2.cell? ⟨w1.heap.size, 0, none⟩ = some (.string p.core.kind) := (c2.cell (p := ⟨w1.heap.size, 0, none⟩) (by simp) (by simp)).trans (by go_simp)
          have d21 : w2.cell? ⟨w1.heap.size, 1, none⟩ = some (.bool p.core.on) := (c2.cell (p := ⟨w1.heap.size, 1, none⟩) (by simp) (by simp)).trans (by go_simp)
          have d22 : w2.cell? ⟨w1.heap.size, 2, none⟩ = some (.bool p.core.broken) := (c2.cell (p := ⟨w1.heap.size, 2, none⟩) (by simp) (by simp)).trans (by go_simp)
          have d23 : w2.cell? ⟨w1.heap.size, 3, none⟩ = some (.slice A4 p.core.cells.length cap4) := (c2.cell (p := ⟨w1.heap.size, 3, none⟩) (by simp) (by simp)).trans (by go_simp)
          have d24 : w2.cell? ⟨w1.heap.size, 4, none⟩ = some (.int .i64 p.core.count) := (c2.cell (p := ⟨w1.heap.size, 4, none⟩) (by simp) (by simp)).trans (by go_simp)
          have d25 : w2.cell? ⟨w1.heap.size, 5, none⟩ = some (.slice A6 p.layers.length cap6) := (c2.cell (p := ⟨w1.heap.size, 5, none⟩) (by simp) (by simp)).trans (by go_simp)
          have d2f0 : w2.frozen? ⟨w1.heap.size, 0, none⟩ = false := (c2.frozen (p := ⟨w1.heap.size, 0, none⟩) (by simp) (by simp)).trans (by go_simp)
          have d2f1 : w2.frozen? ⟨w1.heap.size, 1, none⟩ = false := (c2.frozen (p := ⟨w1.heap.size, 1, none⟩) (by simp) (by simp)).trans (by go_simp)
          have d2f2 : w2.frozen? ⟨w1.heap.size, 2, none⟩ = false := (c2.frozen (p := ⟨w1.heap.size, 2, none⟩) (by simp) (by simp)).trans (by go_simp)
          have d2f3 : w2.frozen? ⟨w1.heap.size, 3, none⟩ = false := (c2.frozen (p := ⟨w1.heap.size, 3, none⟩) (by simp) (by simp)).trans (by go_simp)
          have d2f4 : w2.frozen? ⟨w1.heap.size, 4, none⟩ = false := (c2.frozen (p := ⟨w1.heap.size, 4, none⟩) (by simp) (by simp)).trans (by go_simp)
          have d2f5 : w2.frozen? ⟨w1.heap.size, 5, none⟩ = false := (c2.frozen (p := ⟨w1.heap.size, 5, none⟩) (by simp) (by simp)).trans (by go_simp)
          have t2 : w1.heap.size < w2.heap.size := by have := c2.size; simp at this; omega
          have t2a : w.heap.size < w2.heap.size := by omega
          have t2b : w.heap.size + 1 < w2.heap.size := by omega
          have t2c : w.heap.size + 1 + 1 < w2.heap.size := by omega
          have E2 : Chg [] w w2 := E1.trans0 d12
          clear c2
          clear a10 a11 a12 a13 a14 a15 b10 b1f0 b11 b1f1 b12 b1f2 b13 b1f3 b14 b1f4 b15 b1f5 c10 c1f0 c11 c1f1 c12 c1f2 c13 c1f3 c14 c1f4
          go_wp2_with fail
          refine (FO.out _ E2).mono ?_
          rintro e w3 ⟨rfl, c3⟩
          have d13 : Chg [] w1 w3 := d12.trans0 c3
          have a30 : w3.cell? ⟨w.heap.size, 0, none⟩ = some (.string p.core.kind) := (c3.cell (p := ⟨w.heap.size, 0, none⟩) t2a (by simp)).trans (a20)
          have a31 : w3.cell? ⟨w.heap.size, 1, none⟩ = some (.bool p.core.on) := (c3.cell (p := ⟨w.heap.size, 1, none⟩) t2a (by simp)).trans (a21)
          have a32 : w3.cell? ⟨w.heap.size, 2, none⟩ = some (.bool p.core.broken) := (c3.cell (p := ⟨w.heap.size, 2, none⟩) t2a (by simp)).trans (a22)
          have a33 : w3.cell? ⟨w.heap.size, 3, none⟩ = some (.slice A3 p.core.cells.length cap3) := (c3.cell (p := ⟨w.heap.size, 3, none⟩) t2a (by simp)).trans (a23)
          have a34 : w3.cell? ⟨w.heap.size, 4, none⟩ = some (.int .i64 p.core.count) := (c3.cell (p := ⟨w.heap.size, 4, none⟩) t2a (by simp)).trans (a24)
          have a35 : w3.cell? ⟨w.heap.size, 5, none⟩ = some (.slice A5 p.layers.length cap5) := (c3.cell (p := ⟨w.heap.size, 5, none⟩) t2a (by simp)).trans (a25)
          have b30 : w3.cell? ⟨w.heap.size + 1, 0, none⟩ = some (.string ⟨#[]⟩) := (c3.cell (p := ⟨w.heap.size + 1, 0, none⟩) t2b (by simp)).trans (b20)
          have b31 : w3.cell? ⟨w.heap.size + 1, 1, none⟩ = some (.bool false) := (c3.cell (p := ⟨w.heap.size + 1, 1, none⟩) t2b (by simp)).trans (b21)
          have b32 : w3.cell? ⟨w.heap.size + 1, 2, none⟩ = some (.bool false) := (c3.cell (p := ⟨w.heap.size + 1, 2, none⟩) t2b (by simp)).trans (b22)
          have b33 : w3.cell? ⟨w.heap.size + 1, 3, none⟩ = some (.slice none 0 0) := (c3.cell (p := ⟨w.heap.size + 1, 3, none⟩) t2b (by simp)).trans (b23)
          have b34 : w3.cell? ⟨w.heap.size + 1, 4, none⟩ = some (.int .i64 0) := (c3.cell (p := ⟨w.heap.size + 1, 4, none⟩) t2b (by simp)).trans (b24)
          have b35 : w3.cell? ⟨w.heap.size + 1, 5, none⟩ = some (.slice none 0 0) := (c3.cell (p := ⟨w.heap.size + 1, 5, none⟩) t2b (by simp)).trans (b25)
          have b3f0 : w3.frozen? ⟨w.heap.size + 1, 0, none⟩ = false := (c3.frozen (p := ⟨w.heap.size + 1, 0, none⟩) t2b (by simp)).trans (b2f0)
          have b3f1 : w3.frozen? ⟨w.heap.size + 1, 1, none⟩ = false := (c3.frozen (p := ⟨w.heap.size + 1, 1, none⟩) t2b (by simp)).trans (b2f1)
          have b3f2 : w3.frozen? ⟨w.heap.size + 1, 2, none⟩ = false := (c3.frozen (p := ⟨w.heap.size + 1, 2, none⟩) t2b (by simp)).trans (b2f2)
          have b3f3 : w3.frozen? ⟨w.heap.size + 1, 3, none⟩ = false := (c3.frozen (p := ⟨w.heap.size + 1, 3, none⟩) t2b (by simp)).trans (b2f3)
          have b3f4 : w3.frozen? ⟨w.heap.size + 1, 4, none⟩ = false := (c3.frozen (p := ⟨w.heap.size + 1, 4, none⟩) t2b (by simp)).trans (b2f4)
          have b3f5 : w3.frozen? ⟨w.heap.size + 1, 5, none⟩ = false := (c3.frozen (p := ⟨w.heap.size + 1, 5, none⟩) t2b (by simp)).trans (b2f5)
          have c30 : w3.cell? ⟨w.heap.size + 1 + 1, 0, none⟩ = some (.int .i64 0) := (c3.cell (p := ⟨w.heap.size + 1 + 1, 0, none⟩) t2c (by simp)).trans (c20)
          have c31 : w3.cell? ⟨w.heap.size + 1 + 1, 1, none⟩ = some (.int .i64 0) := (c3.cell (p := ⟨w.heap.size + 1 + 1, 1, none⟩) t2c (by simp)).trans (c21)
          have c32 : w3.cell? ⟨w.heap.size + 1 + 1, 2, none⟩ = some (.string ⟨#[]⟩) := (c3.cell (p := ⟨w.heap.size + 1 + 1, 2, none⟩) t2c (by simp)).trans (c22)
          have c33 : w3.cell? ⟨w.heap.size + 1 + 1, 3, none⟩ = some (.int .i64 0) := (c3.cell (p := ⟨w.heap.size + 1 + 1, 3, none⟩) t2c (by simp)).trans (c23)
          have c34 : w3.cell? ⟨w.heap.size + 1 + 1, 4, none⟩ = some (.int .i64 0) := (c3.cell (p := ⟨w.heap.size + 1 + 1, 4, none⟩) t2c (by simp)).trans (c24)
          have c3f0 : w3.frozen? ⟨w.heap.size + 1 + 1, 0, none⟩ = false := (c3.frozen (p := ⟨w.heap.size + 1 + 1, 0, none⟩) t2c (by simp)).trans (c2f0)
          have c3f1 : w3.frozen? ⟨w.heap.size + 1 + 1, 1, none⟩ = false := (c3.frozen (p := ⟨w.heap.size + 1 + 1, 1, none⟩) t2c (by simp)).trans (c2f1)
          have c3f2 : w3.frozen? ⟨w.heap.size + 1 + 1, 2, none⟩ = false := (c3.frozen (p := ⟨w.heap.size + 1 + 1, 2, none⟩) t2c (by simp)).trans (c2f2)
          have c3f3 : w3.frozen? ⟨w.heap.size + 1 + 1, 3, none⟩ = false := (c3.frozen (p := ⟨w.heap.size + 1 + 1, 3, none⟩) t2c (by simp)).trans (c2f3)
          have c3f4 : w3.frozen? ⟨w.heap.size + 1 + 1, 4, none⟩ = false := (c3.frozen (p := ⟨w.heap.size + 1 + 1, 4, none⟩) t2c (by simp)).trans (c2f4)
          have d30 : w3.cell? ⟨w1.heap.size, 0, none⟩ = some (.string p.core.kind) := (c3.cell (p := ⟨w1.heap.size, 0, none⟩) t2 (by simp)).trans (d20)
          have d31 : w3.cell? ⟨w1.heap.size, 1, none⟩ = some (.bool p.core.on) := (c3.cell (p := ⟨w1.heap.size, 1, none⟩) t2 (by simp)).trans (d21)
          have d32 : w3.cell? ⟨w1.heap.size, 2, none⟩ = some (.bool p.core.broken) := (c3.cell (p := ⟨w1.heap.size, 2, none⟩) t2 (by simp)).trans (d22)
          have d33 : w3.cell? ⟨w1.heap.size, 3, none⟩ = some (.slice A4 p.core.cells.length cap4) := (c3.cell (p := ⟨w1.heap.size, 3, none⟩) t2 (by simp)).trans (d23)
          have d34 : w3.cell? ⟨w1.heap.size, 4, none⟩ = some (.int .i64 p.core.count) := (c3.cell (p := ⟨w1.heap.size, 4, none⟩) t2 (by simp)).trans (d24)
          have d35 : w3.cell? ⟨w1.heap.size, 5, none⟩ = some (.slice A6 p.layers.length cap6) := (c3.cell (p := ⟨w1.heap.size, 5, none⟩) t2 (by simp)).trans (d25)
          have d3f0 : w3.frozen? ⟨w1.heap.size, 0, none⟩ = false := (c3.frozen (p := ⟨w1.heap.size, 0, none⟩) t2 (by simp)).trans (d2f0)
          have d3f1 : w3.frozen? ⟨w1.heap.size, 1, none⟩ = false := (c3.frozen (p := ⟨w1.heap.size, 1, none⟩) t2 (by simp)).trans (d2f1)
          have d3f2 : w3.frozen? ⟨w1.heap.size, 2, none⟩ = false := (c3.frozen (p := ⟨w1.heap.size, 2, none⟩) t2 (by simp)).trans (d2f2)
          have d3f3 : w3.frozen? ⟨w1.heap.size, 3, none⟩ = false := (c3.frozen (p := ⟨w1.heap.size, 3, none⟩) t2 (by simp)).trans (d2f3)
          have d3f4 : w3.frozen? ⟨w1.heap.size, 4, none⟩ = false := (c3.frozen (p := ⟨w1.heap.size, 4, none⟩) t2 (by simp)).trans (d2f4)
          have d3f5 : w3.frozen? ⟨w1.heap.size, 5, none⟩ = false := (c3.frozen (p := ⟨w1.heap.size, 5, none⟩) t2 (by simp)).trans (d2f5)
          have t3 : w1.heap.size < w3.heap.size := Nat.lt_of_lt_of_le t2 c3.size
          have t3a : w.heap.size < w3.heap.size := by omega
          have t3b : w.heap.size + 1 < w3.heap.size := by omega
          have t3c : w.heap.size + 1 + 1 < w3.heap.size := by omega
          have E3 : Chg [] w w3 := E2.trans0 c3
          clear a20 a21 a22 a23 a24 a25 b20 b2f0 b21 b2f1 b22 b2f2 b23 b2f3 b24 b2f4 b25 b2f5 c20 c2f0 c21 c2f1 c22 c2f2 c23 c2f3 c24 c2f4 d20 d2f0 d21 d2f1 d22 d2f2 d23 d2f3 d24 d2f4 d25 d2f5
          go_wp2_with fail
          refine (OF.out _).mono ?_
          rintro e w3b ⟨rfl, hw3⟩
          obtain rfl := hw3.symm
          have hlow := n1.2.has.2
          have hltA := n1.2.has.1.lt
          have k0 : w.heap.size + 1 ∉ ownL (.slice A6 p.layers.length cap6) := fun hx => by have := hlow _ hx; simp at this; omega
          have k1 : w.heap.size + 1 + 1 ∉ ownL (.slice A6 p.layers.length cap6) := fun hx => by have := hlow _ hx; simp at this; omega
          have k2 : w1.heap.size ∉ ownL (.slice A6 p.layers.length cap6) := fun hx => by have := hltA _ hx; omega
          go_wp2_with (at_builtin; refine wpList_appN rfl (.tmp 47) (.tmp 50) _ rfl rfl rfl (run_appN _ _ 89 _ 2 24 Tryd.underlying60 layer_info rfl (by omega) n1.2 (d13.alloc _) (some ⟨w3.heap.size, 0, none⟩) 1 1 [.string name, .int .i64 0] rfl (fun _ => ⟨w3.heap.size, 0, rfl, fun j x hj => by rw [Nat.zero_add]; exact cell_lit _ _ _ (by simpa using hj)⟩) (by intro u hu; simp at hu; rcases hu with rfl | rfl <;> rfl) (by omega) (by omega)) ?_; rintro A7 cap7 w4 ⟨hA4, hc4, hat4⟩; have b40 : w4.cell? ⟨w.heap.size + 1, 0, none⟩ = some (.string ⟨#[]⟩) := (hc4.cell (p := ⟨w.heap.size + 1, 0, none⟩) (by simp <;> omega) k0).trans (by go_simp); have b41 : w4.cell? ⟨w.heap.size + 1, 1, none⟩ = some (.bool false) := (hc4.cell (p := ⟨w.heap.size + 1, 1, none⟩) (by simp <;> omega) k0).trans (by go_simp); have b42 : w4.cell? ⟨w.heap.size + 1, 2, none⟩ = some (.bool false) := (hc4.cell (p := ⟨w.heap.size + 1, 2, none⟩) (by simp <;> omega) k0).trans (by go_simp); have b43 : w4.cell? ⟨w.heap.size + 1, 3, none⟩ = some (.slice none 0 0) := (hc4.cell (p := ⟨w.heap.size + 1, 3, none⟩) (by simp <;> omega) k0).trans (by go_simp); have b44 : w4.cell? ⟨w.heap.size + 1, 4, none⟩ = some (.int .i64 0) := (hc4.cell (p := ⟨w.heap.size + 1, 4, none⟩) (by simp <;> omega) k0).trans (by go_simp); have b45 : w4.cell? ⟨w.heap.size + 1, 5, none⟩ = some (.slice none 0 0) := (hc4.cell (p := ⟨w.heap.size + 1, 5, none⟩) (by simp <;> omega) k0).trans (by go_simp); have b4f0 : w4.frozen? ⟨w.heap.size + 1, 0, none⟩ = false := (hc4.frozen (p := ⟨w.heap.size + 1, 0, none⟩) (by simp <;> omega) k0).trans (by go_simp); have b4f1 : w4.frozen? ⟨w.heap.size + 1, 1, none⟩ = false := (hc4.frozen (p := ⟨w.heap.size + 1, 1, none⟩) (by simp <;> omega) k0).trans (by go_simp); have b4f2 : w4.frozen? ⟨w.heap.size + 1, 2, none⟩ = false := (hc4.frozen (p := ⟨w.heap.size + 1, 2, none⟩) (by simp <;> omega) k0).trans (by go_simp); have b4f3 : w4.frozen? ⟨w.heap.size + 1, 3, none⟩ = false := (hc4.frozen (p := ⟨w.heap.size + 1, 3, none⟩) (by simp <;> omega) k0).trans (by go_simp); have b4f4 : w4.frozen? ⟨w.heap.size + 1, 4, none⟩ = false := (hc4.frozen (p := ⟨w.heap.size + 1, 4, none⟩) (by simp <;> omega) k0).trans (by go_simp); have b4f5 : w4.frozen? ⟨w.heap.size + 1, 5, none⟩ = false := (hc4.frozen (p := ⟨w.heap.size + 1, 5, none⟩) (by simp <;> omega) k0).trans (by go_simp); have c40 : w4.cell? ⟨w.heap.size + 1 + 1, 0, none⟩ = some (.int .i64 0) := (hc4.cell (p := ⟨w.heap.size + 1 + 1, 0, none⟩) (by simp <;> omega) k1).trans (by go_simp); have c41 : w4.cell? ⟨w.heap.size + 1 + 1, 1, none⟩ = some (.int .i64 0) := (hc4.cell (p := ⟨w.heap.size + 1 + 1, 1, none⟩) (by simp <;> omega) k1).trans (by go_simp); have c42 : w4.cell? ⟨w.heap.size + 1 + 1, 2, none⟩ = some (.string ⟨#[]⟩) := (hc4.cell (p := ⟨w.heap.size + 1 + 1, 2, none⟩) (by simp <;> omega) k1).trans (by go_simp); have c43 : w4.cell? ⟨w.heap.size + 1 + 1, 3, none⟩ = some (.int .i64 0) := (hc4.cell (p := ⟨w.heap.size + 1 + 1, 3, none⟩) (by simp <;> omega) k1).trans (by go_simp); have c44 : w4.cell? ⟨w.heap.size + 1 + 1, 4, none⟩ = some (.int .i64 0) := (hc4.cell (p := ⟨w.heap.size + 1 + 1, 4, none⟩) (by simp <;> omega) k1).trans (by go_simp); have c4f0 : w4.frozen? ⟨w.heap.size + 1 + 1, 0, none⟩ = false := (hc4.frozen (p := ⟨w.heap.size + 1 + 1, 0, none⟩) (by simp <;> omega) k1).trans (by go_simp); have c4f1 : w4.frozen? ⟨w.heap.size + 1 + 1, 1, none⟩ = false := (hc4.frozen (p := ⟨w.heap.size + 1 + 1, 1, none⟩) (by simp <;> omega) k1).trans (by go_simp); have c4f2 : w4.frozen? ⟨w.heap.size + 1 + 1, 2, none⟩ = false := (hc4.frozen (p := ⟨w.heap.size + 1 + 1, 2, none⟩) (by simp <;> omega) k1).trans (by go_simp); have c4f3 : w4.frozen? ⟨w.heap.size + 1 + 1, 3, none⟩ = false := (hc4.frozen (p := ⟨w.heap.size + 1 + 1, 3, none⟩) (by simp <;> omega) k1).trans (by go_simp); have c4f4 : w4.frozen? ⟨w.heap.size + 1 + 1, 4, none⟩ = false := (hc4.frozen (p := ⟨w.heap.size + 1 + 1, 4, none⟩) (by simp <;> omega) k1).trans (by go_simp); have d40 : w4.cell? ⟨w1.heap.size, 0, none⟩ = some (.string p.core.kind) := (hc4.cell (p := ⟨w1.heap.size, 0, none⟩) (by simp <;> omega) k2).trans (by go_simp); have d41 : w4.cell? ⟨w1.heap.size, 1, none⟩ = some (.bool p.core.on) := (hc4.cell (p := ⟨w1.heap.size, 1, none⟩) (by simp <;> omega) k2).trans (by go_simp); have d42 : w4.cell? ⟨w1.heap.size, 2, none⟩ = some (.bool p.core.broken) := (hc4.cell (p := ⟨w1.heap.size, 2, none⟩) (by simp <;> omega) k2).trans (by go_simp); have d43 : w4.cell? ⟨w1.heap.size, 3, none⟩ = some (.slice A4 p.core.cells.length cap4) := (hc4.cell (p := ⟨w1.heap.size, 3, none⟩) (by simp <;> omega) k2).trans (by go_simp); have d44 : w4.cell? ⟨w1.heap.size, 4, none⟩ = some (.int .i64 p.core.count) := (hc4.cell (p := ⟨w1.heap.size, 4, none⟩) (by simp <;> omega) k2).trans (by go_simp); have d45 : w4.cell? ⟨w1.heap.size, 5, none⟩ = some (.slice A6 p.layers.length cap6) := (hc4.cell (p := ⟨w1.heap.size, 5, none⟩) (by simp <;> omega) k2).trans (by go_simp); have d4f0 : w4.frozen? ⟨w1.heap.size, 0, none⟩ = false := (hc4.frozen (p := ⟨w1.heap.size, 0, none⟩) (by simp <;> omega) k2).trans (by go_simp); have d4f1 : w4.frozen? ⟨w1.heap.size, 1, none⟩ = false := (hc4.frozen (p := ⟨w1.heap.size, 1, none⟩) (by simp <;> omega) k2).trans (by go_simp); have d4f2 : w4.frozen? ⟨w1.heap.size, 2, none⟩ = false := (hc4.frozen (p := ⟨w1.heap.size, 2, none⟩) (by simp <;> omega) k2).trans (by go_simp); have d4f3 : w4.frozen? ⟨w1.heap.size, 3, none⟩ = false := (hc4.frozen (p := ⟨w1.heap.size, 3, none⟩) (by simp <;> omega) k2).trans (by go_simp); have d4f4 : w4.frozen? ⟨w1.heap.size, 4, none⟩ = false := (hc4.frozen (p := ⟨w1.heap.size, 4, none⟩) (by simp <;> omega) k2).trans (by go_simp); have d4f5 : w4.frozen? ⟨w1.heap.size, 5, none⟩ = false := (hc4.frozen (p := ⟨w1.heap.size, 5, none⟩) (by simp <;> omega) k2).trans (by go_simp); have t4 : w1.heap.size < w4.heap.size := (by have := hc4.size; simp at this; omega); have t4a : w.heap.size + 1 < w4.heap.size := (by omega); have t4b : w.heap.size + 1 + 1 < w4.heap.size := (by omega); have t4c : w1.heap.size ≠ w.heap.size + 1 := (by omega); have t4d : w1.heap.size ≠ w.heap.size + 1 + 1 := (by omega); have HC4 := Lib.hid hc4; have HAT := Lib.hid hat4; have HA4 := Lib.hid hA4; clear hc4 hat4 hA4)
          refine bodyPost_ret (v := .tuple #[.agg #[.string p.core.kind, .bool p.core.on, .bool p.core.broken, .slice A4 p.core.cells.length cap4, .int .i64 p.core.count, .slice A7 (p.layers.length + 1) cap7], .agg #[.int .i64 0, .int .i64 x.2, .string ⟨#[]⟩, .int .i64 0, .int .i64 0]]) (by simp only [results, Tryd.results49]; go_simp) rfl ?_
          rw [wrapOf_done hx n1p n3 n4]
          have hlen : (p.layers ++ [(⟨name, 0⟩ : LayerT)]).length = p.layers.length + 1 := by simp
          refine ⟨A4, cap4, A7, cap7, ?_, ?_⟩
          · dsimp only
            rw [hlen]
            rfl
          · dsimp only
            rw [hlen]
            exact PartNew.grown (w := w) (wb := (((w.alloc (.cells #[.string p.core.kind, .bool p.core.on, .bool p.core.broken, .slice A3 p.core.cells.length cap3, .int .i64 p.core.count, .slice A5 p.layers.length cap5] 62)).alloc (.cells #[.string ⟨#[]⟩, .bool false, .bool false, .slice none 0 0, .int .i64 0, .slice none 0 0] 62)).alloc (.cells #[.int .i64 0, .int .i64 0, .string ⟨#[]⟩, .int .i64 0, .int .i64 0] 69))) (g1 := w.heap.size + 1) (g2 := w.heap.size + 1 + 1) n1 (by repeat (first | with_reducible exact Chg.refl _ _ | with_reducible refine Chg.drew ?_ | with_reducible refine Chg.alloc ?_ _)) (d13.alloc _) HC4.out HA4.out (HAT.out.imp id (fun h => ⟨_, h, by simp <;> omega⟩)) (by omega) (by omega) (by simp <;> omega) (by simp <;> omega) (by repeat (first | with_reducible exact Chg.refl _ _ | with_reducible refine Chg.drew ?_ | with_reducible refine Chg.alloc ?_ _ | with_reducible refine Chg.setCell ?_ (.inl (by simp)) _))
        · have OF := Lib.hid (fun W => (offers_impl_any (faceAt p p.layers.length) x.1 W).mono (BoolIs.neg n4))
          go_enter Tryd.func49, Tryd.ntmps49
          go_wp2_with fail
          refine (CP.out _ ?_).mono ?_
          · repeat (first | with_reducible exact Chg.refl _ _ | with_reducible refine Chg.drew ?_ | with_reducible refine Chg.alloc ?_ _)
          rintro e w1 ⟨A4, cap4, A6, cap6, rfl, n1⟩
          have e1 : Chg [] (((w.alloc (.cells #[.string p.core.kind, .bool p.core.on, .bool p.core.broken, .slice A3 p.core.cells.length cap3, .int .i64 p.core.count, .slice A5 p.layers.length cap5] 62)).alloc (.cells #[.string ⟨#[]⟩, .bool false, .bool false, .slice none 0 0, .int .i64 0, .slice none 0 0] 62)).alloc (.cells #[.int .i64 0, .int .i64 0, .string ⟨#[]⟩, .int .i64 0, .int .i64 0] 69)) w1 := n1.2.chg
          have t1 : w.heap.size + 1 + 1 < w1.heap.size := by have := e1.size; simp at this; omega
          have t1a : w.heap.size + 1 < w1.heap.size := by omega
          have t1b : w.heap.size < w1.heap.size := by omega
          have tr : w1.heap.size < w1.heap.size + 1 := Nat.lt_succ_self _
          have E1 : Chg [] w w1 := Chg.trans0 (by repeat (first | with_reducible exact Chg.refl _ _ | with_reducible refine Chg.drew ?_ | with_reducible refine Chg.alloc ?_ _)) e1
          have a10 : w1.cell? ⟨w.heap.size, 0, none⟩ = some (.string p.core.kind) := (e1.cell (p := ⟨w.heap.size, 0, none⟩) (by simp <;> omega) (by simp)).trans (by go_simp)
          have a11 : w1.cell? ⟨w.heap.size, 1, none⟩ = some (.bool p.core.on) := (e1.cell (p := ⟨w.heap.size, 1, none⟩) (by simp <;> omega) (by simp)).trans (by go_simp)
          have a12 : w1.cell? ⟨w.heap.size, 2, none⟩ = some (.bool p.core.broken) := (e1.cell (p := ⟨w.heap.size, 2, none⟩) (by simp <;> omega) (by simp)).trans (by go_simp)
          have a13 : w1.cell? ⟨w.heap.size, 3, none⟩ = some (.slice A3 p.core.cells.length cap3) := (e1.cell (p := ⟨w.heap.size, 3, none⟩) (by simp <;> omega) (by simp)).trans (by go_simp)
          have a14 : w1.cell? ⟨w.heap.size, 4, none⟩ = some (.int .i64 p.core.count) := (e1.cell (p := ⟨w.heap.size, 4, none⟩) (by simp <;> omega) (by simp)).trans (by go_simp)
          have a15 : w1.cell? ⟨w.heap.size, 5, none⟩ = some (.slice A5 p.layers.length cap5) := (e1.cell (p := ⟨w.heap.size, 5, none⟩) (by simp <;> omega) (by simp)).trans (by go_simp)
          have b10 : w1.cell? ⟨w.heap.size + 1, 0, none⟩ = some (.string ⟨#[]⟩) := (e1.cell (p := ⟨w.heap.size + 1, 0, none⟩) (by simp <;> omega) (by simp)).trans (by go_simp)
          have b11 : w1.cell? ⟨w.heap.size + 1, 1, none⟩ = some (.bool false) := (e1.cell (p := ⟨w.heap.size + 1, 1, none⟩) (by simp <;> omega) (by simp)).trans (by go_simp)
          have b12 : w1.cell? ⟨w.heap.size + 1, 2, none⟩ = some (.bool false) := (e1.cell (p := ⟨w.heap.size + 1, 2, none⟩) (by simp <;> omega) (by simp)).trans (by go_simp)
          have b13 : w1.cell? ⟨w.heap.size + 1, 3, none⟩ = some (.slice none 0 0) := (e1.cell (p := ⟨w.heap.size + 1, 3, none⟩) (by simp <;> omega) (by simp)).trans (by go_simp)
          have b14 : w1.cell? ⟨w.heap.size + 1, 4, none⟩ = some (.int .i64 0) := (e1.cell (p := ⟨w.heap.size + 1, 4, none⟩) (by simp <;> omega) (by simp)).trans (by go_simp)
          have b15 : w1.cell? ⟨w.heap.size + 1, 5, none⟩ = some (.slice none 0 0) := (e1.cell (p := ⟨w.heap.size + 1, 5, none⟩) (by simp <;> omega) (by simp)).trans (by go_simp)
          have b1f0 : w1.frozen? ⟨w.heap.size + 1, 0, none⟩ = false := (e1.frozen (p := ⟨w.heap.size + 1, 0, none⟩) (by simp <;> omega) (by simp)).trans (by go_simp)
          have b1f1 : w1.frozen? ⟨w.heap.size + 1, 1, none⟩ = false := (e1.frozen (p := ⟨w.heap.size + 1, 1, none⟩) (by simp <;> omega) (by simp)).trans (by go_simp)
          have b1f2 : w1.frozen? ⟨w.heap.size + 1, 2, none⟩ = false := (e1.frozen (p := ⟨w.heap.size + 1, 2, none⟩) (by simp <;> omega) (by simp)).trans (by go_simp)
          have b1f3 : w1.frozen? ⟨w.heap.size + 1, 3, none⟩ = false := (e1.frozen (p := ⟨w.heap.size + 1, 3, none⟩) (by simp <;> omega) (by simp)).trans (by go_simp)
          have b1f4 : w1.frozen? ⟨w.heap.size + 1, 4, none⟩ = false := (e1.frozen (p := ⟨w.heap.size + 1, 4, none⟩) (by simp <;> omega) (by simp)).trans (by go_simp)
          have b1f5 : w1.frozen? ⟨w.heap.size + 1, 5, none⟩ = false := (e1.frozen (p := ⟨w.heap.size + 1, 5, none⟩) (by simp <;> omega) (by simp)).trans (by go_simp)
          have c10 : w1.cell? ⟨w.heap.size + 1 + 1, 0, none⟩ = some (.int .i64 0) := (e1.cell (p := ⟨w.heap.size + 1 + 1, 0, none⟩) (by simp <;> omega) (by simp)).trans (by go_simp)
          have c11 : w1.cell? ⟨w.heap.size + 1 + 1, 1, none⟩ = some (.int .i64 0) := (e1.cell (p := ⟨w.heap.size + 1 + 1, 1, none⟩) (by simp <;> omega) (by simp)).trans (by go_simp)
          have c12 : w1.cell? ⟨w.heap.size + 1 + 1, 2, none⟩ = some (.string ⟨#[]⟩) := (e1.cell (p := ⟨w.heap.size + 1 + 1, 2, none⟩) (by simp <;> omega) (by simp)).trans (by go_simp)
          have c13 : w1.cell? ⟨w.heap.size + 1 + 1, 3, none⟩ = some (.int .i64 0) := (e1.cell (p := ⟨w.heap.size + 1 + 1, 3, none⟩) (by simp <;> omega) (by simp)).trans (by go_simp)
          have c14 : w1.cell? ⟨w.heap.size + 1 + 1, 4, none⟩ = some (.int .i64 0) := (e1.cell (p := ⟨w.heap.size + 1 + 1, 4, none⟩) (by simp <;> omega) (by simp)).trans (by go_simp)
          have c1f0 : w1.frozen? ⟨w.heap.size + 1 + 1, 0, none⟩ = false := (e1.frozen (p := ⟨w.heap.size + 1 + 1, 0, none⟩) (by simp <;> omega) (by simp)).trans (by go_simp)
          have c1f1 : w1.frozen? ⟨w.heap.size + 1 + 1, 1, none⟩ = false := (e1.frozen (p := ⟨w.heap.size + 1 + 1, 1, none⟩) (by simp <;> omega) (by simp)).trans (by go_simp)
          have c1f2 : w1.frozen? ⟨w.heap.size + 1 + 1, 2, none⟩ = false := (e1.frozen (p := ⟨w.heap.size + 1 + 1, 2, none⟩) (by simp <;> omega) (by simp)).trans (by go_simp)
          have c1f3 : w1.frozen? ⟨w.heap.size + 1 + 1, 3, none⟩ = false := (e1.frozen (p := ⟨w.heap.size + 1 + 1, 3, none⟩) (by simp <;> omega) (by simp)).trans (by go_simp)
          have c1f4 : w1.frozen? ⟨w.heap.size + 1 + 1, 4, none⟩ = false := (e1.frozen (p := ⟨w.heap.size + 1 + 1, 4, none⟩) (by simp <;> omega) (by simp)).trans (by go_simp)
          clear e1
          go_wp2_with fail
          refine (LF.out _).mono ?_
          rintro e w1b ⟨rfl, rfl⟩
          go_wp2_with fail
          refine (IP.out _ (E1.alloc _)).mono ?_
          rintro e w2 ⟨rfl, c2⟩
          have d12 : Chg [] w1 w2 := ((Chg.refl [] w1).alloc _).trans0 c2
          have a20 : w2.cell? ⟨w.heap.size, 0, none⟩ = some (.string p.core.kind) := (d12.cell (p := ⟨w.heap.size, 0, none⟩) t1b (by simp)).trans (a10)
          have a21 : w2.cell? ⟨w.heap.size, 1, none⟩ = some (.bool p.core.on) := (d12.cell (p := ⟨w.heap.size, 1, none⟩) t1b (by simp)).trans (a11)
          have a22 : w2.cell? ⟨w.heap.size, 2, none⟩ = some (.bool p.core.broken) := (d12.cell (p := ⟨w.heap.size, 2, none⟩) t1b (by simp)).trans (a12)
          have a23 : w2.cell? ⟨w.heap.size, 3, none⟩ = some (.slice A3 p.core.cells.length cap3) := (d12.cell (p := ⟨w.heap.size, 3, none⟩) t1b (by simp)).trans (a13)
          have a24 : w2.cell? ⟨w.heap.size, 4, none⟩ = some (.int .i64 p.core.count) := (d12.cell (p := ⟨w.heap.size, 4, none⟩) t1b (by simp)).trans (a14)
          have a25 : w2.cell? ⟨w.heap.size, 5, none⟩ = some (.slice A5 p.layers.length cap5) := (d12.cell (p := ⟨w.heap.size, 5, none⟩) t1b (by simp)).trans (a15)
          have b20 : w2.cell? ⟨w.heap.size + 1, 0, none⟩ = some (.string ⟨#[]⟩) := (d12.cell (p := ⟨w.heap.size + 1, 0, none⟩) t1a (by simp)).trans (b10)
          have b21 : w2.cell? ⟨w.heap.size + 1, 1, none⟩ = some (.bool false) := (d12.cell (p := ⟨w.heap.size + 1, 1, none⟩) t1a (by simp)).trans (b11)
          have b22 : w2.cell? ⟨w.heap.size + 1, 2, none⟩ = some (.bool false) := (d12.cell (p := ⟨w.heap.size + 1, 2, none⟩) t1a (by simp)).trans (b12)
          have b23 : w2.cell? ⟨w.heap.size + 1, 3, none⟩ = some (.slice none 0 0) := (d12.cell (p := ⟨w.heap.size + 1, 3, none⟩) t1a (by simp)).trans (b13)
          have b24 : w2.cell? ⟨w.heap.size + 1, 4, none⟩ = some (.int .i64 0) := (d12.cell (p := ⟨w.heap.size + 1, 4, none⟩) t1a (by simp)).trans (b14)
          have b25 : w2.cell? ⟨w.heap.size + 1, 5, none⟩ = some (.slice none 0 0) := (d12.cell (p := ⟨w.heap.size + 1, 5, none⟩) t1a (by simp)).trans (b15)
          have b2f0 : w2.frozen? ⟨w.heap.size + 1, 0, none⟩ = false := (d12.frozen (p := ⟨w.heap.size + 1, 0, none⟩) t1a (by simp)).trans (b1f0)
          have b2f1 : w2.frozen? ⟨w.heap.size + 1, 1, none⟩ = false := (d12.frozen (p := ⟨w.heap.size + 1, 1, none⟩) t1a (by simp)).trans (b1f1)
          have b2f2 : w2.frozen? ⟨w.heap.size + 1, 2, none⟩ = false := (d12.frozen (p := ⟨w.heap.size + 1, 2, none⟩) t1a (by simp)).trans (b1f2)
          have b2f3 : w2.frozen? ⟨w.heap.size + 1, 3, none⟩ = false := (d12.frozen (p := ⟨w.heap.size + 1, 3, none⟩) t1a (by simp)).trans (b1f3)
          have b2f4 : w2.frozen? ⟨w.heap.size + 1, 4, none⟩ = false := (d12.frozen (p := ⟨w.heap.size + 1, 4, none⟩) t1a (by simp)).trans (b1f4)
          have b2f5 : w2.frozen? ⟨w.heap.size + 1, 5, none⟩ = false := (d12.frozen (p := ⟨w.heap.size + 1, 5, none⟩) t1a (by simp)).trans (b1f5)
          have c20 : w2.cell? ⟨w.heap.size + 1 + 1, 0, none⟩ = some (.int .i64 0) := (d12.cell (p := ⟨w.heap.size + 1 + 1, 0, none⟩) t1 (by simp)).trans (c10)
          have c21 : w2.cell? ⟨w.heap.size + 1 + 1, 1, none⟩ = some (.int .i64 0) := (d12.cell (p := ⟨w.heap.size + 1 + 1, 1, none⟩) t1 (by simp)).trans (c11)
          have c22 : w2.cell? ⟨w.heap.size + 1 + 1, 2, none⟩ = some (.string ⟨#[]⟩) := (d12.cell (p := ⟨w.heap.size + 1 + 1, 2, none⟩) t1 (by simp)).trans (c12)
          have c23 : w2.cell? ⟨w.heap.size + 1 + 1, 3, none⟩ = some (.int .i64 0) := (d12.cell (p := ⟨w.heap.size + 1 + 1, 3, none⟩) t1 (by simp)).trans (c13)
          have c24 : w2.cell? ⟨w.heap.size + 1 + 1, 4, none⟩ = some (.int .i64 0) := (d12.cell (p := ⟨w.heap.size + 1 + 1, 4, none⟩) t1 (by simp)).trans (c14)
          have c2f0 : w2.frozen? ⟨w.heap.size + 1 + 1, 0, none⟩ = false := (d12.frozen (p := ⟨w.heap.size + 1 + 1, 0, none⟩) t1 (by simp)).trans (c1f0)
          have c2f1 : w2.frozen? ⟨w.heap.size + 1 + 1, 1, none⟩ = false := (d12.frozen (p := ⟨w.heap.size + 1 + 1, 1, none⟩) t1 (by simp)).trans (c1f1)
          have c2f2 : w2.frozen? ⟨w.heap.size + 1 + 1, 2, none⟩ = false := (d12.frozen (p := ⟨w.heap.size + 1 + 1, 2, none⟩) t1 (by simp)).trans (c1f2)
          have c2f3 : w2.frozen? ⟨w.heap.size + 1 + 1, 3, none⟩ = false := (d12.frozen (p := ⟨w.heap.size + 1 + 1, 3, none⟩) t1 (by simp)).trans (c1f3)
          have c2f4 : w2.frozen? ⟨w.heap.size + 1 + 1, 4, none⟩ = false := (d12.frozen (p := ⟨w.heap.size + 1 + 1, 4, none⟩) t1 (by simp)).trans (c1f4)
          have d20 : w2.cell? ⟨w1.heap.size, 0, none⟩ = some (.string p.core.kind) := (c2.cell (p := ⟨w1.heap.size, 0, none⟩) (by simp) (by simp)).trans (by go_simp)
          have d21 : w2.cell? ⟨w1.heap.size, 1, none⟩ = some (.bool p.core.on) := (c2.cell (p := ⟨w1.heap.size, 1, none⟩) (by simp) (by simp)).trans (by go_simp)
          have d22 : w2.cell? ⟨w1.heap.size, 2, none⟩ = some (.bool p.core.broken) := (c2.cell (p := ⟨w1.heap.size, 2, none⟩) (by simp) (by simp)).trans (by go_simp)
          have d23 : w2.cell? ⟨w1.heap.size, 3, none⟩ = some (.slice A4 p.core.cells.length cap4) := (c2.cell (p := ⟨w1.heap.size, 3, none⟩) (by simp) (by simp)).trans (by go_simp)
          have d24 : w2.cell? ⟨w1.heap.size, 4, none⟩ = some (.int .i64 p.core.count) := (c2.cell (p := ⟨w1.heap.size, 4, none⟩) (by simp) (by simp)).trans (by go_simp)
          have d25 : w2.cell? ⟨w1.heap.size, 5, none⟩ = some (.slice A6 p.layers.length cap6) := (c2.cell (p := ⟨w1.heap.size, 5, none⟩) (by simp) (by simp)).trans (by go_simp)
          have d2f0 : w2.frozen? ⟨w1.heap.size, 0, none⟩ = false := (c2.frozen (p := ⟨w1.heap.size, 0, none⟩) (by simp) (by simp)).trans (by go_simp)
          have d2f1 : w2.frozen? ⟨w1.heap.size, 1, none⟩ = false := (c2.frozen (p := ⟨w1.heap.size, 1, none⟩) (by simp) (by simp)).trans (by go_simp)
          have d2f2 : w2.frozen? ⟨w1.heap.size, 2, none⟩ = false := (c2.frozen (p := ⟨w1.heap.size, 2, none⟩) (by simp) (by simp)).trans (by go_simp)
          have d2f3 : w2.frozen? ⟨w1.heap.size, 3, none⟩ = false := (c2.frozen (p := ⟨w1.heap.size, 3, none⟩) (by simp) (by simp)).trans (by go_simp)
          have d2f4 : w2.frozen? ⟨w1.heap.size, 4, none⟩ = false := (c2.frozen (p := ⟨w1.heap.size, 4, none⟩) (by simp) (by simp)).trans (by go_simp)
          have d2f5 : w2.frozen? ⟨w1.heap.size, 5, none⟩ = false := (c2.frozen (p := ⟨w1.heap.size, 5, none⟩) (by simp) (by simp)).trans (by go_simp)
          have t2 : w1.heap.size < w2.heap.size := by have := c2.size; simp at this; omega
          have t2a : w.heap.size < w2.heap.size := by omega
          have t2b : w.heap.size + 1 < w2.heap.size := by omega
          have t2c : w.heap.size + 1 + 1 < w2.heap.size := by omega
          have E2 : Chg [] w w2 := E1.trans0 d12
          clear c2
          clear a10 a11 a12 a13 a14 a15 b10 b1f0 b11 b1f1 b12 b1f2 b13 b1f3 b14 b1f4 b15 b1f5 c10 c1f0 c11 c1f1 c12 c1f2 c13 c1f3 c14 c1f4
          go_wp2_with fail
          refine (FO.out _ E2).mono ?_
          rintro e w3 ⟨rfl, c3⟩
          have d13 : Chg [] w1 w3 := d12.trans0 c3
          have a30 : w3.cell? ⟨w.heap.size, 0, none⟩ = some (.string p.core.kind) := (c3.cell (p := ⟨w.heap.size, 0, none⟩) t2a (by simp)).trans (a20)
          have a31 : w3.cell? ⟨w.heap.size, 1, none⟩ = some (.bool p.core.on) := (c3.cell (p := ⟨w.heap.size, 1, none⟩) t2a (by simp)).trans (a21)
          have a32 : w3.cell? ⟨w.heap.size, 2, none⟩ = some (.bool p.core.broken) := (c3.cell (p := ⟨w.heap.size, 2, none⟩) t2a (by simp)).trans (a22)
          have a33 : w3.cell? ⟨w.heap.size, 3, none⟩ = some (.slice A3 p.core.cells.length cap3) := (c3.cell (p := ⟨w.heap.size, 3, none⟩) t2a (by simp)).trans (a23)
          have a34 : w3.cell? ⟨w.heap.size, 4, none⟩ = some (.int .i64 p.core.count) := (c3.cell (p := ⟨w.heap.size, 4, none⟩) t2a (by simp)).trans (a24)
          have a35 : w3.cell? ⟨w.heap.size, 5, none⟩ = some (.slice A5 p.layers.length cap5) := (c3.cell (p := ⟨w.heap.size, 5, none⟩) t2a (by simp)).trans (a25)
          have b30 : w3.cell? ⟨w.heap.size + 1, 0, none⟩ = some (.string ⟨#[]⟩) := (c3.cell (p := ⟨w.heap.size + 1, 0, none⟩) t2b (by simp)).trans (b20)
          have b31 : w3.cell? ⟨w.heap.size + 1, 1, none⟩ = some (.bool false) := (c3.cell (p := ⟨w.heap.size + 1, 1, none⟩) t2b (by simp)).trans (b21)
          have b32 : w3.cell? ⟨w.heap.size + 1, 2, none⟩ = some (.bool false) := (c3.cell (p := ⟨w.heap.size + 1, 2, none⟩) t2b (by simp)).trans (b22)
          have b33 : w3.cell? ⟨w.heap.size + 1, 3, none⟩ = some (.slice none 0 0) := (c3.cell (p := ⟨w.heap.size + 1, 3, none⟩) t2b (by simp)).trans (b23)
          have b34 : w3.cell? ⟨w.heap.size + 1, 4, none⟩ = some (.int .i64 0) := (c3.cell (p := ⟨w.heap.size + 1, 4, none⟩) t2b (by simp)).trans (b24)
          have b35 : w3.cell? ⟨w.heap.size + 1, 5, none⟩ = some (.slice none 0 0) := (c3.cell (p := ⟨w.heap.size + 1, 5, none⟩) t2b (by simp)).trans (b25)
          have b3f0 : w3.frozen? ⟨w.heap.size + 1, 0, none⟩ = false := (c3.frozen (p := ⟨w.heap.size + 1, 0, none⟩) t2b (by simp)).trans (b2f0)
          have b3f1 : w3.frozen? ⟨w.heap.size + 1, 1, none⟩ = false := (c3.frozen (p := ⟨w.heap.size + 1, 1, none⟩) t2b (by simp)).trans (b2f1)
          have b3f2 : w3.frozen? ⟨w.heap.size + 1, 2, none⟩ = false := (c3.frozen (p := ⟨w.heap.size + 1, 2, none⟩) t2b (by simp)).trans (b2f2)
          have b3f3 : w3.frozen? ⟨w.heap.size + 1, 3, none⟩ = false := (c3.frozen (p := ⟨w.heap.size + 1, 3, none⟩) t2b (by simp)).trans (b2f3)
          have b3f4 : w3.frozen? ⟨w.heap.size + 1, 4, none⟩ = false := (c3.frozen (p := ⟨w.heap.size + 1, 4, none⟩) t2b (by simp)).trans (b2f4)
          have b3f5 : w3.frozen? ⟨w.heap.size + 1, 5, none⟩ = false := (c3.frozen (p := ⟨w.heap.size + 1, 5, none⟩) t2b (by simp)).trans (b2f5)
          have c30 : w3.cell? ⟨w.heap.size + 1 + 1, 0, none⟩ = some (.int .i64 0) := (c3.cell (p := ⟨w.heap.size + 1 + 1, 0, none⟩) t2c (by simp)).trans (c20)
          have c31 : w3.cell? ⟨w.heap.size + 1 + 1, 1, none⟩ = some (.int .i64 0) := (c3.cell (p := ⟨w.heap.size + 1 + 1, 1, none⟩) t2c (by simp)).trans (c21)
          have c32 : w3.cell? ⟨w.heap.size + 1 + 1, 2, none⟩ = some (.string ⟨#[]⟩) := (c3.cell (p := ⟨w.heap.size + 1 + 1, 2, none⟩) t2c (by simp)).trans (c22)
          have c33 : w3.cell? ⟨w.heap.size + 1 + 1, 3, none⟩ = some (.int .i64 0) := (c3.cell (p := ⟨w.heap.size + 1 + 1, 3, none⟩) t2c (by simp)).trans (c23)
          have c34 : w3.cell? ⟨w.heap.size + 1 + 1, 4, none⟩ = some (.int .i64 0) := (c3.cell (p := ⟨w.heap.size + 1 + 1, 4, none⟩) t2c (by simp)).trans (c24)
          have c3f0 : w3.frozen? ⟨w.heap.size + 1 + 1, 0, none⟩ = false := (c3.frozen (p := ⟨w.heap.size + 1 + 1, 0, none⟩) t2c (by simp)).trans (c2f0)
          have c3f1 : w3.frozen? ⟨w.heap.size + 1 + 1, 1, none⟩ = false := (c3.frozen (p := ⟨w.heap.size + 1 + 1, 1, none⟩) t2c (by simp)).trans (c2f1)
          have c3f2 : w3.frozen? ⟨w.heap.size + 1 + 1, 2, none⟩ = false := (c3.frozen (p := ⟨w.heap.size + 1 + 1, 2, none⟩) t2c (by simp)).trans (c2f2)
          have c3f3 : w3.frozen? ⟨w.heap.size + 1 + 1, 3, none⟩ = false := (c3.frozen (p := ⟨w.heap.size + 1 + 1, 3, none⟩) t2c (by simp)).trans (c2f3)
          have c3f4 : w3.frozen? ⟨w.heap.size + 1 + 1, 4, none⟩ = false := (c3.frozen (p := ⟨w.heap.size + 1 + 1, 4, none⟩) t2c (by simp)).trans (c2f4)
          have d30 : w3.cell? ⟨w1.heap.size, 0, none⟩ = some (.string p.core.kind) := (c3.cell (p := ⟨w1.heap.size, 0, none⟩) t2 (by simp)).trans (d20)
          have d31 : w3.cell? ⟨w1.heap.size, 1, none⟩ = some (.bool p.core.on) := (c3.cell (p := ⟨w1.heap.size, 1, none⟩) t2 (by simp)).trans (d21)
          have d32 : w3.cell? ⟨w1.heap.size, 2, none⟩ = some (.bool p.core.broken) := (c3.cell (p := ⟨w1.heap.size, 2, none⟩) t2 (by simp)).trans (d22)
          have d33 : w3.cell? ⟨w1.heap.size, 3, none⟩ = some (.slice A4 p.core.cells.length cap4) := (c3.cell (p := ⟨w1.heap.size, 3, none⟩) t2 (by simp)).trans (d23)
          have d34 : w3.cell? ⟨w1.heap.size, 4, none⟩ = some (.int .i64 p.core.count) := (c3.cell (p := ⟨w1.heap.size, 4, none⟩) t2 (by simp)).trans (d24)
          have d35 : w3.cell? ⟨w1.heap.size, 5, none⟩ = some (.slice A6 p.layers.length cap6) := (c3.cell (p := ⟨w1.heap.size, 5, none⟩) t2 (by simp)).trans (d25)
          have d3f0 : w3.frozen? ⟨w1.heap.size, 0, none⟩ = false := (c3.frozen (p := ⟨w1.heap.size, 0, none⟩) t2 (by simp)).trans (d2f0)
          have d3f1 : w3.frozen? ⟨w1.heap.size, 1, none⟩ = false := (c3.frozen (p := ⟨w1.heap.size, 1, none⟩) t2 (by simp)).trans (d2f1)
          have d3f2 : w3.frozen? ⟨w1.heap.size, 2, none⟩ = false := (c3.frozen (p := ⟨w1.heap.size, 2, none⟩) t2 (by simp)).trans (d2f2)
          have d3f3 : w3.frozen? ⟨w1.heap.size, 3, none⟩ = false := (c3.frozen (p := ⟨w1.heap.size, 3, none⟩) t2 (by simp)).trans (d2f3)
          have d3f4 : w3.frozen? ⟨w1.heap.size, 4, none⟩ = false := (c3.frozen (p := ⟨w1.heap.size, 4, none⟩) t2 (by simp)).trans (d2f4)
          have d3f5 : w3.frozen? ⟨w1.heap.size, 5, none⟩ = false := (c3.frozen (p := ⟨w1.heap.size, 5, none⟩) t2 (by simp)).trans (d2f5)
          have t3 : w1.heap.size < w3.heap.size := Nat.lt_of_lt_of_le t2 c3.size
          have t3a : w.heap.size < w3.heap.size := by omega
          have t3b : w.heap.size + 1 < w3.heap.size := by omega
          have t3c : w.heap.size + 1 + 1 < w3.heap.size := by omega
          have E3 : Chg [] w w3 := E2.trans0 c3
          clear a20 a21 a22 a23 a24 a25 b20 b2f0 b21 b2f1 b22 b2f2 b23 b2f3 b24 b2f4 b25 b2f5 c20 c2f0 c21 c2f1 c22 c2f2 c23 c2f3 c24 c2f4 d20 d2f0 d21 d2f1 d22 d2f2 d23 d2f3 d24 d2f4 d25 d2f5
          go_wp2_with fail
          refine (OF.out _).mono ?_
          rintro e w3b ⟨rfl, hw3⟩
          obtain rfl := hw3.symm
          go_wp2_with fail
          go_region_law (first | (go_simp; go_at_call 50; (with_reducible refine (FO.out _ (by first | exact E3 | exact E3.drew | exact E3.drew.drew)).mono ?_); rintro e w4 ⟨rfl, c4d⟩; have c4 : Chg [] w3 w4 := (by first | exact c4d | exact ((Chg.refl [] w3).drew).trans0 c4d | exact ((Chg.refl [] w3).drew.drew).trans0 c4d); have b40 : w4.cell? ⟨w.heap.size + 1, 0, none⟩ = some (.string ⟨#[]⟩) := (c4.cell (p := ⟨w.heap.size + 1, 0, none⟩) t3b (by simp)).trans (b30); have b41 : w4.cell? ⟨w.heap.size + 1, 1, none⟩ = some (.bool false) := (c4.cell (p := ⟨w.heap.size + 1, 1, none⟩) t3b (by simp)).trans (b31); have b42 : w4.cell? ⟨w.heap.size + 1, 2, none⟩ = some (.bool false) := (c4.cell (p := ⟨w.heap.size + 1, 2, none⟩) t3b (by simp)).trans (b32); have b43 : w4.cell? ⟨w.heap.size + 1, 3, none⟩ = some (.slice none 0 0) := (c4.cell (p := ⟨w.heap.size + 1, 3, none⟩) t3b (by simp)).trans (b33); have b44 : w4.cell? ⟨w.heap.size + 1, 4, none⟩ = some (.int .i64 0) := (c4.cell (p := ⟨w.heap.size + 1, 4, none⟩) t3b (by simp)).trans (b34); have b45 : w4.cell? ⟨w.heap.size + 1, 5, none⟩ = some (.slice none 0 0) := (c4.cell (p := ⟨w.heap.size + 1, 5, none⟩) t3b (by simp)).trans (b35); have b4f0 : w4.frozen? ⟨w.heap.size + 1, 0, none⟩ = false := (c4.frozen (p := ⟨w.heap.size + 1, 0, none⟩) t3b (by simp)).trans (b3f0); have b4f1 : w4.frozen? ⟨w.heap.size + 1, 1, none⟩ = false := (c4.frozen (p := ⟨w.heap.size + 1, 1, none⟩) t3b (by simp)).trans (b3f1); have b4f2 : w4.frozen? ⟨w.heap.size + 1, 2, none⟩ = false := (c4.frozen (p := ⟨w.heap.size + 1, 2, none⟩) t3b (by simp)).trans (b3f2); have b4f3 : w4.frozen? ⟨w.heap.size + 1, 3, none⟩ = false := (c4.frozen (p := ⟨w.heap.size + 1, 3, none⟩) t3b (by simp)).trans (b3f3); have b4f4 : w4.frozen? ⟨w.heap.size + 1, 4, none⟩ = false := (c4.frozen (p := ⟨w.heap.size + 1, 4, none⟩) t3b (by simp)).trans (b3f4); have b4f5 : w4.frozen? ⟨w.heap.size + 1, 5, none⟩ = false := (c4.frozen (p := ⟨w.heap.size + 1, 5, none⟩) t3b (by simp)).trans (b3f5); have c40 : w4.cell? ⟨w.heap.size + 1 + 1, 0, none⟩ = some (.int .i64 0) := (c4.cell (p := ⟨w.heap.size + 1 + 1, 0, none⟩) t3c (by simp)).trans (c30); have c41 : w4.cell? ⟨w.heap.size + 1 + 1, 1, none⟩ = some (.int .i64 0) := (c4.cell (p := ⟨w.heap.size + 1 + 1, 1, none⟩) t3c (by simp)).trans (c31); have c42 : w4.cell? ⟨w.heap.size + 1 + 1, 2, none⟩ = some (.string ⟨#[]⟩) := (c4.cell (p := ⟨w.heap.size + 1 + 1, 2, none⟩) t3c (by simp)).trans (c32); have c43 : w4.cell? ⟨w.heap.size + 1 + 1, 3, none⟩ = some (.int .i64 0) := (c4.cell (p := ⟨w.heap.size + 1 + 1, 3, none⟩) t3c (by simp)).trans (c33); have c44 : w4.cell? ⟨w.heap.size + 1 + 1, 4, none⟩ = some (.int .i64 0) := (c4.cell (p := ⟨w.heap.size + 1 + 1, 4, none⟩) t3c (by simp)).trans (c34); have c4f0 : w4.frozen? ⟨w.heap.size + 1 + 1, 0, none⟩ = false := (c4.frozen (p := ⟨w.heap.size + 1 + 1, 0, none⟩) t3c (by simp)).trans (c3f0); have c4f1 : w4.frozen? ⟨w.heap.size + 1 + 1, 1, none⟩ = false := (c4.frozen (p := ⟨w.heap.size + 1 + 1, 1, none⟩) t3c (by simp)).trans (c3f1); have c4f2 : w4.frozen? ⟨w.heap.size + 1 + 1, 2, none⟩ = false := (c4.frozen (p := ⟨w.heap.size + 1 + 1, 2, none⟩) t3c (by simp)).trans (c3f2); have c4f3 : w4.frozen? ⟨w.heap.size + 1 + 1, 3, none⟩ = false := (c4.frozen (p := ⟨w.heap.size + 1 + 1, 3, none⟩) t3c (by simp)).trans (c3f3); have c4f4 : w4.frozen? ⟨w.heap.size + 1 + 1, 4, none⟩ = false := (c4.frozen (p := ⟨w.heap.size + 1 + 1, 4, none⟩) t3c (by simp)).trans (c3f4); have d40 : w4.cell? ⟨w1.heap.size, 0, none⟩ = some (.string p.core.kind) := (c4.cell (p := ⟨w1.heap.size, 0, none⟩) t3 (by simp)).trans (d30); have d41 : w4.cell? ⟨w1.heap.size, 1, none⟩ = some (.bool p.core.on) := (c4.cell (p := ⟨w1.heap.size, 1, none⟩) t3 (by simp)).trans (d31); have d42 : w4.cell? ⟨w1.heap.size, 2, none⟩ = some (.bool p.core.broken) := (c4.cell (p := ⟨w1.heap.size, 2, none⟩) t3 (by simp)).trans (d32); have d43 : w4.cell? ⟨w1.heap.size, 3, none⟩ = some (.slice A4 p.core.cells.length cap4) := (c4.cell (p := ⟨w1.heap.size, 3, none⟩) t3 (by simp)).trans (d33); have d44 : w4.cell? ⟨w1.heap.size, 4, none⟩ = some (.int .i64 p.core.count) := (c4.cell (p := ⟨w1.heap.size, 4, none⟩) t3 (by simp)).trans (d34); have d45 : w4.cell? ⟨w1.heap.size, 5, none⟩ = some (.slice A6 p.layers.length cap6) := (c4.cell (p := ⟨w1.heap.size, 5, none⟩) t3 (by simp)).trans (d35); have t4a : w.heap.size + 1 < w4.heap.size := Nat.lt_of_lt_of_le t3b c4.size; have t4b : w.heap.size + 1 + 1 < w4.heap.size := Nat.lt_of_lt_of_le t3c c4.size; simp only []) | fail)
          all_goals
            go_wp2_with fail
            refine bodyPost_ret (v := .tuple #[.agg #[.string p.core.kind, .bool p.core.on, .bool p.core.broken, .slice A4 p.core.cells.length cap4, .int .i64 p.core.count, .slice A6 p.layers.length cap6], .agg #[.int .i64 1, .int .i64 0, .string ⟨#[]⟩, .int .i64 x.1, .int .i64 (faceAt p p.layers.length)]]) (by simp only [results, Tryd.results49]; go_simp) rfl ?_
            rw [wrapOf_lacks hx n1p n3 n4]
            refine ⟨A4, cap4, _, _, rfl, ?_⟩
            exact PartNew.ends (w := w) (wb := (((w.alloc (.cells #[.string p.core.kind, .bool p.core.on, .bool p.core.broken, .slice A3 p.core.cells.length cap3, .int .i64 p.core.count, .slice A5 p.layers.length cap5] 62)).alloc (.cells #[.string ⟨#[]⟩, .bool false, .bool false, .slice none 0 0, .int .i64 0, .slice none 0 0] 62)).alloc (.cells #[.int .i64 0, .int .i64 0, .string ⟨#[]⟩, .int .i64 0, .int .i64 0] 69))) (g1 := w.heap.size + 1) (g2 := w.heap.size + 1 + 1) n1 (by repeat (first | with_reducible exact Chg.refl _ _ | with_reducible refine Chg.drew ?_ | with_reducible refine Chg.alloc ?_ _)) (d13.trans0 c4) (by omega) (by omega) (by simp <;> omega) (by simp <;> omega) (by repeat (first | with_reducible exact Chg.refl _ _ | with_reducible refine Chg.drew ?_ | with_reducible refine Chg.alloc ?_ _ | with_reducible refine Chg.setCell ?_ (.inl (by simp)) _))
    · have IP := Lib.hid (fun W (hW : Chg [] w W) => (ip W hW).mono (BoolPost.neg n1p))
      clear ip r3 r5 hs
      go_enter Tryd.func49, Tryd.ntmps49
      go_wp2_with fail
      refine (CP.out _ ?_).mono ?_
      · repeat (first | with_reducible exact Chg.refl _ _ | with_reducible refine Chg.drew ?_ | with_reducible refine Chg.alloc ?_ _)
      rintro e w1 ⟨A4, cap4, A6, cap6, rfl, n1⟩
      have e1 : Chg [] (((w.alloc (.cells #[.string p.core.kind, .bool p.core.on, .bool p.core.broken, .slice A3 p.core.cells.length cap3, .int .i64 p.core.count, .slice A5 p.layers.length cap5] 62)).alloc (.cells #[.string ⟨#[]⟩, .bool false, .bool false, .slice none 0 0, .int .i64 0, .slice none 0 0] 62)).alloc (.cells #[.int .i64 0, .int .i64 0, .string ⟨#[]⟩, .int .i64 0, .int .i64 0] 69)) w1 := n1.2.chg
      have t1 : w.heap.size + 1 + 1 < w1.heap.size := by have := e1.size; simp at this; omega
      have t1a : w.heap.size + 1 < w1.heap.size := by omega
      have t1b : w.heap.size < w1.heap.size := by omega
      have tr : w1.heap.size < w1.heap.size + 1 := Nat.lt_succ_self _
      have E1 : Chg [] w w1 := Chg.trans0 (by repeat (first | with_reducible exact Chg.refl _ _ | with_reducible refine Chg.drew ?_ | with_reducible refine Chg.alloc ?_ _)) e1
      have a10 : w1.cell? ⟨w.heap.size, 0, none⟩ = some (.string p.core.kind) := (e1.cell (p := ⟨w.heap.size, 0, none⟩) (by simp <;> omega) (by simp)).trans (by go_simp)
      have a11 : w1.cell? ⟨w.heap.size, 1, none⟩ = some (.bool p.core.on) := (e1.cell (p := ⟨w.heap.size, 1, none⟩) (by simp <;> omega) (by simp)).trans (by go_simp)
      have a12 : w1.cell? ⟨w.heap.size, 2, none⟩ = some (.bool p.core.broken) := (e1.cell (p := ⟨w.heap.size, 2, none⟩) (by simp <;> omega) (by simp)).trans (by go_simp)
      have a13 : w1.cell? ⟨w.heap.size, 3, none⟩ = some (.slice A3 p.core.cells.length cap3) := (e1.cell (p := ⟨w.heap.size, 3, none⟩) (by simp <;> omega) (by simp)).trans (by go_simp)
      have a14 : w1.cell? ⟨w.heap.size, 4, none⟩ = some (.int .i64 p.core.count) := (e1.cell (p := ⟨w.heap.size, 4, none⟩) (by simp <;> omega) (by simp)).trans (by go_simp)
      have a15 : w1.cell? ⟨w.heap.size, 5, none⟩ = some (.slice A5 p.layers.length cap5) := (e1.cell (p := ⟨w.heap.size, 5, none⟩) (by simp <;> omega) (by simp)).trans (by go_simp)
      have b10 : w1.cell? ⟨w.heap.size + 1, 0, none⟩ = some (.string ⟨#[]⟩) := (e1.cell (p := ⟨w.heap.size + 1, 0, none⟩) (by simp <;> omega) (by simp)).trans (by go_simp)
      have b11 : w1.cell? ⟨w.heap.size + 1, 1, none⟩ = some (.bool false) := (e1.cell (p := ⟨w.heap.size + 1, 1, none⟩) (by simp <;> omega) (by simp)).trans (by go_simp)
      have b12 : w1.cell? ⟨w.heap.size + 1, 2, none⟩ = some (.bool false) := (e1.cell (p := ⟨w.heap.size + 1, 2, none⟩) (by simp <;> omega) (by simp)).trans (by go_simp)
      have b13 : w1.cell? ⟨w.heap.size + 1, 3, none⟩ = some (.slice none 0 0) := (e1.cell (p := ⟨w.heap.size + 1, 3, none⟩) (by simp <;> omega) (by simp)).trans (by go_simp)
      have b14 : w1.cell? ⟨w.heap.size + 1, 4, none⟩ = some (.int .i64 0) := (e1.cell (p := ⟨w.heap.size + 1, 4, none⟩) (by simp <;> omega) (by simp)).trans (by go_simp)
      have b15 : w1.cell? ⟨w.heap.size + 1, 5, none⟩ = some (.slice none 0 0) := (e1.cell (p := ⟨w.heap.size + 1, 5, none⟩) (by simp <;> omega) (by simp)).trans (by go_simp)
      have b1f0 : w1.frozen? ⟨w.heap.size + 1, 0, none⟩ = false := (e1.frozen (p := ⟨w.heap.size + 1, 0, none⟩) (by simp <;> omega) (by simp)).trans (by go_simp)
      have b1f1 : w1.frozen? ⟨w.heap.size + 1, 1, none⟩ = false := (e1.frozen (p := ⟨w.heap.size + 1, 1, none⟩) (by simp <;> omega) (by simp)).trans (by go_simp)
      have b1f2 : w1.frozen? ⟨w.heap.size + 1, 2, none⟩ = false := (e1.frozen (p := ⟨w.heap.size + 1, 2, none⟩) (by simp <;> omega) (by simp)).trans (by go_simp)
      have b1f3 : w1.frozen? ⟨w.heap.size + 1, 3, none⟩ = false := (e1.frozen (p := ⟨w.heap.size + 1, 3, none⟩) (by simp <;> omega) (by simp)).trans (by go_simp)
      have b1f4 : w1.frozen? ⟨w.heap.size + 1, 4, none⟩ = false := (e1.frozen (p := ⟨w.heap.size + 1, 4, none⟩) (by simp <;> omega) (by simp)).trans (by go_simp)
      have b1f5 : w1.frozen? ⟨w.heap.size + 1, 5, none⟩ = false := (e1.frozen (p := ⟨w.heap.size + 1, 5, none⟩) (by simp <;> omega) (by simp)).trans (by go_simp)
      have c10 : w1.cell? ⟨w.heap.size + 1 + 1, 0, none⟩ = some (.int .i64 0) := (e1.cell (p := ⟨w.heap.size + 1 + 1, 0, none⟩) (by simp <;> omega) (by simp)).trans (by go_simp)
      have c11 : w1.cell? ⟨w.heap.size + 1 + 1, 1, none⟩ = some (.int .i64 0) := (e1.cell (p := ⟨w.heap.size + 1 + 1, 1, none⟩) (by simp <;> omega) (by simp)).trans (by go_simp)
      have c12 : w1.cell? ⟨w.heap.size + 1 + 1, 2, none⟩ = some (.string ⟨#[]⟩) := (e1.cell (p := ⟨w.heap.size + 1 + 1, 2, none⟩) (by simp <;> omega) (by simp)).trans (by go_simp)
      have c13 : w1.cell? ⟨w.heap.size + 1 + 1, 3, none⟩ = some (.int .i64 0) := (e1.cell (p := ⟨w.heap.size + 1 + 1, 3, none⟩) (by simp <;> omega) (by simp)).trans (by go_simp)
      have c14 : w1.cell? ⟨w.heap.size + 1 + 1, 4, none⟩ = some (.int .i64 0) := (e1.cell (p := ⟨w.heap.size + 1 + 1, 4, none⟩) (by simp <;> omega) (by simp)).trans (by go_simp)
      have c1f0 : w1.frozen? ⟨w.heap.size + 1 + 1, 0, none⟩ = false := (e1.frozen (p := ⟨w.heap.size + 1 + 1, 0, none⟩) (by simp <;> omega) (by simp)).trans (by go_simp)
      have c1f1 : w1.frozen? ⟨w.heap.size + 1 + 1, 1, none⟩ = false := (e1.frozen (p := ⟨w.heap.size + 1 + 1, 1, none⟩) (by simp <;> omega) (by simp)).trans (by go_simp)
      have c1f2 : w1.frozen? ⟨w.heap.size + 1 + 1, 2, none⟩ = false := (e1.frozen (p := ⟨w.heap.size + 1 + 1, 2, none⟩) (by simp <;> omega) (by simp)).trans (by go_simp)
      have c1f3 : w1.frozen? ⟨w.heap.size + 1 + 1, 3, none⟩ = false := (e1.frozen (p := ⟨w.heap.size + 1 + 1, 3, none⟩) (by simp <;> omega) (by simp)).trans (by go_simp)
      have c1f4 : w1.frozen? ⟨w.heap.size + 1 + 1, 4, none⟩ = false := (e1.frozen (p := ⟨w.heap.size + 1 + 1, 4, none⟩) (by simp <;> omega) (by simp)).trans (by go_simp)
      clear e1
      go_wp2_with fail
      refine (LF.out _).mono ?_
      rintro e w1b ⟨rfl, rfl⟩
      go_wp2_with fail
      refine (IP.out _ (E1.alloc _)).mono ?_
      rintro e w2 ⟨rfl, c2⟩
      have d12 : Chg [] w1 w2 := ((Chg.refl [] w1).alloc _).trans0 c2
      have a20 : w2.cell? ⟨w.heap.size, 0, none⟩ = some (.string p.core.kind) := (d12.cell (p := ⟨w.heap.size, 0, none⟩) t1b (by simp)).trans (a10)
      have a21 : w2.cell? ⟨w.heap.size, 1, none⟩ = some (.bool p.core.on) := (d12.cell (p := ⟨w.heap.size, 1, none⟩) t1b (by simp)).trans (a11)
      have a22 : w2.cell? ⟨w.heap.size, 2, none⟩ = some (.bool p.core.broken) := (d12.cell (p := ⟨w.heap.size, 2, none⟩) t1b (by simp)).trans (a12)
      have a23 : w2.cell? ⟨w.heap.size, 3, none⟩ = some (.slice A3 p.core.cells.length cap3) := (d12.cell (p := ⟨w.heap.size, 3, none⟩) t1b (by simp)).trans (a13)
      have a24 : w2.cell? ⟨w.heap.size, 4, none⟩ = some (.int .i64 p.core.count) := (d12.cell (p := ⟨w.heap.size, 4, none⟩) t1b (by simp)).trans (a14)
      have a25 : w2.cell? ⟨w.heap.size, 5, none⟩ = some (.slice A5 p.layers.length cap5) := (d12.cell (p := ⟨w.heap.size, 5, none⟩) t1b (by simp)).trans (a15)
      have b20 : w2.cell? ⟨w.heap.size + 1, 0, none⟩ = some (.string ⟨#[]⟩) := (d12.cell (p := ⟨w.heap.size + 1, 0, none⟩) t1a (by simp)).trans (b10)
      have b21 : w2.cell? ⟨w.heap.size + 1, 1, none⟩ = some (.bool false) := (d12.cell (p := ⟨w.heap.size + 1, 1, none⟩) t1a (by simp)).trans (b11)
      have b22 : w2.cell? ⟨w.heap.size + 1, 2, none⟩ = some (.bool false) := (d12.cell (p := ⟨w.heap.size + 1, 2, none⟩) t1a (by simp)).trans (b12)
      have b23 : w2.cell? ⟨w.heap.size + 1, 3, none⟩ = some (.slice none 0 0) := (d12.cell (p := ⟨w.heap.size + 1, 3, none⟩) t1a (by simp)).trans (b13)
      have b24 : w2.cell? ⟨w.heap.size + 1, 4, none⟩ = some (.int .i64 0) := (d12.cell (p := ⟨w.heap.size + 1, 4, none⟩) t1a (by simp)).trans (b14)
      have b25 : w2.cell? ⟨w.heap.size + 1, 5, none⟩ = some (.slice none 0 0) := (d12.cell (p := ⟨w.heap.size + 1, 5, none⟩) t1a (by simp)).trans (b15)
      have b2f0 : w2.frozen? ⟨w.heap.size + 1, 0, none⟩ = false := (d12.frozen (p := ⟨w.heap.size + 1, 0, none⟩) t1a (by simp)).trans (b1f0)
      have b2f1 : w2.frozen? ⟨w.heap.size + 1, 1, none⟩ = false := (d12.frozen (p := ⟨w.heap.size + 1, 1, none⟩) t1a (by simp)).trans (b1f1)
      have b2f2 : w2.frozen? ⟨w.heap.size + 1, 2, none⟩ = false := (d12.frozen (p := ⟨w.heap.size + 1, 2, none⟩) t1a (by simp)).trans (b1f2)
      have b2f3 : w2.frozen? ⟨w.heap.size + 1, 3, none⟩ = false := (d12.frozen (p := ⟨w.heap.size + 1, 3, none⟩) t1a (by simp)).trans (b1f3)
      have b2f4 : w2.frozen? ⟨w.heap.size + 1, 4, none⟩ = false := (d12.frozen (p := ⟨w.heap.size + 1, 4, none⟩) t1a (by simp)).trans (b1f4)
      have b2f5 : w2.frozen? ⟨w.heap.size + 1, 5, none⟩ = false := (d12.frozen (p := ⟨w.heap.size + 1, 5, none⟩) t1a (by simp)).trans (b1f5)
      have c20 : w2.cell? ⟨w.heap.size + 1 + 1, 0, none⟩ = some (.int .i64 0) := (d12.cell (p := ⟨w.heap.size + 1 + 1, 0, none⟩) t1 (by simp)).trans (c10)
      have c21 : w2.cell? ⟨w.heap.size + 1 + 1, 1, none⟩ = some (.int .i64 0) := (d12.cell (p := ⟨w.heap.size + 1 + 1, 1, none⟩) t1 (by simp)).trans (c11)
      have c22 : w2.cell? ⟨w.heap.size + 1 + 1, 2, none⟩ = some (.string ⟨#[]⟩) := (d12.cell (p := ⟨w.heap.size + 1 + 1, 2, none⟩) t1 (by simp)).trans (c12)
      have c23 : w2.cell? ⟨w.heap.size + 1 + 1, 3, none⟩ = some (.int .i64 0) := (d12.cell (p := ⟨w.heap.size + 1 + 1, 3, none⟩) t1 (by simp)).trans (c13)
      have c24 : w2.cell? ⟨w.heap.size + 1 + 1, 4, none⟩ = some (.int .i64 0) := (d12.cell (p := ⟨w.heap.size + 1 + 1, 4, none⟩) t1 (by simp)).trans (c14)
      have c2f0 : w2.frozen? ⟨w.heap.size + 1 + 1, 0, none⟩ = false := (d12.frozen (p := ⟨w.heap.size + 1 + 1, 0, none⟩) t1 (by simp)).trans (c1f0)
      have c2f1 : w2.frozen? ⟨w.heap.size + 1 + 1, 1, none⟩ = false := (d12.frozen (p := ⟨w.heap.size + 1 + 1, 1, none⟩) t1 (by simp)).trans (c1f1)
      have c2f2 : w2.frozen? ⟨w.heap.size + 1 + 1, 2, none⟩ = false := (d12.frozen (p := ⟨w.heap.size + 1 + 1, 2, none⟩) t1 (by simp)).trans (c1f2)
      have c2f3 : w2.frozen? ⟨w.heap.size + 1 + 1, 3, none⟩ = false := (d12.frozen (p := ⟨w.heap.size + 1 + 1, 3, none⟩) t1 (by simp)).trans (c1f3)
      have c2f4 : w2.frozen? ⟨w.heap.size + 1 + 1, 4, none⟩ = false := (d12.frozen (p := ⟨w.heap.size + 1 + 1, 4, none⟩) t1 (by simp)).trans (c1f4)
      have d20 : w2.cell? ⟨w1.heap.size, 0, none⟩ = some (.string p.core.kind) := (c2.cell (p := ⟨w1.heap.size, 0, none⟩) (by simp) (by simp)).trans (by go_simp)
      have d21 : w2.cell? ⟨w1.heap.size, 1, none⟩ = some (.bool p.core.on) := (c2.cell (p := ⟨w1.heap.size, 1, none⟩) (by simp) (by simp)).trans (by go_simp)
      have d22 : w2.cell? ⟨w1.heap.size, 2, none⟩ = some (.bool p.core.broken) := (c2.cell (p := ⟨w1.heap.size, 2, none⟩) (by simp) (by simp)).trans (by go_simp)
      have d23 : w2.cell? ⟨w1.heap.size, 3, none⟩ = some (.slice A4 p.core.cells.length cap4) := (c2.cell (p := ⟨w1.heap.size, 3, none⟩) (by simp) (by simp)).trans (by go_simp)
      have d24 : w2.cell? ⟨w1.heap.size, 4, none⟩ = some (.int .i64 p.core.count) := (c2.cell (p := ⟨w1.heap.size, 4, none⟩) (by simp) (by simp)).trans (by go_simp)
      have d25 : w2.cell? ⟨w1.heap.size, 5, none⟩ = some (.slice A6 p.layers.length cap6) := (c2.cell (p := ⟨w1.heap.size, 5, none⟩) (by simp) (by simp)).trans (by go_simp)
      have d2f0 : w2.frozen? ⟨w1.heap.size, 0, none⟩ = false := (c2.frozen (p := ⟨w1.heap.size, 0, none⟩) (by simp) (by simp)).trans (by go_simp)
      have d2f1 : w2.frozen? ⟨w1.heap.size, 1, none⟩ = false := (c2.frozen (p := ⟨w1.heap.size, 1, none⟩) (by simp) (by simp)).trans (by go_simp)
      have d2f2 : w2.frozen? ⟨w1.heap.size, 2, none⟩ = false := (c2.frozen (p := ⟨w1.heap.size, 2, none⟩) (by simp) (by simp)).trans (by go_simp)
      have d2f3 : w2.frozen? ⟨w1.heap.size, 3, none⟩ = false := (c2.frozen (p := ⟨w1.heap.size, 3, none⟩) (by simp) (by simp)).trans (by go_simp)
      have d2f4 : w2.frozen? ⟨w1.heap.size, 4, none⟩ = false := (c2.frozen (p := ⟨w1.heap.size, 4, none⟩) (by simp) (by simp)).trans (by go_simp)
      have d2f5 : w2.frozen? ⟨w1.heap.size, 5, none⟩ = false := (c2.frozen (p := ⟨w1.heap.size, 5, none⟩) (by simp) (by simp)).trans (by go_simp)
      have t2 : w1.heap.size < w2.heap.size := by have := c2.size; simp at this; omega
      have t2a : w.heap.size < w2.heap.size := by omega
      have t2b : w.heap.size + 1 < w2.heap.size := by omega
      have t2c : w.heap.size + 1 + 1 < w2.heap.size := by omega
      have E2 : Chg [] w w2 := E1.trans0 d12
      clear c2
      clear a10 a11 a12 a13 a14 a15 b10 b1f0 b11 b1f1 b12 b1f2 b13 b1f3 b14 b1f4 b15 b1f5 c10 c1f0 c11 c1f1 c12 c1f2 c13 c1f3 c14 c1f4
      go_wp2_with fail
      refine bodyPost_ret (v := .tuple #[.agg #[.string p.core.kind, .bool p.core.on, .bool p.core.broken, .slice A4 p.core.cells.length cap4, .int .i64 p.core.count, .slice A6 p.layers.length cap6], .agg #[.int .i64 7, .int .i64 0, .string ⟨#[]⟩, .int .i64 0, .int .i64 0]]) (by simp only [results, Tryd.results49]; go_simp) rfl ?_
      rw [wrapOf_bad n1p]
      refine ⟨A4, cap4, _, _, rfl, ?_⟩
      exact PartNew.ends (w := w) (wb := (((w.alloc (.cells #[.string p.core.kind, .bool p.core.on, .bool p.core.broken, .slice A3 p.core.cells.length cap3, .int .i64 p.core.count, .slice A5 p.layers.length cap5] 62)).alloc (.cells #[.string ⟨#[]⟩, .bool false, .bool false, .slice none 0 0, .int .i64 0, .slice none 0 0] 62)).alloc (.cells #[.int .i64 0, .int .i64 0, .string ⟨#[]⟩, .int .i64 0, .int .i64 0] 69))) (g1 := w.heap.size + 1) (g2 := w.heap.size + 1 + 1) n1 (by repeat (first | with_reducible exact Chg.refl _ _ | with_reducible refine Chg.drew ?_ | with_reducible refine Chg.alloc ?_ _)) d12 (by omega) (by omega) (by simp <;> omega) (by simp <;> omega) (by repeat (first | with_reducible exact Chg.refl _ _ | with_reducible refine Chg.drew ?_ | with_reducible refine Chg.alloc ?_ _ | with_reducible refine Chg.setCell ?_ (.inl (by simp)) _))
set_option maxRecDepth 100000 in
set_option maxHeartbeats 4000000 in
theorem wrap_spec_any (p : PartT) (name : ByteArray) (u3 u5 : Value) (B : Nat) (w : World) (r3 : Rd w B (cells p.core.cells) u3) (r5 : Rd w B (layers p.layers) u5) (hB : B ≤ w.heap.size) (hl : p.layers.length ≤ 1048576) (hcl : p.core.cells.length ≤ 1048576) (hs : ∀ c ∈ p.core.cells, c.key.size ≤ 1048576) :
    Calls Tryd.prog 46 #[.agg #[.string p.core.kind, .bool p.core.on, .bool p.core.broken, u3, .int .i64 p.core.count, u5], .string name] w (PartRep (wrapOf p name) w) := by
  obtain ⟨A3, cap3, rfl, _, _, _⟩ := cells_row r3
  obtain ⟨A5, cap5, rfl, h0, h1, _⟩ := layers_row r5
  unfold maxLen at h1
  have tt : w.heap.size < w.heap.size + 1 := Nat.lt_succ_self _
  have tt2 : w.heap.size < w.heap.size + 1 + 1 := by omega
  have tt3 : w.heap.size < w.heap.size + 1 + 1 + 1 := by omega
  have tt4 : w.heap.size + 1 < w.heap.size + 1 + 1 + 1 := by omega
  have CP := Lib.hid (fun W (hW : Chg [] w W) => l4Copy_any p _ _ B W hl hcl (r3.chg0 hW hB) (r5.chg0 hW hB) (by have := hW.size; omega))
  have FO := Lib.hid (fun W (hW : Chg [] w W) => faceOf_spec_any p (.slice A3 p.core.cells.length cap3) _ B W (r5.chg0 hW hB) (by have := hW.size; omega))
  have ip := fun W (hW : Chg [] w W) => isPart_spec_any p _ _ B W (r3.chg0 hW hB) (r5.chg0 hW hB) (by have := hW.size; omega) hl hcl hs
  cases hx : layerOf name with
  | none =>
    have LF := Lib.hid (fun W => (l4Row_any name W).mono (Opt2Post.none_ hx))
    by_cases n1p : PartOk p
    · have IP := Lib.hid (fun W (hW : Chg [] w W) => (ip W hW).mono (BoolPost.pos n1p))
      clear ip r3 r5 hs
      go_enter Tryd.func46, Tryd.ntmps46
      go_wp2_with fail
      refine (CP.out _ ?_).mono ?_
      · repeat (first | with_reducible exact Chg.refl _ _ | with_reducible refine Chg.drew ?_ | with_reducible refine Chg.alloc ?_ _)
      rintro e w1 ⟨A4, cap4, A6, cap6, rfl, n1⟩
      have e1 : Chg [] (((w.alloc (.cells #[.string p.core.kind, .bool p.core.on, .bool p.core.broken, .slice A3 p.core.cells.length cap3, .int .i64 p.core.count, .slice A5 p.layers.length cap5] 62)).alloc (.cells #[.string ⟨#[]⟩, .bool false, .bool false, .slice none 0 0, .int .i64 0, .slice none 0 0] 62)).alloc (.cells #[.int .i64 0, .int .i64 0, .string ⟨#[]⟩, .int .i64 0, .int .i64 0] 69)) w1 := n1.2.chg
      have t1 : w.heap.size + 1 + 1 < w1.heap.size := by have := e1.size; simp at this; omega
      have t1a : w.heap.size + 1 < w1.heap.size := by omega
      have t1b : w.heap.size < w1.heap.size := by omega
      have tr : w1.heap.size < w1.heap.size + 1 := Nat.lt_succ_self _
      have E1 : Chg [] w w1 := Chg.trans0 (by repeat (first | with_reducible exact Chg.refl _ _ | with_reducible refine Chg.drew ?_ | with_reducible refine Chg.alloc ?_ _)) e1
      have a10 : w1.cell? ⟨w.heap.size, 0, none⟩ = some (.string p.core.kind) := (e1.cell (p := ⟨w.heap.size, 0, none⟩) (by simp <;> omega) (by simp)).trans (by go_simp)
      have a11 : w1.cell? ⟨w.heap.size, 1, none⟩ = some (.bool p.core.on) := (e1.cell (p := ⟨w.heap.size, 1, none⟩) (by simp <;> omega) (by simp)).trans (by go_simp)
      have a12 : w1.cell? ⟨w.heap.size, 2, none⟩ = some (.bool p.core.broken) := (e1.cell (p := ⟨w.heap.size, 2, none⟩) (by simp <;> omega) (by simp)).trans (by go_simp)
      have a13 : w1.cell? ⟨w.heap.size, 3, none⟩ = some (.slice A3 p.core.cells.length cap3) := (e1.cell (p := ⟨w.heap.size, 3, none⟩) (by simp <;> omega) (by simp)).trans (by go_simp)
      have a14 : w1.cell? ⟨w.heap.size, 4, none⟩ = some (.int .i64 p.core.count) := (e1.cell (p := ⟨w.heap.size, 4, none⟩) (by simp <;> omega) (by simp)).trans (by go_simp)
      have a15 : w1.cell? ⟨w.heap.size, 5, none⟩ = some (.slice A5 p.layers.length cap5) := (e1.cell (p := ⟨w.heap.size, 5, none⟩) (by simp <;> omega) (by simp)).trans (by go_simp)
      have b10 : w1.cell? ⟨w.heap.size + 1, 0, none⟩ = some (.string ⟨#[]⟩) := (e1.cell (p := ⟨w.heap.size + 1, 0, none⟩) (by simp <;> omega) (by simp)).trans (by go_simp)
      have b11 : w1.cell? ⟨w.heap.size + 1, 1, none⟩ = some (.bool false) := (e1.cell (p := ⟨w.heap.size + 1, 1, none⟩) (by simp <;> omega) (by simp)).trans (by go_simp)
      have b12 : w1.cell? ⟨w.heap.size + 1, 2, none⟩ = some (.bool false) := (e1.cell (p := ⟨w.heap.size + 1, 2, none⟩) (by simp <;> omega) (by simp)).trans (by go_simp)
      have b13 : w1.cell? ⟨w.heap.size + 1, 3, none⟩ = some (.slice none 0 0) := (e1.cell (p := ⟨w.heap.size + 1, 3, none⟩) (by simp <;> omega) (by simp)).trans (by go_simp)
      have b14 : w1.cell? ⟨w.heap.size + 1, 4, none⟩ = some (.int .i64 0) := (e1.cell (p := ⟨w.heap.size + 1, 4, none⟩) (by simp <;> omega) (by simp)).trans (by go_simp)
      have b15 : w1.cell? ⟨w.heap.size + 1, 5, none⟩ = some (.slice none 0 0) := (e1.cell (p := ⟨w.heap.size + 1, 5, none⟩) (by simp <;> omega) (by simp)).trans (by go_simp)
      have b1f0 : w1.frozen? ⟨w.heap.size + 1, 0, none⟩ = false := (e1.frozen (p := ⟨w.heap.size + 1, 0, none⟩) (by simp <;> omega) (by simp)).trans (by go_simp)
      have b1f1 : w1.frozen? ⟨w.heap.size + 1, 1, none⟩ = false := (e1.frozen (p := ⟨w.heap.size + 1, 1, none⟩) (by simp <;> omega) (by simp)).trans (by go_simp)
      have b1f2 : w1.frozen? ⟨w.heap.size + 1, 2, none⟩ = false := (e1.frozen (p := ⟨w.heap.size + 1, 2, none⟩) (by simp <;> omega) (by simp)).trans (by go_simp)
      have b1f3 : w1.frozen? ⟨w.heap.size + 1, 3, none⟩ = false := (e1.frozen (p := ⟨w.heap.size + 1, 3, none⟩) (by simp <;> omega) (by simp)).trans (by go_simp)
      have b1f4 : w1.frozen? ⟨w.heap.size + 1, 4, none⟩ = false := (e1.frozen (p := ⟨w.heap.size + 1, 4, none⟩) (by simp <;> omega) (by simp)).trans (by go_simp)
      have b1f5 : w1.frozen? ⟨w.heap.size + 1, 5, none⟩ = false := (e1.frozen (p := ⟨w.heap.size + 1, 5, none⟩) (by simp <;> omega) (by simp)).trans (by go_simp)
      have c10 : w1.cell? ⟨w.heap.size + 1 + 1, 0, none⟩ = some (.int .i64 0) := (e1.cell (p := ⟨w.heap.size + 1 + 1, 0, none⟩) (by simp <;> omega) (by simp)).trans (by go_simp)
      have c11 : w1.cell? ⟨w.heap.size + 1 + 1, 1, none⟩ = some (.int .i64 0) := (e1.cell (p := ⟨w.heap.size + 1 + 1, 1, none⟩) (by simp <;> omega) (by simp)).trans (by go_simp)
      have c12 : w1.cell? ⟨w.heap.size + 1 + 1, 2, none⟩ = some (.string ⟨#[]⟩) := (e1.cell (p := ⟨w.heap.size + 1 + 1, 2, none⟩) (by simp <;> omega) (by simp)).trans (by go_simp)
      have c13 : w1.cell? ⟨w.heap.size + 1 + 1, 3, none⟩ = some (.int .i64 0) := (e1.cell (p := ⟨w.heap.size + 1 + 1, 3, none⟩) (by simp <;> omega) (by simp)).trans (by go_simp)
      have c14 : w1.cell? ⟨w.heap.size + 1 + 1, 4, none⟩ = some (.int .i64 0) := (e1.cell (p := ⟨w.heap.size + 1 + 1, 4, none⟩) (by simp <;> omega) (by simp)).trans (by go_simp)
      have c1f0 : w1.frozen? ⟨w.heap.size + 1 + 1, 0, none⟩ = false := (e1.frozen (p := ⟨w.heap.size + 1 + 1, 0, none⟩) (by simp <;> omega) (by simp)).trans (by go_simp)
      have c1f1 : w1.frozen? ⟨w.heap.size + 1 + 1, 1, none⟩ = false := (e1.frozen (p := ⟨w.heap.size + 1 + 1, 1, none⟩) (by simp <;> omega) (by simp)).trans (by go_simp)
      have c1f2 : w1.frozen? ⟨w.heap.size + 1 + 1, 2, none⟩ = false := (e1.frozen (p := ⟨w.heap.size + 1 + 1, 2, none⟩) (by simp <;> omega) (by simp)).trans (by go_simp)
      have c1f3 : w1.frozen? ⟨w.heap.size + 1 + 1, 3, none⟩ = false := (e1.frozen (p := ⟨w.heap.size + 1 + 1, 3, none⟩) (by simp <;> omega) (by simp)).trans (by go_simp)
      have c1f4 : w1.frozen? ⟨w.heap.size + 1 + 1, 4, none⟩ = false := (e1.frozen (p := ⟨w.heap.size + 1 + 1, 4, none⟩) (by simp <;> omega) (by simp)).trans (by go_simp)
      clear e1
      go_wp2_with fail
      refine (LF.out _).mono ?_
      rintro e w1b ⟨rfl, c1b⟩
      have d1b : Chg [] w1 w1b := ((Chg.refl [] w1).alloc _).trans0 c1b
      have ab0 : w1b.cell? ⟨w.heap.size, 0, none⟩ = some (.string p.core.kind) := (d1b.cell (p := ⟨w.heap.size, 0, none⟩) t1b (by simp)).trans (a10)
      have ab1 : w1b.cell? ⟨w.heap.size, 1, none⟩ = some (.bool p.core.on) := (d1b.cell (p := ⟨w.heap.size, 1, none⟩) t1b (by simp)).trans (a11)
      have ab2 : w1b.cell? ⟨w.heap.size, 2, none⟩ = some (.bool p.core.broken) := (d1b.cell (p := ⟨w.heap.size, 2, none⟩) t1b (by simp)).trans (a12)
      have ab3 : w1b.cell? ⟨w.heap.size, 3, none⟩ = some (.slice A3 p.core.cells.length cap3) := (d1b.cell (p := ⟨w.heap.size, 3, none⟩) t1b (by simp)).trans (a13)
      have ab4 : w1b.cell? ⟨w.heap.size, 4, none⟩ = some (.int .i64 p.core.count) := (d1b.cell (p := ⟨w.heap.size, 4, none⟩) t1b (by simp)).trans (a14)
      have ab5 : w1b.cell? ⟨w.heap.size, 5, none⟩ = some (.slice A5 p.layers.length cap5) := (d1b.cell (p := ⟨w.heap.size, 5, none⟩) t1b (by simp)).trans (a15)
      go_wp2_with fail
      refine (IP.out _ (E1.trans0 d1b)).mono ?_
      rintro e w2 ⟨rfl, c2⟩
      have d12 : Chg [] w1 w2 := d1b.trans0 c2
      have a20 : w2.cell? ⟨w.heap.size, 0, none⟩ = some (.string p.core.kind) := (d12.cell (p := ⟨w.heap.size, 0, none⟩) t1b (by simp)).trans (a10)
      have a21 : w2.cell? ⟨w.heap.size, 1, none⟩ = some (.bool p.core.on) := (d12.cell (p := ⟨w.heap.size, 1, none⟩) t1b (by simp)).trans (a11)
      have a22 : w2.cell? ⟨w.heap.size, 2, none⟩ = some (.bool p.core.broken) := (d12.cell (p := ⟨w.heap.size, 2, none⟩) t1b (by simp)).trans (a12)
      have a23 : w2.cell? ⟨w.heap.size, 3, none⟩ = some (.slice A3 p.core.cells.length cap3) := (d12.cell (p := ⟨w.heap.size, 3, none⟩) t1b (by simp)).trans (a13)
      have a24 : w2.cell? ⟨w.heap.size, 4, none⟩ = some (.int .i64 p.core.count) := (d12.cell (p := ⟨w.heap.size, 4, none⟩) t1b (by simp)).trans (a14)
      have a25 : w2.cell? ⟨w.heap.size, 5, none⟩ = some (.slice A5 p.layers.length cap5) := (d12.cell (p := ⟨w.heap.size, 5, none⟩) t1b (by simp)).trans (a15)
      have b20 : w2.cell? ⟨w.heap.size + 1, 0, none⟩ = some (.string ⟨#[]⟩) := (d12.cell (p := ⟨w.heap.size + 1, 0, none⟩) t1a (by simp)).trans (b10)
      have b21 : w2.cell? ⟨w.heap.size + 1, 1, none⟩ = some (.bool false) := (d12.cell (p := ⟨w.heap.size + 1, 1, none⟩) t1a (by simp)).trans (b11)
      have b22 : w2.cell? ⟨w.heap.size + 1, 2, none⟩ = some (.bool false) := (d12.cell (p := ⟨w.heap.size + 1, 2, none⟩) t1a (by simp)).trans (b12)
      have b23 : w2.cell? ⟨w.heap.size + 1, 3, none⟩ = some (.slice none 0 0) := (d12.cell (p := ⟨w.heap.size + 1, 3, none⟩) t1a (by simp)).trans (b13)
      have b24 : w2.cell? ⟨w.heap.size + 1, 4, none⟩ = some (.int .i64 0) := (d12.cell (p := ⟨w.heap.size + 1, 4, none⟩) t1a (by simp)).trans (b14)
      have b25 : w2.cell? ⟨w.heap.size + 1, 5, none⟩ = some (.slice none 0 0) := (d12.cell (p := ⟨w.heap.size + 1, 5, none⟩) t1a (by simp)).trans (b15)
      have b2f0 : w2.frozen? ⟨w.heap.size + 1, 0, none⟩ = false := (d12.frozen (p := ⟨w.heap.size + 1, 0, none⟩) t1a (by simp)).trans (b1f0)
      have b2f1 : w2.frozen? ⟨w.heap.size + 1, 1, none⟩ = false := (d12.frozen (p := ⟨w.heap.size + 1, 1, none⟩) t1a (by simp)).trans (b1f1)
      have b2f2 : w2.frozen? ⟨w.heap.size + 1, 2, none⟩ = false := (d12.frozen (p := ⟨w.heap.size + 1, 2, none⟩) t1a (by simp)).trans (b1f2)
      have b2f3 : w2.frozen? ⟨w.heap.size + 1, 3, none⟩ = false := (d12.frozen (p := ⟨w.heap.size + 1, 3, none⟩) t1a (by simp)).trans (b1f3)
      have b2f4 : w2.frozen? ⟨w.heap.size + 1, 4, none⟩ = false := (d12.frozen (p := ⟨w.heap.size + 1, 4, none⟩) t1a (by simp)).trans (b1f4)
      have b2f5 : w2.frozen? ⟨w.heap.size + 1, 5, none⟩ = false := (d12.frozen (p := ⟨w.heap.size + 1, 5, none⟩) t1a (by simp)).trans (b1f5)
      have c20 : w2.cell? ⟨w.heap.size + 1 + 1, 0, none⟩ = some (.int .i64 0) := (d12.cell (p := ⟨w.heap.size + 1 + 1, 0, none⟩) t1 (by simp)).trans (c10)
      have c21 : w2.cell? ⟨w.heap.size + 1 + 1, 1, none⟩ = some (.int .i64 0) := (d12.cell (p := ⟨w.heap.size + 1 + 1, 1, none⟩) t1 (by simp)).trans (c11)
      have c22 : w2.cell? ⟨w.heap.size + 1 + 1, 2, none⟩ = some (.string ⟨#[]⟩) := (d12.cell (p := ⟨w.heap.size + 1 + 1, 2, none⟩) t1 (by simp)).trans (c12)
      have c23 : w2.cell? ⟨w.heap.size + 1 + 1, 3, none⟩ = some (.int .i64 0) := (d12.cell (p := ⟨w.heap.size + 1 + 1, 3, none⟩) t1 (by simp)).trans (c13)
      have c24 : w2.cell? ⟨w.heap.size + 1 + 1, 4, none⟩ = some (.int .i64 0) := (d12.cell (p := ⟨w.heap.size + 1 + 1, 4, none⟩) t1 (by simp)).trans (c14)
      have c2f0 : w2.frozen? ⟨w.heap.size + 1 + 1, 0, none⟩ = false := (d12.frozen (p := ⟨w.heap.size + 1 + 1, 0, none⟩) t1 (by simp)).trans (c1f0)
      have c2f1 : w2.frozen? ⟨w.heap.size + 1 + 1, 1, none⟩ = false := (d12.frozen (p := ⟨w.heap.size + 1 + 1, 1, none⟩) t1 (by simp)).trans (c1f1)
      have c2f2 : w2.frozen? ⟨w.heap.size + 1 + 1, 2, none⟩ = false := (d12.frozen (p := ⟨w.heap.size + 1 + 1, 2, none⟩) t1 (by simp)).trans (c1f2)
      have c2f3 : w2.frozen? ⟨w.heap.size + 1 + 1, 3, none⟩ = false := (d12.frozen (p := ⟨w.heap.size + 1 + 1, 3, none⟩) t1 (by simp)).trans (c1f3)
      have c2f4 : w2.frozen? ⟨w.heap.size + 1 + 1, 4, none⟩ = false := (d12.frozen (p := ⟨w.heap.size + 1 + 1, 4, none⟩) t1 (by simp)).trans (c1f4)
      have d20 : w2.cell? ⟨w1.heap.size, 0, none⟩ = some (.string p.core.kind) := ((c1b.trans0 c2).cell (p := ⟨w1.heap.size, 0, none⟩) (by simp) (by simp)).trans (by go_simp)
      have d21 : w2.cell? ⟨w1.heap.size, 1, none⟩ = some (.bool p.core.on) := ((c1b.trans0 c2).cell (p := ⟨w1.heap.size, 1, none⟩) (by simp) (by simp)).trans (by go_simp)
      have d22 : w2.cell? ⟨w1.heap.size, 2, none⟩ = some (.bool p.core.broken) := ((c1b.trans0 c2).cell (p := ⟨w1.heap.size, 2, none⟩) (by simp) (by simp)).trans (by go_simp)
      have d23 : w2.cell? ⟨w1.heap.size, 3, none⟩ = some (.slice A4 p.core.cells.length cap4) := ((c1b.trans0 c2).cell (p := ⟨w1.heap.size, 3, none⟩) (by simp) (by simp)).trans (by go_simp)
      have d24 : w2.cell? ⟨w1.heap.size, 4, none⟩ = some (.int .i64 p.core.count) := ((c1b.trans0 c2).cell (p := ⟨w1.heap.size, 4, none⟩) (by simp) (by simp)).trans (by go_simp)
      have d25 : w2.cell? ⟨w1.heap.size, 5, none⟩ = some (.slice A6 p.layers.length cap6) := ((c1b.trans0 c2).cell (p := ⟨w1.heap.size, 5, none⟩) (by simp) (by simp)).trans (by go_simp)
      have d2f0 : w2.frozen? ⟨w1.heap.size, 0, none⟩ = false := ((c1b.trans0 c2).frozen (p := ⟨w1.heap.size, 0, none⟩) (by simp) (by simp)).trans (by go_simp)
      have d2f1 : w2.frozen? ⟨w1.heap.size, 1, none⟩ = false := ((c1b.trans0 c2).frozen (p := ⟨w1.heap.size, 1, none⟩) (by simp) (by simp)).trans (by go_simp)
      have d2f2 : w2.frozen? ⟨w1.heap.size, 2, none⟩ = false := ((c1b.trans0 c2).frozen (p := ⟨w1.heap.size, 2, none⟩) (by simp) (by simp)).trans (by go_simp)
      have d2f3 : w2.frozen? ⟨w1.heap.size, 3, none⟩ = false := ((c1b.trans0 c2).frozen (p := ⟨w1.heap.size, 3, none⟩) (by simp) (by simp)).trans (by go_simp)
      have d2f4 : w2.frozen? ⟨w1.heap.size, 4, none⟩ = false := ((c1b.trans0 c2).frozen (p := ⟨w1.heap.size, 4, none⟩) (by simp) (by simp)).trans (by go_simp)
      have d2f5 : w2.frozen? ⟨w1.heap.size, 5, none⟩ = false := ((c1b.trans0 c2).frozen (p := ⟨w1.heap.size, 5, none⟩) (by simp) (by simp)).trans (by go_simp)
      clear ab0 ab1 ab2 ab3 ab4 ab5
      have t2 : w1.heap.size < w2.heap.size := by have := (c1b.trans0 c2).size; simp at this; omega
      have t2a : w.heap.size < w2.heap.size := by omega
      have t2b : w.heap.size + 1 < w2.heap.size := by omega
      have t2c : w.heap.size + 1 + 1 < w2.heap.size := by omega
      have E2 : Chg [] w w2 := E1.trans0 d12
      clear c2 c1b
      clear a10 a11 a12 a13 a14 a15 b10 b1f0 b11 b1f1 b12 b1f2 b13 b1f3 b14 b1f4 b15 b1f5 c10 c1f0 c11 c1f1 c12 c1f2 c13 c1f3 c14 c1f4
      go_wp2_with fail
      refine bodyPost_ret (v := .tuple #[.agg #[.string p.core.kind, .bool p.core.on, .bool p.core.broken, .slice A4 p.core.cells.length cap4, .int .i64 p.core.count, .slice A6 p.layers.length cap6], .agg #[.int .i64 7, .int .i64 0, .string ⟨#[]⟩, .int .i64 0, .int .i64 0]]) (by simp only [results, Tryd.results46]; go_simp) rfl ?_
      rw [wrapOf_none hx]
      refine ⟨A4, cap4, _, _, rfl, ?_⟩
      exact PartNew.ends (w := w) (wb := (((w.alloc (.cells #[.string p.core.kind, .bool p.core.on, .bool p.core.broken, .slice A3 p.core.cells.length cap3, .int .i64 p.core.count, .slice A5 p.layers.length cap5] 62)).alloc (.cells #[.string ⟨#[]⟩, .bool false, .bool false, .slice none 0 0, .int .i64 0, .slice none 0 0] 62)).alloc (.cells #[.int .i64 0, .int .i64 0, .string ⟨#[]⟩, .int .i64 0, .int .i64 0] 69))) (g1 := w.heap.size + 1) (g2 := w.heap.size + 1 + 1) n1 (by repeat (first | with_reducible exact Chg.refl _ _ | with_reducible refine Chg.drew ?_ | with_reducible refine Chg.alloc ?_ _)) d12 (by omega) (by omega) (by simp <;> omega) (by simp <;> omega) (by repeat (first | with_reducible exact Chg.refl _ _ | with_reducible refine Chg.drew ?_ | with_reducible refine Chg.alloc ?_ _ | with_reducible refine Chg.setCell ?_ (.inl (by simp)) _))
    · have IP := Lib.hid (fun W (hW : Chg [] w W) => (ip W hW).mono (BoolPost.neg n1p))
      clear ip r3 r5 hs
      go_enter Tryd.func46, Tryd.ntmps46
      go_wp2_with fail
      refine (CP.out _ ?_).mono ?_
      · repeat (first | with_reducible exact Chg.refl _ _ | with_reducible refine Chg.drew ?_ | with_reducible refine Chg.alloc ?_ _)
      rintro e w1 ⟨A4, cap4, A6, cap6, rfl, n1⟩
      have e1 : Chg [] (((w.alloc (.cells #[.string p.core.kind, .bool p.core.on, .bool p.core.broken, .slice A3 p.core.cells.length cap3, .int .i64 p.core.count, .slice A5 p.layers.length cap5] 62)).alloc (.cells #[.string ⟨#[]⟩, .bool false, .bool false, .slice none 0 0, .int .i64 0, .slice none 0 0] 62)).alloc (.cells #[.int .i64 0, .int .i64 0, .string ⟨#[]⟩, .int .i64 0, .int .i64 0] 69)) w1 := n1.2.chg
      have t1 : w.heap.size + 1 + 1 < w1.heap.size := by have := e1.size; simp at this; omega
      have t1a : w.heap.size + 1 < w1.heap.size := by omega
      have t1b : w.heap.size < w1.heap.size := by omega
      have tr : w1.heap.size < w1.heap.size + 1 := Nat.lt_succ_self _
      have E1 : Chg [] w w1 := Chg.trans0 (by repeat (first | with_reducible exact Chg.refl _ _ | with_reducible refine Chg.drew ?_ | with_reducible refine Chg.alloc ?_ _)) e1
      have a10 : w1.cell? ⟨w.heap.size, 0, none⟩ = some (.string p.core.kind) := (e1.cell (p := ⟨w.heap.size, 0, none⟩) (by simp <;> omega) (by simp)).trans (by go_simp)
      have a11 : w1.cell? ⟨w.heap.size, 1, none⟩ = some (.bool p.core.on) := (e1.cell (p := ⟨w.heap.size, 1, none⟩) (by simp <;> omega) (by simp)).trans (by go_simp)
      have a12 : w1.cell? ⟨w.heap.size, 2, none⟩ = some (.bool p.core.broken) := (e1.cell (p := ⟨w.heap.size, 2, none⟩) (by simp <;> omega) (by simp)).trans (by go_simp)
      have a13 : w1.cell? ⟨w.heap.size, 3, none⟩ = some (.slice A3 p.core.cells.length cap3) := (e1.cell (p := ⟨w.heap.size, 3, none⟩) (by simp <;> omega) (by simp)).trans (by go_simp)
      have a14 : w1.cell? ⟨w.heap.size, 4, none⟩ = some (.int .i64 p.core.count) := (e1.cell (p := ⟨w.heap.size, 4, none⟩) (by simp <;> omega) (by simp)).trans (by go_simp)
      have a15 : w1.cell? ⟨w.heap.size, 5, none⟩ = some (.slice A5 p.layers.length cap5) := (e1.cell (p := ⟨w.heap.size, 5, none⟩) (by simp <;> omega) (by simp)).trans (by go_simp)
      have b10 : w1.cell? ⟨w.heap.size + 1, 0, none⟩ = some (.string ⟨#[]⟩) := (e1.cell (p := ⟨w.heap.size + 1, 0, none⟩) (by simp <;> omega) (by simp)).trans (by go_simp)
      have b11 : w1.cell? ⟨w.heap.size + 1, 1, none⟩ = some (.bool false) := (e1.cell (p := ⟨w.heap.size + 1, 1, none⟩) (by simp <;> omega) (by simp)).trans (by go_simp)
      have b12 : w1.cell? ⟨w.heap.size + 1, 2, none⟩ = some (.bool false) := (e1.cell (p := ⟨w.heap.size + 1, 2, none⟩) (by simp <;> omega) (by simp)).trans (by go_simp)
      have b13 : w1.cell? ⟨w.heap.size + 1, 3, none⟩ = some (.slice none 0 0) := (e1.cell (p := ⟨w.heap.size + 1, 3, none⟩) (by simp <;> omega) (by simp)).trans (by go_simp)
      have b14 : w1.cell? ⟨w.heap.size + 1, 4, none⟩ = some (.int .i64 0) := (e1.cell (p := ⟨w.heap.size + 1, 4, none⟩) (by simp <;> omega) (by simp)).trans (by go_simp)
      have b15 : w1.cell? ⟨w.heap.size + 1, 5, none⟩ = some (.slice none 0 0) := (e1.cell (p := ⟨w.heap.size + 1, 5, none⟩) (by simp <;> omega) (by simp)).trans (by go_simp)
      have b1f0 : w1.frozen? ⟨w.heap.size + 1, 0, none⟩ = false := (e1.frozen (p := ⟨w.heap.size + 1, 0, none⟩) (by simp <;> omega) (by simp)).trans (by go_simp)
      have b1f1 : w1.frozen? ⟨w.heap.size + 1, 1, none⟩ = false := (e1.frozen (p := ⟨w.heap.size + 1, 1, none⟩) (by simp <;> omega) (by simp)).trans (by go_simp)
      have b1f2 : w1.frozen? ⟨w.heap.size + 1, 2, none⟩ = false := (e1.frozen (p := ⟨w.heap.size + 1, 2, none⟩) (by simp <;> omega) (by simp)).trans (by go_simp)
      have b1f3 : w1.frozen? ⟨w.heap.size + 1, 3, none⟩ = false := (e1.frozen (p := ⟨w.heap.size + 1, 3, none⟩) (by simp <;> omega) (by simp)).trans (by go_simp)
      have b1f4 : w1.frozen? ⟨w.heap.size + 1, 4, none⟩ = false := (e1.frozen (p := ⟨w.heap.size + 1, 4, none⟩) (by simp <;> omega) (by simp)).trans (by go_simp)
      have b1f5 : w1.frozen? ⟨w.heap.size + 1, 5, none⟩ = false := (e1.frozen (p := ⟨w.heap.size + 1, 5, none⟩) (by simp <;> omega) (by simp)).trans (by go_simp)
      have c10 : w1.cell? ⟨w.heap.size + 1 + 1, 0, none⟩ = some (.int .i64 0) := (e1.cell (p := ⟨w.heap.size + 1 + 1, 0, none⟩) (by simp <;> omega) (by simp)).trans (by go_simp)
      have c11 : w1.cell? ⟨w.heap.size + 1 + 1, 1, none⟩ = some (.int .i64 0) := (e1.cell (p := ⟨w.heap.size + 1 + 1, 1, none⟩) (by simp <;> omega) (by simp)).trans (by go_simp)
      have c12 : w1.cell? ⟨w.heap.size + 1 + 1, 2, none⟩ = some (.string ⟨#[]⟩) := (e1.cell (p := ⟨w.heap.size + 1 + 1, 2, none⟩) (by simp <;> omega) (by simp)).trans (by go_simp)
      have c13 : w1.cell? ⟨w.heap.size + 1 + 1, 3, none⟩ = some (.int .i64 0) := (e1.cell (p := ⟨w.heap.size + 1 + 1, 3, none⟩) (by simp <;> omega) (by simp)).trans (by go_simp)
      have c14 : w1.cell? ⟨w.heap.size + 1 + 1, 4, none⟩ = some (.int .i64 0) := (e1.cell (p := ⟨w.heap.size + 1 + 1, 4, none⟩) (by simp <;> omega) (by simp)).trans (by go_simp)
      have c1f0 : w1.frozen? ⟨w.heap.size + 1 + 1, 0, none⟩ = false := (e1.frozen (p := ⟨w.heap.size + 1 + 1, 0, none⟩) (by simp <;> omega) (by simp)).trans (by go_simp)
      have c1f1 : w1.frozen? ⟨w.heap.size + 1 + 1, 1, none⟩ = false := (e1.frozen (p := ⟨w.heap.size + 1 + 1, 1, none⟩) (by simp <;> omega) (by simp)).trans (by go_simp)
      have c1f2 : w1.frozen? ⟨w.heap.size + 1 + 1, 2, none⟩ = false := (e1.frozen (p := ⟨w.heap.size + 1 + 1, 2, none⟩) (by simp <;> omega) (by simp)).trans (by go_simp)
      have c1f3 : w1.frozen? ⟨w.heap.size + 1 + 1, 3, none⟩ = false := (e1.frozen (p := ⟨w.heap.size + 1 + 1, 3, none⟩) (by simp <;> omega) (by simp)).trans (by go_simp)
      have c1f4 : w1.frozen? ⟨w.heap.size + 1 + 1, 4, none⟩ = false := (e1.frozen (p := ⟨w.heap.size + 1 + 1, 4, none⟩) (by simp <;> omega) (by simp)).trans (by go_simp)
      clear e1
      go_wp2_with fail
      refine (LF.out _).mono ?_
      rintro e w1b ⟨rfl, c1b⟩
      have d1b : Chg [] w1 w1b := ((Chg.refl [] w1).alloc _).trans0 c1b
      have ab0 : w1b.cell? ⟨w.heap.size, 0, none⟩ = some (.string p.core.kind) := (d1b.cell (p := ⟨w.heap.size, 0, none⟩) t1b (by simp)).trans (a10)
      have ab1 : w1b.cell? ⟨w.heap.size, 1, none⟩ = some (.bool p.core.on) := (d1b.cell (p := ⟨w.heap.size, 1, none⟩) t1b (by simp)).trans (a11)
      have ab2 : w1b.cell? ⟨w.heap.size, 2, none⟩ = some (.bool p.core.broken) := (d1b.cell (p := ⟨w.heap.size, 2, none⟩) t1b (by simp)).trans (a12)
      have ab3 : w1b.cell? ⟨w.heap.size, 3, none⟩ = some (.slice A3 p.core.cells.length cap3) := (d1b.cell (p := ⟨w.heap.size, 3, none⟩) t1b (by simp)).trans (a13)
      have ab4 : w1b.cell? ⟨w.heap.size, 4, none⟩ = some (.int .i64 p.core.count) := (d1b.cell (p := ⟨w.heap.size, 4, none⟩) t1b (by simp)).trans (a14)
      have ab5 : w1b.cell? ⟨w.heap.size, 5, none⟩ = some (.slice A5 p.layers.length cap5) := (d1b.cell (p := ⟨w.heap.size, 5, none⟩) t1b (by simp)).trans (a15)
      go_wp2_with fail
      refine (IP.out _ (E1.trans0 d1b)).mono ?_
      rintro e w2 ⟨rfl, c2⟩
      have d12 : Chg [] w1 w2 := d1b.trans0 c2
      have a20 : w2.cell? ⟨w.heap.size, 0, none⟩ = some (.string p.core.kind) := (d12.cell (p := ⟨w.heap.size, 0, none⟩) t1b (by simp)).trans (a10)
      have a21 : w2.cell? ⟨w.heap.size, 1, none⟩ = some (.bool p.core.on) := (d12.cell (p := ⟨w.heap.size, 1, none⟩) t1b (by simp)).trans (a11)
      have a22 : w2.cell? ⟨w.heap.size, 2, none⟩ = some (.bool p.core.broken) := (d12.cell (p := ⟨w.heap.size, 2, none⟩) t1b (by simp)).trans (a12)
      have a23 : w2.cell? ⟨w.heap.size, 3, none⟩ = some (.slice A3 p.core.cells.length cap3) := (d12.cell (p := ⟨w.heap.size, 3, none⟩) t1b (by simp)).trans (a13)
      have a24 : w2.cell? ⟨w.heap.size, 4, none⟩ = some (.int .i64 p.core.count) := (d12.cell (p := ⟨w.heap.size, 4, none⟩) t1b (by simp)).trans (a14)
      have a25 : w2.cell? ⟨w.heap.size, 5, none⟩ = some (.slice A5 p.layers.length cap5) := (d12.cell (p := ⟨w.heap.size, 5, none⟩) t1b (by simp)).trans (a15)
      have b20 : w2.cell? ⟨w.heap.size + 1, 0, none⟩ = some (.string ⟨#[]⟩) := (d12.cell (p := ⟨w.heap.size + 1, 0, none⟩) t1a (by simp)).trans (b10)
      have b21 : w2.cell? ⟨w.heap.size + 1, 1, none⟩ = some (.bool false) := (d12.cell (p := ⟨w.heap.size + 1, 1, none⟩) t1a (by simp)).trans (b11)
      have b22 : w2.cell? ⟨w.heap.size + 1, 2, none⟩ = some (.bool false) := (d12.cell (p := ⟨w.heap.size + 1, 2, none⟩) t1a (by simp)).trans (b12)
      have b23 : w2.cell? ⟨w.heap.size + 1, 3, none⟩ = some (.slice none 0 0) := (d12.cell (p := ⟨w.heap.size + 1, 3, none⟩) t1a (by simp)).trans (b13)
      have b24 : w2.cell? ⟨w.heap.size + 1, 4, none⟩ = some (.int .i64 0) := (d12.cell (p := ⟨w.heap.size + 1, 4, none⟩) t1a (by simp)).trans (b14)
      have b25 : w2.cell? ⟨w.heap.size + 1, 5, none⟩ = some (.slice none 0 0) := (d12.cell (p := ⟨w.heap.size + 1, 5, none⟩) t1a (by simp)).trans (b15)
      have b2f0 : w2.frozen? ⟨w.heap.size + 1, 0, none⟩ = false := (d12.frozen (p := ⟨w.heap.size + 1, 0, none⟩) t1a (by simp)).trans (b1f0)
      have b2f1 : w2.frozen? ⟨w.heap.size + 1, 1, none⟩ = false := (d12.frozen (p := ⟨w.heap.size + 1, 1, none⟩) t1a (by simp)).trans (b1f1)
      have b2f2 : w2.frozen? ⟨w.heap.size + 1, 2, none⟩ = false := (d12.frozen (p := ⟨w.heap.size + 1, 2, none⟩) t1a (by simp)).trans (b1f2)
      have b2f3 : w2.frozen? ⟨w.heap.size + 1, 3, none⟩ = false := (d12.frozen (p := ⟨w.heap.size + 1, 3, none⟩) t1a (by simp)).trans (b1f3)
      have b2f4 : w2.frozen? ⟨w.heap.size + 1, 4, none⟩ = false := (d12.frozen (p := ⟨w.heap.size + 1, 4, none⟩) t1a (by simp)).trans (b1f4)
      have b2f5 : w2.frozen? ⟨w.heap.size + 1, 5, none⟩ = false := (d12.frozen (p := ⟨w.heap.size + 1, 5, none⟩) t1a (by simp)).trans (b1f5)
      have c20 : w2.cell? ⟨w.heap.size + 1 + 1, 0, none⟩ = some (.int .i64 0) := (d12.cell (p := ⟨w.heap.size + 1 + 1, 0, none⟩) t1 (by simp)).trans (c10)
      have c21 : w2.cell? ⟨w.heap.size + 1 + 1, 1, none⟩ = some (.int .i64 0) := (d12.cell (p := ⟨w.heap.size + 1 + 1, 1, none⟩) t1 (by simp)).trans (c11)
      have c22 : w2.cell? ⟨w.heap.size + 1 + 1, 2, none⟩ = some (.string ⟨#[]⟩) := (d12.cell (p := ⟨w.heap.size + 1 + 1, 2, none⟩) t1 (by simp)).trans (c12)
      have c23 : w2.cell? ⟨w.heap.size + 1 + 1, 3, none⟩ = some (.int .i64 0) := (d12.cell (p := ⟨w.heap.size + 1 + 1, 3, none⟩) t1 (by simp)).trans (c13)
      have c24 : w2.cell? ⟨w.heap.size + 1 + 1, 4, none⟩ = some (.int .i64 0) := (d12.cell (p := ⟨w.heap.size + 1 + 1, 4, none⟩) t1 (by simp)).trans (c14)
      have c2f0 : w2.frozen? ⟨w.heap.size + 1 + 1, 0, none⟩ = false := (d12.frozen (p := ⟨w.heap.size + 1 + 1, 0, none⟩) t1 (by simp)).trans (c1f0)
      have c2f1 : w2.frozen? ⟨w.heap.size + 1 + 1, 1, none⟩ = false := (d12.frozen (p := ⟨w.heap.size + 1 + 1, 1, none⟩) t1 (by simp)).trans (c1f1)
      have c2f2 : w2.frozen? ⟨w.heap.size + 1 + 1, 2, none⟩ = false := (d12.frozen (p := ⟨w.heap.size + 1 + 1, 2, none⟩) t1 (by simp)).trans (c1f2)
      have c2f3 : w2.frozen? ⟨w.heap.size + 1 + 1, 3, none⟩ = false := (d12.frozen (p := ⟨w.heap.size + 1 + 1, 3, none⟩) t1 (by simp)).trans (c1f3)
      have c2f4 : w2.frozen? ⟨w.heap.size + 1 + 1, 4, none⟩ = false := (d12.frozen (p := ⟨w.heap.size + 1 + 1, 4, none⟩) t1 (by simp)).trans (c1f4)
      have d20 : w2.cell? ⟨w1.heap.size, 0, none⟩ = some (.string p.core.kind) := ((c1b.trans0 c2).cell (p := ⟨w1.heap.size, 0, none⟩) (by simp) (by simp)).trans (by go_simp)
      have d21 : w2.cell? ⟨w1.heap.size, 1, none⟩ = some (.bool p.core.on) := ((c1b.trans0 c2).cell (p := ⟨w1.heap.size, 1, none⟩) (by simp) (by simp)).trans (by go_simp)
      have d22 : w2.cell? ⟨w1.heap.size, 2, none⟩ = some (.bool p.core.broken) := ((c1b.trans0 c2).cell (p := ⟨w1.heap.size, 2, none⟩) (by simp) (by simp)).trans (by go_simp)
      have d23 : w2.cell? ⟨w1.heap.size, 3, none⟩ = some (.slice A4 p.core.cells.length cap4) := ((c1b.trans0 c2).cell (p := ⟨w1.heap.size, 3, none⟩) (by simp) (by simp)).trans (by go_simp)
      have d24 : w2.cell? ⟨w1.heap.size, 4, none⟩ = some (.int .i64 p.core.count) := ((c1b.trans0 c2).cell (p := ⟨w1.heap.size, 4, none⟩) (by simp) (by simp)).trans (by go_simp)
      have d25 : w2.cell? ⟨w1.heap.size, 5, none⟩ = some (.slice A6 p.layers.length cap6) := ((c1b.trans0 c2).cell (p := ⟨w1.heap.size, 5, none⟩) (by simp) (by simp)).trans (by go_simp)
      have d2f0 : w2.frozen? ⟨w1.heap.size, 0, none⟩ = false := ((c1b.trans0 c2).frozen (p := ⟨w1.heap.size, 0, none⟩) (by simp) (by simp)).trans (by go_simp)
      have d2f1 : w2.frozen? ⟨w1.heap.size, 1, none⟩ = false := ((c1b.trans0 c2).frozen (p := ⟨w1.heap.size, 1, none⟩) (by simp) (by simp)).trans (by go_simp)
      have d2f2 : w2.frozen? ⟨w1.heap.size, 2, none⟩ = false := ((c1b.trans0 c2).frozen (p := ⟨w1.heap.size, 2, none⟩) (by simp) (by simp)).trans (by go_simp)
      have d2f3 : w2.frozen? ⟨w1.heap.size, 3, none⟩ = false := ((c1b.trans0 c2).frozen (p := ⟨w1.heap.size, 3, none⟩) (by simp) (by simp)).trans (by go_simp)
      have d2f4 : w2.frozen? ⟨w1.heap.size, 4, none⟩ = false := ((c1b.trans0 c2).frozen (p := ⟨w1.heap.size, 4, none⟩) (by simp) (by simp)).trans (by go_simp)
      have d2f5 : w2.frozen? ⟨w1.heap.size, 5, none⟩ = false := ((c1b.trans0 c2).frozen (p := ⟨w1.heap.size, 5, none⟩) (by simp) (by simp)).trans (by go_simp)
      clear ab0 ab1 ab2 ab3 ab4 ab5
      have t2 : w1.heap.size < w2.heap.size := by have := (c1b.trans0 c2).size; simp at this; omega
      have t2a : w.heap.size < w2.heap.size := by omega
      have t2b : w.heap.size + 1 < w2.heap.size := by omega
      have t2c : w.heap.size + 1 + 1 < w2.heap.size := by omega
      have E2 : Chg [] w w2 := E1.trans0 d12
      clear c2 c1b
      clear a10 a11 a12 a13 a14 a15 b10 b1f0 b11 b1f1 b12 b1f2 b13 b1f3 b14 b1f4 b15 b1f5 c10 c1f0 c11 c1f1 c12 c1f2 c13 c1f3 c14 c1f4
      go_wp2_with fail
      refine bodyPost_ret (v := .tuple #[.agg #[.string p.core.kind, .bool p.core.on, .bool p.core.broken, .slice A4 p.core.cells.length cap4, .int .i64 p.core.count, .slice A6 p.layers.length cap6], .agg #[.int .i64 7, .int .i64 0, .string ⟨#[]⟩, .int .i64 0, .int .i64 0]]) (by simp only [results, Tryd.results46]; go_simp) rfl ?_
      rw [wrapOf_none hx]
      refine ⟨A4, cap4, _, _, rfl, ?_⟩
      exact PartNew.ends (w := w) (wb := (((w.alloc (.cells #[.string p.core.kind, .bool p.core.on, .bool p.core.broken, .slice A3 p.core.cells.length cap3, .int .i64 p.core.count, .slice A5 p.layers.length cap5] 62)).alloc (.cells #[.string ⟨#[]⟩, .bool false, .bool false, .slice none 0 0, .int .i64 0, .slice none 0 0] 62)).alloc (.cells #[.int .i64 0, .int .i64 0, .string ⟨#[]⟩, .int .i64 0, .int .i64 0] 69))) (g1 := w.heap.size + 1) (g2 := w.heap.size + 1 + 1) n1 (by repeat (first | with_reducible exact Chg.refl _ _ | with_reducible refine Chg.drew ?_ | with_reducible refine Chg.alloc ?_ _)) d12 (by omega) (by omega) (by simp <;> omega) (by simp <;> omega) (by repeat (first | with_reducible exact Chg.refl _ _ | with_reducible refine Chg.drew ?_ | with_reducible refine Chg.alloc ?_ _ | with_reducible refine Chg.setCell ?_ (.inl (by simp)) _))
  | some x =>
    have LF := Lib.hid (fun W => (l4Row_any name W).mono (Opt2Post.some_ hx))
    by_cases n1p : PartOk p
    · have IP := Lib.hid (fun W (hW : Chg [] w W) => (ip W hW).mono (BoolPost.pos n1p))
      clear ip r3 r5 hs
      have n5 : p.layers.length ≤ 3 := n1p.2.1
      by_cases n3 : 3 ≤ p.layers.length
      · have i3 : (p.layers.length : Int) = 3 := by omega
        go_enter Tryd.func46, Tryd.ntmps46
        go_wp2_with fail
        refine (CP.out _ ?_).mono ?_
        · repeat (first | with_reducible exact Chg.refl _ _ | with_reducible refine Chg.drew ?_ | with_reducible refine Chg.alloc ?_ _)
        rintro e w1 ⟨A4, cap4, A6, cap6, rfl, n1⟩
        have e1 : Chg [] (((w.alloc (.cells #[.string p.core.kind, .bool p.core.on, .bool p.core.broken, .slice A3 p.core.cells.length cap3, .int .i64 p.core.count, .slice A5 p.layers.length cap5] 62)).alloc (.cells #[.string ⟨#[]⟩, .bool false, .bool false, .slice none 0 0, .int .i64 0, .slice none 0 0] 62)).alloc (.cells #[.int .i64 0, .int .i64 0, .string ⟨#[]⟩, .int .i64 0, .int .i64 0] 69)) w1 := n1.2.chg
        have t1 : w.heap.size + 1 + 1 < w1.heap.size := by have := e1.size; simp at this; omega
        have t1a : w.heap.size + 1 < w1.heap.size := by omega
        have t1b : w.heap.size < w1.heap.size := by omega
        have tr : w1.heap.size < w1.heap.size + 1 := Nat.lt_succ_self _
        have E1 : Chg [] w w1 := Chg.trans0 (by repeat (first | with_reducible exact Chg.refl _ _ | with_reducible refine Chg.drew ?_ | with_reducible refine Chg.alloc ?_ _)) e1
        have a10 : w1.cell? ⟨w.heap.size, 0, none⟩ = some (.string p.core.kind) := (e1.cell (p := ⟨w.heap.size, 0, none⟩) (by simp <;> omega) (by simp)).trans (by go_simp)
        have a11 : w1.cell? ⟨w.heap.size, 1, none⟩ = some (.bool p.core.on) := (e1.cell (p := ⟨w.heap.size, 1, none⟩) (by simp <;> omega) (by simp)).trans (by go_simp)
        have a12 : w1.cell? ⟨w.heap.size, 2, none⟩ = some (.bool p.core.broken) := (e1.cell (p := ⟨w.heap.size, 2, none⟩) (by simp <;> omega) (by simp)).trans (by go_simp)
        have a13 : w1.cell? ⟨w.heap.size, 3, none⟩ = some (.slice A3 p.core.cells.length cap3) := (e1.cell (p := ⟨w.heap.size, 3, none⟩) (by simp <;> omega) (by simp)).trans (by go_simp)
        have a14 : w1.cell? ⟨w.heap.size, 4, none⟩ = some (.int .i64 p.core.count) := (e1.cell (p := ⟨w.heap.size, 4, none⟩) (by simp <;> omega) (by simp)).trans (by go_simp)
        have a15 : w1.cell? ⟨w.heap.size, 5, none⟩ = some (.slice A5 p.layers.length cap5) := (e1.cell (p := ⟨w.heap.size, 5, none⟩) (by simp <;> omega) (by simp)).trans (by go_simp)
        have b10 : w1.cell? ⟨w.heap.size + 1, 0, none⟩ = some (.string ⟨#[]⟩) := (e1.cell (p := ⟨w.heap.size + 1, 0, none⟩) (by simp <;> omega) (by simp)).trans (by go_simp)
        have b11 : w1.cell? ⟨w.heap.size + 1, 1, none⟩ = some (.bool false) := (e1.cell (p := ⟨w.heap.size + 1, 1, none⟩) (by simp <;> omega) (by simp)).trans (by go_simp)
        have b12 : w1.cell? ⟨w.heap.size + 1, 2, none⟩ = some (.bool false) := (e1.cell (p := ⟨w.heap.size + 1, 2, none⟩) (by simp <;> omega) (by simp)).trans (by go_simp)
        have b13 : w1.cell? ⟨w.heap.size + 1, 3, none⟩ = some (.slice none 0 0) := (e1.cell (p := ⟨w.heap.size + 1, 3, none⟩) (by simp <;> omega) (by simp)).trans (by go_simp)
        have b14 : w1.cell? ⟨w.heap.size + 1, 4, none⟩ = some (.int .i64 0) := (e1.cell (p := ⟨w.heap.size + 1, 4, none⟩) (by simp <;> omega) (by simp)).trans (by go_simp)
        have b15 : w1.cell? ⟨w.heap.size + 1, 5, none⟩ = some (.slice none 0 0) := (e1.cell (p := ⟨w.heap.size + 1, 5, none⟩) (by simp <;> omega) (by simp)).trans (by go_simp)
        have b1f0 : w1.frozen? ⟨w.heap.size + 1, 0, none⟩ = false := (e1.frozen (p := ⟨w.heap.size + 1, 0, none⟩) (by simp <;> omega) (by simp)).trans (by go_simp)
        have b1f1 : w1.frozen? ⟨w.heap.size + 1, 1, none⟩ = false := (e1.frozen (p := ⟨w.heap.size + 1, 1, none⟩) (by simp <;> omega) (by simp)).trans (by go_simp)
        have b1f2 : w1.frozen? ⟨w.heap.size + 1, 2, none⟩ = false := (e1.frozen (p := ⟨w.heap.size + 1, 2, none⟩) (by simp <;> omega) (by simp)).trans (by go_simp)
        have b1f3 : w1.frozen? ⟨w.heap.size + 1, 3, none⟩ = false := (e1.frozen (p := ⟨w.heap.size + 1, 3, none⟩) (by simp <;> omega) (by simp)).trans (by go_simp)
        have b1f4 : w1.frozen? ⟨w.heap.size + 1, 4, none⟩ = false := (e1.frozen (p := ⟨w.heap.size + 1, 4, none⟩) (by simp <;> omega) (by simp)).trans (by go_simp)
        have b1f5 : w1.frozen? ⟨w.heap.size + 1, 5, none⟩ = false := (e1.frozen (p := ⟨w.heap.size + 1, 5, none⟩) (by simp <;> omega) (by simp)).trans (by go_simp)
        have c10 : w1.cell? ⟨w.heap.size + 1 + 1, 0, none⟩ = some (.int .i64 0) := (e1.cell (p := ⟨w.heap.size + 1 + 1, 0, none⟩) (by simp <;> omega) (by simp)).trans (by go_simp)
        have c11 : w1.cell? ⟨w.heap.size + 1 + 1, 1, none⟩ = some (.int .i64 0) := (e1.cell (p := ⟨w.heap.size + 1 + 1, 1, none⟩) (by simp <;> omega) (by simp)).trans (by go_simp)
        have c12 : w1.cell? ⟨w.heap.size + 1 + 1, 2, none⟩ = some (.string ⟨#[]⟩) := (e1.cell (p := ⟨w.heap.size + 1 + 1, 2, none⟩) (by simp <;> omega) (by simp)).trans (by go_simp)
        have c13 : w1.cell? ⟨w.heap.size + 1 + 1, 3, none⟩ = some (.int .i64 0) := (e1.cell (p := ⟨w.heap.size + 1 + 1, 3, none⟩) (by simp <;> omega) (by simp)).trans (by go_simp)
        have c14 : w1.cell? ⟨w.heap.size + 1 + 1, 4, none⟩ = some (.int .i64 0) := (e1.cell (p := ⟨w.heap.size + 1 + 1, 4, none⟩) (by simp <;> omega) (by simp)).trans (by go_simp)
        have c1f0 : w1.frozen? ⟨w.heap.size + 1 + 1, 0, none⟩ = false := (e1.frozen (p := ⟨w.heap.size + 1 + 1, 0, none⟩) (by simp <;> omega) (by simp)).trans (by go_simp)
        have c1f1 : w1.frozen? ⟨w.heap.size + 1 + 1, 1, none⟩ = false := (e1.frozen (p := ⟨w.heap.size + 1 + 1, 1, none⟩) (by simp <;> omega) (by simp)).trans (by go_simp)
        have c1f2 : w1.frozen? ⟨w.heap.size + 1 + 1, 2, none⟩ = false := (e1.frozen (p := ⟨w.heap.size + 1 + 1, 2, none⟩) (by simp <;> omega) (by simp)).trans (by go_simp)
        have c1f3 : w1.frozen? ⟨w.heap.size + 1 + 1, 3, none⟩ = false := (e1.frozen (p := ⟨w.heap.size + 1 + 1, 3, none⟩) (by simp <;> omega) (by simp)).trans (by go_simp)
        have c1f4 : w1.frozen? ⟨w.heap.size + 1 + 1, 4, none⟩ = false := (e1.frozen (p := ⟨w.heap.size + 1 + 1, 4, none⟩) (by simp <;> omega) (by simp)).trans (by go_simp)
        clear e1
        go_wp2_with fail
        refine (LF.out _).mono ?_
        rintro e w1b ⟨rfl, c1b⟩
        have d1b : Chg [] w1 w1b := ((Chg.refl [] w1).alloc _).trans0 c1b
        have ab0 : w1b.cell? ⟨w.heap.size, 0, none⟩ = some (.string p.core.kind) := (d1b.cell (p := ⟨w.heap.size, 0, none⟩) t1b (by simp)).trans (a10)
        have ab1 : w1b.cell? ⟨w.heap.size, 1, none⟩ = some (.bool p.core.on) := (d1b.cell (p := ⟨w.heap.size, 1, none⟩) t1b (by simp)).trans (a11)
        have ab2 : w1b.cell? ⟨w.heap.size, 2, none⟩ = some (.bool p.core.broken) := (d1b.cell (p := ⟨w.heap.size, 2, none⟩) t1b (by simp)).trans (a12)
        have ab3 : w1b.cell? ⟨w.heap.size, 3, none⟩ = some (.slice A3 p.core.cells.length cap3) := (d1b.cell (p := ⟨w.heap.size, 3, none⟩) t1b (by simp)).trans (a13)
        have ab4 : w1b.cell? ⟨w.heap.size, 4, none⟩ = some (.int .i64 p.core.count) := (d1b.cell (p := ⟨w.heap.size, 4, none⟩) t1b (by simp)).trans (a14)
        have ab5 : w1b.cell? ⟨w.heap.size, 5, none⟩ = some (.slice A5 p.layers.length cap5) := (d1b.cell (p := ⟨w.heap.size, 5, none⟩) t1b (by simp)).trans (a15)
        go_wp2_with fail
        refine (IP.out _ (E1.trans0 d1b)).mono ?_
        rintro e w2 ⟨rfl, c2⟩
        have d12 : Chg [] w1 w2 := d1b.trans0 c2
        have a20 : w2.cell? ⟨w.heap.size, 0, none⟩ = some (.string p.core.kind) := (d12.cell (p := ⟨w.heap.size, 0, none⟩) t1b (by simp)).trans (a10)
        have a21 : w2.cell? ⟨w.heap.size, 1, none⟩ = some (.bool p.core.on) := (d12.cell (p := ⟨w.heap.size, 1, none⟩) t1b (by simp)).trans (a11)
        have a22 : w2.cell? ⟨w.heap.size, 2, none⟩ = some (.bool p.core.broken) := (d12.cell (p := ⟨w.heap.size, 2, none⟩) t1b (by simp)).trans (a12)
        have a23 : w2.cell? ⟨w.heap.size, 3, none⟩ = some (.slice A3 p.core.cells.length cap3) := (d12.cell (p := ⟨w.heap.size, 3, none⟩) t1b (by simp)).trans (a13)
        have a24 : w2.cell? ⟨w.heap.size, 4, none⟩ = some (.int .i64 p.core.count) := (d12.cell (p := ⟨w.heap.size, 4, none⟩) t1b (by simp)).trans (a14)
        have a25 : w2.cell? ⟨w.heap.size, 5, none⟩ = some (.slice A5 p.layers.length cap5) := (d12.cell (p := ⟨w.heap.size, 5, none⟩) t1b (by simp)).trans (a15)
        have b20 : w2.cell? ⟨w.heap.size + 1, 0, none⟩ = some (.string ⟨#[]⟩) := (d12.cell (p := ⟨w.heap.size + 1, 0, none⟩) t1a (by simp)).trans (b10)
        have b21 : w2.cell? ⟨w.heap.size + 1, 1, none⟩ = some (.bool false) := (d12.cell (p := ⟨w.heap.size + 1, 1, none⟩) t1a (by simp)).trans (b11)
        have b22 : w2.cell? ⟨w.heap.size + 1, 2, none⟩ = some (.bool false) := (d12.cell (p := ⟨w.heap.size + 1, 2, none⟩) t1a (by simp)).trans (b12)
        have b23 : w2.cell? ⟨w.heap.size + 1, 3, none⟩ = some (.slice none 0 0) := (d12.cell (p := ⟨w.heap.size + 1, 3, none⟩) t1a (by simp)).trans (b13)
        have b24 : w2.cell? ⟨w.heap.size + 1, 4, none⟩ = some (.int .i64 0) := (d12.cell (p := ⟨w.heap.size + 1, 4, none⟩) t1a (by simp)).trans (b14)
        have b25 : w2.cell? ⟨w.heap.size + 1, 5, none⟩ = some (.slice none 0 0) := (d12.cell (p := ⟨w.heap.size + 1, 5, none⟩) t1a (by simp)).trans (b15)
        have b2f0 : w2.frozen? ⟨w.heap.size + 1, 0, none⟩ = false := (d12.frozen (p := ⟨w.heap.size + 1, 0, none⟩) t1a (by simp)).trans (b1f0)
        have b2f1 : w2.frozen? ⟨w.heap.size + 1, 1, none⟩ = false := (d12.frozen (p := ⟨w.heap.size + 1, 1, none⟩) t1a (by simp)).trans (b1f1)
        have b2f2 : w2.frozen? ⟨w.heap.size + 1, 2, none⟩ = false := (d12.frozen (p := ⟨w.heap.size + 1, 2, none⟩) t1a (by simp)).trans (b1f2)
        have b2f3 : w2.frozen? ⟨w.heap.size + 1, 3, none⟩ = false := (d12.frozen (p := ⟨w.heap.size + 1, 3, none⟩) t1a (by simp)).trans (b1f3)
        have b2f4 : w2.frozen? ⟨w.heap.size + 1, 4, none⟩ = false := (d12.frozen (p := ⟨w.heap.size + 1, 4, none⟩) t1a (by simp)).trans (b1f4)
        have b2f5 : w2.frozen? ⟨w.heap.size + 1, 5, none⟩ = false := (d12.frozen (p := ⟨w.heap.size + 1, 5, none⟩) t1a (by simp)).trans (b1f5)
        have c20 : w2.cell? ⟨w.heap.size + 1 + 1, 0, none⟩ = some (.int .i64 0) := (d12.cell (p := ⟨w.heap.size + 1 + 1, 0, none⟩) t1 (by simp)).trans (c10)
        have c21 : w2.cell? ⟨w.heap.size + 1 + 1, 1, none⟩ = some (.int .i64 0) := (d12.cell (p := ⟨w.heap.size + 1 + 1, 1, none⟩) t1 (by simp)).trans (c11)
        have c22 : w2.cell? ⟨w.heap.size + 1 + 1, 2, none⟩ = some (.string ⟨#[]⟩) := (d12.cell (p := ⟨w.heap.size + 1 + 1, 2, none⟩) t1 (by simp)).trans (c12)
        have c23 : w2.cell? ⟨w.heap.size + 1 + 1, 3, none⟩ = some (.int .i64 0) := (d12.cell (p := ⟨w.heap.size + 1 + 1, 3, none⟩) t1 (by simp)).trans (c13)
        have c24 : w2.cell? ⟨w.heap.size + 1 + 1, 4, none⟩ = some (.int .i64 0) := (d12.cell (p := ⟨w.heap.size + 1 + 1, 4, none⟩) t1 (by simp)).trans (c14)
        have c2f0 : w2.frozen? ⟨w.heap.size + 1 + 1, 0, none⟩ = false := (d12.frozen (p := ⟨w.heap.size + 1 + 1, 0, none⟩) t1 (by simp)).trans (c1f0)
        have c2f1 : w2.frozen? ⟨w.heap.size + 1 + 1, 1, none⟩ = false := (d12.frozen (p := ⟨w.heap.size + 1 + 1, 1, none⟩) t1 (by simp)).trans (c1f1)
        have c2f2 : w2.frozen? ⟨w.heap.size + 1 + 1, 2, none⟩ = false := (d12.frozen (p := ⟨w.heap.size + 1 + 1, 2, none⟩) t1 (by simp)).trans (c1f2)
        have c2f3 : w2.frozen? ⟨w.heap.size + 1 + 1, 3, none⟩ = false := (d12.frozen (p := ⟨w.heap.size + 1 + 1, 3, none⟩) t1 (by simp)).trans (c1f3)
        have c2f4 : w2.frozen? ⟨w.heap.size + 1 + 1, 4, none⟩ = false := (d12.frozen (p := ⟨w.heap.size + 1 + 1, 4, none⟩) t1 (by simp)).trans (c1f4)
        have d20 : w2.cell? ⟨w1.heap.size, 0, none⟩ = some (.string p.core.kind) := ((c1b.trans0 c2).cell (p := ⟨w1.heap.size, 0, none⟩) (by simp) (by simp)).trans (by go_simp)
        have d21 : w2.cell? ⟨w1.heap.size, 1, none⟩ = some (.bool p.core.on) := ((c1b.trans0 c2).cell (p := ⟨w1.heap.size, 1, none⟩) (by simp) (by simp)).trans (by go_simp)
        have d22 : w2.cell? ⟨w1.heap.size, 2, none⟩ = some (.bool p.core.broken) := ((c1b.trans0 c2).cell (p := ⟨w1.heap.size, 2, none⟩) (by simp) (by simp)).trans (by go_simp)
        have d23 : w2.cell? ⟨w1.heap.size, 3, none⟩ = some (.slice A4 p.core.cells.length cap4) := ((c1b.trans0 c2).cell (p := ⟨w1.heap.size, 3, none⟩) (by simp) (by simp)).trans (by go_simp)
        have d24 : w2.cell? ⟨w1.heap.size, 4, none⟩ = some (.int .i64 p.core.count) := ((c1b.trans0 c2).cell (p := ⟨w1.heap.size, 4, none⟩) (by simp) (by simp)).trans (by go_simp)
        have d25 : w2.cell? ⟨w1.heap.size, 5, none⟩ = some (.slice A6 p.layers.length cap6) := ((c1b.trans0 c2).cell (p := ⟨w1.heap.size, 5, none⟩) (by simp) (by simp)).trans (by go_simp)
        have d2f0 : w2.frozen? ⟨w1.heap.size, 0, none⟩ = false := ((c1b.trans0 c2).frozen (p := ⟨w1.heap.size, 0, none⟩) (by simp) (by simp)).trans (by go_simp)
        have d2f1 : w2.frozen? ⟨w1.heap.size, 1, none⟩ = false := ((c1b.trans0 c2).frozen (p := ⟨w1.heap.size, 1, none⟩) (by simp) (by simp)).trans (by go_simp)
        have d2f2 : w2.frozen? ⟨w1.heap.size, 2, none⟩ = false := ((c1b.trans0 c2).frozen (p := ⟨w1.heap.size, 2, none⟩) (by simp) (by simp)).trans (by go_simp)
        have d2f3 : w2.frozen? ⟨w1.heap.size, 3, none⟩ = false := ((c1b.trans0 c2).frozen (p := ⟨w1.heap.size, 3, none⟩) (by simp) (by simp)).trans (by go_simp)
        have d2f4 : w2.frozen? ⟨w1.heap.size, 4, none⟩ = false := ((c1b.trans0 c2).frozen (p := ⟨w1.heap.size, 4, none⟩) (by simp) (by simp)).trans (by go_simp)
        have d2f5 : w2.frozen? ⟨w1.heap.size, 5, none⟩ = false := ((c1b.trans0 c2).frozen (p := ⟨w1.heap.size, 5, none⟩) (by simp) (by simp)).trans (by go_simp)
        clear ab0 ab1 ab2 ab3 ab4 ab5
        have t2 : w1.heap.size < w2.heap.size := by have := (c1b.trans0 c2).size; simp at this; omega
        have t2a : w.heap.size < w2.heap.size := by omega
        have t2b : w.heap.size + 1 < w2.heap.size := by omega
        have t2c : w.heap.size + 1 + 1 < w2.heap.size := by omega
        have E2 : Chg [] w w2 := E1.trans0 d12
        clear c2 c1b
        clear a10 a11 a12 a13 a14 a15 b10 b1f0 b11 b1f1 b12 b1f2 b13 b1f3 b14 b1f4 b15 b1f5 c10 c1f0 c11 c1f1 c12 c1f2 c13 c1f3 c14 c1f4
        go_wp2_with fail
        refine bodyPost_ret (v := .tuple #[.agg #[.string p.core.kind, .bool p.core.on, .bool p.core.broken, .slice A4 p.core.cells.length cap4, .int .i64 p.core.count, .slice A6 p.layers.length cap6], .agg #[.int .i64 5, .int .i64 0, .string ⟨#[]⟩, .int .i64 0, .int .i64 0]]) (by simp only [results, Tryd.results46]; go_simp) rfl ?_
        rw [wrapOf_full hx n1p n3]
        refine ⟨A4, cap4, _, _, rfl, ?_⟩
        exact PartNew.ends (w := w) (wb := (((w.alloc (.cells #[.string p.core.kind, .bool p.core.on, .bool p.core.broken, .slice A3 p.core.cells.length cap3, .int .i64 p.core.count, .slice A5 p.layers.length cap5] 62)).alloc (.cells #[.string ⟨#[]⟩, .bool false, .bool false, .slice none 0 0, .int .i64 0, .slice none 0 0] 62)).alloc (.cells #[.int .i64 0, .int .i64 0, .string ⟨#[]⟩, .int .i64 0, .int .i64 0] 69))) (g1 := w.heap.size + 1) (g2 := w.heap.size + 1 + 1) n1 (by repeat (first | with_reducible exact Chg.refl _ _ | with_reducible refine Chg.drew ?_ | with_reducible refine Chg.alloc ?_ _)) d12 (by omega) (by omega) (by simp <;> omega) (by simp <;> omega) (by repeat (first | with_reducible exact Chg.refl _ _ | with_reducible refine Chg.drew ?_ | with_reducible refine Chg.alloc ?_ _ | with_reducible refine Chg.setCell ?_ (.inl (by simp)) _))
      · have i3 : ((p.layers.length : Int) == 3) = false := by simp; omega
        by_cases n4 : Offer (faceAt p p.layers.length) x.1
        · have OF := Lib.hid (fun W => (offers_spec_any (faceAt p p.layers.length) x.1 W).mono (BoolIs.pos n4))
          go_enter Tryd.func46, Tryd.ntmps46
          go_wp2_with fail
          refine (CP.out _ ?_).mono ?_
          · repeat (first | with_reducible exact Chg.refl _ _ | with_reducible refine Chg.drew ?_ | with_reducible refine Chg.alloc ?_ _)
          rintro e w1 ⟨A4, cap4, A6, cap6, rfl, n1⟩
          have e1 : Chg [] (((w.alloc (.cells #[.string p.core.kind, .bool p.core.on, .bool p.core.broken, .slice A3 p.core.cells.length cap3, .int .i64 p.core.count, .slice A5 p.layers.length cap5] 62)).alloc (.cells #[.string ⟨#[]⟩, .bool false, .bool false, .slice none 0 0, .int .i64 0, .slice none 0 0] 62)).alloc (.cells #[.int .i64 0, .int .i64 0, .string ⟨#[]⟩, .int .i64 0, .int .i64 0] 69)) w1 := n1.2.chg
          have t1 : w.heap.size + 1 + 1 < w1.heap.size := by have := e1.size; simp at this; omega
          have t1a : w.heap.size + 1 < w1.heap.size := by omega
          have t1b : w.heap.size < w1.heap.size := by omega
          have tr : w1.heap.size < w1.heap.size + 1 := Nat.lt_succ_self _
          have E1 : Chg [] w w1 := Chg.trans0 (by repeat (first | with_reducible exact Chg.refl _ _ | with_reducible refine Chg.drew ?_ | with_reducible refine Chg.alloc ?_ _)) e1
          have a10 : w1.cell? ⟨w.heap.size, 0, none⟩ = some (.string p.core.kind) := (e1.cell (p := ⟨w.heap.size, 0, none⟩) (by simp <;> omega) (by simp)).trans (by go_simp)
          have a11 : w1.cell? ⟨w.heap.size, 1, none⟩ = some (.bool p.core.on) := (e1.cell (p := ⟨w.heap.size, 1, none⟩) (by simp <;> omega) (by simp)).trans (by go_simp)
          have a12 : w1.cell? ⟨w.heap.size, 2, none⟩ = some (.bool p.core.broken) := (e1.cell (p := ⟨w.heap.size, 2, none⟩) (by simp <;> omega) (by simp)).trans (by go_simp)
          have a13 : w1.cell? ⟨w.heap.size, 3, none⟩ = some (.slice A3 p.core.cells.length cap3) := (e1.cell (p := ⟨w.heap.size, 3, none⟩) (by simp <;> omega) (by simp)).trans (by go_simp)
          have a14 : w1.cell? ⟨w.heap.size, 4, none⟩ = some (.int .i64 p.core.count) := (e1.cell (p := ⟨w.heap.size, 4, none⟩) (by simp <;> omega) (by simp)).trans (by go_simp)
          have a15 : w1.cell? ⟨w.heap.size, 5, none⟩ = some (.slice A5 p.layers.length cap5) := (e1.cell (p := ⟨w.heap.size, 5, none⟩) (by simp <;> omega) (by simp)).trans (by go_simp)
          have b10 : w1.cell? ⟨w.heap.size + 1, 0, none⟩ = some (.string ⟨#[]⟩) := (e1.cell (p := ⟨w.heap.size + 1, 0, none⟩) (by simp <;> omega) (by simp)).trans (by go_simp)
          have b11 : w1.cell? ⟨w.heap.size + 1, 1, none⟩ = some (.bool false) := (e1.cell (p := ⟨w.heap.size + 1, 1, none⟩) (by simp <;> omega) (by simp)).trans (by go_simp)
          have b12 : w1.cell? ⟨w.heap.size + 1, 2, none⟩ = some (.bool false) := (e1.cell (p := ⟨w.heap.size + 1, 2, none⟩) (by simp <;> omega) (by simp)).trans (by go_simp)
          have b13 : w1.cell? ⟨w.heap.size + 1, 3, none⟩ = some (.slice none 0 0) := (e1.cell (p := ⟨w.heap.size + 1, 3, none⟩) (by simp <;> omega) (by simp)).trans (by go_simp)
          have b14 : w1.cell? ⟨w.heap.size + 1, 4, none⟩ = some (.int .i64 0) := (e1.cell (p := ⟨w.heap.size + 1, 4, none⟩) (by simp <;> omega) (by simp)).trans (by go_simp)
          have b15 : w1.cell? ⟨w.heap.size + 1, 5, none⟩ = some (.slice none 0 0) := (e1.cell (p := ⟨w.heap.size + 1, 5, none⟩) (by simp <;> omega) (by simp)).trans (by go_simp)
          have b1f0 : w1.frozen? ⟨w.heap.size + 1, 0, none⟩ = false := (e1.frozen (p := ⟨w.heap.size + 1, 0, none⟩) (by simp <;> omega) (by simp)).trans (by go_simp)
          have b1f1 : w1.frozen? ⟨w.heap.size + 1, 1, none⟩ = false := (e1.frozen (p := ⟨w.heap.size + 1, 1, none⟩) (by simp <;> omega) (by simp)).trans (by go_simp)
          have b1f2 : w1.frozen? ⟨w.heap.size + 1, 2, none⟩ = false := (e1.frozen (p := ⟨w.heap.size + 1, 2, none⟩) (by simp <;> omega) (by simp)).trans (by go_simp)
          have b1f3 : w1.frozen? ⟨w.heap.size + 1, 3, none⟩ = false := (e1.frozen (p := ⟨w.heap.size + 1, 3, none⟩) (by simp <;> omega) (by simp)).trans (by go_simp)
          have b1f4 : w1.frozen? ⟨w.heap.size + 1, 4, none⟩ = false := (e1.frozen (p := ⟨w.heap.size + 1, 4, none⟩) (by simp <;> omega) (by simp)).trans (by go_simp)
          have b1f5 : w1.frozen? ⟨w.heap.size + 1, 5, none⟩ = false := (e1.frozen (p := ⟨w.heap.size + 1, 5, none⟩) (by simp <;> omega) (by simp)).trans (by go_simp)
          have c10 : w1.cell? ⟨w.heap.size + 1 + 1, 0, none⟩ = some (.int .i64 0) := (e1.cell (p := ⟨w.heap.size + 1 + 1, 0, none⟩) (by simp <;> omega) (by simp)).trans (by go_simp)
          have c11 : w1.cell? ⟨w.heap.size + 1 + 1, 1, none⟩ = some (.int .i64 0) := (e1.cell (p := ⟨w.heap.size + 1 + 1, 1, none⟩) (by simp <;> omega) (by simp)).trans (by go_simp)
          have c12 : w1.cell? ⟨w.heap.size + 1 + 1, 2, none⟩ = some (.string ⟨#[]⟩) := (e1.cell (p := ⟨w.heap.size + 1 + 1, 2, none⟩) (by simp <;> omega) (by simp)).trans (by go_simp)
          have c13 : w1.cell? ⟨w.heap.size + 1 + 1, 3, none⟩ = some (.int .i64 0) := (e1.cell (p := ⟨w.heap.size + 1 + 1, 3, none⟩) (by simp <;> omega) (by simp)).trans (by go_simp)
          have c14 : w1.cell? ⟨w.heap.size + 1 + 1, 4, none⟩ = some (.int .i64 0) := (e1.cell (p := ⟨w.heap.size + 1 + 1, 4, none⟩) (by simp <;> omega) (by simp)).trans (by go_simp)
          have c1f0 : w1.frozen? ⟨w.heap.size + 1 + 1, 0, none⟩ = false := (e1.frozen (p := ⟨w.heap.size + 1 + 1, 0, none⟩) (by simp <;> omega) (by simp)).trans (by go_simp)
          have c1f1 : w1.frozen? ⟨w.heap.size + 1 + 1, 1, none⟩ = false := (e1.frozen (p := ⟨w.heap.size + 1 + 1, 1, none⟩) (by simp <;> omega) (by simp)).trans (by go_simp)
          have c1f2 : w1.frozen? ⟨w.heap.size + 1 + 1, 2, none⟩ = false := (e1.frozen (p := ⟨w.heap.size + 1 + 1, 2, none⟩) (by simp <;> omega) (by simp)).trans (by go_simp)
          have c1f3 : w1.frozen? ⟨w.heap.size + 1 + 1, 3, none⟩ = false := (e1.frozen (p := ⟨w.heap.size + 1 + 1, 3, none⟩) (by simp <;> omega) (by simp)).trans (by go_simp)
          have c1f4 : w1.frozen? ⟨w.heap.size + 1 + 1, 4, none⟩ = false := (e1.frozen (p := ⟨w.heap.size + 1 + 1, 4, none⟩) (by simp <;> omega) (by simp)).trans (by go_simp)
          clear e1
          go_wp2_with fail
          refine (LF.out _).mono ?_
          rintro e w1b ⟨rfl, c1b⟩
          have d1b : Chg [] w1 w1b := ((Chg.refl [] w1).alloc _).trans0 c1b
          have ab0 : w1b.cell? ⟨w.heap.size, 0, none⟩ = some (.string p.core.kind) := (d1b.cell (p := ⟨w.heap.size, 0, none⟩) t1b (by simp)).trans (a10)
          have ab1 : w1b.cell? ⟨w.heap.size, 1, none⟩ = some (.bool p.core.on) := (d1b.cell (p := ⟨w.heap.size, 1, none⟩) t1b (by simp)).trans (a11)
          have ab2 : w1b.cell? ⟨w.heap.size, 2, none⟩ = some (.bool p.core.broken) := (d1b.cell (p := ⟨w.heap.size, 2, none⟩) t1b (by simp)).trans (a12)
          have ab3 : w1b.cell? ⟨w.heap.size, 3, none⟩ = some (.slice A3 p.core.cells.length cap3) := (d1b.cell (p := ⟨w.heap.size, 3, none⟩) t1b (by simp)).trans (a13)
          have ab4 : w1b.cell? ⟨w.heap.size, 4, none⟩ = some (.int .i64 p.core.count) := (d1b.cell (p := ⟨w.heap.size, 4, none⟩) t1b (by simp)).trans (a14)
          have ab5 : w1b.cell? ⟨w.heap.size, 5, none⟩ = some (.slice A5 p.layers.length cap5) := (d1b.cell (p := ⟨w.heap.size, 5, none⟩) t1b (by simp)).trans (a15)
          go_wp2_with fail
          refine (IP.out _ (E1.trans0 d1b)).mono ?_
          rintro e w2 ⟨rfl, c2⟩
          have d12 : Chg [] w1 w2 := d1b.trans0 c2
          have a20 : w2.cell? ⟨w.heap.size, 0, none⟩ = some (.string p.core.kind) := (d12.cell (p := ⟨w.heap.size, 0, none⟩) t1b (by simp)).trans (a10)
          have a21 : w2.cell? ⟨w.heap.size, 1, none⟩ = some (.bool p.core.on) := (d12.cell (p := ⟨w.heap.size, 1, none⟩) t1b (by simp)).trans (a11)
          have a22 : w2.cell? ⟨w.heap.size, 2, none⟩ = some (.bool p.core.broken) := (d12.cell (p := ⟨w.heap.size, 2, none⟩) t1b (by simp)).trans (a12)
          have a23 : w2.cell? ⟨w.heap.size, 3, none⟩ = some (.slice A3 p.core.cells.length cap3) := (d12.cell (p := ⟨w.heap.size, 3, none⟩) t1b (by simp)).trans (a13)
          have a24 : w2.cell? ⟨w.heap.size, 4, none⟩ = some (.int .i64 p.core.count) := (d12.cell (p := ⟨w.heap.size, 4, none⟩) t1b (by simp)).trans (a14)
          have a25 : w2.cell? ⟨w.heap.size, 5, none⟩ = some (.slice A5 p.layers.length cap5) := (d12.cell (p := ⟨w.heap.size, 5, none⟩) t1b (by simp)).trans (a15)
          have b20 : w2.cell? ⟨w.heap.size + 1, 0, none⟩ = some (.string ⟨#[]⟩) := (d12.cell (p := ⟨w.heap.size + 1, 0, none⟩) t1a (by simp)).trans (b10)
          have b21 : w2.cell? ⟨w.heap.size + 1, 1, none⟩ = some (.bool false) := (d12.cell (p := ⟨w.heap.size + 1, 1, none⟩) t1a (by simp)).trans (b11)
          have b22 : w2.cell? ⟨w.heap.size + 1, 2, none⟩ = some (.bool false) := (d12.cell (p := ⟨w.heap.size + 1, 2, none⟩) t1a (by simp)).trans (b12)
          have b23 : w2.cell? ⟨w.heap.size + 1, 3, none⟩ = some (.slice none 0 0) := (d12.cell (p := ⟨w.heap.size + 1, 3, none⟩) t1a (by simp)).trans (b13)
          have b24 : w2.cell? ⟨w.heap.size + 1, 4, none⟩ = some (.int .i64 0) := (d12.cell (p := ⟨w.heap.size + 1, 4, none⟩) t1a (by simp)).trans (b14)
          have b25 : w2.cell? ⟨w.heap.size + 1, 5, none⟩ = some (.slice none 0 0) := (d12.cell (p := ⟨w.heap.size + 1, 5, none⟩) t1a (by simp)).trans (b15)
          have b2f0 : w2.frozen? ⟨w.heap.size + 1, 0, none⟩ = false := (d12.frozen (p := ⟨w.heap.size + 1, 0, none⟩) t1a (by simp)).trans (b1f0)
          have b2f1 : w2.frozen? ⟨w.heap.size + 1, 1, none⟩ = false := (d12.frozen (p := ⟨w.heap.size + 1, 1, none⟩) t1a (by simp)).trans (b1f1)
          have b2f2 : w2.frozen? ⟨w.heap.size + 1, 2, none⟩ = false := (d12.frozen (p := ⟨w.heap.size + 1, 2, none⟩) t1a (by simp)).trans (b1f2)
          have b2f3 : w2.frozen? ⟨w.heap.size + 1, 3, none⟩ = false := (d12.frozen (p := ⟨w.heap.size + 1, 3, none⟩) t1a (by simp)).trans (b1f3)
          have b2f4 : w2.frozen? ⟨w.heap.size + 1, 4, none⟩ = false := (d12.frozen (p := ⟨w.heap.size + 1, 4, none⟩) t1a (by simp)).trans (b1f4)
          have b2f5 : w2.frozen? ⟨w.heap.size + 1, 5, none⟩ = false := (d12.frozen (p := ⟨w.heap.size + 1, 5, none⟩) t1a (by simp)).trans (b1f5)
          have c20 : w2.cell? ⟨w.heap.size + 1 + 1, 0, none⟩ = some (.int .i64 0) := (d12.cell (p := ⟨w.heap.size + 1 + 1, 0, none⟩) t1 (by simp)).trans (c10)
          have c21 : w2.cell? ⟨w.heap.size + 1 + 1, 1, none⟩ = some (.int .i64 0) := (d12.cell (p := ⟨w.heap.size + 1 + 1, 1, none⟩) t1 (by simp)).trans (c11)
          have c22 : w2.cell? ⟨w.heap.size + 1 + 1, 2, none⟩ = some (.string ⟨#[]⟩) := (d12.cell (p := ⟨w.heap.size + 1 + 1, 2, none⟩) t1 (by simp)).trans (c12)
          have c23 : w2.cell? ⟨w.heap.size + 1 + 1, 3, none⟩ = some (.int .i64 0) := (d12.cell (p := ⟨w.heap.size + 1 + 1, 3, none⟩) t1 (by simp)).trans (c13)
          have c24 : w2.cell? ⟨w.heap.size + 1 + 1, 4, none⟩ = some (.int .i64 0) := (d12.cell (p := ⟨w.heap.size + 1 + 1, 4, none⟩) t1 (by simp)).trans (c14)
          have c2f0 : w2.frozen? ⟨w.heap.size + 1 + 1, 0, none⟩ = false := (d12.frozen (p := ⟨w.heap.size + 1 + 1, 0, none⟩) t1 (by simp)).trans (c1f0)
          have c2f1 : w2.frozen? ⟨w.heap.size + 1 + 1, 1, none⟩ = false := (d12.frozen (p := ⟨w.heap.size + 1 + 1, 1, none⟩) t1 (by simp)).trans (c1f1)
          have c2f2 : w2.frozen? ⟨w.heap.size + 1 + 1, 2, none⟩ = false := (d12.frozen (p := ⟨w.heap.size + 1 + 1, 2, none⟩) t1 (by simp)).trans (c1f2)
          have c2f3 : w2.frozen? ⟨w.heap.size + 1 + 1, 3, none⟩ = false := (d12.frozen (p := ⟨w.heap.size + 1 + 1, 3, none⟩) t1 (by simp)).trans (c1f3)
          have c2f4 : w2.frozen? ⟨w.heap.size + 1 + 1, 4, none⟩ = false := (d12.frozen (p := ⟨w.heap.size + 1 + 1, 4, none⟩) t1 (by simp)).trans (c1f4)
          have d20 : w2.cell? ⟨w1.heap.size, 0, none⟩ = some (.string p.core.kind) := ((c1b.trans0 c2).cell (p := ⟨w1.heap.size, 0, none⟩) (by simp) (by simp)).trans (by go_simp)
          have d21 : w2.cell? ⟨w1.heap.size, 1, none⟩ = some (.bool p.core.on) := ((c1b.trans0 c2).cell (p := ⟨w1.heap.size, 1, none⟩) (by simp) (by simp)).trans (by go_simp)
          have d22 : w2.cell? ⟨w1.heap.size, 2, none⟩ = some (.bool p.core.broken) := ((c1b.trans0 c2).cell (p := ⟨w1.heap.size, 2, none⟩) (by simp) (by simp)).trans (by go_simp)
          have d23 : w2.cell? ⟨w1.heap.size, 3, none⟩ = some (.slice A4 p.core.cells.length cap4) := ((c1b.trans0 c2).cell (p := ⟨w1.heap.size, 3, none⟩) (by simp) (by simp)).trans (by go_simp)
          have d24 : w2.cell? ⟨w1.heap.size, 4, none⟩ = some (.int .i64 p.core.count) := ((c1b.trans0 c2).cell (p := ⟨w1.heap.size, 4, none⟩) (by simp) (by simp)).trans (by go_simp)
          have d25 : w2.cell? ⟨w1.heap.size, 5, none⟩ = some (.slice A6 p.layers.length cap6) := ((c1b.trans0 c2).cell (p := ⟨w1.heap.size, 5, none⟩) (by simp) (by simp)).trans (by go_simp)
          have d2f0 : w2.frozen? ⟨w1.heap.size, 0, none⟩ = false := ((c1b.trans0 c2).frozen (p := ⟨w1.heap.size, 0, none⟩) (by simp) (by simp)).trans (by go_simp)
          have d2f1 : w2.frozen? ⟨w1.heap.size, 1, none⟩ = false := ((c1b.trans0 c2).frozen (p := ⟨w1.heap.size, 1, none⟩) (by simp) (by simp)).trans (by go_simp)
          have d2f2 : w2.frozen? ⟨w1.heap.size, 2, none⟩ = false := ((c1b.trans0 c2).frozen (p := ⟨w1.heap.size, 2, none⟩) (by simp) (by simp)).trans (by go_simp)
          have d2f3 : w2.frozen? ⟨w1.heap.size, 3, none⟩ = false := ((c1b.trans0 c2).frozen (p := ⟨w1.heap.size, 3, none⟩) (by simp) (by simp)).trans (by go_simp)
          have d2f4 : w2.frozen? ⟨w1.heap.size, 4, none⟩ = false := ((c1b.trans0 c2).frozen (p := ⟨w1.heap.size, 4, none⟩) (by simp) (by simp)).trans (by go_simp)
          have d2f5 : w2.frozen? ⟨w1.heap.size, 5, none⟩ = false := ((c1b.trans0 c2).frozen (p := ⟨w1.heap.size, 5, none⟩) (by simp) (by simp)).trans (by go_simp)
          clear ab0 ab1 ab2 ab3 ab4 ab5
          have t2 : w1.heap.size < w2.heap.size := by have := (c1b.trans0 c2).size; simp at this; omega
          have t2a : w.heap.size < w2.heap.size := by omega
          have t2b : w.heap.size + 1 < w2.heap.size := by omega
          have t2c : w.heap.size + 1 + 1 < w2.heap.size := by omega
          have E2 : Chg [] w w2 := E1.trans0 d12
          clear c2 c1b
          clear a10 a11 a12 a13 a14 a15 b10 b1f0 b11 b1f1 b12 b1f2 b13 b1f3 b14 b1f4 b15 b1f5 c10 c1f0 c11 c1f1 c12 c1f2 c13 c1f3 c14 c1f4
          go_wp2_with fail
          refine (FO.out _ E2).mono ?_
          rintro e w3 ⟨rfl, c3⟩
          have d13 : Chg [] w1 w3 := d12.trans0 c3
          have a30 : w3.cell? ⟨w.heap.size, 0, none⟩ = some (.string p.core.kind) := (c3.cell (p := ⟨w.heap.size, 0, none⟩) t2a (by simp)).trans (a20)
          have a31 : w3.cell? ⟨w.heap.size, 1, none⟩ = some (.bool p.core.on) := (c3.cell (p := ⟨w.heap.size, 1, none⟩) t2a (by simp)).trans (a21)
          have a32 : w3.cell? ⟨w.heap.size, 2, none⟩ = some (.bool p.core.broken) := (c3.cell (p := ⟨w.heap.size, 2, none⟩) t2a (by simp)).trans (a22)
          have a33 : w3.cell? ⟨w.heap.size, 3, none⟩ = some (.slice A3 p.core.cells.length cap3) := (c3.cell (p := ⟨w.heap.size, 3, none⟩) t2a (by simp)).trans (a23)
          have a34 : w3.cell? ⟨w.heap.size, 4, none⟩ = some (.int .i64 p.core.count) := (c3.cell (p := ⟨w.heap.size, 4, none⟩) t2a (by simp)).trans (a24)
          have a35 : w3.cell? ⟨w.heap.size, 5, none⟩ = some (.slice A5 p.layers.length cap5) := (c3.cell (p := ⟨w.heap.size, 5, none⟩) t2a (by simp)).trans (a25)
          have b30 : w3.cell? ⟨w.heap.size + 1, 0, none⟩ = some (.string ⟨#[]⟩) := (c3.cell (p := ⟨w.heap.size + 1, 0, none⟩) t2b (by simp)).trans (b20)
          have b31 : w3.cell? ⟨w.heap.size + 1, 1, none⟩ = some (.bool false) := (c3.cell (p := ⟨w.heap.size + 1, 1, none⟩) t2b (by simp)).trans (b21)
          have b32 : w3.cell? ⟨w.heap.size + 1, 2, none⟩ = some (.bool false) := (c3.cell (p := ⟨w.heap.size + 1, 2, none⟩) t2b (by simp)).trans (b22)
          have b33 : w3.cell? ⟨w.heap.size + 1, 3, none⟩ = some (.slice none 0 0) := (c3.cell (p := ⟨w.heap.size + 1, 3, none⟩) t2b (by simp)).trans (b23)
          have b34 : w3.cell? ⟨w.heap.size + 1, 4, none⟩ = some (.int .i64 0) := (c3.cell (p := ⟨w.heap.size + 1, 4, none⟩) t2b (by simp)).trans (b24)
          have b35 : w3.cell? ⟨w.heap.size + 1, 5, none⟩ = some (.slice none 0 0) := (c3.cell (p := ⟨w.heap.size + 1, 5, none⟩) t2b (by simp)).trans (b25)
          have b3f0 : w3.frozen? ⟨w.heap.size + 1, 0, none⟩ = false := (c3.frozen (p := ⟨w.heap.size + 1, 0, none⟩) t2b (by simp)).trans (b2f0)
          have b3f1 : w3.frozen? ⟨w.heap.size + 1, 1, none⟩ = false := (c3.frozen (p := ⟨w.heap.size + 1, 1, none⟩) t2b (by simp)).trans (b2f1)
          have b3f2 : w3.frozen? ⟨w.heap.size + 1, 2, none⟩ = false := (c3.frozen (p := ⟨w.heap.size + 1, 2, none⟩) t2b (by simp)).trans (b2f2)
          have b3f3 : w3.frozen? ⟨w.heap.size + 1, 3, none⟩ = false := (c3.frozen (p := ⟨w.heap.size + 1, 3, none⟩) t2b (by simp)).trans (b2f3)
          have b3f4 : w3.frozen? ⟨w.heap.size + 1, 4, none⟩ = false := (c3.frozen (p := ⟨w.heap.size + 1, 4, none⟩) t2b (by simp)).trans (b2f4)
          have b3f5 : w3.frozen? ⟨w.heap.size + 1, 5, none⟩ = false := (c3.frozen (p := ⟨w.heap.size + 1, 5, none⟩) t2b (by simp)).trans (b2f5)
          have c30 : w3.cell? ⟨w.heap.size + 1 + 1, 0, none⟩ = some (.int .i64 0) := (c3.cell (p := ⟨w.heap.size + 1 + 1, 0, none⟩) t2c (by simp)).trans (c20)
          have c31 : w3.cell? ⟨w.heap.size + 1 + 1, 1, none⟩ = some (.int .i64 0) := (c3.cell (p := ⟨w.heap.size + 1 + 1, 1, none⟩) t2c (by simp)).trans (c21)
          have c32 : w3.cell? ⟨w.heap.size + 1 + 1, 2, none⟩ = some (.string ⟨#[]⟩) := (c3.cell (p := ⟨w.heap.size + 1 + 1, 2, none⟩) t2c (by simp)).trans (c22)
          have c33 : w3.cell? ⟨w.heap.size + 1 + 1, 3, none⟩ = some (.int .i64 0) := (c3.cell (p := ⟨w.heap.size + 1 + 1, 3, none⟩) t2c (by simp)).trans (c23)
          have c34 : w3.cell? ⟨w.heap.size + 1 + 1, 4, none⟩ = some (.int .i64 0) := (c3.cell (p := ⟨w.heap.size + 1 + 1, 4, none⟩) t2c (by simp)).trans (c24)
          have c3f0 : w3.frozen? ⟨w.heap.size + 1 + 1, 0, none⟩ = false := (c3.frozen (p := ⟨w.heap.size + 1 + 1, 0, none⟩) t2c (by simp)).trans (c2f0)
          have c3f1 : w3.frozen? ⟨w.heap.size + 1 + 1, 1, none⟩ = false := (c3.frozen (p := ⟨w.heap.size + 1 + 1, 1, none⟩) t2c (by simp)).trans (c2f1)
          have c3f2 : w3.frozen? ⟨w.heap.size + 1 + 1, 2, none⟩ = false := (c3.frozen (p := ⟨w.heap.size + 1 + 1, 2, none⟩) t2c (by simp)).trans (c2f2)
          have c3f3 : w3.frozen? ⟨w.heap.size + 1 + 1, 3, none⟩ = false := (c3.frozen (p := ⟨w.heap.size + 1 + 1, 3, none⟩) t2c (by simp)).trans (c2f3)
          have c3f4 : w3.frozen? ⟨w.heap.size + 1 + 1, 4, none⟩ = false := (c3.frozen (p := ⟨w.heap.size + 1 + 1, 4, none⟩) t2c (by simp)).trans (c2f4)
          have d30 : w3.cell? ⟨w1.heap.size, 0, none⟩ = some (.string p.core.kind) := (c3.cell (p := ⟨w1.heap.size, 0, none⟩) t2 (by simp)).trans (d20)
          have d31 : w3.cell? ⟨w1.heap.size, 1, none⟩ = some (.bool p.core.on) := (c3.cell (p := ⟨w1.heap.size, 1, none⟩) t2 (by simp)).trans (d21)
          have d32 : w3.cell? ⟨w1.heap.size, 2, none⟩ = some (.bool p.core.broken) := (c3.cell (p := ⟨w1.heap.size, 2, none⟩) t2 (by simp)).trans (d22)
          have d33 : w3.cell? ⟨w1.heap.size, 3, none⟩ = some (.slice A4 p.core.cells.length cap4) := (c3.cell (p := ⟨w1.heap.size, 3, none⟩) t2 (by simp)).trans (d23)
          have d34 : w3.cell? ⟨w1.heap.size, 4, none⟩ = some (.int .i64 p.core.count) := (c3.cell (p := ⟨w1.heap.size, 4, none⟩) t2 (by simp)).trans (d24)
          have d35 : w3.cell? ⟨w1.heap.size, 5, none⟩ = some (.slice A6 p.layers.length cap6) := (c3.cell (p := ⟨w1.heap.size, 5, none⟩) t2 (by simp)).trans (d25)
          have d3f0 : w3.frozen? ⟨w1.heap.size, 0, none⟩ = false := (c3.frozen (p := ⟨w1.heap.size, 0, none⟩) t2 (by simp)).trans (d2f0)
          have d3f1 : w3.frozen? ⟨w1.heap.size, 1, none⟩ = false := (c3.frozen (p := ⟨w1.heap.size, 1, none⟩) t2 (by simp)).trans (d2f1)
          have d3f2 : w3.frozen? ⟨w1.heap.size, 2, none⟩ = false := (c3.frozen (p := ⟨w1.heap.size, 2, none⟩) t2 (by simp)).trans (d2f2)
          have d3f3 : w3.frozen? ⟨w1.heap.size, 3, none⟩ = false := (c3.frozen (p := ⟨w1.heap.size, 3, none⟩) t2 (by simp)).trans (d2f3)
          have d3f4 : w3.frozen? ⟨w1.heap.size, 4, none⟩ = false := (c3.frozen (p := ⟨w1.heap.size, 4, none⟩) t2 (by simp)).trans (d2f4)
          have d3f5 : w3.frozen? ⟨w1.heap.size, 5, none⟩ = false := (c3.frozen (p := ⟨w1.heap.size, 5, none⟩) t2 (by simp)).trans (d2f5)
          have t3 : w1.heap.size < w3.heap.size := Nat.lt_of_lt_of_le t2 c3.size
          have t3a : w.heap.size < w3.heap.size := by omega
          have t3b : w.heap.size + 1 < w3.heap.size := by omega
          have t3c : w.heap.size + 1 + 1 < w3.heap.size := by omega
          have E3 : Chg [] w w3 := E2.trans0 c3
          clear a20 a21 a22 a23 a24 a25 b20 b2f0 b21 b2f1 b22 b2f2 b23 b2f3 b24 b2f4 b25 b2f5 c20 c2f0 c21 c2f1 c22 c2f2 c23 c2f3 c24 c2f4 d20 d2f0 d21 d2f1 d22 d2f2 d23 d2f3 d24 d2f4 d25 d2f5
          go_wp2_with fail
          refine (OF.out _).mono ?_
          rintro e w3b ⟨rfl, hw3⟩
          obtain rfl := hw3.symm
          have hlow := n1.2.has.2
          have hltA := n1.2.has.1.lt
          have k0 : w.heap.size + 1 ∉ ownL (.slice A6 p.layers.length cap6) := fun hx => by have := hlow _ hx; simp at this; omega
          have k1 : w.heap.size + 1 + 1 ∉ ownL (.slice A6 p.layers.length cap6) := fun hx => by have := hlow _ hx; simp at this; omega
          have k2 : w1.heap.size ∉ ownL (.slice A6 p.layers.length cap6) := fun hx => by have := hltA _ hx; omega
          go_wp2_with (at_builtin; refine wpList_appN rfl (.tmp 47) (.tmp 50) _ rfl rfl rfl (run_appN _ _ 89 _ 2 24 Tryd.underlying60 layer_info rfl (by omega) n1.2 (d13.alloc _) (some ⟨w3.heap.size, 0, none⟩) 1 1 [.string name, .int .i64 0] rfl (fun _ => ⟨w3.heap.size, 0, rfl, fun j x hj => by rw [Nat.zero_add]; exact cell_lit _ _ _ (by simpa using hj)⟩) (by intro u hu; simp at hu; rcases hu with rfl | rfl <;> rfl) (by omega) (by omega)) ?_; rintro A7 cap7 w4 ⟨hA4, hc4, hat4⟩; have b40 : w4.cell? ⟨w.heap.size + 1, 0, none⟩ = some (.string ⟨#[]⟩) := (hc4.cell (p := ⟨w.heap.size + 1, 0, none⟩) (by simp <;> omega) k0).trans (by go_simp); have b41 : w4.cell? ⟨w.heap.size + 1, 1, none⟩ = some (.bool false) := (hc4.cell (p := ⟨w.heap.size + 1, 1, none⟩) (by simp <;> omega) k0).trans (by go_simp); have b42 : w4.cell? ⟨w.heap.size + 1, 2, none⟩ = some (.bool false) := (hc4.cell (p := ⟨w.heap.size + 1, 2, none⟩) (by simp <;> omega) k0).trans (by go_simp); have b43 : w4.cell? ⟨w.heap.size + 1, 3, none⟩ = some (.slice none 0 0) := (hc4.cell (p := ⟨w.heap.size + 1, 3, none⟩) (by simp <;> omega) k0).trans (by go_simp); have b44 : w4.cell? ⟨w.heap.size + 1, 4, none⟩ = some (.int .i64 0) := (hc4.cell (p := ⟨w.heap.size + 1, 4, none⟩) (by simp <;> omega) k0).trans (by go_simp); have b45 : w4.cell? ⟨w.heap.size + 1, 5, none⟩ = some (.slice none 0 0) := (hc4.cell (p := ⟨w.heap.size + 1, 5, none⟩) (by simp <;> omega) k0).trans (by go_simp); have b4f0 : w4.frozen? ⟨w.heap.size + 1, 0, none⟩ = false := (hc4.frozen (p := ⟨w.heap.size + 1, 0, none⟩) (by simp <;> omega) k0).trans (by go_simp); have b4f1 : w4.frozen? ⟨w.heap.size + 1, 1, none⟩ = false := (hc4.frozen (p := ⟨w.heap.size + 1, 1, none⟩) (by simp <;> omega) k0).trans (by go_simp); have b4f2 : w4.frozen? ⟨w.heap.size + 1, 2, none⟩ = false := (hc4.frozen (p := ⟨w.heap.size + 1, 2, none⟩) (by simp <;> omega) k0).trans (by go_simp); have b4f3 : w4.frozen? ⟨w.heap.size + 1, 3, none⟩ = false := (hc4.frozen (p := ⟨w.heap.size + 1, 3, none⟩) (by simp <;> omega) k0).trans (by go_simp); have b4f4 : w4.frozen? ⟨w.heap.size + 1, 4, none⟩ = false := (hc4.frozen (p := ⟨w.heap.size + 1, 4, none⟩) (by simp <;> omega) k0).trans (by go_simp); have b4f5 : w4.frozen? ⟨w.heap.size + 1, 5, none⟩ = false := (hc4.frozen (p := ⟨w.heap.size + 1, 5, none⟩) (by simp <;> omega) k0).trans (by go_simp); have c40 : w4.cell? ⟨w.heap.size + 1 + 1, 0, none⟩ = some (.int .i64 0) := (hc4.cell (p := ⟨w.heap.size + 1 + 1, 0, none⟩) (by simp <;> omega) k1).trans (by go_simp); have c41 : w4.cell? ⟨w.heap.size + 1 + 1, 1, none⟩ = some (.int .i64 0) := (hc4.cell (p := ⟨w.heap.size + 1 + 1, 1, none⟩) (by simp <;> omega) k1).trans (by go_simp); have c42 : w4.cell? ⟨w.heap.size + 1 + 1, 2, none⟩ = some (.string ⟨#[]⟩) := (hc4.cell (p := ⟨w.heap.size + 1 + 1, 2, none⟩) (by simp <;> omega) k1).trans (by go_simp); have c43 : w4.cell? ⟨w.heap.size + 1 + 1, 3, none⟩ = some (.int .i64 0) := (hc4.cell (p := ⟨w.heap.size + 1 + 1, 3, none⟩) (by simp <;> omega) k1).trans (by go_simp); have c44 : w4.cell? ⟨w.heap.size + 1 + 1, 4, none⟩ = some (.int .i64 0) := (hc4.cell (p := ⟨w.heap.size + 1 + 1, 4, none⟩) (by simp <;> omega) k1).trans (by go_simp); have c4f0 : w4.frozen? ⟨w.heap.size + 1 + 1, 0, none⟩ = false := (hc4.frozen (p := ⟨w.heap.size + 1 + 1, 0, none⟩) (by simp <;> omega) k1).trans (by go_simp); have c4f1 : w4.frozen? ⟨w.heap.size + 1 + 1, 1, none⟩ = false := (hc4.frozen (p := ⟨w.heap.size + 1 + 1, 1, none⟩) (by simp <;> omega) k1).trans (by go_simp); have c4f2 : w4.frozen? ⟨w.heap.size + 1 + 1, 2, none⟩ = false := (hc4.frozen (p := ⟨w.heap.size + 1 + 1, 2, none⟩) (by simp <;> omega) k1).trans (by go_simp); have c4f3 : w4.frozen? ⟨w.heap.size + 1 + 1, 3, none⟩ = false := (hc4.frozen (p := ⟨w.heap.size + 1 + 1, 3, none⟩) (by simp <;> omega) k1).trans (by go_simp); have c4f4 : w4.frozen? ⟨w.heap.size + 1 + 1, 4, none⟩ = false := (hc4.frozen (p := ⟨w.heap.size + 1 + 1, 4, none⟩) (by simp <;> omega) k1).trans (by go_simp); have d40 : w4.cell? ⟨w1.heap.size, 0, none⟩ = some (.string p.core.kind) := (hc4.cell (p := ⟨w1.heap.size, 0, none⟩) (by simp <;> omega) k2).trans (by go_simp); have d41 : w4.cell? ⟨w1.heap.size, 1, none⟩ = some (.bool p.core.on) := (hc4.cell (p := ⟨w1.heap.size, 1, none⟩) (by simp <;> omega) k2).trans (by go_simp); have d42 : w4.cell? ⟨w1.heap.size, 2, none⟩ = some (.bool p.core.broken) := (hc4.cell (p := ⟨w1.heap.size, 2, none⟩) (by simp <;> omega) k2).trans (by go_simp); have d43 : w4.cell? ⟨w1.heap.size, 3, none⟩ = some (.slice A4 p.core.cells.length cap4) := (hc4.cell (p := ⟨w1.heap.size, 3, none⟩) (by simp <;> omega) k2).trans (by go_simp); have d44 : w4.cell? ⟨w1.heap.size, 4, none⟩ = some (.int .i64 p.core.count) := (hc4.cell (p := ⟨w1.heap.size, 4, none⟩) (by simp <;> omega) k2).trans (by go_simp); have d45 : w4.cell? ⟨w1.heap.size, 5, none⟩ = some (.slice A6 p.layers.length cap6) := (hc4.cell (p := ⟨w1.heap.size, 5, none⟩) (by simp <;> omega) k2).trans (by go_simp); have d4f0 : w4.frozen? ⟨w1.heap.size, 0, none⟩ = false := (hc4.frozen (p := ⟨w1.heap.size, 0, none⟩) (by simp <;> omega) k2).trans (by go_simp); have d4f1 : w4.frozen? ⟨w1.heap.size, 1, none⟩ = false := (hc4.frozen (p := ⟨w1.heap.size, 1, none⟩) (by simp <;> omega) k2).trans (by go_simp); have d4f2 : w4.frozen? ⟨w1.heap.size, 2, none⟩ = false := (hc4.frozen (p := ⟨w1.heap.size, 2, none⟩) (by simp <;> omega) k2).trans (by go_simp); have d4f3 : w4.frozen? ⟨w1.heap.size, 3, none⟩ = false := (hc4.frozen (p := ⟨w1.heap.size, 3, none⟩) (by simp <;> omega) k2).trans (by go_simp); have d4f4 : w4.frozen? ⟨w1.heap.size, 4, none⟩ = false := (hc4.frozen (p := ⟨w1.heap.size, 4, none⟩) (by simp <;> omega) k2).trans (by go_simp); have d4f5 : w4.frozen? ⟨w1.heap.size, 5, none⟩ = false := (hc4.frozen (p := ⟨w1.heap.size, 5, none⟩) (by simp <;> omega) k2).trans (by go_simp); have t4 : w1.heap.size < w4.heap.size := (by have := hc4.size; simp at this; omega); have t4a : w.heap.size + 1 < w4.heap.size := (by omega); have t4b : w.heap.size + 1 + 1 < w4.heap.size := (by omega); have t4c : w1.heap.size ≠ w.heap.size + 1 := (by omega); have t4d : w1.heap.size ≠ w.heap.size + 1 + 1 := (by omega); have HC4 := Lib.hid hc4; have HAT := Lib.hid hat4; have HA4 := Lib.hid hA4; clear hc4 hat4 hA4)
          refine bodyPost_ret (v := .tuple #[.agg #[.string p.core.kind, .bool p.core.on, .bool p.core.broken, .slice A4 p.core.cells.length cap4, .int .i64 p.core.count, .slice A7 (p.layers.length + 1) cap7], .agg #[.int .i64 0, .int .i64 x.2, .string ⟨#[]⟩, .int .i64 0, .int .i64 0]]) (by simp only [results, Tryd.results46]; go_simp) rfl ?_
          rw [wrapOf_done hx n1p n3 n4]
          have hlen : (p.layers ++ [(⟨name, 0⟩ : LayerT)]).length = p.layers.length + 1 := by simp
          refine ⟨A4, cap4, A7, cap7, ?_, ?_⟩
          · dsimp only
            rw [hlen]
            rfl
          · dsimp only
            rw [hlen]
            exact PartNew.grown (w := w) (wb := (((w.alloc (.cells #[.string p.core.kind, .bool p.core.on, .bool p.core.broken, .slice A3 p.core.cells.length cap3, .int .i64 p.core.count, .slice A5 p.layers.length cap5] 62)).alloc (.cells #[.string ⟨#[]⟩, .bool false, .bool false, .slice none 0 0, .int .i64 0, .slice none 0 0] 62)).alloc (.cells #[.int .i64 0, .int .i64 0, .string ⟨#[]⟩, .int .i64 0, .int .i64 0] 69))) (g1 := w.heap.size + 1) (g2 := w.heap.size + 1 + 1) n1 (by repeat (first | with_reducible exact Chg.refl _ _ | with_reducible refine Chg.drew ?_ | with_reducible refine Chg.alloc ?_ _)) (d13.alloc _) HC4.out HA4.out (HAT.out.imp id (fun h => ⟨_, h, by simp <;> omega⟩)) (by omega) (by omega) (by simp <;> omega) (by simp <;> omega) (by repeat (first | with_reducible exact Chg.refl _ _ | with_reducible refine Chg.drew ?_ | with_reducible refine Chg.alloc ?_ _ | with_reducible refine Chg.setCell ?_ (.inl (by simp)) _))
        · have OF := Lib.hid (fun W => (offers_spec_any (faceAt p p.layers.length) x.1 W).mono (BoolIs.neg n4))
          go_enter Tryd.func46, Tryd.ntmps46
          go_wp2_with fail
          refine (CP.out _ ?_).mono ?_
          · repeat (first | with_reducible exact Chg.refl _ _ | with_reducible refine Chg.drew ?_ | with_reducible refine Chg.alloc ?_ _)
          rintro e w1 ⟨A4, cap4, A6, cap6, rfl, n1⟩
          have e1 : Chg [] (((w.alloc (.cells #[.string p.core.kind, .bool p.core.on, .bool p.core.broken, .slice A3 p.core.cells.length cap3, .int .i64 p.core.count, .slice A5 p.layers.length cap5] 62)).alloc (.cells #[.string ⟨#[]⟩, .bool false, .bool false, .slice none 0 0, .int .i64 0, .slice none 0 0] 62)).alloc (.cells #[.int .i64 0, .int .i64 0, .string ⟨#[]⟩, .int .i64 0, .int .i64 0] 69)) w1 := n1.2.chg
          have t1 : w.heap.size + 1 + 1 < w1.heap.size := by have := e1.size; simp at this; omega
          have t1a : w.heap.size + 1 < w1.heap.size := by omega
          have t1b : w.heap.size < w1.heap.size := by omega
          have tr : w1.heap.size < w1.heap.size + 1 := Nat.lt_succ_self _
          have E1 : Chg [] w w1 := Chg.trans0 (by repeat (first | with_reducible exact Chg.refl _ _ | with_reducible refine Chg.drew ?_ | with_reducible refine Chg.alloc ?_ _)) e1
          have a10 : w1.cell? ⟨w.heap.size, 0, none⟩ = some (.string p.core.kind) := (e1.cell (p := ⟨w.heap.size, 0, none⟩) (by simp <;> omega) (by simp)).trans (by go_simp)
          have a11 : w1.cell? ⟨w.heap.size, 1, none⟩ = some (.bool p.core.on) := (e1.cell (p := ⟨w.heap.size, 1, none⟩) (by simp <;> omega) (by simp)).trans (by go_simp)
          have a12 : w1.cell? ⟨w.heap.size, 2, none⟩ = some (.bool p.core.broken) := (e1.cell (p := ⟨w.heap.size, 2, none⟩) (by simp <;> omega) (by simp)).trans (by go_simp)
          have a13 : w1.cell? ⟨w.heap.size, 3, none⟩ = some (.slice A3 p.core.cells.length cap3) := (e1.cell (p := ⟨w.heap.size, 3, none⟩) (by simp <;> omega) (by simp)).trans (by go_simp)
          have a14 : w1.cell? ⟨w.heap.size, 4, none⟩ = some (.int .i64 p.core.count) := (e1.cell (p := ⟨w.heap.size, 4, none⟩) (by simp <;> omega) (by simp)).trans (by go_simp)
          have a15 : w1.cell? ⟨w.heap.size, 5, none⟩ = some (.slice A5 p.layers.length cap5) := (e1.cell (p := ⟨w.heap.size, 5, none⟩) (by simp <;> omega) (by simp)).trans (by go_simp)
          have b10 : w1.cell? ⟨w.heap.size + 1, 0, none⟩ = some (.string ⟨#[]⟩) := (e1.cell (p := ⟨w.heap.size + 1, 0, none⟩) (by simp <;> omega) (by simp)).trans (by go_simp)
          have b11 : w1.cell? ⟨w.heap.size + 1, 1, none⟩ = some (.bool false) := (e1.cell (p := ⟨w.heap.size + 1, 1, none⟩) (by simp <;> omega) (by simp)).trans (by go_simp)
          have b12 : w1.cell? ⟨w.heap.size + 1, 2, none⟩ = some (.bool false) := (e1.cell (p := ⟨w.heap.size + 1, 2, none⟩) (by simp <;> omega) (by simp)).trans (by go_simp)
          have b13 : w1.cell? ⟨w.heap.size + 1, 3, none⟩ = some (.slice none 0 0) := (e1.cell (p := ⟨w.heap.size + 1, 3, none⟩) (by simp <;> omega) (by simp)).trans (by go_simp)
          have b14 : w1.cell? ⟨w.heap.size + 1, 4, none⟩ = some (.int .i64 0) := (e1.cell (p := ⟨w.heap.size + 1, 4, none⟩) (by simp <;> omega) (by simp)).trans (by go_simp)
          have b15 : w1.cell? ⟨w.heap.size + 1, 5, none⟩ = some (.slice none 0 0) := (e1.cell (p := ⟨w.heap.size + 1, 5, none⟩) (by simp <;> omega) (by simp)).trans (by go_simp)
          have b1f0 : w1.frozen? ⟨w.heap.size + 1, 0, none⟩ = false := (e1.frozen (p := ⟨w.heap.size + 1, 0, none⟩) (by simp <;> omega) (by simp)).trans (by go_simp)
          have b1f1 : w1.frozen? ⟨w.heap.size + 1, 1, none⟩ = false := (e1.frozen (p := ⟨w.heap.size + 1, 1, none⟩) (by simp <;> omega) (by simp)).trans (by go_simp)
          have b1f2 : w1.frozen? ⟨w.heap.size + 1, 2, none⟩ = false := (e1.frozen (p := ⟨w.heap.size + 1, 2, none⟩) (by simp <;> omega) (by simp)).trans (by go_simp)
          have b1f3 : w1.frozen? ⟨w.heap.size + 1, 3, none⟩ = false := (e1.frozen (p := ⟨w.heap.size + 1, 3, none⟩) (by simp <;> omega) (by simp)).trans (by go_simp)
          have b1f4 : w1.frozen? ⟨w.heap.size + 1, 4, none⟩ = false := (e1.frozen (p := ⟨w.heap.size + 1, 4, none⟩) (by simp <;> omega) (by simp)).trans (by go_simp)
          have b1f5 : w1.frozen? ⟨w.heap.size + 1, 5, none⟩ = false := (e1.frozen (p := ⟨w.heap.size + 1, 5, none⟩) (by simp <;> omega) (by simp)).trans (by go_simp)
          have c10 : w1.cell? ⟨w.heap.size + 1 + 1, 0, none⟩ = some (.int .i64 0) := (e1.cell (p := ⟨w.heap.size + 1 + 1, 0, none⟩) (by simp <;> omega) (by simp)).trans (by go_simp)
          have c11 : w1.cell? ⟨w.heap.size + 1 + 1, 1, none⟩ = some (.int .i64 0) := (e1.cell (p := ⟨w.heap.size + 1 + 1, 1, none⟩) (by simp <;> omega) (by simp)).trans (by go_simp)
          have c12 : w1.cell? ⟨w.heap.size + 1 + 1, 2, none⟩ = some (.string ⟨#[]⟩) := (e1.cell (p := ⟨w.heap.size + 1 + 1, 2, none⟩) (by simp <;> omega) (by simp)).trans (by go_simp)
          have c13 : w1.cell? ⟨w.heap.size + 1 + 1, 3, none⟩ = some (.int .i64 0) := (e1.cell (p := ⟨w.heap.size + 1 + 1, 3, none⟩) (by simp <;> omega) (by simp)).trans (by go_simp)
          have c14 : w1.cell? ⟨w.heap.size + 1 + 1, 4, none⟩ = some (.int .i64 0) := (e1.cell (p := ⟨w.heap.size + 1 + 1, 4, none⟩) (by simp <;> omega) (by simp)).trans (by go_simp)
          have c1f0 : w1.frozen? ⟨w.heap.size + 1 + 1, 0, none⟩ = false := (e1.frozen (p := ⟨w.heap.size + 1 + 1, 0, none⟩) (by simp <;> omega) (by simp)).trans (by go_simp)
          have c1f1 : w1.frozen? ⟨w.heap.size + 1 + 1, 1, none⟩ = false := (e1.frozen (p := ⟨w.heap.size + 1 + 1, 1, none⟩) (by simp <;> omega) (by simp)).trans (by go_simp)
          have c1f2 : w1.frozen? ⟨w.heap.size + 1 + 1, 2, none⟩ = false := (e1.frozen (p := ⟨w.heap.size + 1 + 1, 2, none⟩) (by simp <;> omega) (by simp)).trans (by go_simp)
          have c1f3 : w1.frozen? ⟨w.heap.size + 1 + 1, 3, none⟩ = false := (e1.frozen (p := ⟨w.heap.size + 1 + 1, 3, none⟩) (by simp <;> omega) (by simp)).trans (by go_simp)
          have c1f4 : w1.frozen? ⟨w.heap.size + 1 + 1, 4, none⟩ = false := (e1.frozen (p := ⟨w.heap.size + 1 + 1, 4, none⟩) (by simp <;> omega) (by simp)).trans (by go_simp)
          clear e1
          go_wp2_with fail
          refine (LF.out _).mono ?_
          rintro e w1b ⟨rfl, c1b⟩
          have d1b : Chg [] w1 w1b := ((Chg.refl [] w1).alloc _).trans0 c1b
          have ab0 : w1b.cell? ⟨w.heap.size, 0, none⟩ = some (.string p.core.kind) := (d1b.cell (p := ⟨w.heap.size, 0, none⟩) t1b (by simp)).trans (a10)
          have ab1 : w1b.cell? ⟨w.heap.size, 1, none⟩ = some (.bool p.core.on) := (d1b.cell (p := ⟨w.heap.size, 1, none⟩) t1b (by simp)).trans (a11)
          have ab2 : w1b.cell? ⟨w.heap.size, 2, none⟩ = some (.bool p.core.broken) := (d1b.cell (p := ⟨w.heap.size, 2, none⟩) t1b (by simp)).trans (a12)
          have ab3 : w1b.cell? ⟨w.heap.size, 3, none⟩ = some (.slice A3 p.core.cells.length cap3) := (d1b.cell (p := ⟨w.heap.size, 3, none⟩) t1b (by simp)).trans (a13)
          have ab4 : w1b.cell? ⟨w.heap.size, 4, none⟩ = some (.int .i64 p.core.count) := (d1b.cell (p := ⟨w.heap.size, 4, none⟩) t1b (by simp)).trans (a14)
          have ab5 : w1b.cell? ⟨w.heap.size, 5, none⟩ = some (.slice A5 p.layers.length cap5) := (d1b.cell (p := ⟨w.heap.size, 5, none⟩) t1b (by simp)).trans (a15)
          go_wp2_with fail
          refine (IP.out _ (E1.trans0 d1b)).mono ?_
          rintro e w2 ⟨rfl, c2⟩
          have d12 : Chg [] w1 w2 := d1b.trans0 c2
          have a20 : w2.cell? ⟨w.heap.size, 0, none⟩ = some (.string p.core.kind) := (d12.cell (p := ⟨w.heap.size, 0, none⟩) t1b (by simp)).trans (a10)
          have a21 : w2.cell? ⟨w.heap.size, 1, none⟩ = some (.bool p.core.on) := (d12.cell (p := ⟨w.heap.size, 1, none⟩) t1b (by simp)).trans (a11)
          have a22 : w2.cell? ⟨w.heap.size, 2, none⟩ = some (.bool p.core.broken) := (d12.cell (p := ⟨w.heap.size, 2, none⟩) t1b (by simp)).trans (a12)
          have a23 : w2.cell? ⟨w.heap.size, 3, none⟩ = some (.slice A3 p.core.cells.length cap3) := (d12.cell (p := ⟨w.heap.size, 3, none⟩) t1b (by simp)).trans (a13)
          have a24 : w2.cell? ⟨w.heap.size, 4, none⟩ = some (.int .i64 p.core.count) := (d12.cell (p := ⟨w.heap.size, 4, none⟩) t1b (by simp)).trans (a14)
          have a25 : w2.cell? ⟨w.heap.size, 5, none⟩ = some (.slice A5 p.layers.length cap5) := (d12.cell (p := ⟨w.heap.size, 5, none⟩) t1b (by simp)).trans (a15)
          have b20 : w2.cell? ⟨w.heap.size + 1, 0, none⟩ = some (.string ⟨#[]⟩) := (d12.cell (p := ⟨w.heap.size + 1, 0, none⟩) t1a (by simp)).trans (b10)
          have b21 : w2.cell? ⟨w.heap.size + 1, 1, none⟩ = some (.bool false) := (d12.cell (p := ⟨w.heap.size + 1, 1, none⟩) t1a (by simp)).trans (b11)
          have b22 : w2.cell? ⟨w.heap.size + 1, 2, none⟩ = some (.bool false) := (d12.cell (p := ⟨w.heap.size + 1, 2, none⟩) t1a (by simp)).trans (b12)
          have b23 : w2.cell? ⟨w.heap.size + 1, 3, none⟩ = some (.slice none 0 0) := (d12.cell (p := ⟨w.heap.size + 1, 3, none⟩) t1a (by simp)).trans (b13)
          have b24 : w2.cell? ⟨w.heap.size + 1, 4, none⟩ = some (.int .i64 0) := (d12.cell (p := ⟨w.heap.size + 1, 4, none⟩) t1a (by simp)).trans (b14)
          have b25 : w2.cell? ⟨w.heap.size + 1, 5, none⟩ = some (.slice none 0 0) := (d12.cell (p := ⟨w.heap.size + 1, 5, none⟩) t1a (by simp)).trans (b15)
          have b2f0 : w2.frozen? ⟨w.heap.size + 1, 0, none⟩ = false := (d12.frozen (p := ⟨w.heap.size + 1, 0, none⟩) t1a (by simp)).trans (b1f0)
          have b2f1 : w2.frozen? ⟨w.heap.size + 1, 1, none⟩ = false := (d12.frozen (p := ⟨w.heap.size + 1, 1, none⟩) t1a (by simp)).trans (b1f1)
          have b2f2 : w2.frozen? ⟨w.heap.size + 1, 2, none⟩ = false := (d12.frozen (p := ⟨w.heap.size + 1, 2, none⟩) t1a (by simp)).trans (b1f2)
          have b2f3 : w2.frozen? ⟨w.heap.size + 1, 3, none⟩ = false := (d12.frozen (p := ⟨w.heap.size + 1, 3, none⟩) t1a (by simp)).trans (b1f3)
          have b2f4 : w2.frozen? ⟨w.heap.size + 1, 4, none⟩ = false := (d12.frozen (p := ⟨w.heap.size + 1, 4, none⟩) t1a (by simp)).trans (b1f4)
          have b2f5 : w2.frozen? ⟨w.heap.size + 1, 5, none⟩ = false := (d12.frozen (p := ⟨w.heap.size + 1, 5, none⟩) t1a (by simp)).trans (b1f5)
          have c20 : w2.cell? ⟨w.heap.size + 1 + 1, 0, none⟩ = some (.int .i64 0) := (d12.cell (p := ⟨w.heap.size + 1 + 1, 0, none⟩) t1 (by simp)).trans (c10)
          have c21 : w2.cell? ⟨w.heap.size + 1 + 1, 1, none⟩ = some (.int .i64 0) := (d12.cell (p := ⟨w.heap.size + 1 + 1, 1, none⟩) t1 (by simp)).trans (c11)
          have c22 : w2.cell? ⟨w.heap.size + 1 + 1, 2, none⟩ = some (.string ⟨#[]⟩) := (d12.cell (p := ⟨w.heap.size + 1 + 1, 2, none⟩) t1 (by simp)).trans (c12)
          have c23 : w2.cell? ⟨w.heap.size + 1 + 1, 3, none⟩ = some (.int .i64 0) := (d12.cell (p := ⟨w.heap.size + 1 + 1, 3, none⟩) t1 (by simp)).trans (c13)
          have c24 : w2.cell? ⟨w.heap.size + 1 + 1, 4, none⟩ = some (.int .i64 0) := (d12.cell (p := ⟨w.heap.size + 1 + 1, 4, none⟩) t1 (by simp)).trans (c14)
          have c2f0 : w2.frozen? ⟨w.heap.size + 1 + 1, 0, none⟩ = false := (d12.frozen (p := ⟨w.heap.size + 1 + 1, 0, none⟩) t1 (by simp)).trans (c1f0)
          have c2f1 : w2.frozen? ⟨w.heap.size + 1 + 1, 1, none⟩ = false := (d12.frozen (p := ⟨w.heap.size + 1 + 1, 1, none⟩) t1 (by simp)).trans (c1f1)
          have c2f2 : w2.frozen? ⟨w.heap.size + 1 + 1, 2, none⟩ = false := (d12.frozen (p := ⟨w.heap.size + 1 + 1, 2, none⟩) t1 (by simp)).trans (c1f2)
          have c2f3 : w2.frozen? ⟨w.heap.size + 1 + 1, 3, none⟩ = false := (d12.frozen (p := ⟨w.heap.size + 1 + 1, 3, none⟩) t1 (by simp)).trans (c1f3)
          have c2f4 : w2.frozen? ⟨w.heap.size + 1 + 1, 4, none⟩ = false := (d12.frozen (p := ⟨w.heap.size + 1 + 1, 4, none⟩) t1 (by simp)).trans (c1f4)
          have d20 : w2.cell? ⟨w1.heap.size, 0, none⟩ = some (.string p.core.kind) := ((c1b.trans0 c2).cell (p := ⟨w1.heap.size, 0, none⟩) (by simp) (by simp)).trans (by go_simp)
          have d21 : w2.cell? ⟨w1.heap.size, 1, none⟩ = some (.bool p.core.on) := ((c1b.trans0 c2).cell (p := ⟨w1.heap.size, 1, none⟩) (by simp) (by simp)).trans (by go_simp)
          have d22 : w2.cell? ⟨w1.heap.size, 2, none⟩ = some (.bool p.core.broken) := ((c1b.trans0 c2).cell (p := ⟨w1.heap.size, 2, none⟩) (by simp) (by simp)).trans (by go_simp)
          have d23 : w2.cell? ⟨w1.heap.size, 3, none⟩ = some (.slice A4 p.core.cells.length cap4) := ((c1b.trans0 c2).cell (p := ⟨w1.heap.size, 3, none⟩) (by simp) (by simp)).trans (by go_simp)
          have d24 : w2.cell? ⟨w1.heap.size, 4, none⟩ = some (.int .i64 p.core.count) := ((c1b.trans0 c2).cell (p := ⟨w1.heap.size, 4, none⟩) (by simp) (by simp)).trans (by go_simp)
          have d25 : w2.cell? ⟨w1.heap.size, 5, none⟩ = some (.slice A6 p.layers.length cap6) := ((c1b.trans0 c2).cell (p := ⟨w1.heap.size, 5, none⟩) (by simp) (by simp)).trans (by go_simp)
          have d2f0 : w2.frozen? ⟨w1.heap.size, 0, none⟩ = false := ((c1b.trans0 c2).frozen (p := ⟨w1.heap.size, 0, none⟩) (by simp) (by simp)).trans (by go_simp)
          have d2f1 : w2.frozen? ⟨w1.heap.size, 1, none⟩ = false := ((c1b.trans0 c2).frozen (p := ⟨w1.heap.size, 1, none⟩) (by simp) (by simp)).trans (by go_simp)
          have d2f2 : w2.frozen? ⟨w1.heap.size, 2, none⟩ = false := ((c1b.trans0 c2).frozen (p := ⟨w1.heap.size, 2, none⟩) (by simp) (by simp)).trans (by go_simp)
          have d2f3 : w2.frozen? ⟨w1.heap.size, 3, none⟩ = false := ((c1b.trans0 c2).frozen (p := ⟨w1.heap.size, 3, none⟩) (by simp) (by simp)).trans (by go_simp)
          have d2f4 : w2.frozen? ⟨w1.heap.size, 4, none⟩ = false := ((c1b.trans0 c2).frozen (p := ⟨w1.heap.size, 4, none⟩) (by simp) (by simp)).trans (by go_simp)
          have d2f5 : w2.frozen? ⟨w1.heap.size, 5, none⟩ = false := ((c1b.trans0 c2).frozen (p := ⟨w1.heap.size, 5, none⟩) (by simp) (by simp)).trans (by go_simp)
          clear ab0 ab1 ab2 ab3 ab4 ab5
          have t2 : w1.heap.size < w2.heap.size := by have := (c1b.trans0 c2).size; simp at this; omega
          have t2a : w.heap.size < w2.heap.size := by omega
          have t2b : w.heap.size + 1 < w2.heap.size := by omega
          have t2c : w.heap.size + 1 + 1 < w2.heap.size := by omega
          have E2 : Chg [] w w2 := E1.trans0 d12
          clear c2 c1b
          clear a10 a11 a12 a13 a14 a15 b10 b1f0 b11 b1f1 b12 b1f2 b13 b1f3 b14 b1f4 b15 b1f5 c10 c1f0 c11 c1f1 c12 c1f2 c13 c1f3 c14 c1f4
          go_wp2_with fail
          refine (FO.out _ E2).mono ?_
          rintro e w3 ⟨rfl, c3⟩
          have d13 : Chg [] w1 w3 := d12.trans0 c3
          have a30 : w3.cell? ⟨w.heap.size, 0, none⟩ = some (.string p.core.kind) := (c3.cell (p := ⟨w.heap.size, 0, none⟩) t2a (by simp)).trans (a20)
          have a31 : w3.cell? ⟨w.heap.size, 1, none⟩ = some (.bool p.core.on) := (c3.cell (p := ⟨w.heap.size, 1, none⟩) t2a (by simp)).trans (a21)
          have a32 : w3.cell? ⟨w.heap.size, 2, none⟩ = some (.bool p.core.broken) := (c3.cell (p := ⟨w.heap.size, 2, none⟩) t2a (by simp)).trans (a22)
          have a33 : w3.cell? ⟨w.heap.size, 3, none⟩ = some (.slice A3 p.core.cells.length cap3) := (c3.cell (p := ⟨w.heap.size, 3, none⟩) t2a (by simp)).trans (a23)
          have a34 : w3.cell? ⟨w.heap.size, 4, none⟩ = some (.int .i64 p.core.count) := (c3.cell (p := ⟨w.heap.size, 4, none⟩) t2a (by simp)).trans (a24)
          have a35 : w3.cell? ⟨w.heap.size, 5, none⟩ = some (.slice A5 p.layers.length cap5) := (c3.cell (p := ⟨w.heap.size, 5, none⟩) t2a (by simp)).trans (a25)
          have b30 : w3.cell? ⟨w.heap.size + 1, 0, none⟩ = some (.string ⟨#[]⟩) := (c3.cell (p := ⟨w.heap.size + 1, 0, none⟩) t2b (by simp)).trans (b20)
          have b31 : w3.cell? ⟨w.heap.size + 1, 1, none⟩ = some (.bool false) := (c3.cell (p := ⟨w.heap.size + 1, 1, none⟩) t2b (by simp)).trans (b21)
          have b32 : w3.cell? ⟨w.heap.size + 1, 2, none⟩ = some (.bool false) := (c3.cell (p := ⟨w.heap.size + 1, 2, none⟩) t2b (by simp)).trans (b22)
          have b33 : w3.cell? ⟨w.heap.size + 1, 3, none⟩ = some (.slice none 0 0) := (c3.cell (p := ⟨w.heap.size + 1, 3, none⟩) t2b (by simp)).trans (b23)
          have b34 : w3.cell? ⟨w.heap.size + 1, 4, none⟩ = some (.int .i64 0) := (c3.cell (p := ⟨w.heap.size + 1, 4, none⟩) t2b (by simp)).trans (b24)
          have b35 : w3.cell? ⟨w.heap.size + 1, 5, none⟩ = some (.slice none 0 0) := (c3.cell (p := ⟨w.heap.size + 1, 5, none⟩) t2b (by simp)).trans (b25)
          have b3f0 : w3.frozen? ⟨w.heap.size + 1, 0, none⟩ = false := (c3.frozen (p := ⟨w.heap.size + 1, 0, none⟩) t2b (by simp)).trans (b2f0)
          have b3f1 : w3.frozen? ⟨w.heap.size + 1, 1, none⟩ = false := (c3.frozen (p := ⟨w.heap.size + 1, 1, none⟩) t2b (by simp)).trans (b2f1)
          have b3f2 : w3.frozen? ⟨w.heap.size + 1, 2, none⟩ = false := (c3.frozen (p := ⟨w.heap.size + 1, 2, none⟩) t2b (by simp)).trans (b2f2)
          have b3f3 : w3.frozen? ⟨w.heap.size + 1, 3, none⟩ = false := (c3.frozen (p := ⟨w.heap.size + 1, 3, none⟩) t2b (by simp)).trans (b2f3)
          have b3f4 : w3.frozen? ⟨w.heap.size + 1, 4, none⟩ = false := (c3.frozen (p := ⟨w.heap.size + 1, 4, none⟩) t2b (by simp)).trans (b2f4)
          have b3f5 : w3.frozen? ⟨w.heap.size + 1, 5, none⟩ = false := (c3.frozen (p := ⟨w.heap.size + 1, 5, none⟩) t2b (by simp)).trans (b2f5)
          have c30 : w3.cell? ⟨w.heap.size + 1 + 1, 0, none⟩ = some (.int .i64 0) := (c3.cell (p := ⟨w.heap.size + 1 + 1, 0, none⟩) t2c (by simp)).trans (c20)
          have c31 : w3.cell? ⟨w.heap.size + 1 + 1, 1, none⟩ = some (.int .i64 0) := (c3.cell (p := ⟨w.heap.size + 1 + 1, 1, none⟩) t2c (by simp)).trans (c21)
          have c32 : w3.cell? ⟨w.heap.size + 1 + 1, 2, none⟩ = some (.string ⟨#[]⟩) := (c3.cell (p := ⟨w.heap.size + 1 + 1, 2, none⟩) t2c (by simp)).trans (c22)
          have c33 : w3.cell? ⟨w.heap.size + 1 + 1, 3, none⟩ = some (.int .i64 0) := (c3.cell (p := ⟨w.heap.size + 1 + 1, 3, none⟩) t2c (by simp)).trans (c23)
          have c34 : w3.cell? ⟨w.heap.size + 1 + 1, 4, none⟩ = some (.int .i64 0) := (c3.cell (p := ⟨w.heap.size + 1 + 1, 4, none⟩) t2c (by simp)).trans (c24)
          have c3f0 : w3.frozen? ⟨w.heap.size + 1 + 1, 0, none⟩ = false := (c3.frozen (p := ⟨w.heap.size + 1 + 1, 0, none⟩) t2c (by simp)).trans (c2f0)
          have c3f1 : w3.frozen? ⟨w.heap.size + 1 + 1, 1, none⟩ = false := (c3.frozen (p := ⟨w.heap.size + 1 + 1, 1, none⟩) t2c (by simp)).trans (c2f1)
          have c3f2 : w3.frozen? ⟨w.heap.size + 1 + 1, 2, none⟩ = false := (c3.frozen (p := ⟨w.heap.size + 1 + 1, 2, none⟩) t2c (by simp)).trans (c2f2)
          have c3f3 : w3.frozen? ⟨w.heap.size + 1 + 1, 3, none⟩ = false := (c3.frozen (p := ⟨w.heap.size + 1 + 1, 3, none⟩) t2c (by simp)).trans (c2f3)
          have c3f4 : w3.frozen? ⟨w.heap.size + 1 + 1, 4, none⟩ = false := (c3.frozen (p := ⟨w.heap.size + 1 + 1, 4, none⟩) t2c (by simp)).trans (c2f4)
          have d30 : w3.cell? ⟨w1.heap.size, 0, none⟩ = some (.string p.core.kind) := (c3.cell (p := ⟨w1.heap.size, 0, none⟩) t2 (by simp)).trans (d20)
          have d31 : w3.cell? ⟨w1.heap.size, 1, none⟩ = some (.bool p.core.on) := (c3.cell (p := ⟨w1.heap.size, 1, none⟩) t2 (by simp)).trans (d21)
          have d32 : w3.cell? ⟨w1.heap.size, 2, none⟩ = some (.bool p.core.broken) := (c3.cell (p := ⟨w1.heap.size, 2, none⟩) t2 (by simp)).trans (d22)
          have d33 : w3.cell? ⟨w1.heap.size, 3, none⟩ = some (.slice A4 p.core.cells.length cap4) := (c3.cell (p := ⟨w1.heap.size, 3, none⟩) t2 (by simp)).trans (d23)
          have d34 : w3.cell? ⟨w1.heap.size, 4, none⟩ = some (.int .i64 p.core.count) := (c3.cell (p := ⟨w1.heap.size, 4, none⟩) t2 (by simp)).trans (d24)
          have d35 : w3.cell? ⟨w1.heap.size, 5, none⟩ = some (.slice A6 p.layers.length cap6) := (c3.cell (p := ⟨w1.heap.size, 5, none⟩) t2 (by simp)).trans (d25)
          have d3f0 : w3.frozen? ⟨w1.heap.size, 0, none⟩ = false := (c3.frozen (p := ⟨w1.heap.size, 0, none⟩) t2 (by simp)).trans (d2f0)
          have d3f1 : w3.frozen? ⟨w1.heap.size, 1, none⟩ = false := (c3.frozen (p := ⟨w1.heap.size, 1, none⟩) t2 (by simp)).trans (d2f1)
          have d3f2 : w3.frozen? ⟨w1.heap.size, 2, none⟩ = false := (c3.frozen (p := ⟨w1.heap.size, 2, none⟩) t2 (by simp)).trans (d2f2)
          have d3f3 : w3.frozen? ⟨w1.heap.size, 3, none⟩ = false := (c3.frozen (p := ⟨w1.heap.size, 3, none⟩) t2 (by simp)).trans (d2f3)
          have d3f4 : w3.frozen? ⟨w1.heap.size, 4, none⟩ = false := (c3.frozen (p := ⟨w1.heap.size, 4, none⟩) t2 (by simp)).trans (d2f4)
          have d3f5 : w3.frozen? ⟨w1.heap.size, 5, none⟩ = false := (c3.frozen (p := ⟨w1.heap.size, 5, none⟩) t2 (by simp)).trans (d2f5)
          have t3 : w1.heap.size < w3.heap.size := Nat.lt_of_lt_of_le t2 c3.size
          have t3a : w.heap.size < w3.heap.size := by omega
          have t3b : w.heap.size + 1 < w3.heap.size := by omega
          have t3c : w.heap.size + 1 + 1 < w3.heap.size := by omega
          have E3 : Chg [] w w3 := E2.trans0 c3
          clear a20 a21 a22 a23 a24 a25 b20 b2f0 b21 b2f1 b22 b2f2 b23 b2f3 b24 b2f4 b25 b2f5 c20 c2f0 c21 c2f1 c22 c2f2 c23 c2f3 c24 c2f4 d20 d2f0 d21 d2f1 d22 d2f2 d23 d2f3 d24 d2f4 d25 d2f5
          go_wp2_with fail
          refine (OF.out _).mono ?_
          rintro e w3b ⟨rfl, hw3⟩
          obtain rfl := hw3.symm
          go_wp2_with fail
          go_region_law (first | (go_simp; go_at_call 47; (with_reducible refine (FO.out _ (by first | exact E3 | exact E3.drew | exact E3.drew.drew)).mono ?_); rintro e w4 ⟨rfl, c4d⟩; have c4 : Chg [] w3 w4 := (by first | exact c4d | exact ((Chg.refl [] w3).drew).trans0 c4d | exact ((Chg.refl [] w3).drew.drew).trans0 c4d); have b40 : w4.cell? ⟨w.heap.size + 1, 0, none⟩ = some (.string ⟨#[]⟩) := (c4.cell (p := ⟨w.heap.size + 1, 0, none⟩) t3b (by simp)).trans (b30); have b41 : w4.cell? ⟨w.heap.size + 1, 1, none⟩ = some (.bool false) := (c4.cell (p := ⟨w.heap.size + 1, 1, none⟩) t3b (by simp)).trans (b31); have b42 : w4.cell? ⟨w.heap.size + 1, 2, none⟩ = some (.bool false) := (c4.cell (p := ⟨w.heap.size + 1, 2, none⟩) t3b (by simp)).trans (b32); have b43 : w4.cell? ⟨w.heap.size + 1, 3, none⟩ = some (.slice none 0 0) := (c4.cell (p := ⟨w.heap.size + 1, 3, none⟩) t3b (by simp)).trans (b33); have b44 : w4.cell? ⟨w.heap.size + 1, 4, none⟩ = some (.int .i64 0) := (c4.cell (p := ⟨w.heap.size + 1, 4, none⟩) t3b (by simp)).trans (b34); have b45 : w4.cell? ⟨w.heap.size + 1, 5, none⟩ = some (.slice none 0 0) := (c4.cell (p := ⟨w.heap.size + 1, 5, none⟩) t3b (by simp)).trans (b35); have b4f0 : w4.frozen? ⟨w.heap.size + 1, 0, none⟩ = false := (c4.frozen (p := ⟨w.heap.size + 1, 0, none⟩) t3b (by simp)).trans (b3f0); have b4f1 : w4.frozen? ⟨w.heap.size + 1, 1, none⟩ = false := (c4.frozen (p := ⟨w.heap.size + 1, 1, none⟩) t3b (by simp)).trans (b3f1); have b4f2 : w4.frozen? ⟨w.heap.size + 1, 2, none⟩ = false := (c4.frozen (p := ⟨w.heap.size + 1, 2, none⟩) t3b (by simp)).trans (b3f2); have b4f3 : w4.frozen? ⟨w.heap.size + 1, 3, none⟩ = false := (c4.frozen (p := ⟨w.heap.size + 1, 3, none⟩) t3b (by simp)).trans (b3f3); have b4f4 : w4.frozen? ⟨w.heap.size + 1, 4, none⟩ = false := (c4.frozen (p := ⟨w.heap.size + 1, 4, none⟩) t3b (by simp)).trans (b3f4); have b4f5 : w4.frozen? ⟨w.heap.size + 1, 5, none⟩ = false := (c4.frozen (p := ⟨w.heap.size + 1, 5, none⟩) t3b (by simp)).trans (b3f5); have c40 : w4.cell? ⟨w.heap.size + 1 + 1, 0, none⟩ = some (.int .i64 0) := (c4.cell (p := ⟨w.heap.size + 1 + 1, 0, none⟩) t3c (by simp)).trans (c30); have c41 : w4.cell? ⟨w.heap.size + 1 + 1, 1, none⟩ = some (.int .i64 0) := (c4.cell (p := ⟨w.heap.size + 1 + 1, 1, none⟩) t3c (by simp)).trans (c31); have c42 : w4.cell? ⟨w.heap.size + 1 + 1, 2, none⟩ = some (.string ⟨#[]⟩) := (c4.cell (p := ⟨w.heap.size + 1 + 1, 2, none⟩) t3c (by simp)).trans (c32); have c43 : w4.cell? ⟨w.heap.size + 1 + 1, 3, none⟩ = some (.int .i64 0) := (c4.cell (p := ⟨w.heap.size + 1 + 1, 3, none⟩) t3c (by simp)).trans (c33); have c44 : w4.cell? ⟨w.heap.size + 1 + 1, 4, none⟩ = some (.int .i64 0) := (c4.cell (p := ⟨w.heap.size + 1 + 1, 4, none⟩) t3c (by simp)).trans (c34); have c4f0 : w4.frozen? ⟨w.heap.size + 1 + 1, 0, none⟩ = false := (c4.frozen (p := ⟨w.heap.size + 1 + 1, 0, none⟩) t3c (by simp)).trans (c3f0); have c4f1 : w4.frozen? ⟨w.heap.size + 1 + 1, 1, none⟩ = false := (c4.frozen (p := ⟨w.heap.size + 1 + 1, 1, none⟩) t3c (by simp)).trans (c3f1); have c4f2 : w4.frozen? ⟨w.heap.size + 1 + 1, 2, none⟩ = false := (c4.frozen (p := ⟨w.heap.size + 1 + 1, 2, none⟩) t3c (by simp)).trans (c3f2); have c4f3 : w4.frozen? ⟨w.heap.size + 1 + 1, 3, none⟩ = false := (c4.frozen (p := ⟨w.heap.size + 1 + 1, 3, none⟩) t3c (by simp)).trans (c3f3); have c4f4 : w4.frozen? ⟨w.heap.size + 1 + 1, 4, none⟩ = false := (c4.frozen (p := ⟨w.heap.size + 1 + 1, 4, none⟩) t3c (by simp)).trans (c3f4); have d40 : w4.cell? ⟨w1.heap.size, 0, none⟩ = some (.string p.core.kind) := (c4.cell (p := ⟨w1.heap.size, 0, none⟩) t3 (by simp)).trans (d30); have d41 : w4.cell? ⟨w1.heap.size, 1, none⟩ = some (.bool p.core.on) := (c4.cell (p := ⟨w1.heap.size, 1, none⟩) t3 (by simp)).trans (d31); have d42 : w4.cell? ⟨w1.heap.size, 2, none⟩ = some (.bool p.core.broken) := (c4.cell (p := ⟨w1.heap.size, 2, none⟩) t3 (by simp)).trans (d32); have d43 : w4.cell? ⟨w1.heap.size, 3, none⟩ = some (.slice A4 p.core.cells.length cap4) := (c4.cell (p := ⟨w1.heap.size, 3, none⟩) t3 (by simp)).trans (d33); have d44 : w4.cell? ⟨w1.heap.size, 4, none⟩ = some (.int .i64 p.core.count) := (c4.cell (p := ⟨w1.heap.size, 4, none⟩) t3 (by simp)).trans (d34); have d45 : w4.cell? ⟨w1.heap.size, 5, none⟩ = some (.slice A6 p.layers.length cap6) := (c4.cell (p := ⟨w1.heap.size, 5, none⟩) t3 (by simp)).trans (d35); have t4a : w.heap.size + 1 < w4.heap.size := Nat.lt_of_lt_of_le t3b c4.size; have t4b : w.heap.size + 1 + 1 < w4.heap.size := Nat.lt_of_lt_of_le t3c c4.size; simp only []) | fail)
          all_goals
            go_wp2_with fail
            refine bodyPost_ret (v := .tuple #[.agg #[.string p.core.kind, .bool p.core.on, .bool p.core.broken, .slice A4 p.core.cells.length cap4, .int .i64 p.core.count, .slice A6 p.layers.length cap6], .agg #[.int .i64 1, .int .i64 0, .string ⟨#[]⟩, .int .i64 x.1, .int .i64 (faceAt p p.layers.length)]]) (by simp only [results, Tryd.results46]; go_simp) rfl ?_
            rw [wrapOf_lacks hx n1p n3 n4]
            refine ⟨A4, cap4, _, _, rfl, ?_⟩
            exact PartNew.ends (w := w) (wb := (((w.alloc (.cells #[.string p.core.kind, .bool p.core.on, .bool p.core.broken, .slice A3 p.core.cells.length cap3, .int .i64 p.core.count, .slice A5 p.layers.length cap5] 62)).alloc (.cells #[.string ⟨#[]⟩, .bool false, .bool false, .slice none 0 0, .int .i64 0, .slice none 0 0] 62)).alloc (.cells #[.int .i64 0, .int .i64 0, .string ⟨#[]⟩, .int .i64 0, .int .i64 0] 69))) (g1 := w.heap.size + 1) (g2 := w.heap.size + 1 + 1) n1 (by repeat (first | with_reducible exact Chg.refl _ _ | with_reducible refine Chg.drew ?_ | with_reducible refine Chg.alloc ?_ _)) (d13.trans0 c4) (by omega) (by omega) (by simp <;> omega) (by simp <;> omega) (by repeat (first | with_reducible exact Chg.refl _ _ | with_reducible refine Chg.drew ?_ | with_reducible refine Chg.alloc ?_ _ | with_reducible refine Chg.setCell ?_ (.inl (by simp)) _))
    · have IP := Lib.hid (fun W (hW : Chg [] w W) => (ip W hW).mono (BoolPost.neg n1p))
      clear ip r3 r5 hs
      go_enter Tryd.func46, Tryd.ntmps46
      go_wp2_with fail
      refine (CP.out _ ?_).mono ?_
      · repeat (first | with_reducible exact Chg.refl _ _ | with_reducible refine Chg.drew ?_ | with_reducible refine Chg.alloc ?_ _)
      rintro e w1 ⟨A4, cap4, A6, cap6, rfl, n1⟩
      have e1 : Chg [] (((w.alloc (.cells #[.string p.core.kind, .bool p.core.on, .bool p.core.broken, .slice A3 p.core.cells.length cap3, .int .i64 p.core.count, .slice A5 p.layers.length cap5] 62)).alloc (.cells #[.string ⟨#[]⟩, .bool false, .bool false, .slice none 0 0, .int .i64 0, .slice none 0 0] 62)).alloc (.cells #[.int .i64 0, .int .i64 0, .string ⟨#[]⟩, .int .i64 0, .int .i64 0] 69)) w1 := n1.2.chg
      have t1 : w.heap.size + 1 + 1 < w1.heap.size := by have := e1.size; simp at this; omega
      have t1a : w.heap.size + 1 < w1.heap.size := by omega
      have t1b : w.heap.size < w1.heap.size := by omega
      have tr : w1.heap.size < w1.heap.size + 1 := Nat.lt_succ_self _
      have E1 : Chg [] w w1 := Chg.trans0 (by repeat (first | with_reducible exact Chg.refl _ _ | with_reducible refine Chg.drew ?_ | with_reducible refine Chg.alloc ?_ _)) e1
      have a10 : w1.cell? ⟨w.heap.size, 0, none⟩ = some (.string p.core.kind) := (e1.cell (p := ⟨w.heap.size, 0, none⟩) (by simp <;> omega) (by simp)).trans (by go_simp)
      have a11 : w1.cell? ⟨w.heap.size, 1, none⟩ = some (.bool p.core.on) := (e1.cell (p := ⟨w.heap.size, 1, none⟩) (by simp <;> omega) (by simp)).trans (by go_simp)
      have a12 : w1.cell? ⟨w.heap.size, 2, none⟩ = some (.bool p.core.broken) := (e1.cell (p := ⟨w.heap.size, 2, none⟩) (by simp <;> omega) (by simp)).trans (by go_simp)
      have a13 : w1.cell? ⟨w.heap.size, 3, none⟩ = some (.slice A3 p.core.cells.length cap3) := (e1.cell (p := ⟨w.heap.size, 3, none⟩) (by simp <;> omega) (by simp)).trans (by go_simp)
      have a14 : w1.cell? ⟨w.heap.size, 4, none⟩ = some (.int .i64 p.core.count) := (e1.cell (p := ⟨w.heap.size, 4, none⟩) (by simp <;> omega) (by simp)).trans (by go_simp)
      have a15 : w1.cell? ⟨w.heap.size, 5, none⟩ = some (.slice A5 p.layers.length cap5) := (e1.cell (p := ⟨w.heap.size, 5, none⟩) (by simp <;> omega) (by simp)).trans (by go_simp)
      have b10 : w1.cell? ⟨w.heap.size + 1, 0, none⟩ = some (.string ⟨#[]⟩) := (e1.cell (p := ⟨w.heap.size + 1, 0, none⟩) (by simp <;> omega) (by simp)).trans (by go_simp)
      have b11 : w1.cell? ⟨w.heap.size + 1, 1, none⟩ = some (.bool false) := (e1.cell (p := ⟨w.heap.size + 1, 1, none⟩) (by simp <;> omega) (by simp)).trans (by go_simp)
      have b12 : w1.cell? ⟨w.heap.size + 1, 2, none⟩ = some (.bool false) := (e1.cell (p := ⟨w.heap.size + 1, 2, none⟩) (by simp <;> omega) (by simp)).trans (by go_simp)
      have b13 : w1.cell? ⟨w.heap.size + 1, 3, none⟩ = some (.slice none 0 0) := (e1.cell (p := ⟨w.heap.size + 1, 3, none⟩) (by simp <;> omega) (by simp)).trans (by go_simp)
      have b14 : w1.cell? ⟨w.heap.size + 1, 4, none⟩ = some (.int .i64 0) := (e1.cell (p := ⟨w.heap.size + 1, 4, none⟩) (by simp <;> omega) (by simp)).trans (by go_simp)
      have b15 : w1.cell? ⟨w.heap.size + 1, 5, none⟩ = some (.slice none 0 0) := (e1.cell (p := ⟨w.heap.size + 1, 5, none⟩) (by simp <;> omega) (by simp)).trans (by go_simp)
      have b1f0 : w1.frozen? ⟨w.heap.size + 1, 0, none⟩ = false := (e1.frozen (p := ⟨w.heap.size + 1, 0, none⟩) (by simp <;> omega) (by simp)).trans (by go_simp)
      have b1f1 : w1.frozen? ⟨w.heap.size + 1, 1, none⟩ = false := (e1.frozen (p := ⟨w.heap.size + 1, 1, none⟩) (by simp <;> omega) (by simp)).trans (by go_simp)
      have b1f2 : w1.frozen? ⟨w.heap.size + 1, 2, none⟩ = false := (e1.frozen (p := ⟨w.heap.size + 1, 2, none⟩) (by simp <;> omega) (by simp)).trans (by go_simp)
      have b1f3 : w1.frozen? ⟨w.heap.size + 1, 3, none⟩ = false := (e1.frozen (p := ⟨w.heap.size + 1, 3, none⟩) (by simp <;> omega) (by simp)).trans (by go_simp)
      have b1f4 : w1.frozen? ⟨w.heap.size + 1, 4, none⟩ = false := (e1.frozen (p := ⟨w.heap.size + 1, 4, none⟩) (by simp <;> omega) (by simp)).trans (by go_simp)
      have b1f5 : w1.frozen? ⟨w.heap.size + 1, 5, none⟩ = false := (e1.frozen (p := ⟨w.heap.size + 1, 5, none⟩) (by simp <;> omega) (by simp)).trans (by go_simp)
      have c10 : w1.cell? ⟨w.heap.size + 1 + 1, 0, none⟩ = some (.int .i64 0) := (e1.cell (p := ⟨w.heap.size + 1 + 1, 0, none⟩) (by simp <;> omega) (by simp)).trans (by go_simp)
      have c11 : w1.cell? ⟨w.heap.size + 1 + 1, 1, none⟩ = some (.int .i64 0) := (e1.cell (p := ⟨w.heap.size + 1 + 1, 1, none⟩) (by simp <;> omega) (by simp)).trans (by go_simp)
      have c12 : w1.cell? ⟨w.heap.size + 1 + 1, 2, none⟩ = some (.string ⟨#[]⟩) := (e1.cell (p := ⟨w.heap.size + 1 + 1, 2, none⟩) (by simp <;> omega) (by simp)).trans (by go_simp)
      have c13 : w1.cell? ⟨w.heap.size + 1 + 1, 3, none⟩ = some (.int .i64 0) := (e1.cell (p := ⟨w.heap.size + 1 + 1, 3, none⟩) (by simp <;> omega) (by simp)).trans (by go_simp)
      have c14 : w1.cell? ⟨w.heap.size + 1 + 1, 4, none⟩ = some (.int .i64 0) := (e1.cell (p := ⟨w.heap.size + 1 + 1, 4, none⟩) (by simp <;> omega) (by simp)).trans (by go_simp)
      have c1f0 : w1.frozen? ⟨w.heap.size + 1 + 1, 0, none⟩ = false := (e1.frozen (p := ⟨w.heap.size + 1 + 1, 0, none⟩) (by simp <;> omega) (by simp)).trans (by go_simp)
      have c1f1 : w1.frozen? ⟨w.heap.size + 1 + 1, 1, none⟩ = false := (e1.frozen (p := ⟨w.heap.size + 1 + 1, 1, none⟩) (by simp <;> omega) (by simp)).trans (by go_simp)
      have c1f2 : w1.frozen? ⟨w.heap.size + 1 + 1, 2, none⟩ = false := (e1.frozen (p := ⟨w.heap.size + 1 + 1, 2, none⟩) (by simp <;> omega) (by simp)).trans (by go_simp)
      have c1f3 : w1.frozen? ⟨w.heap.size + 1 + 1, 3, none⟩ = false := (e1.frozen (p := ⟨w.heap.size + 1 + 1, 3, none⟩) (by simp <;> omega) (by simp)).trans (by go_simp)
      have c1f4 : w1.frozen? ⟨w.heap.size + 1 + 1, 4, none⟩ = false := (e1.frozen (p := ⟨w.heap.size + 1 + 1, 4, none⟩) (by simp <;> omega) (by simp)).trans (by go_simp)
      clear e1
      go_wp2_with fail
      refine (LF.out _).mono ?_
      rintro e w1b ⟨rfl, c1b⟩
      have d1b : Chg [] w1 w1b := ((Chg.refl [] w1).alloc _).trans0 c1b
      have ab0 : w1b.cell? ⟨w.heap.size, 0, none⟩ = some (.string p.core.kind) := (d1b.cell (p := ⟨w.heap.size, 0, none⟩) t1b (by simp)).trans (a10)
      have ab1 : w1b.cell? ⟨w.heap.size, 1, none⟩ = some (.bool p.core.on) := (d1b.cell (p := ⟨w.heap.size, 1, none⟩) t1b (by simp)).trans (a11)
      have ab2 : w1b.cell? ⟨w.heap.size, 2, none⟩ = some (.bool p.core.broken) := (d1b.cell (p := ⟨w.heap.size, 2, none⟩) t1b (by simp)).trans (a12)
      have ab3 : w1b.cell? ⟨w.heap.size, 3, none⟩ = some (.slice A3 p.core.cells.length cap3) := (d1b.cell (p := ⟨w.heap.size, 3, none⟩) t1b (by simp)).trans (a13)
      have ab4 : w1b.cell? ⟨w.heap.size, 4, none⟩ = some (.int .i64 p.core.count) := (d1b.cell (p := ⟨w.heap.size, 4, none⟩) t1b (by simp)).trans (a14)
      have ab5 : w1b.cell? ⟨w.heap.size, 5, none⟩ = some (.slice A5 p.layers.length cap5) := (d1b.cell (p := ⟨w.heap.size, 5, none⟩) t1b (by simp)).trans (a15)
      go_wp2_with fail
      refine (IP.out _ (E1.trans0 d1b)).mono ?_
      rintro e w2 ⟨rfl, c2⟩
      have d12 : Chg [] w1 w2 := d1b.trans0 c2
      have a20 : w2.cell? ⟨w.heap.size, 0, none⟩ = some (.string p.core.kind) := (d12.cell (p := ⟨w.heap.size, 0, none⟩) t1b (by simp)).trans (a10)
      have a21 : w2.cell? ⟨w.heap.size, 1, none⟩ = some (.bool p.core.on) := (d12.cell (p := ⟨w.heap.size, 1, none⟩) t1b (by simp)).trans (a11)
      have a22 : w2.cell? ⟨w.heap.size, 2, none⟩ = some (.bool p.core.broken) := (d12.cell (p := ⟨w.heap.size, 2, none⟩) t1b (by simp)).trans (a12)
      have a23 : w2.cell? ⟨w.heap.size, 3, none⟩ = some (.slice A3 p.core.cells.length cap3) := (d12.cell (p := ⟨w.heap.size, 3, none⟩) t1b (by simp)).trans (a13)
      have a24 : w2.cell? ⟨w.heap.size, 4, none⟩ = some (.int .i64 p.core.count) := (d12.cell (p := ⟨w.heap.size, 4, none⟩) t1b (by simp)).trans (a14)
      have a25 : w2.cell? ⟨w.heap.size, 5, none⟩ = some (.slice A5 p.layers.length cap5) := (d12.cell (p := ⟨w.heap.size, 5, none⟩) t1b (by simp)).trans (a15)
      have b20 : w2.cell? ⟨w.heap.size + 1, 0, none⟩ = some (.string ⟨#[]⟩) := (d12.cell (p := ⟨w.heap.size + 1, 0, none⟩) t1a (by simp)).trans (b10)
      have b21 : w2.cell? ⟨w.heap.size + 1, 1, none⟩ = some (.bool false) := (d12.cell (p := ⟨w.heap.size + 1, 1, none⟩) t1a (by simp)).trans (b11)
      have b22 : w2.cell? ⟨w.heap.size + 1, 2, none⟩ = some (.bool false) := (d12.cell (p := ⟨w.heap.size + 1, 2, none⟩) t1a (by simp)).trans (b12)
      have b23 : w2.cell? ⟨w.heap.size + 1, 3, none⟩ = some (.slice none 0 0) := (d12.cell (p := ⟨w.heap.size + 1, 3, none⟩) t1a (by simp)).trans (b13)
      have b24 : w2.cell? ⟨w.heap.size + 1, 4, none⟩ = some (.int .i64 0) := (d12.cell (p := ⟨w.heap.size + 1, 4, none⟩) t1a (by simp)).trans (b14)
      have b25 : w2.cell? ⟨w.heap.size + 1, 5, none⟩ = some (.slice none 0 0) := (d12.cell (p := ⟨w.heap.size + 1, 5, none⟩) t1a (by simp)).trans (b15)
      have b2f0 : w2.frozen? ⟨w.heap.size + 1, 0, none⟩ = false := (d12.frozen (p := ⟨w.heap.size + 1, 0, none⟩) t1a (by simp)).trans (b1f0)
      have b2f1 : w2.frozen? ⟨w.heap.size + 1, 1, none⟩ = false := (d12.frozen (p := ⟨w.heap.size + 1, 1, none⟩) t1a (by simp)).trans (b1f1)
      have b2f2 : w2.frozen? ⟨w.heap.size + 1, 2, none⟩ = false := (d12.frozen (p := ⟨w.heap.size + 1, 2, none⟩) t1a (by simp)).trans (b1f2)
      have b2f3 : w2.frozen? ⟨w.heap.size + 1, 3, none⟩ = false := (d12.frozen (p := ⟨w.heap.size + 1, 3, none⟩) t1a (by simp)).trans (b1f3)
      have b2f4 : w2.frozen? ⟨w.heap.size + 1, 4, none⟩ = false := (d12.frozen (p := ⟨w.heap.size + 1, 4, none⟩) t1a (by simp)).trans (b1f4)
      have b2f5 : w2.frozen? ⟨w.heap.size + 1, 5, none⟩ = false := (d12.frozen (p := ⟨w.heap.size + 1, 5, none⟩) t1a (by simp)).trans (b1f5)
      have c20 : w2.cell? ⟨w.heap.size + 1 + 1, 0, none⟩ = some (.int .i64 0) := (d12.cell (p := ⟨w.heap.size + 1 + 1, 0, none⟩) t1 (by simp)).trans (c10)
      have c21 : w2.cell? ⟨w.heap.size + 1 + 1, 1, none⟩ = some (.int .i64 0) := (d12.cell (p := ⟨w.heap.size + 1 + 1, 1, none⟩) t1 (by simp)).trans (c11)
      have c22 : w2.cell? ⟨w.heap.size + 1 + 1, 2, none⟩ = some (.string ⟨#[]⟩) := (d12.cell (p := ⟨w.heap.size + 1 + 1, 2, none⟩) t1 (by simp)).trans (c12)
      have c23 : w2.cell? ⟨w.heap.size + 1 + 1, 3, none⟩ = some (.int .i64 0) := (d12.cell (p := ⟨w.heap.size + 1 + 1, 3, none⟩) t1 (by simp)).trans (c13)
      have c24 : w2.cell? ⟨w.heap.size + 1 + 1, 4, none⟩ = some (.int .i64 0) := (d12.cell (p := ⟨w.heap.size + 1 + 1, 4, none⟩) t1 (by simp)).trans (c14)
      have c2f0 : w2.frozen? ⟨w.heap.size + 1 + 1, 0, none⟩ = false := (d12.frozen (p := ⟨w.heap.size + 1 + 1, 0, none⟩) t1 (by simp)).trans (c1f0)
      have c2f1 : w2.frozen? ⟨w.heap.size + 1 + 1, 1, none⟩ = false := (d12.frozen (p := ⟨w.heap.size + 1 + 1, 1, none⟩) t1 (by simp)).trans (c1f1)
      have c2f2 : w2.frozen? ⟨w.heap.size + 1 + 1, 2, none⟩ = false := (d12.frozen (p := ⟨w.heap.size + 1 + 1, 2, none⟩) t1 (by simp)).trans (c1f2)
      have c2f3 : w2.frozen? ⟨w.heap.size + 1 + 1, 3, none⟩ = false := (d12.frozen (p := ⟨w.heap.size + 1 + 1, 3, none⟩) t1 (by simp)).trans (c1f3)
      have c2f4 : w2.frozen? ⟨w.heap.size + 1 + 1, 4, none⟩ = false := (d12.frozen (p := ⟨w.heap.size + 1 + 1, 4, none⟩) t1 (by simp)).trans (c1f4)
      have d20 : w2.cell? ⟨w1.heap.size, 0, none⟩ = some (.string p.core.kind) := ((c1b.trans0 c2).cell (p := ⟨w1.heap.size, 0, none⟩) (by simp) (by simp)).trans (by go_simp)
      have d21 : w2.cell? ⟨w1.heap.size, 1, none⟩ = some (.bool p.core.on) := ((c1b.trans0 c2).cell (p := ⟨w1.heap.size, 1, none⟩) (by simp) (by simp)).trans (by go_simp)
      have d22 : w2.cell? ⟨w1.heap.size, 2, none⟩ = some (.bool p.core.broken) := ((c1b.trans0 c2).cell (p := ⟨w1.heap.size, 2, none⟩) (by simp) (by simp)).trans (by go_simp)
      have d23 : w2.cell? ⟨w1.heap.size, 3, none⟩ = some (.slice A4 p.core.cells.length cap4) := ((c1b.trans0 c2).cell (p := ⟨w1.heap.size, 3, none⟩) (by simp) (by simp)).trans (by go_simp)
      have d24 : w2.cell? ⟨w1.heap.size, 4, none⟩ = some (.int .i64 p.core.count) := ((c1b.trans0 c2).cell (p := ⟨w1.heap.size, 4, none⟩) (by simp) (by simp)).trans (by go_simp)
      have d25 : w2.cell? ⟨w1.heap.size, 5, none⟩ = some (.slice A6 p.layers.length cap6) := ((c1b.trans0 c2).cell (p := ⟨w1.heap.size, 5, none⟩) (by simp) (by simp)).trans (by go_simp)
      have d2f0 : w2.frozen? ⟨w1.heap.size, 0, none⟩ = false := ((c1b.trans0 c2).frozen (p := ⟨w1.heap.size, 0, none⟩) (by simp) (by simp)).trans (by go_simp)
      have d2f1 : w2.frozen? ⟨w1.heap.size, 1, none⟩ = false := ((c1b.trans0 c2).frozen (p := ⟨w1.heap.size, 1, none⟩) (by simp) (by simp)).trans (by go_simp)
      have d2f2 : w2.frozen? ⟨w1.heap.size, 2, none⟩ = false := ((c1b.trans0 c2).frozen (p := ⟨w1.heap.size, 2, none⟩) (by simp) (by simp)).trans (by go_simp)
      have d2f3 : w2.frozen? ⟨w1.heap.size, 3, none⟩ = false := ((c1b.trans0 c2).frozen (p := ⟨w1.heap.size, 3, none⟩) (by simp) (by simp)).trans (by go_simp)
      have d2f4 : w2.frozen? ⟨w1.heap.size, 4, none⟩ = false := ((c1b.trans0 c2).frozen (p := ⟨w1.heap.size, 4, none⟩) (by simp) (by simp)).trans (by go_simp)
      have d2f5 : w2.frozen? ⟨w1.heap.size, 5, none⟩ = false := ((c1b.trans0 c2).frozen (p := ⟨w1.heap.size, 5, none⟩) (by simp) (by simp)).trans (by go_simp)
      clear ab0 ab1 ab2 ab3 ab4 ab5
      have t2 : w1.heap.size < w2.heap.size := by have := (c1b.trans0 c2).size; simp at this; omega
      have t2a : w.heap.size < w2.heap.size := by omega
      have t2b : w.heap.size + 1 < w2.heap.size := by omega
      have t2c : w.heap.size + 1 + 1 < w2.heap.size := by omega
      have E2 : Chg [] w w2 := E1.trans0 d12
      clear c2 c1b
      clear a10 a11 a12 a13 a14 a15 b10 b1f0 b11 b1f1 b12 b1f2 b13 b1f3 b14 b1f4 b15 b1f5 c10 c1f0 c11 c1f1 c12 c1f2 c13 c1f3 c14 c1f4
      go_wp2_with fail
      refine bodyPost_ret (v := .tuple #[.agg #[.string p.core.kind, .bool p.core.on, .bool p.core.broken, .slice A4 p.core.cells.length cap4, .int .i64 p.core.count, .slice A6 p.layers.length cap6], .agg #[.int .i64 7, .int .i64 0, .string ⟨#[]⟩, .int .i64 0, .int .i64 0]]) (by simp only [results, Tryd.results46]; go_simp) rfl ?_
      rw [wrapOf_bad n1p]
      refine ⟨A4, cap4, _, _, rfl, ?_⟩
      exact PartNew.ends (w := w) (wb := (((w.alloc (.cells #[.string p.core.kind, .bool p.core.on, .bool p.core.broken, .slice A3 p.core.cells.length cap3, .int .i64 p.core.count, .slice A5 p.layers.length cap5] 62)).alloc (.cells #[.string ⟨#[]⟩, .bool false, .bool false, .slice none 0 0, .int .i64 0, .slice none 0 0] 62)).alloc (.cells #[.int .i64 0, .int .i64 0, .string ⟨#[]⟩, .int .i64 0, .int .i64 0] 69))) (g1 := w.heap.size + 1) (g2 := w.heap.size + 1 + 1) n1 (by repeat (first | with_reducible exact Chg.refl _ _ | with_reducible refine Chg.drew ?_ | with_reducible refine Chg.alloc ?_ _)) d12 (by omega) (by omega) (by simp <;> omega) (by simp <;> omega) (by repeat (first | with_reducible exact Chg.refl _ _ | with_reducible refine Chg.drew ?_ | with_reducible refine Chg.alloc ?_ _ | with_reducible refine Chg.setCell ?_ (.inl (by simp)) _))
end Go.Proofs.YtapmknkelihacaaDoor
