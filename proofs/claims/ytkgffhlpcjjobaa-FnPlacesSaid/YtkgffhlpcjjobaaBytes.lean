/- Bytes as an argument. Conditions: none. -/
import Derived.Test.YtkgffhlpcjjobaaGround
import Derived.Test.YtkgffhlpcjjobaaCurs
namespace Go.Proofs.Ytkgffhlpcjjobaa
open Go.ChangeShapes Go.WideShapes Go.RowKit Go.Deep

/-- A byte. -/
abbrev ByteN := {n : Int // 0 ≤ n ∧ n ≤ 255}
def byteF (n : ByteN) : List Dat := [.v (.int .u8 n.1)]
theorem byteF_len (n : ByteN) : (byteF n).length = 1 := rfl
theorem Opens.u8 {P : Program} {N : Nat} {t : TypeId} (ht : P.underlying t = some (.int .u8)) : Opens P N t byteF := by
  intro H enc w n cs x _ h
  obtain ⟨m, rfl, _, hw⟩ := DataW.trod_int ht h
  exact ⟨⟨m, bounds_u8 hw⟩, by simp [byteF, FitL, FitD, FitV], RdV.one (by rw [Rd])⟩
theorem byte_ocells : Try.prog.cellsOf 5 = 1 := by kernel_rfl
theorem bytes_opens (N : Nat) : Opens Try.prog N 22 (listF byteF) :=
  Opens.mono (Opens.slice (F := byteF) Try.underlying22 byte_ocells (by omega) byteF_len (Opens.u8 (N := N) Try.underlying5)) (by omega)
theorem bytes_map (l : List ByteN) : l.flatMap byteF = l.map (fun n => Dat.v (.int .u8 n.1)) := by
  induction l with
  | nil => rfl
  | cons a l ih => rw [List.flatMap_cons, ih]; rfl
/-- Bytes that read as data, as the cursor takes them. -/
theorem bytes_row {w : World} {B : Nat} {l : List ByteN} {u : Value} (h : Rd w B (.s l.length (l.flatMap byteF)) u) : ∃ A cap, u = .slice A l.length cap ∧ l.length ≤ cap ∧ cap ≤ maxLen ∧ BytesAt w B A l.length := by
  obtain ⟨A, cap, rfl, h0, h1, h2⟩ := h.at_
  refine ⟨A, cap, rfl, h0, h1, fun j hj => ?_⟩
  have hne : l.flatMap byteF ≠ [] := by
    rw [bytes_map]
    intro e
    have := congrArg List.length e
    simp at this
    subst this
    simp at hj
  obtain ⟨b, off, rfl, hb, hx⟩ := h2 hne
  obtain ⟨u, hu, hd⟩ := hx j (.v (.int .u8 l[j].1)) (by rw [bytes_map]; simp [hj])
  rw [Rd] at hd
  subst hd
  exact ⟨b, off, l[j].1, rfl, hb, hu, l[j].2⟩
end Go.Proofs.Ytkgffhlpcjjobaa
