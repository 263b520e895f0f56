/- Lists of texts: as plain data; the walks of their size, copy and equality. -/
import Derived.Test.YtgnggiibhkphjaaGreatDoorBase
namespace Go.Proofs.YtgnggiibhkphjaaGreatDoor
open Go.RowKit

def strC (s : ByteArray) : List Dat := [.v (.string s)]
def strs (l : List ByteArray) : Dat := .s l.length (l.flatMap strC)
theorem strC_len (s : ByteArray) : (strC s).length = 1 := rfl
theorem strs_row {w : World} {B : Nat} {l : List ByteArray} {u : Value} (h : Rd w B (strs l) u) : ∃ A cap, u = .slice A l.length cap ∧ l.length ≤ cap ∧ cap ≤ maxLen ∧ RowAt w B strC 1 l A := h.row strC_len (by omega)
theorem strs_cells {w : World} {B : Nat} {l : List ByteArray} {A : Option Addr} (h : RowAt w B strC 1 l A) (k : Nat) (hk : k < l.length) : ∃ b off, A = some ⟨b, off, none⟩ ∧ b < B ∧ w.cell? ⟨b, off + k, none⟩ = some (.string l[k]) := by
  obtain ⟨b, off, rfl, hb, hx⟩ := h k hk
  obtain ⟨u, hu, hd⟩ := hx 0 _ rfl
  rw [Rd] at hd
  subst hd
  exact ⟨b, off, rfl, hb, by simpa using hu⟩
def strsW1 (l : List ByteArray) : Nat := (l.map ByteArray.size).sum
def strsW (l : List ByteArray) : Nat := l.length + strsW1 l
theorem string_info : (Tryz.prog.info? 9).map (fun i => (i.zero, i.size, i.bytes)) = some (some (.string ⟨#[]⟩), 1, 16) := by kernel_rfl


end Go.Proofs.YtgnggiibhkphjaaGreatDoor
