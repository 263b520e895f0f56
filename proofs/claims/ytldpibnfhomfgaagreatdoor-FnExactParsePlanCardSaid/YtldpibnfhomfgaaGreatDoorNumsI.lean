/- The text of a number in the program: FormatNumber by strconv.Itoa (the shelf's contract). Conditions: the table of powers of ten reads as it is laid. / ParseNumber of the program, by strconv.Atoi (the shelf's contracts). Conditions: the tables and variables of the library stand as they are laid. -/
import Derived.Test.YtldpibnfhomfgaaGreatDoorNums
import Derived.Test.YtldpibnfhomfgaaGreatDoorShItoa
import Derived.Test.YtldpibnfhomfgaaGreatDoorShAtoi
import Derived.Lib.AtoiErrMem
namespace Go.Proofs.YtldpibnfhomfgaaGreatDoor
open Go.RowKit

theorem Chg.grow (w : World) (k : Nat) (os : Array Obj) : Chg [] w (Go.Sort.grow (w.drewN k) os) :=
  ⟨rfl, rfl, rfl, by simp [Go.Sort.grow, World.drewN], fun i hi _ => by
    simp [Go.Sort.grow, Array.getElem?_append_left hi]⟩
/-- The table of powers of ten stands in its variable. -/
def PowAt (w : World) : Prop := 5 < w.heap.size ∧ Lib.TabIs Tryz.prog w "internal/strconv.uint64pow10" .u64 Lib.pow10Tab
theorem pow_global : Tryz.prog.globalNamed "internal/strconv.uint64pow10" = some 5 := by kernel_rfl
theorem PowAt.keep {w w' : World} (h : PowAt w) (hc : Chg [] w w') : PowAt w' := by
  refine ⟨Nat.lt_of_lt_of_le h.1 hc.size, ?_⟩
  have h2 := h.2
  unfold Lib.TabIs World.var? at h2 ⊢
  rw [pow_global] at h2 ⊢
  simp only [Option.bind_some] at h2 ⊢
  rw [hc.block _ h.1 (by simp)]
  exact h2
theorem PowAt.of {w : World} (h : Lib.TabIs Tryz.prog w "internal/strconv.uint64pow10" .u64 Lib.pow10Tab) : PowAt w := by
  refine ⟨?_, h⟩
  unfold Lib.TabIs World.var? at h
  rw [pow_global] at h
  simp only [Option.bind_some] at h
  split at h
  · rename_i hh; exact (Array.getElem?_eq_some_iff.1 hh).1
  · cases h
set_option maxRecDepth 100000 in
theorem formatNumber_impl_any (n : Int) (w : World) (h0 : -9223372036854775808 ≤ n) (h1 : n ≤ 9223372036854775807) (hp : PowAt w) :
    Calls Tryz.prog 67 #[.int .i64 n] w (StrPost (numT n) w) := by
  have IT := Lib.hid (Tryz.strconv_Itoa n h0 h1 w hp.2)
  go_enter Tryz.func67, Tryz.ntmps67
  go_wp2_with fail
  refine IT.out.mono ?_
  rintro e w1 ⟨rfl, k, os, rfl⟩
  go_wp2_with fail
  go_ret
  exact ⟨rfl, Chg.grow _ _ _⟩
end Go.Proofs.YtldpibnfhomfgaaGreatDoor
namespace Go.Proofs.YtldpibnfhomfgaaGreatDoor
open Go.RowKit

theorem Chg.bytesWorld (w : World) (e : TypeId) (t : ByteArray) : Chg [] w (Go.Lib.bytesWorld w e t) := Chg.of_below (Lib.bytesWorld_below w e t) []
/-- What the program's reading leans on: the powers of ten, the variable ErrSyntax, the variable MaxLen. -/
structure Env (w : World) : Prop where
  pow : PowAt w
  err : ∃ ev, (ev = .nilIface ∨ ∃ te pe, ev = .iface te pe) ∧ w.cell? ⟨3, 0, none⟩ = some ev
  max : ∃ m, w.cell? ⟨1, 0, none⟩ = some (.int .i64 m)
theorem Env.keep {w w' : World} (h : Env w) (hc : Chg [] w w') : Env w' := by
  obtain ⟨h1, ⟨ev, he, h2⟩, ⟨m, h3⟩⟩ := h
  exact ⟨h1.keep hc, ⟨ev, he, (hc.cell (p := ⟨3, 0, none⟩) (lt_of_cell h2) (by simp)).trans h2⟩, ⟨m, (hc.cell (p := ⟨1, 0, none⟩) (lt_of_cell h3) (by simp)).trans h3⟩⟩
set_option maxRecDepth 100000 in
set_option maxHeartbeats 2000000 in
theorem parseNumber_impl_any (s : ByteArray) (w : World) (hs : s.size ≤ 1048576) (he : Env w) :
    Calls Tryz.prog 56 #[.string s] w (OptPost (parseNum s) w) := by
  by_cases hz : 1 ≤ s.size ∧ s.size ≤ 3
  · obtain ⟨hz1, hz2⟩ := hz
    cases ha : Lib.atoi s.data.toList with
    | none =>
      have HN := Lib.hid (parseNum_none (s := s) (fun ⟨n, hn⟩ => by have := hn.atoi; rw [ha] at this; cases this))
      obtain ⟨ev, hev, hv⟩ := he.err
      have AT := Lib.hid (Tryz.strconv_Atoi_err s (by omega) ha ev w hv hev)
      clear he hv hev ha
      go_enter Tryz.func56, Tryz.ntmps56
      go_wp2_with fail
      refine AT.out.mono ?_
      rintro e w1 ⟨N, rfl, _, _, hb⟩
      have c1 := Chg.of_below hb []
      clear hb
      go_wp2_with fail
      go_ret2
      exact OptPost.of HN.out rfl c1
    | some n =>
      have AT := Lib.hid (Tryz.strconv_Atoi s n (by omega) ha w)
      have NU := Lib.hid (fun W => isNumber_any n W)
      have hu : ∀ m, NumOf s m → m = n := fun m hm => by have := hm.atoi; rw [ha] at this; exact (Option.some.inj this).symm
      clear ha
      by_cases hn : IsNum n
      · have FN := Lib.hid (fun W (hc : Chg [] w W) => formatNumber_impl_any n W (by have := hn.1; omega) (by have := hn.2; omega) (he.pow.keep hc))
        have NU := Lib.hid (fun W => (NU.out W).mono (BoolIs.pos hn))
        by_cases ht : numT n = s
        · have HN := Lib.hid (parseNum_some (s := s) (n := n) ⟨hn.1, hn.2, ht⟩)
          rw [ht] at FN
          clear he hn hu
          go_enter Tryz.func56, Tryz.ntmps56
          go_wp2_with fail
          refine AT.out.mono ?_
          rintro e w1 ⟨rfl, t, hw1⟩
          have c1 : Chg [] w w1 := hw1 ▸ Chg.bytesWorld _ _ _
          clear hw1
          go_wp2_with fail
          refine (NU.out _).mono ?_
          rintro e w2 ⟨rfl, rfl⟩
          go_wp2_with fail
          refine (FN.out _ c1).mono ?_
          rintro e w3 ⟨rfl, c3⟩
          go_wp2_with fail
          go_ret2
          exact OptPost.of HN.out rfl (c1.trans0 c3)
        · have HN := Lib.hid (parseNum_none (s := s) (fun ⟨m, hm⟩ => ht (by have := hu m hm; subst this; exact hm.2.2)))
          have hne := text_ne ht
          obtain ⟨x, hx⟩ : ∃ x, x = numT n := ⟨_, rfl⟩
          rw [← hx] at FN hne
          clear he hn ht hx hu
          go_enter Tryz.func56, Tryz.ntmps56
          go_wp2_with fail
          refine AT.out.mono ?_
          rintro e w1 ⟨rfl, t, hw1⟩
          have c1 : Chg [] w w1 := hw1 ▸ Chg.bytesWorld _ _ _
          clear hw1
          go_wp2_with fail
          refine (NU.out _).mono ?_
          rintro e w2 ⟨rfl, rfl⟩
          go_wp2_with fail
          refine (FN.out _ c1).mono ?_
          rintro e w3 ⟨rfl, c3⟩
          go_wp2_with fail
          go_ret2
          exact OptPost.of HN.out rfl (c1.trans0 c3)
      · have NU := Lib.hid (fun W => (NU.out W).mono (BoolIs.neg hn))
        have HN := Lib.hid (parseNum_none (s := s) (fun ⟨m, hm⟩ => hn (by have := hu m hm; subst this; exact ⟨hm.1, hm.2.1⟩)))
        clear he hn hu
        go_enter Tryz.func56, Tryz.ntmps56
        go_wp2_with fail
        refine AT.out.mono ?_
        rintro e w1 ⟨rfl, t, hw1⟩
        have c1 : Chg [] w w1 := hw1 ▸ Chg.bytesWorld _ _ _
        clear hw1
        go_wp2_with fail
        refine (NU.out _).mono ?_
        rintro e w2 ⟨rfl, rfl⟩
        go_wp2_with fail
        go_ret2
        exact OptPost.of HN.out rfl c1
  · have HN := Lib.hid (parseNum_none (s := s) (fun ⟨n, hn⟩ => hz hn.size))
    by_cases h0 : s.size = 0
    · clear hz
      go_enter Tryz.func56, Tryz.ntmps56
      go_wp2_with fail
      all_goals (go_ret2; exact OptPost.of HN.out rfl (Chg.refl _ _))
    · have h3 : 3 < s.size := by omega
      clear hz h0
      go_enter Tryz.func56, Tryz.ntmps56
      go_wp2_with fail
      all_goals (go_ret2; exact OptPost.of HN.out rfl (Chg.refl _ _))
end Go.Proofs.YtldpibnfhomfgaaGreatDoor
