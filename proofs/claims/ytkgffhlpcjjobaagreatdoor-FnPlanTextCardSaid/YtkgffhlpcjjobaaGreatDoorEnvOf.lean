/- What the program's reading leans on, from the row's condition and the world's shape. Conditions: none. -/
import Derived.Test.YtkgffhlpcjjobaaGreatDoorFrames
import Derived.Test.YtkgffhlpcjjobaaGreatDoorNumsAll
import Derived.Test.YtkgffhlpcjjobaaGreatDoorShSplit
import Derived.LaidLaws
namespace Go.Proofs.YtkgffhlpcjjobaaGreatDoor
open Go.ChangeShapes Go.WideShapes Go.ChangeAt Go.RowKit

theorem err_global : Tryz.prog.globalNamed "strconv.ErrSyntax" = some 4 := by kernel_rfl
theorem env_of {W : World} {l : List (String × DataW Unit)} {nm : String} {d : DataW Unit} (hsh : W.ShapedOpen Tryz.prog) (h : laidMet Tryz.prog l W)
    (h1 : ("internal/strconv.uint64pow10", (Lib.tabData .u64 Lib.pow10Tab : DataW Unit)) ∈ l) (h2 : ("strconv.ErrSyntax", (.iface nm d : DataW Unit)) ∈ l) : Env W := by
  refine ⟨PowAt.of (tab_of_laid pow_global (show (Tryz.prog.globals[3]?).map (·.type) = some 212 by kernel_rfl) Tryz.underlying212 Tryz.underlying198 (by kernel_rfl) (by kernel_rfl) h h1), ?_, Tryz.laysM143.s1_3 W hsh⟩
  obtain ⟨g', t', cs, fuel, p, hg', ht', hvar, hd⟩ := Lib.laidMet.reads h h2
  obtain rfl := Option.some.inj (err_global.symm.trans hg')
  obtain rfl := Option.some.inj ((show (Tryz.prog.globals[4]?).map (·.type) = some 156 by kernel_rfl).symm.trans ht')
  obtain ⟨f1, u, v, e1, _⟩ := iface_of_trod Tryz.underlying156 hd
  refine ⟨.iface u v, .inr ⟨u, v, rfl⟩, ?_⟩
  rw [World.var?_cell err_global hvar 0]
  obtain ⟨cs⟩ := cs
  simp only at e1
  subst e1
  rfl
end Go.Proofs.YtkgffhlpcjjobaaGreatDoor
