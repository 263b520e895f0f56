/- The rest of a slice of numbers. Conditions: none. -/
import Derived.Test.YtdlkbomojjmnlaaGreatDoorGround
namespace Go.Proofs.YtdlkbomojjmnlaaGreatDoor
open Go.RowKit

theorem elem_ints:Tryz.prog.elem 25=3:=by kernel_rfl
theorem sizeOf_int (W:World):(sizeOf 3).run Tryz.prog W= .ok 1 W:=by
  obtain⟨i,hi,hz⟩:=Option.map_eq_some_iff.1 int_info
  simp only [Prod.mk.injEq] at hz
  unfold sizeOf typeInfo
  simp [hi,hz.2.1]
def restV (A:Option Addr) (cap n i:Nat):Value:=.slice (if cap=i then A else A.map (·.add (i * 1))) (n-i) (cap-i)
theorem rest_i (A:Option Addr) (n cap i:Nat) (W:World) (hi:i<=n):(Instr.slice 25 (.slice A n cap) (some (.int .i64 (i:Int))) none none).run Tryz.prog W= .ok (restV A cap n i) W:=by
  rw [run_slice_l W _ A n cap (by rw [elem_ints];exact Tryz.underlying25) .i64 i (by omega) (by omega),elem_ints,sizeOf_int]
  simp [Result.andThen,sliced,restV]
theorem rest_rd {w:World} {B:Nat} {L:List Int} {A:Option Addr} {cap i:Nat} (hr:Rd w B (ints L) (.slice A L.length cap)) (hi:i<=L.length):Rd w B (ints (L.drop i)) (restV A cap L.length i):=by
  obtain⟨A',cap',e,h0,h1,hrow⟩:=ints_row hr
  cases e
  have hlen:(L.drop i).length=L.length-i:=List.length_drop
  unfold ints restV
  rw [Rd,hlen]
  refine⟨_,_,rfl,by omega,by omega,?_⟩
  by_cases h:L.length=i
  · left
    rw [List.eq_nil_of_length_eq_zero (show(L.drop i).length=0 by rw [hlen];omega)]
    rfl
  · right
    obtain⟨b,off,rfl,hb,_⟩:=ints_cell hrow i (by omega)
    have hd:∀l:List Int,l.flatMap intC=l.map (fun s=>Dat.v (.int .i64 s)):=fun l=>by
      induction l with
      |nil=>rfl
      |cons a l ih=>rw [List.flatMap_cons,ih];rfl
    refine⟨b,off+i,?_,hb,RdL_iff.2 (fun q d hq=>?_)⟩
    · rw [if_neg (by omega)]
      simp [Addr.add]
    · rw [hd,List.getElem?_map] at hq
      obtain⟨x,hx,rfl⟩:=Option.map_eq_some_iff.1 hq
      obtain⟨hql,rfl⟩:=List.getElem?_eq_some_iff.1 hx
      rw [hlen] at hql
      obtain⟨b',off',e',_,hc⟩:=ints_cell hrow (i+q) (by omega)
      cases e'
      refine⟨_,by rw [Nat.add_assoc];exact hc,?_⟩
      rw [Rd]
      congr 1
      rw [List.getElem_drop]
end Go.Proofs.YtdlkbomojjmnlaaGreatDoor
