/- Plain Lean. Conditions: as stated. -/
import Derived.Test.YtfjhdnjlhjimeaaGreatDoorInf
import Derived.Test.YtfjhdnjlhjimeaaGreatDoorWantR
namespace Go.Proofs.YtfjhdnjlhjimeaaGreatDoor
open Go.RowKit

theorem Qj0:∀f g:Fin 64,(∀k:Fin 6,has ((f.1:Nat):Int) k=has ((g.1:Nat):Int) k)->f=g:=by decide+kernel
theorem Qgm.one {A:Nat->Int->Prop} {i:Nat} {u v:Int} (h:Qgm A i u) (h':Qgm A i v):u=v:=by
 have hu:=h.1
 have hv:=h'.1
 have e1:((u.toNat:Nat):Int)=u:=by have:=hu.1;omega
 have e2:((v.toNat:Nat):Int)=v:=by have:=hv.1;omega
 have:=Qj0 ⟨u.toNat,by have:=hu.1;have:=hu.2;omega⟩ ⟨v.toNat,by have:=hv.1;have:=hv.2;omega⟩ (fun k=>by
  simp only [e1,e2]
  have a:=h.2 k
  have b:=h'.2 k
  cases h1:has u k<;>cases h2:has v k
  ·rfl
  ·rw [h1] at a;rw [h2] at b;exact absurd (a.2 (b.1 rfl)) (by decide)
  ·rw [h1] at a;rw [h2] at b;exact absurd (b.2 (a.1 rfl)) (by decide)
  ·rfl)
 have:=congrArg Fin.val this
 simp only at this
 omega
def QjY:YY Kn:=⟨.giv 0,.giv 1,.giv 2⟩
theorem QjX:Qhy.map Qhq.kn=QjY:=rfl
theorem Qj1 {m:List Qa} (h:QgK Qgc m):((w3L QdW m).fail Qhy↔(w3L Qid m).fail QjY)/\∀i n,(w3L QdW m).ask Qhy i n↔(w3L Qid m).ask QjY i n:=by
 have hs:=Qh2 (G:=Qgc) (f:=QdW) (g:=Qid) (I:=fun s:YY Qhq=>s.All Qhq.ok) (α:=YY.map Qhq.kn) (fun a ha h8 h9=>QhV a ha h8 h9) m h
 have hI:Qhy.All Qhq.ok:=QhT
 refine⟨?_,fun i n=>?_⟩
 ·have:=hs.fail hI
  rwa [QjX] at this
 ·have:=hs.ask (i:=i) (w:=n) hI
  rwa [QjX] at this
end Go.Proofs.YtfjhdnjlhjimeaaGreatDoor
