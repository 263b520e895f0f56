/- What Wrap, MakePart, FillSlots answer, in plain Lean. -/
import Derived.Test.YtjigcplpkhpgnaaGreatDoorParts
namespace Go.Proofs.YtjigcplpkhpgnaaGreatDoor
open Go.RowKit

structure RepT where
 code:Int
 value:Int
 text:ByteArray
 want:Int
 had:Int
def repOf (code value want had:Int):RepT:=⟨code,value,⟨#[]⟩,want,had⟩
open Classical in
noncomputable def wrapOf (p:PartT) (name:ByteArray):PartT×RepT:=
 match layerOf name with
 |none=>(p,repOf 7 0 0 0)
 |some x=>if ¬PartOk p then(p,repOf 7 0 0 0) else if 3<=p.layers.length then(p,repOf 5 0 0 0)
  else if ¬Offer (faceAt p p.layers.length) x.1 then(p,repOf 1 0 x.1 (faceAt p p.layers.length)) else(⟨p.core,p.layers++ [⟨name,0⟩]⟩,repOf 0 x.2 0 0)
theorem wrapOf_none {p:PartT} {name:ByteArray} (h:layerOf name=none):wrapOf p name=(p,repOf 7 0 0 0):=by unfold wrapOf;rw [h]
theorem wrapOf_bad {p:PartT} {name:ByteArray} (h:¬PartOk p):wrapOf p name=(p,repOf 7 0 0 0):=by
 unfold wrapOf
 cases layerOf name with
 |none=>rfl
 |some x=>simp only [h,not_false_eq_true,if_true]
theorem wrapOf_full {p:PartT} {name:ByteArray} {x:Int×Int} (h:layerOf name=some x) (h1:PartOk p) (h2:3<=p.layers.length):wrapOf p name=(p,repOf 5 0 0 0):=by
 unfold wrapOf;rw [h];simp only [h1,h2,not_true_eq_false,if_true,if_false]
theorem wrapOf_lacks {p:PartT} {name:ByteArray} {x:Int×Int} (h:layerOf name=some x) (h1:PartOk p) (h2:¬3<=p.layers.length) (h3:¬Offer (faceAt p p.layers.length) x.1):wrapOf p name=(p,repOf 1 0 x.1 (faceAt p p.layers.length)):=by
 unfold wrapOf;rw [h];simp only [h1,h2,h3,not_true_eq_false,not_false_eq_true,if_true,if_false]
theorem wrapOf_done {p:PartT} {name:ByteArray} {x:Int×Int} (h:layerOf name=some x) (h1:PartOk p) (h2:¬3<=p.layers.length) (h3:Offer (faceAt p p.layers.length) x.1):wrapOf p name=(⟨p.core,p.layers++ [⟨name,0⟩]⟩,repOf 0 x.2 0 0):=by
 unfold wrapOf;rw [h];simp only [h1,h2,h3,not_true_eq_false,if_false]
def newPart (kind:ByteArray):PartT:=⟨⟨kind,false,false,[],0⟩,[]⟩
end Go.Proofs.YtjigcplpkhpgnaaGreatDoor
