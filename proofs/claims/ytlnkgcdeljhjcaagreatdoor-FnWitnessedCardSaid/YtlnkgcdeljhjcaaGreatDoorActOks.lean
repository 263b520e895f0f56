/- What makes actions a plan. Conditions: as stated. -/
import Derived.Test.YtlnkgcdeljhjcaaGreatDoorPlan
import Derived.Test.YtlnkgcdeljhjcaaGreatDoorCellsAll
namespace Go.Proofs.YtlnkgcdeljhjcaaGreatDoor
open Go.RowKit

def QZ (x:QQ):Prop:=
 Zk x.method≠none/\(x.text.size=0∨x.method=QS)/\
 ((x.method=Q8/\qc x.key/\x.value=0)∨(x.method=Q7/\qc x.key/\ZM x.value)∨(x.method=QJ/\x.key.size=0/\ZM x.value)∨
  (x.method≠Q8/\x.method≠Q7/\x.method≠QJ/\x.key.size=0/\x.value=0))
def Up (x:QQ):Prop:=x.method.size=0/\x.key.size=0/\x.value=0/\x.text.size=0
def Us (x:QQ):Prop:=QZ x/\(x.text.size=0∨QA x.text≠none)
def QB (a:Qa) (other word call face first second:Bool):Prop:=
 (other=true∨a.other=0)/\(word=true∨a.word.size=0)/\(call=true∨Up a.call)/\(face=true∨a.face=0)/\(first=true∨a.A.length=0)/\(second=true∨a.B.length=0)
def QF (n:Int):Prop:=0<=n/\n<=2
def ZG (a:Qa):Prop:=
 (a.op=1/\QF a.slot/\Qq a.word≠none/\QB a false true false false false false)∨
 (a.op=2/\QF a.slot/\Qk a.word≠none/\QB a false true false false false false)∨
 ((a.op=3∨a.op=5)/\QF a.slot/\QB a false false false false false false)∨
 (a.op=4/\QF a.slot/\QF a.other/\a.other≠a.slot/\QB a true false false false false false)∨
 (a.op=6/\QF a.slot/\zV a.face/\QB a false false false true false false)∨
 (a.op=7/\QF a.slot/\Us a.call/\QB a false false true false false false)∨
 ((a.op=8∨a.op=10)/\a.slot=0/\QB a false false false false true true)∨
 (a.op=9/\a.slot=0/\QB a false false false false true false)
theorem yP {a:Qa} (h:a.op=1):ZG a↔QF a.slot/\Qq a.word≠none/\QB a false true false false false false:=by unfold ZG;simp [h]
theorem yM {a:Qa} (h:a.op=2):ZG a↔QF a.slot/\Qk a.word≠none/\QB a false true false false false false:=by unfold ZG;simp [h]
theorem jb {a:Qa} (h:a.op=3∨a.op=5):ZG a↔QF a.slot/\QB a false false false false false false:=by unfold ZG;rcases h with h|h<;>simp [h]
theorem JZ {a:Qa} (h:a.op=4):ZG a↔QF a.slot/\QF a.other/\a.other≠a.slot/\QB a true false false false false false:=by unfold ZG;simp [h]
theorem kR {a:Qa} (h:a.op=6):ZG a↔QF a.slot/\zV a.face/\QB a false false false true false false:=by unfold ZG;simp [h]
theorem jD {a:Qa} (h:a.op=7):ZG a↔QF a.slot/\Us a.call/\QB a false false true false false false:=by unfold ZG;simp [h]
theorem js {a:Qa} (h:a.op=8∨a.op=10):ZG a↔a.slot=0/\QB a false false false false true true:=by unfold ZG;rcases h with h|h<;>simp [h]
theorem QdF {a:Qa} (h:a.op=9):ZG a↔a.slot=0/\QB a false false false false true false:=by unfold ZG;simp [h]
theorem qv {a:Qa} (h:ZG a):1<=a.op/\a.op<=10:=by
 unfold ZG at h
 rcases h with h|h|h|h|h|h|h|h<;>omega
mutual
def Qa.ok:Qa->Prop
 | .mk op slot other word call face A B=>ZG (.mk op slot other word call face A B)/\Kp A/\Kp B
def Kp:List Qa->Prop
 | []=>True
 |a::l=>a.ok/\Kp l
end
theorem Qa.ok_iff (a:Qa):a.ok↔ZG a/\Kp a.A/\Kp a.B:=by
 cases a;rw [Qa.ok];rfl
theorem We:∀l:List Qa,Kp l↔ ∀a∈l,a.ok
 | []=>by simp [Kp]
 |a::l=>by rw [Kp,We l];simp
theorem xY {l:List Qa} (h:l.length=0):Kp l:=by
 rw [List.eq_nil_of_length_eq_zero h,Kp];trivial
theorem QdJ {a:Qa} (hA:ZG a->a.A.length=0/\a.B.length=0):a.ok↔ZG a:=by
 rw [a.ok_iff]
 exact⟨fun h=>h.1,fun h=>⟨h,xY (hA h).1,xY (hA h).2⟩⟩
def X0 (l:List Qa):Prop:=Qe l<=14/\Qx l<=3/\Kp l
theorem QB.A {a:Qa} {o w c f b:Bool} (h:QB a o w c f false b):a.A.length=0:=h.2.2.2.2.1.elim (fun e=>by cases e) id
theorem QB.B {a:Qa} {o w c f b:Bool} (h:QB a o w c f b false):a.B.length=0:=h.2.2.2.2.2.elim (fun e=>by cases e) id
theorem Uf {a:Qa} {X:Prop} (h:ZG a↔X) (hx:X->a.A.length=0/\a.B.length=0):a.ok↔X:=(QdJ (fun k=>hx (h.1 k))).trans h
theorem QhF {a:Qa} (h:a.op=1):a.ok↔QF a.slot/\Qq a.word≠none/\QB a false true false false false false:=Uf (yP h) (fun k=>⟨k.2.2.A,k.2.2.B⟩)
theorem QhO {a:Qa} (h:a.op=2):a.ok↔QF a.slot/\Qk a.word≠none/\QB a false true false false false false:=Uf (yM h) (fun k=>⟨k.2.2.A,k.2.2.B⟩)
theorem QgV {a:Qa} (h:a.op=3∨a.op=5):a.ok↔QF a.slot/\QB a false false false false false false:=Uf (jb h) (fun k=>⟨k.2.A,k.2.B⟩)
theorem QhM {a:Qa} (h:a.op=4):a.ok↔QF a.slot/\QF a.other/\a.other≠a.slot/\QB a true false false false false false:=Uf (JZ h) (fun k=>⟨k.2.2.2.A,k.2.2.2.B⟩)
theorem QhN {a:Qa} (h:a.op=6):a.ok↔QF a.slot/\zV a.face/\QB a false false false true false false:=Uf (kR h) (fun k=>⟨k.2.2.A,k.2.2.B⟩)
theorem QhH {a:Qa} (h:a.op=7):a.ok↔QF a.slot/\Us a.call/\QB a false false true false false false:=Uf (jD h) (fun k=>⟨k.2.2.A,k.2.2.B⟩)
theorem Qg1 {a:Qa} (h:a.op=8∨a.op=10):a.ok↔(a.slot=0/\QB a false false false false true true)/\Kp a.A/\Kp a.B:=by rw [a.ok_iff,js h]
theorem QhA {a:Qa} (h:a.op=9):a.ok↔(a.slot=0/\QB a false false false false true false)/\Kp a.A:=by
 rw [a.ok_iff,QdF h]
 exact⟨fun k=>⟨k.1,k.2.1⟩,fun k=>⟨k.1,k.2,xY k.1.2.B⟩⟩
theorem JK:QF 0:=⟨by decide,by decide⟩
theorem QhL {a:Qa} (h:a.ok):1<=a.op/\a.op<=10:=qv ((a.ok_iff).1 h).1
theorem QaT (n:Int):(n=1∨n=2∨n=3∨n=4∨n=5∨n=6∨n=7∨n=8∨n=9∨n=10)∨(¬(1<=n/\n<=10)/\(n==1)=false/\(n==2)=false/\(n==3)=false/\(n==4)=false/\(n==5)=false/\(n==6)=false/\(n==7)=false/\(n==8)=false/\(n==9)=false/\(n==10)=false):=by
 by_cases h:1<=n/\n<=10
 ·left;omega
 ·right
  refine⟨h,?_⟩
  simp only [beq_eq_false_iff_ne]
  omega
end Go.Proofs.YtlnkgcdeljhjcaaGreatDoor
