/- What makes actions a plan. Conditions: as stated. -/
import Derived.Test.YtfjhdnjlhjimeaaGreatDoorPlan
import Derived.Test.YtfjhdnjlhjimeaaGreatDoorCellsAll
namespace Go.Proofs.YtfjhdnjlhjimeaaGreatDoor
open Go.RowKit

def QS (x:QL):Prop:=
 Zg x.method≠none/\(x.text.size=0∨x.method=Zy)/\
 ((x.method=Zz/\qZ x.key/\x.value=0)∨(x.method=Zu/\qZ x.key/\ZK x.value)∨(x.method=QV/\x.key.size=0/\ZK x.value)∨
  (x.method≠Zz/\x.method≠Zu/\x.method≠QV/\x.key.size=0/\x.value=0))
def UL (x:QL):Prop:=x.method.size=0/\x.key.size=0/\x.value=0/\x.text.size=0
def US (x:QL):Prop:=QS x/\(x.text.size=0∨Qy x.text≠none)
def Qz (a:Qa) (other word call face first second:Bool):Prop:=
 (other=true∨a.other=0)/\(word=true∨a.word.size=0)/\(call=true∨UL a.call)/\(face=true∨a.face=0)/\(first=true∨a.A.length=0)/\(second=true∨a.B.length=0)
def QE (n:Int):Prop:=0<=n/\n<=2
def ZG (a:Qa):Prop:=
 (a.op=1/\QE a.slot/\Qo a.word≠none/\Qz a false true false false false false)∨
 (a.op=2/\QE a.slot/\Qj a.word≠none/\Qz a false true false false false false)∨
 ((a.op=3∨a.op=5)/\QE a.slot/\Qz a false false false false false false)∨
 (a.op=4/\QE a.slot/\QE a.other/\a.other≠a.slot/\Qz a true false false false false false)∨
 (a.op=6/\QE a.slot/\ql a.face/\Qz a false false false true false false)∨
 (a.op=7/\QE a.slot/\US a.call/\Qz a false false true false false false)∨
 ((a.op=8∨a.op=10)/\a.slot=0/\Qz a false false false false true true)∨
 (a.op=9/\a.slot=0/\Qz a false false false false true false)
theorem xQ {a:Qa} (h:a.op=1):ZG a↔QE a.slot/\Qo a.word≠none/\Qz a false true false false false false:=by unfold ZG;simp [h]
theorem xJ {a:Qa} (h:a.op=2):ZG a↔QE a.slot/\Qj a.word≠none/\Qz a false true false false false false:=by unfold ZG;simp [h]
theorem kJ {a:Qa} (h:a.op=3∨a.op=5):ZG a↔QE a.slot/\Qz a false false false false false false:=by unfold ZG;rcases h with h|h<;>simp [h]
theorem GV {a:Qa} (h:a.op=4):ZG a↔QE a.slot/\QE a.other/\a.other≠a.slot/\Qz a true false false false false false:=by unfold ZG;simp [h]
theorem jk {a:Qa} (h:a.op=6):ZG a↔QE a.slot/\ql a.face/\Qz a false false false true false false:=by unfold ZG;simp [h]
theorem jf {a:Qa} (h:a.op=7):ZG a↔QE a.slot/\US a.call/\Qz a false false true false false false:=by unfold ZG;simp [h]
theorem jD {a:Qa} (h:a.op=8∨a.op=10):ZG a↔a.slot=0/\Qz a false false false false true true:=by unfold ZG;rcases h with h|h<;>simp [h]
theorem QcM {a:Qa} (h:a.op=9):ZG a↔a.slot=0/\Qz a false false false false true false:=by unfold ZG;simp [h]
theorem Gt {a:Qa} (h:ZG a):1<=a.op/\a.op<=10:=by
 unfold ZG at h
 rcases h with h|h|h|h|h|h|h|h<;>omega
mutual
def Qa.ok:Qa->Prop
 | .mk op slot other word call face A B=>ZG (.mk op slot other word call face A B)/\Jm A/\Jm B
def Jm:List Qa->Prop
 | []=>True
 |a::l=>a.ok/\Jm l
end
theorem Qa.ok_iff (a:Qa):a.ok↔ZG a/\Jm a.A/\Jm a.B:=by
 cases a;rw [Qa.ok];rfl
theorem Wh:∀l:List Qa,Jm l↔ ∀a∈l,a.ok
 | []=>by simp [Jm]
 |a::l=>by rw [Jm,Wh l];simp
theorem wU {l:List Qa} (h:l.length=0):Jm l:=by
 rw [I6 h,Jm];trivial
theorem QdT {a:Qa} (hA:ZG a->a.A.length=0/\a.B.length=0):a.ok↔ZG a:=by
 rw [a.ok_iff]
 exact⟨fun h=>h.1,fun h=>⟨h,wU (hA h).1,wU (hA h).2⟩⟩
def Xn (l:List Qa):Prop:=Qd l<=14/\Qv l<=3/\Jm l
theorem Qz.A {a:Qa} {o w c f b:Bool} (h:Qz a o w c f false b):a.A.length=0:=h.2.2.2.2.1.elim (fun e=>by cases e) id
theorem Qz.B {a:Qa} {o w c f b:Bool} (h:Qz a o w c f b false):a.B.length=0:=h.2.2.2.2.2.elim (fun e=>by cases e) id
theorem UE {a:Qa} {X:Prop} (h:ZG a↔X) (hx:X->a.A.length=0/\a.B.length=0):a.ok↔X:=(QdT (fun k=>hx (h.1 k))).trans h
theorem Qg2 {a:Qa} (h:a.op=1):a.ok↔QE a.slot/\Qo a.word≠none/\Qz a false true false false false false:=UE (xQ h) (fun k=>⟨k.2.2.A,k.2.2.B⟩)
theorem Qg0 {a:Qa} (h:a.op=2):a.ok↔QE a.slot/\Qj a.word≠none/\Qz a false true false false false false:=UE (xJ h) (fun k=>⟨k.2.2.A,k.2.2.B⟩)
theorem Qgg {a:Qa} (h:a.op=3∨a.op=5):a.ok↔QE a.slot/\Qz a false false false false false false:=UE (kJ h) (fun k=>⟨k.2.A,k.2.B⟩)
theorem Qg6 {a:Qa} (h:a.op=4):a.ok↔QE a.slot/\QE a.other/\a.other≠a.slot/\Qz a true false false false false false:=UE (GV h) (fun k=>⟨k.2.2.2.A,k.2.2.2.B⟩)
theorem QgX {a:Qa} (h:a.op=6):a.ok↔QE a.slot/\ql a.face/\Qz a false false false true false false:=UE (jk h) (fun k=>⟨k.2.2.A,k.2.2.B⟩)
theorem Qg4 {a:Qa} (h:a.op=7):a.ok↔QE a.slot/\US a.call/\Qz a false false true false false false:=UE (jf h) (fun k=>⟨k.2.2.A,k.2.2.B⟩)
theorem Qf8 {a:Qa} (h:a.op=8∨a.op=10):a.ok↔(a.slot=0/\Qz a false false false false true true)/\Jm a.A/\Jm a.B:=by rw [a.ok_iff,jD h]
theorem Qg5 {a:Qa} (h:a.op=9):a.ok↔(a.slot=0/\Qz a false false false false true false)/\Jm a.A:=by
 rw [a.ok_iff,QcM h]
 exact⟨fun k=>⟨k.1,k.2.1⟩,fun k=>⟨k.1,k.2,wU k.1.2.B⟩⟩
theorem Gm:QE 0:=⟨by decide,by decide⟩
theorem QgQ {a:Qa} (h:a.ok):1<=a.op/\a.op<=10:=Gt ((a.ok_iff).1 h).1
theorem jW (n:Int):(n=1∨n=2∨n=3∨n=4∨n=5∨n=6∨n=7∨n=8∨n=9∨n=10)∨(¬(1<=n/\n<=10)/\(n==1)=false/\(n==2)=false/\(n==3)=false/\(n==4)=false/\(n==5)=false/\(n==6)=false/\(n==7)=false/\(n==8)=false/\(n==9)=false/\(n==10)=false):=by
 by_cases h:1<=n/\n<=10
 ·left;omega
 ·right
  refine⟨h,?_⟩
  simp only [beq_eq_false_iff_ne]
  omega
end Go.Proofs.YtfjhdnjlhjimeaaGreatDoor
