/- What makes actions a plan, in plain Lean. / What makes a single action valid, by its kind, in plain Lean. -/
import Derived.Test.YtdlkbomojjmnlaaGreatDoorPlan
import Derived.Test.YtdlkbomojjmnlaaGreatDoorCellsAll
import Derived.Test.YtdlkbomojjmnlaaGreatDoorMeths
namespace Go.Proofs.YtdlkbomojjmnlaaGreatDoor
open Go.RowKit

/-- A valid call. -/
def CallOk (x:CallT):Prop:=
 abilOf x.method≠none/\(x.text.size=0∨x.method=mLoad)/\
 ((x.method=mGet/\IsNm x.key/\x.value=0)∨(x.method=mPut/\IsNm x.key/\IsNum x.value)∨(x.method=mHear/\x.key.size=0/\IsNum x.value)∨
  (x.method≠mGet/\x.method≠mPut/\x.method≠mHear/\x.key.size=0/\x.value=0))
/-- The call of which nothing is said. -/
def CallZ (x:CallT):Prop:=x.method.size=0/\x.key.size=0/\x.value=0/\x.text.size=0
/-- A call that may stand in a plan. -/
def PlanCall (x:CallT):Prop:=CallOk x/\(x.text.size=0∨parseCells x.text≠none)
/-- No fields but those that are allowed. -/
def FieldsOk (a:ActionT) (other word call face first second:Bool):Prop:=
 (other=true∨a.other=0)/\(word=true∨a.word.size=0)/\(call=true∨CallZ a.call)/\(face=true∨a.face=0)/\(first=true∨a.A.length=0)/\(second=true∨a.B.length=0)
def SlotNo (n:Int):Prop:=0<=n/\n<=2
/-- A valid action, but for what is in it. -/
def ActOk (a:ActionT):Prop:=
 (a.op=1/\SlotNo a.slot/\kindOf a.word≠none/\FieldsOk a false true false false false false)∨
 (a.op=2/\SlotNo a.slot/\layerOf a.word≠none/\FieldsOk a false true false false false false)∨
 ((a.op=3∨a.op=5)/\SlotNo a.slot/\FieldsOk a false false false false false false)∨
 (a.op=4/\SlotNo a.slot/\SlotNo a.other/\a.other≠a.slot/\FieldsOk a true false false false false false)∨
 (a.op=6/\SlotNo a.slot/\IsF a.face/\FieldsOk a false false false true false false)∨
 (a.op=7/\SlotNo a.slot/\PlanCall a.call/\FieldsOk a false false true false false false)∨
 ((a.op=8∨a.op=10)/\a.slot=0/\FieldsOk a false false false false true true)∨
 (a.op=9/\a.slot=0/\FieldsOk a false false false false true false)
theorem actOk_1 {a:ActionT} (h:a.op=1):ActOk a↔SlotNo a.slot/\kindOf a.word≠none/\FieldsOk a false true false false false false:=by unfold ActOk;simp [h]
theorem actOk_2 {a:ActionT} (h:a.op=2):ActOk a↔SlotNo a.slot/\layerOf a.word≠none/\FieldsOk a false true false false false false:=by unfold ActOk;simp [h]
theorem actOk_3 {a:ActionT} (h:a.op=3∨a.op=5):ActOk a↔SlotNo a.slot/\FieldsOk a false false false false false false:=by unfold ActOk;rcases h with h|h<;>simp [h]
theorem actOk_4 {a:ActionT} (h:a.op=4):ActOk a↔SlotNo a.slot/\SlotNo a.other/\a.other≠a.slot/\FieldsOk a true false false false false false:=by unfold ActOk;simp [h]
theorem actOk_6 {a:ActionT} (h:a.op=6):ActOk a↔SlotNo a.slot/\IsF a.face/\FieldsOk a false false false true false false:=by unfold ActOk;simp [h]
theorem actOk_7 {a:ActionT} (h:a.op=7):ActOk a↔SlotNo a.slot/\PlanCall a.call/\FieldsOk a false false true false false false:=by unfold ActOk;simp [h]
theorem actOk_8 {a:ActionT} (h:a.op=8∨a.op=10):ActOk a↔a.slot=0/\FieldsOk a false false false false true true:=by unfold ActOk;rcases h with h|h<;>simp [h]
theorem actOk_9 {a:ActionT} (h:a.op=9):ActOk a↔a.slot=0/\FieldsOk a false false false false true false:=by unfold ActOk;simp [h]
theorem actOk_op {a:ActionT} (h:ActOk a):1<=a.op/\a.op<=10:=by
 unfold ActOk at h
 rcases h with h|h|h|h|h|h|h|h<;>omega
mutual
/-- A valid action, with all that is in it. -/
def ActionT.ok:ActionT->Prop
 | .mk op slot other word call face A B=>ActOk (.mk op slot other word call face A B)/\okL A/\okL B
def okL:List ActionT->Prop
 | []=>True
 |a::l=>a.ok/\okL l
end
theorem ActionT.ok_iff (a:ActionT):a.ok↔ActOk a/\okL a.A/\okL a.B:=by
 cases a;rw [ActionT.ok];rfl
theorem okL_iff:∀l:List ActionT,okL l↔ ∀a∈l,a.ok
 | []=>by simp [okL]
 |a::l=>by rw [okL,okL_iff l];simp
theorem okL_zero {l:List ActionT} (h:l.length=0):okL l:=by
 rw [List.eq_nil_of_length_eq_zero h,okL];trivial
/-- An action without blocks. -/
theorem ok_simple {a:ActionT} (hA:ActOk a->a.A.length=0/\a.B.length=0):a.ok↔ActOk a:=by
 rw [a.ok_iff]
 exact⟨fun h=>h.1,fun h=>⟨h,okL_zero (hA h).1,okL_zero (hA h).2⟩⟩
/-- A plan. -/
def PlanOk (l:List ActionT):Prop:=sizeL l<=14/\depthL l<=3/\okL l
theorem FieldsOk.A {a:ActionT} {o w c f b:Bool} (h:FieldsOk a o w c f false b):a.A.length=0:=h.2.2.2.2.1.elim (fun e=>by cases e) id
theorem FieldsOk.B {a:ActionT} {o w c f b:Bool} (h:FieldsOk a o w c f b false):a.B.length=0:=h.2.2.2.2.2.elim (fun e=>by cases e) id
theorem simple_of {a:ActionT} {X:Prop} (h:ActOk a↔X) (hx:X->a.A.length=0/\a.B.length=0):a.ok↔X:=(ok_simple (fun k=>hx (h.1 k))).trans h
theorem okS_1 {a:ActionT} (h:a.op=1):a.ok↔SlotNo a.slot/\kindOf a.word≠none/\FieldsOk a false true false false false false:=simple_of (actOk_1 h) (fun k=>⟨k.2.2.A,k.2.2.B⟩)
theorem okS_2 {a:ActionT} (h:a.op=2):a.ok↔SlotNo a.slot/\layerOf a.word≠none/\FieldsOk a false true false false false false:=simple_of (actOk_2 h) (fun k=>⟨k.2.2.A,k.2.2.B⟩)
theorem okS_3 {a:ActionT} (h:a.op=3∨a.op=5):a.ok↔SlotNo a.slot/\FieldsOk a false false false false false false:=simple_of (actOk_3 h) (fun k=>⟨k.2.A,k.2.B⟩)
theorem okS_4 {a:ActionT} (h:a.op=4):a.ok↔SlotNo a.slot/\SlotNo a.other/\a.other≠a.slot/\FieldsOk a true false false false false false:=simple_of (actOk_4 h) (fun k=>⟨k.2.2.2.A,k.2.2.2.B⟩)
theorem okS_6 {a:ActionT} (h:a.op=6):a.ok↔SlotNo a.slot/\IsF a.face/\FieldsOk a false false false true false false:=simple_of (actOk_6 h) (fun k=>⟨k.2.2.A,k.2.2.B⟩)
theorem okS_7 {a:ActionT} (h:a.op=7):a.ok↔SlotNo a.slot/\PlanCall a.call/\FieldsOk a false false true false false false:=simple_of (actOk_7 h) (fun k=>⟨k.2.2.A,k.2.2.B⟩)
theorem okS_8 {a:ActionT} (h:a.op=8∨a.op=10):a.ok↔(a.slot=0/\FieldsOk a false false false false true true)/\okL a.A/\okL a.B:=by rw [a.ok_iff,actOk_8 h]
theorem okS_9 {a:ActionT} (h:a.op=9):a.ok↔(a.slot=0/\FieldsOk a false false false false true false)/\okL a.A:=by
 rw [a.ok_iff,actOk_9 h]
 exact⟨fun k=>⟨k.1,k.2.1⟩,fun k=>⟨k.1,k.2,okL_zero k.1.2.B⟩⟩
theorem slotNo_zero:SlotNo 0:=⟨by decide,by decide⟩
theorem ok_op {a:ActionT} (h:a.ok):1<=a.op/\a.op<=10:=actOk_op ((a.ok_iff).1 h).1
theorem op_cases (n:Int):(n=1∨n=2∨n=3∨n=4∨n=5∨n=6∨n=7∨n=8∨n=9∨n=10)∨(¬(1<=n/\n<=10)/\(n==1)=false/\(n==2)=false/\(n==3)=false/\(n==4)=false/\(n==5)=false/\(n==6)=false/\(n==7)=false/\(n==8)=false/\(n==9)=false/\(n==10)=false):=by
 by_cases h:1<=n/\n<=10
 ·left;omega
 ·right
  refine⟨h,?_⟩
  simp only [beq_eq_false_iff_ne]
  omega
end Go.Proofs.YtdlkbomojjmnlaaGreatDoor
