/- Names of layers and methods, calls that a layer keeps: plain Lean. Conditions: none. -/
import Derived.Test.YtdlkbomojjmnlaaGreatDoorBoxes
import Derived.Test.YtdlkbomojjmnlaaGreatDoorDoesAll
import Derived.StillTailTactics
import Derived.Deep.RegionHeld3
import Derived.Test.YtdlkbomojjmnlaaGreatDoorRegs
namespace Go.Proofs.YtdlkbomojjmnlaaGreatDoor
open Go.RowKit

theorem ln_Counts:(ByteArray.toList nCounts== [99,111,117,110,116,115])=true/\(ByteArray.toList nCounts== [108,97,122,121])=false/\(ByteArray.toList nCounts== [114,101,97,100,115])=false/\(ByteArray.toList nCounts== [104,101,97,114,115])=false/\(ByteArray.toList nCounts== [104,101,97,108,115])=false/\(ByteArray.toList nCounts== [116,119,105,99,101])=false:=by rw [ByteArray.toList_eq];decide
theorem ln_Lazy:(ByteArray.toList nLazy== [99,111,117,110,116,115])=false/\(ByteArray.toList nLazy== [108,97,122,121])=true/\(ByteArray.toList nLazy== [114,101,97,100,115])=false/\(ByteArray.toList nLazy== [104,101,97,114,115])=false/\(ByteArray.toList nLazy== [104,101,97,108,115])=false/\(ByteArray.toList nLazy== [116,119,105,99,101])=false:=by rw [ByteArray.toList_eq];decide
theorem ln_Reads:(ByteArray.toList nReads== [99,111,117,110,116,115])=false/\(ByteArray.toList nReads== [108,97,122,121])=false/\(ByteArray.toList nReads== [114,101,97,100,115])=true/\(ByteArray.toList nReads== [104,101,97,114,115])=false/\(ByteArray.toList nReads== [104,101,97,108,115])=false/\(ByteArray.toList nReads== [116,119,105,99,101])=false:=by rw [ByteArray.toList_eq];decide
theorem ln_Hears:(ByteArray.toList nHears== [99,111,117,110,116,115])=false/\(ByteArray.toList nHears== [108,97,122,121])=false/\(ByteArray.toList nHears== [114,101,97,100,115])=false/\(ByteArray.toList nHears== [104,101,97,114,115])=true/\(ByteArray.toList nHears== [104,101,97,108,115])=false/\(ByteArray.toList nHears== [116,119,105,99,101])=false:=by rw [ByteArray.toList_eq];decide
theorem ln_Heals:(ByteArray.toList nHeals== [99,111,117,110,116,115])=false/\(ByteArray.toList nHeals== [108,97,122,121])=false/\(ByteArray.toList nHeals== [114,101,97,100,115])=false/\(ByteArray.toList nHeals== [104,101,97,114,115])=false/\(ByteArray.toList nHeals== [104,101,97,108,115])=true/\(ByteArray.toList nHeals== [116,119,105,99,101])=false:=by rw [ByteArray.toList_eq];decide
theorem ln_Twice:(ByteArray.toList nTwice== [99,111,117,110,116,115])=false/\(ByteArray.toList nTwice== [108,97,122,121])=false/\(ByteArray.toList nTwice== [114,101,97,100,115])=false/\(ByteArray.toList nTwice== [104,101,97,114,115])=false/\(ByteArray.toList nTwice== [104,101,97,108,115])=false/\(ByteArray.toList nTwice== [116,119,105,99,101])=true:=by rw [ByteArray.toList_eq];decide
theorem ln_Runs:(ByteArray.toList nRuns== [99,111,117,110,116,115])=false/\(ByteArray.toList nRuns== [108,97,122,121])=false/\(ByteArray.toList nRuns== [114,101,97,100,115])=false/\(ByteArray.toList nRuns== [104,101,97,114,115])=false/\(ByteArray.toList nRuns== [104,101,97,108,115])=false/\(ByteArray.toList nRuns== [116,119,105,99,101])=false:=by rw [ByteArray.toList_eq];decide
theorem ln_Keeps:(ByteArray.toList nKeeps== [99,111,117,110,116,115])=false/\(ByteArray.toList nKeeps== [108,97,122,121])=false/\(ByteArray.toList nKeeps== [114,101,97,100,115])=false/\(ByteArray.toList nKeeps== [104,101,97,114,115])=false/\(ByteArray.toList nKeeps== [104,101,97,108,115])=false/\(ByteArray.toList nKeeps== [116,119,105,99,101])=false:=by rw [ByteArray.toList_eq];decide
/-- What the tests of a layer's name and of a method answer. -/
def LnT (x:ByteArray) (c l r h e t:Bool):Prop:=(ByteArray.toList x== [99,111,117,110,116,115])=c/\(ByteArray.toList x== [108,97,122,121])=l/\(ByteArray.toList x== [114,101,97,100,115])=r/\(ByteArray.toList x== [104,101,97,114,115])=h/\(ByteArray.toList x== [104,101,97,108,115])=e/\(ByteArray.toList x== [116,119,105,99,101])=t
def MtT (x:ByteArray) (g p t h e:Bool):Prop:=(ByteArray.toList x== [71,101,116])=g/\(ByteArray.toList x== [80,117,116])=p/\(ByteArray.toList x== [84,101,108,108])=t/\(ByteArray.toList x== [72,101,97,114])=h/\(ByteArray.toList x== [72,101,97,108])=e
theorem mt_Start:MtT mStart false false false false false:=by unfold MtT;rw [ByteArray.toList_eq];decide
theorem mt_Stop:MtT mStop false false false false false:=by unfold MtT;rw [ByteArray.toList_eq];decide
theorem mt_Get:MtT mGet true false false false false:=by unfold MtT;rw [ByteArray.toList_eq];decide
theorem mt_Put:MtT mPut false true false false false:=by unfold MtT;rw [ByteArray.toList_eq];decide
/-- A call that a layer hands on. -/
def PassC (x m:ByteArray):Prop:=(LnT x false false false false false false/\MtT m false false false false false)∨(LnT x false false false false false false/\MtT m true false false false false)∨(LnT x false false false false false false/\MtT m false true false false false)∨(LnT x false true false false false false/\MtT m false false false false false)∨(LnT x false false false true false false/\MtT m false false false false false)∨(LnT x false false false false true false/\MtT m false false false false false)∨(LnT x false false true false false false/\MtT m true false false false false)
/-- Get or Put. -/
def KeepC (m:ByteArray):Prop:=MtT m true false false false false∨MtT m false true false false false
theorem keepC_Get:KeepC mGet:=.inl mt_Get
theorem keepC_Put:KeepC mPut:=.inr mt_Put
/-- What Tell answers through layers is a number of the program. -/
theorem thr_tell:∀(n:Nat) (p:PartT) (x:CallT),ThrOk n p x->x.method=mTell->0<=(thr n p x).2.value/\(thr n p x).2.value<=999
 |0,p,x,h,hm=>by
  rw [thr,doesT_Tell hm]
  obtain⟨_,_,_,_,hn,_⟩:=h.part.1
  exact hn
 | n+1,p,x,h,hm=>by
  have hn:n<p.layers.length:=h.le
  have hl:=layN_eq hn
  cases thru_of h hn with
  |countTell e m=>
   rw [thr_countTell (by rw [hl];exact e) m]
   obtain⟨_,_,_,hx,_⟩:=h.part.2.2 n hn
   rw [hl]
   exact hx
  |twiceTell e m h1=>
   rw [thr_twiceTell (by rw [hl];exact e)]
   have:=thr_tell n p x h1 hm
   split
   ·simp only [];omega
   ·exact this
  |countKeep e m h1=>rw [keep_Tell hm] at m;exact m.elim
  |lazyKeep e m h1 h'=>rw [keep_Tell hm] at m;exact m.elim
  |readsPut e m=>rw [hm] at m;simp only [mne] at m
  |hearsHear e m h1 h'=>rw [hm] at m;simp only [mne] at m
  |healsHeal e m h1 h'=>rw [hm] at m;simp only [mne] at m
  |start e m h1=>rw [hm] at m;simp only [mne,or_self] at m
  |keep e m h1=>rw [keep_Tell hm] at m;exact m.elim
  |readsGet e m h1=>rw [hm] at m;simp only [mne] at m
end Go.Proofs.YtdlkbomojjmnlaaGreatDoor
