/- Names of layers and methods. Conditions: as stated. -/
import Derived.Test.YtlnkgcdeljhjcaaGreatDoorDoesAll
namespace Go.Proofs.YtlnkgcdeljhjcaaGreatDoor
open Go.RowKit

theorem kE:(ByteArray.toList QI== [99,111,117,110,116,115])=true/\(ByteArray.toList QI== [108,97,122,121])=false/\(ByteArray.toList QI== [114,101,97,100,115])=false/\(ByteArray.toList QI== [104,101,97,114,115])=false/\(ByteArray.toList QI== [104,101,97,108,115])=false/\(ByteArray.toList QI== [116,119,105,99,101])=false:=by rw [ByteArray.toList_eq];decide
theorem yR:(ByteArray.toList ZX== [99,111,117,110,116,115])=false/\(ByteArray.toList ZX== [108,97,122,121])=true/\(ByteArray.toList ZX== [114,101,97,100,115])=false/\(ByteArray.toList ZX== [104,101,97,114,115])=false/\(ByteArray.toList ZX== [104,101,97,108,115])=false/\(ByteArray.toList ZX== [116,119,105,99,101])=false:=by rw [ByteArray.toList_eq];decide
theorem Qai:(ByteArray.toList Zf== [99,111,117,110,116,115])=false/\(ByteArray.toList Zf== [108,97,122,121])=false/\(ByteArray.toList Zf== [114,101,97,100,115])=true/\(ByteArray.toList Zf== [104,101,97,114,115])=false/\(ByteArray.toList Zf== [104,101,97,108,115])=false/\(ByteArray.toList Zf== [116,119,105,99,101])=false:=by rw [ByteArray.toList_eq];decide
theorem Jo:(ByteArray.toList QW== [99,111,117,110,116,115])=false/\(ByteArray.toList QW== [108,97,122,121])=false/\(ByteArray.toList QW== [114,101,97,100,115])=false/\(ByteArray.toList QW== [104,101,97,114,115])=true/\(ByteArray.toList QW== [104,101,97,108,115])=false/\(ByteArray.toList QW== [116,119,105,99,101])=false:=by rw [ByteArray.toList_eq];decide
theorem wU:(ByteArray.toList Zb== [99,111,117,110,116,115])=false/\(ByteArray.toList Zb== [108,97,122,121])=false/\(ByteArray.toList Zb== [114,101,97,100,115])=false/\(ByteArray.toList Zb== [104,101,97,114,115])=false/\(ByteArray.toList Zb== [104,101,97,108,115])=true/\(ByteArray.toList Zb== [116,119,105,99,101])=false:=by rw [ByteArray.toList_eq];decide
theorem Qag:(ByteArray.toList Zl== [99,111,117,110,116,115])=false/\(ByteArray.toList Zl== [108,97,122,121])=false/\(ByteArray.toList Zl== [114,101,97,100,115])=false/\(ByteArray.toList Zl== [104,101,97,114,115])=false/\(ByteArray.toList Zl== [104,101,97,108,115])=false/\(ByteArray.toList Zl== [116,119,105,99,101])=true:=by rw [ByteArray.toList_eq];decide
theorem QdD:(ByteArray.toList Xs== [99,111,117,110,116,115])=false/\(ByteArray.toList Xs== [108,97,122,121])=false/\(ByteArray.toList Xs== [114,101,97,100,115])=false/\(ByteArray.toList Xs== [104,101,97,114,115])=false/\(ByteArray.toList Xs== [104,101,97,108,115])=false/\(ByteArray.toList Xs== [116,119,105,99,101])=false:=by rw [ByteArray.toList_eq];decide
theorem Qbq:(ByteArray.toList Zp== [99,111,117,110,116,115])=false/\(ByteArray.toList Zp== [108,97,122,121])=false/\(ByteArray.toList Zp== [114,101,97,100,115])=false/\(ByteArray.toList Zp== [104,101,97,114,115])=false/\(ByteArray.toList Zp== [104,101,97,108,115])=false/\(ByteArray.toList Zp== [116,119,105,99,101])=false:=by rw [ByteArray.toList_eq];decide
def LnT (x:ByteArray) (c l r h e t:Bool):Prop:=(ByteArray.toList x== [99,111,117,110,116,115])=c/\(ByteArray.toList x== [108,97,122,121])=l/\(ByteArray.toList x== [114,101,97,100,115])=r/\(ByteArray.toList x== [104,101,97,114,115])=h/\(ByteArray.toList x== [104,101,97,108,115])=e/\(ByteArray.toList x== [116,119,105,99,101])=t
def MtT (x:ByteArray) (g p t h e:Bool):Prop:=(ByteArray.toList x== [71,101,116])=g/\(ByteArray.toList x== [80,117,116])=p/\(ByteArray.toList x== [84,101,108,108])=t/\(ByteArray.toList x== [72,101,97,114])=h/\(ByteArray.toList x== [72,101,97,108])=e
theorem qF:MtT Qr false false false false false:=by unfold MtT;rw [ByteArray.toList_eq];decide
theorem yX:MtT QG false false false false false:=by unfold MtT;rw [ByteArray.toList_eq];decide
theorem QbY:MtT Q8 true false false false false:=by unfold MtT;rw [ByteArray.toList_eq];decide
theorem Qfv:MtT Q7 false true false false false:=by unfold MtT;rw [ByteArray.toList_eq];decide
def QhG (x m:ByteArray):Prop:=(LnT x false false false false false false/\MtT m false false false false false)∨(LnT x false false false false false false/\MtT m true false false false false)∨(LnT x false false false false false false/\MtT m false true false false false)∨(LnT x false true false false false false/\MtT m false false false false false)∨(LnT x false false false true false false/\MtT m false false false false false)∨(LnT x false false false false true false/\MtT m false false false false false)∨(LnT x false false true false false false/\MtT m true false false false false)
def QbI (m:ByteArray):Prop:=MtT m true false false false false∨MtT m false true false false false
theorem zk:QbI Q8:=.inl QbY
theorem qZ:QbI Q7:=.inr Qfv
theorem QbE:∀(n:Nat) (p:Qh) (x:QQ),Zu n p x->x.method=QE->0<=(XC n p x).2.value/\(XC n p x).2.value<=999
 |0,p,x,h,hm=>by
  rw [XC,GE hm]
  obtain⟨_,_,_,_,hn,_⟩:=h.part.1
  exact hn
 | n+1,p,x,h,hm=>by
  have hn:n<p.layers.length:=h.le
  have hl:=ZK hn
  cases kH h hn with
  |countTell e m=>
   rw [U7 (by rw [hl];exact e) m]
   obtain⟨_,_,_,hx,_⟩:=h.part.2.2 n hn
   rw [hl]
   exact hx
  |twiceTell e m h1=>
   rw [UY (by rw [hl];exact e)]
   have:=QbE n p x h1 hm
   split
   ·simp only [];omega
   ·exact this
  |countKeep e m h1=>rw [qU hm] at m;exact m.elim
  |lazyKeep e m h1 h'=>rw [qU hm] at m;exact m.elim
  |readsPut e m=>rw [hm] at m;simp only [mne] at m
  |hearsHear e m h1 h'=>rw [hm] at m;simp only [mne] at m
  |healsHeal e m h1 h'=>rw [hm] at m;simp only [mne] at m
  |start e m h1=>rw [hm] at m;simp only [mne,or_self] at m
  |keep e m h1=>rw [qU hm] at m;exact m.elim
  |readsGet e m h1=>rw [hm] at m;simp only [mne] at m
end Go.Proofs.YtlnkgcdeljhjcaaGreatDoor
