/- Names of layers and methods. Conditions: as stated. -/
import Derived.Test.YtfjhdnjlhjimeaaGreatDoorDoesAll
namespace Go.Proofs.YtfjhdnjlhjimeaaGreatDoor
open Go.RowKit

theorem uU:(ByteArray.toList Zk== [99,111,117,110,116,115])=true/\(ByteArray.toList Zk== [108,97,122,121])=false/\(ByteArray.toList Zk== [114,101,97,100,115])=false/\(ByteArray.toList Zk== [104,101,97,114,115])=false/\(ByteArray.toList Zk== [104,101,97,108,115])=false/\(ByteArray.toList Zk== [116,119,105,99,101])=false:=by rw [ByteArray.toList_eq];decide
theorem xN:(ByteArray.toList YA== [99,111,117,110,116,115])=false/\(ByteArray.toList YA== [108,97,122,121])=true/\(ByteArray.toList YA== [114,101,97,100,115])=false/\(ByteArray.toList YA== [104,101,97,114,115])=false/\(ByteArray.toList YA== [104,101,97,108,115])=false/\(ByteArray.toList YA== [116,119,105,99,101])=false:=by rw [ByteArray.toList_eq];decide
theorem Qat:(ByteArray.toList XD== [99,111,117,110,116,115])=false/\(ByteArray.toList XD== [108,97,122,121])=false/\(ByteArray.toList XD== [114,101,97,100,115])=true/\(ByteArray.toList XD== [104,101,97,114,115])=false/\(ByteArray.toList XD== [104,101,97,108,115])=false/\(ByteArray.toList XD== [116,119,105,99,101])=false:=by rw [ByteArray.toList_eq];decide
theorem JU:(ByteArray.toList ZW== [99,111,117,110,116,115])=false/\(ByteArray.toList ZW== [108,97,122,121])=false/\(ByteArray.toList ZW== [114,101,97,100,115])=false/\(ByteArray.toList ZW== [104,101,97,114,115])=true/\(ByteArray.toList ZW== [104,101,97,108,115])=false/\(ByteArray.toList ZW== [116,119,105,99,101])=false:=by rw [ByteArray.toList_eq];decide
theorem vP:(ByteArray.toList Xs== [99,111,117,110,116,115])=false/\(ByteArray.toList Xs== [108,97,122,121])=false/\(ByteArray.toList Xs== [114,101,97,100,115])=false/\(ByteArray.toList Xs== [104,101,97,114,115])=false/\(ByteArray.toList Xs== [104,101,97,108,115])=true/\(ByteArray.toList Xs== [116,119,105,99,101])=false:=by rw [ByteArray.toList_eq];decide
theorem Qa3:(ByteArray.toList XU== [99,111,117,110,116,115])=false/\(ByteArray.toList XU== [108,97,122,121])=false/\(ByteArray.toList XU== [114,101,97,100,115])=false/\(ByteArray.toList XU== [104,101,97,114,115])=false/\(ByteArray.toList XU== [104,101,97,108,115])=false/\(ByteArray.toList XU== [116,119,105,99,101])=true:=by rw [ByteArray.toList_eq];decide
theorem Qcx:(ByteArray.toList WD== [99,111,117,110,116,115])=false/\(ByteArray.toList WD== [108,97,122,121])=false/\(ByteArray.toList WD== [114,101,97,100,115])=false/\(ByteArray.toList WD== [104,101,97,114,115])=false/\(ByteArray.toList WD== [104,101,97,108,115])=false/\(ByteArray.toList WD== [116,119,105,99,101])=false:=by rw [ByteArray.toList_eq];decide
theorem QaI:(ByteArray.toList Yc== [99,111,117,110,116,115])=false/\(ByteArray.toList Yc== [108,97,122,121])=false/\(ByteArray.toList Yc== [114,101,97,100,115])=false/\(ByteArray.toList Yc== [104,101,97,114,115])=false/\(ByteArray.toList Yc== [104,101,97,108,115])=false/\(ByteArray.toList Yc== [116,119,105,99,101])=false:=by rw [ByteArray.toList_eq];decide
def LnT (x:ByteArray) (c l r h e t:Bool):Prop:=(ByteArray.toList x== [99,111,117,110,116,115])=c/\(ByteArray.toList x== [108,97,122,121])=l/\(ByteArray.toList x== [114,101,97,100,115])=r/\(ByteArray.toList x== [104,101,97,114,115])=h/\(ByteArray.toList x== [104,101,97,108,115])=e/\(ByteArray.toList x== [116,119,105,99,101])=t
def MtT (x:ByteArray) (g p t h e:Bool):Prop:=(ByteArray.toList x== [71,101,116])=g/\(ByteArray.toList x== [80,117,116])=p/\(ByteArray.toList x== [84,101,108,108])=t/\(ByteArray.toList x== [72,101,97,114])=h/\(ByteArray.toList x== [72,101,97,108])=e
theorem zN:MtT Qw false false false false false:=by unfold MtT;rw [ByteArray.toList_eq];decide
theorem xV:MtT QR false false false false false:=by unfold MtT;rw [ByteArray.toList_eq];decide
theorem Qbg:MtT Zz true false false false false:=by unfold MtT;rw [ByteArray.toList_eq];decide
theorem QeT:MtT Zu false true false false false:=by unfold MtT;rw [ByteArray.toList_eq];decide
def QgV (x m:ByteArray):Prop:=(LnT x false false false false false false/\MtT m false false false false false)∨(LnT x false false false false false false/\MtT m true false false false false)∨(LnT x false false false false false false/\MtT m false true false false false)∨(LnT x false true false false false false/\MtT m false false false false false)∨(LnT x false false false true false false/\MtT m false false false false false)∨(LnT x false false false false true false/\MtT m false false false false false)∨(LnT x false false true false false false/\MtT m true false false false false)
def QaW (m:ByteArray):Prop:=MtT m true false false false false∨MtT m false true false false false
theorem yk:QaW Zz:=.inl Qbg
theorem yh:QaW Zu:=.inr QeT
theorem Qaq:∀(n:Nat) (p:Qe) (x:QL),Zr n p x->x.method=QQ->0<=(XG n p x).2.value/\(XG n p x).2.value<=999
 |0,p,x,h,hm=>by
  rw [XG,qV hm]
  obtain⟨_,_,_,_,hn,_⟩:=h.part.1
  exact hn
 | n+1,p,x,h,hm=>by
  have hn:n<p.layers.length:=h.le
  have hl:=ZJ hn
  cases kR h hn with
  |countTell e m=>
   rw [KH (by rw [hl];exact e) m]
   obtain⟨_,_,_,hx,_⟩:=h.part.2.2 n hn
   rw [hl]
   exact hx
  |twiceTell e m h1=>
   rw [KG (by rw [hl];exact e)]
   have:=Qaq n p x h1 hm
   split
   ·simp only [];omega
   ·exact this
  |countKeep e m h1=>rw [yn hm] at m;exact m.elim
  |lazyKeep e m h1 h'=>rw [yn hm] at m;exact m.elim
  |readsPut e m=>rw [hm] at m;simp only [xS] at m
  |hearsHear e m h1 h'=>rw [hm] at m;simp only [xS] at m
  |healsHeal e m h1 h'=>rw [hm] at m;simp only [xS] at m
  |start e m h1=>rw [hm] at m;simp only [xS,or_self] at m
  |keep e m h1=>rw [yn hm] at m;exact m.elim
  |readsGet e m h1=>rw [hm] at m;simp only [xS] at m
end Go.Proofs.YtfjhdnjlhjimeaaGreatDoor
