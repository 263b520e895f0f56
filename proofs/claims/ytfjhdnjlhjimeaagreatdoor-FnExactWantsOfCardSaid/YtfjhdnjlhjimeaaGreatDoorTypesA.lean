/- Call. Conditions: as stated. -/
import Derived.Test.YtfjhdnjlhjimeaaGreatDoorGround
import Derived.Deep.RegionHeld3
set_option maxRecDepth 100000
set_option maxHeartbeats 2000000
namespace Go.Proofs.YtfjhdnjlhjimeaaGreatDoor
open Go.RowKit

structure QL where
 method:ByteArray
 key:ByteArray
 value:Int
 text:ByteArray
def QgW (a:QL):List QD:=[.v (.string a.method)] ++([.v (.string a.key)] ++([.v (.int .i64 a.value)] ++ [.v (.string a.text)]))
def calls (l:List QL):QD:=.s l.length (l.flatMap QgW)
def xd (a:QL):Nat:=a.method.size+a.key.size+a.text.size
inductive Qa where
 |mk (op:Int) (slot:Int) (other:Int) (word:ByteArray) (call:QL) (face:Int) (A:List Qa) (B:List Qa)
def Qa.op:Qa->Int| .mk op _ _ _ _ _ _ _=>op
def Qa.slot:Qa->Int| .mk _ slot _ _ _ _ _ _=>slot
def Qa.other:Qa->Int| .mk _ _ other _ _ _ _ _=>other
def Qa.word:Qa->ByteArray| .mk _ _ _ word _ _ _ _=>word
def Qa.call:Qa->QL| .mk _ _ _ _ call _ _ _=>call
def Qa.face:Qa->Int| .mk _ _ _ _ _ face _ _=>face
def Qa.A:Qa->List Qa| .mk _ _ _ _ _ _ A _=>A
def Qa.B:Qa->List Qa| .mk _ _ _ _ _ _ _ B=>B
mutual
def QO:Qa->List QD
 | .mk op slot other word call face A B=>[.v (.int .i64 op),.v (.int .i64 slot),.v (.int .i64 other),.v (.string word),.v (.string call.method),.v (.string call.key),.v (.int .i64 call.value),.v (.string call.text),.v (.int .i64 face),.s A.length (KX A),.s B.length (KX B)]
def KX:List Qa->List QD
 | []=>[]
 |a::l=>QO a++KX l
end
theorem GA:∀l:List Qa,KX l=l.flatMap QO
 | []=>by rw [KX];rfl
 |a::l=>by rw [KX,GA l,J6]
def QA (l:List Qa):QD:=.s l.length (l.flatMap QO)
theorem Vi (a:Qa):QO a=[.v (.int .i64 a.op),.v (.int .i64 a.slot),.v (.int .i64 a.other),.v (.string a.word),.v (.string a.call.method),.v (.string a.call.key),.v (.int .i64 a.call.value),.v (.string a.call.text),.v (.int .i64 a.face),QA a.A,QA a.B]:=by
 cases a with
 |mk op slot other word call face A B=>rw [QO,GA,GA];rfl
theorem Yg (a:Qa):(QO a).length=11:=by rw [Vi];rfl
mutual
def Qa.size:Qa->Nat
 | .mk _ _ _ _ _ _ A B=>1+Qd A+Qd B
def Qd:List Qa->Nat
 | []=>0
 |a::l=>a.size+Qd l
end
theorem Qa.size_eq (a:Qa):a.size=1+Qd a.A+Qd a.B:=by
 cases a;rw [Qa.size];rfl
theorem yd:∀ {l:List Qa} {a:Qa},a∈l->a.size<=Qd l
 |b::l,a,h=>by
  rw [Qd]
  rcases C7.1 h with rfl|h
  ·omega
  ·have:=yd h;omega
theorem Qa.ind {P:List Qa->Prop} (h:∀l,(∀a∈l,P a.A/\P a.B)->P l) (l:List Qa):P l:=by
 have key:∀n,∀l,Qd l<=n->P l:=by
  intro n
  induction n with
  |zero=>
   intro l hl
   refine h l fun a ha=>?_
   have:=yd ha
   have:=a.size_eq
   omega
  |succ n ih=>
   intro l hl
   refine h l fun a ha=>?_
   have:=yd ha
   have:=a.size_eq
   exact⟨ih _ (by omega),ih _ (by omega)⟩
 exact key _ l (F0 _)
mutual
def Xv:Qa->Nat
 | .mk _ _ _ word call _ A B=>word.size+xd call+(A.length+Jb A)+(B.length+Jb B)
def Jb:List Qa->Nat
 | []=>0
 |a::l=>Xv a+Jb l
end
theorem Gd:∀l:List Qa,Jb l=(l.map Xv).sum
 | []=>by rw [Jb];rfl
 |a::l=>by rw [Jb,Gd l];rfl
def Wv (l:List Qa):Nat:=(l.map Xv).sum
def Qi (l:List Qa):Nat:=l.length+Wv l
theorem Wf (a:Qa):Xv a=a.word.size+xd a.call+Qi a.A+Qi a.B:=by
 cases a;rw [Xv,Gd,Gd];rfl
theorem zi {l:List Qa} {a:Qa} (h:a∈l):Xv a<=Wv l:=zW Xv h
theorem Qr {w:World} {B:Nat} {l:List Qa} {u:Value} (h:Rd w B (QA l) u):∃A cap,u= .slice A l.length cap/\l.length<=cap/\cap<=maxLen/\WC w B QO 11 l A:=h.row Yg (by omega)
theorem Yh {w:World} {B:Nat} {l:List Qa} {A:Option Addr} (h:WC w B QO 11 l A) (k:Nat) (hk:k<l.length):∃b off u9 u10,A=some ⟨b,off,none⟩/\b<B/\w.cell? ⟨b,off+k * 11,none⟩=some (.int .i64 (l[k].op))/\w.cell? ⟨b,off+k * 11+1,none⟩=some (.int .i64 (l[k].slot))/\w.cell? ⟨b,off+k * 11+2,none⟩=some (.int .i64 (l[k].other))/\w.cell? ⟨b,off+k * 11+3,none⟩=some (.string (l[k].word))/\w.cell? ⟨b,off+k * 11+4,none⟩=some (.string (l[k].call.method))/\w.cell? ⟨b,off+k * 11+5,none⟩=some (.string (l[k].call.key))/\w.cell? ⟨b,off+k * 11+6,none⟩=some (.int .i64 (l[k].call.value))/\w.cell? ⟨b,off+k * 11+7,none⟩=some (.string (l[k].call.text))/\w.cell? ⟨b,off+k * 11+8,none⟩=some (.int .i64 (l[k].face))/\w.cell? ⟨b,off+k * 11+9,none⟩=some u9/\w.cell? ⟨b,off+k * 11+10,none⟩=some u10/\Rd w B (QA (l[k].A)) u9/\Rd w B (QA (l[k].B)) u10:=by
 obtain⟨b,off,e,hb,hx⟩:=h k hk
 rw [Vi] at hx
 obtain⟨v0,e0,d0⟩:=hx 0 _ rfl
 obtain⟨v1,e1,d1⟩:=hx 1 _ rfl
 obtain⟨v2,e2,d2⟩:=hx 2 _ rfl
 obtain⟨v3,e3,d3⟩:=hx 3 _ rfl
 obtain⟨v4,e4,d4⟩:=hx 4 _ rfl
 obtain⟨v5,e5,d5⟩:=hx 5 _ rfl
 obtain⟨v6,e6,d6⟩:=hx 6 _ rfl
 obtain⟨v7,e7,d7⟩:=hx 7 _ rfl
 obtain⟨v8,e8,d8⟩:=hx 8 _ rfl
 obtain⟨v9,e9,d9⟩:=hx 9 _ rfl
 obtain⟨v10,e10,d10⟩:=hx 10 _ rfl
 rw [Rd] at d0 d1 d2 d3 d4 d5 d6 d7 d8
 subst d0 d1 d2 d3 d4 d5 d6 d7 d8
 exact⟨b,off,v9,v10,e,hb,by simpa using e0,e1,e2,e3,e4,e5,e6,e7,e8,e9,e10,d9,d10⟩

theorem WJ:(Tryz.prog.info? 33).map (fun i=>(i.zero,i.size,i.bytes))=some (some (.agg #[.int .i64 0,.int .i64 0,.int .i64 0,.string ⟨#[]⟩,.string ⟨#[]⟩,.string ⟨#[]⟩,.int .i64 0,.string ⟨#[]⟩,.int .i64 0,.slice none 0 0,.slice none 0 0]),11,152):=by kernel_rfl
theorem j4:type_of% @Qa.ind:=@Qa.ind
end Go.Proofs.YtfjhdnjlhjimeaaGreatDoor
