/- Call: as plain data; the walks of its size, copy, equality, marks. Written by a program. / Action: as plain data; the walks of its size, copy, equality, marks. Written by a program. -/
import Derived.Test.YtdlkbomojjmnlaaGreatDoorGround
import Derived.StillTailTactics
import Derived.Deep.RegionHeld3
set_option maxRecDepth 100000
set_option maxHeartbeats 2000000
namespace Go.Proofs.YtdlkbomojjmnlaaGreatDoor
open Go.RowKit

structure CallT where
 method:ByteArray
 key:ByteArray
 value:Int
 text:ByteArray
def callF (a:CallT):List Dat:=[.v (.string a.method)] ++([.v (.string a.key)] ++([.v (.int .i64 a.value)] ++ [.v (.string a.text)]))
def calls (l:List CallT):Dat:=.s l.length (l.flatMap callF)
def callW (a:CallT):Nat:=a.method.size+a.key.size+a.text.size
inductive ActionT where
 |mk (op:Int) (slot:Int) (other:Int) (word:ByteArray) (call:CallT) (face:Int) (A:List ActionT) (B:List ActionT)
def ActionT.op:ActionT->Int| .mk op _ _ _ _ _ _ _=>op
def ActionT.slot:ActionT->Int| .mk _ slot _ _ _ _ _ _=>slot
def ActionT.other:ActionT->Int| .mk _ _ other _ _ _ _ _=>other
def ActionT.word:ActionT->ByteArray| .mk _ _ _ word _ _ _ _=>word
def ActionT.call:ActionT->CallT| .mk _ _ _ _ call _ _ _=>call
def ActionT.face:ActionT->Int| .mk _ _ _ _ _ face _ _=>face
def ActionT.A:ActionT->List ActionT| .mk _ _ _ _ _ _ A _=>A
def ActionT.B:ActionT->List ActionT| .mk _ _ _ _ _ _ _ B=>B
mutual
def actionF:ActionT->List Dat
 | .mk op slot other word call face A B=>[.v (.int .i64 op),.v (.int .i64 slot),.v (.int .i64 other),.v (.string word),.v (.string call.method),.v (.string call.key),.v (.int .i64 call.value),.v (.string call.text),.v (.int .i64 face),.s A.length (actionF1 A),.s B.length (actionF1 B)]
def actionF1:List ActionT->List Dat
 | []=>[]
 |a::l=>actionF a++actionF1 l
end
theorem actionF1_eq:∀l:List ActionT,actionF1 l=l.flatMap actionF
 | []=>by rw [actionF1];rfl
 |a::l=>by rw [actionF1,actionF1_eq l,List.flatMap_cons]
def actions (l:List ActionT):Dat:=.s l.length (l.flatMap actionF)
theorem actionF_eq (a:ActionT):actionF a=[.v (.int .i64 a.op),.v (.int .i64 a.slot),.v (.int .i64 a.other),.v (.string a.word),.v (.string a.call.method),.v (.string a.call.key),.v (.int .i64 a.call.value),.v (.string a.call.text),.v (.int .i64 a.face),actions a.A,actions a.B]:=by
 cases a with
 |mk op slot other word call face A B=>rw [actionF,actionF1_eq,actionF1_eq];rfl
theorem actionF_len (a:ActionT):(actionF a).length=11:=by rw [actionF_eq];rfl
theorem actionF_parts (a:ActionT):actionF a=[.v (.int .i64 a.op)] ++([.v (.int .i64 a.slot)] ++([.v (.int .i64 a.other)] ++([.v (.string a.word)] ++(callF a.call++([.v (.int .i64 a.face)] ++([actions a.A] ++ [actions a.B])))))):=by rw [actionF_eq];rfl
mutual
/-- How many actions there are. -/
def ActionT.size:ActionT->Nat
 | .mk _ _ _ _ _ _ A B=>1+sizeL A+sizeL B
def sizeL:List ActionT->Nat
 | []=>0
 |a::l=>a.size+sizeL l
end
theorem ActionT.size_eq (a:ActionT):a.size=1+sizeL a.A+sizeL a.B:=by
 cases a;rw [ActionT.size];rfl
theorem sizeL_mem:∀ {l:List ActionT} {a:ActionT},a∈l->a.size<=sizeL l
 |b::l,a,h=>by
  rw [sizeL]
  rcases List.mem_cons.1 h with rfl|h
  ·omega
  ·have:=sizeL_mem h;omega
/-- What holds of a list as soon as it holds of the lists in its elements holds of all lists. -/
theorem ActionT.ind {P:List ActionT->Prop} (h:∀l,(∀a∈l,P a.A/\P a.B)->P l) (l:List ActionT):P l:=by
 have key:∀n,∀l,sizeL l<=n->P l:=by
  intro n
  induction n with
  |zero=>
   intro l hl
   refine h l fun a ha=>?_
   have:=sizeL_mem ha
   have:=a.size_eq
   omega
  |succ n ih=>
   intro l hl
   refine h l fun a ha=>?_
   have:=sizeL_mem ha
   have:=a.size_eq
   exact⟨ih _ (by omega),ih _ (by omega)⟩
 exact key _ l (Nat.le_refl _)
mutual
def actionW:ActionT->Nat
 | .mk _ _ _ word call _ A B=>word.size+callW call+(A.length+actionW1 A)+(B.length+actionW1 B)
def actionW1:List ActionT->Nat
 | []=>0
 |a::l=>actionW a+actionW1 l
end
theorem actionW1_eq:∀l:List ActionT,actionW1 l=(l.map actionW).sum
 | []=>by rw [actionW1];rfl
 |a::l=>by rw [actionW1,actionW1_eq l];rfl
def actionsW1 (l:List ActionT):Nat:=(l.map actionW).sum
def actionsW (l:List ActionT):Nat:=l.length+actionsW1 l
theorem actionW_eq (a:ActionT):actionW a=a.word.size+callW a.call+actionsW a.A+actionsW a.B:=by
 cases a;rw [actionW,actionW1_eq,actionW1_eq];rfl
theorem actionsW_mem {l:List ActionT} {a:ActionT} (h:a∈l):actionW a<=actionsW1 l:=sum_mem actionW h
theorem actions_row {w:World} {B:Nat} {l:List ActionT} {u:Value} (h:Rd w B (actions l) u):∃A cap,u= .slice A l.length cap/\l.length<=cap/\cap<=maxLen/\RowAt w B actionF 11 l A:=h.row actionF_len (by omega)
theorem actions_cells {w:World} {B:Nat} {l:List ActionT} {A:Option Addr} (h:RowAt w B actionF 11 l A) (k:Nat) (hk:k<l.length):∃b off u9 u10,A=some ⟨b,off,none⟩/\b<B/\w.cell? ⟨b,off+k * 11,none⟩=some (.int .i64 (l[k].op))/\w.cell? ⟨b,off+k * 11+1,none⟩=some (.int .i64 (l[k].slot))/\w.cell? ⟨b,off+k * 11+2,none⟩=some (.int .i64 (l[k].other))/\w.cell? ⟨b,off+k * 11+3,none⟩=some (.string (l[k].word))/\w.cell? ⟨b,off+k * 11+4,none⟩=some (.string (l[k].call.method))/\w.cell? ⟨b,off+k * 11+5,none⟩=some (.string (l[k].call.key))/\w.cell? ⟨b,off+k * 11+6,none⟩=some (.int .i64 (l[k].call.value))/\w.cell? ⟨b,off+k * 11+7,none⟩=some (.string (l[k].call.text))/\w.cell? ⟨b,off+k * 11+8,none⟩=some (.int .i64 (l[k].face))/\w.cell? ⟨b,off+k * 11+9,none⟩=some u9/\w.cell? ⟨b,off+k * 11+10,none⟩=some u10/\Rd w B (actions (l[k].A)) u9/\Rd w B (actions (l[k].B)) u10:=by
 obtain⟨b,off,e,hb,hx⟩:=h k hk
 rw [actionF_eq] at hx
 obtain⟨v0,e0,d0⟩:=hx 0 _ rfl
 obtain⟨v1,e1,d1⟩:=hx 1 _ rfl
 obtain⟨v2,e2,d2⟩:=hx 2 _ rfl
 obtain⟨v3,e3,d3⟩:=hx 3 _ rfl
 obtain⟨v4,e4,d4⟩:=hx 4 _ rfl
 obtain⟨v5,e5,d5⟩:=hx 5 _ rfl
 obtain⟨v6,e6,d6⟩:=hx 6 _ rfl
 obtain⟨v7,e7,d7⟩:=hx 7 _ rfl
 obtain⟨v8,e8,d8⟩:=hx 8 _ rfl
 obtain⟨v9,e9,d9⟩:=hx 9 _ rfl
 obtain⟨v10,e10,d10⟩:=hx 10 _ rfl
 rw [Rd] at d0 d1 d2 d3 d4 d5 d6 d7 d8
 subst d0 d1 d2 d3 d4 d5 d6 d7 d8
 exact⟨b,off,v9,v10,e,hb,by simpa using e0,e1,e2,e3,e4,e5,e6,e7,e8,e9,e10,d9,d10⟩

theorem action_info:(Tryz.prog.info? 32).map (fun i=>(i.zero,i.size,i.bytes))=some (some (.agg #[.int .i64 0,.int .i64 0,.int .i64 0,.string ⟨#[]⟩,.string ⟨#[]⟩,.string ⟨#[]⟩,.int .i64 0,.string ⟨#[]⟩,.int .i64 0,.slice none 0 0,.slice none 0 0]),11,152):=by kernel_rfl
end Go.Proofs.YtdlkbomojjmnlaaGreatDoor
