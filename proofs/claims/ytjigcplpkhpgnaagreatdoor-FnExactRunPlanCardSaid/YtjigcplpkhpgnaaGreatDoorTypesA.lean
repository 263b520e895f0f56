/- Call: as plain data; the walks of its size, copy, equality, marks. Written by a program. / Action: as plain data; the walks of its size, copy, equality, marks. Written by a program. -/
import Derived.Test.YtjigcplpkhpgnaaGreatDoorGround
import Derived.StillTailTactics
import Derived.Deep.RegionHeld3
set_option maxRecDepth 100000
set_option maxHeartbeats 2000000
namespace Go.Proofs.YtjigcplpkhpgnaaGreatDoor
open Go.RowKit

structure CallT where
 method:ByteArray
 key:ByteArray
 value:Int
 text:ByteArray
def callF (a:CallT):List Dat:=[.v (.string a.method)] ++([.v (.string a.key)] ++([.v (.int .i64 a.value)] ++ [.v (.string a.text)]))
theorem callF_eq (a:CallT):callF a=[.v (.string a.method),.v (.string a.key),.v (.int .i64 a.value),.v (.string a.text)]:=rfl
def calls (l:List CallT):Dat:=.s l.length (l.flatMap callF)
def callW (a:CallT):Nat:=a.method.size+a.key.size+a.text.size
theorem szCall_el (a:CallT) (left:Int) (w:World) (h0:0<=left) (hl:left<=1048576) (hf:FitL (callF a)):
  Calls Tryz.prog 40 #[.agg #[.string a.method,.string a.key,.int .i64 a.value,.string a.text],.int .i64 left] w (SzPost left (callW a) w):=by
 simp only [callF,FitL_append] at hf
 obtain⟨f0,f1,f2,f3⟩:=hf
 simp only [FitL,FitD,FitV,and_true] at f0
 simp only [FitL,FitD,FitV,and_true] at f1
 simp only [FitL,FitD,FitV,and_true] at f2
 simp only [FitL,FitD,FitV,and_true] at f3
 go_enter Tryz.func40,Tryz.ntmps40
 go_wp2_with fail
 all_goals
  go_ret
  exact⟨_,rfl,by(first|exact Left.no (by(try unfold Left at *);(try unfold callW);omega)|exact Left.ok (by(try unfold Left at *);(try unfold callW);omega) (by(try unfold Left at *);(try unfold callW);omega)),(Chg.refl _ _).alloc _⟩

theorem toCall_el (a:CallT) (w:World) (_hW:callW a<=1048576):
  Calls Tryz.prog 51 #[.agg #[.string a.method,.string a.key,.int .i64 a.value,.string a.text]] w (fun e w'=>e= .returned (.agg #[.string a.method,.string a.key,.int .i64 a.value,.string a.text])/\NewL w w' (callF a) [.string a.method,.string a.key,.int .i64 a.value,.string a.text]):=by
 go_enter Tryz.func51,Tryz.ntmps51
 go_wp2_with fail
 refine bodyPost_ret (v:=.agg #[.string a.method,.string a.key,.int .i64 a.value,.string a.text]) (by simp only [results,Tryz.results51];go_simp) rfl ⟨rfl,?_⟩
 rw [callF_eq]
 repeat refine NewL.cons_v ?_
 refine NewL.nil ?_
 repeat(first|with_reducible exact Chg.refl _ _|with_reducible refine Chg.drew ?_|with_reducible refine Chg.alloc ?_ _|with_reducible refine Chg.setCell ?_ (.inr (by simp;try omega)) _)

theorem eqCall_el (a:CallT) (w:World):
  Calls Tryz.prog 60 #[.agg #[.string a.method,.string a.key,.int .i64 a.value,.string a.text],.agg #[.string a.method,.string a.key,.int .i64 a.value,.string a.text]] w fun e w'=>e= .returned (.bool true)/\Chg [] w w':=by
 go_enter Tryz.func60,Tryz.ntmps60
 go_wp2_with fail
 go_ret
 exact⟨rfl,((Chg.refl _ _).alloc _).alloc _⟩

inductive ActionT where
 |mk (op:Int) (slot:Int) (other:Int) (word:ByteArray) (call:CallT) (face:Int) (A:List ActionT) (B:List ActionT)
def ActionT.op:ActionT->Int| .mk op _ _ _ _ _ _ _=>op
def ActionT.slot:ActionT->Int| .mk _ slot _ _ _ _ _ _=>slot
def ActionT.other:ActionT->Int| .mk _ _ other _ _ _ _ _=>other
def ActionT.word:ActionT->ByteArray| .mk _ _ _ word _ _ _ _=>word
def ActionT.call:ActionT->CallT| .mk _ _ _ _ call _ _ _=>call
def ActionT.face:ActionT->Int| .mk _ _ _ _ _ face _ _=>face
def ActionT.A:ActionT->List ActionT| .mk _ _ _ _ _ _ A _=>A
def ActionT.B:ActionT->List ActionT| .mk _ _ _ _ _ _ _ B=>B
mutual
def actionF:ActionT->List Dat
 | .mk op slot other word call face A B=>[.v (.int .i64 op),.v (.int .i64 slot),.v (.int .i64 other),.v (.string word),.v (.string call.method),.v (.string call.key),.v (.int .i64 call.value),.v (.string call.text),.v (.int .i64 face),.s A.length (actionF1 A),.s B.length (actionF1 B)]
def actionF1:List ActionT->List Dat
 | []=>[]
 |a::l=>actionF a++actionF1 l
end
theorem actionF1_eq:∀l:List ActionT,actionF1 l=l.flatMap actionF
 | []=>by rw [actionF1];rfl
 |a::l=>by rw [actionF1,actionF1_eq l,List.flatMap_cons]
def actions (l:List ActionT):Dat:=.s l.length (l.flatMap actionF)
theorem actionF_eq (a:ActionT):actionF a=[.v (.int .i64 a.op),.v (.int .i64 a.slot),.v (.int .i64 a.other),.v (.string a.word),.v (.string a.call.method),.v (.string a.call.key),.v (.int .i64 a.call.value),.v (.string a.call.text),.v (.int .i64 a.face),actions a.A,actions a.B]:=by
 cases a with
 |mk op slot other word call face A B=>rw [actionF,actionF1_eq,actionF1_eq];rfl
theorem actionF_len (a:ActionT):(actionF a).length=11:=by rw [actionF_eq];rfl
theorem actionF_parts (a:ActionT):actionF a=[.v (.int .i64 a.op)] ++([.v (.int .i64 a.slot)] ++([.v (.int .i64 a.other)] ++([.v (.string a.word)] ++(callF a.call++([.v (.int .i64 a.face)] ++([actions a.A] ++ [actions a.B])))))):=by rw [actionF_eq];rfl
mutual
/-- How many actions there are. -/
def ActionT.size:ActionT->Nat
 | .mk _ _ _ _ _ _ A B=>1+sizeL A+sizeL B
def sizeL:List ActionT->Nat
 | []=>0
 |a::l=>a.size+sizeL l
end
theorem ActionT.size_eq (a:ActionT):a.size=1+sizeL a.A+sizeL a.B:=by
 cases a;rw [ActionT.size];rfl
theorem sizeL_mem:∀ {l:List ActionT} {a:ActionT},a∈l->a.size<=sizeL l
 |b::l,a,h=>by
  rw [sizeL]
  rcases List.mem_cons.1 h with rfl|h
  ·omega
  ·have:=sizeL_mem h;omega
/-- What holds of a list as soon as it holds of the lists in its elements holds of all lists. -/
theorem ActionT.ind {P:List ActionT->Prop} (h:∀l,(∀a∈l,P a.A/\P a.B)->P l) (l:List ActionT):P l:=by
 have key:∀n,∀l,sizeL l<=n->P l:=by
  intro n
  induction n with
  |zero=>
   intro l hl
   refine h l fun a ha=>?_
   have:=sizeL_mem ha
   have:=a.size_eq
   omega
  |succ n ih=>
   intro l hl
   refine h l fun a ha=>?_
   have:=sizeL_mem ha
   have:=a.size_eq
   exact⟨ih _ (by omega),ih _ (by omega)⟩
 exact key _ l (Nat.le_refl _)
mutual
def actionW:ActionT->Nat
 | .mk _ _ _ word call _ A B=>word.size+callW call+(A.length+actionW1 A)+(B.length+actionW1 B)
def actionW1:List ActionT->Nat
 | []=>0
 |a::l=>actionW a+actionW1 l
end
theorem actionW1_eq:∀l:List ActionT,actionW1 l=(l.map actionW).sum
 | []=>by rw [actionW1];rfl
 |a::l=>by rw [actionW1,actionW1_eq l];rfl
def actionsW1 (l:List ActionT):Nat:=(l.map actionW).sum
def actionsW (l:List ActionT):Nat:=l.length+actionsW1 l
theorem actionW_eq (a:ActionT):actionW a=a.word.size+callW a.call+actionsW a.A+actionsW a.B:=by
 cases a;rw [actionW,actionW1_eq,actionW1_eq];rfl
theorem actionsW_mem {l:List ActionT} {a:ActionT} (h:a∈l):actionW a<=actionsW1 l:=sum_mem actionW h
mutual
def actionN:ActionT->Nat
 | .mk _ _ _ _ _ _ A B=>9+actionN1 A+actionN1 B
def actionN1:List ActionT->Nat
 | []=>0
 |a::l=>actionN a+actionN1 l
end
theorem actionN1_eq:∀l:List ActionT,actionN1 l=(l.map actionN).sum
 | []=>by rw [actionN1];rfl
 |a::l=>by rw [actionN1,actionN1_eq l];rfl
def actionsN (l:List ActionT):Nat:=(l.map actionN).sum
theorem actionN_eq (a:ActionT):actionN a=9+actionsN a.A+actionsN a.B:=by
 cases a;rw [actionN,actionN1_eq,actionN1_eq];rfl
mutual
def actionM:ActionT->Int->ActionT
 | .mk _ _ _ _ _ _ A B,k=>.mk (k) (k+1) (k+1+1) (mt (k+1+1+1)) ⟨(mt (k+1+1+1+1)),(mt (k+1+1+1+1+1)),(k+1+1+1+1+1+1),(mt (k+1+1+1+1+1+1+1))⟩ (k+1+1+1+1+1+1+1+1) (actionM1 A (k+1+1+1+1+1+1+1+1+1)) (actionM1 B (k+1+1+1+1+1+1+1+1+1+actionN1 A))
def actionM1:List ActionT->Int->List ActionT
 | [],_=>[]
 |a::l,k=>actionM a k::actionM1 l (k+actionN a)
end
theorem actionM1_eq:∀(l:List ActionT) (k:Int),actionM1 l k=mapK actionM actionN l k
 | [],_=>by rw [actionM1];rfl
 |a::l,k=>by rw [actionM1,actionM1_eq l];rfl
def actionsM (l:List ActionT) (k:Int):List ActionT:=mapK actionM actionN l k
theorem actionM_eq (a:ActionT) (k:Int):actionM a k= .mk (k) (k+1) (k+1+1) (mt (k+1+1+1)) ⟨(mt (k+1+1+1+1)),(mt (k+1+1+1+1+1)),(k+1+1+1+1+1+1),(mt (k+1+1+1+1+1+1+1))⟩ (k+1+1+1+1+1+1+1+1) (actionsM a.A (k+1+1+1+1+1+1+1+1+1)) (actionsM a.B (k+1+1+1+1+1+1+1+1+1+actionsN a.A)):=by
 cases a;rw [actionM,actionM1_eq,actionM1_eq,actionN1_eq];rfl
theorem actionM_F (a:ActionT) (k:Int):actionF (actionM a k)=[.v (.int .i64 (k)),.v (.int .i64 (k+1)),.v (.int .i64 (k+1+1)),.v (.string (mt (k+1+1+1))),.v (.string (mt (k+1+1+1+1))),.v (.string (mt (k+1+1+1+1+1))),.v (.int .i64 (k+1+1+1+1+1+1)),.v (.string (mt (k+1+1+1+1+1+1+1))),.v (.int .i64 (k+1+1+1+1+1+1+1+1)),actions (actionsM a.A (k+1+1+1+1+1+1+1+1+1)),actions (actionsM a.B (k+1+1+1+1+1+1+1+1+1+actionsN a.A))]:=by rw [actionM_eq,actionF_eq];rfl
theorem actions_row {w:World} {B:Nat} {l:List ActionT} {u:Value} (h:Rd w B (actions l) u):∃A cap,u= .slice A l.length cap/\l.length<=cap/\cap<=maxLen/\RowAt w B actionF 11 l A:=h.row actionF_len (by omega)
theorem actions_cells {w:World} {B:Nat} {l:List ActionT} {A:Option Addr} (h:RowAt w B actionF 11 l A) (k:Nat) (hk:k<l.length):∃b off u9 u10,A=some ⟨b,off,none⟩/\b<B/\w.cell? ⟨b,off+k * 11,none⟩=some (.int .i64 (l[k].op))/\w.cell? ⟨b,off+k * 11+1,none⟩=some (.int .i64 (l[k].slot))/\w.cell? ⟨b,off+k * 11+2,none⟩=some (.int .i64 (l[k].other))/\w.cell? ⟨b,off+k * 11+3,none⟩=some (.string (l[k].word))/\w.cell? ⟨b,off+k * 11+4,none⟩=some (.string (l[k].call.method))/\w.cell? ⟨b,off+k * 11+5,none⟩=some (.string (l[k].call.key))/\w.cell? ⟨b,off+k * 11+6,none⟩=some (.int .i64 (l[k].call.value))/\w.cell? ⟨b,off+k * 11+7,none⟩=some (.string (l[k].call.text))/\w.cell? ⟨b,off+k * 11+8,none⟩=some (.int .i64 (l[k].face))/\w.cell? ⟨b,off+k * 11+9,none⟩=some u9/\w.cell? ⟨b,off+k * 11+10,none⟩=some u10/\Rd w B (actions (l[k].A)) u9/\Rd w B (actions (l[k].B)) u10:=by
 obtain⟨b,off,e,hb,hx⟩:=h k hk
 rw [actionF_eq] at hx
 obtain⟨v0,e0,d0⟩:=hx 0 _ rfl
 obtain⟨v1,e1,d1⟩:=hx 1 _ rfl
 obtain⟨v2,e2,d2⟩:=hx 2 _ rfl
 obtain⟨v3,e3,d3⟩:=hx 3 _ rfl
 obtain⟨v4,e4,d4⟩:=hx 4 _ rfl
 obtain⟨v5,e5,d5⟩:=hx 5 _ rfl
 obtain⟨v6,e6,d6⟩:=hx 6 _ rfl
 obtain⟨v7,e7,d7⟩:=hx 7 _ rfl
 obtain⟨v8,e8,d8⟩:=hx 8 _ rfl
 obtain⟨v9,e9,d9⟩:=hx 9 _ rfl
 obtain⟨v10,e10,d10⟩:=hx 10 _ rfl
 rw [Rd] at d0 d1 d2 d3 d4 d5 d6 d7 d8
 subst d0 d1 d2 d3 d4 d5 d6 d7 d8
 exact⟨b,off,v9,v10,e,hb,by simpa using e0,e1,e2,e3,e4,e5,e6,e7,e8,e9,e10,d9,d10⟩

theorem action_info:(Tryz.prog.info? 75).map (fun i=>(i.zero,i.size,i.bytes))=some (some (.agg #[.int .i64 0,.int .i64 0,.int .i64 0,.string ⟨#[]⟩,.string ⟨#[]⟩,.string ⟨#[]⟩,.int .i64 0,.string ⟨#[]⟩,.int .i64 0,.slice none 0 0,.slice none 0 0]),11,152):=by kernel_rfl
def szActionS_any_P (l:List ActionT):Prop:=∀(left:Int) (u:Value) (B:Nat) (w:World) (_h0:0<=left) (_hl:left<=1048576) (_hf:FitL [actions l]) (_hr:Rd w B (actions l) u) (_hBw:B<=w.heap.size),Calls Tryz.prog 5 #[u,.int .i64 left] w (SzPost left (actionsW l) w)
theorem szAction_el (a:ActionT) (hA:szActionS_any_P a.A) (hB:szActionS_any_P a.B) (left:Int) (u9 u10:Value) (B:Nat) (w:World) (h0:0<=left) (hl:left<=1048576) (hf:FitL (actionF a)) (r9:Rd w B (actions a.A) u9) (r10:Rd w B (actions a.B) u10) (hBw:B<=w.heap.size):
  Calls Tryz.prog 20 #[.agg #[.int .i64 a.op,.int .i64 a.slot,.int .i64 a.other,.string a.word,.string a.call.method,.string a.call.key,.int .i64 a.call.value,.string a.call.text,.int .i64 a.face,u9,u10],.int .i64 left] w (SzPost left (actionW a) w):=by
 rw [actionF_parts] at hf;simp only [FitL_append] at hf
 obtain⟨f0,f1,f2,f3,f4,f5,f6,f7⟩:=hf
 simp only [FitL,FitD,FitV,and_true] at f0
 simp only [FitL,FitD,FitV,and_true] at f1
 simp only [FitL,FitD,FitV,and_true] at f2
 simp only [FitL,FitD,FitV,and_true] at f3
 have g4:=hid f4;clear f4
 simp only [FitL,FitD,FitV,and_true] at f5
 have g6:=hid f6;clear f6
 have g7:=hid f7;clear f7
 have HA:=hid hA;have HB:=hid hB;clear hA hB
 go_enter Tryz.func20,Tryz.ntmps20
 go_wp2_with fail
 all_goals try(go_ret;exact⟨_,rfl,by(first|exact Left.no (by(try unfold Left at *);(try rw [actionW_eq]);omega)|exact Left.ok (by(try unfold Left at *);(try rw [actionW_eq]);omega) (by(try unfold Left at *);(try rw [actionW_eq]);omega)),(Chg.refl _ _).alloc _⟩;done)
 refine(szCall_el a.call _ _ (by omega) (by omega) g4.out).mono ?_;rintro e w1 ⟨r1_,rfl,L1,C1⟩
 have D1:Chg [] w w1:=Chg.trans0 (((Chg.refl _ _).alloc _)) C1
 have bd1:=L1.bd (by omega)
 have s1:w.heap.size<w1.heap.size:=by have:=C1.size;simp at this;omega
 obtain⟨y1,_,_⟩:=C1.cells
 go_wp2_with fail
 all_goals try(go_ret;exact⟨_,rfl,by(first|exact Left.no (by(try unfold Left at *);(try rw [actionW_eq]);omega)|exact Left.ok (by(try unfold Left at *);(try rw [actionW_eq]);omega) (by(try unfold Left at *);(try rw [actionW_eq]);omega)),D1⟩;done)
 refine(HA.out _ u9 B _ (by omega) (by omega) g6.out (r9.chg0 (D1) hBw) (by have:=D1.size;omega)).mono ?_;rintro e w2 ⟨r2_,rfl,L2,C2⟩
 have D2:Chg [] w w2:=Chg.trans0 (D1) C2
 have bd2:=L2.bd (by omega)
 have s2:w.heap.size<w2.heap.size:=by have:=C2.size;omega
 obtain⟨y2,_,_⟩:=C2.cells
 go_wp2_with fail
 all_goals try(go_ret;exact⟨_,rfl,by(first|exact Left.no (by(try unfold Left at *);(try rw [actionW_eq]);omega)|exact Left.ok (by(try unfold Left at *);(try rw [actionW_eq]);omega) (by(try unfold Left at *);(try rw [actionW_eq]);omega)),D2⟩;done)
 refine(HB.out _ u10 B _ (by omega) (by omega) g7.out (r10.chg0 (D2) hBw) (by have:=D2.size;omega)).mono ?_;rintro e w3 ⟨r3_,rfl,L3,C3⟩
 have D3:Chg [] w w3:=Chg.trans0 (D2) C3
 have bd3:=L3.bd (by omega)
 have s3:w.heap.size<w3.heap.size:=by have:=C3.size;omega
 obtain⟨y3,_,_⟩:=C3.cells
 go_wp2_with fail
 all_goals
  go_ret
  exact⟨_,rfl,by(first|exact Left.no (by(try unfold Left at *);(try rw [actionW_eq]);omega)|exact Left.ok (by(try unfold Left at *);(try rw [actionW_eq]);omega) (by(try unfold Left at *);(try rw [actionW_eq]);omega)),D3⟩

theorem szActionS_any_all:∀l,szActionS_any_P l:=by
 refine ActionT.ind fun l ih=>?_
 intro left u B w h0 hl hf hr hBw
 have IH:=hid ih
 clear ih
 obtain⟨A,cap,rfl,h1,h2,hrow⟩:=actions_row hr
 unfold maxLen at h2
 have HF:=hid hf
 clear hr hf
 go_enter Tryz.func5,Tryz.ntmps5
 go_wp2_with fail
 ·go_ret
  exact⟨_,rfl,Left.no (by unfold actionsW;omega),Chg.refl _ _⟩
 go_loopw [1,5] (fun r i wr=>∃(k:Nat) (x:Int),k<=l.length/\i= .int .i64 k/\r= .int .i64 x/\Chg [] w wr/\0<=x/\x<=left/\Hid (x=left-l.length-actionsW1 (l.take k))) (fun _ i _=>l.length-(intOf i).toNat)
 case atStart=>exact⟨0,_,Nat.zero_le _,rfl,rfl,Chg.refl _ _,by omega,by omega,by simp [actionsW1,Hid]⟩
 case round=>
  obtain⟨k,x,hk,rfl,rfl,hc,hx0,hxl,HX⟩:=hrel
  by_cases hlt:k<l.length
  ·obtain⟨b,off,u9,u10,rfl,hb,q0,q1,q2,q3,q4,q5,q6,q7,q8,q9,q10,r9,r10⟩:=actions_cells (hrow.chg0 hc hBw) k hlt
   have hsz:Hid (actionsW1 (l.take (k+1))=actionsW1 (l.take k)+actionW l[k] /\actionsW1 (l.take (k+1))<=actionsW1 l):=⟨sum_take actionW l k hlt,sum_le actionW l (k+1)⟩
   have hfk:=hid (FitL_flatMap.1 (FitL_slice HF.out) _ (List.getElem_mem hlt))
   go_wp2_with fail
   refine(szAction_el l[k] (IH.out _ (List.getElem_mem hlt)).1 (IH.out _ (List.getElem_mem hlt)).2 _ u9 u10 B _ (by omega) (by omega) hfk.out r9 r10 (by have:=hc.size;omega)).mono ?_
   rintro e w1 ⟨r1_,rfl,L1,C1⟩
   have D1:Chg [] w w1:=hc.trans0 C1
   have bd1:=L1.bd (by omega)
   go_wp2_with fail
   ·go_ret
    refine⟨_,rfl,Left.no ?_,D1⟩
    have:=HX.out;have:=hsz.out
    simp only [Left] at L1
    unfold actionsW
    omega
   ·go_roundw
    case rel=>
     refine⟨k+1,r1_,by omega,by go_num,rfl,D1,by omega,by omega,?_⟩
     have:=HX.out;have:=hsz.out
     simp only [Left] at L1
     show r1_=_
     omega
    case measure=>simp [intOf];omega
  ·go_wp2_with fail
   go_ret
   obtain rfl:k=l.length:=by omega
   have h5:=HX.out
   rw [List.take_length] at h5
   exact⟨_,rfl,Left.ok (by unfold actionsW;omega) (by unfold actionsW;omega),hc⟩

theorem szActionS_any (l:List ActionT) (left:Int) (u:Value) (B:Nat) (w:World) (h0:0<=left) (hl:left<=1048576) (hf:FitL [actions l]) (hr:Rd w B (actions l) u) (hBw:B<=w.heap.size):
  Calls Tryz.prog 5 #[u,.int .i64 left] w (SzPost left (actionsW l) w):=szActionS_any_all l left u B w h0 hl hf hr hBw

def toActionS_any_P (l:List ActionT):Prop:=∀(u:Value) (B:Nat) (w:World) (_hl:actionsW l<=1048576) (_hr:Rd w B (actions l) u) (_hB:B<=w.heap.size),Calls Tryz.prog 8 #[u] w (Gives (actions l) w)
theorem toAction_el (a:ActionT) (hA:toActionS_any_P a.A) (hB:toActionS_any_P a.B) (u9 u10:Value) (B:Nat) (w:World) (hW:actionW a<=1048576) (r9:Rd w B (actions a.A) u9) (r10:Rd w B (actions a.B) u10) (hBw:B<=w.heap.size):
  Calls Tryz.prog 27 #[.agg #[.int .i64 a.op,.int .i64 a.slot,.int .i64 a.other,.string a.word,.string a.call.method,.string a.call.key,.int .i64 a.call.value,.string a.call.text,.int .i64 a.face,u9,u10]] w (fun e w'=>∃A9 cap9 A10 cap10,e= .returned (.agg #[.int .i64 a.op,.int .i64 a.slot,.int .i64 a.other,.string a.word,.string a.call.method,.string a.call.key,.int .i64 a.call.value,.string a.call.text,.int .i64 a.face,.slice A9 a.A.length cap9,.slice A10 a.B.length cap10])/\NewL w w' (actionF a) [.int .i64 a.op,.int .i64 a.slot,.int .i64 a.other,.string a.word,.string a.call.method,.string a.call.key,.int .i64 a.call.value,.string a.call.text,.int .i64 a.face,.slice A9 a.A.length cap9,.slice A10 a.B.length cap10]):=by
 rw [actionW_eq] at hW
 have HA:=hid hA;have HB:=hid hB;clear hA hB
 go_enter Tryz.func27,Tryz.ntmps27
 go_wp2_with fail
 refine(toCall_el a.call _ (by omega) ).mono ?_;rintro e w1 ⟨rfl,n1⟩
 obtain⟨y1,z1,s1⟩:=n1.chg.cells
 have d1:Chg [] w w1:=Chg.trans0 Chg.now n1.chg
 have t1:w.heap.size+1+1<w1.heap.size:=by simp at s1;omega
 have t1':w.heap.size+1<w1.heap.size:=by omega
 have t1'':w.heap.size<w1.heap.size:=by omega
 go_wp2_with fail
 refine(HA.out u9 B _ (by omega) (r9.chg0 (Chg.to d1) hBw) (by simp;omega)).mono ?_;intro e w2 G2;obtain⟨A9,cap9,rfl,n2⟩:=G2.sl
 obtain⟨y2,z2,s2⟩:=n2.chg.cells
 have d2:Chg [] w w2:=Chg.trans0 (Chg.to d1) n2.chg
 have t2:w.heap.size+1+1<w2.heap.size:=by simp at s2;omega
 have t2':w.heap.size+1<w2.heap.size:=by omega
 have t2'':w.heap.size<w2.heap.size:=by omega
 go_wp2_with fail
 refine(HB.out u10 B _ (by omega) (r10.chg0 (Chg.to d2) hBw) (by simp;omega)).mono ?_;intro e w3 G3;obtain⟨A10,cap10,rfl,n3⟩:=G3.sl
 obtain⟨y3,z3,s3⟩:=n3.chg.cells
 have d3:Chg [] w w3:=Chg.trans0 (Chg.to d2) n3.chg
 have t3:w.heap.size+1+1<w3.heap.size:=by simp at s3;omega
 have t3':w.heap.size+1<w3.heap.size:=by omega
 have t3'':w.heap.size<w3.heap.size:=by omega
 go_wp2_with fail
 refine bodyPost_ret (v:=.agg #[.int .i64 a.op,.int .i64 a.slot,.int .i64 a.other,.string a.word,.string a.call.method,.string a.call.key,.int .i64 a.call.value,.string a.call.text,.int .i64 a.face,.slice A9 a.A.length cap9,.slice A10 a.B.length cap10]) (by simp only [results,Tryz.results27];go_simp) rfl ⟨_,_,_,_,rfl,?_⟩
 rw [actionF_parts]
 refine NewT.start (T:=[w.heap.size+1,w.heap.size+1+1]) ?_ (by intro x hx;simp at hx;omega)
 refine NewT.cons_v ?_
 refine NewT.cons_v ?_
 refine NewT.cons_v ?_
 refine NewT.cons_v ?_
 refine NewT.app_new n1 (by intro x hx;simp at hx ⊢;omega) Chg.now (Chg.refl _ _) ?_
 refine NewT.cons_v ?_
 refine NewT.cons_new n2 (by intro x hx;simp at hx ⊢;omega) Chg.now (Chg.refl _ _) ?_
 refine NewT.cons_new n3 (by intro x hx;simp at hx ⊢;omega) Chg.now (Chg.refl _ _) ?_
 refine NewT.nil ?_
 repeat(first|with_reducible exact Chg.refl _ _|with_reducible refine Chg.drew ?_|with_reducible refine Chg.alloc ?_ _|with_reducible refine Chg.setCell ?_ (.inl (by simp)) _)

def actionZ:List Dat:=[.v (.int .i64 0),.v (.int .i64 0),.v (.int .i64 0),.v (.string ⟨#[]⟩),.v (.string ⟨#[]⟩),.v (.string ⟨#[]⟩),.v (.int .i64 0),.v (.string ⟨#[]⟩),.v (.int .i64 0),.s 0 [],.s 0 []]
theorem actionZ_own (w:World):OwnL w actionZ [.int .i64 0,.int .i64 0,.int .i64 0,.string ⟨#[]⟩,.string ⟨#[]⟩,.string ⟨#[]⟩,.int .i64 0,.string ⟨#[]⟩,.int .i64 0,.slice none 0 0,.slice none 0 0] []:=by
 have h:HasL w actionZ [.int .i64 0,.int .i64 0,.int .i64 0,.string ⟨#[]⟩,.string ⟨#[]⟩,.string ⟨#[]⟩,.int .i64 0,.string ⟨#[]⟩,.int .i64 0,.slice none 0 0,.slice none 0 0] []:=by
  unfold actionZ
  repeat(first|with_reducible exact HasL.nil _|with_reducible refine HasL.cons_v ?_|with_reducible refine HasL.cons_nil ?_)
 exact h.1
theorem toActionS_any_all:∀l,toActionS_any_P l:=by
 refine ActionT.ind fun l ih=>?_
 intro u B w hl hr hB
 have IH:=hid ih
 clear ih
 have hll:l.length<=1048576:=by unfold actionsW at hl;omega
 obtain⟨A,cap,rfl,h0,h1,hrow⟩:=actions_row hr
 have hmk:=fun W=>run_make_rowN (P:=Tryz.prog) 33 75 _ 11 152 Tryz.underlying33 action_info .i64 .i64 l.length l.length (Nat.le_refl _) (by omega) (by omega) W
 unfold maxLen at h1
 clear hr
 go_enter Tryz.func8,Tryz.ntmps8
 go_wp2_with fail
 go_loopw [4] (fun i wr=>∃k:Nat,k<=l.length/\i= .int .i64 k/\New w wr (.s l.length (filled actionF actionZ l k)) (.slice (some ⟨w.heap.size,0,none⟩) l.length l.length)) (fun i _=>l.length-(intOf i).toNat)
 case atStart=>exact⟨0,Nat.zero_le _,rfl,New.make w 75 _ 11 rfl (by omega) actionZ actionZ_own actionF l l.length rfl (by unfold maxLen;omega)⟩
 case round=>
  obtain⟨k,hk,rfl,hh⟩:=hrel
  by_cases hlt:k<l.length
  ·obtain⟨b,off,u9,u10,rfl,hb,q0,q1,q2,q3,q4,q5,q6,q7,q8,q9,q10,r9,r10⟩:=actions_cells (hrow.chg0 hh.chg hB) k hlt
   have hwt:=actionsW_mem (List.getElem_mem hlt)
   go_wp2_with fail
   refine(toAction_el l[k] (IH.out _ (List.getElem_mem hlt)).1 (IH.out _ (List.getElem_mem hlt)).2 u9 u10 B _ (by unfold actionsW at hl;omega) r9 r10 (by have:=hh.chg.size;omega)).mono ?_;rintro e w1 ⟨A9,cap9,A10,cap10,rfl,n1⟩
   have hset:=hh.fill actionF_len rfl hlt n1
   have hh1:=hh.later n1.chg
   obtain⟨rm0,x0,rc0⟩:=hh1.room (j:=k * 11) (by rw [filled_length actionF_len rfl _ _ hk];omega)
   obtain⟨rm1,x1,rc1⟩:=hh1.room (j:=k * 11+1) (by rw [filled_length actionF_len rfl _ _ hk];omega)
   obtain⟨rm2,x2,rc2⟩:=hh1.room (j:=k * 11+2) (by rw [filled_length actionF_len rfl _ _ hk];omega)
   obtain⟨rm3,x3,rc3⟩:=hh1.room (j:=k * 11+3) (by rw [filled_length actionF_len rfl _ _ hk];omega)
   obtain⟨rm4,x4,rc4⟩:=hh1.room (j:=k * 11+4) (by rw [filled_length actionF_len rfl _ _ hk];omega)
   obtain⟨rm5,x5,rc5⟩:=hh1.room (j:=k * 11+5) (by rw [filled_length actionF_len rfl _ _ hk];omega)
   obtain⟨rm6,x6,rc6⟩:=hh1.room (j:=k * 11+6) (by rw [filled_length actionF_len rfl _ _ hk];omega)
   obtain⟨rm7,x7,rc7⟩:=hh1.room (j:=k * 11+7) (by rw [filled_length actionF_len rfl _ _ hk];omega)
   obtain⟨rm8,x8,rc8⟩:=hh1.room (j:=k * 11+8) (by rw [filled_length actionF_len rfl _ _ hk];omega)
   obtain⟨rm9,x9,rc9⟩:=hh1.room (j:=k * 11+9) (by rw [filled_length actionF_len rfl _ _ hk];omega)
   obtain⟨rm10,x10,rc10⟩:=hh1.room (j:=k * 11+10) (by rw [filled_length actionF_len rfl _ _ hk];omega)
   go_wp2_with fail
   go_roundw
   case rel=>exact⟨k+1,by omega,by go_num,hset⟩
   case measure=>simp [intOf];omega
  ·obtain rfl:k=l.length:=by omega
   rw [filled_all] at hh
   go_wp2_with fail
   go_ret
   exact⟨_,rfl,hh⟩

theorem toActionS_any (l:List ActionT) (u:Value) (B:Nat) (w:World) (hl:actionsW l<=1048576) (hr:Rd w B (actions l) u) (hB:B<=w.heap.size):
  Calls Tryz.prog 8 #[u] w (Gives (actions l) w):=toActionS_any_all l u B w hl hr hB

def eqActionS_same_P (l:List ActionT):Prop:=∀(u v:Value) (B B':Nat) (w:World) (_hr:Rd w B (actions l) u) (_hs:Rd w B' (actions l) v) (_hB:B<=w.heap.size) (_hB':B'<=w.heap.size),Calls Tryz.prog 13 #[u,v] w fun e w'=>e= .returned (.bool true)/\Chg [] w w'
theorem eqAction_el (a:ActionT) (hA:eqActionS_same_P a.A) (hB:eqActionS_same_P a.B) (u9 u10 v9 v10:Value) (B B':Nat) (w:World) (r9:Rd w B (actions a.A) u9) (r10:Rd w B (actions a.B) u10) (s9:Rd w B' (actions a.A) v9) (s10:Rd w B' (actions a.B) v10) (hBw:B<=w.heap.size) (hBw':B'<=w.heap.size):
  Calls Tryz.prog 33 #[.agg #[.int .i64 a.op,.int .i64 a.slot,.int .i64 a.other,.string a.word,.string a.call.method,.string a.call.key,.int .i64 a.call.value,.string a.call.text,.int .i64 a.face,u9,u10],.agg #[.int .i64 a.op,.int .i64 a.slot,.int .i64 a.other,.string a.word,.string a.call.method,.string a.call.key,.int .i64 a.call.value,.string a.call.text,.int .i64 a.face,v9,v10]] w fun e w'=>e= .returned (.bool true)/\Chg [] w w':=by
 have HA:=hid hA;have HB:=hid hB;clear hA hB
 go_enter Tryz.func33,Tryz.ntmps33
 go_wp2_with fail
 refine(eqCall_el a.call _).mono ?_;rintro e w1 ⟨rfl,c1⟩
 obtain⟨y1,_,z1⟩:=c1.cells
 have d1:Chg [] w w1:=Chg.trans0 (((Chg.refl _ _).alloc _).alloc _) c1
 have t1:w.heap.size+1<w1.heap.size:=by simp at z1;omega
 have t1':w.heap.size<w1.heap.size:=by omega
 go_wp2_with fail
 refine(HA.out u9 v9 B B' _ (r9.chg0 (d1) hBw) (s9.chg0 (d1) hBw') (by have:=d1.size;omega) (by have:=d1.size;omega)).mono ?_;rintro e w2 ⟨rfl,c2⟩
 obtain⟨y2,_,z2⟩:=c2.cells
 have d2:Chg [] w w2:=Chg.trans0 (d1) c2
 have t2:w.heap.size+1<w2.heap.size:=by omega
 have t2':w.heap.size<w2.heap.size:=by omega
 go_wp2_with fail
 refine(HB.out u10 v10 B B' _ (r10.chg0 (d2) hBw) (s10.chg0 (d2) hBw') (by have:=d2.size;omega) (by have:=d2.size;omega)).mono ?_;rintro e w3 ⟨rfl,c3⟩
 obtain⟨y3,_,z3⟩:=c3.cells
 have d3:Chg [] w w3:=Chg.trans0 (d2) c3
 have t3:w.heap.size+1<w3.heap.size:=by omega
 have t3':w.heap.size<w3.heap.size:=by omega
 go_wp2_with fail
 go_ret
 exact⟨rfl,d3⟩

theorem eqActionS_same_all:∀l,eqActionS_same_P l:=by
 refine ActionT.ind fun l ih=>?_
 intro u v B B' w hr hs hB hB'
 have IH:=hid ih
 clear ih
 obtain⟨A,cap,rfl,h0,h1,hrow⟩:=actions_row hr
 obtain⟨A',cap',rfl,h0',h1',hrow'⟩:=actions_row hs
 unfold maxLen at h1 h1'
 clear hr hs
 go_enter Tryz.func13,Tryz.ntmps13
 go_wp2_with fail
 go_loopw [5] (fun i wr=>∃k:Nat,k<=l.length/\i= .int .i64 k/\Chg [] w wr) (fun i _=>l.length-(intOf i).toNat)
 case atStart=>exact⟨0,Nat.zero_le _,rfl,Chg.refl _ _⟩
 case round=>
  obtain⟨k,hk,rfl,hc⟩:=hrel
  by_cases hlt:k<l.length
  ·obtain⟨b,off,u9,u10,rfl,hb,q0,q1,q2,q3,q4,q5,q6,q7,q8,q9,q10,r9,r10⟩:=actions_cells (hrow.chg0 hc hB) k hlt
   obtain⟨b',off',v9,v10,rfl,hb',p0,p1,p2,p3,p4,p5,p6,p7,p8,p9,p10,s9,s10⟩:=actions_cells (hrow'.chg0 hc hB') k hlt
   have el:=fun W (hW:Chg [] wr W)=>eqAction_el l[k] (IH.out _ (List.getElem_mem hlt)).1 (IH.out _ (List.getElem_mem hlt)).2 u9 u10 v9 v10 B B' W (r9.chg0 hW (by have:=hc.size;omega)) (r10.chg0 hW (by have:=hc.size;omega)) (s9.chg0 hW (by have:=hc.size;omega)) (s10.chg0 hW (by have:=hc.size;omega)) (by have:=hc.size;have:=hW.size;omega) (by have:=hc.size;have:=hW.size;omega)
   have EL:=hid el
   clear el
   go_wp2_with fail
   go_still_tail 8,(by kernel_rfl)
   change wpList _ _ _ _ _ wr.drew
   go_wp2_with fail
   refine(EL.out _ ((Chg.refl _ _).drew)).mono ?_;rintro e w1 ⟨rfl,c1⟩
   go_wp2_with fail
   go_roundw
   case rel=>exact⟨k+1,by omega,by go_num,hc.drew.trans0 c1⟩
   case measure=>simp [intOf];omega
  ·obtain rfl:k=l.length:=by omega
   go_wp2_with fail
   go_ret
   exact⟨rfl,hc⟩

theorem eqActionS_same (l:List ActionT) (u v:Value) (B B':Nat) (w:World) (hr:Rd w B (actions l) u) (hs:Rd w B' (actions l) v) (hB:B<=w.heap.size) (hB':B'<=w.heap.size):
  Calls Tryz.prog 13 #[u,v] w fun e w'=>e= .returned (.bool true)/\Chg [] w w':=eqActionS_same_all l u v B B' w hr hs hB hB'

def markActionS_any_P (l:List ActionT):Prop:=∀(u:Value) (S:List Nat) (k0:Int) (w:World) (_hk0:0<=k0) (_hkb:k0+actionsN l<=100000000) (_hh:Has w (actions l) u S),Calls Tryz.prog 16 #[u,.int .i64 k0] w fun e w'=>e= .returned (.int .i64 (k0+actionsN l))/\Has w' (actions (actionsM l k0)) u S/\Chg S w w'
theorem markActionS_any_all:∀l,markActionS_any_P l:=by
 refine ActionT.ind fun l ih=>?_
 intro u S k0 w hk0 hkb hh
 have IH:=hid ih
 clear ih
 obtain⟨A,cap,rfl,h0,h1,_⟩:=hh.rd.at_
 unfold maxLen at h1
 go_enter Tryz.func16,Tryz.ntmps16
 go_wp2_with fail
 go_loopw [1,5] (fun r i wr=>∃(i':Nat) (k:Int),i'<=l.length/\i= .int .i64 i'/\r= .int .i64 k/\0<=k/\k<=100000000/\Hid (k=k0+((l.take i').map actionN).sum)/\Has wr (.s l.length ((mapK actionM actionN (l.take i') k0++l.drop i').flatMap actionF)) (.slice A l.length cap) S/\Chg S w wr) (fun _ i _=>l.length-(intOf i).toNat)
 case atStart=>exact⟨0,k0,Nat.zero_le _,rfl,rfl,hk0,by omega,by simp [Hid],by simp only [List.take_zero,mapK,List.nil_append,List.drop_zero];exact hh,Chg.refl _ _⟩
 case round=>
  obtain⟨i,k,hi,rfl,rfl,hk1,hk2,hkq,H0,hc⟩:=hrel
  by_cases hlt:i<l.length
  ·obtain⟨g,rfl,hgS⟩:=H0.own (by omega)
   have hn1:k+actionN l[i] <=100000000:=by
    have:=sum_take actionN l i hlt;have:=sum_le actionN l (i+1);have:=hkq.out;unfold actionsN at hkb;omega
   rw [actionN_eq] at hn1
   rw [marking_at l k0 i hlt,actionF_eq] at H0
   have hX:=marking_X (M:=actionM) (N:=actionN) actionF_len l k0 i hlt
   obtain⟨rf0_0,rx0_0,rc0_0⟩:=H0.room0 hX (by simp)
   obtain⟨rf0_1,rx0_1,rc0_1⟩:=H0.roomAt hX 1 (by simp)
   obtain⟨rf0_2,rx0_2,rc0_2⟩:=H0.roomAt hX 2 (by simp)
   have P0:=(((H0.set0 hX rfl (.int .i64 (k))).setAt hX (j:=1) rfl (.int .i64 (k+1))).setAt hX (j:=2) rfl (.int .i64 (k+1+1)))
   go_wp2_with fail
   refine(markText_any _ _ (by omega)).mono ?_;rintro e w1 ⟨rfl,c1⟩
   have H1:=P0.keep0 c1
   have D1:Chg S w w1:=Chg.trans0 (Chg.to hc) c1
   obtain⟨rf1_3,rx1_3,rc1_3⟩:=H1.roomAt hX 3 (by simp)
   have P1:=(H1.setAt hX (j:=3) rfl (.string (mt (k+1+1+1))))
   go_wp2_with fail
   refine(markText_any _ _ (by omega)).mono ?_;rintro e w2 ⟨rfl,c2⟩
   have H2:=P1.keep0 c2
   have D2:Chg S w w2:=Chg.trans0 (Chg.to D1) c2
   obtain⟨rf2_4,rx2_4,rc2_4⟩:=H2.roomAt hX 4 (by simp)
   have P2:=(H2.setAt hX (j:=4) rfl (.string (mt (k+1+1+1+1))))
   go_wp2_with fail
   refine(markText_any _ _ (by omega)).mono ?_;rintro e w3 ⟨rfl,c3⟩
   have H3:=P2.keep0 c3
   have D3:Chg S w w3:=Chg.trans0 (Chg.to D2) c3
   obtain⟨rf3_5,rx3_5,rc3_5⟩:=H3.roomAt hX 5 (by simp)
   obtain⟨rf3_6,rx3_6,rc3_6⟩:=H3.roomAt hX 6 (by simp)
   have P3:=((H3.setAt hX (j:=5) rfl (.string (mt (k+1+1+1+1+1)))).setAt hX (j:=6) rfl (.int .i64 (k+1+1+1+1+1+1)))
   go_wp2_with fail
   refine(markText_any _ _ (by omega)).mono ?_;rintro e w4 ⟨rfl,c4⟩
   have H4:=P3.keep0 c4
   have D4:Chg S w w4:=Chg.trans0 (Chg.to D3) c4
   obtain⟨rf4_7,rx4_7,rc4_7⟩:=H4.roomAt hX 7 (by simp)
   obtain⟨rf4_8,rx4_8,rc4_8⟩:=H4.roomAt hX 8 (by simp)
   obtain⟨u9,_,q9,_,_,_⟩:=H4.subAt hX (j:=9) rfl
   have P4:=((H4.setAt hX (j:=7) rfl (.string (mt (k+1+1+1+1+1+1+1)))).setAt hX (j:=8) rfl (.int .i64 (k+1+1+1+1+1+1+1+1)))
   go_wp2_with fail
   obtain⟨S4,hs4,hS4,back4⟩:=P4.subOf hX (j:=9) rfl (u:=u9) (by go_simp)
   refine((IH.out _ (List.getElem_mem hlt)).1 _ _ _ _ (by omega) (by omega) hs4).mono ?_;rintro e w5 ⟨rfl,hm5,c5⟩
   have H5:=back4 _ _ c5 hm5
   have D5:Chg S w w5:=Chg.trans (Chg.to D4) c5 (fun x hx=>.inl (hS4 x hx))
   obtain⟨u10,_,q10,_,_,_⟩:=H5.subAt hX (j:=10) rfl
   have P5:=H5
   go_wp2_with fail
   obtain⟨S5,hs5,hS5,back5⟩:=P5.subOf hX (j:=10) rfl (u:=u10) (by go_simp)
   refine((IH.out _ (List.getElem_mem hlt)).2 _ _ _ _ (by omega) (by omega) hs5).mono ?_;rintro e w6 ⟨rfl,hm6,c6⟩
   have H6:=back5 _ _ c6 hm6
   have D6:Chg S w w6:=Chg.trans (Chg.to D5) c6 (fun x hx=>.inl (hS5 x hx))
   have P6:=H6
   go_wp2_with fail
   go_roundw
   case rel=>
    have e1:((l.take (i+1)).map actionN).sum=((l.take i).map actionN).sum+actionN l[i]:=sum_take actionN l i hlt
    have e2:=hkq.out
    refine⟨i+1,_,by omega,by go_num,rfl,by omega,by omega,?_,?_,?_⟩
    ·show _=_;have e3:actionN l[i]=9+actionsN l[i].A+actionsN l[i].B:=actionN_eq _
     rw [e1,e3];omega
    ·rw [marking_next l k0 i hlt, <-e2,actionM_F];exact P6
    ·repeat(first|with_reducible exact D6|with_reducible refine Chg.drew ?_|with_reducible refine Chg.alloc ?_ _|with_reducible refine Chg.setCell ?_ (.inl hgS) _)
   case measure=>simp [intOf];omega
  ·obtain rfl:i=l.length:=by omega
   go_wp2_with fail
   go_ret
   have h5:=hkq.out
   rw [List.take_length,List.drop_length,List.append_nil] at H0
   rw [List.take_length] at h5
   refine⟨ret_int h5,?_,hc⟩
   show Has _ (.s (mapK actionM actionN l k0).length ((mapK actionM actionN l k0).flatMap actionF)) _ _
   rw [mapK_length]
   exact H0

theorem markActionS_any (l:List ActionT) (u:Value) (S:List Nat) (k0:Int) (w:World) (hk0:0<=k0) (hkb:k0+actionsN l<=100000000) (hh:Has w (actions l) u S):
  Calls Tryz.prog 16 #[u,.int .i64 k0] w fun e w'=>e= .returned (.int .i64 (k0+actionsN l))/\Has w' (actions (actionsM l k0)) u S/\Chg S w w':=markActionS_any_all l u S k0 w hk0 hkb hh

end Go.Proofs.YtjigcplpkhpgnaaGreatDoor
