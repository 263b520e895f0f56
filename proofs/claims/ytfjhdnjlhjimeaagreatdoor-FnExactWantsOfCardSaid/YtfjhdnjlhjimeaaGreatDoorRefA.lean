/- EitherFace of the reference. Conditions: as stated. -/
import Derived.Test.YtfjhdnjlhjimeaaGreatDoorInf
import Derived.Test.YtfjhdnjlhjimeaaGreatDoorTextsP
set_option maxRecDepth 100000
set_option maxHeartbeats 2000000
namespace Go.Proofs.YtfjhdnjlhjimeaaGreatDoor
open Go.RowKit

def knT:Kn->ByteArray
 | .no=>⟨#[]⟩
 | .giv i=>W5 (i:Int)
 | .known l f=>W5 (l:Int)++(xG++Gc f)
def Kn.sm:Kn->Prop
 | .no=>True
 | .giv i=>i<3
 | .known l f=>l<=3/\ql f
theorem Qjb:∀n:Fin 5,(32:UInt8)∉(W5 ((n.1:Nat):Int)).data.toList/\(W5 ((n.1:Nat):Int)).size=1:=by decide+kernel
theorem Qjr:∀n:Fin 64,(32:UInt8)∉(Gc ((n.1:Nat):Int)).data.toList:=by decide+kernel
theorem Qjo {f:Int} (h:ql f):(32:UInt8)∉(Gc f).data.toList:=by
 have:=Qjr ⟨f.toNat,by have:=h.1;have:=h.2;omega⟩
 have e:((f.toNat:Nat):Int)=f:=by have:=h.1;omega
 simpa only [e] using this
theorem Qjq {x:Kn} (h:x.sm):(knT x).size<=200:=by
 cases x with
 |no=>exact I3 _
 |giv i=>
  have:=(Qjb ⟨i,by have:i<3:=h;omega⟩).2
  show(W5 (i:Int)).size<=200
  simp only at this
  omega
 |known l f=>
  have h1:=(Qjb ⟨l,by have:=h.1;omega⟩).2
  have h2:=Jy f
  show(W5 (l:Int)++(xG++Gc f)).size<=200
  rw [M3,M3]
  simp only at h1
  have:xG.size=1:=rfl
  omega
def Kn.words:Kn->List ByteArray
 | .no=>[⟨#[]⟩]
 | .giv i=>[W5 (i:Int)]
 | .known l f=>[W5 (l:Int),Gc f]
def Kn.ftext:Kn->ByteArray
 | .known _ f=>Gc f
 |_=>⟨#[]⟩
theorem Qjm {x:Kn} (h:x.sm):QG 32 (knT x)=x.words:=by
 cases x with
 |no=>rfl
 |giv i=>exact yF (Qjb ⟨i,by have:i<3:=h;omega⟩).1
 | known l f=>
  have h1:=(Qjb ⟨l,by have:=h.1;omega⟩).1
  have h2:=Qjo h.2
  have e:knT (.known l f)=Zx [W5 (l:Int),Gc f] xG:=by
   have:=uX (W5 (l:Int)) [] (Gc f)
   simp only [J9,M2] at this
   rw [this,KR]
   rfl
  rw [e]
  refine wu _ _ (fun y hy=>?_)
  simp only [C7,F1,or_false] at hy
  rcases hy with rfl|rfl
  ·exact h1
  ·exact h2
theorem Qjy {x:Kn} (h:x.sm):(knT x).toList=[] ↔x= .no:=by
 constructor
 ·intro h0
  cases x with
  |no=>rfl
  |giv i=>
   have:=(Qjb ⟨i,by have:i<3:=h;omega⟩).2
   rw [<-Zl, <-ByteArray.toList_eq] at this
   have h0:(W5 (i:Int)).toList=[]:=h0
   simp only at this
   rw [h0] at this
   cases this
  | known l f=>
   have h1:=congrArg List.length h0
   rw [ByteArray.toList_eq,Zl] at h1
   have h2:(knT (.known l f)).size=(W5 (l:Int)).size+(1+(Gc f).size):=by
    show(W5 (l:Int)++(xG++Gc f)).size=_
    rw [M3,M3]
    rfl
   simp only [U7] at h1
   omega
 ·rintro rfl;rw [ByteArray.toList_eq];rfl
theorem Qjs {P:Program} {a b x:ByteArray} (hx:x=a++b) (h:a.size+b.size<=9223372036854775807) (W:World):(Op.stringOp .add a b).run P W= .ok (.string x) W:=by
 rw [hx];exact run_string_add_sum _ _ _ h
def Kn.lay:Kn->Nat
 | .known l _=>l
 |_=>0
def Kn.face:Kn->Option Int
 | .known _ f=>some f
 |_=>none
theorem Qjx:∀n:Fin 3,Qjv (W5 ((n.1:Nat):Int))=none:=by decide+kernel
theorem Qjn (s:ByteArray) (w:World):
  Calls Tryz.prog 116 #[.string s] w (WU ((Qj s).map (·.2)) w):=by
 go_enter Tryz.func116,Tryz.ntmps116
 go_wp2_with fail
 refine(QcX s w).mono ?_
 rintro e w1 ⟨rfl,c1⟩
 go_wp2_with fail
 go_ret2
 refine⟨?_,c1⟩
 cases Qj s<;>rfl
theorem Qju (f:Int) (l:Nat) (w:World) (hl:l<=4):
  Calls Tryz.prog 114 #[.int .i64 f,.int .i64 (l:Int)] w (Kv (knT (.known l f)) w):=by
 have FN:=Qb (fun W=>Wx (l:Int) W (by omega) (by omega))
 have FF:=Qb (fun W=>Qjf f W)
 have h1:=(Qjb ⟨l,by omega⟩).2
 have h2:=Jy f
 simp only at h1
 have k1:=Qb (fun W=>Qjs (P:=Tryz.prog) (a:=W5 (l:Int)) (b:=⟨#[32]⟩) rfl (by show _+1<=_;omega) W)
 have k2:=Qb (fun W=>Qjs (P:=Tryz.prog) (a:=W5 (l:Int)++⟨#[32]⟩) (b:=Gc f) rfl (by rw [M3];show _+1+_<=_;omega) W)
 have e0:knT (.known l f)=W5 (l:Int)++⟨#[32]⟩++Gc f:=by
  show W5 (l:Int)++(xG++Gc f)=_
  rw [ByteArray.append_assoc];rfl
 rw [e0]
 obtain⟨a,ha⟩:∃a,W5 (l:Int)=a:=⟨_,rfl⟩
 obtain⟨b,hb⟩:∃b,Gc f=b:=⟨_,rfl⟩
 obtain⟨c,hc⟩:∃c,a++⟨#[32]⟩=c:=⟨_,rfl⟩
 obtain⟨d,hd⟩:∃d,c++b=d:=⟨_,rfl⟩
 rw [ha] at FN k1 k2 ⊢
 rw [hb] at FF k2 ⊢
 rw [hc] at k1 k2 ⊢
 rw [hd] at k2 ⊢
 clear ha hb hc hd h1 h2 e0
 replace k1:=k1.out
 replace k2:=k2.out
 go_enter Tryz.func114,Tryz.ntmps114
 go_wp2_with fail
 refine(FN.out _).mono ?_
 rintro e w1 ⟨rfl,c1⟩
 go_wp2_with fail
 refine(FF.out _).mono ?_
 rintro e w2 ⟨rfl,c2⟩
 go_wp2_with fail
 go_ret
 exact⟨rfl,c1.tz c2⟩
theorem Qjw (x:Kn) (h:x.sm) (w:World):
  Calls Tryz.prog 120 #[.string (knT x)] w (Kv x.ftext w):=by
 have SP:=JJ (knT x) 32 w (by have:=Qjq h;omega)
 rw [Qjm h] at SP
 obtain⟨t,ht⟩:∃t,knT x=t:=⟨_,rfl⟩
 rw [ht] at SP ⊢
 clear ht
 cases x with
 |no=>
  replace SP:Calls Tryz.prog 150 #[.string t,.string ⟨#[32]⟩] w (KW (WB [⟨#[]⟩]) w):=SP
  replace SP:=Qb SP
  go_enter Tryz.func120,Tryz.ntmps120
  go_wp2_with fail
  refine SP.out.mono ?_
  intro e w1 G
  obtain⟨A,cap,rfl,n1⟩:=G.sl
  have c1:=n1.chg
  clear SP G n1
  go_wp2_with fail
  go_ret
  exact⟨rfl,c1⟩
 |giv i=>
  replace SP:Calls Tryz.prog 150 #[.string t,.string ⟨#[32]⟩] w (KW (WB [W5 (i:Int)]) w):=SP
  replace SP:=Qb SP
  go_enter Tryz.func120,Tryz.ntmps120
  go_wp2_with fail
  refine SP.out.mono ?_
  intro e w1 G
  obtain⟨A,cap,rfl,n1⟩:=G.sl
  have c1:=n1.chg
  clear SP G n1
  go_wp2_with fail
  go_ret
  exact⟨rfl,c1⟩
 |known l f=>
  have hl:l<=3:=h.1
  clear h
  replace SP:Calls Tryz.prog 150 #[.string t,.string ⟨#[32]⟩] w (KW (WB [W5 (l:Int),Gc f]) w):=SP
  have h1:=(Qjb ⟨l,by omega⟩).2
  simp only at h1
  obtain⟨u,hu⟩:∃u,W5 (l:Int)=u:=⟨_,rfl⟩
  obtain⟨v,hv⟩:∃v,Gc f=v:=⟨_,rfl⟩
  show Calls _ _ _ _ (Kv (Gc f) w)
  rw [hu,hv] at SP
  rw [hv]
  replace SP:=Qb SP
  clear h1
  go_enter Tryz.func120,Tryz.ntmps120
  go_wp2_with fail
  refine SP.out.mono ?_
  intro e w1 G
  obtain⟨A,cap,rfl,n1⟩:=G.sl
  have c1:=n1.chg
  obtain⟨A',cap',ee,_,_,hrow⟩:=YB n1.rd
  obtain⟨rfl,rfl⟩:A=A'/\cap=cap':=by injection ee with h1 _ h2;exact⟨h1,h2⟩
  obtain⟨b,off,rfl,hb,q1⟩:=ZO hrow 1 (show 1<2 by decide)
  replace q1:w1.cell? ⟨b,off+1,none⟩=some (.string v):=q1
  clear SP G n1 hrow ee
  go_wp2_with fail
  go_ret
  exact⟨rfl,c1⟩
theorem Qjt (x:Kn) (h:x.sm) (w:World):
  Calls Tryz.prog 117 #[.string (knT x)] w (xY (x.lay:Int) w):=by
 have SP:=JJ (knT x) 32 w (by have:=Qjq h;omega)
 rw [Qjm h] at SP
 obtain⟨t,ht⟩:∃t,knT x=t:=⟨_,rfl⟩
 rw [ht] at SP ⊢
 clear ht
 cases x with
 |no=>
  replace SP:Calls Tryz.prog 150 #[.string t,.string ⟨#[32]⟩] w (KW (WB [⟨#[]⟩]) w):=SP
  replace SP:=Qb SP
  go_enter Tryz.func117,Tryz.ntmps117
  go_wp2_with fail
  refine SP.out.mono ?_
  intro e w1 G
  obtain⟨A,cap,rfl,n1⟩:=G.sl
  have c1:=n1.chg
  clear SP G n1
  go_wp2_with fail
  go_ret
  exact⟨rfl,c1⟩
 |giv i=>
  replace SP:Calls Tryz.prog 150 #[.string t,.string ⟨#[32]⟩] w (KW (WB [W5 (i:Int)]) w):=SP
  replace SP:=Qb SP
  go_enter Tryz.func117,Tryz.ntmps117
  go_wp2_with fail
  refine SP.out.mono ?_
  intro e w1 G
  obtain⟨A,cap,rfl,n1⟩:=G.sl
  have c1:=n1.chg
  clear SP G n1
  go_wp2_with fail
  go_ret
  exact⟨rfl,c1⟩
 |known l f=>
  have hl:l<=3:=h.1
  clear h
  replace SP:Calls Tryz.prog 150 #[.string t,.string ⟨#[32]⟩] w (KW (WB [W5 (l:Int),Gc f]) w):=SP
  have h1:=(Qjb ⟨l,by omega⟩).2
  simp only at h1
  have PN:=Qb (fun W=>JX (W5 (l:Int)) W (by omega))
  rw [Qjj (show ZK (l:Int) from⟨by omega,by omega⟩)] at PN
  obtain⟨u,hu⟩:∃u,W5 (l:Int)=u:=⟨_,rfl⟩
  obtain⟨v,hv⟩:∃v,Gc f=v:=⟨_,rfl⟩
  show Calls _ _ _ _ (xY (l:Int) w)
  rw [hu,hv] at SP
  rw [hu] at PN
  replace SP:=Qb SP
  clear h1
  go_enter Tryz.func117,Tryz.ntmps117
  go_wp2_with fail
  refine SP.out.mono ?_
  intro e w1 G
  obtain⟨A,cap,rfl,n1⟩:=G.sl
  have c1:=n1.chg
  obtain⟨A',cap',ee,_,_,hrow⟩:=YB n1.rd
  obtain⟨rfl,rfl⟩:A=A'/\cap=cap':=by injection ee with h1 _ h2;exact⟨h1,h2⟩
  obtain⟨b,off,rfl,hb,q1⟩:=ZO hrow 0 (show 0<2 by decide)
  replace q1:w1.cell? ⟨b,off+0,none⟩=some (.string u):=q1
  clear SP G n1 hrow ee
  rw [L3] at q1
  go_wp2_with fail
  refine(PN.out _).mono ?_
  rintro e w2 ⟨rfl,c2⟩
  go_wp2_with fail
  go_ret
  exact⟨rfl,c1.tz c2⟩
end Go.Proofs.YtfjhdnjlhjimeaaGreatDoor
namespace Go.Proofs.YtfjhdnjlhjimeaaGreatDoor
open Go.RowKit

def Qjg (w:World) (l:List ByteArray) (v:Value):Prop:=∃A cap,v= .slice A l.length cap/\l.length<=cap/\cap<=maxLen/\
 (l=[] ∨∃b off cs fr,A=some ⟨b,off,none⟩/\w.heap[b]?=some (.cells cs 9 fr)/\∀(j:Nat) (h:j<l.length),w.cell? ⟨b,off+j,none⟩=some (.string l[j]))
def Qjh (w:World) (S:List Nat):Prop:=∀x∈S,∀cs fr,w.heap[x]?≠some (.cells cs 9 fr)
theorem Qjh.nil {w:World}:Qjh w []:=fun x hx=>by cases hx
theorem Qjg.keep {w w':World} {l:List ByteArray} {v:Value} {S:List Nat} (h:Qjg w l v) (hc:Qc S w w') (hS:Qjh w S):Qjg w' l v:=by
 obtain⟨A,cap,rfl,h1,h2,h3⟩:=h
 refine⟨A,cap,rfl,h1,h2,?_⟩
 rcases h3 with h3|⟨b,off,cs,fr,rfl,hb,h3⟩
 ·exact .inl h3
 ·have hlt:b<w.heap.size:=(F5.1 hb).1
  have hn:b∉S:=fun hx=>hS b hx cs fr hb
  exact .inr ⟨b,off,cs,fr,rfl,(hc.block b hlt hn).trans hb,fun j hj=>(hc.cell (p:=⟨b,off+j,none⟩) hlt hn).trans (h3 j hj)⟩
theorem Qjg.at3 {w:World} {t:YY ByteArray} {v:Value} (h:Qjg w t.list v):∃b off cap,v= .slice (some ⟨b,off,none⟩) 3 cap/\3<=cap/\cap<=maxLen/\(∃cs fr,w.heap[b]?=some (.cells cs 9 fr))/\w.cell? ⟨b,off,none⟩=some (.string t.a)/\w.cell? ⟨b,off+1,none⟩=some (.string t.b)/\w.cell? ⟨b,off+2,none⟩=some (.string t.c):=by
 obtain⟨A,cap,rfl,h1,h2,h3⟩:=h
 rcases h3 with h3|⟨b,off,cs,fr,rfl,hb,h3⟩
 ·cases h3
 ·exact⟨b,off,cap,rfl,h1,h2,⟨cs,fr,hb⟩,h3 0 (show 0<3 by decide),h3 1 (show 1<3 by decide),h3 2 (show 2<3 by decide)⟩
def Qjp (a:Value):List Value:=[a,.slice none 0 0,.int .i64 0,.int .i64 0,.int .i64 0,.int .i64 0]
def Qjd (w:World):List (YY ByteArray)->List Value->Prop
 | [],us=>us=[]
 |t::L,us=>∃a r,us=Qjp a++r/\Qjg w t.list a/\Qjd w L r
def Qjc (w:World) (L:List (YY ByteArray)) (v:Value):Prop:=∃us,w.ownsRow 0 109 6 v L.length us/\Qjd w L us
section
variable {w w':World} {L M:List (YY ByteArray)} {v:Value} {S:List Nat}
theorem Qjd.keep (hc:Qc S w w') (hS:Qjh w S):∀ {L:List (YY ByteArray)} {us:List Value},Qjd w L us->Qjd w' L us
 | [],_,h=>h
 |_::_,_,⟨a,r,e,h1,h2⟩=>⟨a,r,e,h1.keep hc hS,Qjd.keep hc hS h2⟩
theorem Qjd.app:∀ {L:List (YY ByteArray)} {us:List Value} {t:YY ByteArray} {a:Value},Qjd w L us->Qjg w t.list a->Qjd w (L++ [t]) (us++Qjp a)
 | [],_,t,a,h,ha=>by
  have h:_=_:=h
  rw [h]
  exact⟨a,[],by simp,ha,rfl⟩
 |_::_,_,t,a,⟨b,r,e,h1,h2⟩,ha=>⟨b,r++Qjp a,by rw [e,U2],h1,h2.app ha⟩
theorem Qjd.at:∀ {L:List (YY ByteArray)} {us:List Value} {k:Nat} (_:Qjd w L us) (hk:k<L.length),∃a,Qjg w (L[k]).list a/\∀j,j<6->us[k * 6+j]?=(Qjp a)[j]?
 |t::L,us,0,⟨a,r,e,h1,_⟩,_=>⟨a,h1,fun j hj=>by
  rw [e,Nat.zero_mul,J3,List.getElem?_append_left (by show j<6;exact hj)]⟩
 |t::L,us,k+1,⟨a,r,e,_,h2⟩,hk=>by
  obtain⟨b,h3,h4⟩:=h2.at (k:=k) (by simpa using hk)
  refine⟨b,by simpa using h3,fun j hj=>?_⟩
  rw [<-h4 j hj,e,List.getElem?_append_right (by show 6<=_;omega)]
  congr 1
  show(k+1) * 6+j-6=_
  omega
theorem Qjc.noStrs (h:Qjc w L v):Qjh w (Ub v):=by
 obtain⟨us,⟨_,h1⟩,_⟩:=h
 rcases h1 with ⟨rfl,_⟩|⟨g,cap,cur,rfl,_,hb,_⟩
 ·intro x hx;cases hx
 ·intro x hx cs fr h2
  rw [E0.1 (show x∈ [g] from hx),hb] at h2
  injection h2 with h2
  injection h2 with _ h3
  revert h3
  decide
theorem Qjc.keep (h:Qjc w L v) (hc:Qc S w w') (hS:Qjh w S) (hv:∀x∈Ub v,x∉S):Qjc w' L v:=by
 obtain⟨us,⟨h0,h1⟩,h2⟩:=h
 refine⟨us,⟨h0,?_⟩,h2.keep hc hS⟩
 rcases h1 with h1|⟨g,cap,cur,rfl,hg,hb,h3⟩
 ·exact .inl h1
 ·exact .inr ⟨g,cap,cur,rfl,hg,(hc.block g (F5.1 hb).1 (hv g (by show g∈ [g];simp))).trans hb,h3⟩
theorem Qjc.nil (w:World):Qjc (w.alloc (.cells #[] 109)) [] (.slice (some ⟨w.heap.size,0,none⟩) 0 0):=
 ⟨[],World.ownsRow_made w #[] 0 (I3 _) (by simp [maxLen]) (by simp),rfl⟩
theorem Qjc.row (h:Qjc w L v):∃us,Yo {w with heap:= #[] } w 109 6 v L.length (us.map QD.v)/\Qjd w L us:=by
 obtain⟨us,h1,h2⟩:=h
 exact⟨us,⟨us,[],h1,Qt.plainN _ _,O9,by simp,by simp,⟨rfl,rfl,rfl,I3 _,fun k hk=>absurd hk (by simp)⟩⟩,h2⟩
theorem Qjc.of {us:List Value} {n:Nat} (h:Yo {w with heap:= #[] } w' 109 6 v n (us.map QD.v)) (hn:n=L.length) (hu:Qjd w' L us):Qjc w' L v:=by
 obtain⟨xs,S',h1,h2,_⟩:=h
 have e:∀(us xs:List Value) (S:List Nat),Qt w' (us.map QD.v) xs S->xs=us:=fun us=>by
  induction us with
  |nil=>intro xs S h;rw [O2,Qt] at h;exact h.1
  |cons u us ih=>
   intro xs S h
   rw [I9,Qt] at h
   obtain⟨u',us',S1,S2,rfl,rfl,h1,h2⟩:=h
   rw [Yb] at h1
   rw [h1.1,ih _ _ h2]
 rw [e us xs S' h2] at h1
 rw [hn] at h1
 exact⟨us,h1,hu⟩
theorem Qjc.cells (h:Qjc w L v):∃A cap,v= .slice A L.length cap/\L.length<=cap/\cap<=maxLen/\∀k (hk:k<L.length),∃g,A=some ⟨g,0,none⟩/\g<w.heap.size/\∃a,Qjg w (L[k]).list a/\∀j,j<6->∃u,(Qjp a)[j]?=some u/\w.cell? ⟨g,k * 6+j,none⟩=some u:=by
 obtain⟨us,⟨h0,h1⟩,h2⟩:=h
 rcases h1 with ⟨rfl,hn⟩|⟨g,cap,cur,rfl,_,hb,hc1,hc2,hsz,htk⟩
 ·exact⟨none,0,by rw [hn],by omega,by unfold maxLen;omega,fun k hk=>by omega⟩
 ·refine⟨_,cap,rfl,hc1,hc2,fun k hk=>⟨g,rfl,(F5.1 hb).1,?_⟩⟩
  obtain⟨a,h3,h4⟩:=h2.at hk
  refine⟨a,h3,fun j hj=>?_⟩
  have h5:=h4 j hj
  obtain⟨u,hu⟩:∃u,(Qjp a)[j]?=some u:=⟨_,F8 (show j<(Qjp a).length from hj)⟩
  refine⟨u,hu,?_⟩
  rw [hu, <-htk,List.getElem?_take_of_lt (by omega)] at h5
  unfold World.cell?
  rw [hb]
  simpa using h5
end
end Go.Proofs.YtfjhdnjlhjimeaaGreatDoor
set_option maxRecDepth 100000
set_option maxHeartbeats 2000000
namespace Go.Proofs.YtfjhdnjlhjimeaaGreatDoor
open Go.RowKit

theorem Qjz:∀c:Fin 64,∀k:Fin 6,((c.1:Nat):Int) % (2 ^ (k.1+1):Nat)=(if has ((c.1:Nat):Int) k.1=true then((c.1:Nat):Int) % (2 ^ k.1:Nat)+(2 ^ k.1:Nat) else((c.1:Nat):Int) % (2 ^ k.1:Nat)):=by decide+kernel
theorem QjB:∀c:Fin 64,((c.1:Nat):Int) % (2 ^ 6:Nat)=((c.1:Nat):Int):=by decide+kernel
theorem QjA (s t:YY ByteArray) (u v:Value) (w:World) (hs:Qjg w s.list u) (ht:Qjg w t.list v):
  Calls Tryz.prog 125 #[u,v] w (Qg (s=t) w):=by
 obtain⟨b,off,c,rfl,_,_,_,a0,a1,a2⟩:=hs.at3
 obtain⟨b',off',c',rfl,_,_,_,d0,d1,d2⟩:=ht.at3
 have la:=Qk a0
 have ld:=Qk d0
 have get:∀k:Nat,k<3->w.cell? ⟨b,off+k,none⟩=some (.string (s.get (k:Int)))/\w.cell? ⟨b',off'+k,none⟩=some (.string (t.get (k:Int))):=fun k hk=>by
  rcases(show k=0∨k=1∨k=2 by omega) with rfl|rfl|rfl
  ·exact⟨a0,d0⟩
  ·exact⟨a1,d1⟩
  ·exact⟨a2,d2⟩
 have all:(∀k:Nat,k<3->s.get (k:Int)=t.get (k:Int))->s=t:=fun h=>by
  have h0:=h 0 (by omega)
  have h1:=h 1 (by omega)
  have h2:=h 2 (by omega)
  obtain⟨s0,s1,s2⟩:=s
  obtain⟨t0,t1,t2⟩:=t
  simp [YY.get] at h0 h1 h2
  rw [h0,h1,h2]
 replace get:=Qb get
 replace all:=Qb all
 clear a0 a1 a2 d0 d1 d2 hs ht
 go_enter Tryz.func125,Tryz.ntmps125
 go_wp2_with fail
 go_loopw [13] (fun i wr=>∃k:Nat,k<=3/\i= .int .i64 (k:Int)/\Qc [] w wr/\Hid (∀j:Nat,j<k->s.get (j:Int)=t.get (j:Int))) (fun i _=>3-(intOf i).toNat)
 case atStart=>exact⟨0,by omega,rfl,B0 _ _,Qb (fun j h=>absurd h (by omega))⟩
 case round=>
  obtain⟨k,hk,rfl,hc,hJ⟩:=hrel
  by_cases hk3:k<3
  ·obtain⟨q1,q2⟩:=get.out k hk3
   have q1:=(hc.cell (p:=⟨b,off+k,none⟩) la (by simp)).trans q1
   have q2:=(hc.cell (p:=⟨b',off'+k,none⟩) ld (by simp)).trans q2
   have kiq:((k:Nat):Int)<3:=by omega
   obtain⟨x,hx⟩:∃x,s.get (k:Int)=x:=⟨_,rfl⟩
   obtain⟨y,hy⟩:∃y,t.get (k:Int)=y:=⟨_,rfl⟩
   rw [hx] at q1
   rw [hy] at q2
   have HX:=Qb hx
   have HY:=Qb hy
   clear hx hy
   by_cases he:x=y
   ·have heq:(x.toList==y.toList)=true:=by rw [he];exact beq_self_eq_true _
    have HE:=Qb he
    clear he
    go_wp2_with fail
    go_quiet (fail)
    go_wp2_with fail
    go_roundw
    case rel=>exact⟨k+1,by omega,by go_num,by first|exact hc|exact H9 hc,Qb (fun j h=>by
     by_cases e:j=k
     ·rw [e,HX.out,HY.out,HE.out]
     ·exact hJ.out j (by omega))⟩
    case measure=>simp [intOf];omega
   ·have hne:(x.toList==y.toList)=false:=by
     rw [beq_eq_false_iff_ne,ByteArray.toList_eq,ByteArray.toList_eq]
     exact fun e=>he (O5 (Q2.1 e))
    go_wp2_with fail
    go_quiet (fail)
    go_wp2_with fail
    go_ret
    exact⟨false,rfl,⟨fun h=>absurd h (by decide),fun h=>absurd (by rw [<-HX.out, <-HY.out,h]) he⟩,H9 hc⟩
  ·obtain rfl:k=3:=by omega
   go_wp2_with fail
   go_ret
   exact⟨true,rfl,⟨fun _=>all.out hJ.out,fun _=>rfl⟩,hc⟩
theorem Qjg.of_box {w:World} {g cap:Nat} {t:YY ByteArray} (hk:Kd w g 9) (hb:ZU w g [.string t.a,.string t.b,.string t.c]) (h1:3<=cap) (h2:cap<=maxLen):Qjg w t.list (.slice (some ⟨g,0,none⟩) 3 cap):=by
 obtain⟨cs,fr,hk⟩:=hk
 refine⟨_,cap,rfl,h1,h2,.inr ⟨g,0,cs,fr,rfl,hk,fun j hj=>?_⟩⟩
 have hj3:j<3:=hj
 rcases(show j=0∨j=1∨j=2 by omega) with rfl|rfl|rfl
 ·exact hb.c 0 _ rfl
 ·exact hb.c 1 _ rfl
 ·exact hb.c 2 _ rfl
theorem Kd.setC {w:World} {g i:Nat} {e:TypeId} {u:Value} (h:Kd w g e):Kd (w.setCell ⟨g,i,none⟩ u) g e:=by
 obtain⟨cs,fr,h⟩:=h
 refine⟨cs.setIfInBounds i u,fr,?_⟩
 show(w.heap.modify g _)[g]?=_
 rw [Array.getElem?_modify,h]
 simp
theorem QjE {w0 w:World} {v:Value} {us:List Value} (h:Yo w0 w 9 1 v 3 (us.map QD.v)):∃g cap,v= .slice (some ⟨g,0,none⟩) 3 cap/\3<=cap/\cap<=maxLen/\w0.heap.size<=g/\Kd w g 9/\ZU w g us:=by
 obtain⟨xs,S',⟨h0,h1⟩,h2,_⟩:=h
 have e:∀(us xs:List Value) (S:List Nat),Qt w (us.map QD.v) xs S->xs=us:=fun us=>by
  induction us with
  |nil=>intro xs S h;rw [O2,Qt] at h;exact h.1
  |cons u us ih=>
   intro xs S h
   rw [I9,Qt] at h
   obtain⟨u',us',S1,S2,rfl,rfl,h1,h2⟩:=h
   rw [Yb] at h1
   rw [h1.1,ih _ _ h2]
 rw [e us xs S' h2] at h0 h1
 rcases h1 with ⟨_,h1⟩|⟨g,cap,cur,rfl,hg,hb,h3,h4,h5,h6⟩
 ·cases h1
 ·refine⟨g,cap,rfl,h3,h4,hg,⟨cur,_,hb⟩,(F5.1 hb).1,fun j x hj=>?_,fun o=>by simp [World.frozen?,hb]⟩
  have hj2:=(N9.1 hj).1
  rw [<-h6,List.getElem?_take_of_lt (by omega)] at hj
  unfold World.cell?
  rw [hb]
  simpa using hj
theorem QjD (t:YY ByteArray) (u:Value) (w:World) (h:Qjg w t.list u):
  Calls Tryz.prog 156 #[u] w fun e w'=>∃g cap,e= .returned (.slice (some ⟨g,0,none⟩) 3 cap)/\3<=cap/\cap<=maxLen/\w.heap.size<=g/\Kd w' g 9/\ZU w' g [.string t.a,.string t.b,.string t.c] /\Qc [] w w':=by
 obtain⟨b,off,c,rfl,_,_,_,a0,a1,a2⟩:=h.at3
 clear h
 have la:=Qk a0
 have R1:=Qb (Zi (w:=w.alloc (.cells #[] 9)) 54 54 9 _ 1 16 Tryz.underlying54 Yx rfl (by omega) (Yo.empty w 9 1 (B0 _ _)) (B0 _ _) (some ⟨b,off,none⟩) 3 c [.string t.a,.string t.b,.string t.c] rfl (fun _=>⟨b,off,rfl,fun j x hj=>by
  have k:∀i,(w.alloc (.cells #[] 9)).cell? ⟨b,i,none⟩=w.cell? ⟨b,i,none⟩:=fun i=>((B0 [] w).alloc _).cell (p:=⟨b,i,none⟩) la (by simp)
  rw [k]
  match j,hj with
  |0,hj=>cases hj;exact a0
  |1,hj=>cases hj;exact a1
  |2,hj=>cases hj;exact a2
  |j+3,hj=>cases hj⟩) (by intro x hx;simp only [C7,F1,or_false] at hx;rcases hx with rfl|rfl|rfl<;>rfl) (by omega) (by omega))
 go_enter Tryz.func156,Tryz.ntmps156
 go_wp2_with (first|(at_builtin;refine Vv rfl (.tmp 3) (.tmp 4) _ rfl rfl rfl R1.out ?_;rintro A1 c1 w1 ⟨hA1,d1,_⟩;simp only [J3,J9] at hA1 ⊢)|fail)
 go_ret
 obtain⟨g,cap,e,h1,h2,h3,h4,h5⟩:=QjE hA1
 exact⟨g,cap,by rw [<-e];rfl,h1,h2,h3,h4,h5,hA1.chg⟩
theorem QjF (t:YY ByteArray) (u:Value) (i:Int) (s:ByteArray) (w:World) (hi:QE i) (h:Qjg w t.list u):
  Calls Tryz.prog 124 #[u,.int .i64 i,.string s] w fun e w'=>∃v,e= .returned v/\Qjg w' (t.set i s).list v/\Qc [] w w':=by
 have TX:=Qb (QjD t u w h)
 clear h
 obtain⟨n,rfl,hn3⟩:∃n:Nat,i=(n:Int)/\n<3:=⟨i.toNat,by have:=hi.1;omega,by have:=hi.2;omega⟩
 go_enter Tryz.func124,Tryz.ntmps124
 go_wp2_with fail
 refine TX.out.mono ?_
 rintro e w1 ⟨g,cap,rfl,h1,h2,h3,hk,hb,c1⟩
 have ni:((n:Nat):Int)<3:=by omega
 have hf:=hb.f
 obtain⟨x,hx⟩:∃x,w1.cell? ⟨g,n,none⟩=some x:=by
  rcases(show n=0∨n=1∨n=2 by omega) with rfl|rfl|rfl
  ·exact⟨_,hb.c 0 _ rfl⟩
  ·exact⟨_,hb.c 1 _ rfl⟩
  ·exact⟨_,hb.c 2 _ rfl⟩
 have b2:=hb.set n (.string s)
 have k2:=Kd.setC (i:=n) (u:=.string s) hk
 have e2:([.string t.a,.string t.b,.string t.c]:List Value).set n (.string s)=[.string (t.set (n:Int) s).a,.string (t.set (n:Int) s).b,.string (t.set (n:Int) s).c]:=by
  rcases(show n=0∨n=1∨n=2 by omega) with rfl|rfl|rfl<;>rfl
 rw [e2] at b2
 have r2:=Qb (Qjg.of_box k2 b2 h1 h2)
 have d2:Qc [] w (w1.setCell ⟨g,n,none⟩ (.string s)):=c1.setCell (.inr h3) _
 replace d2:=Qb d2
 clear TX hk hb b2 k2 e2 c1
 go_wp2_with fail
 go_ret
 exact⟨_,rfl,r2.out,d2.out⟩
end Go.Proofs.YtfjhdnjlhjimeaaGreatDoor
set_option maxRecDepth 100000
set_option maxHeartbeats 8000000
namespace Go.Proofs.YtfjhdnjlhjimeaaGreatDoor
open Go.RowKit

open Classical in
noncomputable def QjL (L:List (YY ByteArray)) (t:YY ByteArray):List (YY ByteArray):=if t∈L then L else L++ [t]
noncomputable def QjG:List (YY ByteArray)->List (YY ByteArray)->List (YY ByteArray)
 |L,[]=>L
 |L,t::M=>QjG (QjL L t) M
theorem QjN {L:List (YY ByteArray)} {t s:YY ByteArray}:s∈QjL L t↔s∈L∨s=t:=by
 unfold QjL
 by_cases h:t∈L
 ·rw [if_pos h];exact⟨.inl,fun h1=>h1.elim id (fun e=>e ▸ h)⟩
 ·rw [if_neg h];simp
theorem QjM {L:List (YY ByteArray)} {t:YY ByteArray} (h:L.Nodup):(QjL L t).Nodup:=by
 unfold QjL
 by_cases h1:t∈L
 ·rw [if_pos h1];exact h
 ·rw [if_neg h1]
  exact L1.2 ⟨h,by simp,fun a ha b hb=>by rw [E0.1 hb];exact fun e=>h1 (e ▸ ha)⟩
theorem QjK:∀ {M L:List (YY ByteArray)} {s:YY ByteArray},s∈QjG L M↔s∈L∨s∈M
 | [],L,s=>by simp [QjG]
 |t::M,L,s=>by rw [QjG,QjK,QjN,C7,or_assoc]
theorem QjI:∀ {M L:List (YY ByteArray)},L.Nodup->(QjG L M).Nodup
 | [],_,h=>h
 |_::M,_,h=>QjI (M:=M) (QjM h)
theorem QjJ:∀(M:List (YY ByteArray)) (L:List (YY ByteArray)) (t:YY ByteArray),QjG L (M++ [t])=QjL (QjG L M) t
 | [],_,_=>rfl
 |s::M,L,t=>by rw [M2,QjG,QjG,QjJ M]
theorem QjQ:(Tryz.prog.info? 109).map (fun i=>(i.zero,i.size,i.bytes))=some (some (.agg #[.slice none 0 0,.slice none 0 0,.int .i64 0,.int .i64 0,.int .i64 0,.int .i64 0]),6,80):=by kernel_rfl
theorem QjP {a:Value} (h:a.oneCell'=true):∀u∈Qjp a,u.oneCell'=true:=by
 intro u hu
 simp only [Qjp,C7,F1,or_false] at hu
 rcases hu with rfl|rfl|rfl|rfl|rfl|rfl
 ·exact h
 all_goals rfl
theorem Qjc.lt {w:World} {L:List (YY ByteArray)} {v:Value} (h:Qjc w L v):∀y∈Ub v,y<w.heap.size:=by
 obtain⟨us,⟨_,h1⟩,_⟩:=h
 rcases h1 with ⟨rfl,_⟩|⟨g,cap,cur,rfl,_,hb,_⟩
 ·intro x hx;cases hx
 ·intro x hx
  rw [E0.1 (show x∈ [g] from hx)]
  exact(F5.1 hb).1
theorem QjO (L:List (YY ByteArray)) (t:YY ByteArray) (v a:Value) (w:World) (hL:Qjc w L v) (ha:Qjg w t.list a) (hlen:L.length<=1000000):
  Calls Tryz.prog 79 #[v,.agg #[a,.slice none 0 0,.int .i64 0,.int .i64 0,.int .i64 0,.int .i64 0]] w fun e w'=>∃v',e= .returned v'/\Qjc w' (QjL L t) v'/\Qc (Ub v) w w'/\∀y∈Ub v',y∈Ub v∨w.heap.size<=y:=by
 obtain⟨b,off,c,rfl,hc3,hcm,_,a0,_,_⟩:=ha.at3
 have lb:=Qk a0
 obtain⟨A,cap,ev,hcap,hcm2,_⟩:=hL.cells
 subst ev
 unfold maxLen at hcm2
 have HL:=Qb hL
 have HA:=Qb ha
 clear a0 hL ha
 go_enter Tryz.func79,Tryz.ntmps79
 obtain⟨b3,hb3⟩:∃b,w.heap.size=b:=⟨_,rfl⟩
 go_upto_region 1 with fail
 refine Qp fun w2 hw2=>?_
 have c2:Qc [] w w2:=by rw [hw2];exact C6
 have z2:w2.heap.size=b3+1:=by rw [hw2, <-hb3];simp
 have B2:ZU w2 b3 [.slice (some ⟨b,off,none⟩) 3 c,.slice none 0 0,.int .i64 0,.int .i64 0,.int .i64 0,.int .i64 0]:=by rw [hw2, <-hb3];exact L9 w _ _
 clear hw2
 try rw [hb3]
 have C2:=Qb c2
 clear c2
 go_wp2_with fail
 go_loopw [9] (fun i wr=>∃k:Nat,k<=L.length/\i= .int .i64 (k:Int)/\Qc [] w2 wr/\Hid (∀j (h:j<L.length),j<k->L[j] ≠t)) (fun i _=>L.length-(intOf i).toNat)
 case atStart=>exact⟨0,I3 _,rfl,B0 _ _,Qb (fun j _ h=>absurd h (by omega))⟩
 case round=>
  obtain⟨k,hk,rfl,hc,hJ⟩:=hrel
  obtain⟨wo,hwo⟩:∃wo:World,wo=wr:=⟨_,rfl⟩
  rw [<-hwo] at hc ⊢
  clear hwo
  have cW:=Qb (C2.out.tz hc)
  have B3:=B2.keep hc
  by_cases hlt:k<L.length
  ·obtain⟨A',cap',ev,_,_,hcell⟩:=HL.out.cells
   obtain⟨rfl,rfl⟩:A=A'/\cap=cap':=by injection ev with h1 _ h2;exact⟨h1,h2⟩
   obtain⟨g,hg,lg,a',ha',hcs⟩:=hcell k hlt
   subst hg
   have cc:∀j,j<6->∃u,(Qjp a')[j]?=some u/\wo.cell? ⟨g,k * 6+j,none⟩=some u:=fun j hj=>by
    obtain⟨u,h1,h2⟩:=hcs j hj
    exact⟨u,h1,(cW.out.cell (p:=⟨g,k * 6+j,none⟩) lg (by simp)).trans h2⟩
   have q0:wo.cell? ⟨g,k * 6,none⟩=some a':=by obtain⟨u,h1,h2⟩:=cc 0 (by omega);cases h1;exact h2
   have q1:wo.cell? ⟨g,k * 6+1,none⟩=some (.slice none 0 0):=by obtain⟨u,h1,h2⟩:=cc 1 (by omega);cases h1;exact h2
   have q2:wo.cell? ⟨g,k * 6+2,none⟩=some (.int .i64 0):=by obtain⟨u,h1,h2⟩:=cc 2 (by omega);cases h1;exact h2
   have q3:wo.cell? ⟨g,k * 6+3,none⟩=some (.int .i64 0):=by obtain⟨u,h1,h2⟩:=cc 3 (by omega);cases h1;exact h2
   have q4:wo.cell? ⟨g,k * 6+4,none⟩=some (.int .i64 0):=by obtain⟨u,h1,h2⟩:=cc 4 (by omega);cases h1;exact h2
   have q5:wo.cell? ⟨g,k * 6+5,none⟩=some (.int .i64 0):=by obtain⟨u,h1,h2⟩:=cc 5 (by omega);cases h1;exact h2
   obtain⟨b',off',c',rfl,_,_,_,_,_,_⟩:=ha'.at3
   have kiq:((k:Nat):Int)<(L.length:Int):=by omega
   have p3:=B3.o6
   obtain⟨s,hs⟩:∃s,L[k]=s:=⟨_,rfl⟩
   rw [hs] at ha'
   have SM:=Qb (fun W (hW:Qc [] w W)=>QjA t s _ _ W (HA.out.keep hW Qjh.nil) (ha'.keep hW Qjh.nil))
   have CI:=Qb (fun W=>QjH [] [] (.slice none 0 0) (.slice none 0 0) W.heap.size W.heap.size W (Zn.nil W none (by unfold maxLen;omega)).rd (Zn.nil W none (by unfold maxLen;omega)).rd (F0 _) (F0 _))
   have HS:=Qb hs
   clear cc hcs hcell ev ha' hs
   rw [show Wy [] []=0 from rfl] at CI
   have lb3:=B3.lt
   obtain⟨ybq,hyb⟩:∃ybq,wo.heap.size=ybq:=⟨_,rfl⟩
   go_upto_region 4 with fail
   refine Qp fun w4 hw4=>?_
   have c4:Qc [] wo w4:=by rw [hw4];exact C6
   have BY:ZU w4 ybq [.slice (some ⟨b',off',none⟩) 3 c',.slice none 0 0,.int .i64 0,.int .i64 0,.int .i64 0,.int .i64 0]:=by rw [hw4, <-hyb];exact L9 wo _ _
   clear hw4
   try rw [hyb]
   have B4:=B3.keep c4
   have p4:=B4.o6
   have y4:=BY.o6
   have W4:=Qb (cW.out.tz c4)
   have U4qq:=Qb (hc.tz c4)
   clear p3 q0 q1 q2 q3 q4 q5 c4 hc B3
   go_wp2_with fail
   refine(SM.out _ W4.out).mono ?_
   rintro e w5 ⟨tb,rfl,htb,c5⟩
   have W5q:=Qb (W4.out.tz c5)
   have U5qq:=Qb (U4qq.out.tz c5)
   have p5:=(B4.keep c5).o6
   have y5:=(BY.keep c5).o6
   cases tb
   ·have hne:¬t=s:=fun h=>by have:=htb.2 h;cases this
    replace hne:=Qb hne
    clear htb SM CI cW B4 BY p4 y4 c5 W4 U4qq
    go_wp2_with fail
    go_roundw
    case rel=>exact⟨k+1,by omega,by go_num,by first|exact U5qq.out|exact H9 U5qq.out,Qb (fun j h hj=>by
     by_cases e:j=k
     ·subst e
      rw [HS.out]
      exact fun e=>hne.out e.symm
     ·exact hJ.out j h (by omega))⟩
    case measure=>simp [intOf];omega
   ·have heq:t=s:=htb.1 rfl
    replace heq:=Qb heq
    clear htb SM cW p4 y4 B4 BY W4 U4qq
    go_wp2_with fail
    refine(CI.out _).mono ?_
    rintro e w6 ⟨rfl,c6⟩
    have W6q:=Qb (W5q.out.tz c6)
    clear CI W5q U5qq c5 c6 p5 y5
    go_wp2_with fail
    go_ret
    have hin:t∈L:=by rw [heq.out, <-HS.out];exact I4 hlt
    refine⟨_,rfl,?_,W6q.out.mono (by simp),fun y hy=>.inl hy⟩
    unfold QjL
    rw [if_pos hin]
    exact HL.out.keep W6q.out Qjh.nil (fun _ _ h=>by cases h)
  ·obtain rfl:k=L.length:=by omega
   have hnot:¬t∈L:=fun h=>by
    obtain⟨j,hj,e⟩:=M0 h
    exact hJ.out j hj hj e
   obtain⟨us,hA,hU⟩:=(HL.out.keep cW.out Qjh.nil (fun _ _ h=>by cases h)).row
   have p3:=B3.o6
   have f3:=B3.f
   obtain⟨a',ha2⟩:∃a':Value,.slice (some ⟨b,off,none⟩) 3 c=a':=⟨_,rfl⟩
   have R1:=Qb (Zi (w:=wo.alloc (.cells #[.slice (some ⟨b,off,none⟩) 3 c,.slice none 0 0,.int .i64 0,.int .i64 0,.int .i64 0,.int .i64 0] 109)) 105 105 109 _ 6 80 Tryz.underlying105 QjQ rfl (by omega) hA ((B0 _ _).alloc _) (some ⟨wo.heap.size,0,none⟩) 1 1 (Qjp (.slice (some ⟨b,off,none⟩) 3 c)) rfl (fun _=>⟨wo.heap.size,0,rfl,fun j x hj=>by rw [J3,World.cell?_alloc_new, <-T6];exact hj⟩) (QjP rfl) (by omega) (by omega))
   have hcs:Qc [] wo (wo.alloc (.cells #[.slice (some ⟨b,off,none⟩) 3 c,.slice none 0 0,.int .i64 0,.int .i64 0,.int .i64 0,.int .i64 0] 109)):=C6
   have CS:=Qb (cW.out.tz hcs)
   have HU:=Qb (Qjd.keep hcs Qjh.nil hU)
   have HZ:=Qb hcs.size
   have HA3:=Qb (HA.out.keep (cW.out.tz hcs) Qjh.nil)
   have hns:=Qb ((HL.out.keep (cW.out.tz hcs) Qjh.nil (fun _ _ h=>by cases h)).noStrs)
   clear hA hU hcs hc ha2
   go_wp2_with (first|(at_builtin;refine Vv rfl (.tmp 38) (.tmp 40) _ rfl rfl rfl R1.out ?_;rintro A1 c1 w6 ⟨hA1,d1,hown⟩)|fail)
   go_ret
   refine⟨.slice A1 (L.length+1) c1,rfl,?_,?_,?_⟩
   ·unfold QjL
    rw [if_neg hnot]
    rw [<-J2] at hA1
    refine Qjc.of (w:=wo) hA1 (by simp) ?_
    exact(Qjd.keep d1 hns.out HU.out).app (HA3.out.keep d1 hns.out)
   ·exact(CS.out.mono (by simp)).trans d1 (fun _ h=>.inl h)
   ·intro y hy
    unfold Ub at hy
    rcases hown with h|h
    ·rw [h] at hy
     exact .inl hy
    ·rw [h] at hy
     have:=cW.out.size
     have:=HZ.out
     exact .inr (by rw [E0.1 hy];omega)
theorem QjS (L:List (YY ByteArray)) (t:YY ByteArray):(QjL L t).length<=L.length+1:=by
 unfold QjL
 split
 ·omega
 ·simp
theorem QjR:∀(M L:List (YY ByteArray)),(QjG L M).length<=L.length+M.length
 | [],L=>by simp [QjG]
 |t::M,L=>by
  rw [QjG,I1]
  have h1:=QjR M (QjL L t)
  have h2:=QjS L t
  omega
theorem QjT (L M:List (YY ByteArray)) (v u:Value) (w:World) (hL:Qjc w L v) (hM:Qjc w M u) (hd:∀y∈Ub u,y∉Ub v) (hlen:L.length+M.length<=1000000):
  Calls Tryz.prog 77 #[v,u] w fun e w'=>∃v',e= .returned v'/\Qjc w' (QjG L M) v'/\Qc (Ub v) w w'/\∀y∈Ub v',y∈Ub v∨w.heap.size<=y:=by
 obtain⟨A,cap,ev,hcap,hcm2,_⟩:=hM.cells
 subst ev
 unfold maxLen at hcm2
 have hns:=Qb hL.noStrs
 have lv:=Qb hL.lt
 have HM:=Qb hM
 have hL0:=Qb hL
 obtain⟨A0,p0,ev0,_,_,_⟩:=hL.cells
 replace hd:=Qb hd
 clear hM hL
 go_enter Tryz.func77,Tryz.ntmps77
 go_wp2_with fail
 go_loopw [0,9] (fun lw i wr=>∃(k:Nat) (A5:Option Addr) (n5 c5:Nat),k<=M.length/\i= .int .i64 (k:Int)/\lw= .slice A5 n5 c5/\Hid (Qjc wr (QjG L (M.take k)) (.slice A5 n5 c5))/\Hid (Qc (Ub v) w wr)/\Hid (∀y∈Ub (.slice A5 n5 c5),y∈Ub v∨w.heap.size<=y)) (fun _ i _=>M.length-(intOf i).toNat)
 case atStart=>exact⟨0,A0,L.length,p0,I3 _,rfl,ev0,Qb (by rw [T9, <-ev0];exact hL0.out),Qb (B0 _ _),Qb (by rw [<-ev0];exact fun y hy=>.inl hy)⟩
 case round=>
  obtain⟨k,A5,n5,p5,hk,rfl,rfl,hLk,hc,hown⟩:=hrel
  obtain⟨wo,hwo⟩:∃wo:World,wo=wr:=⟨_,rfl⟩
  rw [<-hwo] at hLk hc ⊢
  clear hwo
  by_cases hlt:k<M.length
  ·have HMo:=HM.out.keep hc.out hns.out hd.out
   obtain⟨A',cap',ev,_,_,hcell⟩:=HMo.cells
   obtain⟨rfl,rfl⟩:A=A'/\cap=cap':=by injection ev with h1 _ h2;exact⟨h1,h2⟩
   obtain⟨g,hg,lg,a',ha',hcs⟩:=hcell k hlt
   subst hg
   have q0:wo.cell? ⟨g,k * 6,none⟩=some a':=by obtain⟨u,h1,h2⟩:=hcs 0 (by omega);cases h1;exact h2
   have q1:wo.cell? ⟨g,k * 6+1,none⟩=some (.slice none 0 0):=by obtain⟨u,h1,h2⟩:=hcs 1 (by omega);cases h1;exact h2
   have q2:wo.cell? ⟨g,k * 6+2,none⟩=some (.int .i64 0):=by obtain⟨u,h1,h2⟩:=hcs 2 (by omega);cases h1;exact h2
   have q3:wo.cell? ⟨g,k * 6+3,none⟩=some (.int .i64 0):=by obtain⟨u,h1,h2⟩:=hcs 3 (by omega);cases h1;exact h2
   have q4:wo.cell? ⟨g,k * 6+4,none⟩=some (.int .i64 0):=by obtain⟨u,h1,h2⟩:=hcs 4 (by omega);cases h1;exact h2
   have q5:wo.cell? ⟨g,k * 6+5,none⟩=some (.int .i64 0):=by obtain⟨u,h1,h2⟩:=hcs 5 (by omega);cases h1;exact h2
   obtain⟨b',off',c',ea,_,_,_,_,_,_⟩:=ha'.at3
   subst ea
   have kiq:((k:Nat):Int)<(M.length:Int):=by omega
   obtain⟨s,hs⟩:∃s,M[k]=s:=⟨_,rfl⟩
   rw [hs] at ha'
   have HT:Hid (M.take (k+1)=M.take k++ [s]):=Qb (by rw [G6 hlt,hs])
   have hle:(QjG L (M.take k)).length<=1000000:=by
    have:=QjR (M.take k) L
    rw [J7] at this
    omega
   replace hle:=Qb hle
   replace ha':=Qb ha'
   obtain⟨ybq,hyb⟩:∃ybq,wo.heap.size=ybq:=⟨_,rfl⟩
   clear hcs hcell ev hs HMo
   go_upto_region 4 with fail
   refine Qp fun w4 hw4=>?_
   have c4:Qc [] wo w4:=by rw [hw4];exact C6
   have BY:ZU w4 ybq [.slice (some ⟨b',off',none⟩) 3 c',.slice none 0 0,.int .i64 0,.int .i64 0,.int .i64 0,.int .i64 0]:=by rw [hw4, <-hyb];exact L9 wo _ _
   clear hw4
   try rw [hyb]
   have y4:=BY.o6
   have LA:=Qb (QjO (QjG L (M.take k)) s (.slice A5 n5 p5) _ w4 (hLk.out.keep c4 Qjh.nil (fun _ _ h=>by cases h)) (ha'.out.keep c4 Qjh.nil) hle.out)
   have U4qq:=Qb (hc.out.trans c4 (fun _ h=>by cases h))
   clear q0 q1 q2 q3 q4 q5 c4 hLk hc ha' BY
   go_wp2_with fail
   refine LA.out.mono ?_
   rintro e w5 ⟨v5,rfl,h5,c5,o5⟩
   obtain⟨A6,p6,ev6,_,_,_⟩:=h5.cells
   subst ev6
   have z4:=U4qq.out.size
   have U5qq:=Qb (U4qq.out.trans c5 hown.out)
   have O5qq:=Qb (fun y hy=>(o5 y hy).elim (hown.out y) (fun h=>.inr (G5 z4 h)))
   have H5:=Qb h5
   clear LA U4qq c5 o5 h5 y4
   go_wp2_with fail
   go_roundw
   case rel=>exact⟨k+1,A6,_,p6,by omega,by go_num,rfl,Qb (by rw [HT.out,QjJ];exact H5.out),U5qq,O5qq⟩
   case measure=>simp [intOf];omega
  ·obtain rfl:k=M.length:=by omega
   rw [I8] at hLk
   go_wp2_with fail
   go_ret
   exact⟨_,rfl,hLk.out,hc.out,hown.out⟩
end Go.Proofs.YtfjhdnjlhjimeaaGreatDoor
set_option maxRecDepth 100000
set_option maxHeartbeats 4000000
namespace Go.Proofs.YtfjhdnjlhjimeaaGreatDoor
open Go.RowKit

def QjW (c:Int) (k:Nat):Int:=c % (2 ^ k:Nat)
theorem QjU {a b c:Int} (ha:ql a) (hb:ql b) (hc:bits .or .i64 a b=c):(∀k,k<6->QjW c (k+1)=(if(has a k || has b k)=true then QjW c k+(2 ^ k:Nat) else QjW c k))/\QjW c 6=c/\∀k,k<=6->0<=QjW c k/\QjW c k<=63:=by
 have e:=Qh3 ⟨a.toNat,by have:=ha.1;have:=ha.2;omega⟩ ⟨b.toNat,by have:=hb.1;have:=hb.2;omega⟩
 have e1:((a.toNat:Nat):Int)=a:=by have:=ha.1;omega
 have e2:((b.toNat:Nat):Int)=b:=by have:=hb.1;omega
 simp only [e1,e2,hc] at e
 have e3:((c.toNat:Nat):Int)=c:=by have:=e.1.1;omega
 have hl:c.toNat<64:=by have:=e.1.2;have:=e.1.1;omega
 refine⟨fun k hk=>?_,?_,fun k hk=>?_⟩
 ·have h1:=Qjz ⟨c.toNat,hl⟩ ⟨k,hk⟩
  simp only [e3] at h1
  have h2:=e.2 ⟨k,hk⟩
  simp only at h2
  rw [<-h2]
  exact h1
 ·have h1:=QjB ⟨c.toNat,hl⟩
  simp only [e3] at h1
  exact h1
 ·unfold QjW
  have h2:(0:Int)<((2 ^ k:Nat):Int):=by have:=Nat.two_pow_pos k;omega
  have:=Int.emod_nonneg c (Int.ne_of_gt h2)
  have h3:=Int.emod_lt_of_pos c h2
  have h4:2 ^ k<=2 ^ 6:=Nat.pow_le_pow_right (by omega) hk
  omega
theorem QjV (a b:Int) (w:World) (ha:ql a) (hb:ql b):
  Calls Tryz.prog 153 #[.int .i64 a,.int .i64 b,.int .i64 1] w (xY (bits .or .i64 a b) w):=by
 obtain⟨c,hc⟩:∃c,bits .or .i64 a b=c:=⟨_,rfl⟩
 obtain⟨hs,h6,hr⟩:=QjU ha hb hc
 rw [hc]
 have IA:=Qb (fun W=>(xw a W).mono (QZ.pos ha))
 have IB:=Qb (fun W=>(xw b W).mono (QZ.pos hb))
 have HA:=Qb (fun(k:Nat) (hk:k<6) W=>Qjk a k W ha hk)
 have HB:=Qb (fun(k:Nat) (hk:k<6) W=>Qjk b k W hb hk)
 replace hs:=Qb hs
 replace h6:=Qb h6
 clear hc
 go_enter Tryz.func153,Tryz.ntmps153
 go_wp2_with fail
 refine(IA.out _).mono ?_
 rintro e w1 ⟨rfl,rfl⟩
 go_wp2_with fail
 refine(IB.out _).mono ?_
 rintro e w2 ⟨rfl,rfl⟩
 go_wp2_with fail
 go_loopw [7,8] (fun f i wr=>∃k:Nat,k<=6/\i= .int .i64 (k:Int)/\f= .int .i64 (QjW c k)/\Qc [] w2 wr) (fun _ i _=>6-(intOf i).toNat)
 case atStart=>exact⟨0,by omega,rfl,by unfold QjW;simp,B0 _ _⟩
 case round=>
  obtain⟨k,hk,rfl,rfl,hcw⟩:=hrel
  by_cases hk6:k<6
  ·have hst:=hs.out k hk6
   have r1:=hr k hk
   have r2:=hr (k+1) hk6
   have H1:=Qb (HA.out k hk6)
   have H2:=Qb (HB.out k hk6)
   obtain⟨x,hx⟩:∃x,has a k=x:=⟨_,rfl⟩
   obtain⟨y,hy⟩:∃y,has b k=y:=⟨_,rfl⟩
   rw [hx] at H1 hst
   rw [hy] at H2 hst
   obtain⟨f,hf⟩:∃f,QjW c k=f:=⟨_,rfl⟩
   obtain⟨f2,hf2⟩:∃f2,QjW c (k+1)=f2:=⟨_,rfl⟩
   rw [hf] at hst r1 ⊢
   rw [hf2] at hst r2
   replace hf2:=Qb hf2
   clear hx hy hf
   replace hst:=Qb hst
   have kiq:((k:Nat):Int)<6:=by omega
   go_wp2_with fail
   refine(H1.out _).mono ?_
   rintro e w3 ⟨t,rfl,ht,rfl⟩
   obtain rfl:t=x:=by cases t<;>cases x<;>simp at ht ⊢
   clear ht
   go_wp2_with fail
   refine(H2.out _).mono ?_
   rintro e w4 ⟨t',rfl,ht,rfl⟩
   obtain rfl:t'=y:=by cases t'<;>cases y<;>simp at ht ⊢
   clear ht H1 H2
   obtain⟨m,hm⟩:∃m,k+1=m:=⟨_,rfl⟩
   replace hm:=Qb hm
   cases t
   ·cases t'
    ·have e0:f2=f:=by simpa using hst.out
     replace e0:=Qb e0
     go_wp2_with fail
     go_roundw
     case rel=>exact⟨k+1,by omega,by go_num,by rw [hf2.out,e0.out],hcw⟩
     case measure=>simp [intOf];omega
    ·have e0:f2=f+(2 ^ k:Nat):=by simpa using hst.out
     obtain rfl|rfl|rfl|rfl|rfl|rfl:k=0∨k=1∨k=2∨k=3∨k=4∨k=5:=by omega
     all_goals
      replace e0:=Qb e0
      go_wp2_with fail
      go_roundw
      case rel=>exact⟨m,by have:=hm.out;omega,by rw [<-hm.out];go_num,by rw [<-hm.out,hf2.out,e0.out];first|rfl|go_num,hcw⟩
      case measure=>simp [intOf]
   ·have e0:f2=f+(2 ^ k:Nat):=by simpa using hst.out
    obtain rfl|rfl|rfl|rfl|rfl|rfl:k=0∨k=1∨k=2∨k=3∨k=4∨k=5:=by omega
    all_goals
     replace e0:=Qb e0
     go_wp2_with fail
     go_roundw
     case rel=>exact⟨m,by have:=hm.out;omega,by rw [<-hm.out];go_num,by rw [<-hm.out,hf2.out,e0.out];first|rfl|go_num,hcw⟩
     case measure=>simp [intOf]
  ·obtain rfl:k=6:=by omega
   rw [h6.out]
   go_wp2_with fail
   go_ret
   exact⟨rfl,hcw⟩
theorem QjZ (a b:Int) (w:World) (ha:ql a) (hb:ql b):
  Calls Tryz.prog 122 #[.int .i64 a,.int .i64 b] w (xY (bits .or .i64 a b) w):=by
 have MA:=Qb (fun W=>QjV a b W ha hb)
 go_enter Tryz.func122,Tryz.ntmps122
 go_wp2_with fail
 refine(MA.out _).mono ?_
 rintro e w1 ⟨rfl,c1⟩
 go_wp2_with fail
 go_ret
 exact⟨rfl,c1⟩
end Go.Proofs.YtfjhdnjlhjimeaaGreatDoor
