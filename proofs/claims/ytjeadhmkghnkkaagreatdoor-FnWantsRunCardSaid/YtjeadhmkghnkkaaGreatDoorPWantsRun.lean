/- FnWantsRun: for all bytes, the law returns true and the bytes read as before. Conditions: none beyond the row's own; the card ties the listed tables and variables to the program's text. Written by a program. -/
import Derived.Test.YtjeadhmkghnkkaaGreatDoorInferAll
import Derived.Test.YtjeadhmkghnkkaaGreatDoorMoreP
import Derived.Test.YtjeadhmkghnkkaaGreatDoorRunLws
import Derived.Test.YtjeadhmkghnkkaaGreatDoorFrames
import Derived.Test.YtjeadhmkghnkkaaGreatDoorTie
import Derived.Test.YtjeadhmkghnkkaaGreatDoorCards
import Derived.Lay
import Derived.SevenTiedAt
set_option maxRecDepth 100000
set_option maxHeartbeats 8000000
namespace Go.Proofs.YtjeadhmkghnkkaaGreatDoor
open Go.RowKit

def QiP (m:List Qa) (w:World) (e:Ending) (w':World):Prop:=Qc [] w w'/\
 (((¬QiK m∨(w3L QdW m).fail Qhy)/\e= .returned (.tuple #[.slice none 0 0,.bool false]))∨
   (QiK m/\¬(w3L QdW m).fail Qhy/\∃u0 u1 u2 v,e= .returned (.tuple #[v,.bool true])/\Zn w' [u0,u1,u2] v/\Qgm ((w3L QdW m).ask Qhy) 0 u0/\Qgm ((w3L QdW m).ask Qhy) 1 u1/\Qgm ((w3L QdW m).ask Qhy) 2 u2))
def QiG (k:Nat):YY Qhq:=⟨⟨if 0<k then 1 else 0,⟨#[]⟩⟩,⟨if 1<k then 2 else 0,⟨#[]⟩⟩,⟨if 2<k then 3 else 0,⟨#[]⟩⟩⟩
theorem QiJ:Qhy.All Qhq.sm:=⟨⟨QhT.1,I3 _⟩,⟨QhT.2.1,I3 _⟩,⟨QhT.2.2,I3 _⟩⟩
theorem QiQ:∀k:Fin 6,has 0 k=false:=by decide
theorem QiH {i:Nat}:Qgm (fun _ _=>False) i 0:=⟨by unfold ql;omega,fun k=>⟨fun h=>absurd h (by rw [QiQ k];decide),fun⟨_,h,_⟩=>h.elim⟩⟩
theorem QiM {k:Nat} (h:k<3):(QiG k).set (k:Int) ⟨k+1,⟨#[]⟩⟩=QiG (k+1):=by
 rcases(show k=0∨k=1∨k=2 by omega) with rfl|rfl|rfl<;>rfl
theorem QiO:QiG 3=Qhy:=rfl
theorem QiN (m:List Qa) (ul:Value) (S:List Nat) (w:World) (hE:KP w) (hW:Qi m<=1048576) (hO:Yb w (QA m) ul S) (hS:∀x∈S,x<w.heap.size):
  Calls Tryz.prog 21 #[ul] w (QiP m w):=by
 have hL:WY (fun y=>y∈S) w m ul:=⟨S,hO,fun y hy=>hy⟩
 have IP:=Qb (QiF m ul w.heap.size w hE hW hL.rd (F0 _))
 have EB:=YO.of hE
 unfold QiP
 go_enter Tryz.func21,Tryz.ntmps21
 have hm:=UU Tryz.prog
 have hu:Tryz.prog.underlying 118=some (.map 114 4):=by kernel_rfl
 go_wp2_with fail
 refine IP.out.mono ?_
 rintro e w1 ⟨t,rfl,ht,c1⟩
 cases t
 ·go_wp2_with fail
  go_ret2
  exact⟨c1,.inl ⟨.inl (fun h=>by have:=ht.2 h;cases this),rfl⟩⟩
 ·have hok:=ht.1 rfl
  have hAll:QgK Qgc m:=QhI m hok.1.2.2 hok.2
  have hsb:∀y,(fun y=>y∈S) y->y<w.heap.size:=hS
  have z1:=c1.size
  clear ht
  obtain⟨b4,hb4⟩:∃b,w1.heap.size=b:=⟨_,rfl⟩
  go_upto_region 4 with fail
  refine Qp fun w2 hw2=>?_
  have c2:Qc [] w1 w2:=by rw [hw2];exact C6
  have z2:w2.heap.size=b4+1:=by rw [hw2, <-hb4];simp
  have B2:ZU w2 b4 (Qg9 (QiG 0)):=by rw [hw2, <-hb4];exact L9 w1 _ _
  clear hw2
  try rw [hb4]
  have C2:=Qb (c1.tz c2)
  clear c2 c1 IP
  go_wp2_with fail
  go_loopw [10] (fun i wr=>∃k:Nat,k<=3/\i= .int .i64 (k:Int)/\ZU wr b4 (Qg9 (QiG k))/\Qc [b4] w2 wr) (fun i _=>3-(intOf i).toNat)
  case atStart=>exact⟨0,by omega,rfl,B2,B0 _ _⟩
  case round=>
   obtain⟨k,hk,rfl,hbk,hc⟩:=hrel
   obtain⟨wo,hwo⟩:∃wo:World,wo=wr:=⟨_,rfl⟩
   rw [<-hwo] at hbk hc ⊢
   clear hwo
   by_cases hk3:k<3
   ·obtain⟨g0,g1⟩:=QhQ (QiG k) (i:=(k:Int)) ⟨by omega,by omega⟩
    have hst:=Qir (QiG k) (i:=(k:Int)) ⟨by omega,by omega⟩ (k+1) ⟨#[]⟩
    rw [Int.toNat_natCast] at g0 g1 hst
    rw [QiM hk3] at hst
    have k0:=hbk.c _ _ g0
    have k1:=hbk.c _ _ g1
    have f0:=hbk.f
    have kiq:((k:Nat):Int)<3:=by omega
    have wkq:IntKind.i64.wrap ((k:Int)+1)=((k+1:Nat):Int):=by rw [Zd (by omega) (by omega)];omega
    have BN:=Qb ((hbk.set (k * 2) (.int .i64 ((k+1:Nat):Int))).set (k * 2+1) (.string ⟨#[]⟩))
    have CN:Qc [b4] w2 ((wo.setCell ⟨b4,k * 2,none⟩ (.int .i64 ((k+1:Nat):Int))).setCell ⟨b4,k * 2+1,none⟩ (.string ⟨#[]⟩)):=(hc.setCell (.inl (by simp)) _).setCell (.inl (by simp)) _
    replace CN:=Qb CN
    rw [hst] at BN
    replace hbk:=Qb hbk
    clear g0 g1 hst hc
    go_wp2_with fail
    go_roundw
    case rel=>exact⟨k+1,by omega,by go_num,BN.out,CN.out⟩
    case measure=>simp [intOf];omega
   ·obtain rfl:k=3:=by omega
    rw [QiO] at hbk
    obtain⟨b5,hb5⟩:∃b,wo.heap.size=b:=⟨_,rfl⟩
    have zo:=hc.size
    go_upto_region 10 with fail
    refine Qp fun w4 hw4=>?_
    have c4:Qc [] wo w4:=by rw [hw4];exact C6
    have z4:w4.heap.size=b5+1:=by rw [hw4, <-hb5];simp
    have I4:Qf9 w4 b5 (fun _ _=>False) False:=⟨0,0,0,false,by rw [hw4, <-hb5];exact L9 wo _ _,QiH,QiH,QiH,by simp⟩
    have B4:=hbk.keep c4
    clear hw4 hbk
    try rw [hb5]
    have q4:=(B4.alloc (.map #[] 0)).o6
    have f4:=(B4.alloc (.map #[] 0)).f
    have hkc:KCg (Qgi Qhy):=⟨Qhy,rfl,QiJ⟩
    have hM0:ZH (w4.alloc (.map #[] 0)) KCg (b5+1) []:=by rw [<-z4];exact ZH.made w4 KCg
    have cm:Qc [] w4 (w4.alloc (.map #[] 0)):=C6
    have lb4:=B4.lt
    go_wp2_with (first|(refine vz rfl (.tmp 20) (.tmp 21) (.const (.bool true)) _ rfl Qh8 trivial hu rfl hM0 (key:=Qgi Qhy) (val:=.bool true) rfl rfl hkc ?_;intro w5 E5 hE5 d5 sz5 hm5)|fail)
    have S5:Qd6 w5 (b5+1) (fun t=>t=Qhy):=(Qd6.put (X:=fun _=>False) (E:=[]) (fun p hp=>by cases hp) (fun _ h=>h.elim) QiJ hE5 hm5).congr (fun k=>⟨fun h=>h.resolve_left id,.inr⟩)
    have c45:Qc [] w4 w5:=cm.trans d5 (fun y hy=>.inr (by rw [E0.1 hy];omega))
    have cw:Qc [] w w5:=((C2.out.trans hc (fun y hy=>.inr (by rw [E0.1 hy];omega))).tz c4).tz c45
    have I5:=I4.keep c45
    have L5:=hL.keep (B:=w.heap.size) cw hsb (by simp)
    have LG:=QiB (fun y=>y∈S) w.heap.size b5 hsb m hAll ul (b5+1) _ _ _ w5 (EB.keep cw (by simp) (F0 _)) cw.size I5 S5 ⟨by omega,by omega,by omega⟩ L5
    replace LG:=Qb LG
    have CW:=Qb cw
    clear hE5 hm5 d5 sz5 hM0 cm q4 f4 hkc c45 c4 hc cw I5 I4 L5 S5 hL B4
    refine LG.out.mono ?_
    rintro e w6 ⟨b',rfl,s6,i6,c6,_⟩
    obtain⟨u0,u1,u2,fl,hbx,j0,j1,j2,hf⟩:=i6.congr (A':=fun i n=>(w3L QdW m).ask Qhy i n) (F':=(w3L QdW m).fail Qhy) (fun i n _=>⟨fun h=>h.elim (fun h=>h.elim) (fun⟨_,e,h⟩=>e ▸ h),fun h=>.inr ⟨_,rfl,h⟩⟩) ⟨fun h=>h.elim (fun h=>h.elim) (fun⟨_,e,h⟩=>e ▸ h),fun h=>.inr ⟨_,rfl,h⟩⟩
    have q6:=hbx.o4
    have f6:=hbx.f
    have C6:=Qb (CW.out.trans c6 (fun y hy=>.inr (by rw [E0.1 hy];omega)))
    clear LG s6 i6
    cases fl
    ·have hnf:¬(w3L QdW m).fail Qhy:=fun h=>by have:=hf.2 h;cases this
     clear hf
     have R1:=Qb (Zi 25 25 3 _ 1 8 Tryz.underlying25 GI rfl (by omega) (S8 w6 3 1 (B0 _ _)) (B0 _ _) (some ⟨b5,0,none⟩) 3 3 [.int .i64 u0,.int .i64 u1,.int .i64 u2] rfl (fun _=>⟨b5,0,rfl,fun j u hj=>by
      match j,hj with
      |0,hj=>cases hj;exact q6.1
      |1,hj=>cases hj;exact q6.2.1
      |2,hj=>cases hj;exact q6.2.2.1
      |j+3,hj=>cases hj⟩) (by simp [Value.oneCell']) (by omega) (by omega))
     go_wp2_with (first|(at_builtin;refine Vv rfl (.const (.slice none 0 0)) (.tmp 27) _ rfl rfl rfl R1.out ?_;rintro A1 c1 w7 ⟨hA1,d7,_⟩;simp only [J3,J9] at hA1 ⊢)|fail)
     go_ret2
     exact⟨C6.out.tz hA1.chg,.inr ⟨hok,hnf,u0,u1,u2,_,rfl,Yo.intsV (l:=[u0,u1,u2]) hA1,j0,j1,j2⟩⟩
    ·have hyf:=hf.1 rfl
     clear hf
     go_wp2_with fail
     go_ret2
     exact⟨C6.out,.inl ⟨.inr hyf,rfl⟩⟩
end Go.Proofs.YtjeadhmkghnkkaaGreatDoor
namespace Go.Proofs.YtjeadhmkghnkkaaGreatDoor
open Go.RowKit

def QiR (X:W3 (YY Qhq)):Prop:=∀s,s.All Qhq.sm->∀i n,X.ask s i n->i<3/\ql n
section
variable {X Y:W3 (YY Qhq)}
theorem QiR.skip:QiR W3.skip:=fun _ _ _ _ h=>h.elim
theorem QiR.seq (h:QiR X) (k:Qa2 X) (h':QiR Y):QiR (X.seq Y):=fun s hs i n h1=>h1.elim (h s hs i n) (fun⟨u,a,b⟩=>h' u (k s u hs a) i n b)
theorem QiR.alt (h:QiR X) (h':QiR Y):QiR (X.alt Y):=fun s hs i n h1=>h1.elim (h s hs i n) (h' s hs i n)
theorem QiR.pow (h:QiR X) (k:Qa2 X):∀n,QiR (X.pow n)
 |0=>QiR.skip
 |n+1=>(QiR.pow h k n).seq (k.pow n) h
end
theorem Qi3 (a:Qa) (h:Qgc a) (h8:a.op≠8) (h9:a.op≠9):QiR (QdW a):=fun s hs i n hr=>by
 have hop:=Gt h.1
 have h3:=h.2.1
 have h10:=h.2.2
 by_cases h1:a.op=1
 ·unfold QdW at hr;rw [if_pos h1] at hr;exact hr.elim
 by_cases h5:a.op=5
 ·unfold QdW at hr;rw [if_neg h1,if_pos h5] at hr;exact hr.elim
 by_cases h4:a.op=4
 ·unfold QdW at hr;rw [if_neg h1,if_neg h5,if_pos h4] at hr;exact hr.elim
 have ho:a.op=2∨a.op=6∨a.op=7:=by omega
 by_cases he:(s.get a.slot).empty
 ·exact absurd hr ((Qio ho s he).2.1 i n)
 ·obtain⟨hb,hi,hn⟩:=((Qip ho s he).2.1 i n).1 hr
  have:=(hs.get a.slot).le.1
  exact⟨by omega,by rw [hn];exact Qfs h.1 ho⟩
mutual
theorem Qa.asksG:∀a:Qa,a.AllA Qgc->QiR (a.w3 QdW)
 | .mk op slot other word call face A B,h=>by
  rw [Qa.w3_eq]
  rw [Qa.AllA] at h
  by_cases h8:op=8
  ·simp only [Qa.op,Qa.A,Qa.B,h8,if_true];exact(QiW A h.2.1).alt (QiW B h.2.2)
  ·by_cases h9:op=9
   ·simp only [Qa.op,Qa.A,h9,if_true]
    exact fun s hs i n h1=>(QiW A h.2.1).pow (Qhl A h.2.1) 3 s hs i n h1
   ·simp only [Qa.op,h8,h9,if_false];exact Qi3 _ h.1 h8 h9
theorem QiW:∀l:List Qa,QgK Qgc l->QiR (w3L QdW l)
 | [],_=>by rw [w3L];exact QiR.skip
 |a::l,h=>by
  rw [QgK] at h
  rw [w3L]
  exact(Qa.asksG a h.1).seq (Qa.keepsG a h.1) (QiW l h.2)
end
theorem QiY {s:ByteArray} (h:Qo s≠none):ql ((Qo s).getD 0):=by
 obtain⟨x,hx⟩:=O6.1 h
 have hm:=UZ hx
 have hall:∀p∈kinds,0<=p.2/\p.2<=63:=by decide
 rw [hx]
 exact hall _ hm
theorem QiU {s:ByteArray} (h:Qo s≠none):Um s=[s]:=by
 have hw:=QdI h
 unfold Um
 rw [if_neg hw.1,yF (List.count_eq_zero.1 hw.2)]
theorem Qi0 {s:ByteArray} (h:Qo s≠none):W8 s:=.inr (by
 rw [QiU h]
 obtain⟨f,hf⟩:=O6.1 h
 rw [Ko hf]
 rfl)
theorem Qi1 (k:YY ByteArray) (hk:k.All (fun s=>Qo s≠none)):k.list.map (fun s=>[s])=k.list.map Um/\zv (k.list.map Um)=(Yj k,true)/\QH (Yj k)/\kw (Yj k)=k:=by
 have hs:k.All W8:=⟨Qi0 hk.1,Qi0 hk.2.1,Qi0 hk.2.2⟩
 have hok:=GS hs
 refine⟨?_,?_,hok,QgL hok.1 (qb hs)⟩
 ·simp only [YY.list,I9,O2,QiU hk.1,QiU hk.2.1,QiU hk.2.2]
 ·refine vg ⟨rfl,fun x hx=>?_⟩
  have go:∀s,Qo s≠none->(Wd (Um s)).isSome=true:=fun s h=>by
   rw [QiU h]
   obtain⟨f,hf⟩:=O6.1 h
   rw [Wd,Ko hf]
   rfl
  simp only [YY.list,I9,O2,C7,F1,or_false] at hx
  rcases hx with rfl|rfl|rfl
  ·exact go _ hk.1
  ·exact go _ hk.2.1
  ·exact go _ hk.2.2
theorem Qi6 {k:YY ByteArray} (hk:k.All (fun s=>Qo s≠none)) {m:List Qa} (hm:QiK m) (hf:¬(w3L QdW m).fail Qhy) {u0 u1 u2:Int} (j0:Qgm ((w3L QdW m).ask Qhy) 0 u0) (j1:Qgm ((w3L QdW m).ask Qhy) 1 u1) (j2:Qgm ((w3L QdW m).ask Qhy) 2 u2)
  (o0:ZL ((Qo k.a).getD 0) u0) (o1:ZL ((Qo k.b).getD 0) u1) (o2:ZL ((Qo k.c).getD 0) u2) (input:List Int):(QM input m 0 ⟨Yj k,0⟩).2.code≠1:=fun hc=>by
 have hAll:QgK Qgc m:=QhI m hm.1.2.2 hm.2
 obtain⟨_,_,hok,hsh⟩:=Qi1 k hk
 have hask:=fun i n=>QiW m hAll Qhy QiJ i n
 obtain⟨i,_,_,_,h1⟩:=Qi5 (input:=input) hok hm.1
 rw [jy hok hm.1,hsh] at h1
 rcases h1 with ⟨he,_⟩|⟨_,h2⟩
 ·have he:(QM input m 0 ⟨Yj k,0⟩).2=QJ:=he
  rw [he] at hc;cases hc
 ·refine Qic hk hAll (fun i n h=>?_) hf h2 hc
  have hi:=(hask i n h).1
  unfold Qh6
  rcases(show i=0∨i=1∨i=2 by omega) with rfl|rfl|rfl
  ·exact(j0.offer (fun n h=>(hask 0 n h).2) (QiY hk.1)).1 o0 n h
  ·exact(j1.offer (fun n h=>(hask 1 n h).2) (QiY hk.2.1)).1 o1 n h
  ·exact(j2.offer (fun n h=>(hask 2 n h).2) (QiY hk.2.2)).1 o2 n h
end Go.Proofs.YtjeadhmkghnkkaaGreatDoor
set_option maxRecDepth 100000
set_option maxHeartbeats 8000000
namespace Go.Proofs.YtjeadhmkghnkkaaGreatDoor
open Go.RowKit

theorem QhY {k:Nat} (w:World) (x:ByteArray):VU [k] w (w.alloc (.cells #[.string x] 9)) (Ur x) [.string x]:=⟨[],I2 (T8 _),by simp,(B0 _ _).alloc _⟩
def Qih (w:World) (e:Ending) (w':World):Prop:=∃(p:List Qa) (A1:Option Addr) (c1:Nat) (l:List ByteArray) (A:Option Addr) (cap:Nat),e= .returned (.tuple #[.slice A1 p.length c1,.slice A l.length cap])/\Xn p/\zR 10 3 p/\Qi p<=26000/\(∀x∈l,Qo x≠none)/\l.length=3/\∃S1,Yp w' (QA p) (.slice A1 p.length c1) S1/\Rd w' w'.heap.size (WB l) (.slice A l.length cap)/\Qc [] w w'
theorem Qh1 (A0:Option Addr) (n0 cap0:Nat) (w0:World) (hn:n0<=5000) (hb:Kj w0 w0.heap.size A0 n0):
  Calls Tryz.prog 27 #[.slice A0 n0 cap0] w0 (Qih w0):=by
 have NE:=Qb (QdS A0 n0 cap0 w0 hn hb)
 have HM:=Qb (show ∀x∈([⟨#[115,116,111,110,101]⟩,⟨#[108,97,109,112]⟩,⟨#[115,104,101,108,102]⟩,⟨#[109,101,116,101,114]⟩,⟨#[100,114,97,119,101,114]⟩,⟨#[104,111,114,110]⟩,⟨#[118,97,117,108,116]⟩,⟨#[114,111,98,111,116]⟩,⟨#[114,111,98,111,116]⟩,⟨#[114,111,98,111,116]⟩]:List ByteArray),Qo x≠none from fun x hx=>by
  simp only [C7,F1,or_false] at hx
  rcases hx with rfl|rfl|rfl|rfl|rfl|rfl|rfl|rfl|rfl|rfl<;>(unfold Qo;rw [ByteArray.toList_eq];decide))
 clear hb
 go_enter Tryz.func27,Tryz.ntmps27
 go_wp2_with fail
 refine NE.out.mono ?_
 rintro e w1 ⟨k,rfl,hk0,q1,c1⟩
 have C1:=Qb c1
 have DR:=Qb (QhC k w1 q1)
 have LS:=Qb (fun L g cap W hc h0 h1 hg hl hx=>KZ k L g cap W hc h0 h1 hg hl hx)
 clear NE c1
 go_wp2_with fail
 refine DR.out.mono ?_
 rintro e w ⟨p,A1,cap1,rfl,hAp,hok,hW,hpl,q2⟩
 have HPL:=Qb (hpl rfl)
 clear hpl
 have hk:=q2.lt
 have hT:Hid (∀x∈ [k],x<w.heap.size):=Qb (by simpa using hk)
 have NP:=Qb hAp.new
 have q1k:=q1.lt
 clear hAp q1 DR
 have hA0:=Qb (W0.empty (T:=[k]) w 9 1 (B0 _ _))
 have q3:=q2.kz ((B0 [] w).alloc (.cells #[] 9))
 go_wp2_with fail
 go_loopw [6,7] (fun v n wr=>∃(j:Nat) (l:List ByteArray) (A:Option Addr) (cap:Nat),n= .int .i64 (j:Int)/\v= .slice A l.length cap/\l.length=j/\j<=3/\Hid (W0 [k] w wr 9 1 (.slice A l.length cap) l.length (l.flatMap Ur))/\Hid (∀x∈l,Qo x≠none)/\WN wr k) (fun v n _=>3-(intOf n).toNat)
 case atStart=>exact⟨0,[],_,_,rfl,rfl,rfl,by omega,hA0,Qb (by simp),q3⟩
 case round=>
  obtain⟨j,l,A,cap,rfl,rfl,hlj,hj3,hA,hL,hq⟩:=hrel
  have HLJ:=Qb hlj
  have hl3:l.length<=3:=by omega
  clear hlj
  by_cases hj:j<3
  case neg=>
   obtain rfl:j=3:=by omega
   go_wp2_with fail
   go_ret2
   have n2:=hA.out.new
   obtain⟨S2,s1,s2,s3⟩:=hA.out.new
   obtain⟨S1,p1,p2,p3⟩:=NP.out
   have lw:=p1.lt
   have l1:=C1.out.size
   have l2:=p3.size
   exact⟨p,A1,cap1,l,A,cap,rfl,hok,HPL.out,hW,hL.out,HLJ.out,S1,p1.keep s3 (fun x hx hy=>by have:=p2 x hx;have:=q1k;simp at hy;omega),n2.rd,((C1.out.mono (T:=[k]) (by simp)).trans (p3.trans s3 (fun _ h=>.inl h)) (fun _ h=>.inl h)).mono (fun y hy=>.inr (by simp at hy;omega))⟩
  case pos=>
   have hji:((j:Nat):Int)<3:=by omega
   have hkr:=hq.lt
   have hA1:=Qb (hA.out.later ((B0 [k] wr).alloc (.cells #[.string ⟨#[115,116,111,110,101]⟩,.string ⟨#[108,97,109,112]⟩,.string ⟨#[115,104,101,108,102]⟩,.string ⟨#[109,101,116,101,114]⟩,.string ⟨#[100,114,97,119,101,114]⟩,.string ⟨#[104,111,114,110]⟩,.string ⟨#[118,97,117,108,116]⟩,.string ⟨#[114,111,98,111,116]⟩,.string ⟨#[114,111,98,111,116]⟩,.string ⟨#[114,111,98,111,116]⟩] 9)) hT.out)
   go_wp2_with fail
   refine(LS.out [⟨#[115,116,111,110,101]⟩,⟨#[108,97,109,112]⟩,⟨#[115,104,101,108,102]⟩,⟨#[109,101,116,101,114]⟩,⟨#[100,114,97,119,101,114]⟩,⟨#[104,111,114,110]⟩,⟨#[118,97,117,108,116]⟩,⟨#[114,111,98,111,116]⟩,⟨#[114,111,98,111,116]⟩,⟨#[114,111,98,111,116]⟩] wr.heap.size 10 _ (hq.kz ((B0 _ _).alloc _)) (by decide) (by decide) (by omega) (by simp) (Gv rfl)).mono ?_
   rintro e w2 ⟨x,rfl,hx,q4,c4⟩
   have hx:=HM.out x hx
   have hA2:=Qb (hA1.out.later c4 hT.out)
   have NT:=Qb (QhY (k:=k) w2 x)
   have NW:=Qb ((L9 w2 #[.string x] 9).c)
   have HONE:=Qb (show ∀u∈([.string x]:List Value),u.oneCell'=true by intro u hu;simp at hu;subst hu;rfl)
   have HX:=Qb hx
   clear c4 hA hA1 hq hx
   go_wp2_with (at_builtin;refine Vr (T:=[k]) rfl (.tmp 17) (.tmp 21) _ rfl 9 _ 1 16 Tryz.underlying54 Yx rfl (by omega) hA2.out hT.out NT.out rfl w2.heap.size 1 1 rfl rfl NW.out HONE.out (by omega) (by omega) ?_;intro A6 cap6 w6 hA6 hM6)
   go_roundw
   case rel=>exact⟨j+1,l++ [x],A6,cap6,by go_num,by simp,by simp [HLJ.out],by omega,Qb (by simpa [List.flatMap_append,Ur] using hA6),Qb (fun y hy=>by rcases F4.1 hy with hy|hy;exact hL.out y hy;rw [E0.1 hy];exact HX.out),(q4.kz ((B0 _ _).alloc _)).mid hM6 hk⟩
   case measure=>simp [intOf];omega
end Go.Proofs.YtjeadhmkghnkkaaGreatDoor
set_option maxRecDepth 100000
set_option maxHeartbeats 16000000
namespace Go.Proofs.YtjeadhmkghnkkaaGreatDoor
open Go.RowKit

theorem Qja (w:World) (s:ByteArray) (e:TypeId):qt w (w.alloc (.cells #[.string s] e)) (WB [s]) (.slice (some ⟨w.heap.size,0,none⟩) 1 1):=by
 refine⟨[w.heap.size],⟨?_,by simp⟩,by simp,(B0 _ _).alloc _⟩
 unfold WB
 have hc:[s].flatMap Ur=([.string s]:List Value).map QD.v:=by simp [Ur]
 rw [hc,Yb]
 exact .inr ⟨w.heap.size,1,_,e,[.string s],[],rfl,F0 _,by unfold maxLen;simp,heap_alloc_new w _,rfl,by simp,Qt.plainN _ _,rfl⟩
theorem Qi8:(Tryz.prog.info? 54).map (fun i=>(i.zero,i.size,i.bytes))=some (some (.slice none 0 0),1,24):=by kernel_rfl
theorem Qi7 (A:Option Addr) (n cap:Nat) (w:World) (hE:KP w) (hb:Kj w w.heap.size A n):
  Calls Tryz.prog 6 #[.slice A n cap] w fun e w'=>e= .returned (.bool true)/\Qc [] w w':=by
 have HE:=Qb hE
 by_cases hn:n<=4096
 case neg=>
  have BG:=Qb (QfO A n cap w hn)
  clear hb hn hE
  go_enter Tryz.func6,Tryz.ntmps6
  go_wp2_with fail
  refine BG.out.mono ?_
  rintro e w1 ⟨rfl,rfl⟩
  go_wp2_with fail
  go_ret
  exact⟨rfl,B0 _ _⟩
 case pos=>
  have BG:=Qb (Qgx A n cap w hn)
  have DK:=Qb (Qh1 A n cap w (by omega) hb)
  have DP:=Qb (fun W (hc:Qc [] w W)=>jv A n cap W (by omega) (hb.keep hc))
  clear hb hn hE
  go_enter Tryz.func6,Tryz.ntmps6
  go_wp2_with fail
  refine BG.out.mono ?_
  rintro e w0 ⟨rfl,hw0⟩
  subst hw0
  go_wp2_with fail
  refine DK.out.mono ?_
  rintro e w1 ⟨p,A1,c1,l,A2,c2,rfl,hok,hpl,hW,hkn,hl3,S1,h1,r1,d1⟩
  obtain⟨kaq,kb,kc,rfl⟩:∃a b c,l=[a,b,c]:=by
   match l,hl3 with
   | [a,b,c],_=>exact⟨a,b,c,rfl⟩
  obtain⟨k,hkd⟩:∃k:YY ByteArray,k=⟨kaq,kb,kc⟩:=⟨_,rfl⟩
  have hkl:[kaq,kb,kc]=k.list:=by rw [hkd];rfl
  rw [hkl] at r1 hkn ⊢
  have hk3:k.list.length=3:=rfl
  have hkA:k.All (fun s=>Qo s≠none):=⟨hkn _ (by simp [YY.list]),hkn _ (by simp [YY.list]),hkn _ (by simp [YY.list])⟩
  clear hkn hl3 hkl hkd
  have D1:=Qb d1
  have HP:=Qb h1
  have RK:=Qb r1
  clear h1 r1 d1 DK BG
  rw [hk3]
  go_wp2_with fail
  refine(DP.out _ D1.out).mono ?_
  rintro e w2 ⟨p2,A3,c3,inp,A4,c4,rfl,_,_,_,_,S3,S4,_,h4,_,_,_,d2⟩
  have D2:=Qb d2
  have H4:=Qb h4
  have hW':Qi p<=1048576:=G5 hW (by decide)
  have E2:=Qb ((HE.out.keep D1.out).keep d2)
  have HP2:=Qb (HP.out.kz d2)
  have WO:=Qb (QiN p _ S1 w2 E2.out hW' HP2.out.1 (fun x hx=>HP2.out.lt x hx))
  clear h4 d2 DP hW
  go_wp2_with fail
  refine WO.out.mono ?_
  rintro e w3 ⟨d3,hw⟩
  have hw2:∃(ok0:Bool) (V:Option Addr) (vnq vcq:Nat) (u0 u1 u2:Int),e= .returned (.tuple #[.slice V vnq vcq,.bool ok0])/\(ok0=true->¬(w3L QdW p).fail Qhy/\vnq=3/\(∃b off,V=some ⟨b,off,none⟩/\∀(j:Nat) (h:j<3),w3.cell? ⟨b,off+j,none⟩=some (.int .i64 ([u0,u1,u2][j]'h)))/\Qgm ((w3L QdW p).ask Qhy) 0 u0/\Qgm ((w3L QdW p).ask Qhy) 1 u1/\Qgm ((w3L QdW p).ask Qhy) 2 u2):=by
   rcases hw with ⟨_,rfl⟩|⟨_,hnf,u0,u1,u2,v,rfl,hv,j0,j1,j2⟩
   ·exact⟨false,none,0,0,0,0,0,rfl,fun h=>by cases h⟩
   ·obtain⟨V,vcq,rfl,_,_,hv⟩:=hv
    refine⟨true,V,3,vcq,u0,u1,u2,rfl,fun _=>⟨hnf,rfl,?_,j0,j1,j2⟩⟩
    rcases hv with hv|⟨b,off,_,_,rfl,_,hc⟩
    ·cases hv
    ·exact⟨b,off,rfl,fun j h=>hc j h⟩
  obtain⟨ok0,V,vnq,vcq,u0,u1,u2,rfl,hgood⟩:=hw2
  have G3:=Qb hgood
  have D3:=Qb d3
  have hpok:QiK p:=⟨hok,hpl⟩
  have HOK:=Qb hpok
  clear hw hgood d3 WO hpok hpl
  have hA0:=Qb (Yo.empty w3 54 1 (B0 [] w3))
  obtain⟨Ar,cr,er,_,_,hrow⟩:=YB RK.out
  obtain⟨rfl,rfl⟩:A2=Ar/\c2=cr:=by injection er with h1 _ h2;exact⟨h1,h2⟩
  have HR:=Qb hrow
  have d13:=Qb (D2.out.tz D3.out)
  clear er hrow
  go_wp2_with fail
  go_loopw [8,9,10] (fun okv rv iv wr=>∃(j:Nat) (okj:Bool) (A':Option Addr) (cap':Nat),j<=3/\iv= .int .i64 (j:Int)/\okv= .bool okj/\rv= .slice A' j cap'/\Hid (Yo w3 wr 54 1 (.slice A' j cap') j ((k.list.take j).flatMap (fun s=>Jv [s])))/\Hid (okj=true->ok0=true/\∀i,i<j->ZL ((Qo (k.list.getD i ⟨#[]⟩)).getD 0) ([u0,u1,u2].getD i 0))) (fun _ _ iv _=>3-(intOf iv).toNat)
  case atStart=>exact⟨0,ok0,_,_,by omega,rfl,rfl,rfl,hA0,Qb (fun h=>⟨h,fun i h=>absurd h (by omega)⟩)⟩
  case round=>
   obtain⟨j,okj,A',cap',hj,rfl,rfl,rfl,hA,hok2⟩:=hrel
   have cA:=Qb (d13.out.tz hA.out.chg)
   by_cases hj3:j<3
   ·obtain⟨bk,ok,rfl,hbk,q0⟩:=ZO (HR.out.cz cA.out (F0 _)) j (show j<k.list.length from hj3)
    have jiq:((j:Nat):Int)<3:=by omega
    obtain⟨s,hs⟩:∃s,k.list[j]'(show j<k.list.length from hj3)=s:=⟨_,rfl⟩
    rw [hs] at q0
    have hgd:k.list.getD j ⟨#[]⟩=s:=by rw [List.getD_eq_getElem?_getD,F8 (show j<k.list.length from hj3),hs];rfl
    have htk:k.list.take (j+1)=k.list.take j++ [s]:=by rw [G6 (show j<k.list.length from hj3),hs]
    have KF:=Qb (fun W=>ZT s W)
    have HT:=Qb htk
    have HG:=Qb hgd
    clear hs hgd htk
    have NL:=Qb (fun W:World=>((Qja W s 9).later ((B0 _ _).alloc (.cells #[.slice (some ⟨W.heap.size,0,none⟩) 1 1] 54))).elim fun S x=>(show YW W _ (Jv [s]) [.slice (some ⟨W.heap.size,0,none⟩) 1 1] from⟨S,Zm.one x.1,x.2⟩))
    cases okj
    ·go_wp2_with fail
     refine(KF.out _).mono ?_
     rintro e w5 ⟨rfl,rfl⟩
     have NLW:=Qb (NL.out w5)
     go_wp2_with (at_builtin;refine ZN rfl (.tmp 59) (.tmp 65) _ rfl 54 _ 1 24 Tryz.underlying57 Qi8 rfl (by omega) hA.out (us:=[.slice (some ⟨w5.heap.size,0,none⟩) 1 1]) (dsE:=Jv [s]) NLW.out rfl (w5.heap.size+1) 1 rfl rfl (by intro i u hi;exact JF _ _ _ _ (by simp) (by simpa using hi)) (by intro u hu;simp at hu;subst hu;rfl) (by omega) (by omega) ?_;intro A6 cap6 w6 hA6)
     go_roundw
     case rel=>exact⟨j+1,false,A6,cap6,by omega,by go_num,rfl,by go_num,Qb (by rw [HT.out,J0];simpa using hA6),Qb (fun h=>by cases h)⟩
     case measure=>simp [intOf];omega
    ·obtain⟨hok0,hof⟩:=hok2.out rfl
     obtain⟨_,hvn,⟨bv,ov,hV,hcv⟩,_⟩:=G3.out hok0
     have HO:=Qb hof
     have cv3:=hcv j hj3
     have cv:=(hA.out.chg.cell (p:=⟨bv,ov+j,none⟩) (Qk cv3) (by simp)).trans cv3
     obtain⟨u,hu⟩:∃u,[u0,u1,u2][j]'hj3=u:=⟨_,rfl⟩
     rw [hu] at cv
     have hud:[u0,u1,u2].getD j 0=u:=by rw [List.getD_eq_getElem?_getD,F8 (show j < [u0,u1,u2].length from hj3),hu];rfl
     have HU:=Qb hud
     have OF:=Qb (fun W=>Xp ((Qo s).getD 0) u W)
     have HK0:=Qb hok0
     subst hV hvn
     clear hcv cv3 hu hud hof hok0
     go_wp2_with fail
     refine(KF.out _).mono ?_
     rintro e w5 ⟨rfl,rfl⟩
     go_wp2_with fail
     refine(OF.out _).mono ?_
     rintro e w6 ⟨t,rfl,ht,rfl⟩
     have HTT:=Qb ht
     have NLW:=Qb (NL.out w6)
     clear ht
     go_wp2_with (at_builtin;refine ZN rfl (.tmp 59) (.tmp 65) _ rfl 54 _ 1 24 Tryz.underlying57 Qi8 rfl (by omega) hA.out (us:=[.slice (some ⟨w6.heap.size,0,none⟩) 1 1]) (dsE:=Jv [s]) NLW.out rfl (w6.heap.size+1) 1 rfl rfl (by intro i u hi;exact JF _ _ _ _ (by simp) (by simpa using hi)) (by intro u hu;simp at hu;subst hu;rfl) (by omega) (by omega) ?_;intro A6 cap6 w7 hA6)
     go_roundw
     case rel=>
      exact⟨j+1,t,A6,cap6,by omega,by go_num,rfl,by go_num,Qb (by rw [HT.out,J0];simpa using hA6),Qb (fun h=>⟨HK0.out,fun i hi=>by
       by_cases e:i=j
       ·rw [e,HG.out,HU.out];exact HTT.out.1 h
       ·exact HO.out i (by omega)⟩)⟩
     case measure=>simp [intOf];omega
   ·obtain rfl:j=3:=by omega
    obtain⟨hmap,hfill,hsl,hsh⟩:=Qi1 k hkA
    have n3:=hA.out.new
    have rd3:Rd wr wr.heap.size (QaF (k.list.map fun s=>[s])) (.slice A' 3 cap'):=by
     have e1:(k.list.take 3).flatMap (fun s=>Jv [s])=(k.list.map fun s=>[s]).flatMap Jv:=by rw [U1 (F0 3),List.flatMap_map]
     rw [e1] at n3
     exact n3.rd
    have FS:=Qb (qM (k.list.map fun s=>[s]) _ wr.heap.size wr (by simp [YY.list]) (by intro x hx;obtain⟨y,_,rfl⟩:=L7.1 hx;simp) rd3 (F0 _))
    rw [hmap,hfill] at FS
    have RL:=Qb (fun(us:Value) (W:World) (hc:Qc [] wr W) (rs:Rd W W.heap.size (slots (Yj k)) us)=>QfS (w:=W) ((E2.out.keep D3.out).keep (hA.out.chg.tz hc)) inp hsl hok hW' rs ((HP2.out.kz D3.out).kz (hA.out.chg.tz hc)).rd ((H4.out.kz D3.out).kz (hA.out.chg.tz hc)).rd W (B0 _ _))
    have HW:Hid (okj=true->(QM inp p 0 ⟨Yj k,0⟩).2.code≠1):=Qb (fun h=>by
     obtain⟨h0,ho⟩:=hok2.out h
     obtain⟨hnf,_,_,j0,j1,j2⟩:=G3.out h0
     exact Qi6 hkA HOK.out hnf j0 j1 j2 (ho 0 (by omega)) (ho 1 (by omega)) (ho 2 (by omega)) inp)
    obtain⟨q,hq⟩:∃q,QM inp p 0 ⟨Yj k,0⟩=q:=⟨_,rfl⟩
    rw [hq] at HW RL
    have hl3:(Yj k).length=3:=rfl
    have CA:=Qb (D1.out.tz cA.out)
    clear hmap hfill hsl hsh n3 rd3 hA hok2 hq
    go_wp2_with fail
    refine FS.out.mono ?_
    rintro e w8 ⟨A8,c8,rfl,n8⟩
    have RL8:=Qb (RL.out _ w8 n8.chg n8.rd)
    have C8:=Qb (CA.out.tz n8.chg)
    simp only [hl3] at RL8 ⊢
    clear n8 FS
    go_wp2_with fail
    refine RL8.out.mono ?_
    rintro e w9 ⟨A9,c9,rfl,_,d9⟩
    have C9:=Qb (C8.out.tz d9)
    clear d9 RL8
    cases okj
    ·go_wp2_with fail
     go_ret
     exact⟨rfl,H9 C9.out⟩
    ·have hne:=HW.out rfl
     have hne2:(q.2.code !=1)=true:=by rw [bne_iff_ne];exact hne
     go_wp2_with fail
     go_ret
     exact⟨rfl,H9 C9.out⟩
end Go.Proofs.YtjeadhmkghnkkaaGreatDoor
set_option maxRecDepth 100000
namespace Go.Proofs.YtjeadhmkghnkkaaGreatDoor
open Go.ChangeShapes Go.WideShapes Go.ChangeAt Go.RowKit

theorem Qi9 (os:Os) (started:os.Started) (H:Type) (enc:TypeId×Value->H):
  ReturnsInHanded {} Tryz.checked os 6 .any (fun w args=>(Rows.fnWantsRunSpec.pre enc Tryz.prog Tryz.f6 Rows.fnWantsRunRow.domain false w args/\laidMetH Tryz.prog Rows.fnWantsRunRow.laid w)/\sizedMet enc Tryz.prog Tryz.f6 (OpenSpec.ofChange Rows.fnWantsRunSpec) false w args)
   (Rows.fnWantsRunSpec.post enc Tryz.prog Tryz.f6 false true false false):=by
 refine zD (C:=Tryz.checked) (X:=fun w _=>laidMetH Tryz.prog Rows.fnWantsRunRow.laid w) (fun _ _ _ hh h=>h.of_heap hh) Tryz.own started (by kernel_rfl) Tryz.func6
  (ChangeSpec.witness_shaped (enc:=enc) (C:=Tryz.checked) (os:=os) (X:=fun w _=>laidMetH Tryz.prog Rows.fnWantsRunRow.laid w) false (World.laidAll Tryz.prog os Rows.fnWantsRunRow.laid) #[.slice none 0 0] 8 (World.laidAll_os _ _ _)
   (World.shaped_of_ZipB (by kernel_rfl) (by kernel_rfl)) (by kernel_rfl) (by kernel_rfl) (by kernel_rfl)
   (by rw [MakeChecks.laidMetH_plain _ _ _ (by kernel_rfl)];exact laidMet_laidAll _ (by kernel_rfl) (by kernel_rfl))) ?_
 intro W base args ds gs before hval0 hW hX hsh
 have hval:∀(j:Nat) t v,Tryz.f6.params[j]?=some t->args[j]?=some v->Value.okWide Tryz.prog W .any base t v:=hval0
 have hW':=hW
 obtain⟨p,q,hA0,hV,rfl,hfz,hnd⟩:=hW
 have hA:DataW.TrodAll enc Tryz.prog W 0 (fun _=>true) true Tryz.f6.params.toList args.toList ds p:=hA0
 rw [Tryz.params6] at hA hval
 obtain⟨v0,d0,rfl,rfl,h0⟩:=trodAll_one hA
 obtain⟨rfl,rfl⟩:=trodVars_none hV
 obtain⟨l,hfl,rdl⟩:=Vp.arg Qax Tryz.underlying22 (hval 0 22 v0 rfl rfl) h0
 obtain⟨A,cap,rfl,_,_,hb⟩:=QdC rdl
 rw [MakeChecks.laidMetH_plain _ _ _ (by kernel_rfl)] at hX
 have hE:KP W:=QgA hsh hX (.tail _ (.tail _ (.head _))) (.tail _ (.tail _ (.tail _ (.tail _ (.tail _ (.head _))))))
 refine(Qi7 A _ cap W hE hb).mono fun e W' ⟨he,hw⟩=>?_
 subst he
 exact⟨_,rfl,QgP rfl rfl Tryz.underlying4 Tryz.laidOut (by rw [Tryz.params6];intro t ht;simp at ht;subst ht;exact⟨by kernel_rfl,of_decide_eq_true (by kernel_rfl)⟩) hW' rfl hw⟩

theorem wantsRun_row_holds:Rows.FnWantsRunSaid:=
 OpenClaim.holds_of_wide 6 Tryz.f6 rfl rfl rfl rfl rfl rfl rfl ⟨rfl,rfl,rfl,rfl,rfl⟩ rfl rfl rfl rfl rfl (by kernel_rfl) Tryz.func6 (by kernel_rfl)
  (of_decide_eq_true (by kernel_rfl)) (by unfold Func.isWrapper;rw [if_neg (of_decide_eq_false (by kernel_rfl))];exact⟨rfl,rfl⟩)
  (fun os started H enc _=>Qi9 os started H enc)

theorem wantsRun_holds:Rows.FnWantsRunCardSaid:=
 Claim7.holds_tied_plain_at .later [] [.data,.data,.data,.data,.sentinel,.sentinel,.pinned] true _ true wantsRun_row_holds (fun _ h=>by cases h) (by kernel_rfl) (fun _ h=>by cases h) fnWantsRun_row_tie rfl ⟨rfl,rfl⟩ (by kernel_rfl) rfl
  (fun f fn hf hfn=>by
   obtain rfl:f=6:=M1 ((show Tryz.prog.funcNamed "loop.example/g03016/laws.FnWantsRun" =some 6 by kernel_rfl).symm.trans hf) |>.symm
   obtain rfl:fn=Tryz.f6:=(M1 (Tryz.func6.symm.trans hfn)).symm
   exact⟨by kernel_rfl,fun j t ht=>by
    rw [Tryz.params6] at ht
    have hm:t∈ [22]:=by simpa using Array.mem_of_getElem? ht
    have hall:([22].all fun u=>!Tryz.prog.wantsStandIn u)=true:=by kernel_rfl
    exact(show Tryz.prog.wantsStandIn t=false by simpa using g7.1 hall t hm)⟩)
  (by kernel_rfl)
end Go.Proofs.YtjeadhmkghnkkaaGreatDoor
