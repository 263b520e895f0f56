/- WantsOf of the program. Conditions: as stated. -/
import Derived.Test.YtfjhdnjlhjimeaaGreatDoorInferAll
import Derived.Test.YtfjhdnjlhjimeaaGreatDoorPlainOk
set_option maxRecDepth 100000
set_option maxHeartbeats 8000000
namespace Go.Proofs.YtfjhdnjlhjimeaaGreatDoor
open Go.RowKit

def QiP (m:List Qa) (w:World) (e:Ending) (w':World):Prop:=Qc [] w w'/\
 (((¬QiK m∨(w3L QdW m).fail Qhy)/\e= .returned (.tuple #[.slice none 0 0,.bool false]))∨
   (QiK m/\¬(w3L QdW m).fail Qhy/\∃u0 u1 u2 v,e= .returned (.tuple #[v,.bool true])/\Zn w' [u0,u1,u2] v/\Qgm ((w3L QdW m).ask Qhy) 0 u0/\Qgm ((w3L QdW m).ask Qhy) 1 u1/\Qgm ((w3L QdW m).ask Qhy) 2 u2/\qt w w' (xE [u0,u1,u2]) v))
def QiG (k:Nat):YY Qhq:=⟨⟨if 0<k then 1 else 0,⟨#[]⟩⟩,⟨if 1<k then 2 else 0,⟨#[]⟩⟩,⟨if 2<k then 3 else 0,⟨#[]⟩⟩⟩
theorem QiJ:Qhy.All Qhq.sm:=⟨⟨QhT.1,I3 _⟩,⟨QhT.2.1,I3 _⟩,⟨QhT.2.2,I3 _⟩⟩
theorem QiQ:∀k:Fin 6,has 0 k=false:=by decide
theorem QiH {i:Nat}:Qgm (fun _ _=>False) i 0:=⟨by unfold ql;omega,fun k=>⟨fun h=>absurd h (by rw [QiQ k];decide),fun⟨_,h,_⟩=>h.elim⟩⟩
theorem QiM {k:Nat} (h:k<3):(QiG k).set (k:Int) ⟨k+1,⟨#[]⟩⟩=QiG (k+1):=by
 rcases(show k=0∨k=1∨k=2 by omega) with rfl|rfl|rfl<;>rfl
theorem QmC {w w1 w2:World} {d:QD} {u:Value} (h:Qc [] w w1) (hn:qt w1 w2 d u):qt w w2 d u:=hn.elim fun S x=>⟨S,x.1,fun y hy=>G5 h.size (x.2.1 y hy),h.tz x.2.2⟩
theorem QiO:QiG 3=Qhy:=rfl
theorem QiN (m:List Qa) (ul:Value) (S:List Nat) (w:World) (hE:KP w) (hW:Qi m<=1048576) (hO:Yb w (QA m) ul S) (hS:∀x∈S,x<w.heap.size):
  Calls Tryz.prog 21 #[ul] w (QiP m w):=by
 have hL:WY (fun y=>y∈S) w m ul:=⟨S,hO,fun y hy=>hy⟩
 have IP:=Qb (QiF m ul w.heap.size w hE hW hL.rd (F0 _))
 have EB:=YO.of hE
 unfold QiP
 go_enter Tryz.func21,Tryz.ntmps21
 have hm:=UU Tryz.prog
 have hu:Tryz.prog.underlying 118=some (.map 114 4):=by kernel_rfl
 go_wp2_with fail
 refine IP.out.mono ?_
 rintro e w1 ⟨t,rfl,ht,c1⟩
 cases t
 ·go_wp2_with fail
  go_ret2
  exact⟨c1,.inl ⟨.inl (fun h=>by have:=ht.2 h;cases this),rfl⟩⟩
 ·have hok:=ht.1 rfl
  have hAll:QgK Qgc m:=QhI m hok.1.2.2 hok.2
  have hsb:∀y,(fun y=>y∈S) y->y<w.heap.size:=hS
  have z1:=c1.size
  clear ht
  obtain⟨b4,hb4⟩:∃b,w1.heap.size=b:=⟨_,rfl⟩
  go_upto_region 4 with fail
  refine Qp fun w2 hw2=>?_
  have c2:Qc [] w1 w2:=by rw [hw2];exact C6
  have z2:w2.heap.size=b4+1:=by rw [hw2, <-hb4];simp
  have B2:ZU w2 b4 (Qg9 (QiG 0)):=by rw [hw2, <-hb4];exact L9 w1 _ _
  clear hw2
  try rw [hb4]
  have C2:=Qb (c1.tz c2)
  clear c2 c1 IP
  go_wp2_with fail
  go_loopw [10] (fun i wr=>∃k:Nat,k<=3/\i= .int .i64 (k:Int)/\ZU wr b4 (Qg9 (QiG k))/\Qc [b4] w2 wr) (fun i _=>3-(intOf i).toNat)
  case atStart=>exact⟨0,by omega,rfl,B2,B0 _ _⟩
  case round=>
   obtain⟨k,hk,rfl,hbk,hc⟩:=hrel
   obtain⟨wo,hwo⟩:∃wo:World,wo=wr:=⟨_,rfl⟩
   rw [<-hwo] at hbk hc ⊢
   clear hwo
   by_cases hk3:k<3
   ·obtain⟨g0,g1⟩:=QhQ (QiG k) (i:=(k:Int)) ⟨by omega,by omega⟩
    have hst:=Qir (QiG k) (i:=(k:Int)) ⟨by omega,by omega⟩ (k+1) ⟨#[]⟩
    rw [Int.toNat_natCast] at g0 g1 hst
    rw [QiM hk3] at hst
    have k0:=hbk.c _ _ g0
    have k1:=hbk.c _ _ g1
    have f0:=hbk.f
    have kiq:((k:Nat):Int)<3:=by omega
    have wkq:IntKind.i64.wrap ((k:Int)+1)=((k+1:Nat):Int):=by rw [Zd (by omega) (by omega)];omega
    have BN:=Qb ((hbk.set (k * 2) (.int .i64 ((k+1:Nat):Int))).set (k * 2+1) (.string ⟨#[]⟩))
    have CN:Qc [b4] w2 ((wo.setCell ⟨b4,k * 2,none⟩ (.int .i64 ((k+1:Nat):Int))).setCell ⟨b4,k * 2+1,none⟩ (.string ⟨#[]⟩)):=(hc.setCell (.inl (by simp)) _).setCell (.inl (by simp)) _
    replace CN:=Qb CN
    rw [hst] at BN
    replace hbk:=Qb hbk
    clear g0 g1 hst hc
    go_wp2_with fail
    go_roundw
    case rel=>exact⟨k+1,by omega,by go_num,BN.out,CN.out⟩
    case measure=>simp [intOf];omega
   ·obtain rfl:k=3:=by omega
    rw [QiO] at hbk
    obtain⟨b5,hb5⟩:∃b,wo.heap.size=b:=⟨_,rfl⟩
    have zo:=hc.size
    go_upto_region 10 with fail
    refine Qp fun w4 hw4=>?_
    have c4:Qc [] wo w4:=by rw [hw4];exact C6
    have z4:w4.heap.size=b5+1:=by rw [hw4, <-hb5];simp
    have I4qq:Qf9 w4 b5 (fun _ _=>False) False:=⟨0,0,0,false,by rw [hw4, <-hb5];exact L9 wo _ _,QiH,QiH,QiH,by simp⟩
    have B4:=hbk.keep c4
    clear hw4 hbk
    try rw [hb5]
    have q4:=(B4.alloc (.map #[] 0)).o6
    have f4:=(B4.alloc (.map #[] 0)).f
    have hkc:KCg (Qgi Qhy):=⟨Qhy,rfl,QiJ⟩
    have hM0:ZH (w4.alloc (.map #[] 0)) KCg (b5+1) []:=by rw [<-z4];exact ZH.made w4 KCg
    have cm:Qc [] w4 (w4.alloc (.map #[] 0)):=C6
    have lb4:=B4.lt
    go_wp2_with (first|(refine vz rfl (.tmp 20) (.tmp 21) (.const (.bool true)) _ rfl Qh8 trivial hu rfl hM0 (key:=Qgi Qhy) (val:=.bool true) rfl rfl hkc ?_;intro w5 E5 hE5 d5 sz5 hm5)|fail)
    have S5:Qd6 w5 (b5+1) (fun t=>t=Qhy):=(Qd6.put (X:=fun _=>False) (E:=[]) (fun p hp=>by cases hp) (fun _ h=>h.elim) QiJ hE5 hm5).congr (fun k=>⟨fun h=>h.resolve_left id,.inr⟩)
    have c45:Qc [] w4 w5:=cm.trans d5 (fun y hy=>.inr (by rw [E0.1 hy];omega))
    have cw:Qc [] w w5:=((C2.out.trans hc (fun y hy=>.inr (by rw [E0.1 hy];omega))).tz c4).tz c45
    have I5qq:=I4qq.keep c45
    have L5:=hL.keep (B:=w.heap.size) cw hsb (by simp)
    have LG:=QiB (fun y=>y∈S) w.heap.size b5 hsb m hAll ul (b5+1) _ _ _ w5 (EB.keep cw (by simp) (F0 _)) cw.size I5qq S5 ⟨by omega,by omega,by omega⟩ L5
    replace LG:=Qb LG
    have CW:=Qb cw
    clear hE5 hm5 d5 sz5 hM0 cm q4 f4 hkc c45 c4 hc cw I5qq I4qq L5 S5 hL B4
    refine LG.out.mono ?_
    rintro e w6 ⟨b',rfl,s6,i6qq,c6,_⟩
    obtain⟨u0,u1,u2,fl,hbx,j0,j1,j2qq,hf⟩:=i6qq.congr (A':=fun i n=>(w3L QdW m).ask Qhy i n) (F':=(w3L QdW m).fail Qhy) (fun i n _=>⟨fun h=>h.elim (fun h=>h.elim) (fun⟨_,e,h⟩=>e ▸ h),fun h=>.inr ⟨_,rfl,h⟩⟩) ⟨fun h=>h.elim (fun h=>h.elim) (fun⟨_,e,h⟩=>e ▸ h),fun h=>.inr ⟨_,rfl,h⟩⟩
    have q6:=hbx.o4
    have f6:=hbx.f
    have C6qq:=Qb (CW.out.trans c6 (fun y hy=>.inr (by rw [E0.1 hy];omega)))
    clear LG s6 i6qq
    cases fl
    ·have hnf:¬(w3L QdW m).fail Qhy:=fun h=>by have:=hf.2 h;cases this
     clear hf
     have R1:=Qb (Zi 25 25 3 _ 1 8 Tryz.underlying25 GI rfl (by omega) (S8 w6 3 1 (B0 _ _)) (B0 _ _) (some ⟨b5,0,none⟩) 3 3 [.int .i64 u0,.int .i64 u1,.int .i64 u2] rfl (fun _=>⟨b5,0,rfl,fun j u hj=>by
      match j,hj with
      |0,hj=>cases hj;exact q6.1
      |1,hj=>cases hj;exact q6.2.1
      |2,hj=>cases hj;exact q6.2.2.1
      |j+3,hj=>cases hj⟩) (by simp [Value.oneCell']) (by omega) (by omega))
     go_wp2_with (first|(at_builtin;refine Vv rfl (.const (.slice none 0 0)) (.tmp 27) _ rfl rfl rfl R1.out ?_;rintro A1 c1 w7 ⟨hA1,d7,_⟩;simp only [J3,J9] at hA1 ⊢)|fail)
     go_ret2
     exact⟨C6qq.out.tz hA1.chg,.inr ⟨hok,hnf,u0,u1,u2,_,rfl,Yo.intsV (l:=[u0,u1,u2]) hA1,j0,j1,j2qq,QmC C6qq.out hA1.new⟩⟩
    ·have hyf:=hf.1 rfl
     clear hf
     go_wp2_with fail
     go_ret2
     exact⟨C6qq.out,.inl ⟨.inr hyf,rfl⟩⟩
end Go.Proofs.YtfjhdnjlhjimeaaGreatDoor
