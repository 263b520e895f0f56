/- FnWitnessed of the program: a plan that is not safe fails for the input that is told, and for each place in which it can fail. Conditions: the bytes lie below. -/
import Derived.Test.YtlnkgcdeljhjcaaGreatDoorExpls
import Derived.Test.YtlnkgcdeljhjcaaGreatDoorRunLws
import Derived.Test.YtlnkgcdeljhjcaaGreatDoorDraw5
set_option maxRecDepth 100000
set_option maxHeartbeats 16000000
namespace Go.Proofs.YtlnkgcdeljhjcaaGreatDoor
open Go.RowKit

theorem vA (A:Option Addr) (n cap:Nat) (w:World) (hE:Km w) (hb:UO w w.heap.size A n):
  Calls Tryz.prog 3 #[.slice A n cap] w fun e w'=>e= .returned (.bool true)/\Qb [] w w':=by
 have HE:=Qd hE
 by_cases hn:n<=4096
 case neg=>
  have BG:=Qd (Qgs A n cap w hn)
  clear hb hn hE
  go_enter Tryz.func3,Tryz.ntmps3
  go_wp2_with fail
  refine BG.out.mono ?_
  rintro e w1 ⟨rfl,rfl⟩
  go_wp2_with fail
  go_ret
  exact⟨rfl,Qb.refl _ _⟩
 case pos=>
  have BG:=Qd (Qhs A n cap w hn)
  have DP:=Qd (kO A n cap w (by omega) hb)
  clear hb hn hE
  go_enter Tryz.func3,Tryz.ntmps3
  go_wp2_with fail
  refine BG.out.mono ?_
  rintro e w0 ⟨rfl,hw0⟩
  subst hw0
  go_wp2_with fail
  refine DP.out.mono ?_
  rintro e w1 ⟨p,A1,c1,l,A2,c2,rfl,hok,hW,_,_,S1,S2,h1,_,_,_,_,d1⟩
  obtain⟨X,hX⟩:∃X,X=Vu Qy p 0:=⟨_,rfl⟩
  have E1:=HE.out.keep d1
  have hW':Ql p<=1048576:=Nat.le_trans hW (by decide)
  have WA:=Qd (fun W (hc:Qb [] w1 W)=>QaJ p _ S1 W hok hW' (h1.kz hc).1 (E1.keep hc))
  have WT:=Qd (fun(q:Int) W (hc:Qb [] w1 W)=>QcJ p _ S1 q W hok hW' (h1.kz hc).1 (E1.keep hc))
  have IS:=Qd (fun W (hc:Qb [] w1 W)=>QcE p _ S1 W hok hW' (h1.kz hc).1 (E1.keep hc))
  have RL:=Qd (fun(i:List Int) (ui us:Value) W (hc:Qb [] w1 W) (ri:Zj W i ui) (rs:Rd W W.heap.size (slots Vs) us)=>QgM (E1.keep hc) i KS hok hW' rs (h1.kz hc).rd ri.rd W (Qb.refl _ _))
  have ES:=Qd (fun W=>j6 W)
  have PS:=Qd (fun W (hc:Qb [] w1 W)=>QT p _ W.heap.size W (by have:=hok.1;omega) (h1.kz hc).rd (Nat.le_refl _))
  have CI:=Qd (fun(i j:List Int) (u v:Value) W (hu:Zj W i u) (hv:Zj W j v)=>ZJ i j u v W.heap.size W.heap.size W hu.rd hv.rd (Nat.le_refl _) (Nat.le_refl _))
  have FR:=Qd (fun(P:Fl->Bool) (i:List Int) (h:vY X nos P i)=>Qgv hok (by rw [<-hX];exact h))
  rw [<-hX] at WA WT IS
  have hsz:=hok.1
  have D1:=Qd d1
  clear hX h1 d1 E1 hW hW' hok DP
  go_wp2_with fail
  refine(WA.out _ (Qb.refl _ _)).mono ?_
  rintro e w2 ⟨v5,found,i5,rfl,hv5,d2,hw⟩
  have FB:Hid (∀(P:Fl->Bool) (j:List Int),vY X nos P j->found=true/\YY i5 j<=0):=Qd (fun P j ⟨k,_,hj⟩=>by
   rcases hw with ⟨h1,h2⟩|⟨_,_,h2⟩
   ·exact⟨h1,h2.2 _ ⟨k,rfl,hj⟩⟩
   ·exact absurd ⟨k,rfl,hj⟩ (h2 j))
  obtain⟨A5,c5,e5,_⟩:=id hv5
  subst e5
  have HV:=Qd hv5
  have D2:=Qd d2
  clear hv5 d2 WA
  rcases hw with ⟨rfl,hw⟩|⟨rfl,rfl,hw⟩
  ·obtain⟨k5,_,r5,t5⟩:=FR.out _ _ hw.1
   have hnot:¬ ∀i,¬vY X nos (fun _=>true) i:=fun h=>h _ hw.1
   clear hw
   go_wp2_with fail
   refine(IS.out _ D2.out).mono ?_
   rintro e w3 ⟨bs,rfl,hbi,d3⟩
   have hbs:bs=false:=by
    cases bs with
    |true=>exact absurd (hbi.1 rfl) hnot
    |false=>rfl
   clear hbi
   subst hbs
   have D3:=Qd (D2.out.tz d3)
   have V3:=Qd (HV.out.keep d3 Qc.nil)
   clear hnot d3 HV D2 IS
   go_wp2_with fail
   refine(ES.out _).mono ?_
   intro e w4 G4
   obtain⟨A4,c4,rfl,n4⟩:=G4.sl
   have D4:=Qd (D3.out.tz n4.chg)
   have V4:=Qd (V3.out.keep n4.chg Qc.nil)
   have R4:=n4.rd
   clear n4 D3 V3
   have RL4:=Qd (RL.out i5 _ _ w4 D4.out V4.out R4)
   obtain⟨q5,hq5⟩:∃q5,q5=QV i5 p 0 ⟨Vs,0⟩:=⟨_,rfl⟩
   rw [<-hq5] at RL4 r5 t5
   clear R4 hq5
   go_wp2_with fail
   refine RL4.out.mono ?_
   rintro e w5 ⟨B5,b5,rfl,_,d5⟩
   rw [r5,t5]
   have D5:=Qd (D4.out.tz d5)
   have V5:=Qd (V4.out.keep d5 Qc.nil)
   clear d5 D4 V4 RL4 r5 t5
   go_upto_region 11 with fail
   refine Qo fun w6 hw6=>?_
   have d6:Qb [] w5 w6:=by rw [hw6];exact Qb.now
   have D6:=Qd (D5.out.tz d6)
   have V6:=Qd (V5.out.keep d6 Qc.nil)
   clear hw6 d6 D5 V5
   go_wp2_with fail
   go_loopw [10] (fun v10 wr=>∃k:Nat,k<=Qe p/\v10= .int .i64 k/\Qb [] w6 wr) (fun v10 _=>match v10 with| .int .i64 z=>(Qe p:Int).toNat-z.toNat|_=>0)
   case atStart=>exact⟨0,Nat.zero_le _,rfl,Qb.refl _ _⟩
   case round=>
    obtain⟨k,hk,rfl,hc⟩:=hrel
    have D7:=Qd (D6.out.tz hc)
    have V7:=Qd (V6.out.keep hc Qc.nil)
    have C7:=Qd hc
    clear hc
    by_cases hlt:k<Qe p
    case neg=>
     go_wp2_with (first|(go_at_call 13;refine(PS.out _ D7.out).mono ?_;rintro e w7 ⟨rfl,d7⟩)|fail)
     go_ret
     exact⟨rfl,Qb.to (D1.out.tz (D7.out.tz d7))⟩
    case pos=>
     go_upto_region 14 with (first|(go_at_call 13;refine(PS.out _ D7.out).mono ?_;rintro e w7 ⟨rfl,d7⟩)|fail)
     have D8:=Qd (D7.out.tz d7)
     have V8:=Qd (V7.out.keep d7 Qc.nil)
     have C8:=Qd (C7.out.tz d7)
     clear d7 D7 V7 C7
     go_wp2_with fail
     refine(WT.out k _ D8.out).mono ?_
     rintro e w8 ⟨v8,is,i8,rfl,hv8,d8,hw8⟩
     have D9:=Qd (D8.out.tz d8)
     have V9:=Qd (V8.out.keep d8 Qc.nil)
     have C9:=Qd (C8.out.tz d8)
     obtain⟨A8,c8,e8,_⟩:=id hv8
     subst e8
     have I9:=Qd hv8
     clear d8 D8 V8 C8 hv8
     go_wp2_with fail
     refine(ES.out _).mono ?_
     intro e w9 G9
     obtain⟨A9,c9,rfl,n9⟩:=G9.sl
     have DA:=Qd (D9.out.tz n9.chg)
     have VA:=Qd (V9.out.keep n9.chg Qc.nil)
     have CA:=Qd (C9.out.tz n9.chg)
     have IA:=Qd (I9.out.keep n9.chg Qc.nil)
     have R9:=n9.rd
     clear n9 D9 V9 C9 I9
     have RL9:=Qd (RL.out i8 _ _ w9 DA.out IA.out R9)
     obtain⟨q8,hq8⟩:∃q8,q8=QV i8 p 0 ⟨Vs,0⟩:=⟨_,rfl⟩
     rw [<-hq8] at RL9
     clear R9
     rcases hw8 with ⟨rfl,h8⟩|⟨rfl,rfl,h8⟩
     ·obtain⟨k8,hk8,r8,t8⟩:=FR.out _ _ h8.1
      obtain⟨hf8,hle8⟩:=FB.out _ _ h8.1
      rw [<-hq8] at r8 t8
      have hk8:k8.1=(k:Int):=by simpa using hk8
      rw [hk8] at r8
      clear hq8 h8
      go_wp2_with fail
      refine RL9.out.mono ?_
      rintro e wa ⟨Ba,ca,rfl,_,da⟩
      rw [r8,t8]
      have DB:=Qd (DA.out.tz da)
      have VB:=Qd (VA.out.keep da Qc.nil)
      have CB:=Qd (CA.out.tz da)
      have IB:=Qd (IA.out.keep da Qc.nil)
      clear da DA VA CA IA RL9 r8 t8
      go_upto_region 16 with fail
      refine Qo fun wb hwb=>?_
      have db:Qb [] wa wb:=by rw [hwb];exact Qb.now
      have EB:QY wb wa.heap.size [.int .i64 1,.int .i64 k,.int .i64 k8.2.1,.int .i64 k8.2.2]:=by rw [hwb];exact QY.new wa _ _
      have CIb:=Qd (CI.out i5 i8 _ _ wb (VB.out.keep db Qc.nil) (IB.out.keep db Qc.nil))
      have CC:=Qd (CB.out.tz db)
      have ob:=EB.o4
      have fb:=EB.f
      clear hwb DB VB IB CB
      go_wp2_with (first|(go_at_call 15;refine CIb.out.mono ?_;rintro e wc ⟨rfl,dc⟩)|fail)
      go_roundw
      case rel=>exact⟨k+1,by omega,rfl,CC.out.tz dc⟩
      case measure=>simp only;omega
     ·clear hq8 h8
      go_wp2_with fail
      refine RL9.out.mono ?_
      rintro e wa ⟨Ba,ca,rfl,_,da⟩
      have CB:=Qd ((CA.out.tz da).alloc (.cells #[.int .i64 q8.2.code,.int .i64 q8.2.place,.int .i64 q8.2.want,.int .i64 q8.2.had] 32))
      clear da DA VA CA IA RL9
      go_wp2_with fail
      go_roundw
      case rel=>exact⟨k+1,by omega,rfl,CB.out⟩
      case measure=>simp only;omega
  ·have hyes:∀i,¬vY X nos (fun _=>true) i:=hw
   clear hw
   go_wp2_with fail
   refine(IS.out _ D2.out).mono ?_
   rintro e w6 ⟨bs,rfl,hbi,d3⟩
   have hbs:=hbi.2 hyes
   clear hbi
   subst hbs
   have D6:=Qd (D2.out.tz d3)
   have V6:=Qd (HV.out.keep d3 Qc.nil)
   clear hyes d3 HV D2 IS
   go_wp2_with fail
   go_loopw [10] (fun v10 wr=>∃k:Nat,k<=Qe p/\v10= .int .i64 k/\Qb [] w6 wr) (fun v10 _=>match v10 with| .int .i64 z=>(Qe p:Int).toNat-z.toNat|_=>0)
   case atStart=>exact⟨0,Nat.zero_le _,rfl,Qb.refl _ _⟩
   case round=>
    obtain⟨k,hk,rfl,hc⟩:=hrel
    have D7:=Qd (D6.out.tz hc)
    have V7:=Qd (V6.out.keep hc Qc.nil)
    have C7:=Qd hc
    clear hc
    by_cases hlt:k<Qe p
    case neg=>
     go_wp2_with (first|(go_at_call 13;refine(PS.out _ D7.out).mono ?_;rintro e w7 ⟨rfl,d7⟩)|fail)
     go_ret
     exact⟨rfl,Qb.to (D1.out.tz (D7.out.tz d7))⟩
    case pos=>
     go_upto_region 14 with (first|(go_at_call 13;refine(PS.out _ D7.out).mono ?_;rintro e w7 ⟨rfl,d7⟩)|fail)
     have D8:=Qd (D7.out.tz d7)
     have V8:=Qd (V7.out.keep d7 Qc.nil)
     have C8:=Qd (C7.out.tz d7)
     clear d7 D7 V7 C7
     go_wp2_with fail
     refine(WT.out k _ D8.out).mono ?_
     rintro e w8 ⟨v8,is,i8,rfl,hv8,d8,hw8⟩
     have D9:=Qd (D8.out.tz d8)
     have V9:=Qd (V8.out.keep d8 Qc.nil)
     have C9:=Qd (C8.out.tz d8)
     obtain⟨A8,c8,e8,_⟩:=id hv8
     subst e8
     have I9:=Qd hv8
     clear d8 D8 V8 C8 hv8
     go_wp2_with fail
     refine(ES.out _).mono ?_
     intro e w9 G9
     obtain⟨A9,c9,rfl,n9⟩:=G9.sl
     have DA:=Qd (D9.out.tz n9.chg)
     have VA:=Qd (V9.out.keep n9.chg Qc.nil)
     have CA:=Qd (C9.out.tz n9.chg)
     have IA:=Qd (I9.out.keep n9.chg Qc.nil)
     have R9:=n9.rd
     clear n9 D9 V9 C9 I9
     have RL9:=Qd (RL.out i8 _ _ w9 DA.out IA.out R9)
     obtain⟨q8,hq8⟩:∃q8,q8=QV i8 p 0 ⟨Vs,0⟩:=⟨_,rfl⟩
     rw [<-hq8] at RL9
     clear R9
     rcases hw8 with ⟨rfl,h8⟩|⟨rfl,rfl,h8⟩
     ·obtain⟨k8,hk8,r8,t8⟩:=FR.out _ _ h8.1
      obtain⟨hf8,hle8⟩:=FB.out _ _ h8.1
      cases hf8
     ·clear hq8 h8
      go_wp2_with fail
      refine RL9.out.mono ?_
      rintro e wa ⟨Ba,ca,rfl,_,da⟩
      have CB:=Qd ((CA.out.tz da).alloc (.cells #[.int .i64 q8.2.code,.int .i64 q8.2.place,.int .i64 q8.2.want,.int .i64 q8.2.had] 32))
      clear da DA VA CA IA RL9
      go_wp2_with fail
      go_roundw
      case rel=>exact⟨k+1,by omega,rfl,CB.out⟩
      case measure=>simp only;omega
end Go.Proofs.YtlnkgcdeljhjcaaGreatDoor
