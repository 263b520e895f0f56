/- isSlot of the program. Conditions: as stated. -/
import Derived.Test.YtfjhdnjlhjimeaaGreatDoorIsActs
set_option maxRecDepth 100000
set_option maxHeartbeats 8000000
namespace Go.Proofs.YtfjhdnjlhjimeaaGreatDoor
open Go.RowKit

theorem XV (n:Int) (w:World):
    Calls Tryz.prog 102 #[.int .i64 n] w (QZ (QE n) w):=by
  go_enter Tryz.func102,Tryz.ntmps102
  go_wp2_with fail
  all_goals(go_ret;refine⟨_,rfl,?_,rfl⟩;unfold QE;simp;try omega)
theorem QbF (a:Qa) (A1 A2:Option Addr) (c1 c2:Nat) (w:World) (h:a.op=1) (hk:a.call.key.size<=1048576) (ht:a.call.text.size<=1048575) (hE:KP w):
    Calls Tryz.prog 70 #[.agg #[.int .i64 a.op,.int .i64 a.slot,.int .i64 a.other,.string a.word,.string a.call.method,.string a.call.key,.int .i64 a.call.value,.string a.call.text,.int .i64 a.face,.slice A1 a.A.length c1,.slice A2 a.B.length c2]] w (Qg a.ok w):=by
  have IC:=Qb (fun W=>QU a.call W hk)
  have PC:=Qb (fun W (hc:Qc [] w W)=>QF a.call.text W ht (hE.keep hc))
  have HA:=Qb (Qg2 h)
  clear hk ht hE
  obtain⟨n1,n2,n3,n4,n5,n6,n7,n8,n9,n10⟩:=QeW h
  clear h
  go_enter Tryz.func70,Tryz.ntmps70
  go_wp2_with fail
  obtain⟨wb,hwb,db,sb,BX⟩:=Xt a A1 A2 c1 c2 w
  rw [<-hwb]
  clear hwb
  obtain⟨p0,p1,p2,p3,p4,p5,p6,p7,p8,p9,p10⟩:=BX.out _ (B0 [] wb)
  refine(XV a.slot _).mono ?_
  rintro e w3 ⟨sl,rfl,hsl,rfl⟩
  have HS:Hid (sl=true↔QE a.slot):=hsl
  have d3:Qc [] w3 w3:=B0 [] w3
  clear hsl
  cases sl
  all_goals
    go_wp2_with fail
    all_goals first
      |exact XZ (d3)
      | (refine(ZT a.word _).mono ?_
         rintro e w5 ⟨he,rfl⟩
         subst he
         obtain⟨kb,hkb⟩:∃b,b=(Qo a.word).isSome:=⟨_,rfl⟩
         have HK:Hid (kb=true↔Qo a.word≠none):=by show _↔_;rw [hkb];cases Qo a.word<;>simp
         obtain⟨kz,hkz⟩:∃z,z=(Qo a.word).getD 0:=⟨_,rfl⟩
         rw [<-hkb, <-hkz]
         clear hkb hkz
         cases kb
         all_goals
           go_wp2_with fail
           all_goals first
             |exact XZ (B0 [] _)
             |(refine(ZY a A1 A2 c1 c2 true false true false false false false JE rfl _).mono ?_;rintro e w4 ⟨t,rfl,ht4,c4⟩;go_wp2_with fail;all_goals exact XZ ((B0 [] _).tz c4)))
theorem Qbv (a:Qa) (A1 A2:Option Addr) (c1 c2:Nat) (w:World) (h:a.op=3) (hk:a.call.key.size<=1048576) (ht:a.call.text.size<=1048575) (hE:KP w):
    Calls Tryz.prog 70 #[.agg #[.int .i64 a.op,.int .i64 a.slot,.int .i64 a.other,.string a.word,.string a.call.method,.string a.call.key,.int .i64 a.call.value,.string a.call.text,.int .i64 a.face,.slice A1 a.A.length c1,.slice A2 a.B.length c2]] w (Qg a.ok w):=by
  have IC:=Qb (fun W=>QU a.call W hk)
  have PC:=Qb (fun W (hc:Qc [] w W)=>QF a.call.text W ht (hE.keep hc))
  have HA:=Qb (Qgg (.inl h))
  clear hk ht hE
  obtain⟨n1,n2,n3,n4,n5,n6,n7,n8,n9,n10⟩:=Qee h
  clear h
  go_enter Tryz.func70,Tryz.ntmps70
  go_wp2_with fail
  obtain⟨wb,hwb,db,sb,BX⟩:=Xt a A1 A2 c1 c2 w
  rw [<-hwb]
  clear hwb
  obtain⟨p0,p1,p2,p3,p4,p5,p6,p7,p8,p9,p10⟩:=BX.out _ (B0 [] wb)
  refine(XV a.slot _).mono ?_
  rintro e w3 ⟨sl,rfl,hsl,rfl⟩
  have HS:Hid (sl=true↔QE a.slot):=hsl
  have d3:Qc [] w3 w3:=B0 [] w3
  clear hsl
  cases sl
  all_goals
    go_wp2_with fail
    all_goals first
      |exact XZ (d3)
      |(refine(ZY a A1 A2 c1 c2 true false false false false false false Jq rfl _).mono ?_;rintro e w4 ⟨t,rfl,ht4,c4⟩;go_wp2_with fail;all_goals exact XZ ((d3).tz c4))
theorem QbK (a:Qa) (A1 A2:Option Addr) (c1 c2:Nat) (w:World) (h:a.op=5) (hk:a.call.key.size<=1048576) (ht:a.call.text.size<=1048575) (hE:KP w):
    Calls Tryz.prog 70 #[.agg #[.int .i64 a.op,.int .i64 a.slot,.int .i64 a.other,.string a.word,.string a.call.method,.string a.call.key,.int .i64 a.call.value,.string a.call.text,.int .i64 a.face,.slice A1 a.A.length c1,.slice A2 a.B.length c2]] w (Qg a.ok w):=by
  have IC:=Qb (fun W=>QU a.call W hk)
  have PC:=Qb (fun W (hc:Qc [] w W)=>QF a.call.text W ht (hE.keep hc))
  have HA:=Qb (Qgg (.inr h))
  clear hk ht hE
  obtain⟨n1,n2,n3,n4,n5,n6,n7,n8,n9,n10⟩:=Qes h
  clear h
  go_enter Tryz.func70,Tryz.ntmps70
  go_wp2_with fail
  obtain⟨wb,hwb,db,sb,BX⟩:=Xt a A1 A2 c1 c2 w
  rw [<-hwb]
  clear hwb
  obtain⟨p0,p1,p2,p3,p4,p5,p6,p7,p8,p9,p10⟩:=BX.out _ (B0 [] wb)
  refine(XV a.slot _).mono ?_
  rintro e w3 ⟨sl,rfl,hsl,rfl⟩
  have HS:Hid (sl=true↔QE a.slot):=hsl
  have d3:Qc [] w3 w3:=B0 [] w3
  clear hsl
  cases sl
  all_goals
    go_wp2_with fail
    all_goals first
      |exact XZ (d3)
      |(refine(ZY a A1 A2 c1 c2 true false false false false false false Jq rfl _).mono ?_;rintro e w4 ⟨t,rfl,ht4,c4⟩;go_wp2_with fail;all_goals exact XZ ((d3).tz c4))
theorem Qbu (a:Qa) (A1 A2:Option Addr) (c1 c2:Nat) (w:World) (h:a.op=2) (hk:a.call.key.size<=1048576) (ht:a.call.text.size<=1048575) (hE:KP w):
    Calls Tryz.prog 70 #[.agg #[.int .i64 a.op,.int .i64 a.slot,.int .i64 a.other,.string a.word,.string a.call.method,.string a.call.key,.int .i64 a.call.value,.string a.call.text,.int .i64 a.face,.slice A1 a.A.length c1,.slice A2 a.B.length c2]] w (Qg a.ok w):=by
  have IC:=Qb (fun W=>QU a.call W hk)
  have PC:=Qb (fun W (hc:Qc [] w W)=>QF a.call.text W ht (hE.keep hc))
  have HA:=Qb (Qg0 h)
  clear hk ht hE
  obtain⟨n1,n2,n3,n4,n5,n6,n7,n8,n9,n10⟩:=QeO h
  clear h
  go_enter Tryz.func70,Tryz.ntmps70
  go_wp2_with fail
  obtain⟨wb,hwb,db,sb,BX⟩:=Xt a A1 A2 c1 c2 w
  rw [<-hwb]
  clear hwb
  obtain⟨p0,p1,p2,p3,p4,p5,p6,p7,p8,p9,p10⟩:=BX.out _ (B0 [] wb)
  refine(XV a.slot _).mono ?_
  rintro e w3 ⟨sl,rfl,hsl,rfl⟩
  have HS:Hid (sl=true↔QE a.slot):=hsl
  have d3:Qc [] w3 w3:=B0 [] w3
  clear hsl
  cases sl
  all_goals
    go_wp2_with fail
    all_goals first
      |exact XZ (d3)
      | (refine(Ya a.word _).mono ?_
         rintro e w5 ⟨he,rfl⟩
         subst he
         obtain⟨kb,hkb⟩:∃b,b=(Qj a.word).isSome:=⟨_,rfl⟩
         have HK:Hid (kb=true↔Qj a.word≠none):=by show _↔_;rw [hkb];cases Qj a.word<;>simp
         obtain⟨kz,hkz⟩:∃z,z=((Qj a.word).getD (0,0)).1:=⟨_,rfl⟩
         obtain⟨ky,hky⟩:∃z,z=((Qj a.word).getD (0,0)).2:=⟨_,rfl⟩
         rw [<-hkb, <-hkz, <-hky]
         clear hkb hkz hky
         cases kb
         all_goals
           go_wp2_with fail
           all_goals first
             |exact XZ (B0 [] _)
             |(refine(ZY a A1 A2 c1 c2 true false true false false false false JE rfl _).mono ?_;rintro e w4 ⟨t,rfl,ht4,c4⟩;go_wp2_with fail;all_goals exact XZ ((B0 [] _).tz c4)))
theorem Qa7 (a:Qa) (A1 A2:Option Addr) (c1 c2:Nat) (w:World) (h:a.op=4) (hk:a.call.key.size<=1048576) (ht:a.call.text.size<=1048575) (hE:KP w):
    Calls Tryz.prog 70 #[.agg #[.int .i64 a.op,.int .i64 a.slot,.int .i64 a.other,.string a.word,.string a.call.method,.string a.call.key,.int .i64 a.call.value,.string a.call.text,.int .i64 a.face,.slice A1 a.A.length c1,.slice A2 a.B.length c2]] w (Qg a.ok w):=by
  have IC:=Qb (fun W=>QU a.call W hk)
  have PC:=Qb (fun W (hc:Qc [] w W)=>QF a.call.text W ht (hE.keep hc))
  have HA:=Qb (Qg6 h)
  clear hk ht hE
  obtain⟨n1,n2,n3,n4,n5,n6,n7,n8,n9,n10⟩:=Qef h
  clear h
  go_enter Tryz.func70,Tryz.ntmps70
  go_wp2_with fail
  obtain⟨wb,hwb,db,sb,BX⟩:=Xt a A1 A2 c1 c2 w
  rw [<-hwb]
  clear hwb
  obtain⟨p0,p1,p2,p3,p4,p5,p6,p7,p8,p9,p10⟩:=BX.out _ (B0 [] wb)
  refine(XV a.slot _).mono ?_
  rintro e w3 ⟨sl,rfl,hsl,rfl⟩
  have HS:Hid (sl=true↔QE a.slot):=hsl
  have d3:Qc [] w3 w3:=B0 [] w3
  clear hsl
  cases sl
  all_goals
    go_wp2_with fail
    all_goals first
      |exact XZ (d3)
      | (refine(XV a.other _).mono ?_
         rintro e w5 ⟨t5,rfl,ht5,rfl⟩
         have hh5:t5=true↔QE a.other:=ht5;clear ht5
         cases t5
         all_goals
           simp at hh5
           go_wp2_with fail
           all_goals first
             |exact XZ (d3)
             |(refine(ZY a A1 A2 c1 c2 true true false false false false false Gy rfl _).mono ?_;rintro e w4 ⟨t,rfl,ht4,c4⟩;go_wp2_with fail;all_goals exact XZ ((d3).tz c4)))
theorem QbC (a:Qa) (A1 A2:Option Addr) (c1 c2:Nat) (w:World) (h:a.op=6) (hk:a.call.key.size<=1048576) (ht:a.call.text.size<=1048575) (hE:KP w):
    Calls Tryz.prog 70 #[.agg #[.int .i64 a.op,.int .i64 a.slot,.int .i64 a.other,.string a.word,.string a.call.method,.string a.call.key,.int .i64 a.call.value,.string a.call.text,.int .i64 a.face,.slice A1 a.A.length c1,.slice A2 a.B.length c2]] w (Qg a.ok w):=by
  have IC:=Qb (fun W=>QU a.call W hk)
  have PC:=Qb (fun W (hc:Qc [] w W)=>QF a.call.text W ht (hE.keep hc))
  have HA:=Qb (QgX h)
  clear hk ht hE
  obtain⟨n1,n2,n3,n4,n5,n6,n7,n8,n9,n10⟩:=Qe4 h
  clear h
  go_enter Tryz.func70,Tryz.ntmps70
  go_wp2_with fail
  obtain⟨wb,hwb,db,sb,BX⟩:=Xt a A1 A2 c1 c2 w
  rw [<-hwb]
  clear hwb
  obtain⟨p0,p1,p2,p3,p4,p5,p6,p7,p8,p9,p10⟩:=BX.out _ (B0 [] wb)
  refine(XV a.slot _).mono ?_
  rintro e w3 ⟨sl,rfl,hsl,rfl⟩
  have HS:Hid (sl=true↔QE a.slot):=hsl
  have d3:Qc [] w3 w3:=B0 [] w3
  clear hsl
  cases sl
  all_goals
    go_wp2_with fail
    all_goals first
      |exact XZ (d3)
      | (refine(Wr a.face _).mono ?_
         rintro e w5 ⟨t5,rfl,hh5,rfl⟩
         skip
         cases t5
         all_goals
           simp at hh5
           go_wp2_with fail
           all_goals first
             |exact XZ (d3)
             |(refine(ZY a A1 A2 c1 c2 true false false false true false false qy rfl _).mono ?_;rintro e w4 ⟨t,rfl,ht4,c4⟩;go_wp2_with fail;all_goals exact XZ ((d3).tz c4)))
theorem QbN (a:Qa) (A1 A2:Option Addr) (c1 c2:Nat) (w:World) (h:a.op=7) (hk:a.call.key.size<=1048576) (ht:a.call.text.size<=1048575) (hE:KP w):
    Calls Tryz.prog 70 #[.agg #[.int .i64 a.op,.int .i64 a.slot,.int .i64 a.other,.string a.word,.string a.call.method,.string a.call.key,.int .i64 a.call.value,.string a.call.text,.int .i64 a.face,.slice A1 a.A.length c1,.slice A2 a.B.length c2]] w (Qg a.ok w):=by
  have IC:=Qb (fun W=>QU a.call W hk)
  have PC:=Qb (fun W (hc:Qc [] w W)=>QF a.call.text W ht (hE.keep hc))
  have HA:=Qb (show a.ok↔QE a.slot/\(QS a.call/\(a.call.text.toList=[] ∨Qy a.call.text≠none))/\Qz a false false true false false false from by rw [Qg4 h];unfold US;rw [Yz])
  clear hk ht hE
  obtain⟨n1,n2,n3,n4,n5,n6,n7,n8,n9,n10⟩:=Qfd h
  clear h
  go_enter Tryz.func70,Tryz.ntmps70
  go_wp2_with fail
  obtain⟨wb,hwb,db,sb,BX⟩:=Xt a A1 A2 c1 c2 w
  rw [<-hwb]
  clear hwb
  obtain⟨p0,p1,p2,p3,p4,p5,p6,p7,p8,p9,p10⟩:=BX.out _ (B0 [] wb)
  refine(XV a.slot _).mono ?_
  rintro e w3 ⟨sl,rfl,hsl,rfl⟩
  have HS:Hid (sl=true↔QE a.slot):=hsl
  have d3:Qc [] w3 w3:=B0 [] w3
  clear hsl
  cases sl
  all_goals
    go_wp2_with fail
    all_goals first
      |exact XZ (d3)
      | (refine(IC.out _).mono ?_
         rintro e w6 ⟨t6,rfl,hh6,k6⟩
         have d6:Qc [] w3 w6:=(B0 [] _).tz k6
         (try clear p0 p1 p2 p3 p4 p5 p6 p7 p8 p9 p10)
         obtain⟨p0,p1,p2,p3,p4,p5,p6,p7,p8,p9,p10⟩:=BX.out _ d6
         cases t6
         all_goals
           simp at hh6
           go_wp2_with fail
           all_goals first
             |exact XZ (d6)
             |(refine(ZY a A1 A2 c1 c2 true false false true false false false JA rfl _).mono ?_;rintro e w4 ⟨t,rfl,ht4,c4⟩;go_wp2_with fail;all_goals exact XZ ((d6).tz c4)))
      | (refine(PC.out _ db).mono ?_
         rintro e w5 ⟨l5,X5,cap5,_,rfl,n5⟩
         have d5:Qc [] w3 w5:=n5.chg
         clear n5 p0 p1 p2 p3 p4 p5 p6 p7 p8 p9 p10
         obtain⟨p0,p1,p2,p3,p4,p5,p6,p7,p8,p9,p10⟩:=BX.out _ d5
         obtain⟨ok,hok⟩:∃ok,ok=(Qy a.call.text).isSome:=⟨_,rfl⟩
         have HT:Hid (Qy a.call.text≠none↔ok=true):=by show _↔_;rw [hok];cases Qy a.call.text<;>simp
         rw [<-hok]
         clear hok
         cases ok
         all_goals
           go_wp2_with fail
           all_goals first
             |exact XZ (d5)
             | (refine(IC.out _).mono ?_
                rintro e w6 ⟨t6,rfl,hh6,k6⟩
                have d6:Qc [] w3 w6:=(d5).tz k6
                (try clear p0 p1 p2 p3 p4 p5 p6 p7 p8 p9 p10)
                obtain⟨p0,p1,p2,p3,p4,p5,p6,p7,p8,p9,p10⟩:=BX.out _ d6
                cases t6
                all_goals
                  simp at hh6
                  go_wp2_with fail
                  all_goals first
                    |exact XZ (d6)
                    |(refine(ZY a A1 A2 c1 c2 true false false true false false false JA rfl _).mono ?_;rintro e w4 ⟨t,rfl,ht4,c4⟩;go_wp2_with fail;all_goals exact XZ ((d6).tz c4))))
theorem jT (a:Qa) (A1 A2:Option Addr) (c1 c2:Nat) (w:World) (h:¬(1<=a.op/\a.op<=10)/\xF a.op false false false false false false false false false false) (hk:a.call.key.size<=1048576) (ht:a.call.text.size<=1048575) (hE:KP w):
    Calls Tryz.prog 70 #[.agg #[.int .i64 a.op,.int .i64 a.slot,.int .i64 a.other,.string a.word,.string a.call.method,.string a.call.key,.int .i64 a.call.value,.string a.call.text,.int .i64 a.face,.slice A1 a.A.length c1,.slice A2 a.B.length c2]] w (Qg a.ok w):=by
  have IC:=Qb (fun W=>QU a.call W hk)
  have PC:=Qb (fun W (hc:Qc [] w W)=>QF a.call.text W ht (hE.keep hc))
  have HA:=Qb (show ¬a.ok from fun k=>h.1 (QgQ k))
  clear hk ht hE
  obtain⟨_,n1,n2,n3,n4,n5,n6,n7,n8,n9,n10⟩:=h
  go_enter Tryz.func70,Tryz.ntmps70
  go_wp2_with fail
  obtain⟨wb,hwb,db,sb,BX⟩:=Xt a A1 A2 c1 c2 w
  rw [<-hwb]
  clear hwb
  obtain⟨p0,p1,p2,p3,p4,p5,p6,p7,p8,p9,p10⟩:=BX.out _ (B0 [] wb)
  refine(XV a.slot _).mono ?_
  rintro e w3 ⟨sl,rfl,hsl,rfl⟩
  have HS:Hid (sl=true↔QE a.slot):=hsl
  have d3:Qc [] w3 w3:=B0 [] w3
  clear hsl
  cases sl
  all_goals
    go_wp2_with fail
    go_ret
    exact Qg.of ⟨fun h=>by simp at h,fun h=>absurd h HA.out⟩ db
theorem Qck (a:Qa) (A1 A2:Option Addr) (c1 c2:Nat) (w:World) (h:a.op=8) (hk:a.call.key.size<=1048576) (ht:a.call.text.size<=1048575) (hE:KP w) (ia:∀W,Qc [] w W->Calls Tryz.prog 42 #[.slice A1 a.A.length c1] W (Qg (Jm a.A) W)) (ib:∀W,Qc [] w W->Calls Tryz.prog 42 #[.slice A2 a.B.length c2] W (Qg (Jm a.B) W)):
    Calls Tryz.prog 70 #[.agg #[.int .i64 a.op,.int .i64 a.slot,.int .i64 a.other,.string a.word,.string a.call.method,.string a.call.key,.int .i64 a.call.value,.string a.call.text,.int .i64 a.face,.slice A1 a.A.length c1,.slice A2 a.B.length c2]] w (Qg a.ok w):=by
  have IC:=Qb (fun W=>QU a.call W hk)
  have PC:=Qb (fun W (hc:Qc [] w W)=>QF a.call.text W ht (hE.keep hc))
  have HA:=Qb (show a.ok↔QE a.slot/\(a.slot=0/\Qz a false false false false true true)/\Jm a.A/\Jm a.B from(Qf8 (.inl h)).trans ⟨fun k=>⟨by rw [k.1.1];exact Gm,k⟩,fun k=>k.2⟩)
  have IA:=Qb ia
  have IB:=Qb ib
  clear ia ib
  clear hk ht hE
  obtain⟨n1,n2,n3,n4,n5,n6,n7,n8,n9,n10⟩:=Qd1 h
  clear h
  go_enter Tryz.func70,Tryz.ntmps70
  go_wp2_with fail
  obtain⟨wb,hwb,db,sb,BX⟩:=Xt a A1 A2 c1 c2 w
  rw [<-hwb]
  clear hwb
  obtain⟨p0,p1,p2,p3,p4,p5,p6,p7,p8,p9,p10⟩:=BX.out _ (B0 [] wb)
  refine(XV a.slot _).mono ?_
  rintro e w3 ⟨sl,rfl,hsl,rfl⟩
  have HS:Hid (sl=true↔QE a.slot):=hsl
  have d3:Qc [] w3 w3:=B0 [] w3
  clear hsl
  cases sl
  all_goals
    go_wp2_with fail
    all_goals first
      |exact XZ (d3)
      | (refine(ZY a A1 A2 c1 c2 false false false false false true true GR rfl _).mono ?_
         rintro e w4 ⟨t,rfl,ht4,k4⟩
         have d4:Qc [] w3 w4:=k4
         clear p0 p1 p2 p3 p4 p5 p6 p7 p8 p9 p10
         obtain⟨p0,p1,p2,p3,p4,p5,p6,p7,p8,p9,p10⟩:=BX.out _ d4
         cases t
         all_goals
           simp at ht4
           go_wp2_with fail
           all_goals first
             |exact XZ (d4)
             | (refine(IA.out _ (db.tz d4)).mono ?_
                rintro e w5 ⟨t5,rfl,hh5,k5⟩
                have d5:Qc [] w3 w5:=d4.tz k5
                clear p0 p1 p2 p3 p4 p5 p6 p7 p8 p9 p10
                obtain⟨p0,p1,p2,p3,p4,p5,p6,p7,p8,p9,p10⟩:=BX.out _ d5
                cases t5
                all_goals
                  simp at hh5
                  go_wp2_with fail
                  all_goals first
                    |exact XZ (d5)
                    |(refine(IB.out _ (db.tz d5)).mono ?_;rintro e w6 ⟨t6,rfl,ht6,k6⟩;go_wp2_with fail;all_goals exact XZ (d5.tz k6))))
theorem Qao (a:Qa) (A1 A2:Option Addr) (c1 c2:Nat) (w:World) (h:a.op=10) (hk:a.call.key.size<=1048576) (ht:a.call.text.size<=1048575) (hE:KP w) (ia:∀W,Qc [] w W->Calls Tryz.prog 42 #[.slice A1 a.A.length c1] W (Qg (Jm a.A) W)) (ib:∀W,Qc [] w W->Calls Tryz.prog 42 #[.slice A2 a.B.length c2] W (Qg (Jm a.B) W)):
    Calls Tryz.prog 70 #[.agg #[.int .i64 a.op,.int .i64 a.slot,.int .i64 a.other,.string a.word,.string a.call.method,.string a.call.key,.int .i64 a.call.value,.string a.call.text,.int .i64 a.face,.slice A1 a.A.length c1,.slice A2 a.B.length c2]] w (Qg a.ok w):=by
  have IC:=Qb (fun W=>QU a.call W hk)
  have PC:=Qb (fun W (hc:Qc [] w W)=>QF a.call.text W ht (hE.keep hc))
  have HA:=Qb (show a.ok↔QE a.slot/\(a.slot=0/\Qz a false false false false true true)/\Jm a.A/\Jm a.B from(Qf8 (.inr h)).trans ⟨fun k=>⟨by rw [k.1.1];exact Gm,k⟩,fun k=>k.2⟩)
  have IA:=Qb ia
  have IB:=Qb ib
  clear ia ib
  clear hk ht hE
  obtain⟨n1,n2,n3,n4,n5,n6,n7,n8,n9,n10⟩:=QcG h
  clear h
  go_enter Tryz.func70,Tryz.ntmps70
  go_wp2_with fail
  obtain⟨wb,hwb,db,sb,BX⟩:=Xt a A1 A2 c1 c2 w
  rw [<-hwb]
  clear hwb
  obtain⟨p0,p1,p2,p3,p4,p5,p6,p7,p8,p9,p10⟩:=BX.out _ (B0 [] wb)
  refine(XV a.slot _).mono ?_
  rintro e w3 ⟨sl,rfl,hsl,rfl⟩
  have HS:Hid (sl=true↔QE a.slot):=hsl
  have d3:Qc [] w3 w3:=B0 [] w3
  clear hsl
  cases sl
  all_goals
    go_wp2_with fail
    all_goals first
      |exact XZ (d3)
      | (refine(ZY a A1 A2 c1 c2 false false false false false true true GR rfl _).mono ?_
         rintro e w4 ⟨t,rfl,ht4,k4⟩
         have d4:Qc [] w3 w4:=k4
         clear p0 p1 p2 p3 p4 p5 p6 p7 p8 p9 p10
         obtain⟨p0,p1,p2,p3,p4,p5,p6,p7,p8,p9,p10⟩:=BX.out _ d4
         cases t
         all_goals
           simp at ht4
           go_wp2_with fail
           all_goals first
             |exact XZ (d4)
             | (refine(IA.out _ (db.tz d4)).mono ?_
                rintro e w5 ⟨t5,rfl,hh5,k5⟩
                have d5:Qc [] w3 w5:=d4.tz k5
                clear p0 p1 p2 p3 p4 p5 p6 p7 p8 p9 p10
                obtain⟨p0,p1,p2,p3,p4,p5,p6,p7,p8,p9,p10⟩:=BX.out _ d5
                cases t5
                all_goals
                  simp at hh5
                  go_wp2_with fail
                  all_goals first
                    |exact XZ (d5)
                    |(refine(IB.out _ (db.tz d5)).mono ?_;rintro e w6 ⟨t6,rfl,ht6,k6⟩;go_wp2_with fail;all_goals exact XZ (d5.tz k6))))
theorem QbB (a:Qa) (A1 A2:Option Addr) (c1 c2:Nat) (w:World) (h:a.op=9) (hk:a.call.key.size<=1048576) (ht:a.call.text.size<=1048575) (hE:KP w) (ia:∀W,Qc [] w W->Calls Tryz.prog 42 #[.slice A1 a.A.length c1] W (Qg (Jm a.A) W)) (ib:∀W,Qc [] w W->Calls Tryz.prog 42 #[.slice A2 a.B.length c2] W (Qg (Jm a.B) W)):
    Calls Tryz.prog 70 #[.agg #[.int .i64 a.op,.int .i64 a.slot,.int .i64 a.other,.string a.word,.string a.call.method,.string a.call.key,.int .i64 a.call.value,.string a.call.text,.int .i64 a.face,.slice A1 a.A.length c1,.slice A2 a.B.length c2]] w (Qg a.ok w):=by
  have IC:=Qb (fun W=>QU a.call W hk)
  have PC:=Qb (fun W (hc:Qc [] w W)=>QF a.call.text W ht (hE.keep hc))
  have HA:=Qb (show a.ok↔QE a.slot/\(a.slot=0/\Qz a false false false false true false)/\Jm a.A from(Qg5 h).trans ⟨fun k=>⟨by rw [k.1.1];exact Gm,k⟩,fun k=>k.2⟩)
  have IA:=Qb ia
  have IB:=Qb ib
  clear ia ib
  clear hk ht hE
  obtain⟨n1,n2,n3,n4,n5,n6,n7,n8,n9,n10⟩:=Qeq h
  clear h
  go_enter Tryz.func70,Tryz.ntmps70
  go_wp2_with fail
  obtain⟨wb,hwb,db,sb,BX⟩:=Xt a A1 A2 c1 c2 w
  rw [<-hwb]
  clear hwb
  obtain⟨p0,p1,p2,p3,p4,p5,p6,p7,p8,p9,p10⟩:=BX.out _ (B0 [] wb)
  refine(XV a.slot _).mono ?_
  rintro e w3 ⟨sl,rfl,hsl,rfl⟩
  have HS:Hid (sl=true↔QE a.slot):=hsl
  have d3:Qc [] w3 w3:=B0 [] w3
  clear hsl
  cases sl
  all_goals
    go_wp2_with fail
    all_goals first
      |exact XZ (d3)
      | (refine(ZY a A1 A2 c1 c2 false false false false false true false uV rfl _).mono ?_
         rintro e w4 ⟨t,rfl,ht4,k4⟩
         have d4:Qc [] w3 w4:=k4
         clear p0 p1 p2 p3 p4 p5 p6 p7 p8 p9 p10
         obtain⟨p0,p1,p2,p3,p4,p5,p6,p7,p8,p9,p10⟩:=BX.out _ d4
         cases t
         all_goals
           simp at ht4
           go_wp2_with fail
           all_goals first
             |exact XZ (d4)
             |(refine(IA.out _ (db.tz d4)).mono ?_;rintro e w5 ⟨t5,rfl,hh5,k5⟩;go_wp2_with fail;all_goals exact XZ (d4.tz k5)))
theorem Qap {l:List Qa} (h:Qi l<=1048576) {a:Qa} (ha:a∈l):Qi a.A<=1048576/\Qi a.B<=1048576/\a.call.key.size<=1048576/\a.call.text.size<=1048575/\a.word.size<=1048575:=by
  have h1:Xv a<=Wv l:=zW Xv ha
  have h2:=Wf a
  have h3:0<l.length:=List.length_pos_of_mem ha
  unfold Qi at h
  unfold xd at h2
  refine⟨?_,?_,?_,?_,?_⟩<;>omega
theorem js (a:Qa) (A1 A2:Option Addr) (c1 c2:Nat) (w:World) (hk:a.call.key.size<=1048576) (ht:a.call.text.size<=1048575) (hE:KP w)
    (ia:∀W,Qc [] w W->Calls Tryz.prog 42 #[.slice A1 a.A.length c1] W (Qg (Jm a.A) W)) (ib:∀W,Qc [] w W->Calls Tryz.prog 42 #[.slice A2 a.B.length c2] W (Qg (Jm a.B) W)):
    Calls Tryz.prog 70 #[.agg #[.int .i64 a.op,.int .i64 a.slot,.int .i64 a.other,.string a.word,.string a.call.method,.string a.call.key,.int .i64 a.call.value,.string a.call.text,.int .i64 a.face,.slice A1 a.A.length c1,.slice A2 a.B.length c2]] w (Qg a.ok w):=by
  rcases jW a.op with (h|h|h|h|h|h|h|h|h|h)|h
  · exact QbF a A1 A2 c1 c2 w h hk ht hE
  · exact Qbu a A1 A2 c1 c2 w h hk ht hE
  · exact Qbv a A1 A2 c1 c2 w h hk ht hE
  · exact Qa7 a A1 A2 c1 c2 w h hk ht hE
  · exact QbK a A1 A2 c1 c2 w h hk ht hE
  · exact QbC a A1 A2 c1 c2 w h hk ht hE
  · exact QbN a A1 A2 c1 c2 w h hk ht hE
  · exact Qck a A1 A2 c1 c2 w h hk ht hE ia ib
  · exact QbB a A1 A2 c1 c2 w h hk ht hE ia ib
  · exact Qao a A1 A2 c1 c2 w h hk ht hE ia ib
  · exact jT a A1 A2 c1 c2 w h hk ht hE
def QfZ (l:List Qa):Prop:=∀(u:Value) (B:Nat) (w:World),KP w->Qi l<=1048576->Rd w B (QA l) u->B<=w.heap.size->
  Calls Tryz.prog 42 #[u] w (Qg (Jm l) w)
theorem vu:∀l,QfZ l:=by
  refine j4 fun l ih=>?_
  intro u B w hE hW hr hB
  obtain⟨A,cap,rfl,h0,h1,hrow⟩:=Qr hr
  unfold maxLen at h1
  have IH:=Qb ih
  have HW:=Qb hW
  have HE:=Qb hE
  have HO:=Qb (Wh l)
  clear ih hr hE hW
  go_enter Tryz.func42,Tryz.ntmps42
  go_wp2_with fail
  go_loopw [7] (fun i wr=>∃k:Nat,k<=l.length/\i= .int .i64 k/\Hid (∀(j:Nat) (h:j<l.length),j<k->l[j].ok)/\Qc [] w wr) (fun i _=>l.length-(intOf i).toNat)
  case atStart=>exact⟨0,I3 _,rfl,fun j h h0=>absurd h0 (M4 _),B0 _ _⟩
  case round=>
    obtain⟨k,hk,rfl,HN,hc⟩:=hrel
    by_cases hlt:k<l.length
    · obtain⟨b,off,uA,uB,rfl,hb,q0,q1,q2,q3,q4,q5,q6,q7,q8,q9,q10,rA,rB⟩:=Yh (hrow.cz hc hB) k hlt
      obtain⟨A1,cap1,rfl,_,_,_⟩:=Qr rA
      obtain⟨A2,cap2,rfl,_,_,_⟩:=Qr rB
      have hmem:=I4 hlt
      have hin:=Qap HW.out hmem
      have hcs:=hc.size
      have IS:=Qb (fun W (hW:Qc [] wr W)=>js l[k] A1 A2 cap1 cap2 W hin.2.2.1 hin.2.2.2.1 (HE.out.keep (hc.tz hW))
        (fun V hV=>(IH.out _ hmem).1 _ B V (HE.out.keep ((hc.tz hW).tz hV)) hin.1 (rA.cz (hW.tz hV) (by omega)) (by have:=hW.size;have:=hV.size;omega))
        (fun V hV=>(IH.out _ hmem).2 _ B V (HE.out.keep ((hc.tz hW).tz hV)) hin.2.1 (rB.cz (hW.tz hV) (by omega)) (by have:=hW.size;have:=hV.size;omega)))
      go_wp2_with fail
      refine(IS.out _ ((B0 _ _).alloc _)).mono ?_
      rintro e w1 ⟨t,rfl,ht,c1⟩
      have HT:=Qb ht
      have d1:Qc [] w w1:=hc.tz (((B0 _ _).alloc _).tz c1)
      clear ht c1
      cases t
      · go_wp2_with fail
        go_ret
        exact Qg.of ⟨fun h=>by simp at h,fun h=>by have:=HT.out.2 (HO.out.1 h _ hmem);simp at this⟩ d1
      · go_wp2_with fail
        go_roundw
        case rel=>exact⟨k+1,by omega,by go_num,Qb (fun j h hj=>(I7.1 hj).elim (HN.out j h) (fun e=>by subst e;exact HT.out.1 (by simp))),d1⟩
        case measure=>simp [intOf];omega
    · obtain rfl:k=l.length:=by omega
      go_wp2_with fail
      go_ret
      refine Qg.of ⟨fun _=>HO.out.2 fun a ha=>?_,fun _=>rfl⟩ hc
      obtain⟨j,hj,rfl⟩:=M0 ha
      exact HN.out j hj hj
end Go.Proofs.YtfjhdnjlhjimeaaGreatDoor
