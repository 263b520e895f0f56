/- isSlot of the program. Conditions: as stated. -/
import Derived.Test.YtlnkgcdeljhjcaaGreatDoorIsActs
set_option maxRecDepth 100000
set_option maxHeartbeats 8000000
namespace Go.Proofs.YtlnkgcdeljhjcaaGreatDoor
open Go.RowKit

theorem XU (n:Int) (w:World):
    Calls Tryz.prog 113 #[.int .i64 n] w (Zm (QF n) w):=by
  go_enter Tryz.func113,Tryz.ntmps113
  go_wp2_with fail
  all_goals(go_ret;refine⟨_,rfl,?_,rfl⟩;unfold QF;simp;try omega)
theorem Qcw (a:Qa) (A1 A2:Option Addr) (c1 c2:Nat) (w:World) (h:a.op=1) (hk:a.call.key.size<=1048576) (ht:a.call.text.size<=1048575) (hE:Km w):
    Calls Tryz.prog 72 #[.agg #[.int .i64 a.op,.int .i64 a.slot,.int .i64 a.other,.string a.word,.string a.call.method,.string a.call.key,.int .i64 a.call.value,.string a.call.text,.int .i64 a.face,.slice A1 a.A.length c1,.slice A2 a.B.length c2]] w (Qg a.ok w):=by
  have IC:=Qd (fun W=>Q2 a.call W hk)
  have PC:=Qd (fun W (hc:Qb [] w W)=>QL a.call.text W ht (hE.keep hc))
  have HA:=Qd (QhF h)
  clear hk ht hE
  obtain⟨n1,n2,n3,n4,n5,n6,n7,n8,n9,n10⟩:=Qfo h
  clear h
  go_enter Tryz.func72,Tryz.ntmps72
  go_wp2_with fail
  obtain⟨wb,hwb,db,sb,BX⟩:=Xu a A1 A2 c1 c2 w
  rw [<-hwb]
  clear hwb
  obtain⟨p0,p1,p2,p3,p4,p5,p6,p7,p8,p9,p10⟩:=BX.out _ (Qb.refl [] wb)
  refine(XU a.slot _).mono ?_
  rintro e w3 ⟨sl,rfl,hsl,rfl⟩
  have HS:Hid (sl=true↔QF a.slot):=hsl
  have d3:Qb [] w3 w3:=Qb.refl [] w3
  clear hsl
  cases sl
  all_goals
    go_wp2_with fail
    all_goals first
      |exact XV (d3)
      | (refine(ZP a.word _).mono ?_
         rintro e w5 ⟨he,rfl⟩
         subst he
         obtain⟨kb,hkb⟩:∃b,b=(Qq a.word).isSome:=⟨_,rfl⟩
         have HK:Hid (kb=true↔Qq a.word≠none):=by show _↔_;rw [hkb];cases Qq a.word<;>simp
         obtain⟨kz,hkz⟩:∃z,z=(Qq a.word).getD 0:=⟨_,rfl⟩
         rw [<-hkb, <-hkz]
         clear hkb hkz
         cases kb
         all_goals
           go_wp2_with fail
           all_goals first
             |exact XV (Qb.refl [] _)
             |(refine(ZU a A1 A2 c1 c2 true false true false false false false KM rfl _).mono ?_;rintro e w4 ⟨t,rfl,ht4,c4⟩;go_wp2_with fail;all_goals exact XV ((Qb.refl [] _).tz c4)))
theorem Qc7 (a:Qa) (A1 A2:Option Addr) (c1 c2:Nat) (w:World) (h:a.op=3) (hk:a.call.key.size<=1048576) (ht:a.call.text.size<=1048575) (hE:Km w):
    Calls Tryz.prog 72 #[.agg #[.int .i64 a.op,.int .i64 a.slot,.int .i64 a.other,.string a.word,.string a.call.method,.string a.call.key,.int .i64 a.call.value,.string a.call.text,.int .i64 a.face,.slice A1 a.A.length c1,.slice A2 a.B.length c2]] w (Qg a.ok w):=by
  have IC:=Qd (fun W=>Q2 a.call W hk)
  have PC:=Qd (fun W (hc:Qb [] w W)=>QL a.call.text W ht (hE.keep hc))
  have HA:=Qd (QgV (.inl h))
  clear hk ht hE
  obtain⟨n1,n2,n3,n4,n5,n6,n7,n8,n9,n10⟩:=Qfg h
  clear h
  go_enter Tryz.func72,Tryz.ntmps72
  go_wp2_with fail
  obtain⟨wb,hwb,db,sb,BX⟩:=Xu a A1 A2 c1 c2 w
  rw [<-hwb]
  clear hwb
  obtain⟨p0,p1,p2,p3,p4,p5,p6,p7,p8,p9,p10⟩:=BX.out _ (Qb.refl [] wb)
  refine(XU a.slot _).mono ?_
  rintro e w3 ⟨sl,rfl,hsl,rfl⟩
  have HS:Hid (sl=true↔QF a.slot):=hsl
  have d3:Qb [] w3 w3:=Qb.refl [] w3
  clear hsl
  cases sl
  all_goals
    go_wp2_with fail
    all_goals first
      |exact XV (d3)
      |(refine(ZU a A1 A2 c1 c2 true false false false false false false KR rfl _).mono ?_;rintro e w4 ⟨t,rfl,ht4,c4⟩;go_wp2_with fail;all_goals exact XV ((d3).tz c4))
theorem Qca (a:Qa) (A1 A2:Option Addr) (c1 c2:Nat) (w:World) (h:a.op=5) (hk:a.call.key.size<=1048576) (ht:a.call.text.size<=1048575) (hE:Km w):
    Calls Tryz.prog 72 #[.agg #[.int .i64 a.op,.int .i64 a.slot,.int .i64 a.other,.string a.word,.string a.call.method,.string a.call.key,.int .i64 a.call.value,.string a.call.text,.int .i64 a.face,.slice A1 a.A.length c1,.slice A2 a.B.length c2]] w (Qg a.ok w):=by
  have IC:=Qd (fun W=>Q2 a.call W hk)
  have PC:=Qd (fun W (hc:Qb [] w W)=>QL a.call.text W ht (hE.keep hc))
  have HA:=Qd (QgV (.inr h))
  clear hk ht hE
  obtain⟨n1,n2,n3,n4,n5,n6,n7,n8,n9,n10⟩:=QeQ h
  clear h
  go_enter Tryz.func72,Tryz.ntmps72
  go_wp2_with fail
  obtain⟨wb,hwb,db,sb,BX⟩:=Xu a A1 A2 c1 c2 w
  rw [<-hwb]
  clear hwb
  obtain⟨p0,p1,p2,p3,p4,p5,p6,p7,p8,p9,p10⟩:=BX.out _ (Qb.refl [] wb)
  refine(XU a.slot _).mono ?_
  rintro e w3 ⟨sl,rfl,hsl,rfl⟩
  have HS:Hid (sl=true↔QF a.slot):=hsl
  have d3:Qb [] w3 w3:=Qb.refl [] w3
  clear hsl
  cases sl
  all_goals
    go_wp2_with fail
    all_goals first
      |exact XV (d3)
      |(refine(ZU a A1 A2 c1 c2 true false false false false false false KR rfl _).mono ?_;rintro e w4 ⟨t,rfl,ht4,c4⟩;go_wp2_with fail;all_goals exact XV ((d3).tz c4))
theorem Qcn (a:Qa) (A1 A2:Option Addr) (c1 c2:Nat) (w:World) (h:a.op=2) (hk:a.call.key.size<=1048576) (ht:a.call.text.size<=1048575) (hE:Km w):
    Calls Tryz.prog 72 #[.agg #[.int .i64 a.op,.int .i64 a.slot,.int .i64 a.other,.string a.word,.string a.call.method,.string a.call.key,.int .i64 a.call.value,.string a.call.text,.int .i64 a.face,.slice A1 a.A.length c1,.slice A2 a.B.length c2]] w (Qg a.ok w):=by
  have IC:=Qd (fun W=>Q2 a.call W hk)
  have PC:=Qd (fun W (hc:Qb [] w W)=>QL a.call.text W ht (hE.keep hc))
  have HA:=Qd (QhO h)
  clear hk ht hE
  obtain⟨n1,n2,n3,n4,n5,n6,n7,n8,n9,n10⟩:=QeP h
  clear h
  go_enter Tryz.func72,Tryz.ntmps72
  go_wp2_with fail
  obtain⟨wb,hwb,db,sb,BX⟩:=Xu a A1 A2 c1 c2 w
  rw [<-hwb]
  clear hwb
  obtain⟨p0,p1,p2,p3,p4,p5,p6,p7,p8,p9,p10⟩:=BX.out _ (Qb.refl [] wb)
  refine(XU a.slot _).mono ?_
  rintro e w3 ⟨sl,rfl,hsl,rfl⟩
  have HS:Hid (sl=true↔QF a.slot):=hsl
  have d3:Qb [] w3 w3:=Qb.refl [] w3
  clear hsl
  cases sl
  all_goals
    go_wp2_with fail
    all_goals first
      |exact XV (d3)
      | (refine(XY a.word _).mono ?_
         rintro e w5 ⟨he,rfl⟩
         subst he
         obtain⟨kb,hkb⟩:∃b,b=(Qk a.word).isSome:=⟨_,rfl⟩
         have HK:Hid (kb=true↔Qk a.word≠none):=by show _↔_;rw [hkb];cases Qk a.word<;>simp
         obtain⟨kz,hkz⟩:∃z,z=((Qk a.word).getD (0,0)).1:=⟨_,rfl⟩
         obtain⟨ky,hky⟩:∃z,z=((Qk a.word).getD (0,0)).2:=⟨_,rfl⟩
         rw [<-hkb, <-hkz, <-hky]
         clear hkb hkz hky
         cases kb
         all_goals
           go_wp2_with fail
           all_goals first
             |exact XV (Qb.refl [] _)
             |(refine(ZU a A1 A2 c1 c2 true false true false false false false KM rfl _).mono ?_;rintro e w4 ⟨t,rfl,ht4,c4⟩;go_wp2_with fail;all_goals exact XV ((Qb.refl [] _).tz c4)))
theorem Qc3 (a:Qa) (A1 A2:Option Addr) (c1 c2:Nat) (w:World) (h:a.op=4) (hk:a.call.key.size<=1048576) (ht:a.call.text.size<=1048575) (hE:Km w):
    Calls Tryz.prog 72 #[.agg #[.int .i64 a.op,.int .i64 a.slot,.int .i64 a.other,.string a.word,.string a.call.method,.string a.call.key,.int .i64 a.call.value,.string a.call.text,.int .i64 a.face,.slice A1 a.A.length c1,.slice A2 a.B.length c2]] w (Qg a.ok w):=by
  have IC:=Qd (fun W=>Q2 a.call W hk)
  have PC:=Qd (fun W (hc:Qb [] w W)=>QL a.call.text W ht (hE.keep hc))
  have HA:=Qd (QhM h)
  clear hk ht hE
  obtain⟨n1,n2,n3,n4,n5,n6,n7,n8,n9,n10⟩:=QfG h
  clear h
  go_enter Tryz.func72,Tryz.ntmps72
  go_wp2_with fail
  obtain⟨wb,hwb,db,sb,BX⟩:=Xu a A1 A2 c1 c2 w
  rw [<-hwb]
  clear hwb
  obtain⟨p0,p1,p2,p3,p4,p5,p6,p7,p8,p9,p10⟩:=BX.out _ (Qb.refl [] wb)
  refine(XU a.slot _).mono ?_
  rintro e w3 ⟨sl,rfl,hsl,rfl⟩
  have HS:Hid (sl=true↔QF a.slot):=hsl
  have d3:Qb [] w3 w3:=Qb.refl [] w3
  clear hsl
  cases sl
  all_goals
    go_wp2_with fail
    all_goals first
      |exact XV (d3)
      | (refine(XU a.other _).mono ?_
         rintro e w5 ⟨t5,rfl,ht5,rfl⟩
         have hh5:t5=true↔QF a.other:=ht5;clear ht5
         cases t5
         all_goals
           simp at hh5
           go_wp2_with fail
           all_goals first
             |exact XV (d3)
             |(refine(ZU a A1 A2 c1 c2 true true false false false false false JI rfl _).mono ?_;rintro e w4 ⟨t,rfl,ht4,c4⟩;go_wp2_with fail;all_goals exact XV ((d3).tz c4)))
theorem QcS (a:Qa) (A1 A2:Option Addr) (c1 c2:Nat) (w:World) (h:a.op=6) (hk:a.call.key.size<=1048576) (ht:a.call.text.size<=1048575) (hE:Km w):
    Calls Tryz.prog 72 #[.agg #[.int .i64 a.op,.int .i64 a.slot,.int .i64 a.other,.string a.word,.string a.call.method,.string a.call.key,.int .i64 a.call.value,.string a.call.text,.int .i64 a.face,.slice A1 a.A.length c1,.slice A2 a.B.length c2]] w (Qg a.ok w):=by
  have IC:=Qd (fun W=>Q2 a.call W hk)
  have PC:=Qd (fun W (hc:Qb [] w W)=>QL a.call.text W ht (hE.keep hc))
  have HA:=Qd (QhN h)
  clear hk ht hE
  obtain⟨n1,n2,n3,n4,n5,n6,n7,n8,n9,n10⟩:=QeW h
  clear h
  go_enter Tryz.func72,Tryz.ntmps72
  go_wp2_with fail
  obtain⟨wb,hwb,db,sb,BX⟩:=Xu a A1 A2 c1 c2 w
  rw [<-hwb]
  clear hwb
  obtain⟨p0,p1,p2,p3,p4,p5,p6,p7,p8,p9,p10⟩:=BX.out _ (Qb.refl [] wb)
  refine(XU a.slot _).mono ?_
  rintro e w3 ⟨sl,rfl,hsl,rfl⟩
  have HS:Hid (sl=true↔QF a.slot):=hsl
  have d3:Qb [] w3 w3:=Qb.refl [] w3
  clear hsl
  cases sl
  all_goals
    go_wp2_with fail
    all_goals first
      |exact XV (d3)
      | (refine(V0 a.face _).mono ?_
         rintro e w5 ⟨t5,rfl,hh5,rfl⟩
         skip
         cases t5
         all_goals
           simp at hh5
           go_wp2_with fail
           all_goals first
             |exact XV (d3)
             |(refine(ZU a A1 A2 c1 c2 true false false false true false false Gt rfl _).mono ?_;rintro e w4 ⟨t,rfl,ht4,c4⟩;go_wp2_with fail;all_goals exact XV ((d3).tz c4)))
theorem QcB (a:Qa) (A1 A2:Option Addr) (c1 c2:Nat) (w:World) (h:a.op=7) (hk:a.call.key.size<=1048576) (ht:a.call.text.size<=1048575) (hE:Km w):
    Calls Tryz.prog 72 #[.agg #[.int .i64 a.op,.int .i64 a.slot,.int .i64 a.other,.string a.word,.string a.call.method,.string a.call.key,.int .i64 a.call.value,.string a.call.text,.int .i64 a.face,.slice A1 a.A.length c1,.slice A2 a.B.length c2]] w (Qg a.ok w):=by
  have IC:=Qd (fun W=>Q2 a.call W hk)
  have PC:=Qd (fun W (hc:Qb [] w W)=>QL a.call.text W ht (hE.keep hc))
  have HA:=Qd (show a.ok↔QF a.slot/\(QZ a.call/\(a.call.text.toList=[] ∨QA a.call.text≠none))/\QB a false false true false false false from by rw [QhH h];unfold Us;rw [Yt])
  clear hk ht hE
  obtain⟨n1,n2,n3,n4,n5,n6,n7,n8,n9,n10⟩:=Qfu h
  clear h
  go_enter Tryz.func72,Tryz.ntmps72
  go_wp2_with fail
  obtain⟨wb,hwb,db,sb,BX⟩:=Xu a A1 A2 c1 c2 w
  rw [<-hwb]
  clear hwb
  obtain⟨p0,p1,p2,p3,p4,p5,p6,p7,p8,p9,p10⟩:=BX.out _ (Qb.refl [] wb)
  refine(XU a.slot _).mono ?_
  rintro e w3 ⟨sl,rfl,hsl,rfl⟩
  have HS:Hid (sl=true↔QF a.slot):=hsl
  have d3:Qb [] w3 w3:=Qb.refl [] w3
  clear hsl
  cases sl
  all_goals
    go_wp2_with fail
    all_goals first
      |exact XV (d3)
      | (refine(IC.out _).mono ?_
         rintro e w6 ⟨t6,rfl,hh6,k6⟩
         have d6:Qb [] w3 w6:=(Qb.refl [] _).tz k6
         (try clear p0 p1 p2 p3 p4 p5 p6 p7 p8 p9 p10)
         obtain⟨p0,p1,p2,p3,p4,p5,p6,p7,p8,p9,p10⟩:=BX.out _ d6
         cases t6
         all_goals
           simp at hh6
           go_wp2_with fail
           all_goals first
             |exact XV (d6)
             |(refine(ZU a A1 A2 c1 c2 true false false true false false false Kw rfl _).mono ?_;rintro e w4 ⟨t,rfl,ht4,c4⟩;go_wp2_with fail;all_goals exact XV ((d6).tz c4)))
      | (refine(PC.out _ db).mono ?_
         rintro e w5 ⟨l5,X5,cap5,_,rfl,n5⟩
         have d5:Qb [] w3 w5:=n5.chg
         clear n5 p0 p1 p2 p3 p4 p5 p6 p7 p8 p9 p10
         obtain⟨p0,p1,p2,p3,p4,p5,p6,p7,p8,p9,p10⟩:=BX.out _ d5
         obtain⟨ok,hok⟩:∃ok,ok=(QA a.call.text).isSome:=⟨_,rfl⟩
         have HT:Hid (QA a.call.text≠none↔ok=true):=by show _↔_;rw [hok];cases QA a.call.text<;>simp
         rw [<-hok]
         clear hok
         cases ok
         all_goals
           go_wp2_with fail
           all_goals first
             |exact XV (d5)
             | (refine(IC.out _).mono ?_
                rintro e w6 ⟨t6,rfl,hh6,k6⟩
                have d6:Qb [] w3 w6:=(d5).tz k6
                (try clear p0 p1 p2 p3 p4 p5 p6 p7 p8 p9 p10)
                obtain⟨p0,p1,p2,p3,p4,p5,p6,p7,p8,p9,p10⟩:=BX.out _ d6
                cases t6
                all_goals
                  simp at hh6
                  go_wp2_with fail
                  all_goals first
                    |exact XV (d6)
                    |(refine(ZU a A1 A2 c1 c2 true false false true false false false Kw rfl _).mono ?_;rintro e w4 ⟨t,rfl,ht4,c4⟩;go_wp2_with fail;all_goals exact XV ((d6).tz c4))))
theorem QbG (a:Qa) (A1 A2:Option Addr) (c1 c2:Nat) (w:World) (h:¬(1<=a.op/\a.op<=10)/\yv a.op false false false false false false false false false false) (hk:a.call.key.size<=1048576) (ht:a.call.text.size<=1048575) (hE:Km w):
    Calls Tryz.prog 72 #[.agg #[.int .i64 a.op,.int .i64 a.slot,.int .i64 a.other,.string a.word,.string a.call.method,.string a.call.key,.int .i64 a.call.value,.string a.call.text,.int .i64 a.face,.slice A1 a.A.length c1,.slice A2 a.B.length c2]] w (Qg a.ok w):=by
  have IC:=Qd (fun W=>Q2 a.call W hk)
  have PC:=Qd (fun W (hc:Qb [] w W)=>QL a.call.text W ht (hE.keep hc))
  have HA:=Qd (show ¬a.ok from fun k=>h.1 (QhL k))
  clear hk ht hE
  obtain⟨_,n1,n2,n3,n4,n5,n6,n7,n8,n9,n10⟩:=h
  go_enter Tryz.func72,Tryz.ntmps72
  go_wp2_with fail
  obtain⟨wb,hwb,db,sb,BX⟩:=Xu a A1 A2 c1 c2 w
  rw [<-hwb]
  clear hwb
  obtain⟨p0,p1,p2,p3,p4,p5,p6,p7,p8,p9,p10⟩:=BX.out _ (Qb.refl [] wb)
  refine(XU a.slot _).mono ?_
  rintro e w3 ⟨sl,rfl,hsl,rfl⟩
  have HS:Hid (sl=true↔QF a.slot):=hsl
  have d3:Qb [] w3 w3:=Qb.refl [] w3
  clear hsl
  cases sl
  all_goals
    go_wp2_with fail
    go_ret
    exact Qg.of ⟨fun h=>by simp at h,fun h=>absurd h HA.out⟩ db
theorem Qcf (a:Qa) (A1 A2:Option Addr) (c1 c2:Nat) (w:World) (h:a.op=8) (hk:a.call.key.size<=1048576) (ht:a.call.text.size<=1048575) (hE:Km w) (ia:∀W,Qb [] w W->Calls Tryz.prog 46 #[.slice A1 a.A.length c1] W (Qg (Kp a.A) W)) (ib:∀W,Qb [] w W->Calls Tryz.prog 46 #[.slice A2 a.B.length c2] W (Qg (Kp a.B) W)):
    Calls Tryz.prog 72 #[.agg #[.int .i64 a.op,.int .i64 a.slot,.int .i64 a.other,.string a.word,.string a.call.method,.string a.call.key,.int .i64 a.call.value,.string a.call.text,.int .i64 a.face,.slice A1 a.A.length c1,.slice A2 a.B.length c2]] w (Qg a.ok w):=by
  have IC:=Qd (fun W=>Q2 a.call W hk)
  have PC:=Qd (fun W (hc:Qb [] w W)=>QL a.call.text W ht (hE.keep hc))
  have HA:=Qd (show a.ok↔QF a.slot/\(a.slot=0/\QB a false false false false true true)/\Kp a.A/\Kp a.B from(Qg1 (.inl h)).trans ⟨fun k=>⟨by rw [k.1.1];exact JK,k⟩,fun k=>k.2⟩)
  have IA:=Qd ia
  have IB:=Qd ib
  clear ia ib
  clear hk ht hE
  obtain⟨n1,n2,n3,n4,n5,n6,n7,n8,n9,n10⟩:=QeO h
  clear h
  go_enter Tryz.func72,Tryz.ntmps72
  go_wp2_with fail
  obtain⟨wb,hwb,db,sb,BX⟩:=Xu a A1 A2 c1 c2 w
  rw [<-hwb]
  clear hwb
  obtain⟨p0,p1,p2,p3,p4,p5,p6,p7,p8,p9,p10⟩:=BX.out _ (Qb.refl [] wb)
  refine(XU a.slot _).mono ?_
  rintro e w3 ⟨sl,rfl,hsl,rfl⟩
  have HS:Hid (sl=true↔QF a.slot):=hsl
  have d3:Qb [] w3 w3:=Qb.refl [] w3
  clear hsl
  cases sl
  all_goals
    go_wp2_with fail
    all_goals first
      |exact XV (d3)
      | (refine(ZU a A1 A2 c1 c2 false false false false false true true J0 rfl _).mono ?_
         rintro e w4 ⟨t,rfl,ht4,k4⟩
         have d4:Qb [] w3 w4:=k4
         clear p0 p1 p2 p3 p4 p5 p6 p7 p8 p9 p10
         obtain⟨p0,p1,p2,p3,p4,p5,p6,p7,p8,p9,p10⟩:=BX.out _ d4
         cases t
         all_goals
           simp at ht4
           go_wp2_with fail
           all_goals first
             |exact XV (d4)
             | (refine(IA.out _ (db.tz d4)).mono ?_
                rintro e w5 ⟨t5,rfl,hh5,k5⟩
                have d5:Qb [] w3 w5:=d4.tz k5
                clear p0 p1 p2 p3 p4 p5 p6 p7 p8 p9 p10
                obtain⟨p0,p1,p2,p3,p4,p5,p6,p7,p8,p9,p10⟩:=BX.out _ d5
                cases t5
                all_goals
                  simp at hh5
                  go_wp2_with fail
                  all_goals first
                    |exact XV (d5)
                    |(refine(IB.out _ (db.tz d5)).mono ?_;rintro e w6 ⟨t6,rfl,ht6,k6⟩;go_wp2_with fail;all_goals exact XV (d5.tz k6))))
theorem Qbm (a:Qa) (A1 A2:Option Addr) (c1 c2:Nat) (w:World) (h:a.op=10) (hk:a.call.key.size<=1048576) (ht:a.call.text.size<=1048575) (hE:Km w) (ia:∀W,Qb [] w W->Calls Tryz.prog 46 #[.slice A1 a.A.length c1] W (Qg (Kp a.A) W)) (ib:∀W,Qb [] w W->Calls Tryz.prog 46 #[.slice A2 a.B.length c2] W (Qg (Kp a.B) W)):
    Calls Tryz.prog 72 #[.agg #[.int .i64 a.op,.int .i64 a.slot,.int .i64 a.other,.string a.word,.string a.call.method,.string a.call.key,.int .i64 a.call.value,.string a.call.text,.int .i64 a.face,.slice A1 a.A.length c1,.slice A2 a.B.length c2]] w (Qg a.ok w):=by
  have IC:=Qd (fun W=>Q2 a.call W hk)
  have PC:=Qd (fun W (hc:Qb [] w W)=>QL a.call.text W ht (hE.keep hc))
  have HA:=Qd (show a.ok↔QF a.slot/\(a.slot=0/\QB a false false false false true true)/\Kp a.A/\Kp a.B from(Qg1 (.inr h)).trans ⟨fun k=>⟨by rw [k.1.1];exact JK,k⟩,fun k=>k.2⟩)
  have IA:=Qd ia
  have IB:=Qd ib
  clear ia ib
  clear hk ht hE
  obtain⟨n1,n2,n3,n4,n5,n6,n7,n8,n9,n10⟩:=QdH h
  clear h
  go_enter Tryz.func72,Tryz.ntmps72
  go_wp2_with fail
  obtain⟨wb,hwb,db,sb,BX⟩:=Xu a A1 A2 c1 c2 w
  rw [<-hwb]
  clear hwb
  obtain⟨p0,p1,p2,p3,p4,p5,p6,p7,p8,p9,p10⟩:=BX.out _ (Qb.refl [] wb)
  refine(XU a.slot _).mono ?_
  rintro e w3 ⟨sl,rfl,hsl,rfl⟩
  have HS:Hid (sl=true↔QF a.slot):=hsl
  have d3:Qb [] w3 w3:=Qb.refl [] w3
  clear hsl
  cases sl
  all_goals
    go_wp2_with fail
    all_goals first
      |exact XV (d3)
      | (refine(ZU a A1 A2 c1 c2 false false false false false true true J0 rfl _).mono ?_
         rintro e w4 ⟨t,rfl,ht4,k4⟩
         have d4:Qb [] w3 w4:=k4
         clear p0 p1 p2 p3 p4 p5 p6 p7 p8 p9 p10
         obtain⟨p0,p1,p2,p3,p4,p5,p6,p7,p8,p9,p10⟩:=BX.out _ d4
         cases t
         all_goals
           simp at ht4
           go_wp2_with fail
           all_goals first
             |exact XV (d4)
             | (refine(IA.out _ (db.tz d4)).mono ?_
                rintro e w5 ⟨t5,rfl,hh5,k5⟩
                have d5:Qb [] w3 w5:=d4.tz k5
                clear p0 p1 p2 p3 p4 p5 p6 p7 p8 p9 p10
                obtain⟨p0,p1,p2,p3,p4,p5,p6,p7,p8,p9,p10⟩:=BX.out _ d5
                cases t5
                all_goals
                  simp at hh5
                  go_wp2_with fail
                  all_goals first
                    |exact XV (d5)
                    |(refine(IB.out _ (db.tz d5)).mono ?_;rintro e w6 ⟨t6,rfl,ht6,k6⟩;go_wp2_with fail;all_goals exact XV (d5.tz k6))))
theorem QcZ (a:Qa) (A1 A2:Option Addr) (c1 c2:Nat) (w:World) (h:a.op=9) (hk:a.call.key.size<=1048576) (ht:a.call.text.size<=1048575) (hE:Km w) (ia:∀W,Qb [] w W->Calls Tryz.prog 46 #[.slice A1 a.A.length c1] W (Qg (Kp a.A) W)) (ib:∀W,Qb [] w W->Calls Tryz.prog 46 #[.slice A2 a.B.length c2] W (Qg (Kp a.B) W)):
    Calls Tryz.prog 72 #[.agg #[.int .i64 a.op,.int .i64 a.slot,.int .i64 a.other,.string a.word,.string a.call.method,.string a.call.key,.int .i64 a.call.value,.string a.call.text,.int .i64 a.face,.slice A1 a.A.length c1,.slice A2 a.B.length c2]] w (Qg a.ok w):=by
  have IC:=Qd (fun W=>Q2 a.call W hk)
  have PC:=Qd (fun W (hc:Qb [] w W)=>QL a.call.text W ht (hE.keep hc))
  have HA:=Qd (show a.ok↔QF a.slot/\(a.slot=0/\QB a false false false false true false)/\Kp a.A from(QhA h).trans ⟨fun k=>⟨by rw [k.1.1];exact JK,k⟩,fun k=>k.2⟩)
  have IA:=Qd ia
  have IB:=Qd ib
  clear ia ib
  clear hk ht hE
  obtain⟨n1,n2,n3,n4,n5,n6,n7,n8,n9,n10⟩:=Qe2 h
  clear h
  go_enter Tryz.func72,Tryz.ntmps72
  go_wp2_with fail
  obtain⟨wb,hwb,db,sb,BX⟩:=Xu a A1 A2 c1 c2 w
  rw [<-hwb]
  clear hwb
  obtain⟨p0,p1,p2,p3,p4,p5,p6,p7,p8,p9,p10⟩:=BX.out _ (Qb.refl [] wb)
  refine(XU a.slot _).mono ?_
  rintro e w3 ⟨sl,rfl,hsl,rfl⟩
  have HS:Hid (sl=true↔QF a.slot):=hsl
  have d3:Qb [] w3 w3:=Qb.refl [] w3
  clear hsl
  cases sl
  all_goals
    go_wp2_with fail
    all_goals first
      |exact XV (d3)
      | (refine(ZU a A1 A2 c1 c2 false false false false false true false uc rfl _).mono ?_
         rintro e w4 ⟨t,rfl,ht4,k4⟩
         have d4:Qb [] w3 w4:=k4
         clear p0 p1 p2 p3 p4 p5 p6 p7 p8 p9 p10
         obtain⟨p0,p1,p2,p3,p4,p5,p6,p7,p8,p9,p10⟩:=BX.out _ d4
         cases t
         all_goals
           simp at ht4
           go_wp2_with fail
           all_goals first
             |exact XV (d4)
             |(refine(IA.out _ (db.tz d4)).mono ?_;rintro e w5 ⟨t5,rfl,hh5,k5⟩;go_wp2_with fail;all_goals exact XV (d4.tz k5)))
theorem Qbx {l:List Qa} (h:Ql l<=1048576) {a:Qa} (ha:a∈l):Ql a.A<=1048576/\Ql a.B<=1048576/\a.call.key.size<=1048576/\a.call.text.size<=1048575/\a.word.size<=1048575:=by
  have h1:XO a<=Wp l:=qA XO ha
  have h2:=YT a
  have h3:0<l.length:=List.length_pos_of_mem ha
  unfold Ql at h
  unfold zC at h2
  refine⟨?_,?_,?_,?_,?_⟩<;>omega
theorem kQ (a:Qa) (A1 A2:Option Addr) (c1 c2:Nat) (w:World) (hk:a.call.key.size<=1048576) (ht:a.call.text.size<=1048575) (hE:Km w)
    (ia:∀W,Qb [] w W->Calls Tryz.prog 46 #[.slice A1 a.A.length c1] W (Qg (Kp a.A) W)) (ib:∀W,Qb [] w W->Calls Tryz.prog 46 #[.slice A2 a.B.length c2] W (Qg (Kp a.B) W)):
    Calls Tryz.prog 72 #[.agg #[.int .i64 a.op,.int .i64 a.slot,.int .i64 a.other,.string a.word,.string a.call.method,.string a.call.key,.int .i64 a.call.value,.string a.call.text,.int .i64 a.face,.slice A1 a.A.length c1,.slice A2 a.B.length c2]] w (Qg a.ok w):=by
  rcases QaT a.op with (h|h|h|h|h|h|h|h|h|h)|h
  · exact Qcw a A1 A2 c1 c2 w h hk ht hE
  · exact Qcn a A1 A2 c1 c2 w h hk ht hE
  · exact Qc7 a A1 A2 c1 c2 w h hk ht hE
  · exact Qc3 a A1 A2 c1 c2 w h hk ht hE
  · exact Qca a A1 A2 c1 c2 w h hk ht hE
  · exact QcS a A1 A2 c1 c2 w h hk ht hE
  · exact QcB a A1 A2 c1 c2 w h hk ht hE
  · exact Qcf a A1 A2 c1 c2 w h hk ht hE ia ib
  · exact QcZ a A1 A2 c1 c2 w h hk ht hE ia ib
  · exact Qbm a A1 A2 c1 c2 w h hk ht hE ia ib
  · exact QbG a A1 A2 c1 c2 w h hk ht hE
def Qgi (l:List Qa):Prop:=∀(u:Value) (B:Nat) (w:World),Km w->Ql l<=1048576->Rd w B (QH l) u->B<=w.heap.size->
  Calls Tryz.prog 46 #[u] w (Qg (Kp l) w)
theorem ww:∀l,Qgi l:=by
  refine Qa.ind fun l ih=>?_
  intro u B w hE hW hr hB
  obtain⟨A,cap,rfl,h0,h1,hrow⟩:=Qw hr
  unfold maxLen at h1
  have IH:=Qd ih
  have HW:=Qd hW
  have HE:=Qd hE
  have HO:=Qd (We l)
  clear ih hr hE hW
  go_enter Tryz.func46,Tryz.ntmps46
  go_wp2_with fail
  go_loopw [7] (fun i wr=>∃k:Nat,k<=l.length/\i= .int .i64 k/\Hid (∀(j:Nat) (h:j<l.length),j<k->l[j].ok)/\Qb [] w wr) (fun i _=>l.length-(intOf i).toNat)
  case atStart=>exact⟨0,Nat.zero_le _,rfl,fun j h h0=>absurd h0 (Nat.not_lt_zero _),Qb.refl _ _⟩
  case round=>
    obtain⟨k,hk,rfl,HN,hc⟩:=hrel
    by_cases hlt:k<l.length
    · obtain⟨b,off,uA,uB,rfl,hb,q0,q1,q2,q3,q4,q5,q6,q7,q8,q9,q10,rA,rB⟩:=Yc (hrow.cz hc hB) k hlt
      obtain⟨A1,cap1,rfl,_,_,_⟩:=Qw rA
      obtain⟨A2,cap2,rfl,_,_,_⟩:=Qw rB
      have hmem:=List.getElem_mem hlt
      have hin:=Qbx HW.out hmem
      have hcs:=hc.size
      have IS:=Qd (fun W (hW:Qb [] wr W)=>kQ l[k] A1 A2 cap1 cap2 W hin.2.2.1 hin.2.2.2.1 (HE.out.keep (hc.tz hW))
        (fun V hV=>(IH.out _ hmem).1 _ B V (HE.out.keep ((hc.tz hW).tz hV)) hin.1 (rA.cz (hW.tz hV) (by omega)) (by have:=hW.size;have:=hV.size;omega))
        (fun V hV=>(IH.out _ hmem).2 _ B V (HE.out.keep ((hc.tz hW).tz hV)) hin.2.1 (rB.cz (hW.tz hV) (by omega)) (by have:=hW.size;have:=hV.size;omega)))
      go_wp2_with fail
      refine(IS.out _ ((Qb.refl _ _).alloc _)).mono ?_
      rintro e w1 ⟨t,rfl,ht,c1⟩
      have HT:=Qd ht
      have d1:Qb [] w w1:=hc.tz (((Qb.refl _ _).alloc _).tz c1)
      clear ht c1
      cases t
      · go_wp2_with fail
        go_ret
        exact Qg.of ⟨fun h=>by simp at h,fun h=>by have:=HT.out.2 (HO.out.1 h _ hmem);simp at this⟩ d1
      · go_wp2_with fail
        go_roundw
        case rel=>exact⟨k+1,by omega,by go_num,Qd (fun j h hj=>(Nat.lt_succ_iff_lt_or_eq.1 hj).elim (HN.out j h) (fun e=>by subst e;exact HT.out.1 (by simp))),d1⟩
        case measure=>simp [intOf];omega
    · obtain rfl:k=l.length:=by omega
      go_wp2_with fail
      go_ret
      refine Qg.of ⟨fun _=>HO.out.2 fun a ha=>?_,fun _=>rfl⟩ hc
      obtain⟨j,hj,rfl⟩:=List.getElem_of_mem ha
      exact HN.out j hj hj
end Go.Proofs.YtlnkgcdeljhjcaaGreatDoor
