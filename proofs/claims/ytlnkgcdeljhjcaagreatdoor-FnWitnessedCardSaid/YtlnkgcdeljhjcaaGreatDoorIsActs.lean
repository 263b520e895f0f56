/- IsCall of both packages. Conditions: as stated. -/
import Derived.Test.YtlnkgcdeljhjcaaGreatDoorActOks
import Derived.Deep.Light
set_option maxRecDepth 100000
set_option maxHeartbeats 8000000
namespace Go.Proofs.YtlnkgcdeljhjcaaGreatDoor
open Go.RowKit

theorem yL {a:ByteArray} {l:List UInt8} (h:a=⟨l.toArray⟩):(a.toList==l)=true:=by
 rw [h,ByteArray.toList_eq];simp
theorem YF {a:ByteArray} {l:List UInt8} (h:a≠⟨l.toArray⟩):(a.toList==l)=false:=by
 rw [beq_eq_false_iff_ne,ByteArray.toList_eq]
 intro e
 exact h (ByteArray.ext (Array.toList_inj.1 (by simpa using e)))
theorem Uu {s:ByteArray}:(s.toList== [])=true↔s.size=0:=by
 rw [ByteArray.toList_eq,beq_iff_eq]
 exact⟨fun h=>congrArg List.length h,fun h=>List.eq_nil_of_length_eq_zero h⟩
theorem zp (m:ByteArray):
  (m=Q8/\(m.toList== [71,101,116])=true/\(m.toList== [80,117,116])=false/\(m.toList== [72,101,97,114])=false/\(m.toList== [76,111,97,100])=false)∨
  (m=Q7/\(m.toList== [71,101,116])=false/\(m.toList== [80,117,116])=true/\(m.toList== [72,101,97,114])=false/\(m.toList== [76,111,97,100])=false)∨
  (m=QJ/\(m.toList== [71,101,116])=false/\(m.toList== [80,117,116])=false/\(m.toList== [72,101,97,114])=true/\(m.toList== [76,111,97,100])=false)∨
  (m=QS/\(m.toList== [71,101,116])=false/\(m.toList== [80,117,116])=false/\(m.toList== [72,101,97,114])=false/\(m.toList== [76,111,97,100])=true)∨
  ((m≠Q8/\m≠Q7/\m≠QJ/\m≠QS)/\(m.toList== [71,101,116])=false/\(m.toList== [80,117,116])=false/\(m.toList== [72,101,97,114])=false/\(m.toList== [76,111,97,100])=false):=by
 by_cases h1:m=Q8
 ·exact .inl ⟨h1,yL h1,YF (by rw [h1];decide),YF (by rw [h1];decide),YF (by rw [h1];decide)⟩
 ·by_cases h2:m=Q7
  ·exact .inr (.inl ⟨h2,YF h1,yL h2,YF (by rw [h2];decide),YF (by rw [h2];decide)⟩)
  ·by_cases h3:m=QJ
   ·exact .inr (.inr (.inl ⟨h3,YF h1,YF h2,yL h3,YF (by rw [h3];decide)⟩))
   ·by_cases h4:m=QS
    ·exact .inr (.inr (.inr (.inl ⟨h4,YF h1,YF h2,YF h3,yL h4⟩)))
    ·exact .inr (.inr (.inr (.inr ⟨⟨h1,h2,h3,h4⟩,YF h1,YF h2,YF h3,YF h4⟩)))
theorem wH:Zk Q8=some 1:=(VD (k:=1) (by simp [XP])).2
theorem vn:Zk Q7=some 1:=(VD (k:=1) (by simp [XP])).2
theorem ze:Zk QJ=some 3:=(VD (k:=3) (by simp [XP])).2
theorem qN:Zk QS=some 4:=(VD (k:=4) (by simp [XP])).2
theorem xm {x:QQ} (h:x.method=Q8):QZ x↔(x.text.toList== [])=true/\qc x.key/\x.value=0:=by
 unfold QZ
 rw [h,wH,Uu]
 have h1:Q8≠QS:=by decide
 have h2:Q8≠Q7:=by decide
 have h3:Q8≠QJ:=by decide
 simp [h1,h2,h3]
theorem xK {x:QQ} (h:x.method=Q7):QZ x↔(x.text.toList== [])=true/\qc x.key/\ZM x.value:=by
 unfold QZ
 rw [h,vn,Uu]
 have h1:Q7≠QS:=by decide
 have h2:Q7≠Q8:=by decide
 have h3:Q7≠QJ:=by decide
 simp [h1,h2,h3]
theorem zN {x:QQ} (h:x.method=QJ):QZ x↔(x.text.toList== [])=true/\(x.key.toList== [])=true/\ZM x.value:=by
 unfold QZ
 rw [h,ze,Uu,Uu]
 have h1:QJ≠QS:=by decide
 have h2:QJ≠Q8:=by decide
 have h3:QJ≠Q7:=by decide
 simp [h1,h2,h3]
theorem zU {x:QQ} (h:x.method=QS):QZ x↔(x.key.toList== [])=true/\x.value=0:=by
 unfold QZ
 rw [h,qN,Uu]
 have h1:QS≠QJ:=by decide
 have h2:QS≠Q8:=by decide
 have h3:QS≠Q7:=by decide
 simp [h1,h2,h3]
theorem qs {x:QQ} (h:x.method≠Q8/\x.method≠Q7/\x.method≠QJ/\x.method≠QS):QZ x↔Zk x.method≠none/\(x.text.toList== [])=true/\(x.key.toList== [])=true/\x.value=0:=by
 unfold QZ
 rw [Uu,Uu]
 simp [h.1,h.2.1,h.2.2.1,h.2.2.2]
theorem Q2 (x:QQ) (w:World) (hs:x.key.size<=1048576):
  Calls Tryz.prog 117 #[.agg #[.string x.method,.string x.key,.int .i64 x.value,.string x.text]] w (Qg (QZ x) w):=by
 have NM:=Qd (fun W=>KT x.key W hs)
 have NU:=Qd (fun W=>XZ x.value W)
 have AB:=Qd (fun W=>Yy x.method W)
 have fin:∀(t:Bool) (W:World),Qb [] w W->(t=true↔QZ x)->Qg (QZ x) w (.returned (.bool t)) W:=fun t W hc h=>⟨t,rfl,h,hc⟩
 have FIN:=Qd fin
 clear fin
 rcases zp x.method with ⟨hm,m1,m2,m3,m4⟩|⟨hm,m1,m2,m3,m4⟩|⟨hm,m1,m2,m3,m4⟩|⟨hm,m1,m2,m3,m4⟩|⟨hm,m1,m2,m3,m4⟩
 case' inl=>
  unfold Xz at AB
  rw [(hm ▸ wH:Zk x.method=some 1)] at AB
  have HO:=Qd (xm hm)
  clear hm
 case' inr.inl=>
  unfold Xz at AB
  rw [(hm ▸ vn:Zk x.method=some 1)] at AB
  have HO:=Qd (xK hm)
  clear hm
 case' inr.inr.inl=>
  unfold Xz at AB
  rw [(hm ▸ ze:Zk x.method=some 3)] at AB
  have HO:=Qd (zN hm)
  clear hm
 case' inr.inr.inr.inl=>
  unfold Xz at AB
  rw [(hm ▸ qN:Zk x.method=some 4)] at AB
  have HO:=Qd (zU hm)
  clear hm
 case' inr.inr.inr.inr=>
  have HO:=Qd (qs hm)
  clear hm
  cases ha:Zk x.method
  case' none=>
   unfold Xz at AB
   rw [ha] at AB HO
   clear ha
  case' some k=>
   obtain⟨j,hj,rfl,_⟩:=UI ha
   unfold Xz at AB
   rw [ha] at AB HO
   clear ha
 all_goals
  go_enter Tryz.func117,Tryz.ntmps117
  go_wp2_with fail
  refine(AB.out _).mono ?_
  rintro e w1 ⟨rfl,c1⟩
  have p0:w1.cell? ⟨w.heap.size,0,none⟩=some (.string x.method):=(c1.cell (p:=⟨w.heap.size,0,none⟩) (by simp) (by simp)).trans (by go_simp)
  have p1:w1.cell? ⟨w.heap.size,1,none⟩=some (.string x.key):=(c1.cell (p:=⟨w.heap.size,1,none⟩) (by simp) (by simp)).trans (by go_simp)
  have p2:w1.cell? ⟨w.heap.size,2,none⟩=some (.int .i64 x.value):=(c1.cell (p:=⟨w.heap.size,2,none⟩) (by simp) (by simp)).trans (by go_simp)
  have p3:w1.cell? ⟨w.heap.size,3,none⟩=some (.string x.text):=(c1.cell (p:=⟨w.heap.size,3,none⟩) (by simp) (by simp)).trans (by go_simp)
  have d1:Qb [] w w1:=((Qb.refl _ _).alloc _).tz c1
  clear c1
  go_wp2_with fail
  all_goals first
   |(go_ret;refine FIN.out _ _ d1 ?_;rw [HO.out];(try have h1:=HT.out);(try simp at h1);(try have h2:=HU.out);first|(simp [*];done)|(exfalso;simp_all;done))
   | (refine(NM.out _).mono ?_
      rintro e w2 ⟨t,rfl,ht,rfl⟩
      have HT:=Qd ht
      clear ht
      cases t
      all_goals
       go_wp2_with fail
       all_goals first
        |(go_ret;refine FIN.out _ _ d1 ?_;rw [HO.out];(try have h1:=HT.out);(try simp at h1);(try have h2:=HU.out);first|(simp [*];done)|(exfalso;simp_all;done))
        | (refine(NU.out _).mono ?_
           rintro e w3 ⟨t,rfl,ht,rfl⟩
           have HU:=Qd ht
           clear ht
           go_wp2_with fail
           all_goals(go_ret;refine FIN.out _ _ d1 ?_;rw [HO.out];(try have h1:=HT.out);(try simp at h1);(try have h2:=HU.out);first|(simp [*];done)|(exfalso;simp_all;done))))
   | (refine(NU.out _).mono ?_
      rintro e w2 ⟨t,rfl,ht,rfl⟩
      have HU:=Qd ht
      clear ht
      go_wp2_with fail
      all_goals(go_ret;refine FIN.out _ _ d1 ?_;rw [HO.out];(try have h1:=HT.out);(try simp at h1);(try have h2:=HU.out);first|(simp [*];done)|(exfalso;simp_all;done)))
theorem VW (s:ByteArray) (k:Int) (ha:Zk s=some k):∃v:Int,(v==0)=false/\∀W,Calls Tryz.prog 231 #[.string s] W fun e w'=>e= .returned (.int .i64 v)/\Qb [] W w':=by
 refine⟨2 ^ k.toNat,beq_eq_false_iff_ne.2 (Int.ne_of_gt (Int.pow_pos (by decide))),fun W=>?_⟩
 have h:=K0 s W
 rw [ha] at h
 exact h
theorem yu (x:QQ) (w:World) (hs:x.key.size<=1048576):
  Calls Tryz.prog 201 #[.agg #[.string x.method,.string x.key,.int .i64 x.value,.string x.text]] w (Qg (QZ x) w):=by
 have NM:=Qd (fun W=>KW x.key W hs)
 have fin:∀(t:Bool) (W:World),Qb [] w W->(t=true↔QZ x)->Qg (QZ x) w (.returned (.bool t)) W:=fun t W hc h=>⟨t,rfl,h,hc⟩
 have FIN:=Qd fin
 clear fin
 rcases zp x.method with ⟨hm,m1,m2,m3,m4⟩|⟨hm,m1,m2,m3,m4⟩|⟨hm,m1,m2,m3,m4⟩|⟨hm,m1,m2,m3,m4⟩|⟨hm,m1,m2,m3,m4⟩
 case' inl=>
  obtain⟨v,hv0,WO⟩:=VW x.method _ (hm ▸ wH)
  have WO:=Qd WO
  have HO:=Qd (xm hm)
  clear hm
 case' inr.inl=>
  obtain⟨v,hv0,WO⟩:=VW x.method _ (hm ▸ vn)
  have WO:=Qd WO
  have HO:=Qd (xK hm)
  clear hm
 case' inr.inr.inl=>
  obtain⟨v,hv0,WO⟩:=VW x.method _ (hm ▸ ze)
  have WO:=Qd WO
  have HO:=Qd (zN hm)
  clear hm
 case' inr.inr.inr.inl=>
  obtain⟨v,hv0,WO⟩:=VW x.method _ (hm ▸ qN)
  have WO:=Qd WO
  have HO:=Qd (zU hm)
  clear hm
 case' inr.inr.inr.inr=>
  have HO:=Qd (qs hm)
  clear hm
  cases ha:Zk x.method
  case' none=>
   have WO:=Qd (fun W=>K0 x.method W)
   rw [ha] at WO HO
   clear ha
  case' some k=>
   obtain⟨v,hv0,WO⟩:=VW x.method _ ha
   have WO:=Qd WO
   rw [ha] at HO
   clear ha
 all_goals
  go_enter Tryz.func201,Tryz.ntmps201
  go_wp2_with fail
  refine(WO.out _).mono ?_
  rintro e w1 ⟨rfl,c1⟩
  have p0:w1.cell? ⟨w.heap.size,0,none⟩=some (.string x.method):=(c1.cell (p:=⟨w.heap.size,0,none⟩) (by simp) (by simp)).trans (by go_simp)
  have p1:w1.cell? ⟨w.heap.size,1,none⟩=some (.string x.key):=(c1.cell (p:=⟨w.heap.size,1,none⟩) (by simp) (by simp)).trans (by go_simp)
  have p2:w1.cell? ⟨w.heap.size,2,none⟩=some (.int .i64 x.value):=(c1.cell (p:=⟨w.heap.size,2,none⟩) (by simp) (by simp)).trans (by go_simp)
  have p3:w1.cell? ⟨w.heap.size,3,none⟩=some (.string x.text):=(c1.cell (p:=⟨w.heap.size,3,none⟩) (by simp) (by simp)).trans (by go_simp)
  have d1:Qb [] w w1:=((Qb.refl _ _).alloc _).tz c1
  clear c1
  go_wp2_with fail
  all_goals first
   |(go_ret;refine FIN.out _ _ d1 ?_;rw [HO.out];(try have h1:=HT.out);(try simp at h1);(try unfold ZM);first|(simp [*];done)|(simp [*];omega)|(exfalso;simp_all;done)|(exfalso;simp_all;omega))
   | (refine(NM.out _).mono ?_
      rintro e w2 ⟨t,rfl,ht,rfl⟩
      have HT:=Qd ht
      clear ht
      cases t
      all_goals
       go_wp2_with fail
       all_goals(go_ret;refine FIN.out _ _ d1 ?_;rw [HO.out];(try have h1:=HT.out);(try simp at h1);(try unfold ZM);first|(simp [*];done)|(simp [*];omega)|(exfalso;simp_all;done)|(exfalso;simp_all;omega)))
theorem Yt {s:ByteArray}:s.toList=[] ↔s.size=0:=by
 rw [ByteArray.toList_eq]
 exact⟨fun h=>congrArg List.length h,fun h=>List.eq_nil_of_length_eq_zero h⟩
open Classical in
theorem ud (c:QQ) (W:World):(binOp .eql 42 (.agg #[.string c.method,.string c.key,.int .i64 c.value,.string c.text]) (.agg #[.string ⟨#[]⟩,.string ⟨#[]⟩,.int .i64 0,.string ⟨#[]⟩])).run Tryz.prog W= .ok (.bool (decide (Up c))) W:=by
 have h:∀n:Nat,(Op.equalIn (n+2) 42 (.agg #[.string c.method,.string c.key,.int .i64 c.value,.string c.text]) (.agg #[.string ⟨#[]⟩,.string ⟨#[]⟩,.int .i64 0,.string ⟨#[]⟩])).run Tryz.prog W= .ok (decide (Up c)) W:=fun n=>by
  rw [run_equalIn_struct W (n+1) 42 _ _ (by simp only [Program.fieldsOf,Tryz.underlying42]) (by kernel_rfl)]
  simp [go_sem,Program.fieldsOf,Tryz.underlying42]
  unfold Up
  rw [<-Yt, <-Yt, <-Yt]
  by_cases h1:c.method.toList=[] <;>by_cases h2:c.key.toList=[] <;>by_cases h3:c.value=0<;>by_cases h4:c.text.toList=[] <;>simp [h1,h2,h3,h4]
 simp only [binOp]
 simp [Op.equal,Op.maxDepth,h 9998]
theorem ja (c:QQ) (h:Up c) (W:World):(binOp .eql 42 (.agg #[.string c.method,.string c.key,.int .i64 c.value,.string c.text]) (.agg #[.string ⟨#[]⟩,.string ⟨#[]⟩,.int .i64 0,.string ⟨#[]⟩])).run Tryz.prog W= .ok (.bool true) W:=by
 rw [ud];simp [h]
theorem Qby (c:QQ) (h:¬Up c) (W:World):(binOp .eql 42 (.agg #[.string c.method,.string c.key,.int .i64 c.value,.string c.text]) (.agg #[.string ⟨#[]⟩,.string ⟨#[]⟩,.int .i64 0,.string ⟨#[]⟩])).run Tryz.prog W= .ok (.bool false) W:=by
 rw [ud];simp [h]
open Classical in
theorem uL (c:QQ) (W:World):(binOp .neq 42 (.agg #[.string c.method,.string c.key,.int .i64 c.value,.string c.text]) (.agg #[.string ⟨#[]⟩,.string ⟨#[]⟩,.int .i64 0,.string ⟨#[]⟩])).run Tryz.prog W= .ok (.bool (!(decide (Up c)))) W:=by
 have h:∀n:Nat,(Op.equalIn (n+2) 42 (.agg #[.string c.method,.string c.key,.int .i64 c.value,.string c.text]) (.agg #[.string ⟨#[]⟩,.string ⟨#[]⟩,.int .i64 0,.string ⟨#[]⟩])).run Tryz.prog W= .ok (decide (Up c)) W:=fun n=>by
  rw [run_equalIn_struct W (n+1) 42 _ _ (by simp only [Program.fieldsOf,Tryz.underlying42]) (by kernel_rfl)]
  simp [go_sem,Program.fieldsOf,Tryz.underlying42]
  unfold Up
  rw [<-Yt, <-Yt, <-Yt]
  by_cases h1:c.method.toList=[] <;>by_cases h2:c.key.toList=[] <;>by_cases h3:c.value=0<;>by_cases h4:c.text.toList=[] <;>simp [h1,h2,h3,h4]
 simp only [binOp]
 simp [Op.equal,Op.maxDepth,h 9998]
theorem jx (c:QQ) (h:Up c) (W:World):(binOp .neq 42 (.agg #[.string c.method,.string c.key,.int .i64 c.value,.string c.text]) (.agg #[.string ⟨#[]⟩,.string ⟨#[]⟩,.int .i64 0,.string ⟨#[]⟩])).run Tryz.prog W= .ok (.bool false) W:=by
 rw [uL];simp [h]
theorem QaR (c:QQ) (h:¬Up c) (W:World):(binOp .neq 42 (.agg #[.string c.method,.string c.key,.int .i64 c.value,.string c.text]) (.agg #[.string ⟨#[]⟩,.string ⟨#[]⟩,.int .i64 0,.string ⟨#[]⟩])).run Tryz.prog W= .ok (.bool true) W:=by
 rw [uL];simp [h]
def Vk (other word call face first second:Bool):Prop:=
 [(false,true,false,false,false,false),(false,false,false,false,false,false),(true,false,false,false,false,false),(false,false,false,true,false,false),(false,false,true,false,false,false),(false,false,false,false,true,true),(false,false,false,false,true,false)].contains (other,word,call,face,first,second)=true
theorem Vk.cases {o w c f a b:Bool} (h:Vk o w c f a b):(o=false/\w=true/\c=false/\f=false/\a=false/\b=false)∨(o=false/\w=false/\c=false/\f=false/\a=false/\b=false)∨(o=true/\w=false/\c=false/\f=false/\a=false/\b=false)∨
  (o=false/\w=false/\c=false/\f=true/\a=false/\b=false)∨(o=false/\w=false/\c=true/\f=false/\a=false/\b=false)∨(o=false/\w=false/\c=false/\f=false/\a=true/\b=true)∨(o=false/\w=false/\c=false/\f=false/\a=true/\b=false):=by
 revert h
 cases o<;>cases w<;>cases c<;>cases f<;>cases a<;>cases b<;>simp [Vk]
theorem qu (c:QQ) (w:World):
  Calls Tryz.prog 170 #[.agg #[.string c.method,.string c.key,.int .i64 c.value,.string c.text]] w (Qg (Up c) w):=by
 by_cases h:Up c
 ·have he:=ja c h
  have H:=Qd h
  clear h
  go_enter Tryz.func170,Tryz.ntmps170
  go_wp2_with fail
  go_ret
  exact⟨_,rfl,⟨fun _=>H.out,fun _=>rfl⟩,(Qb.refl _ _).alloc _⟩
 ·have he:=Qby c h
  have H:=Qd h
  clear h
  go_enter Tryz.func170,Tryz.ntmps170
  go_wp2_with fail
  go_ret
  exact⟨_,rfl,⟨fun h=>by simp at h,fun h=>absurd h H.out⟩,(Qb.refl _ _).alloc _⟩
theorem Xb (a:Qa) (A1 A2:Option Addr) (c1 c2:Nat) (o wd cl f a1 b1:Bool) (hf:Vk o wd cl f a1 b1) (w:World):
  Calls Tryz.prog 203 #[.agg #[.int .i64 a.op,.int .i64 a.slot,.int .i64 a.other,.string a.word,.string a.call.method,.string a.call.key,.int .i64 a.call.value,.string a.call.text,.int .i64 a.face,.slice A1 a.A.length c1,.slice A2 a.B.length c2],.bool o,.bool wd,.bool cl,.bool f,.bool a1,.bool b1] w (Qg (QB a o wd cl f a1 b1) w):=by
 have fin:∀(t:Bool) (W:World),Qb [] w W->(t=true↔QB a o wd cl f a1 b1)->Qg (QB a o wd cl f a1 b1) w (.returned (.bool t)) W:=fun t W hc h=>⟨t,rfl,h,hc⟩
 have FIN:=Qd fin
 clear fin
 by_cases hz:Up a.call
 ·have he:=jx a.call hz
  rcases hf.cases with ⟨rfl,rfl,rfl,rfl,rfl,rfl⟩|⟨rfl,rfl,rfl,rfl,rfl,rfl⟩|⟨rfl,rfl,rfl,rfl,rfl,rfl⟩|⟨rfl,rfl,rfl,rfl,rfl,rfl⟩|⟨rfl,rfl,rfl,rfl,rfl,rfl⟩|⟨rfl,rfl,rfl,rfl,rfl,rfl⟩|⟨rfl,rfl,rfl,rfl,rfl,rfl⟩
  all_goals
   clear hf
   go_enter Tryz.func203,Tryz.ntmps203
   go_wp2_with fail
   all_goals(go_ret;refine FIN.out _ _ ((Qb.refl _ _).alloc _) ?_;unfold QB;rw [<-Yt];first|(simp [*];done)|(simp_all;done))
 ·have he:=QaR a.call hz
  rcases hf.cases with ⟨rfl,rfl,rfl,rfl,rfl,rfl⟩|⟨rfl,rfl,rfl,rfl,rfl,rfl⟩|⟨rfl,rfl,rfl,rfl,rfl,rfl⟩|⟨rfl,rfl,rfl,rfl,rfl,rfl⟩|⟨rfl,rfl,rfl,rfl,rfl,rfl⟩|⟨rfl,rfl,rfl,rfl,rfl,rfl⟩|⟨rfl,rfl,rfl,rfl,rfl,rfl⟩
  all_goals
   clear hf
   go_enter Tryz.func203,Tryz.ntmps203
   go_wp2_with fail
   all_goals(go_ret;refine FIN.out _ _ ((Qb.refl _ _).alloc _) ?_;unfold QB;rw [<-Yt];first|(simp [*];done)|(simp_all;done))
theorem ZU (a:Qa) (A1 A2:Option Addr) (c1 c2:Nat) (sl o wd cl f a1 b1:Bool) (hf:Vk o wd cl f a1 b1) (hsl:sl=!a1) (w:World):
  Calls Tryz.prog 115 #[.agg #[.int .i64 a.op,.int .i64 a.slot,.int .i64 a.other,.string a.word,.string a.call.method,.string a.call.key,.int .i64 a.call.value,.string a.call.text,.int .i64 a.face,.slice A1 a.A.length c1,.slice A2 a.B.length c2],.bool sl,.bool o,.bool wd,.bool cl,.bool f,.bool a1,.bool b1] w (Qg ((sl=true∨a.slot=0)/\QB a o wd cl f a1 b1) w):=by
 obtain⟨P,hP⟩:∃P,P=((sl=true∨a.slot=0)/\QB a o wd cl f a1 b1):=⟨_,rfl⟩
 rw [<-hP]
 have HP:Hid (P↔(sl=true∨a.slot=0)/\QB a o wd cl f a1 b1):=by show _↔_;rw [hP]
 clear hP
 have fin:∀(t:Bool) (W:World),Qb [] w W->(t=true↔P)->Qg P w (.returned (.bool t)) W:=fun t W hc h=>⟨t,rfl,h,hc⟩
 have FIN:=Qd fin
 clear fin
 by_cases hz:Up a.call
 ·have ZC:=Qd (fun W=>(qu a.call W).mono (Qg.pos hz))
  rcases hf.cases with ⟨rfl,rfl,rfl,rfl,rfl,rfl⟩|⟨rfl,rfl,rfl,rfl,rfl,rfl⟩|⟨rfl,rfl,rfl,rfl,rfl,rfl⟩|⟨rfl,rfl,rfl,rfl,rfl,rfl⟩|⟨rfl,rfl,rfl,rfl,rfl,rfl⟩|⟨rfl,rfl,rfl,rfl,rfl,rfl⟩|⟨rfl,rfl,rfl,rfl,rfl,rfl⟩
  all_goals
   clear hf
   simp at hsl
   subst hsl
   go_enter Tryz.func115,Tryz.ntmps115
   go_wp2_with fail
   all_goals first
    |(go_ret;refine FIN.out _ _ ((Qb.refl _ _).alloc _) ?_;rw [HP.out];unfold QB;rw [<-Yt];first|(simp [*];done)|(simp_all;done))
    | (refine(ZC.out _).mono ?_
       rintro e w1 ⟨rfl,k1⟩
       have q8:w1.cell? ⟨w.heap.size,8,none⟩=some (.int .i64 a.face):=(k1.cell (p:=⟨w.heap.size,8,none⟩) (by simp) (by simp)).trans (by go_simp)
       have q9:w1.cell? ⟨w.heap.size,9,none⟩=some (.slice A1 a.A.length c1):=(k1.cell (p:=⟨w.heap.size,9,none⟩) (by simp) (by simp)).trans (by go_simp)
       have q10:w1.cell? ⟨w.heap.size,10,none⟩=some (.slice A2 a.B.length c2):=(k1.cell (p:=⟨w.heap.size,10,none⟩) (by simp) (by simp)).trans (by go_simp)
       have d1:Qb [] w w1:=((Qb.refl _ _).alloc _).tz k1
       clear k1
       go_wp2_with fail
       all_goals(go_ret;refine FIN.out _ _ d1 ?_;rw [HP.out];unfold QB;rw [<-Yt];first|(simp [*];done)|(simp_all;done)))
 ·have ZC:=Qd (fun W=>(qu a.call W).mono (Qg.neg hz))
  rcases hf.cases with ⟨rfl,rfl,rfl,rfl,rfl,rfl⟩|⟨rfl,rfl,rfl,rfl,rfl,rfl⟩|⟨rfl,rfl,rfl,rfl,rfl,rfl⟩|⟨rfl,rfl,rfl,rfl,rfl,rfl⟩|⟨rfl,rfl,rfl,rfl,rfl,rfl⟩|⟨rfl,rfl,rfl,rfl,rfl,rfl⟩|⟨rfl,rfl,rfl,rfl,rfl,rfl⟩
  all_goals
   clear hf
   simp at hsl
   subst hsl
   go_enter Tryz.func115,Tryz.ntmps115
   go_wp2_with fail
   all_goals first
    |(go_ret;refine FIN.out _ _ ((Qb.refl _ _).alloc _) ?_;rw [HP.out];unfold QB;rw [<-Yt];first|(simp [*];done)|(simp_all;done))
    | (refine(ZC.out _).mono ?_
       rintro e w1 ⟨rfl,k1⟩
       have q8:w1.cell? ⟨w.heap.size,8,none⟩=some (.int .i64 a.face):=(k1.cell (p:=⟨w.heap.size,8,none⟩) (by simp) (by simp)).trans (by go_simp)
       have q9:w1.cell? ⟨w.heap.size,9,none⟩=some (.slice A1 a.A.length c1):=(k1.cell (p:=⟨w.heap.size,9,none⟩) (by simp) (by simp)).trans (by go_simp)
       have q10:w1.cell? ⟨w.heap.size,10,none⟩=some (.slice A2 a.B.length c2):=(k1.cell (p:=⟨w.heap.size,10,none⟩) (by simp) (by simp)).trans (by go_simp)
       have d1:Qb [] w w1:=((Qb.refl _ _).alloc _).tz k1
       clear k1
       go_wp2_with fail
       all_goals(go_ret;refine FIN.out _ _ d1 ?_;rw [HP.out];unfold QB;rw [<-Yt];first|(simp [*];done)|(simp_all;done)))
theorem Qg.of {p:Prop} {t:Bool} {w w':World} (h:t=true↔p) (hc:Qb [] w w'):Qg p w (.returned (.bool t)) w':=⟨t,rfl,h,hc⟩
def Qhg (W:World) (g:Nat) (a:Qa) (A1 A2:Option Addr) (c1 c2:Nat):Prop:=W.cell? ⟨g,0,none⟩=some (.int .i64 a.op)/\W.cell? ⟨g,1,none⟩=some (.int .i64 a.slot)/\W.cell? ⟨g,2,none⟩=some (.int .i64 a.other)/\W.cell? ⟨g,3,none⟩=some (.string a.word)/\W.cell? ⟨g,4,none⟩=some (.string a.call.method)/\W.cell? ⟨g,5,none⟩=some (.string a.call.key)/\W.cell? ⟨g,6,none⟩=some (.int .i64 a.call.value)/\W.cell? ⟨g,7,none⟩=some (.string a.call.text)/\W.cell? ⟨g,8,none⟩=some (.int .i64 a.face)/\W.cell? ⟨g,9,none⟩=some (.slice A1 a.A.length c1)/\W.cell? ⟨g,10,none⟩=some (.slice A2 a.B.length c2)
theorem Xu (a:Qa) (A1 A2:Option Addr) (c1 c2:Nat) (w:World):∃wb,wb=w.alloc (.cells #[.int .i64 a.op,.int .i64 a.slot,.int .i64 a.other,.string a.word,.string a.call.method,.string a.call.key,.int .i64 a.call.value,.string a.call.text,.int .i64 a.face,.slice A1 a.A.length c1,.slice A2 a.B.length c2] 44)/\Qb [] w wb/\w.heap.size<wb.heap.size/\Hid (∀W,Qb [] wb W->Qhg W w.heap.size a A1 A2 c1 c2):=by
 refine⟨_,rfl,(Qb.refl [] w).alloc _,by simp,Qd (fun W hc=>?_)⟩
 have k:∀o,_:=hc.ce w.heap.size
 exact⟨(k 0).trans (by go_simp),(k 1).trans (by go_simp),(k 2).trans (by go_simp),(k 3).trans (by go_simp),(k 4).trans (by go_simp),(k 5).trans (by go_simp),(k 6).trans (by go_simp),(k 7).trans (by go_simp),(k 8).trans (by go_simp),(k 9).trans (by go_simp),(k 10).trans (by go_simp)⟩
def yv (o:Int) (b1 b2 b3 b4 b5 b6 b7 b8 b9 b10:Bool):Prop:=(o==1)=b1/\(o==2)=b2/\(o==3)=b3/\(o==4)=b4/\(o==5)=b5/\(o==6)=b6/\(o==7)=b7/\(o==8)=b8/\(o==9)=b9/\(o==10)=b10
theorem Qfo {o:Int} (h:o=1):yv o true false false false false false false false false false:=by subst h;exact⟨rfl,rfl,rfl,rfl,rfl,rfl,rfl,rfl,rfl,rfl⟩
theorem QeP {o:Int} (h:o=2):yv o false true false false false false false false false false:=by subst h;exact⟨rfl,rfl,rfl,rfl,rfl,rfl,rfl,rfl,rfl,rfl⟩
theorem Qfg {o:Int} (h:o=3):yv o false false true false false false false false false false:=by subst h;exact⟨rfl,rfl,rfl,rfl,rfl,rfl,rfl,rfl,rfl,rfl⟩
theorem QfG {o:Int} (h:o=4):yv o false false false true false false false false false false:=by subst h;exact⟨rfl,rfl,rfl,rfl,rfl,rfl,rfl,rfl,rfl,rfl⟩
theorem QeQ {o:Int} (h:o=5):yv o false false false false true false false false false false:=by subst h;exact⟨rfl,rfl,rfl,rfl,rfl,rfl,rfl,rfl,rfl,rfl⟩
theorem QeW {o:Int} (h:o=6):yv o false false false false false true false false false false:=by subst h;exact⟨rfl,rfl,rfl,rfl,rfl,rfl,rfl,rfl,rfl,rfl⟩
theorem Qfu {o:Int} (h:o=7):yv o false false false false false false true false false false:=by subst h;exact⟨rfl,rfl,rfl,rfl,rfl,rfl,rfl,rfl,rfl,rfl⟩
theorem QeO {o:Int} (h:o=8):yv o false false false false false false false true false false:=by subst h;exact⟨rfl,rfl,rfl,rfl,rfl,rfl,rfl,rfl,rfl,rfl⟩
theorem Qe2 {o:Int} (h:o=9):yv o false false false false false false false false true false:=by subst h;exact⟨rfl,rfl,rfl,rfl,rfl,rfl,rfl,rfl,rfl,rfl⟩
theorem QdH {o:Int} (h:o=10):yv o false false false false false false false false false true:=by subst h;exact⟨rfl,rfl,rfl,rfl,rfl,rfl,rfl,rfl,rfl,rfl⟩
theorem YN {P Q:Prop} (b:Q) (h:Q->P:=by intro hd;go_ret;refine Qg.of ?_ hd;clear hd;have hact:=HA.out;rw [hact];(try have h1:=HS.out);(try simp at h1);(try have h2:=HK.out);(try simp at h2);(try have h3:=HL.out);(try simp at h3);(try have h4:=hz);(try simp at h4);clear hact;go_light;(try clear BX);(try clear CL);(try clear IC);(try clear PC);(try clear IA);(try clear IB);(try clear HA);(try clear p0 p1 p2 p3 p4 p5 p6 p7 p8 p9 p10);first|(simp [*];done)|(simp_all;done)):P:=h b
theorem XV {P Q:Prop} (b:Q) (h:Q->P:=by intro hd;go_ret;refine Qg.of ?_ (db.tz hd);clear hd;have hact:=HA.out;rw [hact];(try have h1:=HS.out);(try simp at h1);(try have h2:=HK.out);(try simp at h2);(try have h3:=HT.out);clear hact;go_light;(try clear BX);(try clear CL);(try clear IC);(try clear PC);(try clear IA);(try clear IB);(try clear HA);(try clear p0 p1 p2 p3 p4 p5 p6 p7 p8 p9 p10);first|(simp [*];done)|(simp_all;done)):P:=h b
theorem KM:Vk false true false false false false:=by unfold Vk;decide
theorem KR:Vk false false false false false false:=by unfold Vk;decide
theorem JI:Vk true false false false false false:=by unfold Vk;decide
theorem Gt:Vk false false false true false false:=by unfold Vk;decide
theorem Kw:Vk false false true false false false:=by unfold Vk;decide
theorem J0:Vk false false false false true true:=by unfold Vk;decide
theorem uc:Vk false false false false true false:=by unfold Vk;decide
theorem XS (x:QQ) (w:World) (hk:x.key.size<=1048576) (ht:x.text.size<=1048575):
  Calls Tryz.prog 157 #[.agg #[.string x.method,.string x.key,.int .i64 x.value,.string x.text]] w (Qg (Us x) w):=by
 have PC:=Qd (fun W=>J6 x.text W ht)
 have IC:=Qd (fun W=>yu x W hk)
 have HP:Hid (Us x↔QZ x/\(x.text.toList=[] ∨(QA x.text).isSome=true)):=by
  show _↔_
  unfold Us
  rw [Yt]
  cases QA x.text<;>simp
 go_enter Tryz.func157,Tryz.ntmps157
 go_wp2_with fail
 refine(PC.out _).mono ?_
 rintro e w1 ⟨l,A,cap,_,rfl,n1⟩
 have c1:=n1.chg
 clear n1
 have p0:w1.cell? ⟨w.heap.size,0,none⟩=some (.string x.method):=(c1.cell (p:=⟨w.heap.size,0,none⟩) (by simp) (by simp)).trans (by go_simp)
 have p1:w1.cell? ⟨w.heap.size,1,none⟩=some (.string x.key):=(c1.cell (p:=⟨w.heap.size,1,none⟩) (by simp) (by simp)).trans (by go_simp)
 have p2:w1.cell? ⟨w.heap.size,2,none⟩=some (.int .i64 x.value):=(c1.cell (p:=⟨w.heap.size,2,none⟩) (by simp) (by simp)).trans (by go_simp)
 have p3:w1.cell? ⟨w.heap.size,3,none⟩=some (.string x.text):=(c1.cell (p:=⟨w.heap.size,3,none⟩) (by simp) (by simp)).trans (by go_simp)
 have hlt:w.heap.size<w1.heap.size:=by have:=c1.size;simp at this;omega
 have d1:Qb [] w w1:=((Qb.refl _ _).alloc _).tz c1
 obtain⟨ok,hok⟩:∃ok,ok=(QA x.text).isSome:=⟨_,rfl⟩
 rw [<-hok] at HP
 rw [<-hok]
 clear hok c1
 go_wp2_with fail
 refine(IC.out _).mono ?_
 rintro e w2 ⟨t,rfl,ht2,c2⟩
 have q3:=(c2.cell (p:=⟨w.heap.size,3,none⟩) hlt (by simp)).trans p3
 have HT:=Qd ht2
 have d2:Qb [] w w2:=d1.tz c2
 clear ht2
 cases t
 all_goals
  go_wp2_with fail
  all_goals
   go_ret
   refine Qg.of ?_ d2
   rw [HP.out]
   have h1:=HT.out
   simp at h1
   first|(simp [*];done)|(simp_all;done)
theorem Qb4 (a:Qa) (A1 A2:Option Addr) (c1 c2:Nat) (w:World) (h:a.op=1) (hk:a.call.key.size<=1048576) (ht:a.call.text.size<=1048575):
  Calls Tryz.prog 159 #[.agg #[.int .i64 a.op,.int .i64 a.slot,.int .i64 a.other,.string a.word,.string a.call.method,.string a.call.key,.int .i64 a.call.value,.string a.call.text,.int .i64 a.face,.slice A1 a.A.length c1,.slice A2 a.B.length c2]] w (Qg (ZG a) w):=by
 have CL:=Qd (fun W=>XS a.call W hk ht)
 have HA:=Qd (yP h)
 clear hk ht
 obtain⟨n1,n2,n3,n4,n5,n6,n7,n8,n9,n10⟩:=Qfo h
 clear h
 go_enter Tryz.func159,Tryz.ntmps159
 go_wp2_with fail
 obtain⟨wb,hwb,db,sb,BX⟩:=Xu a A1 A2 c1 c2 w
 rw [<-hwb]
 clear hwb
 refine(QR a.word _).mono ?_
 rintro e w1 ⟨he,k1⟩
 subst he
 have d1:Qb [] wb w1:=k1
 obtain⟨kb,hkb⟩:∃b,b=(Qq a.word).isSome:=⟨_,rfl⟩
 have HK:Hid (kb=true↔Qq a.word≠none):=by show _↔_;rw [hkb];cases Qq a.word<;>simp
 obtain⟨kz,hkz⟩:∃z,z=(Qq a.word).getD 0:=⟨_,rfl⟩
 rw [<-hkb, <-hkz]
 clear hkb hkz k1
 obtain⟨p0,p1,p2,p3,p4,p5,p6,p7,p8,p9,p10⟩:=BX.out _ d1
 go_wp2_with fail
 refine(QP a.word _).mono ?_
 rintro e w2 ⟨he,k2⟩
 subst he
 have d2:Qb [] wb w2:=d1.tz k2
 obtain⟨lb,hlb⟩:∃b,b=((Qk a.word).map (·.1)).isSome:=⟨_,rfl⟩
 have HL:Hid (lb=true↔Qk a.word≠none):=by show _↔_;rw [hlb];cases Qk a.word<;>simp
 obtain⟨lz,hlz⟩:∃z,z=((Qk a.word).map (·.1)).getD 0:=⟨_,rfl⟩
 rw [<-hlb, <-hlz]
 clear hlb hlz k2 p0 p1 p2 p3 p4 p5 p6 p7 p8 p9 p10
 obtain⟨p0,p1,p2,p3,p4,p5,p6,p7,p8,p9,p10⟩:=BX.out _ d2
 go_wp2_with fail
 refine(Y6 a.slot 0 2 _).mono ?_
 rintro e w3 ⟨sl,rfl,hsl,rfl⟩
 have HS:Hid (sl=true↔QF a.slot):=hsl
 have d3:Qb [] w w3:=db.tz d2
 clear hsl
 cases sl<;>cases kb
 all_goals
  go_wp2_with fail
  all_goals first
   |exact YN (d3)
   |(refine(Xb a A1 A2 c1 c2 _ _ _ _ _ _ KM _).mono ?_;rintro e w4 ⟨t,rfl,ht4,c4⟩;go_wp2_with fail;all_goals exact YN ((d3).tz c4))
theorem Qb7 (a:Qa) (A1 A2:Option Addr) (c1 c2:Nat) (w:World) (h:a.op=3) (hk:a.call.key.size<=1048576) (ht:a.call.text.size<=1048575):
  Calls Tryz.prog 159 #[.agg #[.int .i64 a.op,.int .i64 a.slot,.int .i64 a.other,.string a.word,.string a.call.method,.string a.call.key,.int .i64 a.call.value,.string a.call.text,.int .i64 a.face,.slice A1 a.A.length c1,.slice A2 a.B.length c2]] w (Qg (ZG a) w):=by
 have CL:=Qd (fun W=>XS a.call W hk ht)
 have HA:=Qd (jb (.inl h))
 clear hk ht
 obtain⟨n1,n2,n3,n4,n5,n6,n7,n8,n9,n10⟩:=Qfg h
 clear h
 go_enter Tryz.func159,Tryz.ntmps159
 go_wp2_with fail
 obtain⟨wb,hwb,db,sb,BX⟩:=Xu a A1 A2 c1 c2 w
 rw [<-hwb]
 clear hwb
 refine(QR a.word _).mono ?_
 rintro e w1 ⟨he,k1⟩
 subst he
 have d1:Qb [] wb w1:=k1
 obtain⟨kb,hkb⟩:∃b,b=(Qq a.word).isSome:=⟨_,rfl⟩
 have HK:Hid (kb=true↔Qq a.word≠none):=by show _↔_;rw [hkb];cases Qq a.word<;>simp
 obtain⟨kz,hkz⟩:∃z,z=(Qq a.word).getD 0:=⟨_,rfl⟩
 rw [<-hkb, <-hkz]
 clear hkb hkz k1
 obtain⟨p0,p1,p2,p3,p4,p5,p6,p7,p8,p9,p10⟩:=BX.out _ d1
 go_wp2_with fail
 refine(QP a.word _).mono ?_
 rintro e w2 ⟨he,k2⟩
 subst he
 have d2:Qb [] wb w2:=d1.tz k2
 obtain⟨lb,hlb⟩:∃b,b=((Qk a.word).map (·.1)).isSome:=⟨_,rfl⟩
 have HL:Hid (lb=true↔Qk a.word≠none):=by show _↔_;rw [hlb];cases Qk a.word<;>simp
 obtain⟨lz,hlz⟩:∃z,z=((Qk a.word).map (·.1)).getD 0:=⟨_,rfl⟩
 rw [<-hlb, <-hlz]
 clear hlb hlz k2 p0 p1 p2 p3 p4 p5 p6 p7 p8 p9 p10
 obtain⟨p0,p1,p2,p3,p4,p5,p6,p7,p8,p9,p10⟩:=BX.out _ d2
 go_wp2_with fail
 refine(Y6 a.slot 0 2 _).mono ?_
 rintro e w3 ⟨sl,rfl,hsl,rfl⟩
 have HS:Hid (sl=true↔QF a.slot):=hsl
 have d3:Qb [] w w3:=db.tz d2
 clear hsl
 cases sl
 all_goals
  go_wp2_with fail
  all_goals first
   |exact YN (d3)
   |(refine(Xb a A1 A2 c1 c2 _ _ _ _ _ _ KR _).mono ?_;rintro e w4 ⟨t,rfl,ht4,c4⟩;go_wp2_with fail;all_goals exact YN ((d3).tz c4))
theorem Qc0 (a:Qa) (A1 A2:Option Addr) (c1 c2:Nat) (w:World) (h:a.op=2) (hk:a.call.key.size<=1048576) (ht:a.call.text.size<=1048575):
  Calls Tryz.prog 159 #[.agg #[.int .i64 a.op,.int .i64 a.slot,.int .i64 a.other,.string a.word,.string a.call.method,.string a.call.key,.int .i64 a.call.value,.string a.call.text,.int .i64 a.face,.slice A1 a.A.length c1,.slice A2 a.B.length c2]] w (Qg (ZG a) w):=by
 have CL:=Qd (fun W=>XS a.call W hk ht)
 have HA:=Qd (yM h)
 clear hk ht
 obtain⟨n1,n2,n3,n4,n5,n6,n7,n8,n9,n10⟩:=QeP h
 clear h
 go_enter Tryz.func159,Tryz.ntmps159
 go_wp2_with fail
 obtain⟨wb,hwb,db,sb,BX⟩:=Xu a A1 A2 c1 c2 w
 rw [<-hwb]
 clear hwb
 refine(QR a.word _).mono ?_
 rintro e w1 ⟨he,k1⟩
 subst he
 have d1:Qb [] wb w1:=k1
 obtain⟨kb,hkb⟩:∃b,b=(Qq a.word).isSome:=⟨_,rfl⟩
 have HK:Hid (kb=true↔Qq a.word≠none):=by show _↔_;rw [hkb];cases Qq a.word<;>simp
 obtain⟨kz,hkz⟩:∃z,z=(Qq a.word).getD 0:=⟨_,rfl⟩
 rw [<-hkb, <-hkz]
 clear hkb hkz k1
 obtain⟨p0,p1,p2,p3,p4,p5,p6,p7,p8,p9,p10⟩:=BX.out _ d1
 go_wp2_with fail
 refine(QP a.word _).mono ?_
 rintro e w2 ⟨he,k2⟩
 subst he
 have d2:Qb [] wb w2:=d1.tz k2
 obtain⟨lb,hlb⟩:∃b,b=((Qk a.word).map (·.1)).isSome:=⟨_,rfl⟩
 have HL:Hid (lb=true↔Qk a.word≠none):=by show _↔_;rw [hlb];cases Qk a.word<;>simp
 obtain⟨lz,hlz⟩:∃z,z=((Qk a.word).map (·.1)).getD 0:=⟨_,rfl⟩
 rw [<-hlb, <-hlz]
 clear hlb hlz k2 p0 p1 p2 p3 p4 p5 p6 p7 p8 p9 p10
 obtain⟨p0,p1,p2,p3,p4,p5,p6,p7,p8,p9,p10⟩:=BX.out _ d2
 go_wp2_with fail
 refine(Y6 a.slot 0 2 _).mono ?_
 rintro e w3 ⟨sl,rfl,hsl,rfl⟩
 have HS:Hid (sl=true↔QF a.slot):=hsl
 have d3:Qb [] w w3:=db.tz d2
 clear hsl
 cases sl<;>cases lb
 all_goals
  go_wp2_with fail
  all_goals first
   |exact YN (d3)
   |(refine(Xb a A1 A2 c1 c2 _ _ _ _ _ _ KM _).mono ?_;rintro e w4 ⟨t,rfl,ht4,c4⟩;go_wp2_with fail;all_goals exact YN ((d3).tz c4))
theorem Qck (a:Qa) (A1 A2:Option Addr) (c1 c2:Nat) (w:World) (h:a.op=5) (hk:a.call.key.size<=1048576) (ht:a.call.text.size<=1048575):
  Calls Tryz.prog 159 #[.agg #[.int .i64 a.op,.int .i64 a.slot,.int .i64 a.other,.string a.word,.string a.call.method,.string a.call.key,.int .i64 a.call.value,.string a.call.text,.int .i64 a.face,.slice A1 a.A.length c1,.slice A2 a.B.length c2]] w (Qg (ZG a) w):=by
 have CL:=Qd (fun W=>XS a.call W hk ht)
 have HA:=Qd (jb (.inr h))
 clear hk ht
 obtain⟨n1,n2,n3,n4,n5,n6,n7,n8,n9,n10⟩:=QeQ h
 clear h
 go_enter Tryz.func159,Tryz.ntmps159
 go_wp2_with fail
 obtain⟨wb,hwb,db,sb,BX⟩:=Xu a A1 A2 c1 c2 w
 rw [<-hwb]
 clear hwb
 refine(QR a.word _).mono ?_
 rintro e w1 ⟨he,k1⟩
 subst he
 have d1:Qb [] wb w1:=k1
 obtain⟨kb,hkb⟩:∃b,b=(Qq a.word).isSome:=⟨_,rfl⟩
 have HK:Hid (kb=true↔Qq a.word≠none):=by show _↔_;rw [hkb];cases Qq a.word<;>simp
 obtain⟨kz,hkz⟩:∃z,z=(Qq a.word).getD 0:=⟨_,rfl⟩
 rw [<-hkb, <-hkz]
 clear hkb hkz k1
 obtain⟨p0,p1,p2,p3,p4,p5,p6,p7,p8,p9,p10⟩:=BX.out _ d1
 go_wp2_with fail
 refine(QP a.word _).mono ?_
 rintro e w2 ⟨he,k2⟩
 subst he
 have d2:Qb [] wb w2:=d1.tz k2
 obtain⟨lb,hlb⟩:∃b,b=((Qk a.word).map (·.1)).isSome:=⟨_,rfl⟩
 have HL:Hid (lb=true↔Qk a.word≠none):=by show _↔_;rw [hlb];cases Qk a.word<;>simp
 obtain⟨lz,hlz⟩:∃z,z=((Qk a.word).map (·.1)).getD 0:=⟨_,rfl⟩
 rw [<-hlb, <-hlz]
 clear hlb hlz k2 p0 p1 p2 p3 p4 p5 p6 p7 p8 p9 p10
 obtain⟨p0,p1,p2,p3,p4,p5,p6,p7,p8,p9,p10⟩:=BX.out _ d2
 go_wp2_with fail
 refine(Y6 a.slot 0 2 _).mono ?_
 rintro e w3 ⟨sl,rfl,hsl,rfl⟩
 have HS:Hid (sl=true↔QF a.slot):=hsl
 have d3:Qb [] w w3:=db.tz d2
 clear hsl
 cases sl
 all_goals
  go_wp2_with fail
  all_goals first
   |exact YN (d3)
   |(refine(Xb a A1 A2 c1 c2 _ _ _ _ _ _ KR _).mono ?_;rintro e w4 ⟨t,rfl,ht4,c4⟩;go_wp2_with fail;all_goals exact YN ((d3).tz c4))
theorem Qa9 (a:Qa) (A1 A2:Option Addr) (c1 c2:Nat) (w:World) (h:¬(1<=a.op/\a.op<=10)/\yv a.op false false false false false false false false false false) (hk:a.call.key.size<=1048576) (ht:a.call.text.size<=1048575):
  Calls Tryz.prog 159 #[.agg #[.int .i64 a.op,.int .i64 a.slot,.int .i64 a.other,.string a.word,.string a.call.method,.string a.call.key,.int .i64 a.call.value,.string a.call.text,.int .i64 a.face,.slice A1 a.A.length c1,.slice A2 a.B.length c2]] w (Qg (ZG a) w):=by
 have CL:=Qd (fun W=>XS a.call W hk ht)
 have HA:=Qd (show ¬ZG a from fun k=>h.1 (qv k))
 clear hk ht
 obtain⟨_,n1,n2,n3,n4,n5,n6,n7,n8,n9,n10⟩:=h
 go_enter Tryz.func159,Tryz.ntmps159
 go_wp2_with fail
 obtain⟨wb,hwb,db,sb,BX⟩:=Xu a A1 A2 c1 c2 w
 rw [<-hwb]
 clear hwb
 refine(QR a.word _).mono ?_
 rintro e w1 ⟨he,k1⟩
 subst he
 have d1:Qb [] wb w1:=k1
 obtain⟨kb,hkb⟩:∃b,b=(Qq a.word).isSome:=⟨_,rfl⟩
 have HK:Hid (kb=true↔Qq a.word≠none):=by show _↔_;rw [hkb];cases Qq a.word<;>simp
 obtain⟨kz,hkz⟩:∃z,z=(Qq a.word).getD 0:=⟨_,rfl⟩
 rw [<-hkb, <-hkz]
 clear hkb hkz k1
 obtain⟨p0,p1,p2,p3,p4,p5,p6,p7,p8,p9,p10⟩:=BX.out _ d1
 go_wp2_with fail
 refine(QP a.word _).mono ?_
 rintro e w2 ⟨he,k2⟩
 subst he
 have d2:Qb [] wb w2:=d1.tz k2
 obtain⟨lb,hlb⟩:∃b,b=((Qk a.word).map (·.1)).isSome:=⟨_,rfl⟩
 have HL:Hid (lb=true↔Qk a.word≠none):=by show _↔_;rw [hlb];cases Qk a.word<;>simp
 obtain⟨lz,hlz⟩:∃z,z=((Qk a.word).map (·.1)).getD 0:=⟨_,rfl⟩
 rw [<-hlb, <-hlz]
 clear hlb hlz k2 p0 p1 p2 p3 p4 p5 p6 p7 p8 p9 p10
 obtain⟨p0,p1,p2,p3,p4,p5,p6,p7,p8,p9,p10⟩:=BX.out _ d2
 go_wp2_with fail
 refine(Y6 a.slot 0 2 _).mono ?_
 rintro e w3 ⟨sl,rfl,hsl,rfl⟩
 have HS:Hid (sl=true↔QF a.slot):=hsl
 have d3:Qb [] w w3:=db.tz d2
 clear hsl
 go_wp2_with fail
 go_ret
 exact Qg.of ⟨fun h=>by simp at h,fun h=>absurd h HA.out⟩ d3
theorem QcD (a:Qa) (A1 A2:Option Addr) (c1 c2:Nat) (w:World) (h:a.op=4) (hk:a.call.key.size<=1048576) (ht:a.call.text.size<=1048575):
  Calls Tryz.prog 159 #[.agg #[.int .i64 a.op,.int .i64 a.slot,.int .i64 a.other,.string a.word,.string a.call.method,.string a.call.key,.int .i64 a.call.value,.string a.call.text,.int .i64 a.face,.slice A1 a.A.length c1,.slice A2 a.B.length c2]] w (Qg (ZG a) w):=by
 have CL:=Qd (fun W=>XS a.call W hk ht)
 have HA:=Qd (JZ h)
 clear hk ht
 obtain⟨n1,n2,n3,n4,n5,n6,n7,n8,n9,n10⟩:=QfG h
 clear h
 go_enter Tryz.func159,Tryz.ntmps159
 go_wp2_with fail
 obtain⟨wb,hwb,db,sb,BX⟩:=Xu a A1 A2 c1 c2 w
 rw [<-hwb]
 clear hwb
 refine(QR a.word _).mono ?_
 rintro e w1 ⟨he,k1⟩
 subst he
 have d1:Qb [] wb w1:=k1
 obtain⟨kb,hkb⟩:∃b,b=(Qq a.word).isSome:=⟨_,rfl⟩
 have HK:Hid (kb=true↔Qq a.word≠none):=by show _↔_;rw [hkb];cases Qq a.word<;>simp
 obtain⟨kz,hkz⟩:∃z,z=(Qq a.word).getD 0:=⟨_,rfl⟩
 rw [<-hkb, <-hkz]
 clear hkb hkz k1
 obtain⟨p0,p1,p2,p3,p4,p5,p6,p7,p8,p9,p10⟩:=BX.out _ d1
 go_wp2_with fail
 refine(QP a.word _).mono ?_
 rintro e w2 ⟨he,k2⟩
 subst he
 have d2:Qb [] wb w2:=d1.tz k2
 obtain⟨lb,hlb⟩:∃b,b=((Qk a.word).map (·.1)).isSome:=⟨_,rfl⟩
 have HL:Hid (lb=true↔Qk a.word≠none):=by show _↔_;rw [hlb];cases Qk a.word<;>simp
 obtain⟨lz,hlz⟩:∃z,z=((Qk a.word).map (·.1)).getD 0:=⟨_,rfl⟩
 rw [<-hlb, <-hlz]
 clear hlb hlz k2 p0 p1 p2 p3 p4 p5 p6 p7 p8 p9 p10
 obtain⟨p0,p1,p2,p3,p4,p5,p6,p7,p8,p9,p10⟩:=BX.out _ d2
 go_wp2_with fail
 refine(Y6 a.slot 0 2 _).mono ?_
 rintro e w3 ⟨sl,rfl,hsl,rfl⟩
 have HS:Hid (sl=true↔QF a.slot):=hsl
 have d3:Qb [] w w3:=db.tz d2
 clear hsl
 cases sl
 all_goals
  go_wp2_with fail
  all_goals first
   |exact YN (d3)
   |(refine(Xb a A1 A2 c1 c2 _ _ _ _ _ _ JI _).mono ?_;rintro e w4 ⟨t,rfl,ht4,c4⟩;go_wp2_with fail;all_goals exact YN ((d3).tz c4))
   | (refine(Y6 a.other 0 2 _).mono ?_
      rintro e w5 ⟨t5,rfl,ht5,rfl⟩
      have hh5:t5=true↔QF a.other:=ht5
      clear ht5
      cases t5
      all_goals
       simp at hh5
       go_wp2_with fail
       all_goals first
        |exact YN (d3)
        |(refine(Xb a A1 A2 c1 c2 _ _ _ _ _ _ JI _).mono ?_;rintro e w4 ⟨t,rfl,ht4,c4⟩;go_wp2_with fail;all_goals exact YN ((d3).tz c4)))
theorem QbU (a:Qa) (A1 A2:Option Addr) (c1 c2:Nat) (w:World) (h:a.op=6) (hk:a.call.key.size<=1048576) (ht:a.call.text.size<=1048575):
  Calls Tryz.prog 159 #[.agg #[.int .i64 a.op,.int .i64 a.slot,.int .i64 a.other,.string a.word,.string a.call.method,.string a.call.key,.int .i64 a.call.value,.string a.call.text,.int .i64 a.face,.slice A1 a.A.length c1,.slice A2 a.B.length c2]] w (Qg (ZG a) w):=by
 have CL:=Qd (fun W=>XS a.call W hk ht)
 have HA:=Qd (kR h)
 clear hk ht
 obtain⟨n1,n2,n3,n4,n5,n6,n7,n8,n9,n10⟩:=QeW h
 clear h
 go_enter Tryz.func159,Tryz.ntmps159
 go_wp2_with fail
 obtain⟨wb,hwb,db,sb,BX⟩:=Xu a A1 A2 c1 c2 w
 rw [<-hwb]
 clear hwb
 refine(QR a.word _).mono ?_
 rintro e w1 ⟨he,k1⟩
 subst he
 have d1:Qb [] wb w1:=k1
 obtain⟨kb,hkb⟩:∃b,b=(Qq a.word).isSome:=⟨_,rfl⟩
 have HK:Hid (kb=true↔Qq a.word≠none):=by show _↔_;rw [hkb];cases Qq a.word<;>simp
 obtain⟨kz,hkz⟩:∃z,z=(Qq a.word).getD 0:=⟨_,rfl⟩
 rw [<-hkb, <-hkz]
 clear hkb hkz k1
 obtain⟨p0,p1,p2,p3,p4,p5,p6,p7,p8,p9,p10⟩:=BX.out _ d1
 go_wp2_with fail
 refine(QP a.word _).mono ?_
 rintro e w2 ⟨he,k2⟩
 subst he
 have d2:Qb [] wb w2:=d1.tz k2
 obtain⟨lb,hlb⟩:∃b,b=((Qk a.word).map (·.1)).isSome:=⟨_,rfl⟩
 have HL:Hid (lb=true↔Qk a.word≠none):=by show _↔_;rw [hlb];cases Qk a.word<;>simp
 obtain⟨lz,hlz⟩:∃z,z=((Qk a.word).map (·.1)).getD 0:=⟨_,rfl⟩
 rw [<-hlb, <-hlz]
 clear hlb hlz k2 p0 p1 p2 p3 p4 p5 p6 p7 p8 p9 p10
 obtain⟨p0,p1,p2,p3,p4,p5,p6,p7,p8,p9,p10⟩:=BX.out _ d2
 go_wp2_with fail
 refine(Y6 a.slot 0 2 _).mono ?_
 rintro e w3 ⟨sl,rfl,hsl,rfl⟩
 have HS:Hid (sl=true↔QF a.slot):=hsl
 have d3:Qb [] w w3:=db.tz d2
 clear hsl
 cases sl
 all_goals
  go_wp2_with fail
  all_goals first
   |exact YN (d3)
   |(refine(Xb a A1 A2 c1 c2 _ _ _ _ _ _ Gt _).mono ?_;rintro e w4 ⟨t,rfl,ht4,c4⟩;go_wp2_with fail;all_goals exact YN ((d3).tz c4))
   | (refine(yy a.face _).mono ?_
      rintro e w5 ⟨t5,rfl,hh5,rfl⟩
      cases t5
      all_goals
       simp at hh5
       go_wp2_with fail
       all_goals first
        |exact YN (d3)
        |(refine(Xb a A1 A2 c1 c2 _ _ _ _ _ _ Gt _).mono ?_;rintro e w4 ⟨t,rfl,ht4,c4⟩;go_wp2_with fail;all_goals exact YN ((d3).tz c4)))
theorem QcO (a:Qa) (A1 A2:Option Addr) (c1 c2:Nat) (w:World) (h:a.op=7) (hk:a.call.key.size<=1048576) (ht:a.call.text.size<=1048575):
  Calls Tryz.prog 159 #[.agg #[.int .i64 a.op,.int .i64 a.slot,.int .i64 a.other,.string a.word,.string a.call.method,.string a.call.key,.int .i64 a.call.value,.string a.call.text,.int .i64 a.face,.slice A1 a.A.length c1,.slice A2 a.B.length c2]] w (Qg (ZG a) w):=by
 have CL:=Qd (fun W=>XS a.call W hk ht)
 have HA:=Qd (jD h)
 clear hk ht
 obtain⟨n1,n2,n3,n4,n5,n6,n7,n8,n9,n10⟩:=Qfu h
 clear h
 go_enter Tryz.func159,Tryz.ntmps159
 go_wp2_with fail
 obtain⟨wb,hwb,db,sb,BX⟩:=Xu a A1 A2 c1 c2 w
 rw [<-hwb]
 clear hwb
 refine(QR a.word _).mono ?_
 rintro e w1 ⟨he,k1⟩
 subst he
 have d1:Qb [] wb w1:=k1
 obtain⟨kb,hkb⟩:∃b,b=(Qq a.word).isSome:=⟨_,rfl⟩
 have HK:Hid (kb=true↔Qq a.word≠none):=by show _↔_;rw [hkb];cases Qq a.word<;>simp
 obtain⟨kz,hkz⟩:∃z,z=(Qq a.word).getD 0:=⟨_,rfl⟩
 rw [<-hkb, <-hkz]
 clear hkb hkz k1
 obtain⟨p0,p1,p2,p3,p4,p5,p6,p7,p8,p9,p10⟩:=BX.out _ d1
 go_wp2_with fail
 refine(QP a.word _).mono ?_
 rintro e w2 ⟨he,k2⟩
 subst he
 have d2:Qb [] wb w2:=d1.tz k2
 obtain⟨lb,hlb⟩:∃b,b=((Qk a.word).map (·.1)).isSome:=⟨_,rfl⟩
 have HL:Hid (lb=true↔Qk a.word≠none):=by show _↔_;rw [hlb];cases Qk a.word<;>simp
 obtain⟨lz,hlz⟩:∃z,z=((Qk a.word).map (·.1)).getD 0:=⟨_,rfl⟩
 rw [<-hlb, <-hlz]
 clear hlb hlz k2 p0 p1 p2 p3 p4 p5 p6 p7 p8 p9 p10
 obtain⟨p0,p1,p2,p3,p4,p5,p6,p7,p8,p9,p10⟩:=BX.out _ d2
 go_wp2_with fail
 refine(Y6 a.slot 0 2 _).mono ?_
 rintro e w3 ⟨sl,rfl,hsl,rfl⟩
 have HS:Hid (sl=true↔QF a.slot):=hsl
 have d3:Qb [] w w3:=db.tz d2
 clear hsl
 cases sl
 all_goals
  go_wp2_with fail
  all_goals first
   |exact YN (d3)
   |(refine(Xb a A1 A2 c1 c2 _ _ _ _ _ _ Kw _).mono ?_;rintro e w4 ⟨t,rfl,ht4,c4⟩;go_wp2_with fail;all_goals exact YN ((d3).tz c4))
   | (refine(CL.out _).mono ?_
      rintro e w5 ⟨t5,rfl,hh5,k5⟩
      have d5:Qb [] wb w5:=d2.tz k5
      clear p0 p1 p2 p3 p4 p5 p6 p7 p8 p9 p10
      obtain⟨p0,p1,p2,p3,p4,p5,p6,p7,p8,p9,p10⟩:=BX.out _ d5
      cases t5
      all_goals
       simp at hh5
       go_wp2_with fail
       all_goals first
        |exact YN (db.tz d5)
        |(refine(Xb a A1 A2 c1 c2 _ _ _ _ _ _ Kw _).mono ?_;rintro e w4 ⟨t,rfl,ht4,c4⟩;go_wp2_with fail;all_goals exact YN ((db.tz d5).tz c4)))
theorem Qcs (a:Qa) (A1 A2:Option Addr) (c1 c2:Nat) (w:World) (h:a.op=8) (hk:a.call.key.size<=1048576) (ht:a.call.text.size<=1048575):
  Calls Tryz.prog 159 #[.agg #[.int .i64 a.op,.int .i64 a.slot,.int .i64 a.other,.string a.word,.string a.call.method,.string a.call.key,.int .i64 a.call.value,.string a.call.text,.int .i64 a.face,.slice A1 a.A.length c1,.slice A2 a.B.length c2]] w (Qg (ZG a) w):=by
 have CL:=Qd (fun W=>XS a.call W hk ht)
 have HA:=Qd (js (.inl h))
 clear hk ht
 obtain⟨n1,n2,n3,n4,n5,n6,n7,n8,n9,n10⟩:=QeO h
 clear h
 go_enter Tryz.func159,Tryz.ntmps159
 go_wp2_with fail
 obtain⟨wb,hwb,db,sb,BX⟩:=Xu a A1 A2 c1 c2 w
 rw [<-hwb]
 clear hwb
 refine(QR a.word _).mono ?_
 rintro e w1 ⟨he,k1⟩
 subst he
 have d1:Qb [] wb w1:=k1
 obtain⟨kb,hkb⟩:∃b,b=(Qq a.word).isSome:=⟨_,rfl⟩
 have HK:Hid (kb=true↔Qq a.word≠none):=by show _↔_;rw [hkb];cases Qq a.word<;>simp
 obtain⟨kz,hkz⟩:∃z,z=(Qq a.word).getD 0:=⟨_,rfl⟩
 rw [<-hkb, <-hkz]
 clear hkb hkz k1
 obtain⟨p0,p1,p2,p3,p4,p5,p6,p7,p8,p9,p10⟩:=BX.out _ d1
 go_wp2_with fail
 refine(QP a.word _).mono ?_
 rintro e w2 ⟨he,k2⟩
 subst he
 have d2:Qb [] wb w2:=d1.tz k2
 obtain⟨lb,hlb⟩:∃b,b=((Qk a.word).map (·.1)).isSome:=⟨_,rfl⟩
 have HL:Hid (lb=true↔Qk a.word≠none):=by show _↔_;rw [hlb];cases Qk a.word<;>simp
 obtain⟨lz,hlz⟩:∃z,z=((Qk a.word).map (·.1)).getD 0:=⟨_,rfl⟩
 rw [<-hlb, <-hlz]
 clear hlb hlz k2 p0 p1 p2 p3 p4 p5 p6 p7 p8 p9 p10
 obtain⟨p0,p1,p2,p3,p4,p5,p6,p7,p8,p9,p10⟩:=BX.out _ d2
 go_wp2_with fail
 refine(Y6 a.slot 0 2 _).mono ?_
 rintro e w3 ⟨sl,rfl,hsl,rfl⟩
 have HS:Hid (sl=true↔QF a.slot):=hsl
 have d3:Qb [] w w3:=db.tz d2
 clear hsl
 cases hz:(a.slot==0)
 all_goals
  go_wp2_with fail
  all_goals first
   |exact YN (d3)
   |(refine(Xb a A1 A2 c1 c2 _ _ _ _ _ _ J0 _).mono ?_;rintro e w4 ⟨t,rfl,ht4,c4⟩;go_wp2_with fail;all_goals exact YN ((d3).tz c4))
theorem QbJ (a:Qa) (A1 A2:Option Addr) (c1 c2:Nat) (w:World) (h:a.op=10) (hk:a.call.key.size<=1048576) (ht:a.call.text.size<=1048575):
  Calls Tryz.prog 159 #[.agg #[.int .i64 a.op,.int .i64 a.slot,.int .i64 a.other,.string a.word,.string a.call.method,.string a.call.key,.int .i64 a.call.value,.string a.call.text,.int .i64 a.face,.slice A1 a.A.length c1,.slice A2 a.B.length c2]] w (Qg (ZG a) w):=by
 have CL:=Qd (fun W=>XS a.call W hk ht)
 have HA:=Qd (js (.inr h))
 clear hk ht
 obtain⟨n1,n2,n3,n4,n5,n6,n7,n8,n9,n10⟩:=QdH h
 clear h
 go_enter Tryz.func159,Tryz.ntmps159
 go_wp2_with fail
 obtain⟨wb,hwb,db,sb,BX⟩:=Xu a A1 A2 c1 c2 w
 rw [<-hwb]
 clear hwb
 refine(QR a.word _).mono ?_
 rintro e w1 ⟨he,k1⟩
 subst he
 have d1:Qb [] wb w1:=k1
 obtain⟨kb,hkb⟩:∃b,b=(Qq a.word).isSome:=⟨_,rfl⟩
 have HK:Hid (kb=true↔Qq a.word≠none):=by show _↔_;rw [hkb];cases Qq a.word<;>simp
 obtain⟨kz,hkz⟩:∃z,z=(Qq a.word).getD 0:=⟨_,rfl⟩
 rw [<-hkb, <-hkz]
 clear hkb hkz k1
 obtain⟨p0,p1,p2,p3,p4,p5,p6,p7,p8,p9,p10⟩:=BX.out _ d1
 go_wp2_with fail
 refine(QP a.word _).mono ?_
 rintro e w2 ⟨he,k2⟩
 subst he
 have d2:Qb [] wb w2:=d1.tz k2
 obtain⟨lb,hlb⟩:∃b,b=((Qk a.word).map (·.1)).isSome:=⟨_,rfl⟩
 have HL:Hid (lb=true↔Qk a.word≠none):=by show _↔_;rw [hlb];cases Qk a.word<;>simp
 obtain⟨lz,hlz⟩:∃z,z=((Qk a.word).map (·.1)).getD 0:=⟨_,rfl⟩
 rw [<-hlb, <-hlz]
 clear hlb hlz k2 p0 p1 p2 p3 p4 p5 p6 p7 p8 p9 p10
 obtain⟨p0,p1,p2,p3,p4,p5,p6,p7,p8,p9,p10⟩:=BX.out _ d2
 go_wp2_with fail
 refine(Y6 a.slot 0 2 _).mono ?_
 rintro e w3 ⟨sl,rfl,hsl,rfl⟩
 have HS:Hid (sl=true↔QF a.slot):=hsl
 have d3:Qb [] w w3:=db.tz d2
 clear hsl
 cases hz:(a.slot==0)
 all_goals
  go_wp2_with fail
  all_goals first
   |exact YN (d3)
   |(refine(Xb a A1 A2 c1 c2 _ _ _ _ _ _ J0 _).mono ?_;rintro e w4 ⟨t,rfl,ht4,c4⟩;go_wp2_with fail;all_goals exact YN ((d3).tz c4))
theorem QcW (a:Qa) (A1 A2:Option Addr) (c1 c2:Nat) (w:World) (h:a.op=9) (hk:a.call.key.size<=1048576) (ht:a.call.text.size<=1048575):
  Calls Tryz.prog 159 #[.agg #[.int .i64 a.op,.int .i64 a.slot,.int .i64 a.other,.string a.word,.string a.call.method,.string a.call.key,.int .i64 a.call.value,.string a.call.text,.int .i64 a.face,.slice A1 a.A.length c1,.slice A2 a.B.length c2]] w (Qg (ZG a) w):=by
 have CL:=Qd (fun W=>XS a.call W hk ht)
 have HA:=Qd (QdF h)
 clear hk ht
 obtain⟨n1,n2,n3,n4,n5,n6,n7,n8,n9,n10⟩:=Qe2 h
 clear h
 go_enter Tryz.func159,Tryz.ntmps159
 go_wp2_with fail
 obtain⟨wb,hwb,db,sb,BX⟩:=Xu a A1 A2 c1 c2 w
 rw [<-hwb]
 clear hwb
 refine(QR a.word _).mono ?_
 rintro e w1 ⟨he,k1⟩
 subst he
 have d1:Qb [] wb w1:=k1
 obtain⟨kb,hkb⟩:∃b,b=(Qq a.word).isSome:=⟨_,rfl⟩
 have HK:Hid (kb=true↔Qq a.word≠none):=by show _↔_;rw [hkb];cases Qq a.word<;>simp
 obtain⟨kz,hkz⟩:∃z,z=(Qq a.word).getD 0:=⟨_,rfl⟩
 rw [<-hkb, <-hkz]
 clear hkb hkz k1
 obtain⟨p0,p1,p2,p3,p4,p5,p6,p7,p8,p9,p10⟩:=BX.out _ d1
 go_wp2_with fail
 refine(QP a.word _).mono ?_
 rintro e w2 ⟨he,k2⟩
 subst he
 have d2:Qb [] wb w2:=d1.tz k2
 obtain⟨lb,hlb⟩:∃b,b=((Qk a.word).map (·.1)).isSome:=⟨_,rfl⟩
 have HL:Hid (lb=true↔Qk a.word≠none):=by show _↔_;rw [hlb];cases Qk a.word<;>simp
 obtain⟨lz,hlz⟩:∃z,z=((Qk a.word).map (·.1)).getD 0:=⟨_,rfl⟩
 rw [<-hlb, <-hlz]
 clear hlb hlz k2 p0 p1 p2 p3 p4 p5 p6 p7 p8 p9 p10
 obtain⟨p0,p1,p2,p3,p4,p5,p6,p7,p8,p9,p10⟩:=BX.out _ d2
 go_wp2_with fail
 refine(Y6 a.slot 0 2 _).mono ?_
 rintro e w3 ⟨sl,rfl,hsl,rfl⟩
 have HS:Hid (sl=true↔QF a.slot):=hsl
 have d3:Qb [] w w3:=db.tz d2
 clear hsl
 cases hz:(a.slot==0)
 all_goals
  go_wp2_with fail
  all_goals first
   |exact YN (d3)
   |(refine(Xb a A1 A2 c1 c2 _ _ _ _ _ _ uc _).mono ?_;rintro e w4 ⟨t,rfl,ht4,c4⟩;go_wp2_with fail;all_goals exact YN ((d3).tz c4))
theorem jL {l:List Qa} (h:Ql l<=1048576) {a:Qa} (ha:a∈l):Ql a.A<=1048576/\Ql a.B<=1048576/\a.call.key.size<=1048576/\a.call.text.size<=1048575:=by
 have h1:XO a<=Wp l:=qA XO ha
 have h2:=YT a
 have h3:0<l.length:=List.length_pos_of_mem ha
 unfold Ql at h
 unfold zC at h2
 refine⟨?_,?_,?_,?_⟩<;>omega
theorem j4 (a:Qa) (A1 A2:Option Addr) (c1 c2:Nat) (w:World) (hk:a.call.key.size<=1048576) (ht:a.call.text.size<=1048575):
  Calls Tryz.prog 159 #[.agg #[.int .i64 a.op,.int .i64 a.slot,.int .i64 a.other,.string a.word,.string a.call.method,.string a.call.key,.int .i64 a.call.value,.string a.call.text,.int .i64 a.face,.slice A1 a.A.length c1,.slice A2 a.B.length c2]] w (Qg (ZG a) w):=by
 rcases QaT a.op with (h|h|h|h|h|h|h|h|h|h)|h
 ·exact Qb4 a A1 A2 c1 c2 w h hk ht
 ·exact Qc0 a A1 A2 c1 c2 w h hk ht
 ·exact Qb7 a A1 A2 c1 c2 w h hk ht
 ·exact QcD a A1 A2 c1 c2 w h hk ht
 ·exact Qck a A1 A2 c1 c2 w h hk ht
 ·exact QbU a A1 A2 c1 c2 w h hk ht
 ·exact QcO a A1 A2 c1 c2 w h hk ht
 ·exact Qcs a A1 A2 c1 c2 w h hk ht
 ·exact QcW a A1 A2 c1 c2 w h hk ht
 ·exact QbJ a A1 A2 c1 c2 w h hk ht
 ·exact Qa9 a A1 A2 c1 c2 w h hk ht
def QgO (l:List Qa):Prop:=∀(u:Value) (B:Nat) (w:World),Ql l<=1048576->Rd w B (QH l) u->B<=w.heap.size->
 Calls Tryz.prog 93 #[u] w (Qg (Kp l) w)
theorem QdV:∀l,QgO l:=by
 refine Qa.ind fun l ih=>?_
 intro u B w hW hr hB
 obtain⟨A,cap,rfl,h0,h1,hrow⟩:=Qw hr
 unfold maxLen at h1
 have IH:=Qd ih
 have HW:=Qd hW
 have HO:=Qd (We l)
 clear ih hr hW
 go_enter Tryz.func93,Tryz.ntmps93
 go_wp2_with fail
 go_loopw [7] (fun i wr=>∃k:Nat,k<=l.length/\i= .int .i64 k/\Hid (∀(j:Nat) (h:j<l.length),j<k->l[j].ok)/\Qb [] w wr) (fun i _=>l.length-(intOf i).toNat)
 case atStart=>exact⟨0,Nat.zero_le _,rfl,fun j h h0=>absurd h0 (Nat.not_lt_zero _),Qb.refl _ _⟩
 case round=>
  obtain⟨k,hk,rfl,HN,hc⟩:=hrel
  by_cases hlt:k<l.length
  ·obtain⟨b,off,uA,uB,rfl,hb,q0,q1,q2,q3,q4,q5,q6,q7,q8,q9,q10,rA,rB⟩:=Yc (hrow.cz hc hB) k hlt
   obtain⟨A1,cap1,rfl,_,_,_⟩:=Qw rA
   obtain⟨A2,cap2,rfl,_,_,_⟩:=Qw rB
   have hmem:=List.getElem_mem hlt
   have hin:=jL HW.out hmem
   have hcs:=hc.size
   have HOK:=Qd (l[k].ok_iff)
   have IS:=Qd (fun W=>j4 l[k] A1 A2 cap1 cap2 W hin.2.2.1 hin.2.2.2)
   have IA:=Qd (fun W (hW:Qb [] wr W)=>(IH.out _ hmem).1 _ B W hin.1 (rA.cz hW (by omega)) (by have:=hW.size;omega))
   have IB:=Qd (fun W (hW:Qb [] wr W)=>(IH.out _ hmem).2 _ B W hin.2.1 (rB.cz hW (by omega)) (by have:=hW.size;omega))
   go_wp2_with fail
   refine(IS.out _).mono ?_
   rintro e w1 ⟨t,rfl,ht,c1⟩
   have g9:w1.cell? ⟨wr.heap.size,9,none⟩=some (.slice A1 l[k].A.length cap1):=(c1.cell (p:=⟨wr.heap.size,9,none⟩) (by simp) (by simp)).trans (by go_simp)
   have g10:w1.cell? ⟨wr.heap.size,10,none⟩=some (.slice A2 l[k].B.length cap2):=(c1.cell (p:=⟨wr.heap.size,10,none⟩) (by simp) (by simp)).trans (by go_simp)
   have s1:wr.heap.size<w1.heap.size:=by have:=c1.size;simp at this;omega
   have HT:=Qd ht
   have d1:Qb [] wr w1:=((Qb.refl _ _).alloc _).tz c1
   clear ht c1
   cases t
   ·go_wp2_with fail
    go_ret
    exact Qg.of ⟨fun h=>by simp at h,fun h=>by have:=HT.out.2 (HOK.out.1 (HO.out.1 h _ hmem)).1;simp at this⟩ (hc.tz d1)
   ·go_wp2_with fail
    refine(IA.out _ d1).mono ?_
    rintro e w2 ⟨t,rfl,ht,c2⟩
    have f10:=(c2.cell (p:=⟨wr.heap.size,10,none⟩) s1 (by simp)).trans g10
    have HT2:=Qd ht
    have d2:Qb [] wr w2:=d1.tz c2
    clear ht c2
    cases t
    ·go_wp2_with fail
     go_ret
     exact Qg.of ⟨fun h=>by simp at h,fun h=>by have:=HT2.out.2 (HOK.out.1 (HO.out.1 h _ hmem)).2.1;simp at this⟩ (hc.tz d2)
    ·go_wp2_with fail
     refine(IB.out _ d2).mono ?_
     rintro e w3 ⟨t,rfl,ht,c3⟩
     have HT3:=Qd ht
     have d3:Qb [] wr w3:=d2.tz c3
     clear ht c3
     cases t
     ·go_wp2_with fail
      go_ret
      exact Qg.of ⟨fun h=>by simp at h,fun h=>by have:=HT3.out.2 (HOK.out.1 (HO.out.1 h _ hmem)).2.2;simp at this⟩ (hc.tz d3)
     ·go_wp2_with fail
      go_roundw
      case rel=>exact⟨k+1,by omega,by go_num,Qd (fun j h hj=>(Nat.lt_succ_iff_lt_or_eq.1 hj).elim (HN.out j h) (fun e=>by subst e;exact HOK.out.2 ⟨HT.out.1 (by simp),HT2.out.1 (by simp),HT3.out.1 (by simp)⟩)),hc.tz d3⟩
      case measure=>simp [intOf];omega
  ·obtain rfl:k=l.length:=by omega
   go_wp2_with fail
   go_ret
   refine Qg.of ⟨fun _=>HO.out.2 fun a ha=>?_,fun _=>rfl⟩ hc
   obtain⟨j,hj,rfl⟩:=List.getElem_of_mem ha
   exact HN.out j hj hj
theorem KU (l:List Qa) (u:Value) (B:Nat) (w:World) (hW:Ql l<=1048576) (hr:Rd w B (QH l) u) (hB:B<=w.heap.size):
  Calls Tryz.prog 63 #[u] w (Qg (X0 l) w):=by
 have PS:=Qd (qi l u B w hW hr hB)
 have PD:=Qd (fun W (hc:Qb [] w W)=>Gs l u B W hW (hr.cz hc hB) (Nat.le_trans hB hc.size))
 have PA:=Qd (fun W (hc:Qb [] w W)=>QdV l u B W hW (hr.cz hc hB) (Nat.le_trans hB hc.size))
 obtain⟨A,cap,rfl,_,_,_⟩:=Qw hr
 clear hr hW
 go_enter Tryz.func63,Tryz.ntmps63
 go_wp2_with fail
 refine PS.out.mono ?_
 rintro e w1 ⟨rfl,c1⟩
 by_cases h1:Qe l<=14
 ·go_wp2_with fail
  refine(PD.out _ c1).mono ?_
  rintro e w2 ⟨rfl,c2⟩
  by_cases h2:Qx l<=3
  ·go_wp2_with fail
   refine(PA.out _ (c1.tz c2)).mono ?_
   rintro e w3 ⟨t,rfl,ht,c3⟩
   have HT:=Qd ht
   clear ht
   go_wp2_with fail
   all_goals(go_ret;exact Qg.of (by unfold X0;have:=HT.out;simp [h1,h2,this]) ((c1.tz c2).tz c3))
  ·go_wp2_with fail
   go_ret
   exact Qg.of ⟨fun h=>by simp at h,fun h=>absurd h.2.1 h2⟩ (c1.tz c2)
 ·go_wp2_with fail
  go_ret
  exact Qg.of ⟨fun h=>by simp at h,fun h=>absurd h.1 h1⟩ c1
end Go.Proofs.YtlnkgcdeljhjcaaGreatDoor
