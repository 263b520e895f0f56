/- IsCall of both packages. Conditions: as stated. -/
import Derived.Test.YtfjhdnjlhjimeaaGreatDoorActOks
import Derived.Deep.Light
set_option maxRecDepth 100000
set_option maxHeartbeats 8000000
namespace Go.Proofs.YtfjhdnjlhjimeaaGreatDoor
open Go.RowKit

theorem xP {a:ByteArray} {l:List UInt8} (h:a=⟨l.toArray⟩):(a.toList==l)=true:=by
 rw [h,ByteArray.toList_eq];simp
theorem YR {a:ByteArray} {l:List UInt8} (h:a≠⟨l.toArray⟩):(a.toList==l)=false:=by
 rw [beq_eq_false_iff_ne,ByteArray.toList_eq]
 intro e
 exact h (O5 (Q2.1 (by simpa using e)))
theorem UT {s:ByteArray}:(s.toList== [])=true↔s.size=0:=by
 rw [ByteArray.toList_eq,beq_iff_eq]
 exact⟨fun h=>congrArg List.length h,fun h=>I6 h⟩
theorem yA (m:ByteArray):
  (m=Zz/\(m.toList== [71,101,116])=true/\(m.toList== [80,117,116])=false/\(m.toList== [72,101,97,114])=false/\(m.toList== [76,111,97,100])=false)∨
  (m=Zu/\(m.toList== [71,101,116])=false/\(m.toList== [80,117,116])=true/\(m.toList== [72,101,97,114])=false/\(m.toList== [76,111,97,100])=false)∨
  (m=QV/\(m.toList== [71,101,116])=false/\(m.toList== [80,117,116])=false/\(m.toList== [72,101,97,114])=true/\(m.toList== [76,111,97,100])=false)∨
  (m=Zy/\(m.toList== [71,101,116])=false/\(m.toList== [80,117,116])=false/\(m.toList== [72,101,97,114])=false/\(m.toList== [76,111,97,100])=true)∨
  ((m≠Zz/\m≠Zu/\m≠QV/\m≠Zy)/\(m.toList== [71,101,116])=false/\(m.toList== [80,117,116])=false/\(m.toList== [72,101,97,114])=false/\(m.toList== [76,111,97,100])=false):=by
 by_cases h1:m=Zz
 ·exact .inl ⟨h1,xP h1,YR (by rw [h1];decide),YR (by rw [h1];decide),YR (by rw [h1];decide)⟩
 ·by_cases h2:m=Zu
  ·exact .inr (.inl ⟨h2,YR h1,xP h2,YR (by rw [h2];decide),YR (by rw [h2];decide)⟩)
  ·by_cases h3:m=QV
   ·exact .inr (.inr (.inl ⟨h3,YR h1,YR h2,xP h3,YR (by rw [h3];decide)⟩))
   ·by_cases h4:m=Zy
    ·exact .inr (.inr (.inr (.inl ⟨h4,YR h1,YR h2,YR h3,xP h4⟩)))
    ·exact .inr (.inr (.inr (.inr ⟨⟨h1,h2,h3,h4⟩,YR h1,YR h2,YR h3,YR h4⟩)))
theorem wG:Zg Zz=some 1:=(Uf (k:=1) (by simp [XS])).2
theorem vj:Zg Zu=some 1:=(Uf (k:=1) (by simp [XS])).2
theorem ye:Zg QV=some 3:=(Uf (k:=3) (by simp [XS])).2
theorem yp:Zg Zy=some 4:=(Uf (k:=4) (by simp [XS])).2
theorem wH {x:QL} (h:x.method=Zz):QS x↔(x.text.toList== [])=true/\qZ x.key/\x.value=0:=by
 unfold QS
 rw [h,wG,UT]
 have h1:Zz≠Zy:=by decide
 have h2:Zz≠Zu:=by decide
 have h3:Zz≠QV:=by decide
 simp [h1,h2,h3]
theorem vo {x:QL} (h:x.method=Zu):QS x↔(x.text.toList== [])=true/\qZ x.key/\ZK x.value:=by
 unfold QS
 rw [h,vj,UT]
 have h1:Zu≠Zy:=by decide
 have h2:Zu≠Zz:=by decide
 have h3:Zu≠QV:=by decide
 simp [h1,h2,h3]
theorem yT {x:QL} (h:x.method=QV):QS x↔(x.text.toList== [])=true/\(x.key.toList== [])=true/\ZK x.value:=by
 unfold QS
 rw [h,ye,UT,UT]
 have h1:QV≠Zy:=by decide
 have h2:QV≠Zz:=by decide
 have h3:QV≠Zu:=by decide
 simp [h1,h2,h3]
theorem yL {x:QL} (h:x.method=Zy):QS x↔(x.key.toList== [])=true/\x.value=0:=by
 unfold QS
 rw [h,yp,UT]
 have h1:Zy≠QV:=by decide
 have h2:Zy≠Zz:=by decide
 have h3:Zy≠Zu:=by decide
 simp [h1,h2,h3]
theorem zK {x:QL} (h:x.method≠Zz/\x.method≠Zu/\x.method≠QV/\x.method≠Zy):QS x↔Zg x.method≠none/\(x.text.toList== [])=true/\(x.key.toList== [])=true/\x.value=0:=by
 unfold QS
 rw [UT,UT]
 simp [h.1,h.2.1,h.2.2.1,h.2.2.2]
theorem QU (x:QL) (w:World) (hs:x.key.size<=1048576):
  Calls Tryz.prog 106 #[.agg #[.string x.method,.string x.key,.int .i64 x.value,.string x.text]] w (Qg (QS x) w):=by
 have NM:=Qb (fun W=>JL x.key W hs)
 have NU:=Qb (fun W=>Ye x.value W)
 have AB:=Qb (fun W=>YK x.method W)
 have fin:∀(t:Bool) (W:World),Qc [] w W->(t=true↔QS x)->Qg (QS x) w (.returned (.bool t)) W:=fun t W hc h=>⟨t,rfl,h,hc⟩
 have FIN:=Qb fin
 clear fin
 rcases yA x.method with ⟨hm,m1,m2,m3,m4⟩|⟨hm,m1,m2,m3,m4⟩|⟨hm,m1,m2,m3,m4⟩|⟨hm,m1,m2,m3,m4⟩|⟨hm,m1,m2,m3,m4⟩
 case' inl=>
  unfold Xx at AB
  rw [(hm ▸ wG:Zg x.method=some 1)] at AB
  have HO:=Qb (wH hm)
  clear hm
 case' inr.inl=>
  unfold Xx at AB
  rw [(hm ▸ vj:Zg x.method=some 1)] at AB
  have HO:=Qb (vo hm)
  clear hm
 case' inr.inr.inl=>
  unfold Xx at AB
  rw [(hm ▸ ye:Zg x.method=some 3)] at AB
  have HO:=Qb (yT hm)
  clear hm
 case' inr.inr.inr.inl=>
  unfold Xx at AB
  rw [(hm ▸ yp:Zg x.method=some 4)] at AB
  have HO:=Qb (yL hm)
  clear hm
 case' inr.inr.inr.inr=>
  have HO:=Qb (zK hm)
  clear hm
  cases ha:Zg x.method
  case' none=>
   unfold Xx at AB
   rw [ha] at AB HO
   clear ha
  case' some k=>
   obtain⟨j,hj,rfl,_⟩:=Ku ha
   unfold Xx at AB
   rw [ha] at AB HO
   clear ha
 all_goals
  go_enter Tryz.func106,Tryz.ntmps106
  go_wp2_with fail
  refine(AB.out _).mono ?_
  rintro e w1 ⟨rfl,c1⟩
  have p0:w1.cell? ⟨w.heap.size,0,none⟩=some (.string x.method):=(c1.cell (p:=⟨w.heap.size,0,none⟩) (by simp) (by simp)).trans (by go_simp)
  have p1:w1.cell? ⟨w.heap.size,1,none⟩=some (.string x.key):=(c1.cell (p:=⟨w.heap.size,1,none⟩) (by simp) (by simp)).trans (by go_simp)
  have p2:w1.cell? ⟨w.heap.size,2,none⟩=some (.int .i64 x.value):=(c1.cell (p:=⟨w.heap.size,2,none⟩) (by simp) (by simp)).trans (by go_simp)
  have p3:w1.cell? ⟨w.heap.size,3,none⟩=some (.string x.text):=(c1.cell (p:=⟨w.heap.size,3,none⟩) (by simp) (by simp)).trans (by go_simp)
  have d1:Qc [] w w1:=((B0 _ _).alloc _).tz c1
  clear c1
  go_wp2_with fail
  all_goals first
   |(go_ret;refine FIN.out _ _ d1 ?_;rw [HO.out];(try have h1:=HT.out);(try simp at h1);(try have h2:=HU.out);first|(simp [*];done)|(exfalso;simp_all;done))
   | (refine(NM.out _).mono ?_
      rintro e w2 ⟨t,rfl,ht,rfl⟩
      have HT:=Qb ht
      clear ht
      cases t
      all_goals
       go_wp2_with fail
       all_goals first
        |(go_ret;refine FIN.out _ _ d1 ?_;rw [HO.out];(try have h1:=HT.out);(try simp at h1);(try have h2:=HU.out);first|(simp [*];done)|(exfalso;simp_all;done))
        | (refine(NU.out _).mono ?_
           rintro e w3 ⟨t,rfl,ht,rfl⟩
           have HU:=Qb ht
           clear ht
           go_wp2_with fail
           all_goals(go_ret;refine FIN.out _ _ d1 ?_;rw [HO.out];(try have h1:=HT.out);(try simp at h1);(try have h2:=HU.out);first|(simp [*];done)|(exfalso;simp_all;done))))
   | (refine(NU.out _).mono ?_
      rintro e w2 ⟨t,rfl,ht,rfl⟩
      have HU:=Qb ht
      clear ht
      go_wp2_with fail
      all_goals(go_ret;refine FIN.out _ _ d1 ?_;rw [HO.out];(try have h1:=HT.out);(try simp at h1);(try have h2:=HU.out);first|(simp [*];done)|(exfalso;simp_all;done)))
theorem Uq (s:ByteArray) (k:Int) (ha:Zg s=some k):∃v:Int,(v==0)=false/\∀W,Calls Tryz.prog 118 #[.string s] W fun e w'=>e= .returned (.int .i64 v)/\Qc [] W w':=by
 refine⟨2 ^ k.toNat,beq_eq_false_iff_ne.2 (Int.ne_of_gt (Int.pow_pos (by decide))),fun W=>?_⟩
 have h:=JI s W
 rw [ha] at h
 exact h
theorem xx (x:QL) (w:World) (hs:x.key.size<=1048576):
  Calls Tryz.prog 164 #[.agg #[.string x.method,.string x.key,.int .i64 x.value,.string x.text]] w (Qg (QS x) w):=by
 have NM:=Qb (fun W=>JO x.key W hs)
 have fin:∀(t:Bool) (W:World),Qc [] w W->(t=true↔QS x)->Qg (QS x) w (.returned (.bool t)) W:=fun t W hc h=>⟨t,rfl,h,hc⟩
 have FIN:=Qb fin
 clear fin
 rcases yA x.method with ⟨hm,m1,m2,m3,m4⟩|⟨hm,m1,m2,m3,m4⟩|⟨hm,m1,m2,m3,m4⟩|⟨hm,m1,m2,m3,m4⟩|⟨hm,m1,m2,m3,m4⟩
 case' inl=>
  obtain⟨v,hv0,WO⟩:=Uq x.method _ (hm ▸ wG)
  have WO:=Qb WO
  have HO:=Qb (wH hm)
  clear hm
 case' inr.inl=>
  obtain⟨v,hv0,WO⟩:=Uq x.method _ (hm ▸ vj)
  have WO:=Qb WO
  have HO:=Qb (vo hm)
  clear hm
 case' inr.inr.inl=>
  obtain⟨v,hv0,WO⟩:=Uq x.method _ (hm ▸ ye)
  have WO:=Qb WO
  have HO:=Qb (yT hm)
  clear hm
 case' inr.inr.inr.inl=>
  obtain⟨v,hv0,WO⟩:=Uq x.method _ (hm ▸ yp)
  have WO:=Qb WO
  have HO:=Qb (yL hm)
  clear hm
 case' inr.inr.inr.inr=>
  have HO:=Qb (zK hm)
  clear hm
  cases ha:Zg x.method
  case' none=>
   have WO:=Qb (fun W=>JI x.method W)
   rw [ha] at WO HO
   clear ha
  case' some k=>
   obtain⟨v,hv0,WO⟩:=Uq x.method _ ha
   have WO:=Qb WO
   rw [ha] at HO
   clear ha
 all_goals
  go_enter Tryz.func164,Tryz.ntmps164
  go_wp2_with fail
  refine(WO.out _).mono ?_
  rintro e w1 ⟨rfl,c1⟩
  have p0:w1.cell? ⟨w.heap.size,0,none⟩=some (.string x.method):=(c1.cell (p:=⟨w.heap.size,0,none⟩) (by simp) (by simp)).trans (by go_simp)
  have p1:w1.cell? ⟨w.heap.size,1,none⟩=some (.string x.key):=(c1.cell (p:=⟨w.heap.size,1,none⟩) (by simp) (by simp)).trans (by go_simp)
  have p2:w1.cell? ⟨w.heap.size,2,none⟩=some (.int .i64 x.value):=(c1.cell (p:=⟨w.heap.size,2,none⟩) (by simp) (by simp)).trans (by go_simp)
  have p3:w1.cell? ⟨w.heap.size,3,none⟩=some (.string x.text):=(c1.cell (p:=⟨w.heap.size,3,none⟩) (by simp) (by simp)).trans (by go_simp)
  have d1:Qc [] w w1:=((B0 _ _).alloc _).tz c1
  clear c1
  go_wp2_with fail
  all_goals first
   |(go_ret;refine FIN.out _ _ d1 ?_;rw [HO.out];(try have h1:=HT.out);(try simp at h1);(try unfold ZK);first|(simp [*];done)|(simp [*];omega)|(exfalso;simp_all;done)|(exfalso;simp_all;omega))
   | (refine(NM.out _).mono ?_
      rintro e w2 ⟨t,rfl,ht,rfl⟩
      have HT:=Qb ht
      clear ht
      cases t
      all_goals
       go_wp2_with fail
       all_goals(go_ret;refine FIN.out _ _ d1 ?_;rw [HO.out];(try have h1:=HT.out);(try simp at h1);(try unfold ZK);first|(simp [*];done)|(simp [*];omega)|(exfalso;simp_all;done)|(exfalso;simp_all;omega)))
theorem Yz {s:ByteArray}:s.toList=[] ↔s.size=0:=by
 rw [ByteArray.toList_eq]
 exact⟨fun h=>congrArg List.length h,fun h=>I6 h⟩
open Classical in
theorem uT (c:QL) (W:World):(binOp .eql 31 (.agg #[.string c.method,.string c.key,.int .i64 c.value,.string c.text]) (.agg #[.string ⟨#[]⟩,.string ⟨#[]⟩,.int .i64 0,.string ⟨#[]⟩])).run Tryz.prog W= .ok (.bool (decide (UL c))) W:=by
 have h:∀n:Nat,(Op.equalIn (n+2) 31 (.agg #[.string c.method,.string c.key,.int .i64 c.value,.string c.text]) (.agg #[.string ⟨#[]⟩,.string ⟨#[]⟩,.int .i64 0,.string ⟨#[]⟩])).run Tryz.prog W= .ok (decide (UL c)) W:=fun n=>by
  rw [run_equalIn_struct W (n+1) 31 _ _ (by simp only [Program.fieldsOf,Tryz.underlying31]) (by kernel_rfl)]
  simp [go_sem,Program.fieldsOf,Tryz.underlying31]
  unfold UL
  rw [<-Yz, <-Yz, <-Yz]
  by_cases h1:c.method.toList=[] <;>by_cases h2:c.key.toList=[] <;>by_cases h3:c.value=0<;>by_cases h4:c.text.toList=[] <;>simp [h1,h2,h3,h4]
 simp only [binOp]
 simp [Op.equal,Op.maxDepth,h 9998]
theorem jA (c:QL) (h:UL c) (W:World):(binOp .eql 31 (.agg #[.string c.method,.string c.key,.int .i64 c.value,.string c.text]) (.agg #[.string ⟨#[]⟩,.string ⟨#[]⟩,.int .i64 0,.string ⟨#[]⟩])).run Tryz.prog W= .ok (.bool true) W:=by
 rw [uT];simp [h]
theorem Qad (c:QL) (h:¬UL c) (W:World):(binOp .eql 31 (.agg #[.string c.method,.string c.key,.int .i64 c.value,.string c.text]) (.agg #[.string ⟨#[]⟩,.string ⟨#[]⟩,.int .i64 0,.string ⟨#[]⟩])).run Tryz.prog W= .ok (.bool false) W:=by
 rw [uT];simp [h]
open Classical in
theorem uQ (c:QL) (W:World):(binOp .neq 31 (.agg #[.string c.method,.string c.key,.int .i64 c.value,.string c.text]) (.agg #[.string ⟨#[]⟩,.string ⟨#[]⟩,.int .i64 0,.string ⟨#[]⟩])).run Tryz.prog W= .ok (.bool (!(decide (UL c)))) W:=by
 have h:∀n:Nat,(Op.equalIn (n+2) 31 (.agg #[.string c.method,.string c.key,.int .i64 c.value,.string c.text]) (.agg #[.string ⟨#[]⟩,.string ⟨#[]⟩,.int .i64 0,.string ⟨#[]⟩])).run Tryz.prog W= .ok (decide (UL c)) W:=fun n=>by
  rw [run_equalIn_struct W (n+1) 31 _ _ (by simp only [Program.fieldsOf,Tryz.underlying31]) (by kernel_rfl)]
  simp [go_sem,Program.fieldsOf,Tryz.underlying31]
  unfold UL
  rw [<-Yz, <-Yz, <-Yz]
  by_cases h1:c.method.toList=[] <;>by_cases h2:c.key.toList=[] <;>by_cases h3:c.value=0<;>by_cases h4:c.text.toList=[] <;>simp [h1,h2,h3,h4]
 simp only [binOp]
 simp [Op.equal,Op.maxDepth,h 9998]
theorem kW (c:QL) (h:UL c) (W:World):(binOp .neq 31 (.agg #[.string c.method,.string c.key,.int .i64 c.value,.string c.text]) (.agg #[.string ⟨#[]⟩,.string ⟨#[]⟩,.int .i64 0,.string ⟨#[]⟩])).run Tryz.prog W= .ok (.bool false) W:=by
 rw [uQ];simp [h]
theorem QaC (c:QL) (h:¬UL c) (W:World):(binOp .neq 31 (.agg #[.string c.method,.string c.key,.int .i64 c.value,.string c.text]) (.agg #[.string ⟨#[]⟩,.string ⟨#[]⟩,.int .i64 0,.string ⟨#[]⟩])).run Tryz.prog W= .ok (.bool true) W:=by
 rw [uQ];simp [h]
def VI (other word call face first second:Bool):Prop:=
 [(false,true,false,false,false,false),(false,false,false,false,false,false),(true,false,false,false,false,false),(false,false,false,true,false,false),(false,false,true,false,false,false),(false,false,false,false,true,true),(false,false,false,false,true,false)].contains (other,word,call,face,first,second)=true
theorem VI.cases {o w c f a b:Bool} (h:VI o w c f a b):(o=false/\w=true/\c=false/\f=false/\a=false/\b=false)∨(o=false/\w=false/\c=false/\f=false/\a=false/\b=false)∨(o=true/\w=false/\c=false/\f=false/\a=false/\b=false)∨
  (o=false/\w=false/\c=false/\f=true/\a=false/\b=false)∨(o=false/\w=false/\c=true/\f=false/\a=false/\b=false)∨(o=false/\w=false/\c=false/\f=false/\a=true/\b=true)∨(o=false/\w=false/\c=false/\f=false/\a=true/\b=false):=by
 revert h
 cases o<;>cases w<;>cases c<;>cases f<;>cases a<;>cases b<;>simp [VI]
theorem zG (c:QL) (w:World):
  Calls Tryz.prog 139 #[.agg #[.string c.method,.string c.key,.int .i64 c.value,.string c.text]] w (Qg (UL c) w):=by
 by_cases h:UL c
 ·have he:=jA c h
  have H:=Qb h
  clear h
  go_enter Tryz.func139,Tryz.ntmps139
  go_wp2_with fail
  go_ret
  exact⟨_,rfl,⟨fun _=>H.out,fun _=>rfl⟩,(B0 _ _).alloc _⟩
 ·have he:=Qad c h
  have H:=Qb h
  clear h
  go_enter Tryz.func139,Tryz.ntmps139
  go_wp2_with fail
  go_ret
  exact⟨_,rfl,⟨fun h=>by simp at h,fun h=>absurd h H.out⟩,(B0 _ _).alloc _⟩
theorem Xj (a:Qa) (A1 A2:Option Addr) (c1 c2:Nat) (o wd cl f a1 b1:Bool) (hf:VI o wd cl f a1 b1) (w:World):
  Calls Tryz.prog 166 #[.agg #[.int .i64 a.op,.int .i64 a.slot,.int .i64 a.other,.string a.word,.string a.call.method,.string a.call.key,.int .i64 a.call.value,.string a.call.text,.int .i64 a.face,.slice A1 a.A.length c1,.slice A2 a.B.length c2],.bool o,.bool wd,.bool cl,.bool f,.bool a1,.bool b1] w (Qg (Qz a o wd cl f a1 b1) w):=by
 have fin:∀(t:Bool) (W:World),Qc [] w W->(t=true↔Qz a o wd cl f a1 b1)->Qg (Qz a o wd cl f a1 b1) w (.returned (.bool t)) W:=fun t W hc h=>⟨t,rfl,h,hc⟩
 have FIN:=Qb fin
 clear fin
 by_cases hz:UL a.call
 ·have he:=kW a.call hz
  rcases hf.cases with ⟨rfl,rfl,rfl,rfl,rfl,rfl⟩|⟨rfl,rfl,rfl,rfl,rfl,rfl⟩|⟨rfl,rfl,rfl,rfl,rfl,rfl⟩|⟨rfl,rfl,rfl,rfl,rfl,rfl⟩|⟨rfl,rfl,rfl,rfl,rfl,rfl⟩|⟨rfl,rfl,rfl,rfl,rfl,rfl⟩|⟨rfl,rfl,rfl,rfl,rfl,rfl⟩
  all_goals
   clear hf
   go_enter Tryz.func166,Tryz.ntmps166
   go_wp2_with fail
   all_goals(go_ret;refine FIN.out _ _ ((B0 _ _).alloc _) ?_;unfold Qz;rw [<-Yz];first|(simp [*];done)|(simp_all;done))
 ·have he:=QaC a.call hz
  rcases hf.cases with ⟨rfl,rfl,rfl,rfl,rfl,rfl⟩|⟨rfl,rfl,rfl,rfl,rfl,rfl⟩|⟨rfl,rfl,rfl,rfl,rfl,rfl⟩|⟨rfl,rfl,rfl,rfl,rfl,rfl⟩|⟨rfl,rfl,rfl,rfl,rfl,rfl⟩|⟨rfl,rfl,rfl,rfl,rfl,rfl⟩|⟨rfl,rfl,rfl,rfl,rfl,rfl⟩
  all_goals
   clear hf
   go_enter Tryz.func166,Tryz.ntmps166
   go_wp2_with fail
   all_goals(go_ret;refine FIN.out _ _ ((B0 _ _).alloc _) ?_;unfold Qz;rw [<-Yz];first|(simp [*];done)|(simp_all;done))
theorem ZY (a:Qa) (A1 A2:Option Addr) (c1 c2:Nat) (sl o wd cl f a1 b1:Bool) (hf:VI o wd cl f a1 b1) (hsl:sl=!a1) (w:World):
  Calls Tryz.prog 103 #[.agg #[.int .i64 a.op,.int .i64 a.slot,.int .i64 a.other,.string a.word,.string a.call.method,.string a.call.key,.int .i64 a.call.value,.string a.call.text,.int .i64 a.face,.slice A1 a.A.length c1,.slice A2 a.B.length c2],.bool sl,.bool o,.bool wd,.bool cl,.bool f,.bool a1,.bool b1] w (Qg ((sl=true∨a.slot=0)/\Qz a o wd cl f a1 b1) w):=by
 obtain⟨P,hP⟩:∃P,P=((sl=true∨a.slot=0)/\Qz a o wd cl f a1 b1):=⟨_,rfl⟩
 rw [<-hP]
 have HP:Hid (P↔(sl=true∨a.slot=0)/\Qz a o wd cl f a1 b1):=by show _↔_;rw [hP]
 clear hP
 have fin:∀(t:Bool) (W:World),Qc [] w W->(t=true↔P)->Qg P w (.returned (.bool t)) W:=fun t W hc h=>⟨t,rfl,h,hc⟩
 have FIN:=Qb fin
 clear fin
 by_cases hz:UL a.call
 ·have ZC:=Qb (fun W=>(zG a.call W).mono (O3 hz))
  rcases hf.cases with ⟨rfl,rfl,rfl,rfl,rfl,rfl⟩|⟨rfl,rfl,rfl,rfl,rfl,rfl⟩|⟨rfl,rfl,rfl,rfl,rfl,rfl⟩|⟨rfl,rfl,rfl,rfl,rfl,rfl⟩|⟨rfl,rfl,rfl,rfl,rfl,rfl⟩|⟨rfl,rfl,rfl,rfl,rfl,rfl⟩|⟨rfl,rfl,rfl,rfl,rfl,rfl⟩
  all_goals
   clear hf
   simp at hsl
   subst hsl
   go_enter Tryz.func103,Tryz.ntmps103
   go_wp2_with fail
   all_goals first
    |(go_ret;refine FIN.out _ _ ((B0 _ _).alloc _) ?_;rw [HP.out];unfold Qz;rw [<-Yz];first|(simp [*];done)|(simp_all;done))
    | (refine(ZC.out _).mono ?_
       rintro e w1 ⟨rfl,k1⟩
       have q8:w1.cell? ⟨w.heap.size,8,none⟩=some (.int .i64 a.face):=(k1.cell (p:=⟨w.heap.size,8,none⟩) (by simp) (by simp)).trans (by go_simp)
       have q9:w1.cell? ⟨w.heap.size,9,none⟩=some (.slice A1 a.A.length c1):=(k1.cell (p:=⟨w.heap.size,9,none⟩) (by simp) (by simp)).trans (by go_simp)
       have q10:w1.cell? ⟨w.heap.size,10,none⟩=some (.slice A2 a.B.length c2):=(k1.cell (p:=⟨w.heap.size,10,none⟩) (by simp) (by simp)).trans (by go_simp)
       have d1:Qc [] w w1:=((B0 _ _).alloc _).tz k1
       clear k1
       go_wp2_with fail
       all_goals(go_ret;refine FIN.out _ _ d1 ?_;rw [HP.out];unfold Qz;rw [<-Yz];first|(simp [*];done)|(simp_all;done)))
 ·have ZC:=Qb (fun W=>(zG a.call W).mono (R4 hz))
  rcases hf.cases with ⟨rfl,rfl,rfl,rfl,rfl,rfl⟩|⟨rfl,rfl,rfl,rfl,rfl,rfl⟩|⟨rfl,rfl,rfl,rfl,rfl,rfl⟩|⟨rfl,rfl,rfl,rfl,rfl,rfl⟩|⟨rfl,rfl,rfl,rfl,rfl,rfl⟩|⟨rfl,rfl,rfl,rfl,rfl,rfl⟩|⟨rfl,rfl,rfl,rfl,rfl,rfl⟩
  all_goals
   clear hf
   simp at hsl
   subst hsl
   go_enter Tryz.func103,Tryz.ntmps103
   go_wp2_with fail
   all_goals first
    |(go_ret;refine FIN.out _ _ ((B0 _ _).alloc _) ?_;rw [HP.out];unfold Qz;rw [<-Yz];first|(simp [*];done)|(simp_all;done))
    | (refine(ZC.out _).mono ?_
       rintro e w1 ⟨rfl,k1⟩
       have q8:w1.cell? ⟨w.heap.size,8,none⟩=some (.int .i64 a.face):=(k1.cell (p:=⟨w.heap.size,8,none⟩) (by simp) (by simp)).trans (by go_simp)
       have q9:w1.cell? ⟨w.heap.size,9,none⟩=some (.slice A1 a.A.length c1):=(k1.cell (p:=⟨w.heap.size,9,none⟩) (by simp) (by simp)).trans (by go_simp)
       have q10:w1.cell? ⟨w.heap.size,10,none⟩=some (.slice A2 a.B.length c2):=(k1.cell (p:=⟨w.heap.size,10,none⟩) (by simp) (by simp)).trans (by go_simp)
       have d1:Qc [] w w1:=((B0 _ _).alloc _).tz k1
       clear k1
       go_wp2_with fail
       all_goals(go_ret;refine FIN.out _ _ d1 ?_;rw [HP.out];unfold Qz;rw [<-Yz];first|(simp [*];done)|(simp_all;done)))
theorem Qg.of {p:Prop} {t:Bool} {w w':World} (h:t=true↔p) (hc:Qc [] w w'):Qg p w (.returned (.bool t)) w':=⟨t,rfl,h,hc⟩
def Qgn (W:World) (g:Nat) (a:Qa) (A1 A2:Option Addr) (c1 c2:Nat):Prop:=W.cell? ⟨g,0,none⟩=some (.int .i64 a.op)/\W.cell? ⟨g,1,none⟩=some (.int .i64 a.slot)/\W.cell? ⟨g,2,none⟩=some (.int .i64 a.other)/\W.cell? ⟨g,3,none⟩=some (.string a.word)/\W.cell? ⟨g,4,none⟩=some (.string a.call.method)/\W.cell? ⟨g,5,none⟩=some (.string a.call.key)/\W.cell? ⟨g,6,none⟩=some (.int .i64 a.call.value)/\W.cell? ⟨g,7,none⟩=some (.string a.call.text)/\W.cell? ⟨g,8,none⟩=some (.int .i64 a.face)/\W.cell? ⟨g,9,none⟩=some (.slice A1 a.A.length c1)/\W.cell? ⟨g,10,none⟩=some (.slice A2 a.B.length c2)
theorem Xt (a:Qa) (A1 A2:Option Addr) (c1 c2:Nat) (w:World):∃wb,wb=w.alloc (.cells #[.int .i64 a.op,.int .i64 a.slot,.int .i64 a.other,.string a.word,.string a.call.method,.string a.call.key,.int .i64 a.call.value,.string a.call.text,.int .i64 a.face,.slice A1 a.A.length c1,.slice A2 a.B.length c2] 33)/\Qc [] w wb/\w.heap.size<wb.heap.size/\Hid (∀W,Qc [] wb W->Qgn W w.heap.size a A1 A2 c1 c2):=by
 refine⟨_,rfl,(B0 [] w).alloc _,by simp,Qb (fun W hc=>?_)⟩
 have k:∀o,_:=hc.ce w.heap.size
 exact⟨(k 0).trans (by go_simp),(k 1).trans (by go_simp),(k 2).trans (by go_simp),(k 3).trans (by go_simp),(k 4).trans (by go_simp),(k 5).trans (by go_simp),(k 6).trans (by go_simp),(k 7).trans (by go_simp),(k 8).trans (by go_simp),(k 9).trans (by go_simp),(k 10).trans (by go_simp)⟩
def xF (o:Int) (b1 b2 b3 b4 b5 b6 b7 b8 b9 b10:Bool):Prop:=(o==1)=b1/\(o==2)=b2/\(o==3)=b3/\(o==4)=b4/\(o==5)=b5/\(o==6)=b6/\(o==7)=b7/\(o==8)=b8/\(o==9)=b9/\(o==10)=b10
theorem QeW {o:Int} (h:o=1):xF o true false false false false false false false false false:=by subst h;exact⟨rfl,rfl,rfl,rfl,rfl,rfl,rfl,rfl,rfl,rfl⟩
theorem QeO {o:Int} (h:o=2):xF o false true false false false false false false false false:=by subst h;exact⟨rfl,rfl,rfl,rfl,rfl,rfl,rfl,rfl,rfl,rfl⟩
theorem Qee {o:Int} (h:o=3):xF o false false true false false false false false false false:=by subst h;exact⟨rfl,rfl,rfl,rfl,rfl,rfl,rfl,rfl,rfl,rfl⟩
theorem Qef {o:Int} (h:o=4):xF o false false false true false false false false false false:=by subst h;exact⟨rfl,rfl,rfl,rfl,rfl,rfl,rfl,rfl,rfl,rfl⟩
theorem Qes {o:Int} (h:o=5):xF o false false false false true false false false false false:=by subst h;exact⟨rfl,rfl,rfl,rfl,rfl,rfl,rfl,rfl,rfl,rfl⟩
theorem Qe4 {o:Int} (h:o=6):xF o false false false false false true false false false false:=by subst h;exact⟨rfl,rfl,rfl,rfl,rfl,rfl,rfl,rfl,rfl,rfl⟩
theorem Qfd {o:Int} (h:o=7):xF o false false false false false false true false false false:=by subst h;exact⟨rfl,rfl,rfl,rfl,rfl,rfl,rfl,rfl,rfl,rfl⟩
theorem Qd1 {o:Int} (h:o=8):xF o false false false false false false false true false false:=by subst h;exact⟨rfl,rfl,rfl,rfl,rfl,rfl,rfl,rfl,rfl,rfl⟩
theorem Qeq {o:Int} (h:o=9):xF o false false false false false false false false true false:=by subst h;exact⟨rfl,rfl,rfl,rfl,rfl,rfl,rfl,rfl,rfl,rfl⟩
theorem QcG {o:Int} (h:o=10):xF o false false false false false false false false false true:=by subst h;exact⟨rfl,rfl,rfl,rfl,rfl,rfl,rfl,rfl,rfl,rfl⟩
theorem Wa {P Q:Prop} (b:Q) (h:Q->P:=by intro hd;go_ret;refine Qg.of ?_ hd;clear hd;have hact:=HA.out;rw [hact];(try have h1:=HS.out);(try simp at h1);(try have h2:=HK.out);(try simp at h2);(try have h3:=HL.out);(try simp at h3);(try have h4:=hz);(try simp at h4);clear hact;go_light;(try clear BX);(try clear CL);(try clear IC);(try clear PC);(try clear IA);(try clear IB);(try clear HA);(try clear p0 p1 p2 p3 p4 p5 p6 p7 p8 p9 p10);first|(simp [*];done)|(simp_all;done)):P:=h b
theorem XZ {P Q:Prop} (b:Q) (h:Q->P:=by intro hd;go_ret;refine Qg.of ?_ (db.tz hd);clear hd;have hact:=HA.out;rw [hact];(try have h1:=HS.out);(try simp at h1);(try have h2:=HK.out);(try simp at h2);(try have h3:=HT.out);clear hact;go_light;(try clear BX);(try clear CL);(try clear IC);(try clear PC);(try clear IA);(try clear IB);(try clear HA);(try clear p0 p1 p2 p3 p4 p5 p6 p7 p8 p9 p10);first|(simp [*];done)|(simp_all;done)):P:=h b
theorem JE:VI false true false false false false:=by unfold VI;decide
theorem Jq:VI false false false false false false:=by unfold VI;decide
theorem Gy:VI true false false false false false:=by unfold VI;decide
theorem qy:VI false false false true false false:=by unfold VI;decide
theorem JA:VI false false true false false false:=by unfold VI;decide
theorem GR:VI false false false false true true:=by unfold VI;decide
theorem uV:VI false false false false true false:=by unfold VI;decide
theorem XX (x:QL) (w:World) (hk:x.key.size<=1048576) (ht:x.text.size<=1048575):
  Calls Tryz.prog 130 #[.agg #[.string x.method,.string x.key,.int .i64 x.value,.string x.text]] w (Qg (US x) w):=by
 have PC:=Qb (fun W=>qa x.text W ht)
 have IC:=Qb (fun W=>xx x W hk)
 have HP:Hid (US x↔QS x/\(x.text.toList=[] ∨(Qy x.text).isSome=true)):=by
  show _↔_
  unfold US
  rw [Yz]
  cases Qy x.text<;>simp
 go_enter Tryz.func130,Tryz.ntmps130
 go_wp2_with fail
 refine(PC.out _).mono ?_
 rintro e w1 ⟨l,A,cap,_,rfl,n1⟩
 have c1:=n1.chg
 clear n1
 have p0:w1.cell? ⟨w.heap.size,0,none⟩=some (.string x.method):=(c1.cell (p:=⟨w.heap.size,0,none⟩) (by simp) (by simp)).trans (by go_simp)
 have p1:w1.cell? ⟨w.heap.size,1,none⟩=some (.string x.key):=(c1.cell (p:=⟨w.heap.size,1,none⟩) (by simp) (by simp)).trans (by go_simp)
 have p2:w1.cell? ⟨w.heap.size,2,none⟩=some (.int .i64 x.value):=(c1.cell (p:=⟨w.heap.size,2,none⟩) (by simp) (by simp)).trans (by go_simp)
 have p3:w1.cell? ⟨w.heap.size,3,none⟩=some (.string x.text):=(c1.cell (p:=⟨w.heap.size,3,none⟩) (by simp) (by simp)).trans (by go_simp)
 have hlt:w.heap.size<w1.heap.size:=by have:=c1.size;simp at this;omega
 have d1:Qc [] w w1:=((B0 _ _).alloc _).tz c1
 obtain⟨ok,hok⟩:∃ok,ok=(Qy x.text).isSome:=⟨_,rfl⟩
 rw [<-hok] at HP
 rw [<-hok]
 clear hok c1
 go_wp2_with fail
 refine(IC.out _).mono ?_
 rintro e w2 ⟨t,rfl,ht2,c2⟩
 have q3:=(c2.cell (p:=⟨w.heap.size,3,none⟩) hlt (by simp)).trans p3
 have HT:=Qb ht2
 have d2:Qc [] w w2:=d1.tz c2
 clear ht2
 cases t
 all_goals
  go_wp2_with fail
  all_goals
   go_ret
   refine Qg.of ?_ d2
   rw [HP.out]
   have h1:=HT.out
   simp at h1
   first|(simp [*];done)|(simp_all;done)
theorem Qce (a:Qa) (A1 A2:Option Addr) (c1 c2:Nat) (w:World) (h:a.op=1) (hk:a.call.key.size<=1048576) (ht:a.call.text.size<=1048575):
  Calls Tryz.prog 132 #[.agg #[.int .i64 a.op,.int .i64 a.slot,.int .i64 a.other,.string a.word,.string a.call.method,.string a.call.key,.int .i64 a.call.value,.string a.call.text,.int .i64 a.face,.slice A1 a.A.length c1,.slice A2 a.B.length c2]] w (Qg (ZG a) w):=by
 have CL:=Qb (fun W=>XX a.call W hk ht)
 have HA:=Qb (xQ h)
 clear hk ht
 obtain⟨n1,n2,n3,n4,n5,n6,n7,n8,n9,n10⟩:=QeW h
 clear h
 go_enter Tryz.func132,Tryz.ntmps132
 go_wp2_with fail
 obtain⟨wb,hwb,db,sb,BX⟩:=Xt a A1 A2 c1 c2 w
 rw [<-hwb]
 clear hwb
 refine(QN a.word _).mono ?_
 rintro e w1 ⟨he,k1⟩
 subst he
 have d1:Qc [] wb w1:=k1
 obtain⟨kb,hkb⟩:∃b,b=(Qo a.word).isSome:=⟨_,rfl⟩
 have HK:Hid (kb=true↔Qo a.word≠none):=by show _↔_;rw [hkb];cases Qo a.word<;>simp
 obtain⟨kz,hkz⟩:∃z,z=(Qo a.word).getD 0:=⟨_,rfl⟩
 rw [<-hkb, <-hkz]
 clear hkb hkz k1
 obtain⟨p0,p1,p2,p3,p4,p5,p6,p7,p8,p9,p10⟩:=BX.out _ d1
 go_wp2_with fail
 refine(QK a.word _).mono ?_
 rintro e w2 ⟨he,k2⟩
 subst he
 have d2:Qc [] wb w2:=d1.tz k2
 obtain⟨lb,hlb⟩:∃b,b=((Qj a.word).map (·.1)).isSome:=⟨_,rfl⟩
 have HL:Hid (lb=true↔Qj a.word≠none):=by show _↔_;rw [hlb];cases Qj a.word<;>simp
 obtain⟨lz,hlz⟩:∃z,z=((Qj a.word).map (·.1)).getD 0:=⟨_,rfl⟩
 rw [<-hlb, <-hlz]
 clear hlb hlz k2 p0 p1 p2 p3 p4 p5 p6 p7 p8 p9 p10
 obtain⟨p0,p1,p2,p3,p4,p5,p6,p7,p8,p9,p10⟩:=BX.out _ d2
 go_wp2_with fail
 refine(Wp a.slot 0 2 _).mono ?_
 rintro e w3 ⟨sl,rfl,hsl,rfl⟩
 have HS:Hid (sl=true↔QE a.slot):=hsl
 have d3:Qc [] w w3:=db.tz d2
 clear hsl
 cases sl<;>cases kb
 all_goals
  go_wp2_with fail
  all_goals first
   |exact Wa (d3)
   |(refine(Xj a A1 A2 c1 c2 _ _ _ _ _ _ JE _).mono ?_;rintro e w4 ⟨t,rfl,ht4,c4⟩;go_wp2_with fail;all_goals exact Wa ((d3).tz c4))
theorem Qbj (a:Qa) (A1 A2:Option Addr) (c1 c2:Nat) (w:World) (h:a.op=3) (hk:a.call.key.size<=1048576) (ht:a.call.text.size<=1048575):
  Calls Tryz.prog 132 #[.agg #[.int .i64 a.op,.int .i64 a.slot,.int .i64 a.other,.string a.word,.string a.call.method,.string a.call.key,.int .i64 a.call.value,.string a.call.text,.int .i64 a.face,.slice A1 a.A.length c1,.slice A2 a.B.length c2]] w (Qg (ZG a) w):=by
 have CL:=Qb (fun W=>XX a.call W hk ht)
 have HA:=Qb (kJ (.inl h))
 clear hk ht
 obtain⟨n1,n2,n3,n4,n5,n6,n7,n8,n9,n10⟩:=Qee h
 clear h
 go_enter Tryz.func132,Tryz.ntmps132
 go_wp2_with fail
 obtain⟨wb,hwb,db,sb,BX⟩:=Xt a A1 A2 c1 c2 w
 rw [<-hwb]
 clear hwb
 refine(QN a.word _).mono ?_
 rintro e w1 ⟨he,k1⟩
 subst he
 have d1:Qc [] wb w1:=k1
 obtain⟨kb,hkb⟩:∃b,b=(Qo a.word).isSome:=⟨_,rfl⟩
 have HK:Hid (kb=true↔Qo a.word≠none):=by show _↔_;rw [hkb];cases Qo a.word<;>simp
 obtain⟨kz,hkz⟩:∃z,z=(Qo a.word).getD 0:=⟨_,rfl⟩
 rw [<-hkb, <-hkz]
 clear hkb hkz k1
 obtain⟨p0,p1,p2,p3,p4,p5,p6,p7,p8,p9,p10⟩:=BX.out _ d1
 go_wp2_with fail
 refine(QK a.word _).mono ?_
 rintro e w2 ⟨he,k2⟩
 subst he
 have d2:Qc [] wb w2:=d1.tz k2
 obtain⟨lb,hlb⟩:∃b,b=((Qj a.word).map (·.1)).isSome:=⟨_,rfl⟩
 have HL:Hid (lb=true↔Qj a.word≠none):=by show _↔_;rw [hlb];cases Qj a.word<;>simp
 obtain⟨lz,hlz⟩:∃z,z=((Qj a.word).map (·.1)).getD 0:=⟨_,rfl⟩
 rw [<-hlb, <-hlz]
 clear hlb hlz k2 p0 p1 p2 p3 p4 p5 p6 p7 p8 p9 p10
 obtain⟨p0,p1,p2,p3,p4,p5,p6,p7,p8,p9,p10⟩:=BX.out _ d2
 go_wp2_with fail
 refine(Wp a.slot 0 2 _).mono ?_
 rintro e w3 ⟨sl,rfl,hsl,rfl⟩
 have HS:Hid (sl=true↔QE a.slot):=hsl
 have d3:Qc [] w w3:=db.tz d2
 clear hsl
 cases sl
 all_goals
  go_wp2_with fail
  all_goals first
   |exact Wa (d3)
   |(refine(Xj a A1 A2 c1 c2 _ _ _ _ _ _ Jq _).mono ?_;rintro e w4 ⟨t,rfl,ht4,c4⟩;go_wp2_with fail;all_goals exact Wa ((d3).tz c4))
theorem Qcb (a:Qa) (A1 A2:Option Addr) (c1 c2:Nat) (w:World) (h:a.op=2) (hk:a.call.key.size<=1048576) (ht:a.call.text.size<=1048575):
  Calls Tryz.prog 132 #[.agg #[.int .i64 a.op,.int .i64 a.slot,.int .i64 a.other,.string a.word,.string a.call.method,.string a.call.key,.int .i64 a.call.value,.string a.call.text,.int .i64 a.face,.slice A1 a.A.length c1,.slice A2 a.B.length c2]] w (Qg (ZG a) w):=by
 have CL:=Qb (fun W=>XX a.call W hk ht)
 have HA:=Qb (xJ h)
 clear hk ht
 obtain⟨n1,n2,n3,n4,n5,n6,n7,n8,n9,n10⟩:=QeO h
 clear h
 go_enter Tryz.func132,Tryz.ntmps132
 go_wp2_with fail
 obtain⟨wb,hwb,db,sb,BX⟩:=Xt a A1 A2 c1 c2 w
 rw [<-hwb]
 clear hwb
 refine(QN a.word _).mono ?_
 rintro e w1 ⟨he,k1⟩
 subst he
 have d1:Qc [] wb w1:=k1
 obtain⟨kb,hkb⟩:∃b,b=(Qo a.word).isSome:=⟨_,rfl⟩
 have HK:Hid (kb=true↔Qo a.word≠none):=by show _↔_;rw [hkb];cases Qo a.word<;>simp
 obtain⟨kz,hkz⟩:∃z,z=(Qo a.word).getD 0:=⟨_,rfl⟩
 rw [<-hkb, <-hkz]
 clear hkb hkz k1
 obtain⟨p0,p1,p2,p3,p4,p5,p6,p7,p8,p9,p10⟩:=BX.out _ d1
 go_wp2_with fail
 refine(QK a.word _).mono ?_
 rintro e w2 ⟨he,k2⟩
 subst he
 have d2:Qc [] wb w2:=d1.tz k2
 obtain⟨lb,hlb⟩:∃b,b=((Qj a.word).map (·.1)).isSome:=⟨_,rfl⟩
 have HL:Hid (lb=true↔Qj a.word≠none):=by show _↔_;rw [hlb];cases Qj a.word<;>simp
 obtain⟨lz,hlz⟩:∃z,z=((Qj a.word).map (·.1)).getD 0:=⟨_,rfl⟩
 rw [<-hlb, <-hlz]
 clear hlb hlz k2 p0 p1 p2 p3 p4 p5 p6 p7 p8 p9 p10
 obtain⟨p0,p1,p2,p3,p4,p5,p6,p7,p8,p9,p10⟩:=BX.out _ d2
 go_wp2_with fail
 refine(Wp a.slot 0 2 _).mono ?_
 rintro e w3 ⟨sl,rfl,hsl,rfl⟩
 have HS:Hid (sl=true↔QE a.slot):=hsl
 have d3:Qc [] w w3:=db.tz d2
 clear hsl
 cases sl<;>cases lb
 all_goals
  go_wp2_with fail
  all_goals first
   |exact Wa (d3)
   |(refine(Xj a A1 A2 c1 c2 _ _ _ _ _ _ JE _).mono ?_;rintro e w4 ⟨t,rfl,ht4,c4⟩;go_wp2_with fail;all_goals exact Wa ((d3).tz c4))
theorem Qbd (a:Qa) (A1 A2:Option Addr) (c1 c2:Nat) (w:World) (h:a.op=5) (hk:a.call.key.size<=1048576) (ht:a.call.text.size<=1048575):
  Calls Tryz.prog 132 #[.agg #[.int .i64 a.op,.int .i64 a.slot,.int .i64 a.other,.string a.word,.string a.call.method,.string a.call.key,.int .i64 a.call.value,.string a.call.text,.int .i64 a.face,.slice A1 a.A.length c1,.slice A2 a.B.length c2]] w (Qg (ZG a) w):=by
 have CL:=Qb (fun W=>XX a.call W hk ht)
 have HA:=Qb (kJ (.inr h))
 clear hk ht
 obtain⟨n1,n2,n3,n4,n5,n6,n7,n8,n9,n10⟩:=Qes h
 clear h
 go_enter Tryz.func132,Tryz.ntmps132
 go_wp2_with fail
 obtain⟨wb,hwb,db,sb,BX⟩:=Xt a A1 A2 c1 c2 w
 rw [<-hwb]
 clear hwb
 refine(QN a.word _).mono ?_
 rintro e w1 ⟨he,k1⟩
 subst he
 have d1:Qc [] wb w1:=k1
 obtain⟨kb,hkb⟩:∃b,b=(Qo a.word).isSome:=⟨_,rfl⟩
 have HK:Hid (kb=true↔Qo a.word≠none):=by show _↔_;rw [hkb];cases Qo a.word<;>simp
 obtain⟨kz,hkz⟩:∃z,z=(Qo a.word).getD 0:=⟨_,rfl⟩
 rw [<-hkb, <-hkz]
 clear hkb hkz k1
 obtain⟨p0,p1,p2,p3,p4,p5,p6,p7,p8,p9,p10⟩:=BX.out _ d1
 go_wp2_with fail
 refine(QK a.word _).mono ?_
 rintro e w2 ⟨he,k2⟩
 subst he
 have d2:Qc [] wb w2:=d1.tz k2
 obtain⟨lb,hlb⟩:∃b,b=((Qj a.word).map (·.1)).isSome:=⟨_,rfl⟩
 have HL:Hid (lb=true↔Qj a.word≠none):=by show _↔_;rw [hlb];cases Qj a.word<;>simp
 obtain⟨lz,hlz⟩:∃z,z=((Qj a.word).map (·.1)).getD 0:=⟨_,rfl⟩
 rw [<-hlb, <-hlz]
 clear hlb hlz k2 p0 p1 p2 p3 p4 p5 p6 p7 p8 p9 p10
 obtain⟨p0,p1,p2,p3,p4,p5,p6,p7,p8,p9,p10⟩:=BX.out _ d2
 go_wp2_with fail
 refine(Wp a.slot 0 2 _).mono ?_
 rintro e w3 ⟨sl,rfl,hsl,rfl⟩
 have HS:Hid (sl=true↔QE a.slot):=hsl
 have d3:Qc [] w w3:=db.tz d2
 clear hsl
 cases sl
 all_goals
  go_wp2_with fail
  all_goals first
   |exact Wa (d3)
   |(refine(Xj a A1 A2 c1 c2 _ _ _ _ _ _ Jq _).mono ?_;rintro e w4 ⟨t,rfl,ht4,c4⟩;go_wp2_with fail;all_goals exact Wa ((d3).tz c4))
theorem QaD (a:Qa) (A1 A2:Option Addr) (c1 c2:Nat) (w:World) (h:¬(1<=a.op/\a.op<=10)/\xF a.op false false false false false false false false false false) (hk:a.call.key.size<=1048576) (ht:a.call.text.size<=1048575):
  Calls Tryz.prog 132 #[.agg #[.int .i64 a.op,.int .i64 a.slot,.int .i64 a.other,.string a.word,.string a.call.method,.string a.call.key,.int .i64 a.call.value,.string a.call.text,.int .i64 a.face,.slice A1 a.A.length c1,.slice A2 a.B.length c2]] w (Qg (ZG a) w):=by
 have CL:=Qb (fun W=>XX a.call W hk ht)
 have HA:=Qb (show ¬ZG a from fun k=>h.1 (Gt k))
 clear hk ht
 obtain⟨_,n1,n2,n3,n4,n5,n6,n7,n8,n9,n10⟩:=h
 go_enter Tryz.func132,Tryz.ntmps132
 go_wp2_with fail
 obtain⟨wb,hwb,db,sb,BX⟩:=Xt a A1 A2 c1 c2 w
 rw [<-hwb]
 clear hwb
 refine(QN a.word _).mono ?_
 rintro e w1 ⟨he,k1⟩
 subst he
 have d1:Qc [] wb w1:=k1
 obtain⟨kb,hkb⟩:∃b,b=(Qo a.word).isSome:=⟨_,rfl⟩
 have HK:Hid (kb=true↔Qo a.word≠none):=by show _↔_;rw [hkb];cases Qo a.word<;>simp
 obtain⟨kz,hkz⟩:∃z,z=(Qo a.word).getD 0:=⟨_,rfl⟩
 rw [<-hkb, <-hkz]
 clear hkb hkz k1
 obtain⟨p0,p1,p2,p3,p4,p5,p6,p7,p8,p9,p10⟩:=BX.out _ d1
 go_wp2_with fail
 refine(QK a.word _).mono ?_
 rintro e w2 ⟨he,k2⟩
 subst he
 have d2:Qc [] wb w2:=d1.tz k2
 obtain⟨lb,hlb⟩:∃b,b=((Qj a.word).map (·.1)).isSome:=⟨_,rfl⟩
 have HL:Hid (lb=true↔Qj a.word≠none):=by show _↔_;rw [hlb];cases Qj a.word<;>simp
 obtain⟨lz,hlz⟩:∃z,z=((Qj a.word).map (·.1)).getD 0:=⟨_,rfl⟩
 rw [<-hlb, <-hlz]
 clear hlb hlz k2 p0 p1 p2 p3 p4 p5 p6 p7 p8 p9 p10
 obtain⟨p0,p1,p2,p3,p4,p5,p6,p7,p8,p9,p10⟩:=BX.out _ d2
 go_wp2_with fail
 refine(Wp a.slot 0 2 _).mono ?_
 rintro e w3 ⟨sl,rfl,hsl,rfl⟩
 have HS:Hid (sl=true↔QE a.slot):=hsl
 have d3:Qc [] w w3:=db.tz d2
 clear hsl
 go_wp2_with fail
 go_ret
 exact Qg.of ⟨fun h=>by simp at h,fun h=>absurd h HA.out⟩ d3
theorem Qb7 (a:Qa) (A1 A2:Option Addr) (c1 c2:Nat) (w:World) (h:a.op=4) (hk:a.call.key.size<=1048576) (ht:a.call.text.size<=1048575):
  Calls Tryz.prog 132 #[.agg #[.int .i64 a.op,.int .i64 a.slot,.int .i64 a.other,.string a.word,.string a.call.method,.string a.call.key,.int .i64 a.call.value,.string a.call.text,.int .i64 a.face,.slice A1 a.A.length c1,.slice A2 a.B.length c2]] w (Qg (ZG a) w):=by
 have CL:=Qb (fun W=>XX a.call W hk ht)
 have HA:=Qb (GV h)
 clear hk ht
 obtain⟨n1,n2,n3,n4,n5,n6,n7,n8,n9,n10⟩:=Qef h
 clear h
 go_enter Tryz.func132,Tryz.ntmps132
 go_wp2_with fail
 obtain⟨wb,hwb,db,sb,BX⟩:=Xt a A1 A2 c1 c2 w
 rw [<-hwb]
 clear hwb
 refine(QN a.word _).mono ?_
 rintro e w1 ⟨he,k1⟩
 subst he
 have d1:Qc [] wb w1:=k1
 obtain⟨kb,hkb⟩:∃b,b=(Qo a.word).isSome:=⟨_,rfl⟩
 have HK:Hid (kb=true↔Qo a.word≠none):=by show _↔_;rw [hkb];cases Qo a.word<;>simp
 obtain⟨kz,hkz⟩:∃z,z=(Qo a.word).getD 0:=⟨_,rfl⟩
 rw [<-hkb, <-hkz]
 clear hkb hkz k1
 obtain⟨p0,p1,p2,p3,p4,p5,p6,p7,p8,p9,p10⟩:=BX.out _ d1
 go_wp2_with fail
 refine(QK a.word _).mono ?_
 rintro e w2 ⟨he,k2⟩
 subst he
 have d2:Qc [] wb w2:=d1.tz k2
 obtain⟨lb,hlb⟩:∃b,b=((Qj a.word).map (·.1)).isSome:=⟨_,rfl⟩
 have HL:Hid (lb=true↔Qj a.word≠none):=by show _↔_;rw [hlb];cases Qj a.word<;>simp
 obtain⟨lz,hlz⟩:∃z,z=((Qj a.word).map (·.1)).getD 0:=⟨_,rfl⟩
 rw [<-hlb, <-hlz]
 clear hlb hlz k2 p0 p1 p2 p3 p4 p5 p6 p7 p8 p9 p10
 obtain⟨p0,p1,p2,p3,p4,p5,p6,p7,p8,p9,p10⟩:=BX.out _ d2
 go_wp2_with fail
 refine(Wp a.slot 0 2 _).mono ?_
 rintro e w3 ⟨sl,rfl,hsl,rfl⟩
 have HS:Hid (sl=true↔QE a.slot):=hsl
 have d3:Qc [] w w3:=db.tz d2
 clear hsl
 cases sl
 all_goals
  go_wp2_with fail
  all_goals first
   |exact Wa (d3)
   |(refine(Xj a A1 A2 c1 c2 _ _ _ _ _ _ Gy _).mono ?_;rintro e w4 ⟨t,rfl,ht4,c4⟩;go_wp2_with fail;all_goals exact Wa ((d3).tz c4))
   | (refine(Wp a.other 0 2 _).mono ?_
      rintro e w5 ⟨t5,rfl,ht5,rfl⟩
      have hh5:t5=true↔QE a.other:=ht5
      clear ht5
      cases t5
      all_goals
       simp at hh5
       go_wp2_with fail
       all_goals first
        |exact Wa (d3)
        |(refine(Xj a A1 A2 c1 c2 _ _ _ _ _ _ Gy _).mono ?_;rintro e w4 ⟨t,rfl,ht4,c4⟩;go_wp2_with fail;all_goals exact Wa ((d3).tz c4)))
theorem Qcj (a:Qa) (A1 A2:Option Addr) (c1 c2:Nat) (w:World) (h:a.op=6) (hk:a.call.key.size<=1048576) (ht:a.call.text.size<=1048575):
  Calls Tryz.prog 132 #[.agg #[.int .i64 a.op,.int .i64 a.slot,.int .i64 a.other,.string a.word,.string a.call.method,.string a.call.key,.int .i64 a.call.value,.string a.call.text,.int .i64 a.face,.slice A1 a.A.length c1,.slice A2 a.B.length c2]] w (Qg (ZG a) w):=by
 have CL:=Qb (fun W=>XX a.call W hk ht)
 have HA:=Qb (jk h)
 clear hk ht
 obtain⟨n1,n2,n3,n4,n5,n6,n7,n8,n9,n10⟩:=Qe4 h
 clear h
 go_enter Tryz.func132,Tryz.ntmps132
 go_wp2_with fail
 obtain⟨wb,hwb,db,sb,BX⟩:=Xt a A1 A2 c1 c2 w
 rw [<-hwb]
 clear hwb
 refine(QN a.word _).mono ?_
 rintro e w1 ⟨he,k1⟩
 subst he
 have d1:Qc [] wb w1:=k1
 obtain⟨kb,hkb⟩:∃b,b=(Qo a.word).isSome:=⟨_,rfl⟩
 have HK:Hid (kb=true↔Qo a.word≠none):=by show _↔_;rw [hkb];cases Qo a.word<;>simp
 obtain⟨kz,hkz⟩:∃z,z=(Qo a.word).getD 0:=⟨_,rfl⟩
 rw [<-hkb, <-hkz]
 clear hkb hkz k1
 obtain⟨p0,p1,p2,p3,p4,p5,p6,p7,p8,p9,p10⟩:=BX.out _ d1
 go_wp2_with fail
 refine(QK a.word _).mono ?_
 rintro e w2 ⟨he,k2⟩
 subst he
 have d2:Qc [] wb w2:=d1.tz k2
 obtain⟨lb,hlb⟩:∃b,b=((Qj a.word).map (·.1)).isSome:=⟨_,rfl⟩
 have HL:Hid (lb=true↔Qj a.word≠none):=by show _↔_;rw [hlb];cases Qj a.word<;>simp
 obtain⟨lz,hlz⟩:∃z,z=((Qj a.word).map (·.1)).getD 0:=⟨_,rfl⟩
 rw [<-hlb, <-hlz]
 clear hlb hlz k2 p0 p1 p2 p3 p4 p5 p6 p7 p8 p9 p10
 obtain⟨p0,p1,p2,p3,p4,p5,p6,p7,p8,p9,p10⟩:=BX.out _ d2
 go_wp2_with fail
 refine(Wp a.slot 0 2 _).mono ?_
 rintro e w3 ⟨sl,rfl,hsl,rfl⟩
 have HS:Hid (sl=true↔QE a.slot):=hsl
 have d3:Qc [] w w3:=db.tz d2
 clear hsl
 cases sl
 all_goals
  go_wp2_with fail
  all_goals first
   |exact Wa (d3)
   |(refine(Xj a A1 A2 c1 c2 _ _ _ _ _ _ qy _).mono ?_;rintro e w4 ⟨t,rfl,ht4,c4⟩;go_wp2_with fail;all_goals exact Wa ((d3).tz c4))
   | (refine(xw a.face _).mono ?_
      rintro e w5 ⟨t5,rfl,hh5,rfl⟩
      cases t5
      all_goals
       simp at hh5
       go_wp2_with fail
       all_goals first
        |exact Wa (d3)
        |(refine(Xj a A1 A2 c1 c2 _ _ _ _ _ _ qy _).mono ?_;rintro e w4 ⟨t,rfl,ht4,c4⟩;go_wp2_with fail;all_goals exact Wa ((d3).tz c4)))
theorem Qb4 (a:Qa) (A1 A2:Option Addr) (c1 c2:Nat) (w:World) (h:a.op=7) (hk:a.call.key.size<=1048576) (ht:a.call.text.size<=1048575):
  Calls Tryz.prog 132 #[.agg #[.int .i64 a.op,.int .i64 a.slot,.int .i64 a.other,.string a.word,.string a.call.method,.string a.call.key,.int .i64 a.call.value,.string a.call.text,.int .i64 a.face,.slice A1 a.A.length c1,.slice A2 a.B.length c2]] w (Qg (ZG a) w):=by
 have CL:=Qb (fun W=>XX a.call W hk ht)
 have HA:=Qb (jf h)
 clear hk ht
 obtain⟨n1,n2,n3,n4,n5,n6,n7,n8,n9,n10⟩:=Qfd h
 clear h
 go_enter Tryz.func132,Tryz.ntmps132
 go_wp2_with fail
 obtain⟨wb,hwb,db,sb,BX⟩:=Xt a A1 A2 c1 c2 w
 rw [<-hwb]
 clear hwb
 refine(QN a.word _).mono ?_
 rintro e w1 ⟨he,k1⟩
 subst he
 have d1:Qc [] wb w1:=k1
 obtain⟨kb,hkb⟩:∃b,b=(Qo a.word).isSome:=⟨_,rfl⟩
 have HK:Hid (kb=true↔Qo a.word≠none):=by show _↔_;rw [hkb];cases Qo a.word<;>simp
 obtain⟨kz,hkz⟩:∃z,z=(Qo a.word).getD 0:=⟨_,rfl⟩
 rw [<-hkb, <-hkz]
 clear hkb hkz k1
 obtain⟨p0,p1,p2,p3,p4,p5,p6,p7,p8,p9,p10⟩:=BX.out _ d1
 go_wp2_with fail
 refine(QK a.word _).mono ?_
 rintro e w2 ⟨he,k2⟩
 subst he
 have d2:Qc [] wb w2:=d1.tz k2
 obtain⟨lb,hlb⟩:∃b,b=((Qj a.word).map (·.1)).isSome:=⟨_,rfl⟩
 have HL:Hid (lb=true↔Qj a.word≠none):=by show _↔_;rw [hlb];cases Qj a.word<;>simp
 obtain⟨lz,hlz⟩:∃z,z=((Qj a.word).map (·.1)).getD 0:=⟨_,rfl⟩
 rw [<-hlb, <-hlz]
 clear hlb hlz k2 p0 p1 p2 p3 p4 p5 p6 p7 p8 p9 p10
 obtain⟨p0,p1,p2,p3,p4,p5,p6,p7,p8,p9,p10⟩:=BX.out _ d2
 go_wp2_with fail
 refine(Wp a.slot 0 2 _).mono ?_
 rintro e w3 ⟨sl,rfl,hsl,rfl⟩
 have HS:Hid (sl=true↔QE a.slot):=hsl
 have d3:Qc [] w w3:=db.tz d2
 clear hsl
 cases sl
 all_goals
  go_wp2_with fail
  all_goals first
   |exact Wa (d3)
   |(refine(Xj a A1 A2 c1 c2 _ _ _ _ _ _ JA _).mono ?_;rintro e w4 ⟨t,rfl,ht4,c4⟩;go_wp2_with fail;all_goals exact Wa ((d3).tz c4))
   | (refine(CL.out _).mono ?_
      rintro e w5 ⟨t5,rfl,hh5,k5⟩
      have d5:Qc [] wb w5:=d2.tz k5
      clear p0 p1 p2 p3 p4 p5 p6 p7 p8 p9 p10
      obtain⟨p0,p1,p2,p3,p4,p5,p6,p7,p8,p9,p10⟩:=BX.out _ d5
      cases t5
      all_goals
       simp at hh5
       go_wp2_with fail
       all_goals first
        |exact Wa (db.tz d5)
        |(refine(Xj a A1 A2 c1 c2 _ _ _ _ _ _ JA _).mono ?_;rintro e w4 ⟨t,rfl,ht4,c4⟩;go_wp2_with fail;all_goals exact Wa ((db.tz d5).tz c4)))
theorem Qcm (a:Qa) (A1 A2:Option Addr) (c1 c2:Nat) (w:World) (h:a.op=8) (hk:a.call.key.size<=1048576) (ht:a.call.text.size<=1048575):
  Calls Tryz.prog 132 #[.agg #[.int .i64 a.op,.int .i64 a.slot,.int .i64 a.other,.string a.word,.string a.call.method,.string a.call.key,.int .i64 a.call.value,.string a.call.text,.int .i64 a.face,.slice A1 a.A.length c1,.slice A2 a.B.length c2]] w (Qg (ZG a) w):=by
 have CL:=Qb (fun W=>XX a.call W hk ht)
 have HA:=Qb (jD (.inl h))
 clear hk ht
 obtain⟨n1,n2,n3,n4,n5,n6,n7,n8,n9,n10⟩:=Qd1 h
 clear h
 go_enter Tryz.func132,Tryz.ntmps132
 go_wp2_with fail
 obtain⟨wb,hwb,db,sb,BX⟩:=Xt a A1 A2 c1 c2 w
 rw [<-hwb]
 clear hwb
 refine(QN a.word _).mono ?_
 rintro e w1 ⟨he,k1⟩
 subst he
 have d1:Qc [] wb w1:=k1
 obtain⟨kb,hkb⟩:∃b,b=(Qo a.word).isSome:=⟨_,rfl⟩
 have HK:Hid (kb=true↔Qo a.word≠none):=by show _↔_;rw [hkb];cases Qo a.word<;>simp
 obtain⟨kz,hkz⟩:∃z,z=(Qo a.word).getD 0:=⟨_,rfl⟩
 rw [<-hkb, <-hkz]
 clear hkb hkz k1
 obtain⟨p0,p1,p2,p3,p4,p5,p6,p7,p8,p9,p10⟩:=BX.out _ d1
 go_wp2_with fail
 refine(QK a.word _).mono ?_
 rintro e w2 ⟨he,k2⟩
 subst he
 have d2:Qc [] wb w2:=d1.tz k2
 obtain⟨lb,hlb⟩:∃b,b=((Qj a.word).map (·.1)).isSome:=⟨_,rfl⟩
 have HL:Hid (lb=true↔Qj a.word≠none):=by show _↔_;rw [hlb];cases Qj a.word<;>simp
 obtain⟨lz,hlz⟩:∃z,z=((Qj a.word).map (·.1)).getD 0:=⟨_,rfl⟩
 rw [<-hlb, <-hlz]
 clear hlb hlz k2 p0 p1 p2 p3 p4 p5 p6 p7 p8 p9 p10
 obtain⟨p0,p1,p2,p3,p4,p5,p6,p7,p8,p9,p10⟩:=BX.out _ d2
 go_wp2_with fail
 refine(Wp a.slot 0 2 _).mono ?_
 rintro e w3 ⟨sl,rfl,hsl,rfl⟩
 have HS:Hid (sl=true↔QE a.slot):=hsl
 have d3:Qc [] w w3:=db.tz d2
 clear hsl
 cases hz:(a.slot==0)
 all_goals
  go_wp2_with fail
  all_goals first
   |exact Wa (d3)
   |(refine(Xj a A1 A2 c1 c2 _ _ _ _ _ _ GR _).mono ?_;rintro e w4 ⟨t,rfl,ht4,c4⟩;go_wp2_with fail;all_goals exact Wa ((d3).tz c4))
theorem jV (a:Qa) (A1 A2:Option Addr) (c1 c2:Nat) (w:World) (h:a.op=10) (hk:a.call.key.size<=1048576) (ht:a.call.text.size<=1048575):
  Calls Tryz.prog 132 #[.agg #[.int .i64 a.op,.int .i64 a.slot,.int .i64 a.other,.string a.word,.string a.call.method,.string a.call.key,.int .i64 a.call.value,.string a.call.text,.int .i64 a.face,.slice A1 a.A.length c1,.slice A2 a.B.length c2]] w (Qg (ZG a) w):=by
 have CL:=Qb (fun W=>XX a.call W hk ht)
 have HA:=Qb (jD (.inr h))
 clear hk ht
 obtain⟨n1,n2,n3,n4,n5,n6,n7,n8,n9,n10⟩:=QcG h
 clear h
 go_enter Tryz.func132,Tryz.ntmps132
 go_wp2_with fail
 obtain⟨wb,hwb,db,sb,BX⟩:=Xt a A1 A2 c1 c2 w
 rw [<-hwb]
 clear hwb
 refine(QN a.word _).mono ?_
 rintro e w1 ⟨he,k1⟩
 subst he
 have d1:Qc [] wb w1:=k1
 obtain⟨kb,hkb⟩:∃b,b=(Qo a.word).isSome:=⟨_,rfl⟩
 have HK:Hid (kb=true↔Qo a.word≠none):=by show _↔_;rw [hkb];cases Qo a.word<;>simp
 obtain⟨kz,hkz⟩:∃z,z=(Qo a.word).getD 0:=⟨_,rfl⟩
 rw [<-hkb, <-hkz]
 clear hkb hkz k1
 obtain⟨p0,p1,p2,p3,p4,p5,p6,p7,p8,p9,p10⟩:=BX.out _ d1
 go_wp2_with fail
 refine(QK a.word _).mono ?_
 rintro e w2 ⟨he,k2⟩
 subst he
 have d2:Qc [] wb w2:=d1.tz k2
 obtain⟨lb,hlb⟩:∃b,b=((Qj a.word).map (·.1)).isSome:=⟨_,rfl⟩
 have HL:Hid (lb=true↔Qj a.word≠none):=by show _↔_;rw [hlb];cases Qj a.word<;>simp
 obtain⟨lz,hlz⟩:∃z,z=((Qj a.word).map (·.1)).getD 0:=⟨_,rfl⟩
 rw [<-hlb, <-hlz]
 clear hlb hlz k2 p0 p1 p2 p3 p4 p5 p6 p7 p8 p9 p10
 obtain⟨p0,p1,p2,p3,p4,p5,p6,p7,p8,p9,p10⟩:=BX.out _ d2
 go_wp2_with fail
 refine(Wp a.slot 0 2 _).mono ?_
 rintro e w3 ⟨sl,rfl,hsl,rfl⟩
 have HS:Hid (sl=true↔QE a.slot):=hsl
 have d3:Qc [] w w3:=db.tz d2
 clear hsl
 cases hz:(a.slot==0)
 all_goals
  go_wp2_with fail
  all_goals first
   |exact Wa (d3)
   |(refine(Xj a A1 A2 c1 c2 _ _ _ _ _ _ GR _).mono ?_;rintro e w4 ⟨t,rfl,ht4,c4⟩;go_wp2_with fail;all_goals exact Wa ((d3).tz c4))
theorem QbT (a:Qa) (A1 A2:Option Addr) (c1 c2:Nat) (w:World) (h:a.op=9) (hk:a.call.key.size<=1048576) (ht:a.call.text.size<=1048575):
  Calls Tryz.prog 132 #[.agg #[.int .i64 a.op,.int .i64 a.slot,.int .i64 a.other,.string a.word,.string a.call.method,.string a.call.key,.int .i64 a.call.value,.string a.call.text,.int .i64 a.face,.slice A1 a.A.length c1,.slice A2 a.B.length c2]] w (Qg (ZG a) w):=by
 have CL:=Qb (fun W=>XX a.call W hk ht)
 have HA:=Qb (QcM h)
 clear hk ht
 obtain⟨n1,n2,n3,n4,n5,n6,n7,n8,n9,n10⟩:=Qeq h
 clear h
 go_enter Tryz.func132,Tryz.ntmps132
 go_wp2_with fail
 obtain⟨wb,hwb,db,sb,BX⟩:=Xt a A1 A2 c1 c2 w
 rw [<-hwb]
 clear hwb
 refine(QN a.word _).mono ?_
 rintro e w1 ⟨he,k1⟩
 subst he
 have d1:Qc [] wb w1:=k1
 obtain⟨kb,hkb⟩:∃b,b=(Qo a.word).isSome:=⟨_,rfl⟩
 have HK:Hid (kb=true↔Qo a.word≠none):=by show _↔_;rw [hkb];cases Qo a.word<;>simp
 obtain⟨kz,hkz⟩:∃z,z=(Qo a.word).getD 0:=⟨_,rfl⟩
 rw [<-hkb, <-hkz]
 clear hkb hkz k1
 obtain⟨p0,p1,p2,p3,p4,p5,p6,p7,p8,p9,p10⟩:=BX.out _ d1
 go_wp2_with fail
 refine(QK a.word _).mono ?_
 rintro e w2 ⟨he,k2⟩
 subst he
 have d2:Qc [] wb w2:=d1.tz k2
 obtain⟨lb,hlb⟩:∃b,b=((Qj a.word).map (·.1)).isSome:=⟨_,rfl⟩
 have HL:Hid (lb=true↔Qj a.word≠none):=by show _↔_;rw [hlb];cases Qj a.word<;>simp
 obtain⟨lz,hlz⟩:∃z,z=((Qj a.word).map (·.1)).getD 0:=⟨_,rfl⟩
 rw [<-hlb, <-hlz]
 clear hlb hlz k2 p0 p1 p2 p3 p4 p5 p6 p7 p8 p9 p10
 obtain⟨p0,p1,p2,p3,p4,p5,p6,p7,p8,p9,p10⟩:=BX.out _ d2
 go_wp2_with fail
 refine(Wp a.slot 0 2 _).mono ?_
 rintro e w3 ⟨sl,rfl,hsl,rfl⟩
 have HS:Hid (sl=true↔QE a.slot):=hsl
 have d3:Qc [] w w3:=db.tz d2
 clear hsl
 cases hz:(a.slot==0)
 all_goals
  go_wp2_with fail
  all_goals first
   |exact Wa (d3)
   |(refine(Xj a A1 A2 c1 c2 _ _ _ _ _ _ uV _).mono ?_;rintro e w4 ⟨t,rfl,ht4,c4⟩;go_wp2_with fail;all_goals exact Wa ((d3).tz c4))
theorem ji {l:List Qa} (h:Qi l<=1048576) {a:Qa} (ha:a∈l):Qi a.A<=1048576/\Qi a.B<=1048576/\a.call.key.size<=1048576/\a.call.text.size<=1048575:=by
 have h1:Xv a<=Wv l:=zW Xv ha
 have h2:=Wf a
 have h3:0<l.length:=List.length_pos_of_mem ha
 unfold Qi at h
 unfold xd at h2
 refine⟨?_,?_,?_,?_⟩<;>omega
theorem je (a:Qa) (A1 A2:Option Addr) (c1 c2:Nat) (w:World) (hk:a.call.key.size<=1048576) (ht:a.call.text.size<=1048575):
  Calls Tryz.prog 132 #[.agg #[.int .i64 a.op,.int .i64 a.slot,.int .i64 a.other,.string a.word,.string a.call.method,.string a.call.key,.int .i64 a.call.value,.string a.call.text,.int .i64 a.face,.slice A1 a.A.length c1,.slice A2 a.B.length c2]] w (Qg (ZG a) w):=by
 rcases jW a.op with (h|h|h|h|h|h|h|h|h|h)|h
 ·exact Qce a A1 A2 c1 c2 w h hk ht
 ·exact Qcb a A1 A2 c1 c2 w h hk ht
 ·exact Qbj a A1 A2 c1 c2 w h hk ht
 ·exact Qb7 a A1 A2 c1 c2 w h hk ht
 ·exact Qbd a A1 A2 c1 c2 w h hk ht
 ·exact Qcj a A1 A2 c1 c2 w h hk ht
 ·exact Qb4 a A1 A2 c1 c2 w h hk ht
 ·exact Qcm a A1 A2 c1 c2 w h hk ht
 ·exact QbT a A1 A2 c1 c2 w h hk ht
 ·exact jV a A1 A2 c1 c2 w h hk ht
 ·exact QaD a A1 A2 c1 c2 w h hk ht
def QfR (l:List Qa):Prop:=∀(u:Value) (B:Nat) (w:World),Qi l<=1048576->Rd w B (QA l) u->B<=w.heap.size->
 Calls Tryz.prog 91 #[u] w (Qg (Jm l) w)
theorem Qdu:∀l,QfR l:=by
 refine j4 fun l ih=>?_
 intro u B w hW hr hB
 obtain⟨A,cap,rfl,h0,h1,hrow⟩:=Qr hr
 unfold maxLen at h1
 have IH:=Qb ih
 have HW:=Qb hW
 have HO:=Qb (Wh l)
 clear ih hr hW
 go_enter Tryz.func91,Tryz.ntmps91
 go_wp2_with fail
 go_loopw [7] (fun i wr=>∃k:Nat,k<=l.length/\i= .int .i64 k/\Hid (∀(j:Nat) (h:j<l.length),j<k->l[j].ok)/\Qc [] w wr) (fun i _=>l.length-(intOf i).toNat)
 case atStart=>exact⟨0,I3 _,rfl,fun j h h0=>absurd h0 (M4 _),B0 _ _⟩
 case round=>
  obtain⟨k,hk,rfl,HN,hc⟩:=hrel
  by_cases hlt:k<l.length
  ·obtain⟨b,off,uA,uB,rfl,hb,q0,q1,q2,q3,q4,q5,q6,q7,q8,q9,q10,rA,rB⟩:=Yh (hrow.cz hc hB) k hlt
   obtain⟨A1,cap1,rfl,_,_,_⟩:=Qr rA
   obtain⟨A2,cap2,rfl,_,_,_⟩:=Qr rB
   have hmem:=I4 hlt
   have hin:=ji HW.out hmem
   have hcs:=hc.size
   have HOK:=Qb (l[k].ok_iff)
   have IS:=Qb (fun W=>je l[k] A1 A2 cap1 cap2 W hin.2.2.1 hin.2.2.2)
   have IA:=Qb (fun W (hW:Qc [] wr W)=>(IH.out _ hmem).1 _ B W hin.1 (rA.cz hW (by omega)) (by have:=hW.size;omega))
   have IB:=Qb (fun W (hW:Qc [] wr W)=>(IH.out _ hmem).2 _ B W hin.2.1 (rB.cz hW (by omega)) (by have:=hW.size;omega))
   go_wp2_with fail
   refine(IS.out _).mono ?_
   rintro e w1 ⟨t,rfl,ht,c1⟩
   have g9:w1.cell? ⟨wr.heap.size,9,none⟩=some (.slice A1 l[k].A.length cap1):=(c1.cell (p:=⟨wr.heap.size,9,none⟩) (by simp) (by simp)).trans (by go_simp)
   have g10:w1.cell? ⟨wr.heap.size,10,none⟩=some (.slice A2 l[k].B.length cap2):=(c1.cell (p:=⟨wr.heap.size,10,none⟩) (by simp) (by simp)).trans (by go_simp)
   have s1:wr.heap.size<w1.heap.size:=by have:=c1.size;simp at this;omega
   have HT:=Qb ht
   have d1:Qc [] wr w1:=((B0 _ _).alloc _).tz c1
   clear ht c1
   cases t
   ·go_wp2_with fail
    go_ret
    exact Qg.of ⟨fun h=>by simp at h,fun h=>by have:=HT.out.2 (HOK.out.1 (HO.out.1 h _ hmem)).1;simp at this⟩ (hc.tz d1)
   ·go_wp2_with fail
    refine(IA.out _ d1).mono ?_
    rintro e w2 ⟨t,rfl,ht,c2⟩
    have f10:=(c2.cell (p:=⟨wr.heap.size,10,none⟩) s1 (by simp)).trans g10
    have HT2:=Qb ht
    have d2:Qc [] wr w2:=d1.tz c2
    clear ht c2
    cases t
    ·go_wp2_with fail
     go_ret
     exact Qg.of ⟨fun h=>by simp at h,fun h=>by have:=HT2.out.2 (HOK.out.1 (HO.out.1 h _ hmem)).2.1;simp at this⟩ (hc.tz d2)
    ·go_wp2_with fail
     refine(IB.out _ d2).mono ?_
     rintro e w3 ⟨t,rfl,ht,c3⟩
     have HT3:=Qb ht
     have d3:Qc [] wr w3:=d2.tz c3
     clear ht c3
     cases t
     ·go_wp2_with fail
      go_ret
      exact Qg.of ⟨fun h=>by simp at h,fun h=>by have:=HT3.out.2 (HOK.out.1 (HO.out.1 h _ hmem)).2.2;simp at this⟩ (hc.tz d3)
     ·go_wp2_with fail
      go_roundw
      case rel=>exact⟨k+1,by omega,by go_num,Qb (fun j h hj=>(I7.1 hj).elim (HN.out j h) (fun e=>by subst e;exact HOK.out.2 ⟨HT.out.1 (by simp),HT2.out.1 (by simp),HT3.out.1 (by simp)⟩)),hc.tz d3⟩
      case measure=>simp [intOf];omega
  ·obtain rfl:k=l.length:=by omega
   go_wp2_with fail
   go_ret
   refine Qg.of ⟨fun _=>HO.out.2 fun a ha=>?_,fun _=>rfl⟩ hc
   obtain⟨j,hj,rfl⟩:=M0 ha
   exact HN.out j hj hj
theorem JK (l:List Qa) (u:Value) (B:Nat) (w:World) (hW:Qi l<=1048576) (hr:Rd w B (QA l) u) (hB:B<=w.heap.size):
  Calls Tryz.prog 62 #[u] w (Qg (Xn l) w):=by
 have PS:=Qb (zT l u B w hW hr hB)
 have PD:=Qb (fun W (hc:Qc [] w W)=>qS l u B W hW (hr.cz hc hB) (G5 hB hc.size))
 have PA:=Qb (fun W (hc:Qc [] w W)=>Qdu l u B W hW (hr.cz hc hB) (G5 hB hc.size))
 obtain⟨A,cap,rfl,_,_,_⟩:=Qr hr
 clear hr hW
 go_enter Tryz.func62,Tryz.ntmps62
 go_wp2_with fail
 refine PS.out.mono ?_
 rintro e w1 ⟨rfl,c1⟩
 by_cases h1:Qd l<=14
 ·go_wp2_with fail
  refine(PD.out _ c1).mono ?_
  rintro e w2 ⟨rfl,c2⟩
  by_cases h2:Qv l<=3
  ·go_wp2_with fail
   refine(PA.out _ (c1.tz c2)).mono ?_
   rintro e w3 ⟨t,rfl,ht,c3⟩
   have HT:=Qb ht
   clear ht
   go_wp2_with fail
   all_goals(go_ret;exact Qg.of (by unfold Xn;have:=HT.out;simp [h1,h2,this]) ((c1.tz c2).tz c3))
  ·go_wp2_with fail
   go_ret
   exact Qg.of ⟨fun h=>by simp at h,fun h=>absurd h.2.1 h2⟩ (c1.tz c2)
 ·go_wp2_with fail
  go_ret
  exact Qg.of ⟨fun h=>by simp at h,fun h=>absurd h.1 h1⟩ c1
end Go.Proofs.YtfjhdnjlhjimeaaGreatDoor
