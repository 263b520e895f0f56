/- IsCall of both packages. -/
import Derived.Test.YtjigcplpkhpgnaaGreatDoorActOks
import Derived.Test.YtjigcplpkhpgnaaGreatDoorNumsAll
set_option maxRecDepth 100000
set_option maxHeartbeats 4000000
namespace Go.Proofs.YtjigcplpkhpgnaaGreatDoor
open Go.RowKit

theorem text_is {a:ByteArray} {l:List UInt8} (h:a=⟨l.toArray⟩):(a.toList==l)=true:=by
  rw [h,ByteArray.toList_eq];simp
theorem text_no {a:ByteArray} {l:List UInt8} (h:a≠⟨l.toArray⟩):(a.toList==l)=false:=by
  rw [beq_eq_false_iff_ne,ByteArray.toList_eq]
  intro e
  exact h (ByteArray.ext (Array.toList_inj.1 (by simpa using e)))
theorem empty_is {s:ByteArray}:(s.toList== [])=true↔s.size=0:=by
  rw [ByteArray.toList_eq,beq_iff_eq]
  exact⟨fun h=>congrArg List.length h,fun h=>List.eq_nil_of_length_eq_zero h⟩
/-- Which method it is. -/
theorem methCases (m:ByteArray):
    (m=mGet/\(m.toList== [71,101,116])=true/\(m.toList== [80,117,116])=false/\(m.toList== [72,101,97,114])=false/\(m.toList== [76,111,97,100])=false)∨
    (m=mPut/\(m.toList== [71,101,116])=false/\(m.toList== [80,117,116])=true/\(m.toList== [72,101,97,114])=false/\(m.toList== [76,111,97,100])=false)∨
    (m=mHear/\(m.toList== [71,101,116])=false/\(m.toList== [80,117,116])=false/\(m.toList== [72,101,97,114])=true/\(m.toList== [76,111,97,100])=false)∨
    (m=mLoad/\(m.toList== [71,101,116])=false/\(m.toList== [80,117,116])=false/\(m.toList== [72,101,97,114])=false/\(m.toList== [76,111,97,100])=true)∨
    ((m≠mGet/\m≠mPut/\m≠mHear/\m≠mLoad)/\(m.toList== [71,101,116])=false/\(m.toList== [80,117,116])=false/\(m.toList== [72,101,97,114])=false/\(m.toList== [76,111,97,100])=false):=by
  by_cases h1:m=mGet
  · exact .inl ⟨h1,text_is h1,text_no (by rw [h1];decide),text_no (by rw [h1];decide),text_no (by rw [h1];decide)⟩
  · by_cases h2:m=mPut
    · exact .inr (.inl ⟨h2,text_no h1,text_is h2,text_no (by rw [h2];decide),text_no (by rw [h2];decide)⟩)
    · by_cases h3:m=mHear
      · exact .inr (.inr (.inl ⟨h3,text_no h1,text_no h2,text_is h3,text_no (by rw [h3];decide)⟩))
      · by_cases h4:m=mLoad
        · exact .inr (.inr (.inr (.inl ⟨h4,text_no h1,text_no h2,text_no h3,text_is h4⟩)))
        · exact .inr (.inr (.inr (.inr ⟨⟨h1,h2,h3,h4⟩,text_no h1,text_no h2,text_no h3,text_no h4⟩)))
theorem abil_get:abilOf mGet=some 1:=(abilOf_mem (k:=1) (by simp [methL])).2
theorem abil_put:abilOf mPut=some 1:=(abilOf_mem (k:=1) (by simp [methL])).2
theorem abil_hear:abilOf mHear=some 3:=(abilOf_mem (k:=3) (by simp [methL])).2
theorem abil_load:abilOf mLoad=some 4:=(abilOf_mem (k:=4) (by simp [methL])).2
theorem callOk_get {x:CallT} (h:x.method=mGet):CallOk x↔(x.text.toList== [])=true/\IsNm x.key/\x.value=0:=by
  unfold CallOk
  rw [h,abil_get,empty_is]
  have h1:mGet≠mLoad:=by decide
  have h2:mGet≠mPut:=by decide
  have h3:mGet≠mHear:=by decide
  simp [h1,h2,h3]
theorem callOk_put {x:CallT} (h:x.method=mPut):CallOk x↔(x.text.toList== [])=true/\IsNm x.key/\IsNum x.value:=by
  unfold CallOk
  rw [h,abil_put,empty_is]
  have h1:mPut≠mLoad:=by decide
  have h2:mPut≠mGet:=by decide
  have h3:mPut≠mHear:=by decide
  simp [h1,h2,h3]
theorem callOk_hear {x:CallT} (h:x.method=mHear):CallOk x↔(x.text.toList== [])=true/\(x.key.toList== [])=true/\IsNum x.value:=by
  unfold CallOk
  rw [h,abil_hear,empty_is,empty_is]
  have h1:mHear≠mLoad:=by decide
  have h2:mHear≠mGet:=by decide
  have h3:mHear≠mPut:=by decide
  simp [h1,h2,h3]
theorem callOk_load {x:CallT} (h:x.method=mLoad):CallOk x↔(x.key.toList== [])=true/\x.value=0:=by
  unfold CallOk
  rw [h,abil_load,empty_is]
  have h1:mLoad≠mHear:=by decide
  have h2:mLoad≠mGet:=by decide
  have h3:mLoad≠mPut:=by decide
  simp [h1,h2,h3]
theorem callOk_other {x:CallT} (h:x.method≠mGet/\x.method≠mPut/\x.method≠mHear/\x.method≠mLoad):CallOk x↔abilOf x.method≠none/\(x.text.toList== [])=true/\(x.key.toList== [])=true/\x.value=0:=by
  unfold CallOk
  rw [empty_is,empty_is]
  simp [h.1,h.2.1,h.2.2.1,h.2.2.2]
theorem isCall_impl_any (x:CallT) (w:World) (hs:x.key.size<=1048576):
    Calls Tryz.prog 113 #[.agg #[.string x.method,.string x.key,.int .i64 x.value,.string x.text]] w (BoolPost (CallOk x) w):=by
  have NM:=hid (fun W=>isName_impl_any x.key W hs)
  have NU:=hid (fun W=>isNumber_any x.value W)
  have AB:=hid (fun W=>abilityOfMethod_impl_any x.method W)
  have fin:∀(t:Bool) (W:World),Chg [] w W->(t=true↔CallOk x)->BoolPost (CallOk x) w (.returned (.bool t)) W:=fun t W hc h=>⟨t,rfl,h,hc⟩
  have FIN:=hid fin
  clear fin
  rcases methCases x.method with ⟨hm,m1,m2,m3,m4⟩|⟨hm,m1,m2,m3,m4⟩|⟨hm,m1,m2,m3,m4⟩|⟨hm,m1,m2,m3,m4⟩|⟨hm,m1,m2,m3,m4⟩
  case' inl=>
    unfold AbilPost at AB
    rw [(hm ▸ abil_get:abilOf x.method=some 1)] at AB
    have HO:=hid (callOk_get hm)
    clear hm
  case' inr.inl=>
    unfold AbilPost at AB
    rw [(hm ▸ abil_put:abilOf x.method=some 1)] at AB
    have HO:=hid (callOk_put hm)
    clear hm
  case' inr.inr.inl=>
    unfold AbilPost at AB
    rw [(hm ▸ abil_hear:abilOf x.method=some 3)] at AB
    have HO:=hid (callOk_hear hm)
    clear hm
  case' inr.inr.inr.inl=>
    unfold AbilPost at AB
    rw [(hm ▸ abil_load:abilOf x.method=some 4)] at AB
    have HO:=hid (callOk_load hm)
    clear hm
  case' inr.inr.inr.inr=>
    have HO:=hid (callOk_other hm)
    clear hm
    cases ha:abilOf x.method
    case' none=>
      unfold AbilPost at AB
      rw [ha] at AB HO
      clear ha
    case' some k=>
      obtain⟨j,hj,rfl,_⟩:=abilOf_some ha
      unfold AbilPost at AB
      rw [ha] at AB HO
      clear ha
  all_goals
    go_enter Tryz.func113,Tryz.ntmps113
    go_wp2_with fail
    refine(AB.out _).mono ?_
    rintro e w1 ⟨rfl,c1⟩
    have p0:w1.cell? ⟨w.heap.size,0,none⟩=some (.string x.method):=(c1.cell (p:=⟨w.heap.size,0,none⟩) (by simp) (by simp)).trans (by go_simp)
    have p1:w1.cell? ⟨w.heap.size,1,none⟩=some (.string x.key):=(c1.cell (p:=⟨w.heap.size,1,none⟩) (by simp) (by simp)).trans (by go_simp)
    have p2:w1.cell? ⟨w.heap.size,2,none⟩=some (.int .i64 x.value):=(c1.cell (p:=⟨w.heap.size,2,none⟩) (by simp) (by simp)).trans (by go_simp)
    have p3:w1.cell? ⟨w.heap.size,3,none⟩=some (.string x.text):=(c1.cell (p:=⟨w.heap.size,3,none⟩) (by simp) (by simp)).trans (by go_simp)
    have d1:Chg [] w w1:=((Chg.refl _ _).alloc _).trans0 c1
    clear c1
    go_wp2_with fail
    all_goals first
      |(go_ret;refine FIN.out _ _ d1 ?_;rw [HO.out];(try have h1:=HT.out);(try simp at h1);(try have h2:=HU.out);first|(simp [*];done)|(exfalso;simp_all;done))
      | (refine(NM.out _).mono ?_
         rintro e w2 ⟨t,rfl,ht,rfl⟩
         have HT:=hid ht
         clear ht
         cases t
         all_goals
           go_wp2_with fail
           all_goals first
             |(go_ret;refine FIN.out _ _ d1 ?_;rw [HO.out];(try have h1:=HT.out);(try simp at h1);(try have h2:=HU.out);first|(simp [*];done)|(exfalso;simp_all;done))
             | (refine(NU.out _).mono ?_
                rintro e w3 ⟨t,rfl,ht,rfl⟩
                have HU:=hid ht
                clear ht
                go_wp2_with fail
                all_goals(go_ret;refine FIN.out _ _ d1 ?_;rw [HO.out];(try have h1:=HT.out);(try simp at h1);(try have h2:=HU.out);first|(simp [*];done)|(exfalso;simp_all;done))))
      | (refine(NU.out _).mono ?_
         rintro e w2 ⟨t,rfl,ht,rfl⟩
         have HU:=hid ht
         clear ht
         go_wp2_with fail
         all_goals(go_ret;refine FIN.out _ _ d1 ?_;rw [HO.out];(try have h1:=HT.out);(try simp at h1);(try have h2:=HU.out);first|(simp [*];done)|(exfalso;simp_all;done)))
theorem wantOf_some (s:ByteArray) (k:Int) (ha:abilOf s=some k):∃v:Int,(v==0)=false/\∀W,Calls Tryz.prog 103 #[.string s] W fun e w'=>e= .returned (.int .i64 v)/\Chg [] W w':=by
  refine⟨2 ^ k.toNat,beq_eq_false_iff_ne.2 (Int.ne_of_gt (Int.pow_pos (by decide))),fun W=>?_⟩
  have h:=wantOf_spec_any s W
  rw [ha] at h
  exact h
theorem isCall_spec_any (x:CallT) (w:World) (hs:x.key.size<=1048576):
    Calls Tryz.prog 102 #[.agg #[.string x.method,.string x.key,.int .i64 x.value,.string x.text]] w (BoolPost (CallOk x) w):=by
  have NM:=hid (fun W=>isName_spec_any x.key W hs)
  have fin:∀(t:Bool) (W:World),Chg [] w W->(t=true↔CallOk x)->BoolPost (CallOk x) w (.returned (.bool t)) W:=fun t W hc h=>⟨t,rfl,h,hc⟩
  have FIN:=hid fin
  clear fin
  rcases methCases x.method with ⟨hm,m1,m2,m3,m4⟩|⟨hm,m1,m2,m3,m4⟩|⟨hm,m1,m2,m3,m4⟩|⟨hm,m1,m2,m3,m4⟩|⟨hm,m1,m2,m3,m4⟩
  case' inl=>
    obtain⟨v,hv0,WO⟩:=wantOf_some x.method _ (hm ▸ abil_get)
    have WO:=hid WO
    have HO:=hid (callOk_get hm)
    clear hm
  case' inr.inl=>
    obtain⟨v,hv0,WO⟩:=wantOf_some x.method _ (hm ▸ abil_put)
    have WO:=hid WO
    have HO:=hid (callOk_put hm)
    clear hm
  case' inr.inr.inl=>
    obtain⟨v,hv0,WO⟩:=wantOf_some x.method _ (hm ▸ abil_hear)
    have WO:=hid WO
    have HO:=hid (callOk_hear hm)
    clear hm
  case' inr.inr.inr.inl=>
    obtain⟨v,hv0,WO⟩:=wantOf_some x.method _ (hm ▸ abil_load)
    have WO:=hid WO
    have HO:=hid (callOk_load hm)
    clear hm
  case' inr.inr.inr.inr=>
    have HO:=hid (callOk_other hm)
    clear hm
    cases ha:abilOf x.method
    case' none=>
      have WO:=hid (fun W=>wantOf_spec_any x.method W)
      rw [ha] at WO HO
      clear ha
    case' some k=>
      obtain⟨v,hv0,WO⟩:=wantOf_some x.method _ ha
      have WO:=hid WO
      rw [ha] at HO
      clear ha
  all_goals
    go_enter Tryz.func102,Tryz.ntmps102
    go_wp2_with fail
    refine(WO.out _).mono ?_
    rintro e w1 ⟨rfl,c1⟩
    have p0:w1.cell? ⟨w.heap.size,0,none⟩=some (.string x.method):=(c1.cell (p:=⟨w.heap.size,0,none⟩) (by simp) (by simp)).trans (by go_simp)
    have p1:w1.cell? ⟨w.heap.size,1,none⟩=some (.string x.key):=(c1.cell (p:=⟨w.heap.size,1,none⟩) (by simp) (by simp)).trans (by go_simp)
    have p2:w1.cell? ⟨w.heap.size,2,none⟩=some (.int .i64 x.value):=(c1.cell (p:=⟨w.heap.size,2,none⟩) (by simp) (by simp)).trans (by go_simp)
    have p3:w1.cell? ⟨w.heap.size,3,none⟩=some (.string x.text):=(c1.cell (p:=⟨w.heap.size,3,none⟩) (by simp) (by simp)).trans (by go_simp)
    have d1:Chg [] w w1:=((Chg.refl _ _).alloc _).trans0 c1
    clear c1
    go_wp2_with fail
    all_goals first
      |(go_ret;refine FIN.out _ _ d1 ?_;rw [HO.out];(try have h1:=HT.out);(try simp at h1);(try unfold IsNum);first|(simp [*];done)|(simp [*];omega)|(exfalso;simp_all;done)|(exfalso;simp_all;omega))
      | (refine(NM.out _).mono ?_
         rintro e w2 ⟨t,rfl,ht,rfl⟩
         have HT:=hid ht
         clear ht
         cases t
         all_goals
           go_wp2_with fail
           all_goals(go_ret;refine FIN.out _ _ d1 ?_;rw [HO.out];(try have h1:=HT.out);(try simp at h1);(try unfold IsNum);first|(simp [*];done)|(simp [*];omega)|(exfalso;simp_all;done)|(exfalso;simp_all;omega)))
end Go.Proofs.YtjigcplpkhpgnaaGreatDoor
