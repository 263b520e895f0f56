/- The abilities that methods belong to, in plain Lean. / AbilityOfMethod of both packages, WantOf of the reference. -/
import Derived.Test.YtdlkbomojjmnlaaGreatDoorNames
import Derived.Test.YtdlkbomojjmnlaaGreatDoorGround
import Derived.Test.YtdlkbomojjmnlaaGreatDoorApps
set_option maxRecDepth 100000
set_option maxHeartbeats 1000000
namespace Go.Proofs.YtdlkbomojjmnlaaGreatDoor
open Go.RowKit

def mStart:ByteArray:=⟨#[83,116,97,114,116]⟩
def mStop:ByteArray:=⟨#[83,116,111,112]⟩
def mGet:ByteArray:=⟨#[71,101,116]⟩
def mPut:ByteArray:=⟨#[80,117,116]⟩
def mTell:ByteArray:=⟨#[84,101,108,108]⟩
def mHear:ByteArray:=⟨#[72,101,97,114]⟩
def mLoad:ByteArray:=⟨#[76,111,97,100]⟩
def mSave:ByteArray:=⟨#[83,97,118,101]⟩
def mHeal:ByteArray:=⟨#[72,101,97,108]⟩
/-- The methods of an ability. -/
def methL:Nat->List ByteArray
 |0=>[mStart,mStop]
 |1=>[mGet,mPut]
 |2=>[mTell]
 |3=>[mHear]
 |4=>[mLoad,mSave]
 |5=>[mHeal]
 |_=>[]
def methTab:List (List UInt8×Int):=[(mStart.data.toList,0),(mStop.data.toList,0),(mGet.data.toList,1),(mPut.data.toList,1),(mTell.data.toList,2),(mHear.data.toList,3),(mLoad.data.toList,4),(mSave.data.toList,4),(mHeal.data.toList,5)]
/-- The ability of a method. -/
def abilOf (s:ByteArray):Option Int:=look s.toList methTab
theorem abilOf_mem {s:ByteArray} {k:Nat} (h:s∈methL k):k<6/\abilOf s=some k:=by
 unfold abilOf
 rw [ByteArray.toList_eq]
 match k,h with
 |0,h|1,h|4,h=>
  simp only [methL,List.mem_cons,List.not_mem_nil,or_false] at h
  rcases h with rfl|rfl<;>exact⟨by decide,rfl⟩
 |2,h|3,h|5,h=>
  simp only [methL,List.mem_cons,List.not_mem_nil,or_false] at h
  subst h
  exact⟨by decide,rfl⟩
 |k+6,h=>simp [methL] at h
theorem bytes_ne {s t:ByteArray} (h:s≠t):s.toList≠t.data.toList:=by
 intro e
 rw [ByteArray.toList_eq] at e
 exact h (ByteArray.ext (Array.toList_inj.1 e))
theorem abilOf_none {s:ByteArray} (h:∀k,k<6->s∉methL k):abilOf s=none:=by
 unfold abilOf
 have h0:=h 0 (by decide);have h1:=h 1 (by decide);have h2:=h 2 (by decide);have h3:=h 3 (by decide);have h4:=h 4 (by decide);have h5:=h 5 (by decide)
 simp only [methL,List.mem_cons,List.not_mem_nil,or_false,not_or] at h0 h1 h2 h3 h4 h5
 unfold methTab
 rw [look,if_neg (bytes_ne h0.1),look,if_neg (bytes_ne h0.2),look,if_neg (bytes_ne h1.1),look,if_neg (bytes_ne h1.2),look,if_neg (bytes_ne h2),look,if_neg (bytes_ne h3),look,if_neg (bytes_ne h4.1),look,if_neg (bytes_ne h4.2),look,if_neg (bytes_ne h5),look]
theorem abilOf_some {s:ByteArray} {k:Int} (h:abilOf s=some k):∃j:Nat,j<6/\k=j/\s∈methL j:=by
 by_cases hn:∃j,j<6/\s∈methL j
 ·obtain⟨j,hj,hm⟩:=hn
  have:=(abilOf_mem hm).2
  rw [h] at this
  exact⟨j,hj,Option.some.inj this,hm⟩
 ·have:=abilOf_none (s:=s) (fun k hk hm=>hn ⟨k,hk,hm⟩)
  rw [h] at this;cases this
theorem strs_flat (l:List ByteArray):l.flatMap strC=(l.map Value.string).map Dat.v:=by
 induction l with
 |nil=>rfl
 |cons a l ih=>rw [List.flatMap_cons,ih];rfl
/-- A block of strings, just laid, behind other new ones. -/
theorem new_strs_at (w w':World) (l:List ByteArray) (e:TypeId) (g:Nat) (hg:g=w'.heap.size) (h:l.length<=maxLen) (hc:Chg [] w w'):New w (w'.alloc (.cells (l.map Value.string).toArray e)) (strs l) (.slice (some ⟨g,0,none⟩) l.length l.length):=by
 subst hg
 refine⟨[w'.heap.size],⟨?_,by simp⟩,by have:=hc.size;simp;omega,hc.alloc _⟩
 unfold strs
 rw [strs_flat,Own]
 refine .inr ⟨w'.heap.size,l.length,_,e,l.map Value.string,[],rfl,Nat.le_refl _,h,heap_alloc_new w' _,?_,by simp,OwnL.plainN _ _,rfl⟩
 simp
 exact List.take_of_length_le (by simp)
/-- A number that may be lacking: -1 then. -/
def AbilPost (s:ByteArray) (w:World) (e:Ending) (w':World):Prop:=e= .returned (.int .i64 ((abilOf s).getD (-1)))/\Chg [] w w'
theorem AbilPost.of {s:ByteArray} {n:Int} {w w':World} (h:(abilOf s).getD (-1)=n) (hc:Chg [] w w'):AbilPost s w (.returned (.int .i64 n)) w':=⟨by rw [h],hc⟩
theorem abil_in {s:ByteArray} {k:Nat} (h:s∈methL k):(abilOf s).getD (-1)=k:=by rw [(abilOf_mem h).2];rfl
theorem abil_no {s:ByteArray} (h:∀k,k<6->s∉methL k):(abilOf s).getD (-1)= -1:=by rw [abilOf_none h];rfl
theorem text_eq {a b:ByteArray} (h:(a.toList==b.toList)=true):a=b:=by
 have h:=beq_iff_eq.1 h
 rw [ByteArray.toList_eq,ByteArray.toList_eq] at h
 exact ByteArray.ext (Array.toList_inj.1 h)
theorem hasText_impl_any (l:List ByteArray) (s:ByteArray) (u:Value) (B:Nat) (w:World) (r:Rd w B (strs l) u):
  Calls Tryz.prog 200 #[u,.string s] w (BoolIs (s∈l) w):=by
 obtain⟨A,cap,rfl,h0,h1,hrow⟩:=strs_row r
 unfold maxLen at h1
 clear r
 go_enter Tryz.func200,Tryz.ntmps200
 go_wp2_with fail
 go_loopw [9] (fun i wr=>∃k:Nat,k<=l.length/\i= .int .i64 k/\Hid (s∉l.take k)/\Still w wr) (fun i _=>l.length-(intOf i).toNat)
 case atStart=>exact⟨0,Nat.zero_le _,rfl,by simp [Hid],rfl⟩
 case round=>
  obtain⟨k,hk,rfl,HN,rfl⟩:=hrel
  by_cases hlt:k<l.length
  ·obtain⟨b,off,rfl,hb,q0⟩:=strs_cells hrow k hlt
   cases ht:(l[k].toList==s.toList)
   ·have HT:Hid (s∉l.take (k+1)):=by
     show _
     rw [List.take_succ_eq_append_getElem hlt,List.mem_append,not_or]
     refine⟨HN.out,fun hm=>?_⟩
     rw [List.mem_singleton] at hm
     rw [hm] at ht
     simp at ht
    go_wp2_with fail
    go_roundw
    case rel=>exact⟨k+1,by omega,by go_num,HT,rfl⟩
    case measure=>simp [intOf];omega
   ·have HT:=hid (text_eq ht)
    go_wp2_with fail
    go_ret
    exact⟨_,rfl,⟨fun _=>HT.out ▸ List.getElem_mem hlt,fun _=>rfl⟩,rfl⟩
  ·obtain rfl:k=l.length:=by omega
   go_wp2_with fail
   go_ret
   have:=HN.out
   rw [List.take_length] at this
   exact⟨_,rfl,⟨fun h=>by simp at h,fun h=>absurd h this⟩,rfl⟩
theorem hasText_spec_any (l:List ByteArray) (s:ByteArray) (u:Value) (B:Nat) (w:World) (r:Rd w B (strs l) u):
  Calls Tryz.prog 208 #[u,.string s] w (BoolIs (s∈l) w):=by
 obtain⟨A,cap,rfl,h0,h1,hrow⟩:=strs_row r
 unfold maxLen at h1
 clear r
 go_enter Tryz.func208,Tryz.ntmps208
 go_wp2_with fail
 go_loopw [9] (fun i wr=>∃k:Nat,k<=l.length/\i= .int .i64 k/\Hid (s∉l.take k)/\Still w wr) (fun i _=>l.length-(intOf i).toNat)
 case atStart=>exact⟨0,Nat.zero_le _,rfl,by simp [Hid],rfl⟩
 case round=>
  obtain⟨k,hk,rfl,HN,rfl⟩:=hrel
  by_cases hlt:k<l.length
  ·obtain⟨b,off,rfl,hb,q0⟩:=strs_cells hrow k hlt
   cases ht:(l[k].toList==s.toList)
   ·have HT:Hid (s∉l.take (k+1)):=by
     show _
     rw [List.take_succ_eq_append_getElem hlt,List.mem_append,not_or]
     refine⟨HN.out,fun hm=>?_⟩
     rw [List.mem_singleton] at hm
     rw [hm] at ht
     simp at ht
    go_wp2_with fail
    go_roundw
    case rel=>exact⟨k+1,by omega,by go_num,HT,rfl⟩
    case measure=>simp [intOf];omega
   ·have HT:=hid (text_eq ht)
    go_wp2_with fail
    go_ret
    exact⟨_,rfl,⟨fun _=>HT.out ▸ List.getElem_mem hlt,fun _=>rfl⟩,rfl⟩
  ·obtain rfl:k=l.length:=by omega
   go_wp2_with fail
   go_ret
   have:=HN.out
   rw [List.take_length] at this
   exact⟨_,rfl,⟨fun h=>by simp at h,fun h=>absurd h this⟩,rfl⟩
theorem l2Methods_any (k:Nat) (w:World) (hk:k<6):
  Calls Tryz.prog 209 #[.int .i64 k] w (Gives (strs (methL k)) w):=by
 obtain rfl|rfl|rfl|rfl|rfl|rfl:k=0∨k=1∨k=2∨k=3∨k=4∨k=5:=by omega
 ·go_enter Tryz.func209,Tryz.ntmps209
  go_wp2_with fail
  go_ret
  exact⟨_,rfl,new_strs_at w w (methL 0) 9 _ rfl (by decide) (Chg.refl _ _)⟩
 ·go_enter Tryz.func209,Tryz.ntmps209
  go_wp2_with fail
  go_ret
  exact⟨_,rfl,new_strs_at w w (methL 1) 9 _ rfl (by decide) (Chg.refl _ _)⟩
 ·go_enter Tryz.func209,Tryz.ntmps209
  go_wp2_with fail
  go_ret
  exact⟨_,rfl,new_strs_at w w (methL 2) 9 _ rfl (by decide) (Chg.refl _ _)⟩
 ·go_enter Tryz.func209,Tryz.ntmps209
  go_wp2_with fail
  go_ret
  exact⟨_,rfl,new_strs_at w w (methL 3) 9 _ rfl (by decide) (Chg.refl _ _)⟩
 ·go_enter Tryz.func209,Tryz.ntmps209
  go_wp2_with fail
  go_ret
  exact⟨_,rfl,new_strs_at w w (methL 4) 9 _ rfl (by decide) (Chg.refl _ _)⟩
 ·go_enter Tryz.func209,Tryz.ntmps209
  go_wp2_with fail
  go_ret
  exact⟨_,rfl,new_strs_at w w (methL 5) 9 _ rfl (by decide) (Chg.refl _ _)⟩
theorem abilityOfMethod_spec_any (s:ByteArray) (w:World):
  Calls Tryz.prog 180 #[.string s] w (AbilPost s w):=by
 go_enter Tryz.func180,Tryz.ntmps180
 go_wp2_with fail
 go_loopw [3] (fun i wr=>∃k:Nat,k<=6/\i= .int .i64 k/\Hid (∀j,j<k->s∉methL j)/\Chg [] w wr) (fun i _=>6-(intOf i).toNat)
 case atStart=>exact⟨0,by omega,rfl,fun j h=>absurd h (Nat.not_lt_zero _),Chg.refl _ _⟩
 case round=>
  obtain⟨k,hk,rfl,HN,hc⟩:=hrel
  by_cases hlt:k<6
  ·go_wp2_with fail
   refine(l2Methods_any k _ hlt).mono ?_
   intro e w1 G1
   obtain⟨A1,cap1,rfl,n1⟩:=G1.sl
   have c1:=n1.chg
   have HT:=hid (hasText_spec_any (methL k) s _ _ w1 n1.rd)
   clear n1
   go_wp2_with fail
   refine HT.out.mono ?_
   rintro e w2 ⟨t,rfl,ht,rfl⟩
   have HB:=hid ht
   clear ht HT
   cases t
   ·go_wp2_with fail
    go_roundw
    case rel=>exact⟨k+1,by omega,by go_num,hid (fun j hj=>(Nat.lt_succ_iff_lt_or_eq.1 hj).elim (HN.out j) (fun e=>by subst e;exact fun hm=>by have:=HB.out.2 hm;simp at this)),hc.trans0 c1⟩
    case measure=>simp [intOf];omega
   ·go_wp2_with fail
    go_ret
    exact AbilPost.of (abil_in (HB.out.1 (by simp))) (hc.trans0 c1)
  ·obtain rfl:k=6:=by omega
   go_wp2_with fail
   go_ret
   exact AbilPost.of (abil_no HN.out) hc
theorem wantOf_spec_any (s:ByteArray) (w:World):
  Calls Tryz.prog 141 #[.string s] w (fun e w'=>e= .returned (.int .i64 (match abilOf s with|some k=>2 ^ k.toNat|none=>0))/\Chg [] w w'):=by
 cases ha:abilOf s with
 |none=>
  have AB:=hid (abilityOfMethod_spec_any s w)
  unfold AbilPost at AB
  rw [ha] at AB
  go_enter Tryz.func141,Tryz.ntmps141
  go_wp2_with fail
  refine AB.out.mono ?_
  rintro e w1 ⟨rfl,c1⟩
  go_wp2_with fail
  go_ret
  exact⟨rfl,c1⟩
 | some k=>
  obtain⟨j,hj,rfl,_⟩:=abilOf_some ha
  have AB:=hid (abilityOfMethod_spec_any s w)
  unfold AbilPost at AB
  rw [ha] at AB
  obtain rfl|rfl|rfl|rfl|rfl|rfl:j=0∨j=1∨j=2∨j=3∨j=4∨j=5:=by omega
  all_goals
   go_enter Tryz.func141,Tryz.ntmps141
   go_wp2_with fail
   refine AB.out.mono ?_
   rintro e w1 ⟨rfl,c1⟩
   go_wp2_with fail
   go_ret
   exact⟨rfl,c1⟩
theorem methodsOf_any (k:Nat) (w:World) (hk:k<6):
  Calls Tryz.prog 201 #[.int .i64 k] w (Gives (strs (methL k)) w):=by
 obtain rfl|rfl|rfl|rfl|rfl|rfl:k=0∨k=1∨k=2∨k=3∨k=4∨k=5:=by omega
 ·have hidx:∀(a b c d e f:Value) (W:World),(Instr.index 257 (.agg #[a,b,c,d,e,f]) (.int .i64 0)).run Tryz.prog W= .ok a W:=fun _ _ _ _ _ _ _=>by kernel_rfl
  go_enter Tryz.func201,Tryz.ntmps201
  go_wp2_with fail
  go_ret
  exact⟨_,rfl,(new_strs_at w w (methL 0) 9 _ (by simp) (by decide) (Chg.refl _ _)).later ((((((Chg.refl _ _).alloc _).alloc _).alloc _).alloc _).alloc _)⟩
 ·have hidx:∀(a b c d e f:Value) (W:World),(Instr.index 257 (.agg #[a,b,c,d,e,f]) (.int .i64 1)).run Tryz.prog W= .ok b W:=fun _ _ _ _ _ _ _=>by kernel_rfl
  go_enter Tryz.func201,Tryz.ntmps201
  go_wp2_with fail
  go_ret
  exact⟨_,rfl,(new_strs_at w (w.alloc _) (methL 1) 9 _ (by simp) (by decide) ((Chg.refl _ _).alloc _)).later (((((Chg.refl _ _).alloc _).alloc _).alloc _).alloc _)⟩
 ·have hidx:∀(a b c d e f:Value) (W:World),(Instr.index 257 (.agg #[a,b,c,d,e,f]) (.int .i64 2)).run Tryz.prog W= .ok c W:=fun _ _ _ _ _ _ _=>by kernel_rfl
  go_enter Tryz.func201,Tryz.ntmps201
  go_wp2_with fail
  go_ret
  exact⟨_,rfl,(new_strs_at w ((w.alloc _).alloc _) (methL 2) 9 _ (by simp) (by decide) (((Chg.refl _ _).alloc _).alloc _)).later ((((Chg.refl _ _).alloc _).alloc _).alloc _)⟩
 ·have hidx:∀(a b c d e f:Value) (W:World),(Instr.index 257 (.agg #[a,b,c,d,e,f]) (.int .i64 3)).run Tryz.prog W= .ok d W:=fun _ _ _ _ _ _ _=>by kernel_rfl
  go_enter Tryz.func201,Tryz.ntmps201
  go_wp2_with fail
  go_ret
  exact⟨_,rfl,(new_strs_at w (((w.alloc _).alloc _).alloc _) (methL 3) 9 _ (by simp) (by decide) ((((Chg.refl _ _).alloc _).alloc _).alloc _)).later (((Chg.refl _ _).alloc _).alloc _)⟩
 ·have hidx:∀(a b c d e f:Value) (W:World),(Instr.index 257 (.agg #[a,b,c,d,e,f]) (.int .i64 4)).run Tryz.prog W= .ok e W:=fun _ _ _ _ _ _ _=>by kernel_rfl
  go_enter Tryz.func201,Tryz.ntmps201
  go_wp2_with fail
  go_ret
  exact⟨_,rfl,(new_strs_at w ((((w.alloc _).alloc _).alloc _).alloc _) (methL 4) 9 _ (by simp) (by decide) (((((Chg.refl _ _).alloc _).alloc _).alloc _).alloc _)).later ((Chg.refl _ _).alloc _)⟩
 ·have hidx:∀(a b c d e f:Value) (W:World),(Instr.index 257 (.agg #[a,b,c,d,e,f]) (.int .i64 5)).run Tryz.prog W= .ok f W:=fun _ _ _ _ _ _ _=>by kernel_rfl
  go_enter Tryz.func201,Tryz.ntmps201
  go_wp2_with fail
  go_ret
  exact⟨_,rfl,(new_strs_at w (((((w.alloc _).alloc _).alloc _).alloc _).alloc _) (methL 5) 9 _ (by simp) (by decide) ((((((Chg.refl _ _).alloc _).alloc _).alloc _).alloc _).alloc _)).later (Chg.refl _ _)⟩
theorem abilityOfMethod_impl_any (s:ByteArray) (w:World):
  Calls Tryz.prog 169 #[.string s] w (AbilPost s w):=by
 go_enter Tryz.func169,Tryz.ntmps169
 go_wp2_with fail
 go_loopw [4] (fun i wr=>∃k:Nat,k<=6/\i= .int .i64 k/\Hid (∀j,j<k->s∉methL j)/\Chg [] w wr) (fun i _=>6-(intOf i).toNat)
 case atStart=>exact⟨0,by omega,rfl,fun j h=>absurd h (Nat.not_lt_zero _),Chg.refl _ _⟩
 case round=>
  obtain⟨k,hk,rfl,HN,hc⟩:=hrel
  by_cases hlt:k<6
  ·go_wp2_with fail
   refine(methodsOf_any k _ hlt).mono ?_
   intro e w1 G1
   obtain⟨A1,cap1,rfl,n1⟩:=G1.sl
   have c1:=n1.chg
   have HT:=hid (hasText_impl_any (methL k) s _ _ w1 n1.rd)
   clear n1
   go_wp2_with fail
   refine HT.out.mono ?_
   rintro e w2 ⟨t,rfl,ht,rfl⟩
   have HB:=hid ht
   clear ht HT
   cases t
   ·go_wp2_with fail
    go_roundw
    case rel=>exact⟨k+1,by omega,by go_num,hid (fun j hj=>(Nat.lt_succ_iff_lt_or_eq.1 hj).elim (HN.out j) (fun e=>by subst e;exact fun hm=>by have:=HB.out.2 hm;simp at this)),hc.trans0 c1⟩
    case measure=>simp [intOf];omega
   ·go_wp2_with fail
    go_ret
    exact AbilPost.of (abil_in (HB.out.1 (by simp))) (hc.trans0 c1)
  ·obtain rfl:k=6:=by omega
   go_wp2_with fail
   go_ret
   exact AbilPost.of (abil_no HN.out) hc
end Go.Proofs.YtdlkbomojjmnlaaGreatDoor
