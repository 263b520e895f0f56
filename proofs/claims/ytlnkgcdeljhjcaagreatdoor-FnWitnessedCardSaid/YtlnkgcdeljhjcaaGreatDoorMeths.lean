/- The abilities that methods belong to. Conditions: as stated. -/
import Derived.Test.YtlnkgcdeljhjcaaGreatDoorNames
import Derived.Test.YtlnkgcdeljhjcaaGreatDoorApps
set_option maxRecDepth 100000
set_option maxHeartbeats 1000000
namespace Go.Proofs.YtlnkgcdeljhjcaaGreatDoor
open Go.RowKit

def Qr:ByteArray:=⟨#[83,116,97,114,116]⟩
def QG:ByteArray:=⟨#[83,116,111,112]⟩
def Q8:ByteArray:=⟨#[71,101,116]⟩
def Q7:ByteArray:=⟨#[80,117,116]⟩
def QE:ByteArray:=⟨#[84,101,108,108]⟩
def QJ:ByteArray:=⟨#[72,101,97,114]⟩
def QS:ByteArray:=⟨#[76,111,97,100]⟩
def Zq:ByteArray:=⟨#[83,97,118,101]⟩
def Zd:ByteArray:=⟨#[72,101,97,108]⟩
def XP:Nat->List ByteArray
 |0=>[Qr,QG]
 |1=>[Q8,Q7]
 |2=>[QE]
 |3=>[QJ]
 |4=>[QS,Zq]
 |5=>[Zd]
 |_=>[]
def ji:List (List UInt8×Int):=[(Qr.data.toList,0),(QG.data.toList,0),(Q8.data.toList,1),(Q7.data.toList,1),(QE.data.toList,2),(QJ.data.toList,3),(QS.data.toList,4),(Zq.data.toList,4),(Zd.data.toList,5)]
def Zk (s:ByteArray):Option Int:=look s.toList ji
theorem VD {s:ByteArray} {k:Nat} (h:s∈XP k):k<6/\Zk s=some k:=by
 unfold Zk
 rw [ByteArray.toList_eq]
 match k,h with
 |0,h|1,h|4,h=>
  simp only [XP,List.mem_cons,List.not_mem_nil,or_false] at h
  rcases h with rfl|rfl<;>exact⟨by decide,rfl⟩
 |2,h|3,h|5,h=>
  simp only [XP,List.mem_cons,List.not_mem_nil,or_false] at h
  subst h
  exact⟨by decide,rfl⟩
 |k+6,h=>simp [XP] at h
theorem W9 {s t:ByteArray} (h:s≠t):s.toList≠t.data.toList:=by
 intro e
 rw [ByteArray.toList_eq] at e
 exact h (ByteArray.ext (Array.toList_inj.1 e))
theorem zG {s:ByteArray} (h:∀k,k<6->s∉XP k):Zk s=none:=by
 unfold Zk
 have h0:=h 0 (by decide);have h1:=h 1 (by decide);have h2:=h 2 (by decide);have h3:=h 3 (by decide);have h4:=h 4 (by decide);have h5:=h 5 (by decide)
 simp only [XP,List.mem_cons,List.not_mem_nil,or_false,not_or] at h0 h1 h2 h3 h4 h5
 unfold ji
 rw [look,if_neg (W9 h0.1),look,if_neg (W9 h0.2),look,if_neg (W9 h1.1),look,if_neg (W9 h1.2),look,if_neg (W9 h2),look,if_neg (W9 h3),look,if_neg (W9 h4.1),look,if_neg (W9 h4.2),look,if_neg (W9 h5),look]
theorem UI {s:ByteArray} {k:Int} (h:Zk s=some k):∃j:Nat,j<6/\k=j/\s∈XP j:=by
 by_cases hn:∃j,j<6/\s∈XP j
 ·obtain⟨j,hj,hm⟩:=hn
  have:=(VD hm).2
  rw [h] at this
  exact⟨j,hj,Option.some.inj this,hm⟩
 ·have:=zG (s:=s) (fun k hk hm=>hn ⟨k,hk,hm⟩)
  rw [h] at this;cases this
theorem QdL (l:List ByteArray):l.flatMap U5=(l.map Value.string).map QK.v:=by
 induction l with
 |nil=>rfl
 |cons a l ih=>rw [List.flatMap_cons,ih];rfl
theorem Xc (w w':World) (l:List ByteArray) (e:TypeId) (g:Nat) (hg:g=w'.heap.size) (h:l.length<=maxLen) (hc:Qb [] w w'):Gd w (w'.alloc (.cells (l.map Value.string).toArray e)) (Ws l) (.slice (some ⟨g,0,none⟩) l.length l.length):=by
 subst hg
 refine⟨[w'.heap.size],⟨?_,by simp⟩,by have:=hc.size;simp;omega,hc.alloc _⟩
 unfold Ws
 rw [QdL,Ye]
 refine .inr ⟨w'.heap.size,l.length,_,e,l.map Value.string,[],rfl,Nat.le_refl _,h,heap_alloc_new w' _,?_,by simp,Qt.plainN _ _,rfl⟩
 simp
 exact List.take_of_length_le (by simp)
def Xz (s:ByteArray) (w:World) (e:Ending) (w':World):Prop:=e= .returned (.int .i64 ((Zk s).getD (-1)))/\Qb [] w w'
theorem Xz.of {s:ByteArray} {n:Int} {w w':World} (h:(Zk s).getD (-1)=n) (hc:Qb [] w w'):Xz s w (.returned (.int .i64 n)) w':=⟨by rw [h],hc⟩
theorem Qdk {s:ByteArray} {k:Nat} (h:s∈XP k):(Zk s).getD (-1)=k:=by rw [(VD h).2];rfl
theorem Qdt {s:ByteArray} (h:∀k,k<6->s∉XP k):(Zk s).getD (-1)= -1:=by rw [zG h];rfl
theorem Qdp {a b:ByteArray} (h:(a.toList==b.toList)=true):a=b:=by
 have h:=beq_iff_eq.1 h
 rw [ByteArray.toList_eq,ByteArray.toList_eq] at h
 exact ByteArray.ext (Array.toList_inj.1 h)
theorem zd (l:List ByteArray) (s:ByteArray) (u:Value) (B:Nat) (w:World) (r:Rd w B (Ws l) u):
  Calls Tryz.prog 214 #[u,.string s] w (Zm (s∈l) w):=by
 obtain⟨A,cap,rfl,h0,h1,hrow⟩:=Yu r
 unfold maxLen at h1
 clear r
 go_enter Tryz.func214,Tryz.ntmps214
 go_wp2_with fail
 go_loopw [9] (fun i wr=>∃k:Nat,k<=l.length/\i= .int .i64 k/\Hid (s∉l.take k)/\QaP w wr) (fun i _=>l.length-(intOf i).toNat)
 case atStart=>exact⟨0,Nat.zero_le _,rfl,by simp [Hid],rfl⟩
 case round=>
  obtain⟨k,hk,rfl,HN,rfl⟩:=hrel
  by_cases hlt:k<l.length
  ·obtain⟨b,off,rfl,hb,q0⟩:=ZO hrow k hlt
   cases ht:(l[k].toList==s.toList)
   ·have HT:Hid (s∉l.take (k+1)):=by
     show _
     rw [List.take_succ_eq_append_getElem hlt,List.mem_append,not_or]
     refine⟨HN.out,fun hm=>?_⟩
     rw [List.mem_singleton] at hm
     rw [hm] at ht
     simp at ht
    go_wp2_with fail
    go_roundw
    case rel=>exact⟨k+1,by omega,by go_num,HT,rfl⟩
    case measure=>simp [intOf];omega
   ·have HT:=Qd (Qdp ht)
    go_wp2_with fail
    go_ret
    exact⟨_,rfl,⟨fun _=>HT.out ▸ List.getElem_mem hlt,fun _=>rfl⟩,rfl⟩
  ·obtain rfl:k=l.length:=by omega
   go_wp2_with fail
   go_ret
   have:=HN.out
   rw [List.take_length] at this
   exact⟨_,rfl,⟨fun h=>by simp at h,fun h=>absurd h this⟩,rfl⟩
theorem zB (l:List ByteArray) (s:ByteArray) (u:Value) (B:Nat) (w:World) (r:Rd w B (Ws l) u):
  Calls Tryz.prog 263 #[u,.string s] w (Zm (s∈l) w):=by
 obtain⟨A,cap,rfl,h0,h1,hrow⟩:=Yu r
 unfold maxLen at h1
 clear r
 go_enter Tryz.func263,Tryz.ntmps263
 go_wp2_with fail
 go_loopw [9] (fun i wr=>∃k:Nat,k<=l.length/\i= .int .i64 k/\Hid (s∉l.take k)/\QaP w wr) (fun i _=>l.length-(intOf i).toNat)
 case atStart=>exact⟨0,Nat.zero_le _,rfl,by simp [Hid],rfl⟩
 case round=>
  obtain⟨k,hk,rfl,HN,rfl⟩:=hrel
  by_cases hlt:k<l.length
  ·obtain⟨b,off,rfl,hb,q0⟩:=ZO hrow k hlt
   cases ht:(l[k].toList==s.toList)
   ·have HT:Hid (s∉l.take (k+1)):=by
     show _
     rw [List.take_succ_eq_append_getElem hlt,List.mem_append,not_or]
     refine⟨HN.out,fun hm=>?_⟩
     rw [List.mem_singleton] at hm
     rw [hm] at ht
     simp at ht
    go_wp2_with fail
    go_roundw
    case rel=>exact⟨k+1,by omega,by go_num,HT,rfl⟩
    case measure=>simp [intOf];omega
   ·have HT:=Qd (Qdp ht)
    go_wp2_with fail
    go_ret
    exact⟨_,rfl,⟨fun _=>HT.out ▸ List.getElem_mem hlt,fun _=>rfl⟩,rfl⟩
  ·obtain rfl:k=l.length:=by omega
   go_wp2_with fail
   go_ret
   have:=HN.out
   rw [List.take_length] at this
   exact⟨_,rfl,⟨fun h=>by simp at h,fun h=>absurd h this⟩,rfl⟩
theorem vS (k:Nat) (w:World) (hk:k<6):
  Calls Tryz.prog 264 #[.int .i64 k] w (Kl (Ws (XP k)) w):=by
 obtain rfl|rfl|rfl|rfl|rfl|rfl:k=0∨k=1∨k=2∨k=3∨k=4∨k=5:=by omega
 ·go_enter Tryz.func264,Tryz.ntmps264
  go_wp2_with fail
  go_ret
  exact⟨_,rfl,Xc w w (XP 0) 9 _ rfl (by decide) (Qb.refl _ _)⟩
 ·go_enter Tryz.func264,Tryz.ntmps264
  go_wp2_with fail
  go_ret
  exact⟨_,rfl,Xc w w (XP 1) 9 _ rfl (by decide) (Qb.refl _ _)⟩
 ·go_enter Tryz.func264,Tryz.ntmps264
  go_wp2_with fail
  go_ret
  exact⟨_,rfl,Xc w w (XP 2) 9 _ rfl (by decide) (Qb.refl _ _)⟩
 ·go_enter Tryz.func264,Tryz.ntmps264
  go_wp2_with fail
  go_ret
  exact⟨_,rfl,Xc w w (XP 3) 9 _ rfl (by decide) (Qb.refl _ _)⟩
 ·go_enter Tryz.func264,Tryz.ntmps264
  go_wp2_with fail
  go_ret
  exact⟨_,rfl,Xc w w (XP 4) 9 _ rfl (by decide) (Qb.refl _ _)⟩
 ·go_enter Tryz.func264,Tryz.ntmps264
  go_wp2_with fail
  go_ret
  exact⟨_,rfl,Xc w w (XP 5) 9 _ rfl (by decide) (Qb.refl _ _)⟩
theorem WH (s:ByteArray) (w:World):
  Calls Tryz.prog 250 #[.string s] w (Xz s w):=by
 go_enter Tryz.func250,Tryz.ntmps250
 go_wp2_with fail
 go_loopw [3] (fun i wr=>∃k:Nat,k<=6/\i= .int .i64 k/\Hid (∀j,j<k->s∉XP j)/\Qb [] w wr) (fun i _=>6-(intOf i).toNat)
 case atStart=>exact⟨0,by omega,rfl,fun j h=>absurd h (Nat.not_lt_zero _),Qb.refl _ _⟩
 case round=>
  obtain⟨k,hk,rfl,HN,hc⟩:=hrel
  by_cases hlt:k<6
  ·go_wp2_with fail
   refine(vS k _ hlt).mono ?_
   intro e w1 G1
   obtain⟨A1,cap1,rfl,n1⟩:=G1.sl
   have c1:=n1.chg
   have HT:=Qd (zB (XP k) s _ _ w1 n1.rd)
   clear n1
   go_wp2_with fail
   refine HT.out.mono ?_
   rintro e w2 ⟨t,rfl,ht,rfl⟩
   have HB:=Qd ht
   clear ht HT
   cases t
   ·go_wp2_with fail
    go_roundw
    case rel=>exact⟨k+1,by omega,by go_num,Qd (fun j hj=>(Nat.lt_succ_iff_lt_or_eq.1 hj).elim (HN.out j) (fun e=>by subst e;exact fun hm=>by have:=HB.out.2 hm;simp at this)),hc.tz c1⟩
    case measure=>simp [intOf];omega
   ·go_wp2_with fail
    go_ret
    exact Xz.of (Qdk (HB.out.1 (by simp))) (hc.tz c1)
  ·obtain rfl:k=6:=by omega
   go_wp2_with fail
   go_ret
   exact Xz.of (Qdt HN.out) hc
theorem K0 (s:ByteArray) (w:World):
  Calls Tryz.prog 231 #[.string s] w (fun e w'=>e= .returned (.int .i64 (match Zk s with|some k=>2 ^ k.toNat|none=>0))/\Qb [] w w'):=by
 cases ha:Zk s with
 |none=>
  have AB:=Qd (WH s w)
  unfold Xz at AB
  rw [ha] at AB
  go_enter Tryz.func231,Tryz.ntmps231
  go_wp2_with fail
  refine AB.out.mono ?_
  rintro e w1 ⟨rfl,c1⟩
  go_wp2_with fail
  go_ret
  exact⟨rfl,c1⟩
 | some k=>
  obtain⟨j,hj,rfl,_⟩:=UI ha
  have AB:=Qd (WH s w)
  unfold Xz at AB
  rw [ha] at AB
  obtain rfl|rfl|rfl|rfl|rfl|rfl:j=0∨j=1∨j=2∨j=3∨j=4∨j=5:=by omega
  all_goals
   go_enter Tryz.func231,Tryz.ntmps231
   go_wp2_with fail
   refine AB.out.mono ?_
   rintro e w1 ⟨rfl,c1⟩
   go_wp2_with fail
   go_ret
   exact⟨rfl,c1⟩
theorem vu (k:Nat) (w:World) (hk:k<6):
  Calls Tryz.prog 215 #[.int .i64 k] w (Kl (Ws (XP k)) w):=by
 obtain rfl|rfl|rfl|rfl|rfl|rfl:k=0∨k=1∨k=2∨k=3∨k=4∨k=5:=by omega
 ·have hidx:∀(a b c d e f:Value) (W:World),(Instr.index 276 (.agg #[a,b,c,d,e,f]) (.int .i64 0)).run Tryz.prog W= .ok a W:=fun _ _ _ _ _ _ _=>by kernel_rfl
  go_enter Tryz.func215,Tryz.ntmps215
  go_wp2_with fail
  go_ret
  exact⟨_,rfl,(Xc w w (XP 0) 9 _ (by simp) (by decide) (Qb.refl _ _)).later ((((((Qb.refl _ _).alloc _).alloc _).alloc _).alloc _).alloc _)⟩
 ·have hidx:∀(a b c d e f:Value) (W:World),(Instr.index 276 (.agg #[a,b,c,d,e,f]) (.int .i64 1)).run Tryz.prog W= .ok b W:=fun _ _ _ _ _ _ _=>by kernel_rfl
  go_enter Tryz.func215,Tryz.ntmps215
  go_wp2_with fail
  go_ret
  exact⟨_,rfl,(Xc w (w.alloc _) (XP 1) 9 _ (by simp) (by decide) ((Qb.refl _ _).alloc _)).later (((((Qb.refl _ _).alloc _).alloc _).alloc _).alloc _)⟩
 ·have hidx:∀(a b c d e f:Value) (W:World),(Instr.index 276 (.agg #[a,b,c,d,e,f]) (.int .i64 2)).run Tryz.prog W= .ok c W:=fun _ _ _ _ _ _ _=>by kernel_rfl
  go_enter Tryz.func215,Tryz.ntmps215
  go_wp2_with fail
  go_ret
  exact⟨_,rfl,(Xc w ((w.alloc _).alloc _) (XP 2) 9 _ (by simp) (by decide) (((Qb.refl _ _).alloc _).alloc _)).later ((((Qb.refl _ _).alloc _).alloc _).alloc _)⟩
 ·have hidx:∀(a b c d e f:Value) (W:World),(Instr.index 276 (.agg #[a,b,c,d,e,f]) (.int .i64 3)).run Tryz.prog W= .ok d W:=fun _ _ _ _ _ _ _=>by kernel_rfl
  go_enter Tryz.func215,Tryz.ntmps215
  go_wp2_with fail
  go_ret
  exact⟨_,rfl,(Xc w (((w.alloc _).alloc _).alloc _) (XP 3) 9 _ (by simp) (by decide) ((((Qb.refl _ _).alloc _).alloc _).alloc _)).later (((Qb.refl _ _).alloc _).alloc _)⟩
 ·have hidx:∀(a b c d e f:Value) (W:World),(Instr.index 276 (.agg #[a,b,c,d,e,f]) (.int .i64 4)).run Tryz.prog W= .ok e W:=fun _ _ _ _ _ _ _=>by kernel_rfl
  go_enter Tryz.func215,Tryz.ntmps215
  go_wp2_with fail
  go_ret
  exact⟨_,rfl,(Xc w ((((w.alloc _).alloc _).alloc _).alloc _) (XP 4) 9 _ (by simp) (by decide) (((((Qb.refl _ _).alloc _).alloc _).alloc _).alloc _)).later ((Qb.refl _ _).alloc _)⟩
 ·have hidx:∀(a b c d e f:Value) (W:World),(Instr.index 276 (.agg #[a,b,c,d,e,f]) (.int .i64 5)).run Tryz.prog W= .ok f W:=fun _ _ _ _ _ _ _=>by kernel_rfl
  go_enter Tryz.func215,Tryz.ntmps215
  go_wp2_with fail
  go_ret
  exact⟨_,rfl,(Xc w (((((w.alloc _).alloc _).alloc _).alloc _).alloc _) (XP 5) 9 _ (by simp) (by decide) ((((((Qb.refl _ _).alloc _).alloc _).alloc _).alloc _).alloc _)).later (Qb.refl _ _)⟩
theorem Yy (s:ByteArray) (w:World):
  Calls Tryz.prog 173 #[.string s] w (Xz s w):=by
 go_enter Tryz.func173,Tryz.ntmps173
 go_wp2_with fail
 go_loopw [4] (fun i wr=>∃k:Nat,k<=6/\i= .int .i64 k/\Hid (∀j,j<k->s∉XP j)/\Qb [] w wr) (fun i _=>6-(intOf i).toNat)
 case atStart=>exact⟨0,by omega,rfl,fun j h=>absurd h (Nat.not_lt_zero _),Qb.refl _ _⟩
 case round=>
  obtain⟨k,hk,rfl,HN,hc⟩:=hrel
  by_cases hlt:k<6
  ·go_wp2_with fail
   refine(vu k _ hlt).mono ?_
   intro e w1 G1
   obtain⟨A1,cap1,rfl,n1⟩:=G1.sl
   have c1:=n1.chg
   have HT:=Qd (zd (XP k) s _ _ w1 n1.rd)
   clear n1
   go_wp2_with fail
   refine HT.out.mono ?_
   rintro e w2 ⟨t,rfl,ht,rfl⟩
   have HB:=Qd ht
   clear ht HT
   cases t
   ·go_wp2_with fail
    go_roundw
    case rel=>exact⟨k+1,by omega,by go_num,Qd (fun j hj=>(Nat.lt_succ_iff_lt_or_eq.1 hj).elim (HN.out j) (fun e=>by subst e;exact fun hm=>by have:=HB.out.2 hm;simp at this)),hc.tz c1⟩
    case measure=>simp [intOf];omega
   ·go_wp2_with fail
    go_ret
    exact Xz.of (Qdk (HB.out.1 (by simp))) (hc.tz c1)
  ·obtain rfl:k=6:=by omega
   go_wp2_with fail
   go_ret
   exact Xz.of (Qdt HN.out) hc
end Go.Proofs.YtlnkgcdeljhjcaaGreatDoor
