/- The abilities that methods belong to. Conditions: as stated. -/
import Derived.Test.YtfjhdnjlhjimeaaGreatDoorNames
import Derived.Test.YtfjhdnjlhjimeaaGreatDoorApps
set_option maxRecDepth 100000
set_option maxHeartbeats 1000000
namespace Go.Proofs.YtfjhdnjlhjimeaaGreatDoor
open Go.RowKit

def Qw:ByteArray:=⟨#[83,116,97,114,116]⟩
def QR:ByteArray:=⟨#[83,116,111,112]⟩
def Zz:ByteArray:=⟨#[71,101,116]⟩
def Zu:ByteArray:=⟨#[80,117,116]⟩
def QQ:ByteArray:=⟨#[84,101,108,108]⟩
def QV:ByteArray:=⟨#[72,101,97,114]⟩
def Zy:ByteArray:=⟨#[76,111,97,100]⟩
def XI:ByteArray:=⟨#[83,97,118,101]⟩
def Xk:ByteArray:=⟨#[72,101,97,108]⟩
def XS:Nat->List ByteArray
 |0=>[Qw,QR]
 |1=>[Zz,Zu]
 |2=>[QQ]
 |3=>[QV]
 |4=>[Zy,XI]
 |5=>[Xk]
 |_=>[]
def jj:List (List UInt8×Int):=[(Qw.data.toList,0),(QR.data.toList,0),(Zz.data.toList,1),(Zu.data.toList,1),(QQ.data.toList,2),(QV.data.toList,3),(Zy.data.toList,4),(XI.data.toList,4),(Xk.data.toList,5)]
def Zg (s:ByteArray):Option Int:=look s.toList jj
theorem Uf {s:ByteArray} {k:Nat} (h:s∈XS k):k<6/\Zg s=some k:=by
 unfold Zg
 rw [ByteArray.toList_eq]
 match k,h with
 |0,h|1,h|4,h=>
  simp only [XS,C7,F1,or_false] at h
  rcases h with rfl|rfl<;>exact⟨by decide,rfl⟩
 |2,h|3,h|5,h=>
  simp only [XS,C7,F1,or_false] at h
  subst h
  exact⟨by decide,rfl⟩
 |k+6,h=>simp [XS] at h
theorem VC {s t:ByteArray} (h:s≠t):s.toList≠t.data.toList:=by
 intro e
 rw [ByteArray.toList_eq] at e
 exact h (O5 (Q2.1 e))
theorem xn {s:ByteArray} (h:∀k,k<6->s∉XS k):Zg s=none:=by
 unfold Zg
 have h0:=h 0 (by decide);have h1:=h 1 (by decide);have h2:=h 2 (by decide);have h3:=h 3 (by decide);have h4:=h 4 (by decide);have h5:=h 5 (by decide)
 simp only [XS,C7,F1,or_false,not_or] at h0 h1 h2 h3 h4 h5
 unfold jj
 rw [look,if_neg (VC h0.1),look,if_neg (VC h0.2),look,if_neg (VC h1.1),look,if_neg (VC h1.2),look,if_neg (VC h2),look,if_neg (VC h3),look,if_neg (VC h4.1),look,if_neg (VC h4.2),look,if_neg (VC h5),look]
theorem Ku {s:ByteArray} {k:Int} (h:Zg s=some k):∃j:Nat,j<6/\k=j/\s∈XS j:=by
 by_cases hn:∃j,j<6/\s∈XS j
 ·obtain⟨j,hj,hm⟩:=hn
  have:=(Uf hm).2
  rw [h] at this
  exact⟨j,hj,M1 this,hm⟩
 ·have:=xn (s:=s) (fun k hk hm=>hn ⟨k,hk,hm⟩)
  rw [h] at this;cases this
theorem Qde (l:List ByteArray):l.flatMap Ur=(l.map Value.string).map QD.v:=by
 induction l with
 |nil=>rfl
 |cons a l ih=>rw [J6,ih];rfl
theorem Xe (w w':World) (l:List ByteArray) (e:TypeId) (g:Nat) (hg:g=w'.heap.size) (h:l.length<=maxLen) (hc:Qc [] w w'):qt w (w'.alloc (.cells (l.map Value.string).toArray e)) (WB l) (.slice (some ⟨g,0,none⟩) l.length l.length):=by
 subst hg
 refine⟨[w'.heap.size],⟨?_,by simp⟩,by have:=hc.size;simp;omega,hc.alloc _⟩
 unfold WB
 rw [Qde,Yb]
 refine .inr ⟨w'.heap.size,l.length,_,e,l.map Value.string,[],rfl,F0 _,h,heap_alloc_new w' _,?_,by simp,Qt.plainN _ _,rfl⟩
 simp
 exact U1 (by simp)
def Xx (s:ByteArray) (w:World) (e:Ending) (w':World):Prop:=e= .returned (.int .i64 ((Zg s).getD (-1)))/\Qc [] w w'
theorem Xx.of {s:ByteArray} {n:Int} {w w':World} (h:(Zg s).getD (-1)=n) (hc:Qc [] w w'):Xx s w (.returned (.int .i64 n)) w':=⟨by rw [h],hc⟩
theorem Qct {s:ByteArray} {k:Nat} (h:s∈XS k):(Zg s).getD (-1)=k:=by rw [(Uf h).2];rfl
theorem QcQ {s:ByteArray} (h:∀k,k<6->s∉XS k):(Zg s).getD (-1)= -1:=by rw [xn h];rfl
theorem QcT {a b:ByteArray} (h:(a.toList==b.toList)=true):a=b:=by
 have h:=beq_iff_eq.1 h
 rw [ByteArray.toList_eq,ByteArray.toList_eq] at h
 exact O5 (Q2.1 h)
theorem z7 (l:List ByteArray) (s:ByteArray) (u:Value) (B:Nat) (w:World) (r:Rd w B (WB l) u):
  Calls Tryz.prog 178 #[u,.string s] w (QZ (s∈l) w):=by
 obtain⟨A,cap,rfl,h0,h1,hrow⟩:=YB r
 unfold maxLen at h1
 clear r
 go_enter Tryz.func178,Tryz.ntmps178
 go_wp2_with fail
 go_loopw [9] (fun i wr=>∃k:Nat,k<=l.length/\i= .int .i64 k/\Hid (s∉l.take k)/\jF w wr) (fun i _=>l.length-(intOf i).toNat)
 case atStart=>exact⟨0,I3 _,rfl,by simp [Hid],rfl⟩
 case round=>
  obtain⟨k,hk,rfl,HN,rfl⟩:=hrel
  by_cases hlt:k<l.length
  ·obtain⟨b,off,rfl,hb,q0⟩:=ZO hrow k hlt
   cases ht:(l[k].toList==s.toList)
   ·have HT:Hid (s∉l.take (k+1)):=by
     show _
     rw [G6 hlt,F4,not_or]
     refine⟨HN.out,fun hm=>?_⟩
     rw [E0] at hm
     rw [hm] at ht
     simp at ht
    go_wp2_with fail
    go_roundw
    case rel=>exact⟨k+1,by omega,by go_num,HT,rfl⟩
    case measure=>simp [intOf];omega
   ·have HT:=Qb (QcT ht)
    go_wp2_with fail
    go_ret
    exact⟨_,rfl,⟨fun _=>HT.out ▸ I4 hlt,fun _=>rfl⟩,rfl⟩
  ·obtain rfl:k=l.length:=by omega
   go_wp2_with fail
   go_ret
   have:=HN.out
   rw [I8] at this
   exact⟨_,rfl,⟨fun h=>by simp at h,fun h=>absurd h this⟩,rfl⟩
theorem ym (l:List ByteArray) (s:ByteArray) (u:Value) (B:Nat) (w:World) (r:Rd w B (WB l) u):
  Calls Tryz.prog 183 #[u,.string s] w (QZ (s∈l) w):=by
 obtain⟨A,cap,rfl,h0,h1,hrow⟩:=YB r
 unfold maxLen at h1
 clear r
 go_enter Tryz.func183,Tryz.ntmps183
 go_wp2_with fail
 go_loopw [9] (fun i wr=>∃k:Nat,k<=l.length/\i= .int .i64 k/\Hid (s∉l.take k)/\jF w wr) (fun i _=>l.length-(intOf i).toNat)
 case atStart=>exact⟨0,I3 _,rfl,by simp [Hid],rfl⟩
 case round=>
  obtain⟨k,hk,rfl,HN,rfl⟩:=hrel
  by_cases hlt:k<l.length
  ·obtain⟨b,off,rfl,hb,q0⟩:=ZO hrow k hlt
   cases ht:(l[k].toList==s.toList)
   ·have HT:Hid (s∉l.take (k+1)):=by
     show _
     rw [G6 hlt,F4,not_or]
     refine⟨HN.out,fun hm=>?_⟩
     rw [E0] at hm
     rw [hm] at ht
     simp at ht
    go_wp2_with fail
    go_roundw
    case rel=>exact⟨k+1,by omega,by go_num,HT,rfl⟩
    case measure=>simp [intOf];omega
   ·have HT:=Qb (QcT ht)
    go_wp2_with fail
    go_ret
    exact⟨_,rfl,⟨fun _=>HT.out ▸ I4 hlt,fun _=>rfl⟩,rfl⟩
  ·obtain rfl:k=l.length:=by omega
   go_wp2_with fail
   go_ret
   have:=HN.out
   rw [I8] at this
   exact⟨_,rfl,⟨fun h=>by simp at h,fun h=>absurd h this⟩,rfl⟩
theorem uv (k:Nat) (w:World) (hk:k<6):
  Calls Tryz.prog 184 #[.int .i64 k] w (KW (WB (XS k)) w):=by
 obtain rfl|rfl|rfl|rfl|rfl|rfl:k=0∨k=1∨k=2∨k=3∨k=4∨k=5:=by omega
 ·go_enter Tryz.func184,Tryz.ntmps184
  go_wp2_with fail
  go_ret
  exact⟨_,rfl,Xe w w (XS 0) 9 _ rfl (by decide) (B0 _ _)⟩
 ·go_enter Tryz.func184,Tryz.ntmps184
  go_wp2_with fail
  go_ret
  exact⟨_,rfl,Xe w w (XS 1) 9 _ rfl (by decide) (B0 _ _)⟩
 ·go_enter Tryz.func184,Tryz.ntmps184
  go_wp2_with fail
  go_ret
  exact⟨_,rfl,Xe w w (XS 2) 9 _ rfl (by decide) (B0 _ _)⟩
 ·go_enter Tryz.func184,Tryz.ntmps184
  go_wp2_with fail
  go_ret
  exact⟨_,rfl,Xe w w (XS 3) 9 _ rfl (by decide) (B0 _ _)⟩
 ·go_enter Tryz.func184,Tryz.ntmps184
  go_wp2_with fail
  go_ret
  exact⟨_,rfl,Xe w w (XS 4) 9 _ rfl (by decide) (B0 _ _)⟩
 ·go_enter Tryz.func184,Tryz.ntmps184
  go_wp2_with fail
  go_ret
  exact⟨_,rfl,Xe w w (XS 5) 9 _ rfl (by decide) (B0 _ _)⟩
theorem Vb (s:ByteArray) (w:World):
  Calls Tryz.prog 152 #[.string s] w (Xx s w):=by
 go_enter Tryz.func152,Tryz.ntmps152
 go_wp2_with fail
 go_loopw [3] (fun i wr=>∃k:Nat,k<=6/\i= .int .i64 k/\Hid (∀j,j<k->s∉XS j)/\Qc [] w wr) (fun i _=>6-(intOf i).toNat)
 case atStart=>exact⟨0,by omega,rfl,fun j h=>absurd h (M4 _),B0 _ _⟩
 case round=>
  obtain⟨k,hk,rfl,HN,hc⟩:=hrel
  by_cases hlt:k<6
  ·go_wp2_with fail
   refine(uv k _ hlt).mono ?_
   intro e w1 G1
   obtain⟨A1,cap1,rfl,n1⟩:=G1.sl
   have c1:=n1.chg
   have HT:=Qb (ym (XS k) s _ _ w1 n1.rd)
   clear n1
   go_wp2_with fail
   refine HT.out.mono ?_
   rintro e w2 ⟨t,rfl,ht,rfl⟩
   have HB:=Qb ht
   clear ht HT
   cases t
   ·go_wp2_with fail
    go_roundw
    case rel=>exact⟨k+1,by omega,by go_num,Qb (fun j hj=>(I7.1 hj).elim (HN.out j) (fun e=>by subst e;exact fun hm=>by have:=HB.out.2 hm;simp at this)),hc.tz c1⟩
    case measure=>simp [intOf];omega
   ·go_wp2_with fail
    go_ret
    exact Xx.of (Qct (HB.out.1 (by simp))) (hc.tz c1)
  ·obtain rfl:k=6:=by omega
   go_wp2_with fail
   go_ret
   exact Xx.of (QcQ HN.out) hc
theorem JI (s:ByteArray) (w:World):
  Calls Tryz.prog 118 #[.string s] w (fun e w'=>e= .returned (.int .i64 (match Zg s with|some k=>2 ^ k.toNat|none=>0))/\Qc [] w w'):=by
 cases ha:Zg s with
 |none=>
  have AB:=Qb (Vb s w)
  unfold Xx at AB
  rw [ha] at AB
  go_enter Tryz.func118,Tryz.ntmps118
  go_wp2_with fail
  refine AB.out.mono ?_
  rintro e w1 ⟨rfl,c1⟩
  go_wp2_with fail
  go_ret
  exact⟨rfl,c1⟩
 | some k=>
  obtain⟨j,hj,rfl,_⟩:=Ku ha
  have AB:=Qb (Vb s w)
  unfold Xx at AB
  rw [ha] at AB
  obtain rfl|rfl|rfl|rfl|rfl|rfl:j=0∨j=1∨j=2∨j=3∨j=4∨j=5:=by omega
  all_goals
   go_enter Tryz.func118,Tryz.ntmps118
   go_wp2_with fail
   refine AB.out.mono ?_
   rintro e w1 ⟨rfl,c1⟩
   go_wp2_with fail
   go_ret
   exact⟨rfl,c1⟩
theorem uh (k:Nat) (w:World) (hk:k<6):
  Calls Tryz.prog 179 #[.int .i64 k] w (KW (WB (XS k)) w):=by
 obtain rfl|rfl|rfl|rfl|rfl|rfl:k=0∨k=1∨k=2∨k=3∨k=4∨k=5:=by omega
 ·have hidx:∀(a b c d e f:Value) (W:World),(Instr.index 255 (.agg #[a,b,c,d,e,f]) (.int .i64 0)).run Tryz.prog W= .ok a W:=fun _ _ _ _ _ _ _=>by kernel_rfl
  go_enter Tryz.func179,Tryz.ntmps179
  go_wp2_with fail
  go_ret
  exact⟨_,rfl,(Xe w w (XS 0) 9 _ (by simp) (by decide) (B0 _ _)).later ((((((B0 _ _).alloc _).alloc _).alloc _).alloc _).alloc _)⟩
 ·have hidx:∀(a b c d e f:Value) (W:World),(Instr.index 255 (.agg #[a,b,c,d,e,f]) (.int .i64 1)).run Tryz.prog W= .ok b W:=fun _ _ _ _ _ _ _=>by kernel_rfl
  go_enter Tryz.func179,Tryz.ntmps179
  go_wp2_with fail
  go_ret
  exact⟨_,rfl,(Xe w (w.alloc _) (XS 1) 9 _ (by simp) (by decide) ((B0 _ _).alloc _)).later (((((B0 _ _).alloc _).alloc _).alloc _).alloc _)⟩
 ·have hidx:∀(a b c d e f:Value) (W:World),(Instr.index 255 (.agg #[a,b,c,d,e,f]) (.int .i64 2)).run Tryz.prog W= .ok c W:=fun _ _ _ _ _ _ _=>by kernel_rfl
  go_enter Tryz.func179,Tryz.ntmps179
  go_wp2_with fail
  go_ret
  exact⟨_,rfl,(Xe w ((w.alloc _).alloc _) (XS 2) 9 _ (by simp) (by decide) (((B0 _ _).alloc _).alloc _)).later ((((B0 _ _).alloc _).alloc _).alloc _)⟩
 ·have hidx:∀(a b c d e f:Value) (W:World),(Instr.index 255 (.agg #[a,b,c,d,e,f]) (.int .i64 3)).run Tryz.prog W= .ok d W:=fun _ _ _ _ _ _ _=>by kernel_rfl
  go_enter Tryz.func179,Tryz.ntmps179
  go_wp2_with fail
  go_ret
  exact⟨_,rfl,(Xe w (((w.alloc _).alloc _).alloc _) (XS 3) 9 _ (by simp) (by decide) ((((B0 _ _).alloc _).alloc _).alloc _)).later (((B0 _ _).alloc _).alloc _)⟩
 ·have hidx:∀(a b c d e f:Value) (W:World),(Instr.index 255 (.agg #[a,b,c,d,e,f]) (.int .i64 4)).run Tryz.prog W= .ok e W:=fun _ _ _ _ _ _ _=>by kernel_rfl
  go_enter Tryz.func179,Tryz.ntmps179
  go_wp2_with fail
  go_ret
  exact⟨_,rfl,(Xe w ((((w.alloc _).alloc _).alloc _).alloc _) (XS 4) 9 _ (by simp) (by decide) (((((B0 _ _).alloc _).alloc _).alloc _).alloc _)).later ((B0 _ _).alloc _)⟩
 ·have hidx:∀(a b c d e f:Value) (W:World),(Instr.index 255 (.agg #[a,b,c,d,e,f]) (.int .i64 5)).run Tryz.prog W= .ok f W:=fun _ _ _ _ _ _ _=>by kernel_rfl
  go_enter Tryz.func179,Tryz.ntmps179
  go_wp2_with fail
  go_ret
  exact⟨_,rfl,(Xe w (((((w.alloc _).alloc _).alloc _).alloc _).alloc _) (XS 5) 9 _ (by simp) (by decide) ((((((B0 _ _).alloc _).alloc _).alloc _).alloc _).alloc _)).later (B0 _ _)⟩
theorem YK (s:ByteArray) (w:World):
  Calls Tryz.prog 144 #[.string s] w (Xx s w):=by
 go_enter Tryz.func144,Tryz.ntmps144
 go_wp2_with fail
 go_loopw [4] (fun i wr=>∃k:Nat,k<=6/\i= .int .i64 k/\Hid (∀j,j<k->s∉XS j)/\Qc [] w wr) (fun i _=>6-(intOf i).toNat)
 case atStart=>exact⟨0,by omega,rfl,fun j h=>absurd h (M4 _),B0 _ _⟩
 case round=>
  obtain⟨k,hk,rfl,HN,hc⟩:=hrel
  by_cases hlt:k<6
  ·go_wp2_with fail
   refine(uh k _ hlt).mono ?_
   intro e w1 G1
   obtain⟨A1,cap1,rfl,n1⟩:=G1.sl
   have c1:=n1.chg
   have HT:=Qb (z7 (XS k) s _ _ w1 n1.rd)
   clear n1
   go_wp2_with fail
   refine HT.out.mono ?_
   rintro e w2 ⟨t,rfl,ht,rfl⟩
   have HB:=Qb ht
   clear ht HT
   cases t
   ·go_wp2_with fail
    go_roundw
    case rel=>exact⟨k+1,by omega,by go_num,Qb (fun j hj=>(I7.1 hj).elim (HN.out j) (fun e=>by subst e;exact fun hm=>by have:=HB.out.2 hm;simp at this)),hc.tz c1⟩
    case measure=>simp [intOf];omega
   ·go_wp2_with fail
    go_ret
    exact Xx.of (Qct (HB.out.1 (by simp))) (hc.tz c1)
  ·obtain rfl:k=6:=by omega
   go_wp2_with fail
   go_ret
   exact Xx.of (QcQ HN.out) hc
end Go.Proofs.YtfjhdnjlhjimeaaGreatDoor
