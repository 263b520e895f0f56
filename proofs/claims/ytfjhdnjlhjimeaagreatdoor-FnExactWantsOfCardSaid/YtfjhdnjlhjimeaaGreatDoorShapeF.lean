/- Of the program. Conditions: as stated. -/
import Derived.Test.YtfjhdnjlhjimeaaGreatDoorMoreW
set_option maxRecDepth 100000
set_option maxHeartbeats 2000000
namespace Go.Proofs.YtfjhdnjlhjimeaaGreatDoor
open Go.RowKit

theorem Qhw (c:UInt8):∀(l cur:List UInt8),c∉cur->∀y∈Zw c cur l,c∉y
 | [],cur,h=>by rw [Zw];simpa using h
 | b::l,cur,h=>by
  rw [Zw]
  by_cases e:b=c
  ·rw [if_pos e]
   intro y hy
   rcases C7.1 hy with rfl|hy
   ·exact h
   ·exact Qhw c l [] (by simp) y hy
  ·rw [if_neg e]
   exact Qhw c l _ (by simp [h,Ne.symm e])
theorem Qha (c:UInt8):∀(l cur:List UInt8),(Zw c cur l).length=l.count c+1
 | [],cur=>by simp [Zw]
 |b::l,cur=>by
  rw [Zw]
  by_cases h:b=c
  ·rw [if_pos h,I1,Qha c l [],h,List.count_cons_self]
  ·rw [if_neg h,Qha c l _,List.count_cons_of_ne h]
theorem Qhv (s:ByteArray):(QG 32 s).length=QgF s+1:=by
 unfold QG QgF;rw [J8,Qha]
theorem QhG (s:ByteArray) (h:0<QgF s) (hk:QgF s<(QG 32 s).length):(QG 32 s)[QgF s]=Qgs s:=by
 have hj:=Qbh s
 have hl:=Qhv s
 have hne:=Qaa s
 have e1:=(List.dropLast_concat_getLast hne).symm
 have e2:(QG 32 s)[QgF s]=(QG 32 s).getLast hne:=by
  rw [List.getLast_eq_getElem]
  congr 1
  omega
 rw [e2]
 obtain⟨y,hy⟩:∃y,(QG 32 s).getLast hne=y:=⟨_,rfl⟩
 have hm:y∈QG 32 s:=by rw [<-hy];exact List.getLast_mem hne
 have hy32:(32:UInt8)∉y.data.toList:=by
  unfold QG at hm
  obtain⟨z,hz,rfl⟩:=L7.1 hm
  have:=Qhw 32 s.data.toList [] (by simp) z hz
  simpa [Uz] using this
 rw [hy] at e1 ⊢
 obtain⟨x,r,ex⟩:∃x r,(QG 32 s).dropLast=x::r:=List.exists_cons_of_ne_nil (fun h0=>by
  have:=congrArg List.length h0
  rw [List.length_dropLast] at this
  simp only [U7] at this
  omega)
 rw [ex] at e1
 rw [e1,uX] at hj
 rw [<-hj,Qhu hy32]
theorem QhE (s:ByteArray) (w:World):
  Calls Tryz.prog 159 #[.string s] w (WU ((Qj s).map (·.1)) w):=by
 go_enter Tryz.func159,Tryz.ntmps159
 go_wp2_with fail
 refine(Ya s w).mono ?_
 rintro e w1 ⟨rfl,rfl⟩
 go_wp2_with fail
 go_ret2
 refine⟨?_,C6⟩
 cases Qj s<;>rfl
theorem Qgw (s:ByteArray) (w:World):
  Calls Tryz.prog 188 #[.string s] w (WU ((Qj s).map (·.2)) w):=by
 go_enter Tryz.func188,Tryz.ntmps188
 go_wp2_with fail
 refine(Ya s w).mono ?_
 rintro e w1 ⟨rfl,rfl⟩
 go_wp2_with fail
 go_ret2
 refine⟨?_,C6⟩
 cases Qj s<;>rfl
theorem Qh0 (s:ByteArray) (w:World) (hE:KP w) (hs:s.size<=1048575):
  Calls Tryz.prog 160 #[.string s] w (xY (Qa6 s) w):=by
 obtain⟨m,hm⟩:=hE.max
 have hw:=Qk hm
 simp only at hw
 have hlen:=Qhv s
 have hlen2:=(qz 32 s).2
 have SP:=Tryz.strings_Split s ⟨#[32]⟩ m w (by omega) hm (by decide)
 rw [Jt 32 _ _ rfl] at SP
 have hcn:Lib.countB s ⟨#[32]⟩+1=(QG 32 s).length:=by rw [<-Jt 32 _ _ rfl,Lib.splitB_all _ (by decide) _ _ _ rfl]
 rw [hcn] at SP
 have SP:=Qb SP
 go_enter Tryz.func160,Tryz.ntmps160
 go_wp2_with fail
 refine SP.out.mono ?_
 rintro e w2 ⟨rfl,hw2⟩
 have cA:Qc [] w w2:=by rw [hw2];exact C6
 have hb:w.heap.size<w2.heap.size:=by rw [hw2];simp
 have hcell:∀(k:Nat) (h:k<(QG 32 s).length),w2.cell? ⟨w.heap.size,k,none⟩=some (.string (QG 32 s)[k]):=fun k h=>by
  rw [hw2]
  exact JF _ _ _ _ rfl (by simp [h])
 have hcl:0<QgF s->w2.cell? ⟨w.heap.size,QgF s,none⟩=some (.string (Qgs s)):=fun h0=>by
  rw [<-QhG s h0 (by omega)]
  exact hcell _ (by omega)
 clear hw2 SP hcn hm hE hcell
 rw [hlen] at hlen2 ⊢
 by_cases h0:0<QgF s
 ·have hc:=hcl h0
  have hf:Qa6 s=((Qj (Qgs s)).getD (0,0)).2:=by unfold Qa6;rw [if_pos h0]
  have LG:=Qb (fun W=>Qgw (Qgs s) W)
  have i1:((QgF s:Nat):Int)+1>1:=by omega
  go_wp2_with fail
  refine(LG.out _).mono ?_
  rintro e w3 ⟨rfl,c3⟩
  go_wp2_with fail
  go_ret
  refine⟨?_,cA.tz c3⟩
  rw [hf]
  cases Qj (Qgs s)<;>rfl
 ·have hz:QgF s=0:=by omega
  have hf:Qa6 s=(Qo s).getD 0:=by unfold Qa6;rw [if_neg h0]
  have KF:=Qb (fun W=>ZT s W)
  rw [hz]
  clear hcl hlen2 hlen h0 hz
  go_wp2_with fail
  refine(KF.out _).mono ?_
  rintro e w3 ⟨rfl,rfl⟩
  go_wp2_with fail
  go_ret
  exact⟨by rw [hf];rfl,cA⟩
end Go.Proofs.YtfjhdnjlhjimeaaGreatDoor
