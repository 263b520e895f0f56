/- The program's inference. Conditions: as stated. -/
import Derived.Test.YtfjhdnjlhjimeaaGreatDoorInf
import Derived.Test.YtfjhdnjlhjimeaaGreatDoorShapeF
import Derived.Test.YtfjhdnjlhjimeaaGreatDoorShCount
set_option maxRecDepth 100000
set_option maxHeartbeats 8000000
namespace Go.Proofs.YtfjhdnjlhjimeaaGreatDoor
open Go.RowKit

instance (x:Qhq):Decidable x.bare:=inferInstanceAs (Decidable (_/\_))
def QhW (a:Qa) (x:Qhq):Option Qhq:=
 if a.op=2/\3<=QgF x.shape then some x
 else if x.bare∨ZL (Qa6 x.shape) (KV a) then some (if a.op=2 then x.wrap a.word else x)
 else none
def Qib (a:Qa) (s:YY Qhq) (xiq bx:Nat) (A:Nat->Int->Prop) (F:Prop) (w:World) (e:Ending) (w':World):Prop:=
 ∃ok:Bool,e= .returned (.bool ok)/\(ok=true↔(QhW a (s.get a.slot)).isSome=true)/\ZU w' bx (Qg9 (s.set a.slot ((QhW a (s.get a.slot)).getD (s.get a.slot))))/\
  Qf9 w' xiq (fun i n=>A i n∨((s.get a.slot).bare/\i+1=(s.get a.slot).given/\n=KV a)) (F∨QhW a (s.get a.slot)=none)/\Qc [xiq,bx] w w'
theorem Qil {P:Program} {a b x:ByteArray} (hx:x=a++b) (h:a.size+b.size<=9223372036854775807) (W:World):(Op.stringOp .add a b).run P W= .ok (.string x) W:=by
 rw [hx];exact run_string_add_sum _ _ _ h
theorem Qhx (s:ByteArray):Lib.countByte s.data.toList 32=(QgF s:Int):=by
 unfold Lib.countByte QgF;rfl
theorem QhQ (s:YY Qhq) {i:Int} (hi:QE i):(Qg9 s)[i.toNat * 2]?=some (.int .i64 (s.get i).given)/\(Qg9 s)[i.toNat * 2+1]?=some (.string (s.get i).shape):=by
 obtain⟨h0,h2⟩:=hi
 rcases(show i=0∨i=1∨i=2 by omega) with rfl|rfl|rfl<;>exact⟨rfl,rfl⟩
theorem QhR (s:YY Qhq) {i:Int} (hi:QE i) (sh:ByteArray):(Qg9 s).set (i.toNat * 2+1) (.string sh)=Qg9 (s.set i ⟨(s.get i).given,sh⟩):=by
 obtain⟨h0,h2⟩:=hi
 rcases(show i=0∨i=1∨i=2 by omega) with rfl|rfl|rfl<;>rfl
theorem Qfs {a:Qa} (ha:ZG a) (h:a.op=2∨a.op=6∨a.op=7):ql (KV a):=by
 rcases h with h|h|h
 ·have hw:=((xJ h).1 ha).2.1
  obtain⟨y,hy⟩:=O6.1 hw
  have hm:=UZ hy
  have hall:∀p∈Yk,0<=p.2.1/\p.2.1<=63:=by decide
  unfold KV
  rw [if_neg (by omega),if_neg (by omega),hy]
  exact hall _ hm
 ·unfold KV
  rw [if_pos h]
  exact((jk h).1 ha).2.1
 ·unfold KV
  rw [if_neg (by omega),if_pos h]
  unfold ZR ql
  cases hk:Zg a.call.method with
  |none=>decide
  |some k=>
   obtain⟨j,hj,rfl,_⟩:=Ku hk
   match j,hj with
   |0,_|1,_|2,_|3,_|4,_|5,_=>decide
theorem QhZ {w:World} {x:Qhq} {xiq j:Nat} {A:Nat->Int->Prop} {F:Prop} {u0 u1 u2 u z:Int} {fl:Bool} (j0:Qgm A 0 u0) (j1:Qgm A 1 u1) (j2qq:Qgm A 2 u2) (hf:fl=true↔F) (hj3:j<3) (hcj:([.int .i64 u0,.int .i64 u1,.int .i64 u2,.bool fl]:List Value)[j]?=some (.int .i64 u)) (hz:ql z) (hb:x.bare) (hj:x.given=j+1)
  (hW:ZU w xiq (([.int .i64 u0,.int .i64 u1,.int .i64 u2,.bool fl]:List Value).set j (.int .i64 (bits .or .i64 u z)))):Qf9 w xiq (fun i n=>A i n∨(x.bare/\i+1=x.given/\n=z)) F:=by
 have go:∀ {i:Nat} {v:Int},Qgm A i v->Qgm (fun i n=>A i n∨(x.bare/\i+1=x.given/\n=z)) i (if i=j then bits .or .i64 v z else v):=fun {i v} h=>by
  by_cases e:i=j
  ·rw [if_pos e]
   exact(h.or hz).congr (fun n=>or_congr i7 ⟨fun h=>⟨hb,by omega,h.2⟩,fun h=>⟨rfl,h.2.2⟩⟩)
  ·rw [if_neg e]
   exact h.congr (fun n=>⟨.inl,fun h=>h.elim id (fun h=>absurd (by have:=h.2.1;omega) e)⟩)
 rcases(show j=0∨j=1∨j=2 by omega) with rfl|rfl|rfl
 ·cases hcj;exact⟨_,_,_,fl,hW,go j0,go j1,go j2qq,hf⟩
 ·cases hcj;exact⟨_,_,_,fl,hW,go j0,go j1,go j2qq,hf⟩
 ·cases hcj;exact⟨_,_,_,fl,hW,go j0,go j1,go j2qq,hf⟩
theorem Qig (SB:Nat->Prop) (B xiq bx g off:Nat) (a:Qa) (s:YY Qhq) (A:Nat->Int->Prop) (F:Prop) (w:World) (hop:a.op=6) (ha:ZG a) (hs:s.All Qhq.sm) (hE:YO B w) (hB:B<=w.heap.size) (hI:Qf9 w xiq A F) (hb:ZU w bx (Qg9 s)) (hA:QaV SB w g off a) (hsb:∀y,SB y->y<B) (hx:B<=xiq/\B<=bx/\xiq≠bx):
  Calls Tryz.prog 127 #[.pointer (some ⟨xiq,0,none⟩),.pointer (some ⟨g,off,none⟩),.pointer (some ⟨bx,a.slot.toNat * 2,none⟩)] w (Qib a s xiq bx A F w):=by
 have hslot:=((jk hop).1 ha).1
 obtain⟨hc0,hc1⟩:=QhQ s hslot
 have c0:=hb.c _ _ hc0
 have c1:=hb.c _ _ hc1
 have sm:=(hs.get a.slot).le
 have hset:=fun sh=>QhR s hslot sh
 have hsame:=YY.set_get s a.slot
 have hss:=hs.get a.slot
 unfold Qib
 obtain⟨x,hxx⟩:∃x,s.get a.slot=x:=⟨_,rfl⟩
 rw [hxx] at c0 c1 sm hset hsame hss ⊢
 obtain⟨o,ho⟩:∃o,a.slot.toNat * 2=o:=⟨_,rfl⟩
 rw [ho] at c0 c1 hset ⊢
 have hset:=Qb hset
 have hsame:=Qb hsame
 clear hc0 hc1 hxx ho hs
 obtain⟨uA,uB,hSB,lg,cs,_,_⟩:=hA
 have gB:=hsb g hSB
 have ac:=cs.1
 have aw:=cs.2.2.2.1
 have am:=cs.2.2.2.2.1
 have af:=cs.2.2.2.2.2.2.2.2.1
 rw [hop] at ac
 clear cs hsb
 obtain⟨u0,u1,u2,fl,hbx,j0,j1,j2qq,hf⟩:=hI
 have CN:=Qb (fun W=>Tryz.strings_Count_one x.shape 32 W)
 rw [Qhx] at CN
 have lbx:=hb.lt
 have lxi:=hbx.lt
 have hzF:ql (KV a):=Qfs ha (by omega)
 obtain⟨z,hz⟩:∃z,KV a=z:=⟨_,rfl⟩
 rw [hz] at hzF ⊢
 have e0:a.face=z:=by rw [<-hz];unfold KV;rw [if_pos hop]
 rw [e0] at af
 have SF:=Qb (fun W (h:KP W)=>Qh0 x.shape W h (by omega))
 have OF:=Qb (fun W=>Xp (Qa6 x.shape) z W)
 by_cases hbare:x.bare
 ·have hg:(0:Int)<(x.given:Int):=by have:=hbare.1;omega
  have hs0:QgF x.shape=0:=hbare.2
  rw [hs0] at CN
  have hp:QhW a x=some x:=by unfold QhW;rw [if_neg (fun h=>by have:=h.1;have:=h.2;omega),if_pos (.inl hbare),if_neg (by omega)]
  obtain⟨j,hj⟩:∃j,x.given=j+1:=⟨x.given-1,by have:=hbare.1;omega⟩
  have hj3:=Qb (show j<3 by omega)
  have wj:=Qb (show IntKind.i64.wrap ((x.given:Int) -1)=(j:Int) by rw [Zd (by omega) (by omega)];omega)
  obtain⟨u,hcj,juq⟩:∃u,([.int .i64 u0,.int .i64 u1,.int .i64 u2,.bool fl]:List Value)[j]?=some (.int .i64 u)/\Qgm A j u:=by
   have:=hj3.out
   rcases(show j=0∨j=1∨j=2 by omega) with rfl|rfl|rfl
   ·exact⟨u0,rfl,j0⟩
   ·exact⟨u1,rfl,j1⟩
   ·exact⟨u2,rfl,j2qq⟩
  have cj:=hbx.c j _ hcj
  have HI:=Qb (fun(W:World) (hW:ZU W xiq (([.int .i64 u0,.int .i64 u1,.int .i64 u2,.bool fl]:List Value).set j (.int .i64 (bits .or .i64 u z))))=>QhZ (F:=F∨QhW a x=none) j0 j1 j2qq (by rw [hp];exact hf.trans ⟨.inl,fun h=>h.elim id (fun h=>by cases h)⟩) hj3.out hcj hzF hbare hj hW)
  clear hj
  go_enter Tryz.func127,Tryz.ntmps127
  go_wp2_with fail
  refine(CN.out _).mono ?_
  rintro e w1 ⟨rfl,rfl⟩
  go_upto_region 14 with fail
  obtain⟨VL,hV⟩:∃VL:List Value,VL=[.pointer (some ⟨xiq,0,none⟩),.pointer (some ⟨bx,o,none⟩),.pointer (some ⟨bx,o,none⟩),.pointer (some ⟨bx,o,none⟩),.int .i64 (x.given:Int),.int .i64 (j:Int),.pointer (some ⟨xiq,0,none⟩),.pointer (some ⟨xiq,0,none⟩),.pointer (some ⟨xiq,j,none⟩),.int .i64 u,.int .i64 z,.int .i64 (bits .or .i64 u z),.pointer (some ⟨xiq,0,none⟩),.pointer (some ⟨xiq,0,none⟩),.pointer (some ⟨xiq,j,none⟩)]:=⟨_,rfl⟩
  obtain⟨J,hJ⟩:∃J:(Nat->Bool)->(Nat->Value)->World->Prop,∀d v W,J d v W↔(JG [(0,55),(1,56),(2,57),(3,58),(4,59),(5,60),(6,61),(7,62),(8,63),(9,64),(10,65),(11,66),(12,67),(13,68),(14,69)] VL d v/\Qc [] w1 W):=⟨_,fun _ _ _=>i7⟩
  refine Ze (b:=⟨#[],[]⟩) 15 [55,56,57,58,59,60,61,62,63,64,65,66,67,68,69] J (by kernel_rfl) (XN _ _) (by kernel_rfl) (by kernel_rfl) (by kernel_rfl) ?_ ?_ ?_
  ·exact(hJ _ _ _).2 ⟨UO (by decide),C6⟩
  ·refine⟨.inr ?_,.inr ?_,.inr ?_,.inr ?_,.inr ?_,.inr ?_,.inr ?_,.inr ?_,.inr ?_,.inr ?_,.inr ?_,.inr ?_,.inr ?_,.inr ?_,.inr ?_,.inl rfl,trivial⟩
   ·intro d v W hC hd hpre hJ1 K hK
    have H:=Qb ((hJ _ _ _).1 hJ1)
    clear hJ1
    clear hpre hC hd
    simp only [Xq,C8,C9]
    go_simp
    refine YD hK (by simp only [Xq,Act.put,D0,C8,C9] <;>rfl) ((hJ _ _ _).2 ⟨Qu (by decide) (by decide) H.out.1 0 _ _ _ rfl (by rw [hV];rfl),H.out.2⟩)
   ·intro d v W hC hd hpre hJ1 K hK
    have H:=Qb ((hJ _ _ _).1 hJ1)
    clear hJ1
    clear hpre hC hd
    simp only [Xq,C8,C9]
    go_simp
    refine YD hK (by simp only [Xq,Act.put,D0,C8,C9] <;>rfl) ((hJ _ _ _).2 ⟨Qu (by decide) (by decide) H.out.1 1 _ _ _ rfl (by rw [hV];rfl),H.out.2⟩)
   ·intro d v W hC hd hpre hJ1 K hK
    have H:=Qb ((hJ _ _ _).1 hJ1)
    clear hJ1
    have e1:v 56= .pointer (some ⟨bx,o,none⟩):=H.out.1 1 _ _ _ rfl (by rw [hV];rfl) (Qh hpre 1)
    clear hpre hC hd
    simp only [Xq,C8,C9,e1]
    go_simp
    refine YD hK (by simp only [Xq,Act.put,D0,C8,C9,e1] <;>rfl) ((hJ _ _ _).2 ⟨Qu (by decide) (by decide) H.out.1 2 _ _ _ rfl (by rw [hV];rfl),H.out.2⟩)
   ·intro d v W hC hd hpre hJ1 K hK
    have H:=Qb ((hJ _ _ _).1 hJ1)
    clear hJ1
    have e2:v 57= .pointer (some ⟨bx,o,none⟩):=H.out.1 2 _ _ _ rfl (by rw [hV];rfl) (Qh hpre 2)
    clear hpre hC hd
    simp only [Xq,C8,C9,e2]
    go_simp
    refine YD hK (by simp only [Xq,Act.put,D0,C8,C9,e2] <;>rfl) ((hJ _ _ _).2 ⟨Qu (by decide) (by decide) H.out.1 3 _ _ _ rfl (by rw [hV];rfl),H.out.2⟩)
   ·intro d v W hC hd hpre hJ1 K hK
    have H:=Qb ((hJ _ _ _).1 hJ1)
    clear hJ1
    have e3:v 58= .pointer (some ⟨bx,o,none⟩):=H.out.1 3 _ _ _ rfl (by rw [hV];rfl) (Qh hpre 3)
    clear hpre hC hd
    have q0:=(H.out.2.cell (p:=⟨bx,o,none⟩) lbx (by simp)).trans c0
    simp only [Xq,C8,C9,e3]
    go_simp
    refine YD hK (by simp only [Xq,Act.put,D0,C8,C9,e3] <;>rfl) ((hJ _ _ _).2 ⟨Qu (by decide) (by decide) H.out.1 4 _ _ _ rfl (by rw [hV];rfl),H.out.2⟩)
   ·intro d v W hC hd hpre hJ1 K hK
    have H:=Qb ((hJ _ _ _).1 hJ1)
    clear hJ1
    have e4:v 59= .int .i64 (x.given:Int):=H.out.1 4 _ _ _ rfl (by rw [hV];rfl) (Qh hpre 4)
    clear hpre hC hd
    have wj:=wj.out
    simp only [Xq,C8,C9,e4]
    go_simp
    refine YD hK (by simp only [Xq,Act.put,D0,C8,C9,e4] <;>rfl) ((hJ _ _ _).2 ⟨Qu (by decide) (by decide) H.out.1 5 _ _ _ rfl (by rw [hV];rfl),H.out.2⟩)
   ·intro d v W hC hd hpre hJ1 K hK
    have H:=Qb ((hJ _ _ _).1 hJ1)
    clear hJ1
    have e0:v 55= .pointer (some ⟨xiq,0,none⟩):=H.out.1 0 _ _ _ rfl (by rw [hV];rfl) (Qh hpre 0)
    clear hpre hC hd
    simp only [Xq,C8,C9,e0]
    go_simp
    refine YD hK (by simp only [Xq,Act.put,D0,C8,C9,e0] <;>rfl) ((hJ _ _ _).2 ⟨Qu (by decide) (by decide) H.out.1 6 _ _ _ rfl (by rw [hV];rfl),H.out.2⟩)
   ·intro d v W hC hd hpre hJ1 K hK
    have H:=Qb ((hJ _ _ _).1 hJ1)
    clear hJ1
    have e6:v 61= .pointer (some ⟨xiq,0,none⟩):=H.out.1 6 _ _ _ rfl (by rw [hV];rfl) (Qh hpre 6)
    clear hpre hC hd
    simp only [Xq,C8,C9,e6]
    go_simp
    refine YD hK (by simp only [Xq,Act.put,D0,C8,C9,e6] <;>rfl) ((hJ _ _ _).2 ⟨Qu (by decide) (by decide) H.out.1 7 _ _ _ rfl (by rw [hV];rfl),H.out.2⟩)
   ·intro d v W hC hd hpre hJ1 K hK
    have H:=Qb ((hJ _ _ _).1 hJ1)
    clear hJ1
    have e7:v 62= .pointer (some ⟨xiq,0,none⟩):=H.out.1 7 _ _ _ rfl (by rw [hV];rfl) (Qh hpre 7)
    have e5:v 60= .int .i64 (j:Int):=H.out.1 5 _ _ _ rfl (by rw [hV];rfl) (Qh hpre 5)
    clear hpre hC hd
    have hji:((j:Nat):Int)<3:=by have:=hj3.out;omega
    simp only [Xq,C8,C9,e7,e5]
    go_simp
    refine YD hK (by simp only [Xq,Act.put,D0,C8,C9,e7,e5] <;>rfl) ((hJ _ _ _).2 ⟨Qu (by decide) (by decide) H.out.1 8 _ _ _ rfl (by rw [hV];rfl),H.out.2⟩)
   ·intro d v W hC hd hpre hJ1 K hK
    have H:=Qb ((hJ _ _ _).1 hJ1)
    clear hJ1
    have e8:v 63= .pointer (some ⟨xiq,j,none⟩):=H.out.1 8 _ _ _ rfl (by rw [hV];rfl) (Qh hpre 8)
    clear hpre hC hd
    have q1:=(H.out.2.cell (p:=⟨xiq,j,none⟩) lxi (by simp)).trans cj
    simp only [Xq,C8,C9,e8]
    go_simp
    refine YD hK (by simp only [Xq,Act.put,D0,C8,C9,e8] <;>rfl) ((hJ _ _ _).2 ⟨Qu (by decide) (by decide) H.out.1 9 _ _ _ rfl (by rw [hV];rfl),H.out.2⟩)
   ·intro d v W hC hd hpre hJ1 K hK
    have H:=Qb ((hJ _ _ _).1 hJ1)
    clear hJ1
    clear hpre hC hd
    simp only [Xq,C8,C9]
    go_simp
    refine YD hK (by simp only [Xq,Act.put,D0,C8,C9] <;>rfl) ((hJ _ _ _).2 ⟨Qu (by decide) (by decide) H.out.1 10 _ _ _ rfl (by rw [hV];rfl),H.out.2⟩)
   ·intro d v W hC hd hpre hJ1 K hK
    have H:=Qb ((hJ _ _ _).1 hJ1)
    clear hJ1
    have e9:v 64= .int .i64 u:=H.out.1 9 _ _ _ rfl (by rw [hV];rfl) (Qh hpre 9)
    have e10:v 65= .int .i64 z:=H.out.1 10 _ _ _ rfl (by rw [hV];rfl) (Qh hpre 10)
    clear hpre hC hd
    simp only [Xq,C8,C9,e9,e10]
    go_simp
    refine YD hK (by simp only [Xq,Act.put,D0,C8,C9,e9,e10] <;>rfl) ((hJ _ _ _).2 ⟨Qu (by decide) (by decide) H.out.1 11 _ _ _ rfl (by rw [hV];rfl),H.out.2⟩)
   ·intro d v W hC hd hpre hJ1 K hK
    have H:=Qb ((hJ _ _ _).1 hJ1)
    clear hJ1
    have e0:v 55= .pointer (some ⟨xiq,0,none⟩):=H.out.1 0 _ _ _ rfl (by rw [hV];rfl) (Qh hpre 0)
    clear hpre hC hd
    simp only [Xq,C8,C9,e0]
    go_simp
    refine YD hK (by simp only [Xq,Act.put,D0,C8,C9,e0] <;>rfl) ((hJ _ _ _).2 ⟨Qu (by decide) (by decide) H.out.1 12 _ _ _ rfl (by rw [hV];rfl),H.out.2⟩)
   ·intro d v W hC hd hpre hJ1 K hK
    have H:=Qb ((hJ _ _ _).1 hJ1)
    clear hJ1
    have e12:v 67= .pointer (some ⟨xiq,0,none⟩):=H.out.1 12 _ _ _ rfl (by rw [hV];rfl) (Qh hpre 12)
    clear hpre hC hd
    simp only [Xq,C8,C9,e12]
    go_simp
    refine YD hK (by simp only [Xq,Act.put,D0,C8,C9,e12] <;>rfl) ((hJ _ _ _).2 ⟨Qu (by decide) (by decide) H.out.1 13 _ _ _ rfl (by rw [hV];rfl),H.out.2⟩)
   ·intro d v W hC hd hpre hJ1 K hK
    have H:=Qb ((hJ _ _ _).1 hJ1)
    clear hJ1
    have e13:v 68= .pointer (some ⟨xiq,0,none⟩):=H.out.1 13 _ _ _ rfl (by rw [hV];rfl) (Qh hpre 13)
    have e5:v 60= .int .i64 (j:Int):=H.out.1 5 _ _ _ rfl (by rw [hV];rfl) (Qh hpre 5)
    clear hpre hC hd
    have hji:((j:Nat):Int)<3:=by have:=hj3.out;omega
    simp only [Xq,C8,C9,e13,e5]
    go_simp
    refine YD hK (by simp only [Xq,Act.put,D0,C8,C9,e13,e5] <;>rfl) ((hJ _ _ _).2 ⟨Qu (by decide) (by decide) H.out.1 14 _ _ _ rfl (by rw [hV];rfl),H.out.2⟩)
  ·refine⟨_,rfl,fun v W hJ1 K hK=>?_⟩
   have H:=Qb ((hJ _ _ _).1 hJ1)
   clear hJ1
   have e0:v 55= .pointer (some ⟨xiq,0,none⟩):=H.out.1 0 _ _ _ rfl (by rw [hV];rfl) (by decide)
   have e1:v 56= .pointer (some ⟨bx,o,none⟩):=H.out.1 1 _ _ _ rfl (by rw [hV];rfl) (by decide)
   have e2:v 57= .pointer (some ⟨bx,o,none⟩):=H.out.1 2 _ _ _ rfl (by rw [hV];rfl) (by decide)
   have e3:v 58= .pointer (some ⟨bx,o,none⟩):=H.out.1 3 _ _ _ rfl (by rw [hV];rfl) (by decide)
   have e4:v 59= .int .i64 (x.given:Int):=H.out.1 4 _ _ _ rfl (by rw [hV];rfl) (by decide)
   have e5:v 60= .int .i64 (j:Int):=H.out.1 5 _ _ _ rfl (by rw [hV];rfl) (by decide)
   have e6:v 61= .pointer (some ⟨xiq,0,none⟩):=H.out.1 6 _ _ _ rfl (by rw [hV];rfl) (by decide)
   have e7:v 62= .pointer (some ⟨xiq,0,none⟩):=H.out.1 7 _ _ _ rfl (by rw [hV];rfl) (by decide)
   have e8:v 63= .pointer (some ⟨xiq,j,none⟩):=H.out.1 8 _ _ _ rfl (by rw [hV];rfl) (by decide)
   have e9:v 64= .int .i64 u:=H.out.1 9 _ _ _ rfl (by rw [hV];rfl) (by decide)
   have e10:v 65= .int .i64 z:=H.out.1 10 _ _ _ rfl (by rw [hV];rfl) (by decide)
   have e11:v 66= .int .i64 (bits .or .i64 u z):=H.out.1 11 _ _ _ rfl (by rw [hV];rfl) (by decide)
   have e12:v 67= .pointer (some ⟨xiq,0,none⟩):=H.out.1 12 _ _ _ rfl (by rw [hV];rfl) (by decide)
   have e13:v 68= .pointer (some ⟨xiq,0,none⟩):=H.out.1 13 _ _ _ rfl (by rw [hV];rfl) (by decide)
   have e14:v 69= .pointer (some ⟨xiq,j,none⟩):=H.out.1 14 _ _ _ rfl (by rw [hV];rfl) (by decide)
   have CHW:=H.out.2
   clear H hJ J hV
   simp only [Xq,C8,C9,e0,e1,e2,e3,e4,e5,e6,e7,e8,e9,e10,e11,e12,e13,e14]
   have fj:=(hbx.keep CHW).f
   have lj:=(hbx.keep CHW).lt
   have qjq:=(hbx.keep CHW).c j _ hcj
   go_simp
   refine hK.out _ _ ?_
   obtain⟨V,hV⟩:∃V,W.setCell ⟨xiq,j,none⟩ (.int .i64 (bits .or .i64 u z))=V:=⟨_,rfl⟩
   have IV:=HI.out V (by rw [<-hV];exact(hbx.keep CHW).set j _)
   have bV:ZU V bx (Qg9 s):=by rw [<-hV];exact(hb.keep CHW).far _ (by omega)
   have cV:Qc [xiq] w1 V:=by rw [<-hV];exact(CHW.mono (by simp)).setCell (.inl (by simp)) _
   rw [hV]
   clear hV HI fj lj
   have acV:=(cV.cell (p:=⟨g,off,none⟩) lg (by simp;omega)).trans ac
   go_wp2_with fail
   go_ret
   exact⟨true,rfl,by rw [hp];simp,by rw [hp];show ZU _ _ (Qg9 (s.set a.slot x));rw [hsame.out];exact bV,IV,cV.mono (by simp)⟩
 ·have HC:(((0:Int)<(x.given:Int))/\((QgF x.shape:Int)==0)=false)∨¬(0:Int)<(x.given:Int):=by
   unfold Qhq.bare at hbare
   by_cases h0:0<x.given
   ·have:QgF x.shape≠0:=fun h=>hbare ⟨h0,h⟩
    exact .inl ⟨by omega,by rw [beq_eq_false_iff_ne];omega⟩
   ·exact .inr (by omega)
  have HI:=Qb (fun(W:World) (hW:ZU W xiq [.int .i64 u0,.int .i64 u1,.int .i64 u2,.bool fl]) (hp:QhW a x≠none)=>(show Qf9 W xiq A F from⟨u0,u1,u2,fl,hW,j0,j1,j2qq,hf⟩).congr (A':=fun i n=>A i n∨(x.bare/\i+1=x.given/\n=z)) (F':=F∨QhW a x=none) (fun i n _=>⟨.inl,fun h=>h.elim id (fun h=>absurd h.1 hbare)⟩) ⟨.inl,fun h=>h.elim id (fun h=>absurd h hp)⟩)
  have HF:=Qb (fun(W:World) (hW:ZU W xiq [.int .i64 u0,.int .i64 u1,.int .i64 u2,.bool true]) (hp:QhW a x=none)=>(show Qf9 W xiq A True from⟨u0,u1,u2,true,hW,j0,j1,j2qq,by simp⟩).congr (A':=fun i n=>A i n∨(x.bare/\i+1=x.given/\n=z)) (F':=F∨QhW a x=none) (fun i n _=>⟨.inl,fun h=>h.elim id (fun h=>absurd h.1 hbare)⟩) ⟨fun _=>.inr hp,fun _=>trivial⟩)
  rcases HC with ⟨hg,hs0⟩|hg
  all_goals
   go_enter Tryz.func127,Tryz.ntmps127
   go_wp2_with fail
   refine(CN.out _).mono ?_
   rintro e w1 ⟨rfl,rfl⟩
   go_wp2_with fail
   refine(SF.out _ hE.env).mono ?_
   rintro e v3 ⟨rfl,d3⟩
   go_wp2_with fail
   refine(OF.out _).mono ?_
   rintro e V ⟨t,rfl,ht,rfl⟩
   have hb3:=hb.keep d3
   have hx3:=hbx.keep d3
   cases t
   ·have hno:¬ZL (Qa6 x.shape) z:=fun h=>by have:=ht.2 h;cases this
    clear ht
    have hp:QhW a x=none:=by unfold QhW;rw [if_neg (fun h=>by have:=h.1;have:=h.2;omega),if_neg (fun h=>h.elim hbare (fun h=>hno (by rw [<-hz];exact h)))]
    have q3:=hx3.c 3 _ rfl
    have f3:=hx3.f
    go_wp2_with fail
    go_ret
    exact⟨false,rfl,by rw [hp];simp,by rw [hp];show ZU _ _ (Qg9 (s.set a.slot x));rw [hsame.out];exact hb3.far _ (by omega),HF.out _ (hx3.set 3 _) hp,((d3.mono (by simp)).setCell (.inl (by simp)) _) ⟩
   ·have ho:=ht.1 rfl
    clear ht
    have hp:QhW a x=some x:=by unfold QhW;rw [if_neg (fun h=>by have:=h.1;have:=h.2;omega),if_pos (.inr (by rw [hz];exact ho)),if_neg (by omega)]
    have IV:=HI.out V hx3 (by rw [hp];simp)
    have bV:=hb3
    have cV:Qc [xiq] w1 V:=d3.mono (by simp)
    have acV:=(cV.cell (p:=⟨g,off,none⟩) lg (by simp;omega)).trans ac
    go_wp2_with fail
    go_ret
    exact⟨true,rfl,by rw [hp];simp,by rw [hp];show ZU _ _ (Qg9 (s.set a.slot x));rw [hsame.out];exact bV,IV,cV.mono (by simp)⟩
theorem Qie (SB:Nat->Prop) (B xiq bx g off:Nat) (a:Qa) (s:YY Qhq) (A:Nat->Int->Prop) (F:Prop) (w:World) (hop:a.op=7) (ha:ZG a) (hs:s.All Qhq.sm) (hE:YO B w) (hB:B<=w.heap.size) (hI:Qf9 w xiq A F) (hb:ZU w bx (Qg9 s)) (hA:QaV SB w g off a) (hsb:∀y,SB y->y<B) (hx:B<=xiq/\B<=bx/\xiq≠bx):
  Calls Tryz.prog 127 #[.pointer (some ⟨xiq,0,none⟩),.pointer (some ⟨g,off,none⟩),.pointer (some ⟨bx,a.slot.toNat * 2,none⟩)] w (Qib a s xiq bx A F w):=by
 have hslot:=((jf hop).1 ha).1
 obtain⟨hc0,hc1⟩:=QhQ s hslot
 have c0:=hb.c _ _ hc0
 have c1:=hb.c _ _ hc1
 have sm:=(hs.get a.slot).le
 have hset:=fun sh=>QhR s hslot sh
 have hsame:=YY.set_get s a.slot
 have hss:=hs.get a.slot
 unfold Qib
 obtain⟨x,hxx⟩:∃x,s.get a.slot=x:=⟨_,rfl⟩
 rw [hxx] at c0 c1 sm hset hsame hss ⊢
 obtain⟨o,ho⟩:∃o,a.slot.toNat * 2=o:=⟨_,rfl⟩
 rw [ho] at c0 c1 hset ⊢
 have hset:=Qb hset
 have hsame:=Qb hsame
 clear hc0 hc1 hxx ho hs
 obtain⟨uA,uB,hSB,lg,cs,_,_⟩:=hA
 have gB:=hsb g hSB
 have ac:=cs.1
 have aw:=cs.2.2.2.1
 have am:=cs.2.2.2.2.1
 have af:=cs.2.2.2.2.2.2.2.2.1
 rw [hop] at ac
 clear cs hsb
 obtain⟨u0,u1,u2,fl,hbx,j0,j1,j2qq,hf⟩:=hI
 have CN:=Qb (fun W=>Tryz.strings_Count_one x.shape 32 W)
 rw [Qhx] at CN
 have lbx:=hb.lt
 have lxi:=hbx.lt
 have hzF:ql (KV a):=Qfs ha (by omega)
 obtain⟨z,hz⟩:∃z,KV a=z:=⟨_,rfl⟩
 rw [hz] at hzF ⊢
 have e0:ZR a.call.method=z:=by rw [<-hz];unfold KV;rw [if_neg (by omega),if_pos hop]
 have WO:=Qb (fun W=>xB a.call.method W)
 rw [e0] at WO
 have SF:=Qb (fun W (h:KP W)=>Qh0 x.shape W h (by omega))
 have OF:=Qb (fun W=>Xp (Qa6 x.shape) z W)
 by_cases hbare:x.bare
 ·have hg:(0:Int)<(x.given:Int):=by have:=hbare.1;omega
  have hs0:QgF x.shape=0:=hbare.2
  rw [hs0] at CN
  have hp:QhW a x=some x:=by unfold QhW;rw [if_neg (fun h=>by have:=h.1;have:=h.2;omega),if_pos (.inl hbare),if_neg (by omega)]
  obtain⟨j,hj⟩:∃j,x.given=j+1:=⟨x.given-1,by have:=hbare.1;omega⟩
  have hj3:=Qb (show j<3 by omega)
  have wj:=Qb (show IntKind.i64.wrap ((x.given:Int) -1)=(j:Int) by rw [Zd (by omega) (by omega)];omega)
  obtain⟨u,hcj,juq⟩:∃u,([.int .i64 u0,.int .i64 u1,.int .i64 u2,.bool fl]:List Value)[j]?=some (.int .i64 u)/\Qgm A j u:=by
   have:=hj3.out
   rcases(show j=0∨j=1∨j=2 by omega) with rfl|rfl|rfl
   ·exact⟨u0,rfl,j0⟩
   ·exact⟨u1,rfl,j1⟩
   ·exact⟨u2,rfl,j2qq⟩
  have cj:=hbx.c j _ hcj
  have HI:=Qb (fun(W:World) (hW:ZU W xiq (([.int .i64 u0,.int .i64 u1,.int .i64 u2,.bool fl]:List Value).set j (.int .i64 (bits .or .i64 u z))))=>QhZ (F:=F∨QhW a x=none) j0 j1 j2qq (by rw [hp];exact hf.trans ⟨.inl,fun h=>h.elim id (fun h=>by cases h)⟩) hj3.out hcj hzF hbare hj hW)
  clear hj
  go_enter Tryz.func127,Tryz.ntmps127
  go_wp2_with fail
  refine(CN.out _).mono ?_
  rintro e w1 ⟨rfl,rfl⟩
  go_wp2_with fail
  refine(WO.out _).mono ?_
  rintro e w2 ⟨rfl,d2⟩
  have c0:=(d2.cell (p:=⟨bx,o,none⟩) lbx (by simp)).trans c0
  have c1:=(d2.cell (p:=⟨bx,o+1,none⟩) lbx (by simp)).trans c1
  have ac:=(d2.cell (p:=⟨g,off,none⟩) lg (by simp)).trans ac
  have aw:=(d2.cell (p:=⟨g,off+3,none⟩) lg (by simp)).trans aw
  have hbx:=hbx.keep d2
  have hb:=hb.keep d2
  have hE:=hE.keep d2 (by simp) hB
  have hB:=G5 hB d2.size
  have lbx:=hb.lt
  have lxi:=hbx.lt
  have lg:=F6 lg d2.size
  have cj:=hbx.c j _ hcj
  go_upto_region 14 with fail
  obtain⟨VL,hV⟩:∃VL:List Value,VL=[.pointer (some ⟨xiq,0,none⟩),.pointer (some ⟨bx,o,none⟩),.pointer (some ⟨bx,o,none⟩),.pointer (some ⟨bx,o,none⟩),.int .i64 (x.given:Int),.int .i64 (j:Int),.pointer (some ⟨xiq,0,none⟩),.pointer (some ⟨xiq,0,none⟩),.pointer (some ⟨xiq,j,none⟩),.int .i64 u,.int .i64 z,.int .i64 (bits .or .i64 u z),.pointer (some ⟨xiq,0,none⟩),.pointer (some ⟨xiq,0,none⟩),.pointer (some ⟨xiq,j,none⟩)]:=⟨_,rfl⟩
  obtain⟨J,hJ⟩:∃J:(Nat->Bool)->(Nat->Value)->World->Prop,∀d v W,J d v W↔(JG [(0,55),(1,56),(2,57),(3,58),(4,59),(5,60),(6,61),(7,62),(8,63),(9,64),(10,65),(11,66),(12,67),(13,68),(14,69)] VL d v/\Qc [] w2 W):=⟨_,fun _ _ _=>i7⟩
  refine Ze (b:=⟨#[],[]⟩) 15 [55,56,57,58,59,60,61,62,63,64,65,66,67,68,69] J (by kernel_rfl) (XN _ _) (by kernel_rfl) (by kernel_rfl) (by kernel_rfl) ?_ ?_ ?_
  ·exact(hJ _ _ _).2 ⟨UO (by decide),C6⟩
  ·refine⟨.inr ?_,.inr ?_,.inr ?_,.inr ?_,.inr ?_,.inr ?_,.inr ?_,.inr ?_,.inr ?_,.inr ?_,.inr ?_,.inr ?_,.inr ?_,.inr ?_,.inr ?_,.inl rfl,trivial⟩
   ·intro d v W hC hd hpre hJ1 K hK
    have H:=Qb ((hJ _ _ _).1 hJ1)
    clear hJ1
    clear hpre hC hd
    simp only [Xq,C8,C9]
    go_simp
    refine YD hK (by simp only [Xq,Act.put,D0,C8,C9] <;>rfl) ((hJ _ _ _).2 ⟨Qu (by decide) (by decide) H.out.1 0 _ _ _ rfl (by rw [hV];rfl),H.out.2⟩)
   ·intro d v W hC hd hpre hJ1 K hK
    have H:=Qb ((hJ _ _ _).1 hJ1)
    clear hJ1
    clear hpre hC hd
    simp only [Xq,C8,C9]
    go_simp
    refine YD hK (by simp only [Xq,Act.put,D0,C8,C9] <;>rfl) ((hJ _ _ _).2 ⟨Qu (by decide) (by decide) H.out.1 1 _ _ _ rfl (by rw [hV];rfl),H.out.2⟩)
   ·intro d v W hC hd hpre hJ1 K hK
    have H:=Qb ((hJ _ _ _).1 hJ1)
    clear hJ1
    have e1:v 56= .pointer (some ⟨bx,o,none⟩):=H.out.1 1 _ _ _ rfl (by rw [hV];rfl) (Qh hpre 1)
    clear hpre hC hd
    simp only [Xq,C8,C9,e1]
    go_simp
    refine YD hK (by simp only [Xq,Act.put,D0,C8,C9,e1] <;>rfl) ((hJ _ _ _).2 ⟨Qu (by decide) (by decide) H.out.1 2 _ _ _ rfl (by rw [hV];rfl),H.out.2⟩)
   ·intro d v W hC hd hpre hJ1 K hK
    have H:=Qb ((hJ _ _ _).1 hJ1)
    clear hJ1
    have e2:v 57= .pointer (some ⟨bx,o,none⟩):=H.out.1 2 _ _ _ rfl (by rw [hV];rfl) (Qh hpre 2)
    clear hpre hC hd
    simp only [Xq,C8,C9,e2]
    go_simp
    refine YD hK (by simp only [Xq,Act.put,D0,C8,C9,e2] <;>rfl) ((hJ _ _ _).2 ⟨Qu (by decide) (by decide) H.out.1 3 _ _ _ rfl (by rw [hV];rfl),H.out.2⟩)
   ·intro d v W hC hd hpre hJ1 K hK
    have H:=Qb ((hJ _ _ _).1 hJ1)
    clear hJ1
    have e3:v 58= .pointer (some ⟨bx,o,none⟩):=H.out.1 3 _ _ _ rfl (by rw [hV];rfl) (Qh hpre 3)
    clear hpre hC hd
    have q0:=(H.out.2.cell (p:=⟨bx,o,none⟩) lbx (by simp)).trans c0
    simp only [Xq,C8,C9,e3]
    go_simp
    refine YD hK (by simp only [Xq,Act.put,D0,C8,C9,e3] <;>rfl) ((hJ _ _ _).2 ⟨Qu (by decide) (by decide) H.out.1 4 _ _ _ rfl (by rw [hV];rfl),H.out.2⟩)
   ·intro d v W hC hd hpre hJ1 K hK
    have H:=Qb ((hJ _ _ _).1 hJ1)
    clear hJ1
    have e4:v 59= .int .i64 (x.given:Int):=H.out.1 4 _ _ _ rfl (by rw [hV];rfl) (Qh hpre 4)
    clear hpre hC hd
    have wj:=wj.out
    simp only [Xq,C8,C9,e4]
    go_simp
    refine YD hK (by simp only [Xq,Act.put,D0,C8,C9,e4] <;>rfl) ((hJ _ _ _).2 ⟨Qu (by decide) (by decide) H.out.1 5 _ _ _ rfl (by rw [hV];rfl),H.out.2⟩)
   ·intro d v W hC hd hpre hJ1 K hK
    have H:=Qb ((hJ _ _ _).1 hJ1)
    clear hJ1
    have e0:v 55= .pointer (some ⟨xiq,0,none⟩):=H.out.1 0 _ _ _ rfl (by rw [hV];rfl) (Qh hpre 0)
    clear hpre hC hd
    simp only [Xq,C8,C9,e0]
    go_simp
    refine YD hK (by simp only [Xq,Act.put,D0,C8,C9,e0] <;>rfl) ((hJ _ _ _).2 ⟨Qu (by decide) (by decide) H.out.1 6 _ _ _ rfl (by rw [hV];rfl),H.out.2⟩)
   ·intro d v W hC hd hpre hJ1 K hK
    have H:=Qb ((hJ _ _ _).1 hJ1)
    clear hJ1
    have e6:v 61= .pointer (some ⟨xiq,0,none⟩):=H.out.1 6 _ _ _ rfl (by rw [hV];rfl) (Qh hpre 6)
    clear hpre hC hd
    simp only [Xq,C8,C9,e6]
    go_simp
    refine YD hK (by simp only [Xq,Act.put,D0,C8,C9,e6] <;>rfl) ((hJ _ _ _).2 ⟨Qu (by decide) (by decide) H.out.1 7 _ _ _ rfl (by rw [hV];rfl),H.out.2⟩)
   ·intro d v W hC hd hpre hJ1 K hK
    have H:=Qb ((hJ _ _ _).1 hJ1)
    clear hJ1
    have e7:v 62= .pointer (some ⟨xiq,0,none⟩):=H.out.1 7 _ _ _ rfl (by rw [hV];rfl) (Qh hpre 7)
    have e5:v 60= .int .i64 (j:Int):=H.out.1 5 _ _ _ rfl (by rw [hV];rfl) (Qh hpre 5)
    clear hpre hC hd
    have hji:((j:Nat):Int)<3:=by have:=hj3.out;omega
    simp only [Xq,C8,C9,e7,e5]
    go_simp
    refine YD hK (by simp only [Xq,Act.put,D0,C8,C9,e7,e5] <;>rfl) ((hJ _ _ _).2 ⟨Qu (by decide) (by decide) H.out.1 8 _ _ _ rfl (by rw [hV];rfl),H.out.2⟩)
   ·intro d v W hC hd hpre hJ1 K hK
    have H:=Qb ((hJ _ _ _).1 hJ1)
    clear hJ1
    have e8:v 63= .pointer (some ⟨xiq,j,none⟩):=H.out.1 8 _ _ _ rfl (by rw [hV];rfl) (Qh hpre 8)
    clear hpre hC hd
    have q1:=(H.out.2.cell (p:=⟨xiq,j,none⟩) lxi (by simp)).trans cj
    simp only [Xq,C8,C9,e8]
    go_simp
    refine YD hK (by simp only [Xq,Act.put,D0,C8,C9,e8] <;>rfl) ((hJ _ _ _).2 ⟨Qu (by decide) (by decide) H.out.1 9 _ _ _ rfl (by rw [hV];rfl),H.out.2⟩)
   ·intro d v W hC hd hpre hJ1 K hK
    have H:=Qb ((hJ _ _ _).1 hJ1)
    clear hJ1
    clear hpre hC hd
    simp only [Xq,C8,C9]
    go_simp
    refine YD hK (by simp only [Xq,Act.put,D0,C8,C9] <;>rfl) ((hJ _ _ _).2 ⟨Qu (by decide) (by decide) H.out.1 10 _ _ _ rfl (by rw [hV];rfl),H.out.2⟩)
   ·intro d v W hC hd hpre hJ1 K hK
    have H:=Qb ((hJ _ _ _).1 hJ1)
    clear hJ1
    have e9:v 64= .int .i64 u:=H.out.1 9 _ _ _ rfl (by rw [hV];rfl) (Qh hpre 9)
    have e10:v 65= .int .i64 z:=H.out.1 10 _ _ _ rfl (by rw [hV];rfl) (Qh hpre 10)
    clear hpre hC hd
    simp only [Xq,C8,C9,e9,e10]
    go_simp
    refine YD hK (by simp only [Xq,Act.put,D0,C8,C9,e9,e10] <;>rfl) ((hJ _ _ _).2 ⟨Qu (by decide) (by decide) H.out.1 11 _ _ _ rfl (by rw [hV];rfl),H.out.2⟩)
   ·intro d v W hC hd hpre hJ1 K hK
    have H:=Qb ((hJ _ _ _).1 hJ1)
    clear hJ1
    have e0:v 55= .pointer (some ⟨xiq,0,none⟩):=H.out.1 0 _ _ _ rfl (by rw [hV];rfl) (Qh hpre 0)
    clear hpre hC hd
    simp only [Xq,C8,C9,e0]
    go_simp
    refine YD hK (by simp only [Xq,Act.put,D0,C8,C9,e0] <;>rfl) ((hJ _ _ _).2 ⟨Qu (by decide) (by decide) H.out.1 12 _ _ _ rfl (by rw [hV];rfl),H.out.2⟩)
   ·intro d v W hC hd hpre hJ1 K hK
    have H:=Qb ((hJ _ _ _).1 hJ1)
    clear hJ1
    have e12:v 67= .pointer (some ⟨xiq,0,none⟩):=H.out.1 12 _ _ _ rfl (by rw [hV];rfl) (Qh hpre 12)
    clear hpre hC hd
    simp only [Xq,C8,C9,e12]
    go_simp
    refine YD hK (by simp only [Xq,Act.put,D0,C8,C9,e12] <;>rfl) ((hJ _ _ _).2 ⟨Qu (by decide) (by decide) H.out.1 13 _ _ _ rfl (by rw [hV];rfl),H.out.2⟩)
   ·intro d v W hC hd hpre hJ1 K hK
    have H:=Qb ((hJ _ _ _).1 hJ1)
    clear hJ1
    have e13:v 68= .pointer (some ⟨xiq,0,none⟩):=H.out.1 13 _ _ _ rfl (by rw [hV];rfl) (Qh hpre 13)
    have e5:v 60= .int .i64 (j:Int):=H.out.1 5 _ _ _ rfl (by rw [hV];rfl) (Qh hpre 5)
    clear hpre hC hd
    have hji:((j:Nat):Int)<3:=by have:=hj3.out;omega
    simp only [Xq,C8,C9,e13,e5]
    go_simp
    refine YD hK (by simp only [Xq,Act.put,D0,C8,C9,e13,e5] <;>rfl) ((hJ _ _ _).2 ⟨Qu (by decide) (by decide) H.out.1 14 _ _ _ rfl (by rw [hV];rfl),H.out.2⟩)
  ·refine⟨_,rfl,fun v W hJ1 K hK=>?_⟩
   have H:=Qb ((hJ _ _ _).1 hJ1)
   clear hJ1
   have e0:v 55= .pointer (some ⟨xiq,0,none⟩):=H.out.1 0 _ _ _ rfl (by rw [hV];rfl) (by decide)
   have e1:v 56= .pointer (some ⟨bx,o,none⟩):=H.out.1 1 _ _ _ rfl (by rw [hV];rfl) (by decide)
   have e2:v 57= .pointer (some ⟨bx,o,none⟩):=H.out.1 2 _ _ _ rfl (by rw [hV];rfl) (by decide)
   have e3:v 58= .pointer (some ⟨bx,o,none⟩):=H.out.1 3 _ _ _ rfl (by rw [hV];rfl) (by decide)
   have e4:v 59= .int .i64 (x.given:Int):=H.out.1 4 _ _ _ rfl (by rw [hV];rfl) (by decide)
   have e5:v 60= .int .i64 (j:Int):=H.out.1 5 _ _ _ rfl (by rw [hV];rfl) (by decide)
   have e6:v 61= .pointer (some ⟨xiq,0,none⟩):=H.out.1 6 _ _ _ rfl (by rw [hV];rfl) (by decide)
   have e7:v 62= .pointer (some ⟨xiq,0,none⟩):=H.out.1 7 _ _ _ rfl (by rw [hV];rfl) (by decide)
   have e8:v 63= .pointer (some ⟨xiq,j,none⟩):=H.out.1 8 _ _ _ rfl (by rw [hV];rfl) (by decide)
   have e9:v 64= .int .i64 u:=H.out.1 9 _ _ _ rfl (by rw [hV];rfl) (by decide)
   have e10:v 65= .int .i64 z:=H.out.1 10 _ _ _ rfl (by rw [hV];rfl) (by decide)
   have e11:v 66= .int .i64 (bits .or .i64 u z):=H.out.1 11 _ _ _ rfl (by rw [hV];rfl) (by decide)
   have e12:v 67= .pointer (some ⟨xiq,0,none⟩):=H.out.1 12 _ _ _ rfl (by rw [hV];rfl) (by decide)
   have e13:v 68= .pointer (some ⟨xiq,0,none⟩):=H.out.1 13 _ _ _ rfl (by rw [hV];rfl) (by decide)
   have e14:v 69= .pointer (some ⟨xiq,j,none⟩):=H.out.1 14 _ _ _ rfl (by rw [hV];rfl) (by decide)
   have CHW:=H.out.2
   clear H hJ J hV
   simp only [Xq,C8,C9,e0,e1,e2,e3,e4,e5,e6,e7,e8,e9,e10,e11,e12,e13,e14]
   have fj:=(hbx.keep CHW).f
   have lj:=(hbx.keep CHW).lt
   have qjq:=(hbx.keep CHW).c j _ hcj
   go_simp
   refine hK.out _ _ ?_
   obtain⟨V,hV⟩:∃V,W.setCell ⟨xiq,j,none⟩ (.int .i64 (bits .or .i64 u z))=V:=⟨_,rfl⟩
   have IV:=HI.out V (by rw [<-hV];exact(hbx.keep CHW).set j _)
   have bV:ZU V bx (Qg9 s):=by rw [<-hV];exact(hb.keep CHW).far _ (by omega)
   have cV:Qc [xiq] w2 V:=by rw [<-hV];exact(CHW.mono (by simp)).setCell (.inl (by simp)) _
   rw [hV]
   clear hV HI fj lj
   have acV:=(cV.cell (p:=⟨g,off,none⟩) lg (by simp;omega)).trans ac
   go_wp2_with fail
   go_ret
   exact⟨true,rfl,by rw [hp];simp,by rw [hp];show ZU _ _ (Qg9 (s.set a.slot x));rw [hsame.out];exact bV,IV,(d2.mono (T:=[xiq,bx]) (by simp)).trans (cV.mono (by simp)) (fun _ h=>.inl h)⟩
 ·have HC:(((0:Int)<(x.given:Int))/\((QgF x.shape:Int)==0)=false)∨¬(0:Int)<(x.given:Int):=by
   unfold Qhq.bare at hbare
   by_cases h0:0<x.given
   ·have:QgF x.shape≠0:=fun h=>hbare ⟨h0,h⟩
    exact .inl ⟨by omega,by rw [beq_eq_false_iff_ne];omega⟩
   ·exact .inr (by omega)
  have HI:=Qb (fun(W:World) (hW:ZU W xiq [.int .i64 u0,.int .i64 u1,.int .i64 u2,.bool fl]) (hp:QhW a x≠none)=>(show Qf9 W xiq A F from⟨u0,u1,u2,fl,hW,j0,j1,j2qq,hf⟩).congr (A':=fun i n=>A i n∨(x.bare/\i+1=x.given/\n=z)) (F':=F∨QhW a x=none) (fun i n _=>⟨.inl,fun h=>h.elim id (fun h=>absurd h.1 hbare)⟩) ⟨.inl,fun h=>h.elim id (fun h=>absurd h hp)⟩)
  have HF:=Qb (fun(W:World) (hW:ZU W xiq [.int .i64 u0,.int .i64 u1,.int .i64 u2,.bool true]) (hp:QhW a x=none)=>(show Qf9 W xiq A True from⟨u0,u1,u2,true,hW,j0,j1,j2qq,by simp⟩).congr (A':=fun i n=>A i n∨(x.bare/\i+1=x.given/\n=z)) (F':=F∨QhW a x=none) (fun i n _=>⟨.inl,fun h=>h.elim id (fun h=>absurd h.1 hbare)⟩) ⟨fun _=>.inr hp,fun _=>trivial⟩)
  rcases HC with ⟨hg,hs0⟩|hg
  all_goals
   go_enter Tryz.func127,Tryz.ntmps127
   go_wp2_with fail
   refine(CN.out _).mono ?_
   rintro e w1 ⟨rfl,rfl⟩
   go_wp2_with fail
   refine(WO.out _).mono ?_
   rintro e w2 ⟨rfl,d2⟩
   have c0:=(d2.cell (p:=⟨bx,o,none⟩) lbx (by simp)).trans c0
   have c1:=(d2.cell (p:=⟨bx,o+1,none⟩) lbx (by simp)).trans c1
   have ac:=(d2.cell (p:=⟨g,off,none⟩) lg (by simp)).trans ac
   have aw:=(d2.cell (p:=⟨g,off+3,none⟩) lg (by simp)).trans aw
   have hbx:=hbx.keep d2
   have hb:=hb.keep d2
   have hE:=hE.keep d2 (by simp) hB
   have hB:=G5 hB d2.size
   have lbx:=hb.lt
   have lxi:=hbx.lt
   have lg:=F6 lg d2.size
   go_wp2_with fail
   refine(SF.out _ hE.env).mono ?_
   rintro e v3 ⟨rfl,d3⟩
   go_wp2_with fail
   refine(OF.out _).mono ?_
   rintro e V ⟨t,rfl,ht,rfl⟩
   have hb3:=hb.keep d3
   have hx3:=hbx.keep d3
   cases t
   ·have hno:¬ZL (Qa6 x.shape) z:=fun h=>by have:=ht.2 h;cases this
    clear ht
    have hp:QhW a x=none:=by unfold QhW;rw [if_neg (fun h=>by have:=h.1;have:=h.2;omega),if_neg (fun h=>h.elim hbare (fun h=>hno (by rw [<-hz];exact h)))]
    have q3:=hx3.c 3 _ rfl
    have f3:=hx3.f
    go_wp2_with fail
    go_ret
    exact⟨false,rfl,by rw [hp];simp,by rw [hp];show ZU _ _ (Qg9 (s.set a.slot x));rw [hsame.out];exact hb3.far _ (by omega),HF.out _ (hx3.set 3 _) hp,((d2.mono (T:=[xiq,bx]) (by simp)).trans ((d3.mono (by simp)).setCell (.inl (by simp)) _) (fun _ h=>.inl h))⟩
   ·have ho:=ht.1 rfl
    clear ht
    have hp:QhW a x=some x:=by unfold QhW;rw [if_neg (fun h=>by have:=h.1;have:=h.2;omega),if_pos (.inr (by rw [hz];exact ho)),if_neg (by omega)]
    have IV:=HI.out V hx3 (by rw [hp];simp)
    have bV:=hb3
    have cV:Qc [xiq] w2 V:=d3.mono (by simp)
    have acV:=(cV.cell (p:=⟨g,off,none⟩) lg (by simp;omega)).trans ac
    go_wp2_with fail
    go_ret
    exact⟨true,rfl,by rw [hp];simp,by rw [hp];show ZU _ _ (Qg9 (s.set a.slot x));rw [hsame.out];exact bV,IV,(d2.mono (T:=[xiq,bx]) (by simp)).trans (cV.mono (by simp)) (fun _ h=>.inl h)⟩
theorem Qik (SB:Nat->Prop) (B xiq bx g off:Nat) (a:Qa) (s:YY Qhq) (A:Nat->Int->Prop) (F:Prop) (w:World) (hop:a.op=2) (ha:ZG a) (hs:s.All Qhq.sm) (hE:YO B w) (hB:B<=w.heap.size) (hI:Qf9 w xiq A F) (hb:ZU w bx (Qg9 s)) (hA:QaV SB w g off a) (hsb:∀y,SB y->y<B) (hx:B<=xiq/\B<=bx/\xiq≠bx):
  Calls Tryz.prog 127 #[.pointer (some ⟨xiq,0,none⟩),.pointer (some ⟨g,off,none⟩),.pointer (some ⟨bx,a.slot.toNat * 2,none⟩)] w (Qib a s xiq bx A F w):=by
 have hslot:=((xJ hop).1 ha).1
 obtain⟨hc0,hc1⟩:=QhQ s hslot
 have c0:=hb.c _ _ hc0
 have c1:=hb.c _ _ hc1
 have sm:=(hs.get a.slot).le
 have hset:=fun sh=>QhR s hslot sh
 have hsame:=YY.set_get s a.slot
 have hss:=hs.get a.slot
 unfold Qib
 obtain⟨x,hxx⟩:∃x,s.get a.slot=x:=⟨_,rfl⟩
 rw [hxx] at c0 c1 sm hset hsame hss ⊢
 obtain⟨o,ho⟩:∃o,a.slot.toNat * 2=o:=⟨_,rfl⟩
 rw [ho] at c0 c1 hset ⊢
 have hset:=Qb hset
 have hsame:=Qb hsame
 clear hc0 hc1 hxx ho hs
 obtain⟨uA,uB,hSB,lg,cs,_,_⟩:=hA
 have gB:=hsb g hSB
 have ac:=cs.1
 have aw:=cs.2.2.2.1
 have am:=cs.2.2.2.2.1
 have af:=cs.2.2.2.2.2.2.2.2.1
 rw [hop] at ac
 clear cs hsb
 obtain⟨u0,u1,u2,fl,hbx,j0,j1,j2qq,hf⟩:=hI
 have CN:=Qb (fun W=>Tryz.strings_Count_one x.shape 32 W)
 rw [Qhx] at CN
 have lbx:=hb.lt
 have lxi:=hbx.lt
 have hzF:ql (KV a):=Qfs ha (by omega)
 obtain⟨z,hz⟩:∃z,KV a=z:=⟨_,rfl⟩
 rw [hz] at hzF ⊢
 have e0:((Qj a.word).map (·.1)).getD 0=z:=by rw [<-hz];unfold KV;rw [if_neg (by omega),if_neg (by omega)];cases Qj a.word<;>rfl
 have LN:=Qb (fun W=>QhE a.word W)
 unfold WU at LN
 rw [e0] at LN
 have hlay:=((xJ hop).1 ha).2.1
 have hwl:=QhA (.inr hlay)
 have cat1:=Qb (fun W=>Qil (P:=Tryz.prog) (a:=⟨#[32]⟩) (b:=a.word) (x:=xG++a.word) rfl (by show 1+_<=_;omega) W)
 have cat2:=Qb (fun W=>Qil (P:=Tryz.prog) (a:=x.shape) (b:=xG++a.word) rfl (by rw [M3];show _+(1+_)<=_;omega) W)
 have SF:=Qb (fun W (h:KP W)=>Qh0 x.shape W h (by omega))
 have OF:=Qb (fun W=>Xp (Qa6 x.shape) z W)
 by_cases h3:3<=QgF x.shape
 ·have hp:QhW a x=some x:=by unfold QhW;rw [if_pos ⟨hop,h3⟩]
  have hnb:¬x.bare:=fun h=>by have:=h.2;omega
  have s3:(3:Int)<=(QgF x.shape:Int):=by omega
  have s0:((QgF x.shape:Int)==0)=false:=by rw [beq_eq_false_iff_ne];omega
  go_enter Tryz.func127,Tryz.ntmps127
  go_wp2_with fail
  refine(CN.out _).mono ?_
  rintro e w1 ⟨rfl,rfl⟩
  go_wp2_with fail
  all_goals
   go_ret
   exact⟨true,rfl,by rw [hp];simp,by rw [hp];show ZU _ _ (Qg9 (s.set a.slot x));rw [hsame.out];exact hb,(show Qf9 _ xiq A F from⟨u0,u1,u2,fl,hbx,j0,j1,j2qq,hf⟩).congr (fun i n _=>⟨.inl,fun h=>h.elim id (fun h=>absurd h.1 hnb)⟩) ⟨.inl,fun h=>h.elim id (fun h=>by rw [hp] at h;cases h)⟩,B0 _ _⟩
 have h3i:¬(3:Int)<=(QgF x.shape:Int):=by omega
 by_cases hbare:x.bare
 ·have hg:(0:Int)<(x.given:Int):=by have:=hbare.1;omega
  have hs0:QgF x.shape=0:=hbare.2
  rw [hs0] at CN
  have hp:QhW a x=some (x.wrap a.word):=by unfold QhW;rw [if_neg (fun h=>by have:=h.1;have:=h.2;omega),if_pos (.inl hbare),if_pos hop]
  obtain⟨j,hj⟩:∃j,x.given=j+1:=⟨x.given-1,by have:=hbare.1;omega⟩
  have hj3:=Qb (show j<3 by omega)
  have wj:=Qb (show IntKind.i64.wrap ((x.given:Int) -1)=(j:Int) by rw [Zd (by omega) (by omega)];omega)
  obtain⟨u,hcj,juq⟩:∃u,([.int .i64 u0,.int .i64 u1,.int .i64 u2,.bool fl]:List Value)[j]?=some (.int .i64 u)/\Qgm A j u:=by
   have:=hj3.out
   rcases(show j=0∨j=1∨j=2 by omega) with rfl|rfl|rfl
   ·exact⟨u0,rfl,j0⟩
   ·exact⟨u1,rfl,j1⟩
   ·exact⟨u2,rfl,j2qq⟩
  have cj:=hbx.c j _ hcj
  have HI:=Qb (fun(W:World) (hW:ZU W xiq (([.int .i64 u0,.int .i64 u1,.int .i64 u2,.bool fl]:List Value).set j (.int .i64 (bits .or .i64 u z))))=>QhZ (F:=F∨QhW a x=none) j0 j1 j2qq (by rw [hp];exact hf.trans ⟨.inl,fun h=>h.elim id (fun h=>by cases h)⟩) hj3.out hcj hzF hbare hj hW)
  clear hj
  go_enter Tryz.func127,Tryz.ntmps127
  go_wp2_with fail
  refine(CN.out _).mono ?_
  rintro e w1 ⟨rfl,rfl⟩
  go_wp2_with fail
  refine(LN.out _).mono ?_
  rintro e w2 ⟨rfl,d2⟩
  have c0:=(d2.cell (p:=⟨bx,o,none⟩) lbx (by simp)).trans c0
  have c1:=(d2.cell (p:=⟨bx,o+1,none⟩) lbx (by simp)).trans c1
  have ac:=(d2.cell (p:=⟨g,off,none⟩) lg (by simp)).trans ac
  have aw:=(d2.cell (p:=⟨g,off+3,none⟩) lg (by simp)).trans aw
  have hbx:=hbx.keep d2
  have hb:=hb.keep d2
  have hE:=hE.keep d2 (by simp) hB
  have hB:=G5 hB d2.size
  have lbx:=hb.lt
  have lxi:=hbx.lt
  have lg:=F6 lg d2.size
  have cj:=hbx.c j _ hcj
  go_upto_region 14 with fail
  obtain⟨VL,hV⟩:∃VL:List Value,VL=[.pointer (some ⟨xiq,0,none⟩),.pointer (some ⟨bx,o,none⟩),.pointer (some ⟨bx,o,none⟩),.pointer (some ⟨bx,o,none⟩),.int .i64 (x.given:Int),.int .i64 (j:Int),.pointer (some ⟨xiq,0,none⟩),.pointer (some ⟨xiq,0,none⟩),.pointer (some ⟨xiq,j,none⟩),.int .i64 u,.int .i64 z,.int .i64 (bits .or .i64 u z),.pointer (some ⟨xiq,0,none⟩),.pointer (some ⟨xiq,0,none⟩),.pointer (some ⟨xiq,j,none⟩)]:=⟨_,rfl⟩
  obtain⟨J,hJ⟩:∃J:(Nat->Bool)->(Nat->Value)->World->Prop,∀d v W,J d v W↔(JG [(0,55),(1,56),(2,57),(3,58),(4,59),(5,60),(6,61),(7,62),(8,63),(9,64),(10,65),(11,66),(12,67),(13,68),(14,69)] VL d v/\Qc [] w2 W):=⟨_,fun _ _ _=>i7⟩
  refine Ze (b:=⟨#[],[]⟩) 15 [55,56,57,58,59,60,61,62,63,64,65,66,67,68,69] J (by kernel_rfl) (XN _ _) (by kernel_rfl) (by kernel_rfl) (by kernel_rfl) ?_ ?_ ?_
  ·exact(hJ _ _ _).2 ⟨UO (by decide),C6⟩
  ·refine⟨.inr ?_,.inr ?_,.inr ?_,.inr ?_,.inr ?_,.inr ?_,.inr ?_,.inr ?_,.inr ?_,.inr ?_,.inr ?_,.inr ?_,.inr ?_,.inr ?_,.inr ?_,.inl rfl,trivial⟩
   ·intro d v W hC hd hpre hJ1 K hK
    have H:=Qb ((hJ _ _ _).1 hJ1)
    clear hJ1
    clear hpre hC hd
    simp only [Xq,C8,C9]
    go_simp
    refine YD hK (by simp only [Xq,Act.put,D0,C8,C9] <;>rfl) ((hJ _ _ _).2 ⟨Qu (by decide) (by decide) H.out.1 0 _ _ _ rfl (by rw [hV];rfl),H.out.2⟩)
   ·intro d v W hC hd hpre hJ1 K hK
    have H:=Qb ((hJ _ _ _).1 hJ1)
    clear hJ1
    clear hpre hC hd
    simp only [Xq,C8,C9]
    go_simp
    refine YD hK (by simp only [Xq,Act.put,D0,C8,C9] <;>rfl) ((hJ _ _ _).2 ⟨Qu (by decide) (by decide) H.out.1 1 _ _ _ rfl (by rw [hV];rfl),H.out.2⟩)
   ·intro d v W hC hd hpre hJ1 K hK
    have H:=Qb ((hJ _ _ _).1 hJ1)
    clear hJ1
    have e1:v 56= .pointer (some ⟨bx,o,none⟩):=H.out.1 1 _ _ _ rfl (by rw [hV];rfl) (Qh hpre 1)
    clear hpre hC hd
    simp only [Xq,C8,C9,e1]
    go_simp
    refine YD hK (by simp only [Xq,Act.put,D0,C8,C9,e1] <;>rfl) ((hJ _ _ _).2 ⟨Qu (by decide) (by decide) H.out.1 2 _ _ _ rfl (by rw [hV];rfl),H.out.2⟩)
   ·intro d v W hC hd hpre hJ1 K hK
    have H:=Qb ((hJ _ _ _).1 hJ1)
    clear hJ1
    have e2:v 57= .pointer (some ⟨bx,o,none⟩):=H.out.1 2 _ _ _ rfl (by rw [hV];rfl) (Qh hpre 2)
    clear hpre hC hd
    simp only [Xq,C8,C9,e2]
    go_simp
    refine YD hK (by simp only [Xq,Act.put,D0,C8,C9,e2] <;>rfl) ((hJ _ _ _).2 ⟨Qu (by decide) (by decide) H.out.1 3 _ _ _ rfl (by rw [hV];rfl),H.out.2⟩)
   ·intro d v W hC hd hpre hJ1 K hK
    have H:=Qb ((hJ _ _ _).1 hJ1)
    clear hJ1
    have e3:v 58= .pointer (some ⟨bx,o,none⟩):=H.out.1 3 _ _ _ rfl (by rw [hV];rfl) (Qh hpre 3)
    clear hpre hC hd
    have q0:=(H.out.2.cell (p:=⟨bx,o,none⟩) lbx (by simp)).trans c0
    simp only [Xq,C8,C9,e3]
    go_simp
    refine YD hK (by simp only [Xq,Act.put,D0,C8,C9,e3] <;>rfl) ((hJ _ _ _).2 ⟨Qu (by decide) (by decide) H.out.1 4 _ _ _ rfl (by rw [hV];rfl),H.out.2⟩)
   ·intro d v W hC hd hpre hJ1 K hK
    have H:=Qb ((hJ _ _ _).1 hJ1)
    clear hJ1
    have e4:v 59= .int .i64 (x.given:Int):=H.out.1 4 _ _ _ rfl (by rw [hV];rfl) (Qh hpre 4)
    clear hpre hC hd
    have wj:=wj.out
    simp only [Xq,C8,C9,e4]
    go_simp
    refine YD hK (by simp only [Xq,Act.put,D0,C8,C9,e4] <;>rfl) ((hJ _ _ _).2 ⟨Qu (by decide) (by decide) H.out.1 5 _ _ _ rfl (by rw [hV];rfl),H.out.2⟩)
   ·intro d v W hC hd hpre hJ1 K hK
    have H:=Qb ((hJ _ _ _).1 hJ1)
    clear hJ1
    have e0:v 55= .pointer (some ⟨xiq,0,none⟩):=H.out.1 0 _ _ _ rfl (by rw [hV];rfl) (Qh hpre 0)
    clear hpre hC hd
    simp only [Xq,C8,C9,e0]
    go_simp
    refine YD hK (by simp only [Xq,Act.put,D0,C8,C9,e0] <;>rfl) ((hJ _ _ _).2 ⟨Qu (by decide) (by decide) H.out.1 6 _ _ _ rfl (by rw [hV];rfl),H.out.2⟩)
   ·intro d v W hC hd hpre hJ1 K hK
    have H:=Qb ((hJ _ _ _).1 hJ1)
    clear hJ1
    have e6:v 61= .pointer (some ⟨xiq,0,none⟩):=H.out.1 6 _ _ _ rfl (by rw [hV];rfl) (Qh hpre 6)
    clear hpre hC hd
    simp only [Xq,C8,C9,e6]
    go_simp
    refine YD hK (by simp only [Xq,Act.put,D0,C8,C9,e6] <;>rfl) ((hJ _ _ _).2 ⟨Qu (by decide) (by decide) H.out.1 7 _ _ _ rfl (by rw [hV];rfl),H.out.2⟩)
   ·intro d v W hC hd hpre hJ1 K hK
    have H:=Qb ((hJ _ _ _).1 hJ1)
    clear hJ1
    have e7:v 62= .pointer (some ⟨xiq,0,none⟩):=H.out.1 7 _ _ _ rfl (by rw [hV];rfl) (Qh hpre 7)
    have e5:v 60= .int .i64 (j:Int):=H.out.1 5 _ _ _ rfl (by rw [hV];rfl) (Qh hpre 5)
    clear hpre hC hd
    have hji:((j:Nat):Int)<3:=by have:=hj3.out;omega
    simp only [Xq,C8,C9,e7,e5]
    go_simp
    refine YD hK (by simp only [Xq,Act.put,D0,C8,C9,e7,e5] <;>rfl) ((hJ _ _ _).2 ⟨Qu (by decide) (by decide) H.out.1 8 _ _ _ rfl (by rw [hV];rfl),H.out.2⟩)
   ·intro d v W hC hd hpre hJ1 K hK
    have H:=Qb ((hJ _ _ _).1 hJ1)
    clear hJ1
    have e8:v 63= .pointer (some ⟨xiq,j,none⟩):=H.out.1 8 _ _ _ rfl (by rw [hV];rfl) (Qh hpre 8)
    clear hpre hC hd
    have q1:=(H.out.2.cell (p:=⟨xiq,j,none⟩) lxi (by simp)).trans cj
    simp only [Xq,C8,C9,e8]
    go_simp
    refine YD hK (by simp only [Xq,Act.put,D0,C8,C9,e8] <;>rfl) ((hJ _ _ _).2 ⟨Qu (by decide) (by decide) H.out.1 9 _ _ _ rfl (by rw [hV];rfl),H.out.2⟩)
   ·intro d v W hC hd hpre hJ1 K hK
    have H:=Qb ((hJ _ _ _).1 hJ1)
    clear hJ1
    clear hpre hC hd
    simp only [Xq,C8,C9]
    go_simp
    refine YD hK (by simp only [Xq,Act.put,D0,C8,C9] <;>rfl) ((hJ _ _ _).2 ⟨Qu (by decide) (by decide) H.out.1 10 _ _ _ rfl (by rw [hV];rfl),H.out.2⟩)
   ·intro d v W hC hd hpre hJ1 K hK
    have H:=Qb ((hJ _ _ _).1 hJ1)
    clear hJ1
    have e9:v 64= .int .i64 u:=H.out.1 9 _ _ _ rfl (by rw [hV];rfl) (Qh hpre 9)
    have e10:v 65= .int .i64 z:=H.out.1 10 _ _ _ rfl (by rw [hV];rfl) (Qh hpre 10)
    clear hpre hC hd
    simp only [Xq,C8,C9,e9,e10]
    go_simp
    refine YD hK (by simp only [Xq,Act.put,D0,C8,C9,e9,e10] <;>rfl) ((hJ _ _ _).2 ⟨Qu (by decide) (by decide) H.out.1 11 _ _ _ rfl (by rw [hV];rfl),H.out.2⟩)
   ·intro d v W hC hd hpre hJ1 K hK
    have H:=Qb ((hJ _ _ _).1 hJ1)
    clear hJ1
    have e0:v 55= .pointer (some ⟨xiq,0,none⟩):=H.out.1 0 _ _ _ rfl (by rw [hV];rfl) (Qh hpre 0)
    clear hpre hC hd
    simp only [Xq,C8,C9,e0]
    go_simp
    refine YD hK (by simp only [Xq,Act.put,D0,C8,C9,e0] <;>rfl) ((hJ _ _ _).2 ⟨Qu (by decide) (by decide) H.out.1 12 _ _ _ rfl (by rw [hV];rfl),H.out.2⟩)
   ·intro d v W hC hd hpre hJ1 K hK
    have H:=Qb ((hJ _ _ _).1 hJ1)
    clear hJ1
    have e12:v 67= .pointer (some ⟨xiq,0,none⟩):=H.out.1 12 _ _ _ rfl (by rw [hV];rfl) (Qh hpre 12)
    clear hpre hC hd
    simp only [Xq,C8,C9,e12]
    go_simp
    refine YD hK (by simp only [Xq,Act.put,D0,C8,C9,e12] <;>rfl) ((hJ _ _ _).2 ⟨Qu (by decide) (by decide) H.out.1 13 _ _ _ rfl (by rw [hV];rfl),H.out.2⟩)
   ·intro d v W hC hd hpre hJ1 K hK
    have H:=Qb ((hJ _ _ _).1 hJ1)
    clear hJ1
    have e13:v 68= .pointer (some ⟨xiq,0,none⟩):=H.out.1 13 _ _ _ rfl (by rw [hV];rfl) (Qh hpre 13)
    have e5:v 60= .int .i64 (j:Int):=H.out.1 5 _ _ _ rfl (by rw [hV];rfl) (Qh hpre 5)
    clear hpre hC hd
    have hji:((j:Nat):Int)<3:=by have:=hj3.out;omega
    simp only [Xq,C8,C9,e13,e5]
    go_simp
    refine YD hK (by simp only [Xq,Act.put,D0,C8,C9,e13,e5] <;>rfl) ((hJ _ _ _).2 ⟨Qu (by decide) (by decide) H.out.1 14 _ _ _ rfl (by rw [hV];rfl),H.out.2⟩)
  ·refine⟨_,rfl,fun v W hJ1 K hK=>?_⟩
   have H:=Qb ((hJ _ _ _).1 hJ1)
   clear hJ1
   have e0:v 55= .pointer (some ⟨xiq,0,none⟩):=H.out.1 0 _ _ _ rfl (by rw [hV];rfl) (by decide)
   have e1:v 56= .pointer (some ⟨bx,o,none⟩):=H.out.1 1 _ _ _ rfl (by rw [hV];rfl) (by decide)
   have e2:v 57= .pointer (some ⟨bx,o,none⟩):=H.out.1 2 _ _ _ rfl (by rw [hV];rfl) (by decide)
   have e3:v 58= .pointer (some ⟨bx,o,none⟩):=H.out.1 3 _ _ _ rfl (by rw [hV];rfl) (by decide)
   have e4:v 59= .int .i64 (x.given:Int):=H.out.1 4 _ _ _ rfl (by rw [hV];rfl) (by decide)
   have e5:v 60= .int .i64 (j:Int):=H.out.1 5 _ _ _ rfl (by rw [hV];rfl) (by decide)
   have e6:v 61= .pointer (some ⟨xiq,0,none⟩):=H.out.1 6 _ _ _ rfl (by rw [hV];rfl) (by decide)
   have e7:v 62= .pointer (some ⟨xiq,0,none⟩):=H.out.1 7 _ _ _ rfl (by rw [hV];rfl) (by decide)
   have e8:v 63= .pointer (some ⟨xiq,j,none⟩):=H.out.1 8 _ _ _ rfl (by rw [hV];rfl) (by decide)
   have e9:v 64= .int .i64 u:=H.out.1 9 _ _ _ rfl (by rw [hV];rfl) (by decide)
   have e10:v 65= .int .i64 z:=H.out.1 10 _ _ _ rfl (by rw [hV];rfl) (by decide)
   have e11:v 66= .int .i64 (bits .or .i64 u z):=H.out.1 11 _ _ _ rfl (by rw [hV];rfl) (by decide)
   have e12:v 67= .pointer (some ⟨xiq,0,none⟩):=H.out.1 12 _ _ _ rfl (by rw [hV];rfl) (by decide)
   have e13:v 68= .pointer (some ⟨xiq,0,none⟩):=H.out.1 13 _ _ _ rfl (by rw [hV];rfl) (by decide)
   have e14:v 69= .pointer (some ⟨xiq,j,none⟩):=H.out.1 14 _ _ _ rfl (by rw [hV];rfl) (by decide)
   have CHW:=H.out.2
   clear H hJ J hV
   simp only [Xq,C8,C9,e0,e1,e2,e3,e4,e5,e6,e7,e8,e9,e10,e11,e12,e13,e14]
   have fj:=(hbx.keep CHW).f
   have lj:=(hbx.keep CHW).lt
   have qjq:=(hbx.keep CHW).c j _ hcj
   go_simp
   refine hK.out _ _ ?_
   obtain⟨V,hV⟩:∃V,W.setCell ⟨xiq,j,none⟩ (.int .i64 (bits .or .i64 u z))=V:=⟨_,rfl⟩
   have IV:=HI.out V (by rw [<-hV];exact(hbx.keep CHW).set j _)
   have bV:ZU V bx (Qg9 s):=by rw [<-hV];exact(hb.keep CHW).far _ (by omega)
   have cV:Qc [xiq] w2 V:=by rw [<-hV];exact(CHW.mono (by simp)).setCell (.inl (by simp)) _
   rw [hV]
   clear hV HI fj lj
   have acV:=(cV.cell (p:=⟨g,off,none⟩) lg (by simp;omega)).trans ac
   have awV:=(cV.cell (p:=⟨g,off+3,none⟩) lg (by simp;omega)).trans aw
   have c1V:=(cV.cell (p:=⟨bx,o+1,none⟩) lbx (by simp;omega)).trans c1
   have lbV:=bV.lt
   have lgV:=F6 lg cV.size
   go_upto_region 19 with fail
   obtain⟨VL,hV⟩:∃VL:List Value,VL=[.pointer (some ⟨bx,o,none⟩),.pointer (some ⟨bx,o,none⟩),.pointer (some ⟨bx,o+1,none⟩),.string x.shape,.pointer (some ⟨g,off,none⟩),.pointer (some ⟨g,off,none⟩),.pointer (some ⟨g,off+3,none⟩),.string a.word,.string (xG++a.word),.string (x.shape++(xG++a.word)),.pointer (some ⟨bx,o,none⟩),.pointer (some ⟨bx,o+1,none⟩)]:=⟨_,rfl⟩
   obtain⟨J,hJ⟩:∃J:(Nat->Bool)->(Nat->Value)->World->Prop,∀d v W,J d v W↔(JG [(0,86),(1,87),(2,88),(3,89),(4,90),(5,91),(6,92),(7,93),(8,94),(9,95),(10,96),(11,97)] VL d v/\Qc [] V W):=⟨_,fun _ _ _=>i7⟩
   refine Ze (b:=⟨#[],[]⟩) 12 [86,87,88,89,90,91,92,93,94,95,96,97] J (by kernel_rfl) (XN _ _) (by kernel_rfl) (by kernel_rfl) (by kernel_rfl) ?_ ?_ ?_
   ·exact(hJ _ _ _).2 ⟨UO (by decide),C6⟩
   ·refine⟨.inr ?_,.inr ?_,.inr ?_,.inr ?_,.inr ?_,.inr ?_,.inr ?_,.inr ?_,.inr ?_,.inr ?_,.inr ?_,.inr ?_,.inl rfl,trivial⟩
    ·intro d v W hC hd hpre hJ1 K hK
     have H:=Qb ((hJ _ _ _).1 hJ1)
     clear hJ1
     clear hpre hC hd
     simp only [Xq,C8,C9]
     go_simp
     refine YD hK (by simp only [Xq,Act.put,D0,C8,C9] <;>rfl) ((hJ _ _ _).2 ⟨Qu (by decide) (by decide) H.out.1 0 _ _ _ rfl (by rw [hV];rfl),H.out.2⟩)
    ·intro d v W hC hd hpre hJ1 K hK
     have H:=Qb ((hJ _ _ _).1 hJ1)
     clear hJ1
     have e0:v 86= .pointer (some ⟨bx,o,none⟩):=H.out.1 0 _ _ _ rfl (by rw [hV];rfl) (Qh hpre 0)
     clear hpre hC hd
     simp only [Xq,C8,C9,e0]
     go_simp
     refine YD hK (by simp only [Xq,Act.put,D0,C8,C9,e0] <;>rfl) ((hJ _ _ _).2 ⟨Qu (by decide) (by decide) H.out.1 1 _ _ _ rfl (by rw [hV];rfl),H.out.2⟩)
    ·intro d v W hC hd hpre hJ1 K hK
     have H:=Qb ((hJ _ _ _).1 hJ1)
     clear hJ1
     have e1:v 87= .pointer (some ⟨bx,o,none⟩):=H.out.1 1 _ _ _ rfl (by rw [hV];rfl) (Qh hpre 1)
     clear hpre hC hd
     simp only [Xq,C8,C9,e1]
     go_simp
     refine YD hK (by simp only [Xq,Act.put,D0,C8,C9,e1] <;>rfl) ((hJ _ _ _).2 ⟨Qu (by decide) (by decide) H.out.1 2 _ _ _ rfl (by rw [hV];rfl),H.out.2⟩)
    ·intro d v W hC hd hpre hJ1 K hK
     have H:=Qb ((hJ _ _ _).1 hJ1)
     clear hJ1
     have e2:v 88= .pointer (some ⟨bx,o+1,none⟩):=H.out.1 2 _ _ _ rfl (by rw [hV];rfl) (Qh hpre 2)
     clear hpre hC hd
     have q0:=(H.out.2.cell (p:=⟨bx,o+1,none⟩) lbV (by simp)).trans c1V
     simp only [Xq,C8,C9,e2]
     go_simp
     refine YD hK (by simp only [Xq,Act.put,D0,C8,C9,e2] <;>rfl) ((hJ _ _ _).2 ⟨Qu (by decide) (by decide) H.out.1 3 _ _ _ rfl (by rw [hV];rfl),H.out.2⟩)
    ·intro d v W hC hd hpre hJ1 K hK
     have H:=Qb ((hJ _ _ _).1 hJ1)
     clear hJ1
     clear hpre hC hd
     simp only [Xq,C8,C9]
     go_simp
     refine YD hK (by simp only [Xq,Act.put,D0,C8,C9] <;>rfl) ((hJ _ _ _).2 ⟨Qu (by decide) (by decide) H.out.1 4 _ _ _ rfl (by rw [hV];rfl),H.out.2⟩)
    ·intro d v W hC hd hpre hJ1 K hK
     have H:=Qb ((hJ _ _ _).1 hJ1)
     clear hJ1
     have e4:v 90= .pointer (some ⟨g,off,none⟩):=H.out.1 4 _ _ _ rfl (by rw [hV];rfl) (Qh hpre 4)
     clear hpre hC hd
     simp only [Xq,C8,C9,e4]
     go_simp
     refine YD hK (by simp only [Xq,Act.put,D0,C8,C9,e4] <;>rfl) ((hJ _ _ _).2 ⟨Qu (by decide) (by decide) H.out.1 5 _ _ _ rfl (by rw [hV];rfl),H.out.2⟩)
    ·intro d v W hC hd hpre hJ1 K hK
     have H:=Qb ((hJ _ _ _).1 hJ1)
     clear hJ1
     have e5:v 91= .pointer (some ⟨g,off,none⟩):=H.out.1 5 _ _ _ rfl (by rw [hV];rfl) (Qh hpre 5)
     clear hpre hC hd
     simp only [Xq,C8,C9,e5]
     go_simp
     refine YD hK (by simp only [Xq,Act.put,D0,C8,C9,e5] <;>rfl) ((hJ _ _ _).2 ⟨Qu (by decide) (by decide) H.out.1 6 _ _ _ rfl (by rw [hV];rfl),H.out.2⟩)
    ·intro d v W hC hd hpre hJ1 K hK
     have H:=Qb ((hJ _ _ _).1 hJ1)
     clear hJ1
     have e6:v 92= .pointer (some ⟨g,off+3,none⟩):=H.out.1 6 _ _ _ rfl (by rw [hV];rfl) (Qh hpre 6)
     clear hpre hC hd
     have q1:=(H.out.2.cell (p:=⟨g,off+3,none⟩) lgV (by simp)).trans awV
     simp only [Xq,C8,C9,e6]
     go_simp
     refine YD hK (by simp only [Xq,Act.put,D0,C8,C9,e6] <;>rfl) ((hJ _ _ _).2 ⟨Qu (by decide) (by decide) H.out.1 7 _ _ _ rfl (by rw [hV];rfl),H.out.2⟩)
    ·intro d v W hC hd hpre hJ1 K hK
     have H:=Qb ((hJ _ _ _).1 hJ1)
     clear hJ1
     have e7:v 93= .string a.word:=H.out.1 7 _ _ _ rfl (by rw [hV];rfl) (Qh hpre 7)
     clear hpre hC hd
     have k1:=cat1.out
     simp only [Xq,C8,C9,e7]
     go_simp
     refine YD hK (by simp only [Xq,Act.put,D0,C8,C9,e7] <;>rfl) ((hJ _ _ _).2 ⟨Qu (by decide) (by decide) H.out.1 8 _ _ _ rfl (by rw [hV];rfl),H.out.2⟩)
    ·intro d v W hC hd hpre hJ1 K hK
     have H:=Qb ((hJ _ _ _).1 hJ1)
     clear hJ1
     have e3:v 89= .string x.shape:=H.out.1 3 _ _ _ rfl (by rw [hV];rfl) (Qh hpre 3)
     have e8:v 94= .string (xG++a.word):=H.out.1 8 _ _ _ rfl (by rw [hV];rfl) (Qh hpre 8)
     clear hpre hC hd
     have k2:=cat2.out
     simp only [Xq,C8,C9,e3,e8]
     go_simp
     refine YD hK (by simp only [Xq,Act.put,D0,C8,C9,e3,e8] <;>rfl) ((hJ _ _ _).2 ⟨Qu (by decide) (by decide) H.out.1 9 _ _ _ rfl (by rw [hV];rfl),H.out.2⟩)
    ·intro d v W hC hd hpre hJ1 K hK
     have H:=Qb ((hJ _ _ _).1 hJ1)
     clear hJ1
     have e0:v 86= .pointer (some ⟨bx,o,none⟩):=H.out.1 0 _ _ _ rfl (by rw [hV];rfl) (Qh hpre 0)
     clear hpre hC hd
     simp only [Xq,C8,C9,e0]
     go_simp
     refine YD hK (by simp only [Xq,Act.put,D0,C8,C9,e0] <;>rfl) ((hJ _ _ _).2 ⟨Qu (by decide) (by decide) H.out.1 10 _ _ _ rfl (by rw [hV];rfl),H.out.2⟩)
    ·intro d v W hC hd hpre hJ1 K hK
     have H:=Qb ((hJ _ _ _).1 hJ1)
     clear hJ1
     have e10:v 96= .pointer (some ⟨bx,o,none⟩):=H.out.1 10 _ _ _ rfl (by rw [hV];rfl) (Qh hpre 10)
     clear hpre hC hd
     simp only [Xq,C8,C9,e10]
     go_simp
     refine YD hK (by simp only [Xq,Act.put,D0,C8,C9,e10] <;>rfl) ((hJ _ _ _).2 ⟨Qu (by decide) (by decide) H.out.1 11 _ _ _ rfl (by rw [hV];rfl),H.out.2⟩)
   ·refine⟨_,rfl,fun v W hJ1 K hK=>?_⟩
    have H:=Qb ((hJ _ _ _).1 hJ1)
    clear hJ1
    have e0:v 86= .pointer (some ⟨bx,o,none⟩):=H.out.1 0 _ _ _ rfl (by rw [hV];rfl) (by decide)
    have e1:v 87= .pointer (some ⟨bx,o,none⟩):=H.out.1 1 _ _ _ rfl (by rw [hV];rfl) (by decide)
    have e2:v 88= .pointer (some ⟨bx,o+1,none⟩):=H.out.1 2 _ _ _ rfl (by rw [hV];rfl) (by decide)
    have e3:v 89= .string x.shape:=H.out.1 3 _ _ _ rfl (by rw [hV];rfl) (by decide)
    have e4:v 90= .pointer (some ⟨g,off,none⟩):=H.out.1 4 _ _ _ rfl (by rw [hV];rfl) (by decide)
    have e5:v 91= .pointer (some ⟨g,off,none⟩):=H.out.1 5 _ _ _ rfl (by rw [hV];rfl) (by decide)
    have e6:v 92= .pointer (some ⟨g,off+3,none⟩):=H.out.1 6 _ _ _ rfl (by rw [hV];rfl) (by decide)
    have e7:v 93= .string a.word:=H.out.1 7 _ _ _ rfl (by rw [hV];rfl) (by decide)
    have e8:v 94= .string (xG++a.word):=H.out.1 8 _ _ _ rfl (by rw [hV];rfl) (by decide)
    have e9:v 95= .string (x.shape++(xG++a.word)):=H.out.1 9 _ _ _ rfl (by rw [hV];rfl) (by decide)
    have e10:v 96= .pointer (some ⟨bx,o,none⟩):=H.out.1 10 _ _ _ rfl (by rw [hV];rfl) (by decide)
    have e11:v 97= .pointer (some ⟨bx,o+1,none⟩):=H.out.1 11 _ _ _ rfl (by rw [hV];rfl) (by decide)
    have CHW:=H.out.2
    clear H hJ J hV
    simp only [Xq,C8,C9,e0,e1,e2,e3,e4,e5,e6,e7,e8,e9,e10,e11]
    have fj:=(bV.keep CHW).f
    have lj:=(bV.keep CHW).lt
    have qjq:=(CHW.cell (p:=⟨bx,o+1,none⟩) lbV (by simp)).trans c1V
    go_simp
    refine hK.out _ _ ?_
    have b9:=(bV.keep CHW).set (o+1) (.string (x.shape++(xG++a.word)))
    rw [hset.out] at b9
    have c8:Qc [bx] W (W.setCell ⟨bx,o+1,none⟩ (.string (x.shape++(xG++a.word)))):=(B0 _ _).setCell (.inl (by simp)) _
    have I9qq:=(IV.keep CHW).keep c8 (by simp;omega)
    have c9:Qc [xiq,bx] _ _:=((cV.trans CHW (fun _ h=>by cases h)).mono (T:=[xiq,bx]) (by simp)).trans c8 (fun y h=>.inl (by rw [E0.1 h];simp))
    go_wp2_with fail
    go_ret
    exact⟨true,rfl,by rw [hp];simp,by rw [hp];exact b9,I9qq,(d2.mono (T:=[xiq,bx]) (by simp)).trans c9 (fun _ h=>.inl h)⟩
 ·have HC:(((0:Int)<(x.given:Int))/\((QgF x.shape:Int)==0)=false)∨¬(0:Int)<(x.given:Int):=by
   unfold Qhq.bare at hbare
   by_cases h0:0<x.given
   ·have:QgF x.shape≠0:=fun h=>hbare ⟨h0,h⟩
    exact .inl ⟨by omega,by rw [beq_eq_false_iff_ne];omega⟩
   ·exact .inr (by omega)
  have HI:=Qb (fun(W:World) (hW:ZU W xiq [.int .i64 u0,.int .i64 u1,.int .i64 u2,.bool fl]) (hp:QhW a x≠none)=>(show Qf9 W xiq A F from⟨u0,u1,u2,fl,hW,j0,j1,j2qq,hf⟩).congr (A':=fun i n=>A i n∨(x.bare/\i+1=x.given/\n=z)) (F':=F∨QhW a x=none) (fun i n _=>⟨.inl,fun h=>h.elim id (fun h=>absurd h.1 hbare)⟩) ⟨.inl,fun h=>h.elim id (fun h=>absurd h hp)⟩)
  have HF:=Qb (fun(W:World) (hW:ZU W xiq [.int .i64 u0,.int .i64 u1,.int .i64 u2,.bool true]) (hp:QhW a x=none)=>(show Qf9 W xiq A True from⟨u0,u1,u2,true,hW,j0,j1,j2qq,by simp⟩).congr (A':=fun i n=>A i n∨(x.bare/\i+1=x.given/\n=z)) (F':=F∨QhW a x=none) (fun i n _=>⟨.inl,fun h=>h.elim id (fun h=>absurd h.1 hbare)⟩) ⟨fun _=>.inr hp,fun _=>trivial⟩)
  rcases HC with ⟨hg,hs0⟩|hg
  all_goals
   go_enter Tryz.func127,Tryz.ntmps127
   go_wp2_with fail
   refine(CN.out _).mono ?_
   rintro e w1 ⟨rfl,rfl⟩
   go_wp2_with fail
   refine(LN.out _).mono ?_
   rintro e w2 ⟨rfl,d2⟩
   have c0:=(d2.cell (p:=⟨bx,o,none⟩) lbx (by simp)).trans c0
   have c1:=(d2.cell (p:=⟨bx,o+1,none⟩) lbx (by simp)).trans c1
   have ac:=(d2.cell (p:=⟨g,off,none⟩) lg (by simp)).trans ac
   have aw:=(d2.cell (p:=⟨g,off+3,none⟩) lg (by simp)).trans aw
   have hbx:=hbx.keep d2
   have hb:=hb.keep d2
   have hE:=hE.keep d2 (by simp) hB
   have hB:=G5 hB d2.size
   have lbx:=hb.lt
   have lxi:=hbx.lt
   have lg:=F6 lg d2.size
   go_wp2_with fail
   refine(SF.out _ hE.env).mono ?_
   rintro e v3 ⟨rfl,d3⟩
   go_wp2_with fail
   refine(OF.out _).mono ?_
   rintro e V ⟨t,rfl,ht,rfl⟩
   have hb3:=hb.keep d3
   have hx3:=hbx.keep d3
   cases t
   ·have hno:¬ZL (Qa6 x.shape) z:=fun h=>by have:=ht.2 h;cases this
    clear ht
    have hp:QhW a x=none:=by unfold QhW;rw [if_neg (fun h=>by have:=h.1;have:=h.2;omega),if_neg (fun h=>h.elim hbare (fun h=>hno (by rw [<-hz];exact h)))]
    have q3:=hx3.c 3 _ rfl
    have f3:=hx3.f
    go_wp2_with fail
    go_ret
    exact⟨false,rfl,by rw [hp];simp,by rw [hp];show ZU _ _ (Qg9 (s.set a.slot x));rw [hsame.out];exact hb3.far _ (by omega),HF.out _ (hx3.set 3 _) hp,((d2.mono (T:=[xiq,bx]) (by simp)).trans ((d3.mono (by simp)).setCell (.inl (by simp)) _) (fun _ h=>.inl h))⟩
   ·have ho:=ht.1 rfl
    clear ht
    have hp:QhW a x=some (x.wrap a.word):=by unfold QhW;rw [if_neg (fun h=>by have:=h.1;have:=h.2;omega),if_pos (.inr (by rw [hz];exact ho)),if_pos hop]
    have IV:=HI.out V hx3 (by rw [hp];simp)
    have bV:=hb3
    have cV:Qc [xiq] w2 V:=d3.mono (by simp)
    have acV:=(cV.cell (p:=⟨g,off,none⟩) lg (by simp;omega)).trans ac
    have awV:=(cV.cell (p:=⟨g,off+3,none⟩) lg (by simp;omega)).trans aw
    have c1V:=(cV.cell (p:=⟨bx,o+1,none⟩) lbx (by simp;omega)).trans c1
    have lbV:=bV.lt
    have lgV:=F6 lg cV.size
    go_upto_region 19 with fail
    obtain⟨VL,hV⟩:∃VL:List Value,VL=[.pointer (some ⟨bx,o,none⟩),.pointer (some ⟨bx,o,none⟩),.pointer (some ⟨bx,o+1,none⟩),.string x.shape,.pointer (some ⟨g,off,none⟩),.pointer (some ⟨g,off,none⟩),.pointer (some ⟨g,off+3,none⟩),.string a.word,.string (xG++a.word),.string (x.shape++(xG++a.word)),.pointer (some ⟨bx,o,none⟩),.pointer (some ⟨bx,o+1,none⟩)]:=⟨_,rfl⟩
    obtain⟨J,hJ⟩:∃J:(Nat->Bool)->(Nat->Value)->World->Prop,∀d v W,J d v W↔(JG [(0,86),(1,87),(2,88),(3,89),(4,90),(5,91),(6,92),(7,93),(8,94),(9,95),(10,96),(11,97)] VL d v/\Qc [] V W):=⟨_,fun _ _ _=>i7⟩
    refine Ze (b:=⟨#[],[]⟩) 12 [86,87,88,89,90,91,92,93,94,95,96,97] J (by kernel_rfl) (XN _ _) (by kernel_rfl) (by kernel_rfl) (by kernel_rfl) ?_ ?_ ?_
    ·exact(hJ _ _ _).2 ⟨UO (by decide),C6⟩
    ·refine⟨.inr ?_,.inr ?_,.inr ?_,.inr ?_,.inr ?_,.inr ?_,.inr ?_,.inr ?_,.inr ?_,.inr ?_,.inr ?_,.inr ?_,.inl rfl,trivial⟩
     ·intro d v W hC hd hpre hJ1 K hK
      have H:=Qb ((hJ _ _ _).1 hJ1)
      clear hJ1
      clear hpre hC hd
      simp only [Xq,C8,C9]
      go_simp
      refine YD hK (by simp only [Xq,Act.put,D0,C8,C9] <;>rfl) ((hJ _ _ _).2 ⟨Qu (by decide) (by decide) H.out.1 0 _ _ _ rfl (by rw [hV];rfl),H.out.2⟩)
     ·intro d v W hC hd hpre hJ1 K hK
      have H:=Qb ((hJ _ _ _).1 hJ1)
      clear hJ1
      have e0:v 86= .pointer (some ⟨bx,o,none⟩):=H.out.1 0 _ _ _ rfl (by rw [hV];rfl) (Qh hpre 0)
      clear hpre hC hd
      simp only [Xq,C8,C9,e0]
      go_simp
      refine YD hK (by simp only [Xq,Act.put,D0,C8,C9,e0] <;>rfl) ((hJ _ _ _).2 ⟨Qu (by decide) (by decide) H.out.1 1 _ _ _ rfl (by rw [hV];rfl),H.out.2⟩)
     ·intro d v W hC hd hpre hJ1 K hK
      have H:=Qb ((hJ _ _ _).1 hJ1)
      clear hJ1
      have e1:v 87= .pointer (some ⟨bx,o,none⟩):=H.out.1 1 _ _ _ rfl (by rw [hV];rfl) (Qh hpre 1)
      clear hpre hC hd
      simp only [Xq,C8,C9,e1]
      go_simp
      refine YD hK (by simp only [Xq,Act.put,D0,C8,C9,e1] <;>rfl) ((hJ _ _ _).2 ⟨Qu (by decide) (by decide) H.out.1 2 _ _ _ rfl (by rw [hV];rfl),H.out.2⟩)
     ·intro d v W hC hd hpre hJ1 K hK
      have H:=Qb ((hJ _ _ _).1 hJ1)
      clear hJ1
      have e2:v 88= .pointer (some ⟨bx,o+1,none⟩):=H.out.1 2 _ _ _ rfl (by rw [hV];rfl) (Qh hpre 2)
      clear hpre hC hd
      have q0:=(H.out.2.cell (p:=⟨bx,o+1,none⟩) lbV (by simp)).trans c1V
      simp only [Xq,C8,C9,e2]
      go_simp
      refine YD hK (by simp only [Xq,Act.put,D0,C8,C9,e2] <;>rfl) ((hJ _ _ _).2 ⟨Qu (by decide) (by decide) H.out.1 3 _ _ _ rfl (by rw [hV];rfl),H.out.2⟩)
     ·intro d v W hC hd hpre hJ1 K hK
      have H:=Qb ((hJ _ _ _).1 hJ1)
      clear hJ1
      clear hpre hC hd
      simp only [Xq,C8,C9]
      go_simp
      refine YD hK (by simp only [Xq,Act.put,D0,C8,C9] <;>rfl) ((hJ _ _ _).2 ⟨Qu (by decide) (by decide) H.out.1 4 _ _ _ rfl (by rw [hV];rfl),H.out.2⟩)
     ·intro d v W hC hd hpre hJ1 K hK
      have H:=Qb ((hJ _ _ _).1 hJ1)
      clear hJ1
      have e4:v 90= .pointer (some ⟨g,off,none⟩):=H.out.1 4 _ _ _ rfl (by rw [hV];rfl) (Qh hpre 4)
      clear hpre hC hd
      simp only [Xq,C8,C9,e4]
      go_simp
      refine YD hK (by simp only [Xq,Act.put,D0,C8,C9,e4] <;>rfl) ((hJ _ _ _).2 ⟨Qu (by decide) (by decide) H.out.1 5 _ _ _ rfl (by rw [hV];rfl),H.out.2⟩)
     ·intro d v W hC hd hpre hJ1 K hK
      have H:=Qb ((hJ _ _ _).1 hJ1)
      clear hJ1
      have e5:v 91= .pointer (some ⟨g,off,none⟩):=H.out.1 5 _ _ _ rfl (by rw [hV];rfl) (Qh hpre 5)
      clear hpre hC hd
      simp only [Xq,C8,C9,e5]
      go_simp
      refine YD hK (by simp only [Xq,Act.put,D0,C8,C9,e5] <;>rfl) ((hJ _ _ _).2 ⟨Qu (by decide) (by decide) H.out.1 6 _ _ _ rfl (by rw [hV];rfl),H.out.2⟩)
     ·intro d v W hC hd hpre hJ1 K hK
      have H:=Qb ((hJ _ _ _).1 hJ1)
      clear hJ1
      have e6:v 92= .pointer (some ⟨g,off+3,none⟩):=H.out.1 6 _ _ _ rfl (by rw [hV];rfl) (Qh hpre 6)
      clear hpre hC hd
      have q1:=(H.out.2.cell (p:=⟨g,off+3,none⟩) lgV (by simp)).trans awV
      simp only [Xq,C8,C9,e6]
      go_simp
      refine YD hK (by simp only [Xq,Act.put,D0,C8,C9,e6] <;>rfl) ((hJ _ _ _).2 ⟨Qu (by decide) (by decide) H.out.1 7 _ _ _ rfl (by rw [hV];rfl),H.out.2⟩)
     ·intro d v W hC hd hpre hJ1 K hK
      have H:=Qb ((hJ _ _ _).1 hJ1)
      clear hJ1
      have e7:v 93= .string a.word:=H.out.1 7 _ _ _ rfl (by rw [hV];rfl) (Qh hpre 7)
      clear hpre hC hd
      have k1:=cat1.out
      simp only [Xq,C8,C9,e7]
      go_simp
      refine YD hK (by simp only [Xq,Act.put,D0,C8,C9,e7] <;>rfl) ((hJ _ _ _).2 ⟨Qu (by decide) (by decide) H.out.1 8 _ _ _ rfl (by rw [hV];rfl),H.out.2⟩)
     ·intro d v W hC hd hpre hJ1 K hK
      have H:=Qb ((hJ _ _ _).1 hJ1)
      clear hJ1
      have e3:v 89= .string x.shape:=H.out.1 3 _ _ _ rfl (by rw [hV];rfl) (Qh hpre 3)
      have e8:v 94= .string (xG++a.word):=H.out.1 8 _ _ _ rfl (by rw [hV];rfl) (Qh hpre 8)
      clear hpre hC hd
      have k2:=cat2.out
      simp only [Xq,C8,C9,e3,e8]
      go_simp
      refine YD hK (by simp only [Xq,Act.put,D0,C8,C9,e3,e8] <;>rfl) ((hJ _ _ _).2 ⟨Qu (by decide) (by decide) H.out.1 9 _ _ _ rfl (by rw [hV];rfl),H.out.2⟩)
     ·intro d v W hC hd hpre hJ1 K hK
      have H:=Qb ((hJ _ _ _).1 hJ1)
      clear hJ1
      have e0:v 86= .pointer (some ⟨bx,o,none⟩):=H.out.1 0 _ _ _ rfl (by rw [hV];rfl) (Qh hpre 0)
      clear hpre hC hd
      simp only [Xq,C8,C9,e0]
      go_simp
      refine YD hK (by simp only [Xq,Act.put,D0,C8,C9,e0] <;>rfl) ((hJ _ _ _).2 ⟨Qu (by decide) (by decide) H.out.1 10 _ _ _ rfl (by rw [hV];rfl),H.out.2⟩)
     ·intro d v W hC hd hpre hJ1 K hK
      have H:=Qb ((hJ _ _ _).1 hJ1)
      clear hJ1
      have e10:v 96= .pointer (some ⟨bx,o,none⟩):=H.out.1 10 _ _ _ rfl (by rw [hV];rfl) (Qh hpre 10)
      clear hpre hC hd
      simp only [Xq,C8,C9,e10]
      go_simp
      refine YD hK (by simp only [Xq,Act.put,D0,C8,C9,e10] <;>rfl) ((hJ _ _ _).2 ⟨Qu (by decide) (by decide) H.out.1 11 _ _ _ rfl (by rw [hV];rfl),H.out.2⟩)
    ·refine⟨_,rfl,fun v W hJ1 K hK=>?_⟩
     have H:=Qb ((hJ _ _ _).1 hJ1)
     clear hJ1
     have e0:v 86= .pointer (some ⟨bx,o,none⟩):=H.out.1 0 _ _ _ rfl (by rw [hV];rfl) (by decide)
     have e1:v 87= .pointer (some ⟨bx,o,none⟩):=H.out.1 1 _ _ _ rfl (by rw [hV];rfl) (by decide)
     have e2:v 88= .pointer (some ⟨bx,o+1,none⟩):=H.out.1 2 _ _ _ rfl (by rw [hV];rfl) (by decide)
     have e3:v 89= .string x.shape:=H.out.1 3 _ _ _ rfl (by rw [hV];rfl) (by decide)
     have e4:v 90= .pointer (some ⟨g,off,none⟩):=H.out.1 4 _ _ _ rfl (by rw [hV];rfl) (by decide)
     have e5:v 91= .pointer (some ⟨g,off,none⟩):=H.out.1 5 _ _ _ rfl (by rw [hV];rfl) (by decide)
     have e6:v 92= .pointer (some ⟨g,off+3,none⟩):=H.out.1 6 _ _ _ rfl (by rw [hV];rfl) (by decide)
     have e7:v 93= .string a.word:=H.out.1 7 _ _ _ rfl (by rw [hV];rfl) (by decide)
     have e8:v 94= .string (xG++a.word):=H.out.1 8 _ _ _ rfl (by rw [hV];rfl) (by decide)
     have e9:v 95= .string (x.shape++(xG++a.word)):=H.out.1 9 _ _ _ rfl (by rw [hV];rfl) (by decide)
     have e10:v 96= .pointer (some ⟨bx,o,none⟩):=H.out.1 10 _ _ _ rfl (by rw [hV];rfl) (by decide)
     have e11:v 97= .pointer (some ⟨bx,o+1,none⟩):=H.out.1 11 _ _ _ rfl (by rw [hV];rfl) (by decide)
     have CHW:=H.out.2
     clear H hJ J hV
     simp only [Xq,C8,C9,e0,e1,e2,e3,e4,e5,e6,e7,e8,e9,e10,e11]
     have fj:=(bV.keep CHW).f
     have lj:=(bV.keep CHW).lt
     have qjq:=(CHW.cell (p:=⟨bx,o+1,none⟩) lbV (by simp)).trans c1V
     go_simp
     refine hK.out _ _ ?_
     have b9:=(bV.keep CHW).set (o+1) (.string (x.shape++(xG++a.word)))
     rw [hset.out] at b9
     have c8:Qc [bx] W (W.setCell ⟨bx,o+1,none⟩ (.string (x.shape++(xG++a.word)))):=(B0 _ _).setCell (.inl (by simp)) _
     have I9qq:=(IV.keep CHW).keep c8 (by simp;omega)
     have c9:Qc [xiq,bx] _ _:=((cV.trans CHW (fun _ h=>by cases h)).mono (T:=[xiq,bx]) (by simp)).trans c8 (fun y h=>.inl (by rw [E0.1 h];simp))
     go_wp2_with fail
     go_ret
     exact⟨true,rfl,by rw [hp];simp,by rw [hp];exact b9,I9qq,(d2.mono (T:=[xiq,bx]) (by simp)).trans c9 (fun _ h=>.inl h)⟩
end Go.Proofs.YtfjhdnjlhjimeaaGreatDoor
