/- FormatCells of the reference. Conditions: as stated. -/
import Derived.Test.YtfjhdnjlhjimeaaGreatDoorNumsAll
import Derived.Test.YtfjhdnjlhjimeaaGreatDoorBuilders
import Derived.Test.YtfjhdnjlhjimeaaGreatDoorApps
set_option maxRecDepth 100000
set_option maxHeartbeats 8000000
namespace Go.Proofs.YtfjhdnjlhjimeaaGreatDoor
open Go.RowKit

noncomputable def UJ (c:QC):ByteArray:=(c.key++⟨#[61]⟩)++W5 c.value
open Classical in
noncomputable def VX (l:List QC):ByteArray:=if ZA l then(if l.length=0 then⟨#[45]⟩ else Zx (l.map UJ) ⟨#[44]⟩) else⟨#[]⟩
theorem ys {l:List QC} (h:¬ZA l):VX l=⟨#[]⟩:=by unfold VX;rw [if_neg h]
theorem qv {l:List QC} (h:ZA l) (h0:l.length=0):VX l=⟨#[45]⟩:=by unfold VX;rw [if_pos h,if_pos h0]
theorem qA {l:List QC} (h:ZA l) (h0:¬l.length=0):VX l=Zx (l.map UJ) ⟨#[44]⟩:=by unfold VX;rw [if_pos h,if_neg h0]
theorem QgH {m:Int} (h:m<=999):(KO m).size<=3:=by
 have:∀(k:Nat) (m:Int),m.toNat<10 ^ (k+1)->(KO m).size<=k+1:=by
  intro k
  induction k with
  |zero=>intro m h;unfold KO;rw [Lib.decDigits,dif_pos (by omega)];simp [ByteArray.size]
  | succ k ih=>
   intro m h
   by_cases hm:m.toNat<10
   ·unfold KO;rw [Lib.decDigits,dif_pos hm];simp [ByteArray.size]
   ·rw [yw (by omega),M3,strOfNums_size]
    have:=ih (m / 10) (by rw [Nat.pow_succ] at h;omega)
    simp
    omega
 exact this 2 m (by omega)
theorem Qb2 {n:Int} (h:ZK n):(W5 n).size<=3:=by rw [vc h.1];exact QgH h.2
theorem Qbp {c:QC} (hk:qZ c.key) (hv:ZK c.value):(UJ c).size<=12:=by
 unfold UJ
 rw [M3,M3]
 have:=Qb2 hv
 have:=hk.2.1
 have e:(⟨#[61]⟩:ByteArray).size=1:=rfl
 omega
theorem jC {l:List QC} (h:ZA l):Zp (l.map UJ)<=48:=by
 have:∀l:List QC,(∀c∈l,(UJ c).size<=12)->Zp (l.map UJ)<=l.length * 12:=by
  intro l
  induction l with
  |nil=>intro _;simp [Zp]
  |cons c l ih=>
   intro hs
   have h1:=hs c (by simp)
   have h2:=ih (fun x hx=>hs x (by simp [hx]))
   unfold Zp at h2 ⊢
   simp only [I9,V8,I1]
   omega
 have:=this l (fun c hc=>by obtain⟨k,hk,rfl⟩:=M0 hc;exact Qbp (h.2 k hk).1 (h.2 k hk).2.1)
 have:=h.1
 omega
theorem Qag (l:List QC):(VX l).size<=60:=by
 by_cases h:ZA l
 ·by_cases h0:l.length=0
  ·rw [qv h h0];decide
  ·rw [qA h h0]
   have h4:=h.1
   have hw:=jC h
   cases l with
   |nil=>exact absurd rfl h0
   |cons c l=>
    rw [I9] at hw ⊢
    rw [Ji,show(⟨#[44]⟩:ByteArray).size=1 from rfl]
    simp only [I1,J8] at h4 ⊢
    omega
 ·rw [ys h];decide
theorem GF (l:List QC) (u:Value) (B:Nat) (w:World) (r:Rd w B (cells l) u) (hB:B<=w.heap.size) (hl:l.length<=1048576) (hs:∀c∈l,c.key.size<=1048576):
  Calls Tryz.prog 189 #[u] w (Kv (VX l) w):=by
 by_cases hp:ZA l
 ·have IC:=Qb (fun W (hc:Qc [] w W)=>(VY l u B W (r.cz hc hB) (G5 hB hc.size) hl hs).mono (O3 hp))
  obtain⟨A,cap,rfl,h0,h1,hrow⟩:=QX r
  unfold maxLen at h1
  have hl4:=hp.1
  have HP:=Qb hp
  clear hp hs r hl
  go_enter Tryz.func189,Tryz.ntmps189
  go_wp2_with fail
  refine(IC.out _ ((B0 _ _).alloc _)).mono ?_
  rintro e w1 ⟨rfl,c1⟩
  have hA0:=Qb ((Yo.empty w 9 1 (B0 [] w)).later c1)
  clear c1 IC
  go_wp2_with fail
  go_loopw [3,12] (fun v i wr=>∃(k:Nat) (A':Option Addr) (cap':Nat),k<=l.length/\i= .int .i64 k/\v= .slice A' k cap'/\Yo w wr 9 1 (.slice A' k cap') k (((l.take k).map UJ).flatMap Ur)) (fun _ i _=>l.length-(intOf i).toNat)
  case atStart=>exact⟨0,_,0,I3 _,rfl,rfl,hA0.out⟩
  case round=>
   obtain⟨k,A',cap',hk,rfl,rfl,hh⟩:=hrel
   have hcg:Qc [] w wr:=hh.chg
   by_cases hlt:k<l.length
   ·obtain⟨b,off,rfl,hb,q0,q1⟩:=Xr (hrow.cz hcg hB) k hlt
    have hsz:=hcg.size
    have hck:=HP.out.2 k hlt
    have z1:=hck.1.2.1
    have z3:=hck.2.1
    have z2:=Qb2 hck.2.1
    have HK:=Qb (show UJ l[k]=(l[k].key++⟨#[61]⟩)++W5 l[k].value from rfl)
    obtain⟨t,ht⟩:∃t,t=UJ l[k]:=⟨_,rfl⟩
    obtain⟨y,hy⟩:∃y,y=l[k].key:=⟨_,rfl⟩
    obtain⟨v,hv⟩:∃v,v=l[k].value:=⟨_,rfl⟩
    rw [<-ht, <-hy, <-hv] at HK
    rw [<-hy] at q0 z1
    rw [<-hv] at q1 z2 z3
    have FN:=Qb (fun W=>Wx v W (by have:=z3.1;omega) (by have:=z3.2;omega))
    obtain⟨n,hn⟩:∃n,n=W5 v:=⟨_,rfl⟩
    rw [<-hn] at HK FN z2
    obtain⟨x,hx⟩:∃x,x=y++⟨#[61]⟩:=⟨_,rfl⟩
    have HK:=HK.out
    rw [<-hx] at HK
    have e1:(⟨#[61]⟩:ByteArray).size=1:=rfl
    have zx:x.size<=9:=by rw [hx,M3];omega
    have k1:=wZ (P:=Tryz.prog) hx (by omega)
    have k2:=wZ (P:=Tryz.prog) HK (by omega)
    have HT:=Qb ht
    have HH:=Qb hh
    clear hx hn hv hy ht HK e1 hck z3 hh hcg
    go_wp2_with fail
    go_region_law (first|(go_simp;go_at_call 121;(with_reducible refine(FN.out _).mono ?_);rintro e w2 ⟨rfl,c2⟩;(have y2:=fun o=>c2.cell (p:=⟨wr.heap.size,o,none⟩) (by simp) (by simp));(have c3:=(H0 C6 c2:Qc [] wr w2));(have h2:=Qb c3);clear c3 c2;simp only [])|(refine Zv rfl (.tmp 16) (.tmp 24) _ rfl rfl rfl (zd _ _ 9 _ 1 16 Tryz.underlying54 Yx rfl (by omega) HH.out (us:=[.string t]) (dsE:=Ur t) ⟨[],I2 (T8 _),by simp,h2.out.alloc _⟩ _ 1 _ rfl (by intro j u hj;cases j with|zero=>cases hj;go_simp|succ j=>simp at hj) (by intro u hu;simp at hu;subst hu;rfl) (by omega) (by omega)) ?_;rintro A3 cap3 w3 ⟨hA3,_,_⟩;simp only [])|fail)
    all_goals
     go_wp2_with fail
     go_roundw
     case rel=>exact⟨k+1,A3,cap3,by omega,by go_num,rfl,by rw [G6 hlt,J2,J0,I9,O2, <-HT.out];simpa using hA3⟩
     case measure=>simp [intOf];omega
   ·obtain rfl:k=l.length:=by omega
    have hn:=hh.new.rd
    rw [I8] at hn
    have HJ:=Qb (ze (l.map UJ) ⟨#[44]⟩ (.slice A' l.length cap') wr.heap.size wr (by simp;omega) (by decide) (by have:=jC HP.out;omega) (by unfold WB;rw [J8];exact hn) (F0 _))
    have HC:=Qb hcg
    clear hn hh hcg
    by_cases h0:l.length=0
    ·have HZ:=Qb (qv HP.out h0)
     have hz:((l.length:Int)==0)=true:=by simp [h0]
     clear h0 HJ
     go_wp2_with fail
     go_ret
     exact⟨YC HZ.out.symm,HC.out⟩
    ·have HZ:=Qb (qA HP.out h0)
     have hz:((l.length:Int)==0)=false:=by simpa using h0
     clear h0
     go_wp2_with fail
     refine HJ.out.mono ?_
     rintro e w4 ⟨rfl,c4⟩
     go_wp2_with fail
     go_ret
     exact⟨YC HZ.out.symm,HC.out.tz c4⟩
 ·have IC:=Qb (fun W (hc:Qc [] w W)=>(VY l u B W (r.cz hc hB) (G5 hB hc.size) hl hs).mono (R4 hp))
  obtain⟨A,cap,rfl,h0,h1,hrow⟩:=QX r
  have HE:=Qb (ys hp)
  clear hp hs r hl hrow
  go_enter Tryz.func189,Tryz.ntmps189
  go_wp2_with fail
  refine(IC.out _ ((B0 _ _).alloc _)).mono ?_
  rintro e w1 ⟨rfl,c1⟩
  go_wp2_with fail
  go_ret
  exact⟨YC HE.out.symm,((B0 _ _).alloc _).tz c1⟩
end Go.Proofs.YtfjhdnjlhjimeaaGreatDoor
