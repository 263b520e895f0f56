/- Small helpers of calls. Conditions: as stated. -/
import Derived.Test.YtfjhdnjlhjimeaaGreatDoorBoxes
import Derived.Test.YtfjhdnjlhjimeaaGreatDoorRegs
import Derived.BigRegion
set_option maxRecDepth 100000
set_option maxHeartbeats 16000000
namespace Go.Proofs.YtfjhdnjlhjimeaaGreatDoor
open Go.RowKit

theorem xB (s:ByteArray) (w:World):Calls Tryz.prog 158 #[.string s] w (xY (ZR s) w):=by
 unfold ZR xY
 cases ha:Zg s with
 |none=>
  have AB:=Qb (YK s w)
  unfold Xx at AB
  rw [ha] at AB
  go_enter Tryz.func158,Tryz.ntmps158
  go_wp2_with fail
  refine AB.out.mono ?_
  rintro e w1 ⟨rfl,c1⟩
  go_wp2_with fail
  go_ret
  exact⟨rfl,c1⟩
 | some k=>
  obtain⟨j,hj,rfl,_⟩:=Ku ha
  have AB:=Qb (YK s w)
  unfold Xx at AB
  rw [ha] at AB
  obtain rfl|rfl|rfl|rfl|rfl|rfl:j=0∨j=1∨j=2∨j=3∨j=4∨j=5:=by omega
  all_goals
   go_enter Tryz.func158,Tryz.ntmps158
   go_wp2_with fail
   refine AB.out.mono ?_
   rintro e w1 ⟨rfl,c1⟩
   go_wp2_with fail
   go_ret
   exact⟨rfl,c1⟩
theorem ZE (n:Int) (w:World) (hn:ZK n):Calls Tryz.prog 205 #[.int .i64 n] w (fun e w'=>e= .returned (.int .i64 (qX n))/\w'=w):=by
 obtain⟨h0,h1⟩:=hn
 unfold qX
 go_enter Tryz.func205,Tryz.ntmps205
 go_wp2_with fail
 go_ret
 exact⟨rfl,rfl⟩
theorem GJ (l:List QC) (u:Value) (B:Nat) (w:World) (r:Rd w B (cells l) u) (hB:B<=w.heap.size) (hl:l.length<=1048576) (hs:∀c∈l,c.key.size<=1048576) (hE:KP w):
  Calls Tryz.prog 223 #[u] w (Kv (VX l) w):=by
 by_cases hp:ZA l
 ·have IC:=Qb (fun W (hc:Qc [] w W)=>(YU l u B W (r.cz hc hB) (G5 hB hc.size) hl hs).mono (O3 hp))
  obtain⟨A,cap,rfl,h0,h1,hrow⟩:=QX r
  unfold maxLen at h1
  have hl4:=hp.1
  have HP:=Qb hp
  have HPW:=Qb hE.pow
  clear hp hs r hl hE
  go_enter Tryz.func223,Tryz.ntmps223
  by_cases h0:l.length=0
  ·have HZ:=Qb (qv HP.out h0)
   have hz:((l.length:Int)==0)=true:=by simp [h0]
   clear h0
   go_wp2_with fail
   refine(IC.out _ (B0 _ _)).mono ?_
   rintro e w1 ⟨rfl,c1⟩
   go_wp2_with fail
   go_ret
   exact⟨YC HZ.out.symm,c1⟩
  have HZ:=Qb (qA HP.out h0)
  have hz:((l.length:Int)==0)=false:=by simpa using h0
  clear h0
  go_wp2_with fail
  refine(IC.out _ (B0 _ _)).mono ?_
  rintro e w1 ⟨rfl,c1⟩
  have hA0:=Qb (S8 w 9 1 c1)
  clear c1 IC
  go_wp2_with fail
  go_loopw [3,14] (fun v i wr=>∃(k:Nat) (A':Option Addr) (cap':Nat),k<=l.length/\i= .int .i64 k/\v= .slice A' k cap'/\Yo w wr 9 1 (.slice A' k cap') k (((l.take k).map UJ).flatMap Ur)) (fun _ i _=>l.length-(intOf i).toNat)
  case atStart=>exact⟨0,_,0,I3 _,rfl,rfl,hA0.out⟩
  case round=>
   obtain⟨k,A',cap',hk,rfl,rfl,hh⟩:=hrel
   have hcg:Qc [] w wr:=hh.chg
   by_cases hlt:k<l.length
   ·obtain⟨b,off,rfl,hb,q0,q1⟩:=Xr (hrow.cz hcg hB) k hlt
    have hsz:=hcg.size
    have hck:=HP.out.2 k hlt
    have z1:=hck.1.2.1
    have z3:=hck.2.1
    have z2:=Qb2 hck.2.1
    have HK:=Qb (show UJ l[k]=(l[k].key++⟨#[61]⟩)++W5 l[k].value from rfl)
    obtain⟨t,ht⟩:∃t,t=UJ l[k]:=⟨_,rfl⟩
    obtain⟨y,hy⟩:∃y,y=l[k].key:=⟨_,rfl⟩
    obtain⟨v,hv⟩:∃v,v=l[k].value:=⟨_,rfl⟩
    rw [<-ht, <-hy, <-hv] at HK
    rw [<-hy] at q0 z1
    rw [<-hv] at q1 z2 z3
    have FN:=Qb (fun W (hW:Qc [] w W)=>Ym v W (by have:=z3.1;omega) (by have:=z3.2;omega) (HPW.out.keep hW))
    obtain⟨n,hn⟩:∃n,n=W5 v:=⟨_,rfl⟩
    rw [<-hn] at HK FN z2
    obtain⟨x,hx⟩:∃x,x=y++⟨#[61]⟩:=⟨_,rfl⟩
    have HK:=HK.out
    rw [<-hx] at HK
    have e1:(⟨#[61]⟩:ByteArray).size=1:=rfl
    have zx:x.size<=9:=by rw [hx,M3];omega
    have k1:=wZ (P:=Tryz.prog) hx (by omega)
    have k2:=wZ (P:=Tryz.prog) HK (by omega)
    have HT:=Qb ht
    have HH:=Qb hh
    have HC:=Qb hcg
    clear hx hn hv hy ht HK e1 hck z3 hh hcg
    go_wp2_with fail
    go_region_law (first|(go_simp;go_at_call 36;(with_reducible refine(FN.out _ (by first|exact H9 HC.out|exact C6)).mono ?_);rintro e w2 ⟨rfl,c2⟩;(have y2:=fun o=>c2.cell (p:=⟨wr.heap.size,o,none⟩) (by simp) (by simp));(have c3:=(H0 C6 c2:Qc [] wr w2));(have h2:=Qb c3);clear c3 c2;simp only [])|(refine Zv rfl (.tmp 18) (.tmp 26) _ rfl rfl rfl (zd _ _ 9 _ 1 16 Tryz.underlying54 Yx rfl (by omega) HH.out (us:=[.string t]) (dsE:=Ur t) ⟨[],I2 (T8 _),by simp,h2.out.alloc _⟩ _ 1 _ rfl (by intro j u hj;cases j with|zero=>cases hj;go_simp|succ j=>simp at hj) (by intro u hu;simp at hu;subst hu;rfl) (by omega) (by omega)) ?_;rintro A3 cap3 w3 ⟨hA3,_,_⟩;simp only [])|fail)
    all_goals
     go_wp2_with fail
     go_roundw
     case rel=>exact⟨k+1,A3,cap3,by omega,by go_num,rfl,by rw [G6 hlt,J2,J0,I9,O2, <-HT.out];simpa using hA3⟩
     case measure=>simp [intOf];omega
   ·obtain rfl:k=l.length:=by omega
    have hn:=hh.new.rd
    rw [I8] at hn
    have HJ:=Qb (WE (l.map UJ) ⟨#[44]⟩ (.slice A' l.length cap') wr.heap.size wr (by simp;omega) (by decide) (by have:=jC HP.out;omega) (by unfold WB;rw [J8];exact hn) (F0 _))
    have HC:=Qb hcg
    clear hn hh hcg
    go_wp2_with fail
    refine HJ.out.mono ?_
    rintro e w4 ⟨rfl,c4⟩
    go_wp2_with fail
    go_ret
    exact⟨YC HZ.out.symm,HC.out.tz c4⟩
 ·have IC:=Qb (fun W (hc:Qc [] w W)=>(YU l u B W (r.cz hc hB) (G5 hB hc.size) hl hs).mono (R4 hp))
  obtain⟨A,cap,rfl,h0,h1,hrow⟩:=QX r
  have HE:=Qb (ys hp)
  clear hp hs r hl hrow hE
  go_enter Tryz.func223,Tryz.ntmps223
  go_wp2_with fail
  refine(IC.out _ (B0 _ _)).mono ?_
  rintro e w1 ⟨rfl,c1⟩
  go_wp2_with fail
  go_ret
  exact⟨YC HE.out.symm,c1⟩
theorem Qe3:(ByteArray.toList Qw== [83,116,97,114,116])=true/\(ByteArray.toList Qw== [83,116,111,112])=false/\(ByteArray.toList Qw== [71,101,116])=false/\(ByteArray.toList Qw== [80,117,116])=false/\(ByteArray.toList Qw== [84,101,108,108])=false/\(ByteArray.toList Qw== [72,101,97,114])=false/\(ByteArray.toList Qw== [76,111,97,100])=false/\(ByteArray.toList Qw== [83,97,118,101])=false/\(ByteArray.toList Qw== [72,101,97,108])=false:=by rw [ByteArray.toList_eq];decide
theorem QfH:(ByteArray.toList QR== [83,116,97,114,116])=false/\(ByteArray.toList QR== [83,116,111,112])=true/\(ByteArray.toList QR== [71,101,116])=false/\(ByteArray.toList QR== [80,117,116])=false/\(ByteArray.toList QR== [84,101,108,108])=false/\(ByteArray.toList QR== [72,101,97,114])=false/\(ByteArray.toList QR== [76,111,97,100])=false/\(ByteArray.toList QR== [83,97,118,101])=false/\(ByteArray.toList QR== [72,101,97,108])=false:=by rw [ByteArray.toList_eq];decide
theorem QgG:(ByteArray.toList Zz== [83,116,97,114,116])=false/\(ByteArray.toList Zz== [83,116,111,112])=false/\(ByteArray.toList Zz== [71,101,116])=true/\(ByteArray.toList Zz== [80,117,116])=false/\(ByteArray.toList Zz== [84,101,108,108])=false/\(ByteArray.toList Zz== [72,101,97,114])=false/\(ByteArray.toList Zz== [76,111,97,100])=false/\(ByteArray.toList Zz== [83,97,118,101])=false/\(ByteArray.toList Zz== [72,101,97,108])=false:=by rw [ByteArray.toList_eq];decide
theorem QeV:(ByteArray.toList Zu== [83,116,97,114,116])=false/\(ByteArray.toList Zu== [83,116,111,112])=false/\(ByteArray.toList Zu== [71,101,116])=false/\(ByteArray.toList Zu== [80,117,116])=true/\(ByteArray.toList Zu== [84,101,108,108])=false/\(ByteArray.toList Zu== [72,101,97,114])=false/\(ByteArray.toList Zu== [76,111,97,100])=false/\(ByteArray.toList Zu== [83,97,118,101])=false/\(ByteArray.toList Zu== [72,101,97,108])=false:=by rw [ByteArray.toList_eq];decide
theorem xW:(ByteArray.toList QQ== [83,116,97,114,116])=false/\(ByteArray.toList QQ== [83,116,111,112])=false/\(ByteArray.toList QQ== [71,101,116])=false/\(ByteArray.toList QQ== [80,117,116])=false/\(ByteArray.toList QQ== [84,101,108,108])=true/\(ByteArray.toList QQ== [72,101,97,114])=false/\(ByteArray.toList QQ== [76,111,97,100])=false/\(ByteArray.toList QQ== [83,97,118,101])=false/\(ByteArray.toList QQ== [72,101,97,108])=false:=by rw [ByteArray.toList_eq];decide
theorem xT:(ByteArray.toList QV== [83,116,97,114,116])=false/\(ByteArray.toList QV== [83,116,111,112])=false/\(ByteArray.toList QV== [71,101,116])=false/\(ByteArray.toList QV== [80,117,116])=false/\(ByteArray.toList QV== [84,101,108,108])=false/\(ByteArray.toList QV== [72,101,97,114])=true/\(ByteArray.toList QV== [76,111,97,100])=false/\(ByteArray.toList QV== [83,97,118,101])=false/\(ByteArray.toList QV== [72,101,97,108])=false:=by rw [ByteArray.toList_eq];decide
theorem Qfv:(ByteArray.toList Zy== [83,116,97,114,116])=false/\(ByteArray.toList Zy== [83,116,111,112])=false/\(ByteArray.toList Zy== [71,101,116])=false/\(ByteArray.toList Zy== [80,117,116])=false/\(ByteArray.toList Zy== [84,101,108,108])=false/\(ByteArray.toList Zy== [72,101,97,114])=false/\(ByteArray.toList Zy== [76,111,97,100])=true/\(ByteArray.toList Zy== [83,97,118,101])=false/\(ByteArray.toList Zy== [72,101,97,108])=false:=by rw [ByteArray.toList_eq];decide
theorem QfK:(ByteArray.toList XI== [83,116,97,114,116])=false/\(ByteArray.toList XI== [83,116,111,112])=false/\(ByteArray.toList XI== [71,101,116])=false/\(ByteArray.toList XI== [80,117,116])=false/\(ByteArray.toList XI== [84,101,108,108])=false/\(ByteArray.toList XI== [72,101,97,114])=false/\(ByteArray.toList XI== [76,111,97,100])=false/\(ByteArray.toList XI== [83,97,118,101])=true/\(ByteArray.toList XI== [72,101,97,108])=false:=by rw [ByteArray.toList_eq];decide
theorem QcN:(ByteArray.toList Xk== [83,116,97,114,116])=false/\(ByteArray.toList Xk== [83,116,111,112])=false/\(ByteArray.toList Xk== [71,101,116])=false/\(ByteArray.toList Xk== [80,117,116])=false/\(ByteArray.toList Xk== [84,101,108,108])=false/\(ByteArray.toList Xk== [72,101,97,114])=false/\(ByteArray.toList Xk== [76,111,97,100])=false/\(ByteArray.toList Xk== [83,97,118,101])=false/\(ByteArray.toList Xk== [72,101,97,108])=true:=by rw [ByteArray.toList_eq];decide
theorem QdR (g:Nat) (p:Qe) (key:ByteArray) (value:Int) (text:ByteArray) (S3 S5:List Nat) (w:World) (h:Zf w g p S3 S5) (hp:XO p.core) (_hx:QS ⟨QQ,key,value,text⟩):
  Calls Tryz.prog 203 #[.pointer (some ⟨g,0,none⟩),.agg #[.string QQ,.string key,.int .i64 value,.string text]] w (Xa g p (XJ p.core ⟨QQ,key,value,text⟩) S3 S5 w):=by
 have hg:=h.lt
 obtain⟨A3,c3,A5,c5,q0,q1,q2,q3,q4,q5,k3,k5⟩:=h.ex
 have f0:=h.fr 0 (by omega);have f1:=h.fr 1 (by omega);have f2:=h.fr 2 (by omega);have f3:=h.fr 3 (by omega);have f4:=h.fr 4 (by omega)
 obtain⟨t0,t1,t2,t3,t4,t5,t6,t7,t8⟩:=xW
 obtain⟨hnum0,hnum1⟩:0<=p.core.count/\p.core.count<=999:=by obtain⟨_,_,_,_,hn,_⟩:=hp;exact hn
 have gg1:g<w.heap.size+1:=by omega
 have gg2:g<w.heap.size+1+1:=by omega
 have CU:=Qb (fun W=>ZE p.core.count W ⟨hnum0,hnum1⟩)
 have H:=Qb h
 clear h
 rw [qV rfl]
 go_enter Tryz.func203,Tryz.ntmps203
 cases hb:p.core.broken
 all_goals
  rw [hb] at q2
  go_wp2_with fail
  refine bodyPost_ret (v:=Zq (Qf 0 p.core.count 0 0)) (by simp only [Zq,Qf,results,Tryz.results203];go_simp) rfl ?_
  exact(R9 H.out rfl rfl C6)
theorem QdH (g:Nat) (p:Qe) (key:ByteArray) (value:Int) (text:ByteArray) (S3 S5:List Nat) (w:World) (h:Zf w g p S3 S5) (hp:XO p.core) (_hx:QS ⟨Xk,key,value,text⟩):
  Calls Tryz.prog 203 #[.pointer (some ⟨g,0,none⟩),.agg #[.string Xk,.string key,.int .i64 value,.string text]] w (Xa g p (XJ p.core ⟨Xk,key,value,text⟩) S3 S5 w):=by
 have hg:=h.lt
 obtain⟨A3,c3,A5,c5,q0,q1,q2,q3,q4,q5,k3,k5⟩:=h.ex
 have f0:=h.fr 0 (by omega);have f1:=h.fr 1 (by omega);have f2:=h.fr 2 (by omega);have f3:=h.fr 3 (by omega);have f4:=h.fr 4 (by omega)
 obtain⟨t0,t1,t2,t3,t4,t5,t6,t7,t8⟩:=QcN
 obtain⟨hnum0,hnum1⟩:0<=p.core.count/\p.core.count<=999:=by obtain⟨_,_,_,_,hn,_⟩:=hp;exact hn
 have gg1:g<w.heap.size+1:=by omega
 have gg2:g<w.heap.size+1+1:=by omega
 have CU:=Qb (fun W=>ZE p.core.count W ⟨hnum0,hnum1⟩)
 have H:=Qb h
 clear h
 rw [wS rfl]
 go_enter Tryz.func203,Tryz.ntmps203
 cases hb:p.core.broken
 all_goals
  rw [hb] at q2
  go_wp2_with fail
  refine bodyPost_ret (v:=Zq (Qf 0 0 0 0)) (by simp only [Zq,Qf,results,Tryz.results203];go_simp) rfl ?_
  exact(Xa.wr H.out rfl C6 rfl rfl (by go_simp) (by go_simp) (by go_simp) (by go_simp) (by go_simp) (by go_simp) (fun o=>by first|rfl|go_simp|(simp [hg];done)))
theorem Qdd (g:Nat) (p:Qe) (key:ByteArray) (value:Int) (text:ByteArray) (S3 S5:List Nat) (w:World) (h:Zf w g p S3 S5) (hp:XO p.core) (_hx:QS ⟨QR,key,value,text⟩):
  Calls Tryz.prog 203 #[.pointer (some ⟨g,0,none⟩),.agg #[.string QR,.string key,.int .i64 value,.string text]] w (Xa g p (XJ p.core ⟨QR,key,value,text⟩) S3 S5 w):=by
 have hg:=h.lt
 obtain⟨A3,c3,A5,c5,q0,q1,q2,q3,q4,q5,k3,k5⟩:=h.ex
 have f0:=h.fr 0 (by omega);have f1:=h.fr 1 (by omega);have f2:=h.fr 2 (by omega);have f3:=h.fr 3 (by omega);have f4:=h.fr 4 (by omega)
 obtain⟨t0,t1,t2,t3,t4,t5,t6,t7,t8⟩:=QfH
 obtain⟨hnum0,hnum1⟩:0<=p.core.count/\p.core.count<=999:=by obtain⟨_,_,_,_,hn,_⟩:=hp;exact hn
 have gg1:g<w.heap.size+1:=by omega
 have gg2:g<w.heap.size+1+1:=by omega
 have CU:=Qb (fun W=>ZE p.core.count W ⟨hnum0,hnum1⟩)
 have H:=Qb h
 clear h
 rw [vC rfl]
 cases hb:p.core.broken
 ·rw [hb] at q2
  rw [if_neg (by simp)]
  cases ho:p.core.on
  ·rw [ho] at q1
   rw [if_neg (by simp)]
   go_enter Tryz.func203,Tryz.ntmps203
   go_wp2_with fail
   refine bodyPost_ret (v:=Zq (Qf 2 0 0 0)) (by simp only [Zq,Qf,results,Tryz.results203];go_simp) rfl ?_
   exact(R9 H.out rfl rfl C6)
  ·rw [ho] at q1
   rw [if_pos rfl]
   go_enter Tryz.func203,Tryz.ntmps203
   go_wp2_with fail
   refine bodyPost_ret (v:=Zq (Qf 0 0 0 0)) (by simp only [Zq,Qf,results,Tryz.results203];go_simp) rfl ?_
   exact(Xa.wr H.out rfl C6 rfl rfl (by go_simp) (by go_simp) (by go_simp) (by go_simp) (by go_simp) (by go_simp) (fun o=>by first|rfl|go_simp|(simp [hg];done)))
 ·rw [hb] at q2
  rw [if_pos rfl]
  go_enter Tryz.func203,Tryz.ntmps203
  go_wp2_with fail
  refine bodyPost_ret (v:=Zq (Qf 3 0 0 0)) (by simp only [Zq,Qf,results,Tryz.results203];go_simp) rfl ?_
  exact(R9 H.out rfl rfl C6)
theorem QbD (g:Nat) (p:Qe) (key:ByteArray) (value:Int) (text:ByteArray) (S3 S5:List Nat) (w:World) (h:Zf w g p S3 S5) (hp:XO p.core) (_hx:QS ⟨Qw,key,value,text⟩):
  Calls Tryz.prog 203 #[.pointer (some ⟨g,0,none⟩),.agg #[.string Qw,.string key,.int .i64 value,.string text]] w (Xa g p (XJ p.core ⟨Qw,key,value,text⟩) S3 S5 w):=by
 have hg:=h.lt
 obtain⟨A3,c3,A5,c5,q0,q1,q2,q3,q4,q5,k3,k5⟩:=h.ex
 have f0:=h.fr 0 (by omega);have f1:=h.fr 1 (by omega);have f2:=h.fr 2 (by omega);have f3:=h.fr 3 (by omega);have f4:=h.fr 4 (by omega)
 obtain⟨t0,t1,t2,t3,t4,t5,t6,t7,t8⟩:=Qe3
 obtain⟨hnum0,hnum1⟩:0<=p.core.count/\p.core.count<=999:=by obtain⟨_,_,_,_,hn,_⟩:=hp;exact hn
 have gg1:g<w.heap.size+1:=by omega
 have gg2:g<w.heap.size+1+1:=by omega
 have CU:=Qb (fun W=>ZE p.core.count W ⟨hnum0,hnum1⟩)
 have H:=Qb h
 clear h
 rw [yX rfl]
 cases hb:p.core.broken
 ·rw [hb] at q2
  rw [if_neg (by simp)]
  cases ho:p.core.on
  ·rw [ho] at q1
   rw [if_neg (by simp)]
   go_enter Tryz.func203,Tryz.ntmps203
   go_wp2_with fail
   refine(CU.out _).mono ?_
   rintro e w1 ⟨rfl,rfl⟩
   go_wp2_with fail
   refine bodyPost_ret (v:=Zq (Qf 0 0 0 0)) (by simp only [Zq,Qf,results,Tryz.results203];go_simp) rfl ?_
   exact(Xa.wr H.out rfl C6 rfl rfl (by go_simp) (by go_simp) (by go_simp) (by go_simp) (by go_simp) (by go_simp) (fun o=>by first|rfl|go_simp|(simp [hg];done)))
  ·rw [ho] at q1
   rw [if_pos rfl]
   go_enter Tryz.func203,Tryz.ntmps203
   go_wp2_with fail
   refine bodyPost_ret (v:=Zq (Qf 3 0 0 0)) (by simp only [Zq,Qf,results,Tryz.results203];go_simp) rfl ?_
   exact(Xa.wr H.out rfl C6 rfl rfl (by go_simp) (by go_simp) (by go_simp) (by go_simp) (by go_simp) (by go_simp) (fun o=>by first|rfl|go_simp|(simp [hg];done)))
 ·rw [hb] at q2
  rw [if_pos rfl]
  go_enter Tryz.func203,Tryz.ntmps203
  go_wp2_with fail
  refine bodyPost_ret (v:=Zq (Qf 3 0 0 0)) (by simp only [Zq,Qf,results,Tryz.results203];go_simp) rfl ?_
  exact(R9 H.out rfl rfl C6)
theorem QfP (b:Bool) (value:Int):(value==1 || b&&!(value==0))=(if value=0 then false else if value=1 then true else b):=by
 by_cases h0:value=0
 ·subst h0;simp
 ·by_cases h1:value=1
  ·subst h1;simp
  ·have z0:(value==0)=false:=beq_false_of_ne h0
   have z1:(value==1)=false:=beq_false_of_ne h1
   rw [z0,z1,if_neg h0,if_neg h1];simp
theorem QdM (g:Nat) (p:Qe) (key:ByteArray) (value:Int) (text:ByteArray) (S3 S5:List Nat) (w:World) (h:Zf w g p S3 S5) (hp:XO p.core) (_hx:QS ⟨QV,key,value,text⟩):
  Calls Tryz.prog 203 #[.pointer (some ⟨g,0,none⟩),.agg #[.string QV,.string key,.int .i64 value,.string text]] w (Xa g p (XJ p.core ⟨QV,key,value,text⟩) S3 S5 w):=by
 have hg:=h.lt
 obtain⟨A3,c3,A5,c5,q0,q1,q2,q3,q4,q5,k3,k5⟩:=h.ex
 have f0:=h.fr 0 (by omega);have f1:=h.fr 1 (by omega);have f2:=h.fr 2 (by omega);have f3:=h.fr 3 (by omega);have f4:=h.fr 4 (by omega)
 obtain⟨t0,t1,t2,t3,t4,t5,t6,t7,t8⟩:=xT
 obtain⟨hnum0,hnum1⟩:0<=p.core.count/\p.core.count<=999:=by obtain⟨_,_,_,_,hn,_⟩:=hp;exact hn
 have gg1:g<w.heap.size+1:=by omega
 have gg2:g<w.heap.size+1+1:=by omega
 have CU:=Qb (fun W=>ZE p.core.count W ⟨hnum0,hnum1⟩)
 have H:=Qb h
 clear h
 rw [wN rfl]
 cases hb:p.core.broken
 ·rw [hb] at q2
  rw [if_neg (by simp)]
  rw [QfP]
  by_cases h0:value=0
  ·subst h0
   go_enter Tryz.func203,Tryz.ntmps203
   go_wp2_with fail
   refine(CU.out _).mono ?_
   rintro e w1 ⟨rfl,rfl⟩
   go_wp2_with fail
   refine bodyPost_ret (v:=Zq (Qf 0 (qX p.core.count) 0 0)) (by simp only [Zq,Qf,results,Tryz.results203];go_simp) rfl ?_
   exact(Xa.wr H.out rfl C6 rfl rfl (by go_simp) (by go_simp) (by go_simp) (by go_simp) (by go_simp) (by go_simp) (fun o=>by first|rfl|go_simp|(simp [hg];done)))
  ·by_cases h1:value=1
   ·subst h1
    go_enter Tryz.func203,Tryz.ntmps203
    go_wp2_with fail
    refine(CU.out _).mono ?_
    rintro e w1 ⟨rfl,rfl⟩
    go_wp2_with fail
    refine bodyPost_ret (v:=Zq (Qf 0 (qX p.core.count) 0 0)) (by simp only [Zq,Qf,results,Tryz.results203];go_simp) rfl ?_
    exact(Xa.wr H.out rfl C6 rfl rfl (by go_simp) (by go_simp) (by go_simp) (by go_simp) (by go_simp) (by go_simp) (fun o=>by first|rfl|go_simp|(simp [hg];done)))
   ·have z0:(value==0)=false:=by simpa using h0
    have z1:(value==1)=false:=by simpa using h1
    rw [if_neg h0,if_neg h1]
    clear h0 h1
    go_enter Tryz.func203,Tryz.ntmps203
    go_wp2_with fail
    refine(CU.out _).mono ?_
    rintro e w1 ⟨rfl,rfl⟩
    go_wp2_with fail
    refine bodyPost_ret (v:=Zq (Qf 0 (qX p.core.count) 0 0)) (by simp only [Zq,Qf,results,Tryz.results203];go_simp) rfl ?_
    exact(Xa.wr H.out rfl C6 rfl rfl (by go_simp) (by go_simp) (by go_simp) (by go_simp) (by go_simp) (by go_simp) (fun o=>by first|rfl|go_simp|(simp [hg];done)))
 ·rw [hb] at q2
  rw [if_pos rfl]
  go_enter Tryz.func203,Tryz.ntmps203
  go_wp2_with fail
  refine bodyPost_ret (v:=Zq (Qf 3 0 0 0)) (by simp only [Zq,Qf,results,Tryz.results203];go_simp) rfl ?_
  exact(R9 H.out rfl rfl C6)
theorem Qdw (g:Nat) (p:Qe) (key:ByteArray) (value:Int) (text:ByteArray) (S3 S5:List Nat) (w:World) (h:Zf w g p S3 S5) (hp:XO p.core) (_hx:QS ⟨XI,key,value,text⟩) (hE:KP w):
  Calls Tryz.prog 203 #[.pointer (some ⟨g,0,none⟩),.agg #[.string XI,.string key,.int .i64 value,.string text]] w (Xa g p (XJ p.core ⟨XI,key,value,text⟩) S3 S5 w):=by
 have hg:=h.lt
 obtain⟨A3,c3,A5,c5,q0,q1,q2,q3,q4,q5,k3,k5⟩:=h.ex
 have f0:=h.fr 0 (by omega);have f1:=h.fr 1 (by omega);have f2:=h.fr 2 (by omega);have f3:=h.fr 3 (by omega);have f4:=h.fr 4 (by omega)
 obtain⟨t0,t1,t2,t3,t4,t5,t6,t7,t8⟩:=QfK
 obtain⟨hnum0,hnum1⟩:0<=p.core.count/\p.core.count<=999:=by obtain⟨_,_,_,_,hn,_⟩:=hp;exact hn
 have gg1:g<w.heap.size+1:=by omega
 have gg2:g<w.heap.size+1+1:=by omega
 have CU:=Qb (fun W=>ZE p.core.count W ⟨hnum0,hnum1⟩)
 have H:=Qb h
 clear h
 rw [wL rfl]
 cases hb:p.core.broken
 ·rw [hb] at q2
  rw [if_neg (by simp)]
  have hck:∀c∈p.core.cells,c.key.size<=1048576:=fun c hc=>by
   obtain⟨_,_,hcc,_⟩:=hp
   have:=((Kf _).1 hcc).2.1 c hc
   have:=this.1.2.1
   omega
  have hcl:p.core.cells.length<=1048576:=by
   obtain⟨_,_,hcc,_⟩:=hp
   have:=hcc.1
   omega
  have FC:=Qb (fun W (hW:Qc [] w W)=>GJ p.core.cells _ w.heap.size W (k3.rd.cz hW (F0 _)) hW.size hcl hck (hE.keep hW))
  obtain⟨s,hs⟩:∃s,s=VX p.core.cells:=⟨_,rfl⟩
  rw [<-hs] at FC ⊢
  clear hs hck hE
  go_enter Tryz.func203,Tryz.ntmps203
  go_wp2_with fail
  refine(FC.out _ C6).mono ?_
  rintro e w1 ⟨rfl,c1⟩
  obtain⟨y1,_,s1⟩:=c1.cells
  have s2:w.heap.size+1<w1.heap.size:=by simp at s1;omega
  have cr:=fun o=>y1 (w.heap.size+1) o (by simp)
  have d1:Qc [] w w1:=H0 ((B0 _ _ |>.alloc _) |>.alloc _) c1
  go_wp2_with fail
  refine bodyPost_ret (v:=Zq (⟨0,0,s,0,0⟩)) (by simp only [Zq,results,Tryz.results203];go_simp) rfl ?_
  exact(R9 H.out rfl rfl (H9 d1))
 ·rw [hb] at q2
  rw [if_pos rfl]
  go_enter Tryz.func203,Tryz.ntmps203
  go_wp2_with fail
  refine bodyPost_ret (v:=Zq (Qf 3 0 0 0)) (by simp only [Zq,Qf,results,Tryz.results203];go_simp) rfl ?_
  exact(R9 H.out rfl rfl C6)
theorem jl (g:Nat) (p:Qe) (key:ByteArray) (value:Int) (text:ByteArray) (S3 S5:List Nat) (w:World) (h:Zf w g p S3 S5) (hp:XO p.core):
  Calls Tryz.prog 222 #[.pointer (some ⟨g,0,none⟩),.agg #[.string Zz,.string key,.int .i64 value,.string text]] w (Xa g p (WX p.core ⟨Zz,key,value,text⟩) S3 S5 w):=by
 have hg:=h.lt
 have hl3:=h.lt3
 obtain⟨A3,c3,A5,c5,q0,q1,q2,q3,q4,q5,k3,k5⟩:=h.ex
 have f0:=h.fr 0 (by omega);have f1:=h.fr 1 (by omega);have f2:=h.fr 2 (by omega);have f3:=h.fr 3 (by omega);have f4:=h.fr 4 (by omega)
 have tG:(ByteArray.toList Zz== [71,101,116])=true:=by rw [ByteArray.toList_eq];decide
 obtain⟨f,hkf,hcc,hc1,⟨hnum0,hnum1⟩,hon,hrun⟩:=hp
 have A1:=Qgr (Kq hkf)
 have hrk:QaU p.core.kind=has f 0:=by unfold QaU;rw [hkf];rfl
 have KF:=Qb (fun W=>(ZT p.core.kind W).mono (WZ.some_ hkf))
 have ASC:=Qb (JT hcc)
 have hl4:=hcc.1
 have gg1:g<w.heap.size+1:=by omega
 have gg2:g<w.heap.size+1+1:=by omega
 have CU:=Qb (fun W=>ZE p.core.count W ⟨hnum0,hnum1⟩)
 have H:=Qb h
 obtain⟨A,cap,e,h0,h1,hrow⟩:=QX k3.rd
 simp only [Value.slice.injEq,true_and] at e
 obtain⟨e1,e2⟩:=e
 subst e1 e2
 unfold maxLen at h1
 have K3:=Qb k3
 clear hkf hcc hc1 hon hrun h k3 k5
 by_cases hoff:has f 0=true/\p.core.on=false
 ·have K:WX p.core ⟨Zz,key,value,text⟩=(p.core,Qf 2 0 0 0):=by unfold WX;rw [hrk,if_pos hoff]
  rw [hoff.1] at A1
  rw [hoff.2] at q1
  rw [K]
  clear hoff
  go_enter Tryz.func222,Tryz.ntmps222
  go_wp2_with fail
  refine(KF.out _).mono ?_
  rintro e w1 ⟨rfl,rfl⟩
  go_wp2_with fail
  refine bodyPost_ret (v:=Zq (Qf 2 0 0 0)) (by simp only [Zq,Qf,results,Tryz.results222];go_simp) rfl ?_
  exact(R9 H.out rfl rfl C6)
 have K:=Qb (show WX p.core ⟨Zz,key,value,text⟩=(p.core,match VQ p.core.cells key with|some v=>Qf 0 v 0 0|none=>Qf 4 0 0 0) by unfold WX;rw [hrk,if_neg hoff,if_pos rfl];rfl)
 have hcs:has f 0=false∨(has f 0=true/\p.core.on=true):=by
  cases hb:has f 0 with
  |false=>exact .inl rfl
  |true=>right;refine⟨rfl,?_⟩;cases hq:p.core.on with
   |false=>exact absurd ⟨hb,hq⟩ hoff
   |true=>rfl
 clear hoff hrk
 have tt1:w.heap.size<w.heap.size+1+1:=by omega
 rcases hcs with hr|⟨hr,ho⟩
 all_goals
  rw [hr] at A1
  try rw [ho] at q1
  go_enter Tryz.func222,Tryz.ntmps222
  go_wp2_with fail
  refine(KF.out _).mono ?_
  rintro e w1 ⟨rfl,rfl⟩
  go_wp2_with fail
  go_loopw [7] (fun i wr=>∃k:Nat,k<=p.core.cells.length/\i= .int .i64 k/\Hid (∀j (hj:j<p.core.cells.length),j<k->Op.bytesLess p.core.cells[j].key.toList key.toList=true)/\Qc [] ((w.alloc (.cells #[.string Zz,.string key,.int .i64 value,.string text] 31)).alloc (.cells #[.int .i64 0,.int .i64 0,.string ⟨#[]⟩,.int .i64 0,.int .i64 0] 124)) wr) (fun i _=>p.core.cells.length-(intOf i).toNat)
  case atStart=>exact⟨0,I3 _,rfl,Qb (fun j _ hj0=>absurd hj0 (M4 _)),B0 _ _⟩
  case round=>
   obtain⟨k,hk,rfl,HB,hc⟩:=hrel
   have d0:Qc [] w wr:=H0 ((B0 _ _ |>.alloc _) |>.alloc _) hc
   obtain⟨y,z,sz⟩:=hc.cells
   have rk:wr.cell? ⟨w.heap.size,1,none⟩=some (.string key):=(y w.heap.size 1 (by simp;omega)).trans (by go_simp)
   have rv:wr.cell? ⟨w.heap.size,2,none⟩=some (.int .i64 value):=(y w.heap.size 2 (by simp;omega)).trans (by go_simp)
   have rm:wr.cell? ⟨w.heap.size,0,none⟩=some (.string Zz):=(y w.heap.size 0 (by simp;omega)).trans (by go_simp)
   have rr:=fun o=>y (w.heap.size+1) o (by simp)
   have fr:=fun o=>z (w.heap.size+1) o (by simp)
   have cg:=fun o=>(y g o (by simp;omega)).trans (show _=w.cell? ⟨g,o,none⟩ by go_simp)
   have fg:=fun o=>(z g o (by simp;omega)).trans (show _=w.frozen? ⟨g,o,none⟩ by go_simp)
   have s1:w.heap.size+1<wr.heap.size:=by simp at sz;omega
   have s2:w.heap.size<wr.heap.size:=by omega
   have s3:g<wr.heap.size:=by omega
   have q3':=(cg 3).trans q3
   have q4':=(cg 4).trans q4
   clear y z sz
   by_cases hlt:k<p.core.cells.length
   ·obtain⟨b,off,rfl,hb,p0,p1⟩:=Xr (hrow.cz d0 (F0 _)) k hlt
    have hd:decide ((k:Int)<(p.core.cells.length:Int))=true:=by simp;omega
    have hbw:b<wr.heap.size:=by have:=d0.size;omega
    cases hbl:Op.bytesLess p.core.cells[k].key.toList key.toList
    ·have FS:=Qb (Jp ASC.out HB.out (fun _=>hbl))
     have PA:=Qb (xK (v:=value) hk HB.out (fun _=>hbl))
     simp only [F8 hlt,Y9] at FS
     simp only [F8 hlt,Option.any_some] at PA
     go_wp2_with fail
     go_quiet (fail)
     go_wp2_with fail
     cases hq:(p.core.cells[k].key.toList==key.toList)
     ·have hne:¬p.core.cells[k].key=key:=fun e=>by rw [e] at hq;simp at hq
      have K2:=Qb (K.out.trans (by rw [FS.out,if_neg hne]))
      clear K FS PA
      go_quiet (fail)
      go_wp2_with fail
      refine bodyPost_ret (v:=Zq (Qf 4 0 0 0)) (by simp only [Zq,Qf,results,Tryz.results222];go_simp) rfl ?_
      rw [K2.out]
      exact(R9 H.out rfl rfl (by first|exact H9 d0|exact C6))
     ·have he:p.core.cells[k].key=key:=vN.1 (by simpa using hq)
      have K2:=Qb (K.out.trans (by rw [FS.out,if_pos he]))
      clear K FS PA he
      go_quiet (fail)
      go_wp2_with fail
      refine bodyPost_ret (v:=Zq (Qf 0 p.core.cells[k].value 0 0)) (by simp only [Zq,Qf,results,Tryz.results222];go_simp) rfl ?_
      rw [K2.out]
      exact(R9 H.out rfl rfl (by first|exact H9 d0|exact C6))
    ·go_wp2_with fail
     go_quiet (fail)
     go_wp2_with fail
     go_roundw
     case rel=>exact⟨k+1,by omega,by go_num,Qb (fun j hj hj1=>(I7.1 hj1).elim (HB.out j hj) (fun e=>by subst e;exact hbl)),by repeat(first|with_reducible exact hc|with_reducible refine i6 ?_|with_reducible refine a7 ?_ _)⟩
     case measure=>simp [intOf];omega
   ·obtain rfl:k=p.core.cells.length:=by omega
    have hd:decide ((p.core.cells.length:Int)<(p.core.cells.length:Int))=false:=by simp
    have FS:=Qb (Jp (k:=key) ASC.out HB.out (fun h=>absurd h hlt))
    simp only [L2 (F0 _),Option.bind_none] at FS
    have K2:=Qb (K.out.trans (by rw [FS.out]))
    clear K FS hlt
    go_wp2_with fail
    go_quiet (fail)
    go_wp2_with fail
    go_quiet (fail)
    go_wp2_with fail
    refine bodyPost_ret (v:=Zq (Qf 4 0 0 0)) (by simp only [Zq,Qf,results,Tryz.results222];go_simp) rfl ?_
    rw [K2.out]
    exact(R9 H.out rfl rfl (by first|exact H9 d0|exact C6))
theorem jq (g:Nat) (p:Qe) (key:ByteArray) (value:Int) (text:ByteArray) (S3 S5:List Nat) (w:World) (h:Zf w g p S3 S5) (hp:XO p.core):
  Calls Tryz.prog 222 #[.pointer (some ⟨g,0,none⟩),.agg #[.string Zu,.string key,.int .i64 value,.string text]] w (Xa g p (WX p.core ⟨Zu,key,value,text⟩) S3 S5 w):=by
 have hg:=h.lt
 have hl3:=h.lt3
 obtain⟨A3,c3,A5,c5,q0,q1,q2,q3,q4,q5,k3,k5⟩:=h.ex
 have f0:=h.fr 0 (by omega);have f1:=h.fr 1 (by omega);have f2:=h.fr 2 (by omega);have f3:=h.fr 3 (by omega);have f4:=h.fr 4 (by omega)
 have tG:(ByteArray.toList Zu== [71,101,116])=false:=by rw [ByteArray.toList_eq];decide
 obtain⟨f,hkf,hcc,hc1,⟨hnum0,hnum1⟩,hon,hrun⟩:=hp
 have A1:=Qgr (Kq hkf)
 have hrk:QaU p.core.kind=has f 0:=by unfold QaU;rw [hkf];rfl
 have KF:=Qb (fun W=>(ZT p.core.kind W).mono (WZ.some_ hkf))
 have ASC:=Qb (JT hcc)
 have hl4:=hcc.1
 have gg1:g<w.heap.size+1:=by omega
 have gg2:g<w.heap.size+1+1:=by omega
 have CU:=Qb (fun W=>ZE p.core.count W ⟨hnum0,hnum1⟩)
 have H:=Qb h
 obtain⟨A,cap,e,h0,h1,hrow⟩:=QX k3.rd
 simp only [Value.slice.injEq,true_and] at e
 obtain⟨e1,e2⟩:=e
 subst e1 e2
 unfold maxLen at h1
 have K3:=Qb k3
 clear hkf hcc hc1 hon hrun h k3 k5
 by_cases hoff:has f 0=true/\p.core.on=false
 ·have K:WX p.core ⟨Zu,key,value,text⟩=(p.core,Qf 2 0 0 0):=by unfold WX;rw [hrk,if_pos hoff]
  rw [hoff.1] at A1
  rw [hoff.2] at q1
  rw [K]
  clear hoff
  go_enter Tryz.func222,Tryz.ntmps222
  go_wp2_with fail
  refine(KF.out _).mono ?_
  rintro e w1 ⟨rfl,rfl⟩
  go_wp2_with fail
  refine bodyPost_ret (v:=Zq (Qf 2 0 0 0)) (by simp only [Zq,Qf,results,Tryz.results222];go_simp) rfl ?_
  exact(R9 H.out rfl rfl C6)
 have K:=Qb (show WX p.core ⟨Zu,key,value,text⟩=if VQ p.core.cells key=none/\4<=p.core.cells.length then(p.core,Qf 5 0 0 0) else({p.core with cells:=XY p.core.cells key value,count:=qX p.core.count},Qf 0 (XY p.core.cells key value).length 0 0) by unfold WX;rw [hrk,if_neg hoff,if_neg (by simp [xS])])
 have hcs:has f 0=false∨(has f 0=true/\p.core.on=true):=by
  cases hb:has f 0 with
  |false=>exact .inl rfl
  |true=>right;refine⟨rfl,?_⟩;cases hq:p.core.on with
   |false=>exact absurd ⟨hb,hq⟩ hoff
   |true=>rfl
 clear hoff hrk
 have tt1:w.heap.size<w.heap.size+1+1:=by omega
 rcases hcs with hr|⟨hr,ho⟩
 all_goals
  rw [hr] at A1
  try rw [ho] at q1
  go_enter Tryz.func222,Tryz.ntmps222
  go_wp2_with fail
  refine(KF.out _).mono ?_
  rintro e w1 ⟨rfl,rfl⟩
  go_wp2_with fail
  go_loopw [7] (fun i wr=>∃k:Nat,k<=p.core.cells.length/\i= .int .i64 k/\Hid (∀j (hj:j<p.core.cells.length),j<k->Op.bytesLess p.core.cells[j].key.toList key.toList=true)/\Qc [] ((w.alloc (.cells #[.string Zu,.string key,.int .i64 value,.string text] 31)).alloc (.cells #[.int .i64 0,.int .i64 0,.string ⟨#[]⟩,.int .i64 0,.int .i64 0] 124)) wr) (fun i _=>p.core.cells.length-(intOf i).toNat)
  case atStart=>exact⟨0,I3 _,rfl,Qb (fun j _ hj0=>absurd hj0 (M4 _)),B0 _ _⟩
  case round=>
   obtain⟨k,hk,rfl,HB,hc⟩:=hrel
   have d0:Qc [] w wr:=H0 ((B0 _ _ |>.alloc _) |>.alloc _) hc
   obtain⟨y,z,sz⟩:=hc.cells
   have rk:wr.cell? ⟨w.heap.size,1,none⟩=some (.string key):=(y w.heap.size 1 (by simp;omega)).trans (by go_simp)
   have rv:wr.cell? ⟨w.heap.size,2,none⟩=some (.int .i64 value):=(y w.heap.size 2 (by simp;omega)).trans (by go_simp)
   have rm:wr.cell? ⟨w.heap.size,0,none⟩=some (.string Zu):=(y w.heap.size 0 (by simp;omega)).trans (by go_simp)
   have rr:=fun o=>y (w.heap.size+1) o (by simp)
   have fr:=fun o=>z (w.heap.size+1) o (by simp)
   have cg:=fun o=>(y g o (by simp;omega)).trans (show _=w.cell? ⟨g,o,none⟩ by go_simp)
   have fg:=fun o=>(z g o (by simp;omega)).trans (show _=w.frozen? ⟨g,o,none⟩ by go_simp)
   have s1:w.heap.size+1<wr.heap.size:=by simp at sz;omega
   have s2:w.heap.size<wr.heap.size:=by omega
   have s3:g<wr.heap.size:=by omega
   have q3':=(cg 3).trans q3
   have q4':=(cg 4).trans q4
   clear y z sz
   by_cases hlt:k<p.core.cells.length
   ·obtain⟨b,off,rfl,hb,p0,p1⟩:=Xr (hrow.cz d0 (F0 _)) k hlt
    have hd:decide ((k:Int)<(p.core.cells.length:Int))=true:=by simp;omega
    have hbw:b<wr.heap.size:=by have:=d0.size;omega
    cases hbl:Op.bytesLess p.core.cells[k].key.toList key.toList
    ·have FS:=Qb (Jp ASC.out HB.out (fun _=>hbl))
     have PA:=Qb (xK (v:=value) hk HB.out (fun _=>hbl))
     simp only [F8 hlt,Y9] at FS
     simp only [F8 hlt,Option.any_some] at PA
     go_wp2_with fail
     go_quiet (fail)
     go_wp2_with fail
     cases hq:(p.core.cells[k].key.toList==key.toList)
     ·have hne:¬p.core.cells[k].key=key:=fun e=>by rw [e] at hq;simp at hq
      simp only [hne,if_false] at FS
      simp only [hne,decide_false,Bool.false_eq_true,if_false] at PA
      by_cases h4:4<=p.core.cells.length
      ·have K2:=Qb (K.out.trans (by rw [FS.out,if_pos ⟨rfl,h4⟩]))
       have h4':(4:Int)<=(p.core.cells.length:Int):=by omega
       clear K FS PA hne
       go_quiet (fail)
       go_wp2_with fail
       refine bodyPost_ret (v:=Zq (Qf 5 0 0 0)) (by simp only [Zq,Qf,results,Tryz.results222];go_simp) rfl ?_
       rw [K2.out]
       exact(R9 H.out rfl rfl (by first|exact H9 d0|exact C6))
      ·have K2:=Qb (K.out.trans (by rw [FS.out,if_neg (fun h=>h4 h.2)]))
       have h4':¬(4:Int)<=(p.core.cells.length:Int):=by omega
       clear K FS hne
       go_quiet (fail)
       go_wp2_with fail
       have hk3:k<=c3:=by omega
       have hk4:¬c3=k:=by omega
       have hk5:(0:Int)<=(k:Int):=by omega
       have HE:=Qb (zB K3.out.rd k)
       refine WL (S:=(fun W=>W.cell? ⟨g,3,none⟩=some (.slice (some ⟨b,off,none⟩) p.core.cells.length c3)/\W.cell? ⟨w.heap.size,1,none⟩=some (.string key)/\W.cell? ⟨w.heap.size,2,none⟩=some (.int .i64 value))) (by kernel_rfl) ?_
       have hS0:=(show _/\_/\_ from⟨q3',rk,rv⟩)
       refine G0 0 22 hS0 (h:=?_)
       refine G0 1 2 hS0 (h:=?_)
       refine G0 2 3 hS0 (h:=?_)
       refine G0 3 4 hS0 (h:=?_)
       refine G0 4 6 hS0 (h:=?_)
       refine G0 5 6 hS0 (h:=?_)
       refine G0 6 7 hS0 (h:=?_)
       refine G0 8 9 hS0 (h:=?_)
       refine G0 9 12 hS0 (h:=?_)
       refine G0 10 11 hS0 (h:=?_)
       refine G0 11 12 hS0 (h:=?_)
       refine G0 12 13 hS0 (h:=?_)
       refine G0 15 16 hS0 (h:=?_)
       refine G0 16 17 hS0 (h:=?_)
       refine G0 17 18 hS0 (h:=?_)
       refine G0 18 20 hS0 (h:=?_)
       refine G0 19 20 hS0 (h:=?_)
       refine G0 20 21 hS0 (h:=?_)
       refine QI.all (rs:=[7,13]) (by kernel_rfl) (by simp) ?_
       refine .cn (h:=fun K hK=>?_) (hs:=?_)
       case' refine_1=>
        refine Zv rfl (.const (.slice none 0 0)) (.tmp 76) _ rfl rfl rfl (Zi _ _ 194 _ 2 24 Tryz.underlying92 Za rfl (by omega) (S8 wr 194 2 (B0 _ _)) C6 _ _ _ (Zt (p.core.cells.take k)) (by rw [XR,J7];omega) (HE.out.1 _ (H0 d0 C6)) (Yi _) (by omega) (by omega)) ?_;rintro A1 cap1 w1 ⟨hA1,hC1,_⟩
        simp only [J3,J9] at hA1 ⊢
        have hE1:Qc [] wr w1:=H0 C6 hC1
        obtain⟨yy1,_,zz1⟩:=hE1.cells;have cg1:=fun o=>(yy1 g o (by omega)).trans (cg o);have ck1:=(yy1 w.heap.size 1 (by omega)).trans rk;have cv1:=(yy1 w.heap.size 2 (by omega)).trans rv
        clear hC1
        refine Wk hK (⟨(cg1 3).trans q3,ck1,cv1⟩) (fun hS1=>?_)
        clear hK K
        refine Q5 13 (h:=fun K hK=>?_)
        go_simp
        refine Wk hK (alc (alc j9) hS1) (fun hS2=>?_)
        clear hK K
        have hSJ:=hS2
       case' refine_2=>
        refine .cn (h:=fun K hK=>?_) (hs:=.nil)
        go_simp
        refine Wk hK (alc (alc j9) hS0) (fun hS3=>?_)
        clear hK K
        refine Q5 7 (h:=fun K hK=>?_)
        refine Zv rfl (.const (.slice none 0 0)) (.tmp 76) _ rfl rfl rfl (Zi _ _ 194 _ 2 24 Tryz.underlying92 Za rfl (by omega) (S8 wr 194 2 (B0 _ _)) C6 _ _ _ (Zt (p.core.cells.take k)) (by rw [XR,J7];omega) (HE.out.1 _ (H0 d0 C6)) (Yi _) (by omega) (by omega)) ?_;rintro A1 cap1 w1 ⟨hA1,hC1,_⟩
        simp only [J3,J9] at hA1 ⊢
        have hE1:Qc [] wr w1:=H0 C6 hC1
        obtain⟨yy1,_,zz1⟩:=hE1.cells;have cg1:=fun o=>(yy1 g o (by omega)).trans (cg o);have ck1:=(yy1 w.heap.size 1 (by omega)).trans rk;have cv1:=(yy1 w.heap.size 2 (by omega)).trans rv
        have hC9:Qc [] _ w1:=hC1
        have nb0:=(hC9.cell (p:=⟨wr.heap.size,0,none⟩) (by simp) (by simp)).trans (Xd (wr.drewN _) _ _ rfl)
        have nb1:=(hC9.cell (p:=⟨wr.heap.size,1,none⟩) (by simp) (by simp)).trans (Xd (wr.drewN _) _ _ rfl)
        clear hC1 hC9
        refine Wk hK (⟨(cg1 3).trans q3,ck1,cv1⟩) (fun hS4=>?_)
        clear hK K
        have hSJ:=hS4
       all_goals
        refine Q5 14 (h:=fun K hK=>?_)
        refine Zv rfl (.tmp 77) (.tmp 83) _ rfl rfl rfl (Zi _ _ 194 _ 2 24 Tryz.underlying92 Za rfl (by omega) hA1 C6 _ _ _ ([.string key,.int .i64 value]) (by simp) (fun _=>⟨_,0,rfl,by intro j u hj;match j with|0|1=>cases hj;go_simp|j+2=>simp at hj⟩) (by intro u hu;simp at hu;rcases hu with rfl|rfl<;>rfl) (by omega) (by omega)) ?_;rintro A2 cap2 w2 ⟨hA2,hC2,_⟩
        have hE2:Qc [] wr w2:=hA2.chg
        obtain⟨yy2,_,zz2⟩:=hE2.cells;have cg2:=fun o=>(yy2 g o (by omega)).trans (cg o);have ck2:=(yy2 w.heap.size 1 (by omega)).trans rk;have cv2:=(yy2 w.heap.size 2 (by omega)).trans rv
        clear hC2
        refine Wk hK (⟨(cg2 3).trans q3,ck2,cv2⟩) (fun hS5=>?_)
        clear hK K
        refine Q5 21 (h:=fun K hK=>?_)
        refine Zv rfl (.tmp 84) (.tmp 90) _ rfl rfl rfl (Zi _ _ 194 _ 2 24 Tryz.underlying92 Za rfl (by omega) hA2 C6 _ _ _ (Zt (p.core.cells.drop k)) (by have h:=XR (p.core.cells.drop k);rw [S7] at h;omega) (fun hne=>by obtain⟨b9,o9,e9,hx9⟩:=HE.out.2 _ (d0.tz hE2) hne;cases e9;exact⟨_,_,rfl,hx9⟩) (Yi _) (by omega) (by omega)) ?_;rintro A9 cap9 w9 ⟨hA9,hC9,_⟩
        have hE9:Qc [] wr w9:=hA9.chg
        obtain⟨yy9,ff9,zz9⟩:=hE9.cells;have cg9:=fun o=>(yy9 g o (by omega)).trans (cg o);have ck9:=(yy9 w.heap.size 1 (by omega)).trans rk;have cv9:=(yy9 w.heap.size 2 (by omega)).trans rv
        clear hC9
        refine Wk hK (⟨(cg9 3).trans q3,ck9,cv9⟩) (fun hS6=>?_)
        clear hK K
        refine G0 22 23 hS6 (h:=?_)
        refine G0 23 24 hS6 (h:=?_)
        refine Q5 24 (h:=fun K hK=>?_)
        go_simp
        refine jK hK ?_
        clear hK K
        refine QI.done (by kernel_rfl) ?_ _
        have hPL:(XY p.core.cells key value).length=k+1+(p.core.cells.length-k):=by rw [PA.out];simp only [I0,I1,J7,S7];omega
        have hPU:Zt (XY p.core.cells key value)=Zt (p.core.cells.take k)++([.string key,.int .i64 value] ++Zt (p.core.cells.drop k)):=by rw [PA.out];simp [Zt]
        obtain⟨N,hN⟩:∃N,N=k+1+(p.core.cells.length-k):=⟨_,rfl⟩
        rw [<-hN] at hA9 hPL ⊢
        have hA9c:Yo wr w9 194 2 (.slice A9 N cap9) N ((Zt (XY p.core.cells key value)).map QD.v):=by rw [hPU,J2,J2, <-U2];exact hA9
        obtain⟨hH9,hlo9⟩:=hA9c.has
        have hH9c:=Qb (show Yp w9 (cells (XY p.core.cells key value)) (.slice A9 (XY p.core.cells key value).length cap9) (Ub (.slice A9 N cap9)) from by rw [WI,hPL];exact hH9)
        have d9:Qc [g] w w9:=(d0.tz hE9).mono (by simp)
        have t3:=(cg9 3).trans q3
        have tg:=fun o=>(cg9 o)
        have t4:=(cg9 4).trans q4
        have ff:=fun o=>(ff9 g o (by omega)).trans (fg o)
        have t5:w.heap.size+1<w9.heap.size:=by omega
        have t6:g<w9.heap.size:=by omega
        have rr9:=fun o=>(yy9 (w.heap.size+1) o (by omega)).trans (rr o)
        have rf9:=fun o=>(ff9 (w.heap.size+1) o (by omega)).trans (fr o)
        have PL:=Qb hPL
        clear hA9 hA9c hH9 hPL hPU hN hS0 PA HE
        clear yy1 yy2 yy9 ff9 zz1 zz2 zz9 cg1 cg2 ck1 ck2 cv1 cv2 hA1 hA2 hE1 hE2 hE9
        clear rr fr
        go_wp2_with fail
        refine(CU.out _).mono ?_
        rintro e w8 ⟨rfl,hw8⟩
        subst hw8
        go_wp2_with fail
        refine bodyPost_ret (v:=Zq (Qf 0 N 0 0)) (by simp only [Zq,Qf,results,Tryz.results222];go_simp) rfl ?_
        rw [K2.out,PL.out]
        exact Xa.of (S3':=Ub (.slice A9 N cap9)) (T:=[g]) (A3:=A9) (c3:=cap9) H.out rfl (H9 d9) (by simp) (fun x hx=>.inr (by have:=hlo9 x hx;omega)) rfl (by go_simp) (by go_simp) (by go_simp) (by show _=some (Value.slice A9 (XY p.core.cells key value).length cap9);rw [PL.out];go_simp) (by go_simp) (by go_simp) (fun o=>by simp only [World.frozen?_setCell];exact ff o) (hH9c.out.keep (S0:=[g,w.heap.size+1]) C6 (fun x hx=>by have:=hlo9 x hx;simp;omega))
     ·have he:p.core.cells[k].key=key:=vN.1 (by simpa using hq)
      simp only [he,if_true] at FS
      simp only [he,decide_true,if_true] at PA
      have K2:=Qb (K.out.trans (by rw [FS.out,if_neg (fun h=>by cases h.1)]))
      clear K FS
      obtain⟨g3,hg3,_⟩:∃g3,b=g3/\off=0:=by
       rcases K3.out.cases_ with ⟨h,_⟩|⟨g3,_,_,h,_⟩
       ·cases h
       ·cases h;exact⟨_,rfl,rfl⟩
      subst hg3
      subst_vars
      simp only [J3] at p0 p1
      obtain⟨kv,kf,kb⟩:=(K3.out.kz d0).cellVal hlt value
      have hgb:b≠g:=fun e=>by subst e;exact H.out.g3 kb
      have hb0:b<w.heap.size:=hb
      have KB:=Qb kb
      clear kv kb
      go_quiet (fail)
      go_wp2_with fail
      have ff:=fun o=>fg o
      have KVN:=Qb (fun n=>(((K3.out.kz (d0.drewN n)).cellVal hlt value).1))
      have PL:=Qb (show(XY p.core.cells p.core.cells[k].key value).length=p.core.cells.length by rw [PA.out,Q1])
      have dB:Qc [g,b] w wr:=d0.mono (by simp)
      go_region
      all_goals
       go_wp2_with fail
       refine(CU.out _).mono ?_
       rintro e w8 ⟨rfl,hw8⟩
       subst hw8
       go_wp2_with fail
       refine bodyPost_ret (v:=Zq (Qf 0 p.core.cells.length 0 0)) (by simp only [Zq,Qf,results,Tryz.results222];go_simp) rfl ?_
       rw [K2.out,PL.out]
       exact Xa.of (S3':=S3) (T:=[g,b]) (A3:=some ⟨b,0,none⟩) (c3:=c3) H.out rfl (H9 dB) (fun x hx=>by simp at hx;rcases hx with rfl|rfl;exact .inl rfl;exact .inr KB.out) (fun x hx=>.inl hx) rfl (by go_simp) (by go_simp) (by go_simp) (by show _=some (Value.slice (some ⟨b,0,none⟩) (XY p.core.cells p.core.cells[k].key value).length c3);rw [PL.out];go_simp) (by go_simp) (by go_simp) (fun o=>by simp only [World.frozen?_setCell,World.frozen?_drewN];exact ff o) (by
        show Yp _ (cells (XY p.core.cells p.core.cells[k].key value)) (.slice _ (XY p.core.cells p.core.cells[k].key value).length c3) S3
        rw [PL.out,PA.out]
        refine(KVN.out _).keep (S0:=[g,w.heap.size+1]) C6 (fun x hx=>?_)
        have h1:=H.out.lt3 x hx
        have h2:x≠g:=fun e=>by subst e;exact H.out.g3 hx
        simp;omega)
    ·go_wp2_with fail
     go_quiet (fail)
     go_wp2_with fail
     go_roundw
     case rel=>exact⟨k+1,by omega,by go_num,Qb (fun j hj hj1=>(I7.1 hj1).elim (HB.out j hj) (fun e=>by subst e;exact hbl)),by repeat(first|with_reducible exact hc|with_reducible refine i6 ?_|with_reducible refine a7 ?_ _)⟩
     case measure=>simp [intOf];omega
   ·obtain rfl:k=p.core.cells.length:=by omega
    have hd:decide ((p.core.cells.length:Int)<(p.core.cells.length:Int))=false:=by simp
    have FS:=Qb (Jp (k:=key) ASC.out HB.out (fun h=>absurd h hlt))
    have PA:=Qb (xK (k:=key) (v:=value) (F0 _) HB.out (fun h=>absurd h hlt))
    simp only [L2 (F0 _),Option.bind_none] at FS
    simp only [L2 (F0 _),Option.any_none,Bool.false_eq_true,if_false] at PA
    by_cases h4:4<=p.core.cells.length
    ·have K2:=Qb (K.out.trans (by rw [FS.out,if_pos ⟨rfl,h4⟩]))
     have h4':(4:Int)<=(p.core.cells.length:Int):=by omega
     clear K FS PA hlt
     go_wp2_with fail
     go_quiet (fail)
     go_wp2_with fail
     go_quiet (fail)
     go_wp2_with fail
     refine bodyPost_ret (v:=Zq (Qf 5 0 0 0)) (by simp only [Zq,Qf,results,Tryz.results222];go_simp) rfl ?_
     rw [K2.out]
     exact(R9 H.out rfl rfl (by first|exact H9 d0|exact C6))
    ·have K2:=Qb (K.out.trans (by rw [FS.out,if_neg (fun h=>h4 h.2)]))
     have h4':¬(4:Int)<=(p.core.cells.length:Int):=by omega
     clear K FS hlt
     go_wp2_with fail
     go_quiet (fail)
     go_wp2_with fail
     go_quiet (fail)
     go_wp2_with fail
     have hk5:(0:Int)<=(p.core.cells.length:Int):=by omega
     rcases K3.out.cases_ with ⟨hnil,_⟩|⟨g3,cap3,_,hsl,_⟩
     ·simp only [Value.slice.injEq] at hnil
      obtain⟨e1,e2,e3⟩:=hnil
      subst e1 e3
      have z0:p.core.cells.length=0:=e2
      have HE:=Qb (zB K3.out.rd p.core.cells.length)
      refine WL (S:=(fun W=>W.cell? ⟨g,3,none⟩=some (.slice none p.core.cells.length 0)/\W.cell? ⟨w.heap.size,1,none⟩=some (.string key)/\W.cell? ⟨w.heap.size,2,none⟩=some (.int .i64 value))) (by kernel_rfl) ?_
      have hS0:=(show _/\_/\_ from⟨q3',rk,rv⟩)
      refine G0 0 22 hS0 (h:=?_)
      refine G0 1 2 hS0 (h:=?_)
      refine G0 2 3 hS0 (h:=?_)
      refine G0 3 4 hS0 (h:=?_)
      refine G0 4 6 hS0 (h:=?_)
      refine G0 5 6 hS0 (h:=?_)
      refine G0 6 7 hS0 (h:=?_)
      refine G0 8 9 hS0 (h:=?_)
      refine G0 9 12 hS0 (h:=?_)
      refine G0 10 11 hS0 (h:=?_)
      refine G0 11 12 hS0 (h:=?_)
      refine G0 12 13 hS0 (h:=?_)
      refine G0 15 16 hS0 (h:=?_)
      refine G0 16 17 hS0 (h:=?_)
      refine G0 17 18 hS0 (h:=?_)
      refine G0 18 20 hS0 (h:=?_)
      refine G0 19 20 hS0 (h:=?_)
      refine G0 20 21 hS0 (h:=?_)
      refine QI.all (rs:=[7,13]) (by kernel_rfl) (by simp) ?_
      refine .cn (h:=fun K hK=>?_) (hs:=?_)
      case' refine_1=>
       refine Zv rfl (.const (.slice none 0 0)) (.tmp 76) _ rfl rfl rfl (Zi _ _ 194 _ 2 24 Tryz.underlying92 Za rfl (by omega) (S8 wr 194 2 (B0 _ _)) C6 _ _ _ (Zt (p.core.cells.take p.core.cells.length)) (by rw [XR,J7];omega) (HE.out.1 _ (H0 d0 C6)) (Yi _) (by omega) (by omega)) ?_;rintro A1 cap1 w1 ⟨hA1,hC1,_⟩
       simp only [J3,J9] at hA1 ⊢
       have hE1:Qc [] wr w1:=H0 C6 hC1
       obtain⟨yy1,_,zz1⟩:=hE1.cells;have cg1:=fun o=>(yy1 g o (by omega)).trans (cg o);have ck1:=(yy1 w.heap.size 1 (by omega)).trans rk;have cv1:=(yy1 w.heap.size 2 (by omega)).trans rv
       clear hC1
       refine Wk hK (⟨(cg1 3).trans q3,ck1,cv1⟩) (fun hS8=>?_)
       clear hK K
       refine Q5 13 (h:=fun K hK=>?_)
       go_simp
       refine Wk hK (alc (alc j9) hS8) (fun hS9=>?_)
       clear hK K
       have hSJ:=hS9
      case' refine_2=>
       refine .cn (h:=fun K hK=>?_) (hs:=.nil)
       go_simp
       refine Wk hK (alc (alc j9) hS0) (fun hS10=>?_)
       clear hK K
       refine Q5 7 (h:=fun K hK=>?_)
       refine Zv rfl (.const (.slice none 0 0)) (.tmp 76) _ rfl rfl rfl (Zi _ _ 194 _ 2 24 Tryz.underlying92 Za rfl (by omega) (S8 wr 194 2 (B0 _ _)) C6 _ _ _ (Zt (p.core.cells.take p.core.cells.length)) (by rw [XR,J7];omega) (HE.out.1 _ (H0 d0 C6)) (Yi _) (by omega) (by omega)) ?_;rintro A1 cap1 w1 ⟨hA1,hC1,_⟩
       simp only [J3,J9] at hA1 ⊢
       have hE1:Qc [] wr w1:=H0 C6 hC1
       obtain⟨yy1,_,zz1⟩:=hE1.cells;have cg1:=fun o=>(yy1 g o (by omega)).trans (cg o);have ck1:=(yy1 w.heap.size 1 (by omega)).trans rk;have cv1:=(yy1 w.heap.size 2 (by omega)).trans rv
       have hC9:Qc [] _ w1:=hC1
       have nb0:=(hC9.cell (p:=⟨wr.heap.size,0,none⟩) (by simp) (by simp)).trans (Xd (wr.drewN _) _ _ rfl)
       have nb1:=(hC9.cell (p:=⟨wr.heap.size,1,none⟩) (by simp) (by simp)).trans (Xd (wr.drewN _) _ _ rfl)
       clear hC1 hC9
       refine Wk hK (⟨(cg1 3).trans q3,ck1,cv1⟩) (fun hS11=>?_)
       clear hK K
       have hSJ:=hS11
      all_goals
       refine Q5 14 (h:=fun K hK=>?_)
       refine Zv rfl (.tmp 77) (.tmp 83) _ rfl rfl rfl (Zi _ _ 194 _ 2 24 Tryz.underlying92 Za rfl (by omega) hA1 C6 _ _ _ ([.string key,.int .i64 value]) (by simp) (fun _=>⟨_,0,rfl,by intro j u hj;match j with|0|1=>cases hj;go_simp|j+2=>simp at hj⟩) (by intro u hu;simp at hu;rcases hu with rfl|rfl<;>rfl) (by omega) (by omega)) ?_;rintro A2 cap2 w2 ⟨hA2,hC2,_⟩
       have hE2:Qc [] wr w2:=hA2.chg
       obtain⟨yy2,_,zz2⟩:=hE2.cells;have cg2:=fun o=>(yy2 g o (by omega)).trans (cg o);have ck2:=(yy2 w.heap.size 1 (by omega)).trans rk;have cv2:=(yy2 w.heap.size 2 (by omega)).trans rv
       clear hC2
       refine Wk hK (⟨(cg2 3).trans q3,ck2,cv2⟩) (fun hS12=>?_)
       clear hK K
       refine Q5 21 (h:=fun K hK=>?_)
       refine Zv rfl (.tmp 84) (.tmp 90) _ rfl rfl rfl (Zi _ _ 194 _ 2 24 Tryz.underlying92 Za rfl (by omega) hA2 C6 _ _ _ (Zt (p.core.cells.drop p.core.cells.length)) (by have h:=XR (p.core.cells.drop p.core.cells.length);rw [S7] at h;omega) (fun h=>absurd (by rw [List.drop_length];rfl) h) (Yi _) (by omega) (by omega)) ?_;rintro A9 cap9 w9 ⟨hA9,hC9,_⟩
       have hE9:Qc [] wr w9:=hA9.chg
       obtain⟨yy9,ff9,zz9⟩:=hE9.cells;have cg9:=fun o=>(yy9 g o (by omega)).trans (cg o);have ck9:=(yy9 w.heap.size 1 (by omega)).trans rk;have cv9:=(yy9 w.heap.size 2 (by omega)).trans rv
       clear hC9
       refine Wk hK (⟨(cg9 3).trans q3,ck9,cv9⟩) (fun hS13=>?_)
       clear hK K
       refine G0 22 23 hS13 (h:=?_)
       refine G0 23 24 hS13 (h:=?_)
       refine Q5 24 (h:=fun K hK=>?_)
       go_simp
       refine jK hK ?_
       clear hK K
       refine QI.done (by kernel_rfl) ?_ _
       have hPL:(XY p.core.cells key value).length=1:=by rw [PA.out];simp only [I0,I1,J7,S7];omega
       have hPU:Zt (XY p.core.cells key value)=Zt (p.core.cells.take p.core.cells.length)++([.string key,.int .i64 value] ++Zt (p.core.cells.drop p.core.cells.length)):=by rw [PA.out];simp [Zt]
       have hA9c:Yo wr w9 194 2 (.slice A9 1 cap9) 1 ((Zt (XY p.core.cells key value)).map QD.v):=by rw [hPU,J2,J2, <-U2];exact hA9
       obtain⟨hH9,hlo9⟩:=hA9c.has
       have hH9c:=Qb (show Yp w9 (cells (XY p.core.cells key value)) (.slice A9 (XY p.core.cells key value).length cap9) (Ub (.slice A9 1 cap9)) from by rw [WI,hPL];exact hH9)
       have d9:Qc [g] w w9:=(d0.tz hE9).mono (by simp)
       have t3:=(cg9 3).trans q3
       have tg:=fun o=>(cg9 o)
       have t4:=(cg9 4).trans q4
       have ff:=fun o=>(ff9 g o (by omega)).trans (fg o)
       have t5:w.heap.size+1<w9.heap.size:=by omega
       have t6:g<w9.heap.size:=by omega
       have rr9:=fun o=>(yy9 (w.heap.size+1) o (by omega)).trans (rr o)
       have rf9:=fun o=>(ff9 (w.heap.size+1) o (by omega)).trans (fr o)
       have PL:=Qb hPL
       clear hA9 hA9c hH9 hPL hPU hS0 PA HE
       clear yy1 yy2 yy9 ff9 zz1 zz2 zz9 cg1 cg2 ck1 ck2 cv1 cv2 hA1 hA2 hE1 hE2 hE9
       clear rr fr
       go_wp2_with fail
       refine(CU.out _).mono ?_
       rintro e w8 ⟨rfl,hw8⟩
       subst hw8
       go_wp2_with fail
       refine bodyPost_ret (v:=Zq (Qf 0 1 0 0)) (by simp only [Zq,Qf,results,Tryz.results222];go_simp) rfl ?_
       rw [K2.out,PL.out]
       exact Xa.of (S3':=Ub (.slice A9 1 cap9)) (T:=[g]) (A3:=A9) (c3:=cap9) H.out rfl (H9 d9) (by simp) (fun x hx=>.inr (by have:=hlo9 x hx;omega)) rfl (by go_simp) (by go_simp) (by go_simp) (by show _=some (Value.slice A9 (XY p.core.cells key value).length cap9);rw [PL.out];go_simp) (by go_simp) (by go_simp) (fun o=>by simp only [World.frozen?_setCell];exact ff o) (hH9c.out.keep (S0:=[g,w.heap.size+1]) C6 (fun x hx=>by have:=hlo9 x hx;simp;omega))
     ·simp only [Value.slice.injEq,true_and] at hsl
      obtain⟨e1,e2⟩:=hsl
      subst e1 e2
      by_cases hce:c3=p.core.cells.length
      ·subst hce
       have HE:=Qb (zB K3.out.rd p.core.cells.length)
       refine WL (S:=(fun W=>W.cell? ⟨g,3,none⟩=some (.slice (some ⟨g3,0,none⟩) p.core.cells.length p.core.cells.length)/\W.cell? ⟨w.heap.size,1,none⟩=some (.string key)/\W.cell? ⟨w.heap.size,2,none⟩=some (.int .i64 value))) (by kernel_rfl) ?_
       have hS0:=(show _/\_/\_ from⟨q3',rk,rv⟩)
       refine G0 0 22 hS0 (h:=?_)
       refine G0 1 2 hS0 (h:=?_)
       refine G0 2 3 hS0 (h:=?_)
       refine G0 3 4 hS0 (h:=?_)
       refine G0 4 6 hS0 (h:=?_)
       refine G0 5 6 hS0 (h:=?_)
       refine G0 6 7 hS0 (h:=?_)
       refine G0 8 9 hS0 (h:=?_)
       refine G0 9 12 hS0 (h:=?_)
       refine G0 10 11 hS0 (h:=?_)
       refine G0 11 12 hS0 (h:=?_)
       refine G0 12 13 hS0 (h:=?_)
       refine G0 15 16 hS0 (h:=?_)
       refine G0 16 17 hS0 (h:=?_)
       refine G0 17 18 hS0 (h:=?_)
       refine G0 18 20 hS0 (h:=?_)
       refine G0 19 20 hS0 (h:=?_)
       refine G0 20 21 hS0 (h:=?_)
       refine QI.all (rs:=[7,13]) (by kernel_rfl) (by simp) ?_
       refine .cn (h:=fun K hK=>?_) (hs:=?_)
       case' refine_1=>
        refine Zv rfl (.const (.slice none 0 0)) (.tmp 76) _ rfl rfl rfl (Zi _ _ 194 _ 2 24 Tryz.underlying92 Za rfl (by omega) (S8 wr 194 2 (B0 _ _)) C6 _ _ _ (Zt (p.core.cells.take p.core.cells.length)) (by rw [XR,J7];omega) (HE.out.1 _ (H0 d0 C6)) (Yi _) (by omega) (by omega)) ?_;rintro A1 cap1 w1 ⟨hA1,hC1,_⟩
        simp only [J3,J9] at hA1 ⊢
        have hE1:Qc [] wr w1:=H0 C6 hC1
        obtain⟨yy1,_,zz1⟩:=hE1.cells;have cg1:=fun o=>(yy1 g o (by omega)).trans (cg o);have ck1:=(yy1 w.heap.size 1 (by omega)).trans rk;have cv1:=(yy1 w.heap.size 2 (by omega)).trans rv
        clear hC1
        refine Wk hK (⟨(cg1 3).trans q3,ck1,cv1⟩) (fun hS15=>?_)
        clear hK K
        refine Q5 13 (h:=fun K hK=>?_)
        go_simp
        refine Wk hK (alc (alc j9) hS15) (fun hS16=>?_)
        clear hK K
        have hSJ:=hS16
       case' refine_2=>
        refine .cn (h:=fun K hK=>?_) (hs:=.nil)
        go_simp
        refine Wk hK (alc (alc j9) hS0) (fun hS17=>?_)
        clear hK K
        refine Q5 7 (h:=fun K hK=>?_)
        refine Zv rfl (.const (.slice none 0 0)) (.tmp 76) _ rfl rfl rfl (Zi _ _ 194 _ 2 24 Tryz.underlying92 Za rfl (by omega) (S8 wr 194 2 (B0 _ _)) C6 _ _ _ (Zt (p.core.cells.take p.core.cells.length)) (by rw [XR,J7];omega) (HE.out.1 _ (H0 d0 C6)) (Yi _) (by omega) (by omega)) ?_;rintro A1 cap1 w1 ⟨hA1,hC1,_⟩
        simp only [J3,J9] at hA1 ⊢
        have hE1:Qc [] wr w1:=H0 C6 hC1
        obtain⟨yy1,_,zz1⟩:=hE1.cells;have cg1:=fun o=>(yy1 g o (by omega)).trans (cg o);have ck1:=(yy1 w.heap.size 1 (by omega)).trans rk;have cv1:=(yy1 w.heap.size 2 (by omega)).trans rv
        have hC9:Qc [] _ w1:=hC1
        have nb0:=(hC9.cell (p:=⟨wr.heap.size,0,none⟩) (by simp) (by simp)).trans (Xd (wr.drewN _) _ _ rfl)
        have nb1:=(hC9.cell (p:=⟨wr.heap.size,1,none⟩) (by simp) (by simp)).trans (Xd (wr.drewN _) _ _ rfl)
        clear hC1 hC9
        refine Wk hK (⟨(cg1 3).trans q3,ck1,cv1⟩) (fun hS18=>?_)
        clear hK K
        have hSJ:=hS18
       all_goals
        refine Q5 14 (h:=fun K hK=>?_)
        refine Zv rfl (.tmp 77) (.tmp 83) _ rfl rfl rfl (Zi _ _ 194 _ 2 24 Tryz.underlying92 Za rfl (by omega) hA1 C6 _ _ _ ([.string key,.int .i64 value]) (by simp) (fun _=>⟨_,0,rfl,by intro j u hj;match j with|0|1=>cases hj;go_simp|j+2=>simp at hj⟩) (by intro u hu;simp at hu;rcases hu with rfl|rfl<;>rfl) (by omega) (by omega)) ?_;rintro A2 cap2 w2 ⟨hA2,hC2,_⟩
        have hE2:Qc [] wr w2:=hA2.chg
        obtain⟨yy2,_,zz2⟩:=hE2.cells;have cg2:=fun o=>(yy2 g o (by omega)).trans (cg o);have ck2:=(yy2 w.heap.size 1 (by omega)).trans rk;have cv2:=(yy2 w.heap.size 2 (by omega)).trans rv
        clear hC2
        refine Wk hK (⟨(cg2 3).trans q3,ck2,cv2⟩) (fun hS19=>?_)
        clear hK K
        refine Q5 21 (h:=fun K hK=>?_)
        refine Zv rfl (.tmp 84) (.tmp 90) _ rfl rfl rfl (Zi _ _ 194 _ 2 24 Tryz.underlying92 Za rfl (by omega) hA2 C6 _ _ _ (Zt (p.core.cells.drop p.core.cells.length)) (by have h:=XR (p.core.cells.drop p.core.cells.length);rw [S7] at h;omega) (fun h=>absurd (by rw [List.drop_length];rfl) h) (Yi _) (by omega) (by omega)) ?_;rintro A9 cap9 w9 ⟨hA9,hC9,_⟩
        have hE9:Qc [] wr w9:=hA9.chg
        obtain⟨yy9,ff9,zz9⟩:=hE9.cells;have cg9:=fun o=>(yy9 g o (by omega)).trans (cg o);have ck9:=(yy9 w.heap.size 1 (by omega)).trans rk;have cv9:=(yy9 w.heap.size 2 (by omega)).trans rv
        clear hC9
        refine Wk hK (⟨(cg9 3).trans q3,ck9,cv9⟩) (fun hS20=>?_)
        clear hK K
        refine G0 22 23 hS20 (h:=?_)
        refine G0 23 24 hS20 (h:=?_)
        refine Q5 24 (h:=fun K hK=>?_)
        go_simp
        refine jK hK ?_
        clear hK K
        refine QI.done (by kernel_rfl) ?_ _
        have hPL:(XY p.core.cells key value).length=p.core.cells.length+1+0:=by rw [PA.out];simp only [I0,I1,J7,S7];omega
        have hPU:Zt (XY p.core.cells key value)=Zt (p.core.cells.take p.core.cells.length)++([.string key,.int .i64 value] ++Zt (p.core.cells.drop p.core.cells.length)):=by rw [PA.out];simp [Zt]
        obtain⟨N,hN⟩:∃N,N=p.core.cells.length+1+0:=⟨_,rfl⟩
        rw [<-hN] at hA9 hPL ⊢
        have hA9c:Yo wr w9 194 2 (.slice A9 N cap9) N ((Zt (XY p.core.cells key value)).map QD.v):=by rw [hPU,J2,J2, <-U2];exact hA9
        obtain⟨hH9,hlo9⟩:=hA9c.has
        have hH9c:=Qb (show Yp w9 (cells (XY p.core.cells key value)) (.slice A9 (XY p.core.cells key value).length cap9) (Ub (.slice A9 N cap9)) from by rw [WI,hPL];exact hH9)
        have d9:Qc [g] w w9:=(d0.tz hE9).mono (by simp)
        have t3:=(cg9 3).trans q3
        have tg:=fun o=>(cg9 o)
        have t4:=(cg9 4).trans q4
        have ff:=fun o=>(ff9 g o (by omega)).trans (fg o)
        have t5:w.heap.size+1<w9.heap.size:=by omega
        have t6:g<w9.heap.size:=by omega
        have rr9:=fun o=>(yy9 (w.heap.size+1) o (by omega)).trans (rr o)
        have rf9:=fun o=>(ff9 (w.heap.size+1) o (by omega)).trans (fr o)
        have PL:=Qb hPL
        clear hA9 hA9c hH9 hPL hPU hN hS0 PA HE
        clear yy1 yy2 yy9 ff9 zz1 zz2 zz9 cg1 cg2 ck1 ck2 cv1 cv2 hA1 hA2 hE1 hE2 hE9
        clear rr fr
        go_wp2_with fail
        refine(CU.out _).mono ?_
        rintro e w8 ⟨rfl,hw8⟩
        subst hw8
        go_wp2_with fail
        refine bodyPost_ret (v:=Zq (Qf 0 N 0 0)) (by simp only [Zq,Qf,results,Tryz.results222];go_simp) rfl ?_
        rw [K2.out,PL.out]
        exact Xa.of (S3':=Ub (.slice A9 N cap9)) (T:=[g]) (A3:=A9) (c3:=cap9) H.out rfl (H9 d9) (by simp) (fun x hx=>.inr (by have:=hlo9 x hx;omega)) rfl (by go_simp) (by go_simp) (by go_simp) (by show _=some (Value.slice A9 (XY p.core.cells key value).length cap9);rw [PL.out];go_simp) (by go_simp) (by go_simp) (fun o=>by simp only [World.frozen?_setCell];exact ff o) (hH9c.out.keep (S0:=[g,w.heap.size+1]) C6 (fun x hx=>by have:=hlo9 x hx;simp;omega))
      ·have hk3:p.core.cells.length<=c3:=h0
       have HE:=Qb (zB K3.out.rd p.core.cells.length)
       refine WL (S:=(fun W=>W.cell? ⟨g,3,none⟩=some (.slice (some ⟨g3,0,none⟩) p.core.cells.length c3)/\W.cell? ⟨w.heap.size,1,none⟩=some (.string key)/\W.cell? ⟨w.heap.size,2,none⟩=some (.int .i64 value))) (by kernel_rfl) ?_
       have hS0:=(show _/\_/\_ from⟨q3',rk,rv⟩)
       refine G0 0 22 hS0 (h:=?_)
       refine G0 1 2 hS0 (h:=?_)
       refine G0 2 3 hS0 (h:=?_)
       refine G0 3 4 hS0 (h:=?_)
       refine G0 4 6 hS0 (h:=?_)
       refine G0 5 6 hS0 (h:=?_)
       refine G0 6 7 hS0 (h:=?_)
       refine G0 8 9 hS0 (h:=?_)
       refine G0 9 12 hS0 (h:=?_)
       refine G0 10 11 hS0 (h:=?_)
       refine G0 11 12 hS0 (h:=?_)
       refine G0 12 13 hS0 (h:=?_)
       refine G0 15 16 hS0 (h:=?_)
       refine G0 16 17 hS0 (h:=?_)
       refine G0 17 18 hS0 (h:=?_)
       refine G0 18 20 hS0 (h:=?_)
       refine G0 19 20 hS0 (h:=?_)
       refine G0 20 21 hS0 (h:=?_)
       refine QI.all (rs:=[7,13]) (by kernel_rfl) (by simp) ?_
       refine .cn (h:=fun K hK=>?_) (hs:=?_)
       case' refine_1=>
        refine Zv rfl (.const (.slice none 0 0)) (.tmp 76) _ rfl rfl rfl (Zi _ _ 194 _ 2 24 Tryz.underlying92 Za rfl (by omega) (S8 wr 194 2 (B0 _ _)) C6 _ _ _ (Zt (p.core.cells.take p.core.cells.length)) (by rw [XR,J7];omega) (HE.out.1 _ (H0 d0 C6)) (Yi _) (by omega) (by omega)) ?_;rintro A1 cap1 w1 ⟨hA1,hC1,_⟩
        simp only [J3,J9] at hA1 ⊢
        have hE1:Qc [] wr w1:=H0 C6 hC1
        obtain⟨yy1,_,zz1⟩:=hE1.cells;have cg1:=fun o=>(yy1 g o (by omega)).trans (cg o);have ck1:=(yy1 w.heap.size 1 (by omega)).trans rk;have cv1:=(yy1 w.heap.size 2 (by omega)).trans rv
        clear hC1
        refine Wk hK (⟨(cg1 3).trans q3,ck1,cv1⟩) (fun hS22=>?_)
        clear hK K
        refine Q5 13 (h:=fun K hK=>?_)
        go_simp
        refine Wk hK (alc (alc j9) hS22) (fun hS23=>?_)
        clear hK K
        have hSJ:=hS23
       case' refine_2=>
        refine .cn (h:=fun K hK=>?_) (hs:=.nil)
        go_simp
        refine Wk hK (alc (alc j9) hS0) (fun hS24=>?_)
        clear hK K
        refine Q5 7 (h:=fun K hK=>?_)
        refine Zv rfl (.const (.slice none 0 0)) (.tmp 76) _ rfl rfl rfl (Zi _ _ 194 _ 2 24 Tryz.underlying92 Za rfl (by omega) (S8 wr 194 2 (B0 _ _)) C6 _ _ _ (Zt (p.core.cells.take p.core.cells.length)) (by rw [XR,J7];omega) (HE.out.1 _ (H0 d0 C6)) (Yi _) (by omega) (by omega)) ?_;rintro A1 cap1 w1 ⟨hA1,hC1,_⟩
        simp only [J3,J9] at hA1 ⊢
        have hE1:Qc [] wr w1:=H0 C6 hC1
        obtain⟨yy1,_,zz1⟩:=hE1.cells;have cg1:=fun o=>(yy1 g o (by omega)).trans (cg o);have ck1:=(yy1 w.heap.size 1 (by omega)).trans rk;have cv1:=(yy1 w.heap.size 2 (by omega)).trans rv
        have hC9:Qc [] _ w1:=hC1
        have nb0:=(hC9.cell (p:=⟨wr.heap.size,0,none⟩) (by simp) (by simp)).trans (Xd (wr.drewN _) _ _ rfl)
        have nb1:=(hC9.cell (p:=⟨wr.heap.size,1,none⟩) (by simp) (by simp)).trans (Xd (wr.drewN _) _ _ rfl)
        clear hC1 hC9
        refine Wk hK (⟨(cg1 3).trans q3,ck1,cv1⟩) (fun hS25=>?_)
        clear hK K
        have hSJ:=hS25
       all_goals
        refine Q5 14 (h:=fun K hK=>?_)
        refine Zv rfl (.tmp 77) (.tmp 83) _ rfl rfl rfl (Zi _ _ 194 _ 2 24 Tryz.underlying92 Za rfl (by omega) hA1 C6 _ _ _ ([.string key,.int .i64 value]) (by simp) (fun _=>⟨_,0,rfl,by intro j u hj;match j with|0|1=>cases hj;go_simp|j+2=>simp at hj⟩) (by intro u hu;simp at hu;rcases hu with rfl|rfl<;>rfl) (by omega) (by omega)) ?_;rintro A2 cap2 w2 ⟨hA2,hC2,_⟩
        have hE2:Qc [] wr w2:=hA2.chg
        obtain⟨yy2,_,zz2⟩:=hE2.cells;have cg2:=fun o=>(yy2 g o (by omega)).trans (cg o);have ck2:=(yy2 w.heap.size 1 (by omega)).trans rk;have cv2:=(yy2 w.heap.size 2 (by omega)).trans rv
        clear hC2
        refine Wk hK (⟨(cg2 3).trans q3,ck2,cv2⟩) (fun hS26=>?_)
        clear hK K
        refine Q5 21 (h:=fun K hK=>?_)
        refine Zv rfl (.tmp 84) (.tmp 90) _ rfl rfl rfl (Zi _ _ 194 _ 2 24 Tryz.underlying92 Za rfl (by omega) hA2 C6 _ _ _ (Zt (p.core.cells.drop p.core.cells.length)) (by have h:=XR (p.core.cells.drop p.core.cells.length);rw [S7] at h;omega) (fun h=>absurd (by rw [List.drop_length];rfl) h) (Yi _) (by omega) (by omega)) ?_;rintro A9 cap9 w9 ⟨hA9,hC9,_⟩
        have hE9:Qc [] wr w9:=hA9.chg
        obtain⟨yy9,ff9,zz9⟩:=hE9.cells;have cg9:=fun o=>(yy9 g o (by omega)).trans (cg o);have ck9:=(yy9 w.heap.size 1 (by omega)).trans rk;have cv9:=(yy9 w.heap.size 2 (by omega)).trans rv
        clear hC9
        refine Wk hK (⟨(cg9 3).trans q3,ck9,cv9⟩) (fun hS27=>?_)
        clear hK K
        refine G0 22 23 hS27 (h:=?_)
        refine G0 23 24 hS27 (h:=?_)
        refine Q5 24 (h:=fun K hK=>?_)
        go_simp
        refine jK hK ?_
        clear hK K
        refine QI.done (by kernel_rfl) ?_ _
        have hPL:(XY p.core.cells key value).length=p.core.cells.length+1+0:=by rw [PA.out];simp only [I0,I1,J7,S7];omega
        have hPU:Zt (XY p.core.cells key value)=Zt (p.core.cells.take p.core.cells.length)++([.string key,.int .i64 value] ++Zt (p.core.cells.drop p.core.cells.length)):=by rw [PA.out];simp [Zt]
        obtain⟨N,hN⟩:∃N,N=p.core.cells.length+1+0:=⟨_,rfl⟩
        rw [<-hN] at hA9 hPL ⊢
        have hA9c:Yo wr w9 194 2 (.slice A9 N cap9) N ((Zt (XY p.core.cells key value)).map QD.v):=by rw [hPU,J2,J2, <-U2];exact hA9
        obtain⟨hH9,hlo9⟩:=hA9c.has
        have hH9c:=Qb (show Yp w9 (cells (XY p.core.cells key value)) (.slice A9 (XY p.core.cells key value).length cap9) (Ub (.slice A9 N cap9)) from by rw [WI,hPL];exact hH9)
        have d9:Qc [g] w w9:=(d0.tz hE9).mono (by simp)
        have t3:=(cg9 3).trans q3
        have tg:=fun o=>(cg9 o)
        have t4:=(cg9 4).trans q4
        have ff:=fun o=>(ff9 g o (by omega)).trans (fg o)
        have t5:w.heap.size+1<w9.heap.size:=by omega
        have t6:g<w9.heap.size:=by omega
        have rr9:=fun o=>(yy9 (w.heap.size+1) o (by omega)).trans (rr o)
        have rf9:=fun o=>(ff9 (w.heap.size+1) o (by omega)).trans (fr o)
        have PL:=Qb hPL
        clear hA9 hA9c hH9 hPL hPU hN hS0 PA HE
        clear yy1 yy2 yy9 ff9 zz1 zz2 zz9 cg1 cg2 ck1 ck2 cv1 cv2 hA1 hA2 hE1 hE2 hE9
        clear rr fr
        go_wp2_with fail
        refine(CU.out _).mono ?_
        rintro e w8 ⟨rfl,hw8⟩
        subst hw8
        go_wp2_with fail
        refine bodyPost_ret (v:=Zq (Qf 0 N 0 0)) (by simp only [Zq,Qf,results,Tryz.results222];go_simp) rfl ?_
        rw [K2.out,PL.out]
        exact Xa.of (S3':=Ub (.slice A9 N cap9)) (T:=[g]) (A3:=A9) (c3:=cap9) H.out rfl (H9 d9) (by simp) (fun x hx=>.inr (by have:=hlo9 x hx;omega)) rfl (by go_simp) (by go_simp) (by go_simp) (by show _=some (Value.slice A9 (XY p.core.cells key value).length cap9);rw [PL.out];go_simp) (by go_simp) (by go_simp) (fun o=>by simp only [World.frozen?_setCell];exact ff o) (hH9c.out.keep (S0:=[g,w.heap.size+1]) C6 (fun x hx=>by have:=hlo9 x hx;simp;omega))
theorem QcY (g:Nat) (p:Qe) (key:ByteArray) (value:Int) (text:ByteArray) (S3 S5:List Nat) (w:World) (h:Zf w g p S3 S5) (hp:XO p.core) (_hx:QS ⟨Zy,key,value,text⟩) (hE:KP w) (ht:text.size<=1048575):
  Calls Tryz.prog 203 #[.pointer (some ⟨g,0,none⟩),.agg #[.string Zy,.string key,.int .i64 value,.string text]] w (Xa g p (XJ p.core ⟨Zy,key,value,text⟩) S3 S5 w):=by
 have hg:=h.lt
 obtain⟨A3,c3,A5,c5,q0,q1,q2,q3,q4,q5,k3,k5⟩:=h.ex
 have f0:=h.fr 0 (by omega);have f1:=h.fr 1 (by omega);have f2:=h.fr 2 (by omega);have f3:=h.fr 3 (by omega);have f4:=h.fr 4 (by omega)
 obtain⟨t0,t1,t2,t3,t4,t5,t6,t7,t8⟩:=Qfv
 obtain⟨hnum0,hnum1⟩:0<=p.core.count/\p.core.count<=999:=by obtain⟨_,_,_,_,hn,_⟩:=hp;exact hn
 have gg1:g<w.heap.size+1:=by omega
 have gg2:g<w.heap.size+1+1:=by omega
 have CU:=Qb (fun W=>ZE p.core.count W ⟨hnum0,hnum1⟩)
 have H:=Qb h
 clear h
 rw [vn rfl]
 cases hb:p.core.broken
 ·rw [hb] at q2
  rw [if_neg (by simp)]
  have PC:=Qb (fun W (hW:Qc [] w W)=>QF text W ht (hE.keep hW))
  clear hE ht
  cases hpc:Qy text with
  |none=>
   rw [hpc] at PC
   go_enter Tryz.func203,Tryz.ntmps203
   go_wp2_with fail
   refine(PC.out _ C6).mono ?_
   rintro e w1 ⟨l,A,cap,hl,rfl,hN⟩
   have c1:=hN.chg
   obtain⟨y1,_,s1⟩:=c1.cells
   have s2:w.heap.size+1<w1.heap.size:=by simp at s1;omega
   have cr:=fun o=>y1 (w.heap.size+1) o (by simp)
   have d1:Qc [] w w1:=H0 ((B0 _ _ |>.alloc _) |>.alloc _) c1
   clear hN
   go_wp2_with fail
   refine bodyPost_ret (v:=Zq (Qf 6 0 0 0)) (by simp only [Zq,Qf,results,Tryz.results203];go_simp) rfl ?_
   exact(R9 H.out rfl rfl (H9 d1))
  | some l0=>
   rw [hpc] at PC
   go_enter Tryz.func203,Tryz.ntmps203
   go_wp2_with fail
   refine(PC.out _ C6).mono ?_
   rintro e w1 ⟨l,A,cap,hl,rfl,hN⟩
   obtain rfl:l=l0:=hl
   obtain⟨S,hS,hlo,c1⟩:=hN
   obtain⟨y1,z1,s1⟩:=c1.cells
   have s2:w.heap.size+1<w1.heap.size:=by simp at s1;omega
   have s3:w.heap.size<w1.heap.size:=by omega
   have gw:g<w1.heap.size:=by omega
   have hlo2:∀x,x∈S->w.heap.size+1<x:=fun x hx=>by have:=hlo x hx;simp at this;omega
   have cr:=fun o=>y1 (w.heap.size+1) o (by simp)
   have cg:=fun o=>(y1 g o (by simp;omega)).trans (show _=w.cell? ⟨g,o,none⟩ by go_simp)
   have fg:=fun o=>(z1 g o (by simp;omega)).trans (show _=w.frozen? ⟨g,o,none⟩ by go_simp)
   have d1:Qc [] w w1:=H0 ((B0 _ _ |>.alloc _) |>.alloc _) c1
   have dg:Qc [g] w w1:=d1.mono (by simp)
   have fr:=fun o=>z1 (w.heap.size+1) o (by simp)
   have HS:=Qb hS
   clear hS hlo y1 z1 s1 c1
   go_wp2_with fail
   refine bodyPost_ret (v:=Zq (Qf 0 l.length 0 0)) (by simp only [Zq,Qf,results,Tryz.results203];go_simp) rfl ?_
   exact(Xa.of (S3':=S) (T:=[g]) (A3:=A) (c3:=cap) H.out rfl (H9 dg) (by simp) (fun x hx=>.inr (by have:=hlo2 x hx;omega)) rfl (by go_simp) (by go_simp) (by go_simp) (by go_simp) (by go_simp) (by go_simp) (fun o=>by simp only [World.frozen?_setCell];exact fg o)
    (HS.out.keep (S0:=[g,w.heap.size+1]) C6 (fun x hx=>by have:=hlo2 x hx;simp;omega)))
 ·rw [hb] at q2
  rw [if_pos rfl]
  go_enter Tryz.func203,Tryz.ntmps203
  go_wp2_with fail
  refine bodyPost_ret (v:=Zq (Qf 3 0 0 0)) (by simp only [Zq,Qf,results,Tryz.results203];go_simp) rfl ?_
  exact(R9 H.out rfl rfl C6)
theorem Qex (g:Nat) (p:Qe) (key:ByteArray) (value:Int) (text:ByteArray) (S3 S5:List Nat) (w:World) (h:Zf w g p S3 S5) (hp:XO p.core) (_hx:QS ⟨Zz,key,value,text⟩):
  Calls Tryz.prog 203 #[.pointer (some ⟨g,0,none⟩),.agg #[.string Zz,.string key,.int .i64 value,.string text]] w (Xa g p (XJ p.core ⟨Zz,key,value,text⟩) S3 S5 w):=by
 have hg:=h.lt
 obtain⟨A3,c3,A5,c5,q0,q1,q2,q3,q4,q5,k3,k5⟩:=h.ex
 have f0:=h.fr 0 (by omega);have f1:=h.fr 1 (by omega);have f2:=h.fr 2 (by omega);have f3:=h.fr 3 (by omega);have f4:=h.fr 4 (by omega)
 obtain⟨t0,t1,t2,t3,t4,t5,t6,t7,t8⟩:=QgG
 obtain⟨hnum0,hnum1⟩:0<=p.core.count/\p.core.count<=999:=by obtain⟨_,_,_,_,hn,_⟩:=hp;exact hn
 have gg1:g<w.heap.size+1:=by omega
 have gg2:g<w.heap.size+1+1:=by omega
 have CU:=Qb (fun W=>ZE p.core.count W ⟨hnum0,hnum1⟩)
 have H:=Qb h
 have KC:=Qb (fun W (hW:Qc [] w W)=>jl g p key value text S3 S5 W (h.kz hW) hp)
 clear h
 rw [kg rfl]
 cases hb:p.core.broken
 ·rw [hb] at q2
  rw [if_neg (by simp)]
  obtain⟨R,hR⟩:∃R,R=WX p.core ⟨Zz,key,value,text⟩:=⟨_,rfl⟩
  rw [<-hR] at KC ⊢
  clear hR
  go_enter Tryz.func203,Tryz.ntmps203
  go_wp2_with fail
  refine(KC.out _ C6).mono ?_
  rintro e w1 hD
  obtain rfl:=hD.ret
  have hc1:=hD.chg
  have hgS:∀x,x∈g::S3->x<w.heap.size:=fun x hx=>by
   rcases C7.1 hx with rfl|hx
   ·exact hg
   ·exact H.out.lt3 x hx
  have cr:=fun o=>hc1.cell (p:=⟨w.heap.size+1,o,none⟩) (by simp) (fun hx=>by have h9:w.heap.size+1<w.heap.size:=hgS _ hx;omega)
  have fr:=fun o=>hc1.frozen (p:=⟨w.heap.size+1,o,none⟩) (by simp) (fun hx=>by have h9:w.heap.size+1<w.heap.size:=hgS _ hx;omega)
  have s1:w.heap.size+1<w1.heap.size:=by have:=hc1.size;simp at this;omega
  have HD:=Qb hD
  clear hD hc1 hgS
  unfold Zq
  go_wp2_with fail
  refine bodyPost_ret (v:=Zq R.2) (by simp only [Zq,results,Tryz.results203];go_simp) rfl ?_
  exact Xa.ends (t:=w.heap.size+1) H.out HD.out C6 C6 (by omega) (by simp)
 ·rw [hb] at q2
  rw [if_pos rfl]
  go_enter Tryz.func203,Tryz.ntmps203
  go_wp2_with fail
  refine bodyPost_ret (v:=Zq (Qf 3 0 0 0)) (by simp only [Zq,Qf,results,Tryz.results203];go_simp) rfl ?_
  exact(R9 H.out rfl rfl C6)
theorem Qe1 (g:Nat) (p:Qe) (key:ByteArray) (value:Int) (text:ByteArray) (S3 S5:List Nat) (w:World) (h:Zf w g p S3 S5) (hp:XO p.core) (_hx:QS ⟨Zu,key,value,text⟩):
  Calls Tryz.prog 203 #[.pointer (some ⟨g,0,none⟩),.agg #[.string Zu,.string key,.int .i64 value,.string text]] w (Xa g p (XJ p.core ⟨Zu,key,value,text⟩) S3 S5 w):=by
 have hg:=h.lt
 obtain⟨A3,c3,A5,c5,q0,q1,q2,q3,q4,q5,k3,k5⟩:=h.ex
 have f0:=h.fr 0 (by omega);have f1:=h.fr 1 (by omega);have f2:=h.fr 2 (by omega);have f3:=h.fr 3 (by omega);have f4:=h.fr 4 (by omega)
 obtain⟨t0,t1,t2,t3,t4,t5,t6,t7,t8⟩:=QeV
 obtain⟨hnum0,hnum1⟩:0<=p.core.count/\p.core.count<=999:=by obtain⟨_,_,_,_,hn,_⟩:=hp;exact hn
 have gg1:g<w.heap.size+1:=by omega
 have gg2:g<w.heap.size+1+1:=by omega
 have CU:=Qb (fun W=>ZE p.core.count W ⟨hnum0,hnum1⟩)
 have H:=Qb h
 have KC:=Qb (fun W (hW:Qc [] w W)=>jq g p key value text S3 S5 W (h.kz hW) hp)
 clear h
 rw [uC rfl]
 cases hb:p.core.broken
 ·rw [hb] at q2
  rw [if_neg (by simp)]
  obtain⟨R,hR⟩:∃R,R=WX p.core ⟨Zu,key,value,text⟩:=⟨_,rfl⟩
  rw [<-hR] at KC ⊢
  clear hR
  go_enter Tryz.func203,Tryz.ntmps203
  go_wp2_with fail
  refine(KC.out _ C6).mono ?_
  rintro e w1 hD
  obtain rfl:=hD.ret
  have hc1:=hD.chg
  have hgS:∀x,x∈g::S3->x<w.heap.size:=fun x hx=>by
   rcases C7.1 hx with rfl|hx
   ·exact hg
   ·exact H.out.lt3 x hx
  have cr:=fun o=>hc1.cell (p:=⟨w.heap.size+1,o,none⟩) (by simp) (fun hx=>by have h9:w.heap.size+1<w.heap.size:=hgS _ hx;omega)
  have fr:=fun o=>hc1.frozen (p:=⟨w.heap.size+1,o,none⟩) (by simp) (fun hx=>by have h9:w.heap.size+1<w.heap.size:=hgS _ hx;omega)
  have s1:w.heap.size+1<w1.heap.size:=by have:=hc1.size;simp at this;omega
  have HD:=Qb hD
  clear hD hc1 hgS
  unfold Zq
  go_wp2_with fail
  refine bodyPost_ret (v:=Zq R.2) (by simp only [Zq,results,Tryz.results203];go_simp) rfl ?_
  exact Xa.ends (t:=w.heap.size+1) H.out HD.out C6 C6 (by omega) (by simp)
 ·rw [hb] at q2
  rw [if_pos rfl]
  go_enter Tryz.func203,Tryz.ntmps203
  go_wp2_with fail
  refine bodyPost_ret (v:=Zq (Qf 3 0 0 0)) (by simp only [Zq,Qf,results,Tryz.results203];go_simp) rfl ?_
  exact(R9 H.out rfl rfl C6)
theorem QeY (g:Nat) (p:Qe) (x:QL) (S3 S5:List Nat) (w:World) (h:Zf w g p S3 S5) (hp:XO p.core) (hx:QS x) (ht:x.text.size<=1048575) (hE:KP w):
  Calls Tryz.prog 203 #[.pointer (some ⟨g,0,none⟩),.agg #[.string x.method,.string x.key,.int .i64 x.value,.string x.text]] w (Xa g p (XJ p.core x) S3 S5 w):=by
 have hm:=YS hx
 obtain⟨m,k,v,t⟩:=x
 simp only at hm ht
 rcases hm with rfl|rfl|rfl|rfl|rfl|rfl|rfl|rfl|rfl
 ·exact QbD g p k v t S3 S5 w h hp hx
 ·exact Qdd g p k v t S3 S5 w h hp hx
 ·exact Qex g p k v t S3 S5 w h hp hx
 ·exact Qe1 g p k v t S3 S5 w h hp hx
 ·exact QdR g p k v t S3 S5 w h hp hx
 ·exact QdM g p k v t S3 S5 w h hp hx
 ·exact QcY g p k v t S3 S5 w h hp hx hE ht
 ·exact Qdw g p k v t S3 S5 w h hp hx hE
 ·exact QdH g p k v t S3 S5 w h hp hx
end Go.Proofs.YtfjhdnjlhjimeaaGreatDoor
