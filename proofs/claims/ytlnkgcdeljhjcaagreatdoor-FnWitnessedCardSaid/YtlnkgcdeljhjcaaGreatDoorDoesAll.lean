/- Small helpers of calls. Conditions: as stated. -/
import Derived.Test.YtlnkgcdeljhjcaaGreatDoorBoxes
import Derived.Test.YtlnkgcdeljhjcaaGreatDoorRegs
import Derived.BigRegion
set_option maxRecDepth 100000
set_option maxHeartbeats 16000000
namespace Go.Proofs.YtlnkgcdeljhjcaaGreatDoor
open Go.RowKit

theorem yE (s:ByteArray) (w:World):Calls Tryz.prog 204 #[.string s] w (yQ (ZQ s) w):=by
 unfold ZQ yQ
 cases ha:Zk s with
 |none=>
  have AB:=Qd (Yy s w)
  unfold Xz at AB
  rw [ha] at AB
  go_enter Tryz.func204,Tryz.ntmps204
  go_wp2_with fail
  refine AB.out.mono ?_
  rintro e w1 ⟨rfl,c1⟩
  go_wp2_with fail
  go_ret
  exact⟨rfl,c1⟩
 | some k=>
  obtain⟨j,hj,rfl,_⟩:=UI ha
  have AB:=Qd (Yy s w)
  unfold Xz at AB
  rw [ha] at AB
  obtain rfl|rfl|rfl|rfl|rfl|rfl:j=0∨j=1∨j=2∨j=3∨j=4∨j=5:=by omega
  all_goals
   go_enter Tryz.func204,Tryz.ntmps204
   go_wp2_with fail
   refine AB.out.mono ?_
   rintro e w1 ⟨rfl,c1⟩
   go_wp2_with fail
   go_ret
   exact⟨rfl,c1⟩
theorem ZD (n:Int) (w:World) (hn:ZM n):Calls Tryz.prog 235 #[.int .i64 n] w (fun e w'=>e= .returned (.int .i64 (GT n))/\w'=w):=by
 obtain⟨h0,h1⟩:=hn
 unfold GT
 go_enter Tryz.func235,Tryz.ntmps235
 go_wp2_with fail
 go_ret
 exact⟨rfl,rfl⟩
theorem Jn (l:List QD) (u:Value) (B:Nat) (w:World) (r:Rd w B (cells l) u) (hB:B<=w.heap.size) (hl:l.length<=1048576) (hs:∀c∈l,c.key.size<=1048576) (hE:Km w):
  Calls Tryz.prog 253 #[u] w (JT (VJ l) w):=by
 by_cases hp:Zy l
 ·have IC:=Qd (fun W (hc:Qb [] w W)=>(YI l u B W (r.cz hc hB) (Nat.le_trans hB hc.size) hl hs).mono (Qg.pos hp))
  obtain⟨A,cap,rfl,h0,h1,hrow⟩:=Za r
  unfold maxLen at h1
  have hl4:=hp.1
  have HP:=Qd hp
  have HPW:=Qd hE.pow
  clear hp hs r hl hE
  go_enter Tryz.func253,Tryz.ntmps253
  by_cases h0:l.length=0
  ·have HZ:=Qd (GF HP.out h0)
   have hz:((l.length:Int)==0)=true:=by simp [h0]
   clear h0
   go_wp2_with fail
   refine(IC.out _ (Qb.refl _ _)).mono ?_
   rintro e w1 ⟨rfl,c1⟩
   go_wp2_with fail
   go_ret
   exact⟨VN HZ.out.symm,c1⟩
  have HZ:=Qd (Gu HP.out h0)
  have hz:((l.length:Int)==0)=false:=by simpa using h0
  clear h0
  go_wp2_with fail
  refine(IC.out _ (Qb.refl _ _)).mono ?_
  rintro e w1 ⟨rfl,c1⟩
  have hA0:=Qd (XG.nil w 9 1 c1)
  clear c1 IC
  go_wp2_with fail
  go_loopw [3,14] (fun v i wr=>∃(k:Nat) (A':Option Addr) (cap':Nat),k<=l.length/\i= .int .i64 k/\v= .slice A' k cap'/\XG w wr 9 1 (.slice A' k cap') k (((l.take k).map Uq).flatMap U5)) (fun _ i _=>l.length-(intOf i).toNat)
  case atStart=>exact⟨0,_,0,Nat.zero_le _,rfl,rfl,hA0.out⟩
  case round=>
   obtain⟨k,A',cap',hk,rfl,rfl,hh⟩:=hrel
   have hcg:Qb [] w wr:=hh.chg
   by_cases hlt:k<l.length
   ·obtain⟨b,off,rfl,hb,q0,q1⟩:=Xr (hrow.cz hcg hB) k hlt
    have hsz:=hcg.size
    have hck:=HP.out.2 k hlt
    have z1:=hck.1.2.1
    have z3:=hck.2.1
    have z2:=QbL hck.2.1
    have HK:=Qd (show Uq l[k]=(l[k].key++⟨#[61]⟩)++Uv l[k].value from rfl)
    obtain⟨t,ht⟩:∃t,t=Uq l[k]:=⟨_,rfl⟩
    obtain⟨y,hy⟩:∃y,y=l[k].key:=⟨_,rfl⟩
    obtain⟨v,hv⟩:∃v,v=l[k].value:=⟨_,rfl⟩
    rw [<-ht, <-hy, <-hv] at HK
    rw [<-hy] at q0 z1
    rw [<-hv] at q1 z2 z3
    have FN:=Qd (fun W (hW:Qb [] w W)=>Vw v W (by have:=z3.1;omega) (by have:=z3.2;omega) (HPW.out.keep hW))
    obtain⟨n,hn⟩:∃n,n=Uv v:=⟨_,rfl⟩
    rw [<-hn] at HK FN z2
    obtain⟨x,hx⟩:∃x,x=y++⟨#[61]⟩:=⟨_,rfl⟩
    have HK:=HK.out
    rw [<-hx] at HK
    have e1:(⟨#[61]⟩:ByteArray).size=1:=rfl
    have zx:x.size<=9:=by rw [hx,ByteArray.size_append];omega
    have k1:=wN (P:=Tryz.prog) hx (by omega)
    have k2:=wN (P:=Tryz.prog) HK (by omega)
    have HT:=Qd ht
    have HH:=Qd hh
    have HC:=Qd hcg
    clear hx hn hv hy ht HK e1 hck z3 hh hcg
    go_wp2_with fail
    go_region_law (first|(go_simp;go_at_call 42;(with_reducible refine(FN.out _ (by first|exact Qb.to HC.out|exact Qb.now)).mono ?_);rintro e w2 ⟨rfl,c2⟩;(have y2:=fun o=>c2.cell (p:=⟨wr.heap.size,o,none⟩) (by simp) (by simp));(have c3:=(Qb.tz Qb.now c2:Qb [] wr w2));(have h2:=Qd c3);clear c3 c2;simp only [])|(refine Zx rfl (.tmp 18) (.tmp 26) _ rfl rfl rfl (qh _ _ 9 _ 1 16 Tryz.underlying50 Wf rfl (by omega) HH.out (us:=[.string t]) (dsE:=U5 t) ⟨[],Qu.cons_v (Qu.nil _),by simp,h2.out.alloc _⟩ _ 1 _ rfl (by intro j u hj;cases j with|zero=>cases hj;go_simp|succ j=>simp at hj) (by intro u hu;simp at hu;subst hu;rfl) (by omega) (by omega)) ?_;rintro A3 cap3 w3 ⟨hA3,_,_⟩;simp only [])|fail)
    all_goals
     go_wp2_with fail
     go_roundw
     case rel=>exact⟨k+1,A3,cap3,by omega,by go_num,rfl,by rw [List.take_succ_eq_append_getElem hlt,List.map_append,List.flatMap_append,List.map_cons,List.map_nil, <-HT.out];simpa using hA3⟩
     case measure=>simp [intOf];omega
   ·obtain rfl:k=l.length:=by omega
    have hn:=hh.new.rd
    rw [List.take_length] at hn
    have HJ:=Qd (UU (l.map Uq) ⟨#[44]⟩ (.slice A' l.length cap') wr.heap.size wr (by simp;omega) (by decide) (by have:=jq HP.out;omega) (by unfold Ws;rw [List.length_map];exact hn) (Nat.le_refl _))
    have HC:=Qd hcg
    clear hn hh hcg
    go_wp2_with fail
    refine HJ.out.mono ?_
    rintro e w4 ⟨rfl,c4⟩
    go_wp2_with fail
    go_ret
    exact⟨VN HZ.out.symm,HC.out.tz c4⟩
 ·have IC:=Qd (fun W (hc:Qb [] w W)=>(YI l u B W (r.cz hc hB) (Nat.le_trans hB hc.size) hl hs).mono (Qg.neg hp))
  obtain⟨A,cap,rfl,h0,h1,hrow⟩:=Za r
  have HE:=Qd (zq hp)
  clear hp hs r hl hrow hE
  go_enter Tryz.func253,Tryz.ntmps253
  go_wp2_with fail
  refine(IC.out _ (Qb.refl _ _)).mono ?_
  rintro e w1 ⟨rfl,c1⟩
  go_wp2_with fail
  go_ret
  exact⟨VN HE.out.symm,c1⟩
theorem QfF:(ByteArray.toList Qr== [83,116,97,114,116])=true/\(ByteArray.toList Qr== [83,116,111,112])=false/\(ByteArray.toList Qr== [71,101,116])=false/\(ByteArray.toList Qr== [80,117,116])=false/\(ByteArray.toList Qr== [84,101,108,108])=false/\(ByteArray.toList Qr== [72,101,97,114])=false/\(ByteArray.toList Qr== [76,111,97,100])=false/\(ByteArray.toList Qr== [83,97,118,101])=false/\(ByteArray.toList Qr== [72,101,97,108])=false:=by rw [ByteArray.toList_eq];decide
theorem QgK:(ByteArray.toList QG== [83,116,97,114,116])=false/\(ByteArray.toList QG== [83,116,111,112])=true/\(ByteArray.toList QG== [71,101,116])=false/\(ByteArray.toList QG== [80,117,116])=false/\(ByteArray.toList QG== [84,101,108,108])=false/\(ByteArray.toList QG== [72,101,97,114])=false/\(ByteArray.toList QG== [76,111,97,100])=false/\(ByteArray.toList QG== [83,97,118,101])=false/\(ByteArray.toList QG== [72,101,97,108])=false:=by rw [ByteArray.toList_eq];decide
theorem Qg7:(ByteArray.toList Q8== [83,116,97,114,116])=false/\(ByteArray.toList Q8== [83,116,111,112])=false/\(ByteArray.toList Q8== [71,101,116])=true/\(ByteArray.toList Q8== [80,117,116])=false/\(ByteArray.toList Q8== [84,101,108,108])=false/\(ByteArray.toList Q8== [72,101,97,114])=false/\(ByteArray.toList Q8== [76,111,97,100])=false/\(ByteArray.toList Q8== [83,97,118,101])=false/\(ByteArray.toList Q8== [72,101,97,108])=false:=by rw [ByteArray.toList_eq];decide
theorem Qfb:(ByteArray.toList Q7== [83,116,97,114,116])=false/\(ByteArray.toList Q7== [83,116,111,112])=false/\(ByteArray.toList Q7== [71,101,116])=false/\(ByteArray.toList Q7== [80,117,116])=true/\(ByteArray.toList Q7== [84,101,108,108])=false/\(ByteArray.toList Q7== [72,101,97,114])=false/\(ByteArray.toList Q7== [76,111,97,100])=false/\(ByteArray.toList Q7== [83,97,118,101])=false/\(ByteArray.toList Q7== [72,101,97,108])=false:=by rw [ByteArray.toList_eq];decide
theorem yH:(ByteArray.toList QE== [83,116,97,114,116])=false/\(ByteArray.toList QE== [83,116,111,112])=false/\(ByteArray.toList QE== [71,101,116])=false/\(ByteArray.toList QE== [80,117,116])=false/\(ByteArray.toList QE== [84,101,108,108])=true/\(ByteArray.toList QE== [72,101,97,114])=false/\(ByteArray.toList QE== [76,111,97,100])=false/\(ByteArray.toList QE== [83,97,118,101])=false/\(ByteArray.toList QE== [72,101,97,108])=false:=by rw [ByteArray.toList_eq];decide
theorem yI:(ByteArray.toList QJ== [83,116,97,114,116])=false/\(ByteArray.toList QJ== [83,116,111,112])=false/\(ByteArray.toList QJ== [71,101,116])=false/\(ByteArray.toList QJ== [80,117,116])=false/\(ByteArray.toList QJ== [84,101,108,108])=false/\(ByteArray.toList QJ== [72,101,97,114])=true/\(ByteArray.toList QJ== [76,111,97,100])=false/\(ByteArray.toList QJ== [83,97,118,101])=false/\(ByteArray.toList QJ== [72,101,97,108])=false:=by rw [ByteArray.toList_eq];decide
theorem QgN:(ByteArray.toList QS== [83,116,97,114,116])=false/\(ByteArray.toList QS== [83,116,111,112])=false/\(ByteArray.toList QS== [71,101,116])=false/\(ByteArray.toList QS== [80,117,116])=false/\(ByteArray.toList QS== [84,101,108,108])=false/\(ByteArray.toList QS== [72,101,97,114])=false/\(ByteArray.toList QS== [76,111,97,100])=true/\(ByteArray.toList QS== [83,97,118,101])=false/\(ByteArray.toList QS== [72,101,97,108])=false:=by rw [ByteArray.toList_eq];decide
theorem Qgn:(ByteArray.toList Zq== [83,116,97,114,116])=false/\(ByteArray.toList Zq== [83,116,111,112])=false/\(ByteArray.toList Zq== [71,101,116])=false/\(ByteArray.toList Zq== [80,117,116])=false/\(ByteArray.toList Zq== [84,101,108,108])=false/\(ByteArray.toList Zq== [72,101,97,114])=false/\(ByteArray.toList Zq== [76,111,97,100])=false/\(ByteArray.toList Zq== [83,97,118,101])=true/\(ByteArray.toList Zq== [72,101,97,108])=false:=by rw [ByteArray.toList_eq];decide
theorem Qdm:(ByteArray.toList Zd== [83,116,97,114,116])=false/\(ByteArray.toList Zd== [83,116,111,112])=false/\(ByteArray.toList Zd== [71,101,116])=false/\(ByteArray.toList Zd== [80,117,116])=false/\(ByteArray.toList Zd== [84,101,108,108])=false/\(ByteArray.toList Zd== [72,101,97,114])=false/\(ByteArray.toList Zd== [76,111,97,100])=false/\(ByteArray.toList Zd== [83,97,118,101])=false/\(ByteArray.toList Zd== [72,101,97,108])=true:=by rw [ByteArray.toList_eq];decide
theorem Qd3 (g:Nat) (p:Qh) (key:ByteArray) (value:Int) (text:ByteArray) (S3 S5:List Nat) (w:World) (h:Zi w g p S3 S5) (hp:XI p.core) (_hx:QZ ⟨QE,key,value,text⟩):
  Calls Tryz.prog 233 #[.pointer (some ⟨g,0,none⟩),.agg #[.string QE,.string key,.int .i64 value,.string text]] w (Q9 g p (XL p.core ⟨QE,key,value,text⟩) S3 S5 w):=by
 have hg:=h.lt
 obtain⟨A3,c3,A5,c5,q0,q1,q2,q3,q4,q5,k3,k5⟩:=h.ex
 have f0:=h.fr 0 (by omega);have f1:=h.fr 1 (by omega);have f2:=h.fr 2 (by omega);have f3:=h.fr 3 (by omega);have f4:=h.fr 4 (by omega)
 obtain⟨t0,t1,t2,t3,t4,t5,t6,t7,t8⟩:=yH
 obtain⟨hnum0,hnum1⟩:0<=p.core.count/\p.core.count<=999:=by obtain⟨_,_,_,_,hn,_⟩:=hp;exact hn
 have gg1:g<w.heap.size+1:=by omega
 have gg2:g<w.heap.size+1+1:=by omega
 have CU:=Qd (fun W=>ZD p.core.count W ⟨hnum0,hnum1⟩)
 have H:=Qd h
 clear h
 rw [GE rfl]
 go_enter Tryz.func233,Tryz.ntmps233
 cases hb:p.core.broken
 all_goals
  rw [hb] at q2
  go_wp2_with fail
  refine bodyPost_ret (v:=Zt (Qj 0 p.core.count 0 0)) (by simp only [Zt,Qj,results,Tryz.results233];go_simp) rfl ?_
  exact(Q9.same H.out rfl rfl Qb.now)
theorem Qel (g:Nat) (p:Qh) (key:ByteArray) (value:Int) (text:ByteArray) (S3 S5:List Nat) (w:World) (h:Zi w g p S3 S5) (hp:XI p.core) (_hx:QZ ⟨Zd,key,value,text⟩):
  Calls Tryz.prog 233 #[.pointer (some ⟨g,0,none⟩),.agg #[.string Zd,.string key,.int .i64 value,.string text]] w (Q9 g p (XL p.core ⟨Zd,key,value,text⟩) S3 S5 w):=by
 have hg:=h.lt
 obtain⟨A3,c3,A5,c5,q0,q1,q2,q3,q4,q5,k3,k5⟩:=h.ex
 have f0:=h.fr 0 (by omega);have f1:=h.fr 1 (by omega);have f2:=h.fr 2 (by omega);have f3:=h.fr 3 (by omega);have f4:=h.fr 4 (by omega)
 obtain⟨t0,t1,t2,t3,t4,t5,t6,t7,t8⟩:=Qdm
 obtain⟨hnum0,hnum1⟩:0<=p.core.count/\p.core.count<=999:=by obtain⟨_,_,_,_,hn,_⟩:=hp;exact hn
 have gg1:g<w.heap.size+1:=by omega
 have gg2:g<w.heap.size+1+1:=by omega
 have CU:=Qd (fun W=>ZD p.core.count W ⟨hnum0,hnum1⟩)
 have H:=Qd h
 clear h
 rw [vh rfl]
 go_enter Tryz.func233,Tryz.ntmps233
 cases hb:p.core.broken
 all_goals
  rw [hb] at q2
  go_wp2_with fail
  refine bodyPost_ret (v:=Zt (Qj 0 0 0 0)) (by simp only [Zt,Qj,results,Tryz.results233];go_simp) rfl ?_
  exact(Q9.wr H.out rfl Qb.now rfl rfl (by go_simp) (by go_simp) (by go_simp) (by go_simp) (by go_simp) (by go_simp) (fun o=>by first|rfl|go_simp|(simp [hg];done)))
theorem QdM (g:Nat) (p:Qh) (key:ByteArray) (value:Int) (text:ByteArray) (S3 S5:List Nat) (w:World) (h:Zi w g p S3 S5) (hp:XI p.core) (_hx:QZ ⟨QG,key,value,text⟩):
  Calls Tryz.prog 233 #[.pointer (some ⟨g,0,none⟩),.agg #[.string QG,.string key,.int .i64 value,.string text]] w (Q9 g p (XL p.core ⟨QG,key,value,text⟩) S3 S5 w):=by
 have hg:=h.lt
 obtain⟨A3,c3,A5,c5,q0,q1,q2,q3,q4,q5,k3,k5⟩:=h.ex
 have f0:=h.fr 0 (by omega);have f1:=h.fr 1 (by omega);have f2:=h.fr 2 (by omega);have f3:=h.fr 3 (by omega);have f4:=h.fr 4 (by omega)
 obtain⟨t0,t1,t2,t3,t4,t5,t6,t7,t8⟩:=QgK
 obtain⟨hnum0,hnum1⟩:0<=p.core.count/\p.core.count<=999:=by obtain⟨_,_,_,_,hn,_⟩:=hp;exact hn
 have gg1:g<w.heap.size+1:=by omega
 have gg2:g<w.heap.size+1+1:=by omega
 have CU:=Qd (fun W=>ZD p.core.count W ⟨hnum0,hnum1⟩)
 have H:=Qd h
 clear h
 rw [xt rfl]
 cases hb:p.core.broken
 ·rw [hb] at q2
  rw [if_neg (by simp)]
  cases ho:p.core.on
  ·rw [ho] at q1
   rw [if_neg (by simp)]
   go_enter Tryz.func233,Tryz.ntmps233
   go_wp2_with fail
   refine bodyPost_ret (v:=Zt (Qj 2 0 0 0)) (by simp only [Zt,Qj,results,Tryz.results233];go_simp) rfl ?_
   exact(Q9.same H.out rfl rfl Qb.now)
  ·rw [ho] at q1
   rw [if_pos rfl]
   go_enter Tryz.func233,Tryz.ntmps233
   go_wp2_with fail
   refine bodyPost_ret (v:=Zt (Qj 0 0 0 0)) (by simp only [Zt,Qj,results,Tryz.results233];go_simp) rfl ?_
   exact(Q9.wr H.out rfl Qb.now rfl rfl (by go_simp) (by go_simp) (by go_simp) (by go_simp) (by go_simp) (by go_simp) (fun o=>by first|rfl|go_simp|(simp [hg];done)))
 ·rw [hb] at q2
  rw [if_pos rfl]
  go_enter Tryz.func233,Tryz.ntmps233
  go_wp2_with fail
  refine bodyPost_ret (v:=Zt (Qj 3 0 0 0)) (by simp only [Zt,Qj,results,Tryz.results233];go_simp) rfl ?_
  exact(Q9.same H.out rfl rfl Qb.now)
theorem QcK (g:Nat) (p:Qh) (key:ByteArray) (value:Int) (text:ByteArray) (S3 S5:List Nat) (w:World) (h:Zi w g p S3 S5) (hp:XI p.core) (_hx:QZ ⟨Qr,key,value,text⟩):
  Calls Tryz.prog 233 #[.pointer (some ⟨g,0,none⟩),.agg #[.string Qr,.string key,.int .i64 value,.string text]] w (Q9 g p (XL p.core ⟨Qr,key,value,text⟩) S3 S5 w):=by
 have hg:=h.lt
 obtain⟨A3,c3,A5,c5,q0,q1,q2,q3,q4,q5,k3,k5⟩:=h.ex
 have f0:=h.fr 0 (by omega);have f1:=h.fr 1 (by omega);have f2:=h.fr 2 (by omega);have f3:=h.fr 3 (by omega);have f4:=h.fr 4 (by omega)
 obtain⟨t0,t1,t2,t3,t4,t5,t6,t7,t8⟩:=QfF
 obtain⟨hnum0,hnum1⟩:0<=p.core.count/\p.core.count<=999:=by obtain⟨_,_,_,_,hn,_⟩:=hp;exact hn
 have gg1:g<w.heap.size+1:=by omega
 have gg2:g<w.heap.size+1+1:=by omega
 have CU:=Qd (fun W=>ZD p.core.count W ⟨hnum0,hnum1⟩)
 have H:=Qd h
 clear h
 rw [yp rfl]
 cases hb:p.core.broken
 ·rw [hb] at q2
  rw [if_neg (by simp)]
  cases ho:p.core.on
  ·rw [ho] at q1
   rw [if_neg (by simp)]
   go_enter Tryz.func233,Tryz.ntmps233
   go_wp2_with fail
   refine(CU.out _).mono ?_
   rintro e w1 ⟨rfl,rfl⟩
   go_wp2_with fail
   refine bodyPost_ret (v:=Zt (Qj 0 0 0 0)) (by simp only [Zt,Qj,results,Tryz.results233];go_simp) rfl ?_
   exact(Q9.wr H.out rfl Qb.now rfl rfl (by go_simp) (by go_simp) (by go_simp) (by go_simp) (by go_simp) (by go_simp) (fun o=>by first|rfl|go_simp|(simp [hg];done)))
  ·rw [ho] at q1
   rw [if_pos rfl]
   go_enter Tryz.func233,Tryz.ntmps233
   go_wp2_with fail
   refine bodyPost_ret (v:=Zt (Qj 3 0 0 0)) (by simp only [Zt,Qj,results,Tryz.results233];go_simp) rfl ?_
   exact(Q9.wr H.out rfl Qb.now rfl rfl (by go_simp) (by go_simp) (by go_simp) (by go_simp) (by go_simp) (by go_simp) (fun o=>by first|rfl|go_simp|(simp [hg];done)))
 ·rw [hb] at q2
  rw [if_pos rfl]
  go_enter Tryz.func233,Tryz.ntmps233
  go_wp2_with fail
  refine bodyPost_ret (v:=Zt (Qj 3 0 0 0)) (by simp only [Zt,Qj,results,Tryz.results233];go_simp) rfl ?_
  exact(Q9.same H.out rfl rfl Qb.now)
theorem Qgt (b:Bool) (value:Int):(value==1 || b&&!(value==0))=(if value=0 then false else if value=1 then true else b):=by
 by_cases h0:value=0
 ·subst h0;simp
 ·by_cases h1:value=1
  ·subst h1;simp
  ·have z0:(value==0)=false:=beq_false_of_ne h0
   have z1:(value==1)=false:=beq_false_of_ne h1
   rw [z0,z1,if_neg h0,if_neg h1];simp
theorem Qem (g:Nat) (p:Qh) (key:ByteArray) (value:Int) (text:ByteArray) (S3 S5:List Nat) (w:World) (h:Zi w g p S3 S5) (hp:XI p.core) (_hx:QZ ⟨QJ,key,value,text⟩):
  Calls Tryz.prog 233 #[.pointer (some ⟨g,0,none⟩),.agg #[.string QJ,.string key,.int .i64 value,.string text]] w (Q9 g p (XL p.core ⟨QJ,key,value,text⟩) S3 S5 w):=by
 have hg:=h.lt
 obtain⟨A3,c3,A5,c5,q0,q1,q2,q3,q4,q5,k3,k5⟩:=h.ex
 have f0:=h.fr 0 (by omega);have f1:=h.fr 1 (by omega);have f2:=h.fr 2 (by omega);have f3:=h.fr 3 (by omega);have f4:=h.fr 4 (by omega)
 obtain⟨t0,t1,t2,t3,t4,t5,t6,t7,t8⟩:=yI
 obtain⟨hnum0,hnum1⟩:0<=p.core.count/\p.core.count<=999:=by obtain⟨_,_,_,_,hn,_⟩:=hp;exact hn
 have gg1:g<w.heap.size+1:=by omega
 have gg2:g<w.heap.size+1+1:=by omega
 have CU:=Qd (fun W=>ZD p.core.count W ⟨hnum0,hnum1⟩)
 have H:=Qd h
 clear h
 rw [wW rfl]
 cases hb:p.core.broken
 ·rw [hb] at q2
  rw [if_neg (by simp)]
  rw [Qgt]
  by_cases h0:value=0
  ·subst h0
   go_enter Tryz.func233,Tryz.ntmps233
   go_wp2_with fail
   refine(CU.out _).mono ?_
   rintro e w1 ⟨rfl,rfl⟩
   go_wp2_with fail
   refine bodyPost_ret (v:=Zt (Qj 0 (GT p.core.count) 0 0)) (by simp only [Zt,Qj,results,Tryz.results233];go_simp) rfl ?_
   exact(Q9.wr H.out rfl Qb.now rfl rfl (by go_simp) (by go_simp) (by go_simp) (by go_simp) (by go_simp) (by go_simp) (fun o=>by first|rfl|go_simp|(simp [hg];done)))
  ·by_cases h1:value=1
   ·subst h1
    go_enter Tryz.func233,Tryz.ntmps233
    go_wp2_with fail
    refine(CU.out _).mono ?_
    rintro e w1 ⟨rfl,rfl⟩
    go_wp2_with fail
    refine bodyPost_ret (v:=Zt (Qj 0 (GT p.core.count) 0 0)) (by simp only [Zt,Qj,results,Tryz.results233];go_simp) rfl ?_
    exact(Q9.wr H.out rfl Qb.now rfl rfl (by go_simp) (by go_simp) (by go_simp) (by go_simp) (by go_simp) (by go_simp) (fun o=>by first|rfl|go_simp|(simp [hg];done)))
   ·have z0:(value==0)=false:=by simpa using h0
    have z1:(value==1)=false:=by simpa using h1
    rw [if_neg h0,if_neg h1]
    clear h0 h1
    go_enter Tryz.func233,Tryz.ntmps233
    go_wp2_with fail
    refine(CU.out _).mono ?_
    rintro e w1 ⟨rfl,rfl⟩
    go_wp2_with fail
    refine bodyPost_ret (v:=Zt (Qj 0 (GT p.core.count) 0 0)) (by simp only [Zt,Qj,results,Tryz.results233];go_simp) rfl ?_
    exact(Q9.wr H.out rfl Qb.now rfl rfl (by go_simp) (by go_simp) (by go_simp) (by go_simp) (by go_simp) (by go_simp) (fun o=>by first|rfl|go_simp|(simp [hg];done)))
 ·rw [hb] at q2
  rw [if_pos rfl]
  go_enter Tryz.func233,Tryz.ntmps233
  go_wp2_with fail
  refine bodyPost_ret (v:=Zt (Qj 3 0 0 0)) (by simp only [Zt,Qj,results,Tryz.results233];go_simp) rfl ?_
  exact(Q9.same H.out rfl rfl Qb.now)
theorem Qd1 (g:Nat) (p:Qh) (key:ByteArray) (value:Int) (text:ByteArray) (S3 S5:List Nat) (w:World) (h:Zi w g p S3 S5) (hp:XI p.core) (_hx:QZ ⟨Zq,key,value,text⟩) (hE:Km w):
  Calls Tryz.prog 233 #[.pointer (some ⟨g,0,none⟩),.agg #[.string Zq,.string key,.int .i64 value,.string text]] w (Q9 g p (XL p.core ⟨Zq,key,value,text⟩) S3 S5 w):=by
 have hg:=h.lt
 obtain⟨A3,c3,A5,c5,q0,q1,q2,q3,q4,q5,k3,k5⟩:=h.ex
 have f0:=h.fr 0 (by omega);have f1:=h.fr 1 (by omega);have f2:=h.fr 2 (by omega);have f3:=h.fr 3 (by omega);have f4:=h.fr 4 (by omega)
 obtain⟨t0,t1,t2,t3,t4,t5,t6,t7,t8⟩:=Qgn
 obtain⟨hnum0,hnum1⟩:0<=p.core.count/\p.core.count<=999:=by obtain⟨_,_,_,_,hn,_⟩:=hp;exact hn
 have gg1:g<w.heap.size+1:=by omega
 have gg2:g<w.heap.size+1+1:=by omega
 have CU:=Qd (fun W=>ZD p.core.count W ⟨hnum0,hnum1⟩)
 have H:=Qd h
 clear h
 rw [wR rfl]
 cases hb:p.core.broken
 ·rw [hb] at q2
  rw [if_neg (by simp)]
  have hck:∀c∈p.core.cells,c.key.size<=1048576:=fun c hc=>by
   obtain⟨_,_,hcc,_⟩:=hp
   have:=((UJ _).1 hcc).2.1 c hc
   have:=this.1.2.1
   omega
  have hcl:p.core.cells.length<=1048576:=by
   obtain⟨_,_,hcc,_⟩:=hp
   have:=hcc.1
   omega
  have FC:=Qd (fun W (hW:Qb [] w W)=>Jn p.core.cells _ w.heap.size W (k3.rd.cz hW (Nat.le_refl _)) hW.size hcl hck (hE.keep hW))
  obtain⟨s,hs⟩:∃s,s=VJ p.core.cells:=⟨_,rfl⟩
  rw [<-hs] at FC ⊢
  clear hs hck hE
  go_enter Tryz.func233,Tryz.ntmps233
  go_wp2_with fail
  refine(FC.out _ Qb.now).mono ?_
  rintro e w1 ⟨rfl,c1⟩
  obtain⟨y1,_,s1⟩:=c1.cells
  have s2:w.heap.size+1<w1.heap.size:=by simp at s1;omega
  have cr:=fun o=>y1 (w.heap.size+1) o (by simp)
  have d1:Qb [] w w1:=Qb.tz ((Qb.refl _ _ |>.alloc _) |>.alloc _) c1
  go_wp2_with fail
  refine bodyPost_ret (v:=Zt (⟨0,0,s,0,0⟩)) (by simp only [Zt,results,Tryz.results233];go_simp) rfl ?_
  exact(Q9.same H.out rfl rfl (Qb.to d1))
 ·rw [hb] at q2
  rw [if_pos rfl]
  go_enter Tryz.func233,Tryz.ntmps233
  go_wp2_with fail
  refine bodyPost_ret (v:=Zt (Qj 3 0 0 0)) (by simp only [Zt,Qj,results,Tryz.results233];go_simp) rfl ?_
  exact(Q9.same H.out rfl rfl Qb.now)
theorem jc (g:Nat) (p:Qh) (key:ByteArray) (value:Int) (text:ByteArray) (S3 S5:List Nat) (w:World) (h:Zi w g p S3 S5) (hp:XI p.core):
  Calls Tryz.prog 252 #[.pointer (some ⟨g,0,none⟩),.agg #[.string Q8,.string key,.int .i64 value,.string text]] w (Q9 g p (Wx p.core ⟨Q8,key,value,text⟩) S3 S5 w):=by
 have hg:=h.lt
 have hl3:=h.lt3
 obtain⟨A3,c3,A5,c5,q0,q1,q2,q3,q4,q5,k3,k5⟩:=h.ex
 have f0:=h.fr 0 (by omega);have f1:=h.fr 1 (by omega);have f2:=h.fr 2 (by omega);have f3:=h.fr 3 (by omega);have f4:=h.fr 4 (by omega)
 have tG:(ByteArray.toList Q8== [71,101,116])=true:=by rw [ByteArray.toList_eq];decide
 obtain⟨f,hkf,hcc,hc1,⟨hnum0,hnum1⟩,hon,hrun⟩:=hp
 have A1:=Qhb (UE hkf)
 have hrk:QbH p.core.kind=has f 0:=by unfold QbH;rw [hkf];rfl
 have KF:=Qd (fun W=>(ZP p.core.kind W).mono (Wv.some_ hkf))
 have ASC:=Qd (Jk hcc)
 have hl4:=hcc.1
 have gg1:g<w.heap.size+1:=by omega
 have gg2:g<w.heap.size+1+1:=by omega
 have CU:=Qd (fun W=>ZD p.core.count W ⟨hnum0,hnum1⟩)
 have H:=Qd h
 obtain⟨A,cap,e,h0,h1,hrow⟩:=Za k3.rd
 simp only [Value.slice.injEq,true_and] at e
 obtain⟨e1,e2⟩:=e
 subst e1 e2
 unfold maxLen at h1
 have K3:=Qd k3
 clear hkf hcc hc1 hon hrun h k3 k5
 by_cases hoff:has f 0=true/\p.core.on=false
 ·have K:Wx p.core ⟨Q8,key,value,text⟩=(p.core,Qj 2 0 0 0):=by unfold Wx;rw [hrk,if_pos hoff]
  rw [hoff.1] at A1
  rw [hoff.2] at q1
  rw [K]
  clear hoff
  go_enter Tryz.func252,Tryz.ntmps252
  go_wp2_with fail
  refine(KF.out _).mono ?_
  rintro e w1 ⟨rfl,rfl⟩
  go_wp2_with fail
  refine bodyPost_ret (v:=Zt (Qj 2 0 0 0)) (by simp only [Zt,Qj,results,Tryz.results252];go_simp) rfl ?_
  exact(Q9.same H.out rfl rfl Qb.now)
 have K:=Qd (show Wx p.core ⟨Q8,key,value,text⟩=(p.core,match Vi p.core.cells key with|some v=>Qj 0 v 0 0|none=>Qj 4 0 0 0) by unfold Wx;rw [hrk,if_neg hoff,if_pos rfl];rfl)
 have hcs:has f 0=false∨(has f 0=true/\p.core.on=true):=by
  cases hb:has f 0 with
  |false=>exact .inl rfl
  |true=>right;refine⟨rfl,?_⟩;cases hq:p.core.on with
   |false=>exact absurd ⟨hb,hq⟩ hoff
   |true=>rfl
 clear hoff hrk
 have tt1:w.heap.size<w.heap.size+1+1:=by omega
 rcases hcs with hr|⟨hr,ho⟩
 all_goals
  rw [hr] at A1
  try rw [ho] at q1
  go_enter Tryz.func252,Tryz.ntmps252
  go_wp2_with fail
  refine(KF.out _).mono ?_
  rintro e w1 ⟨rfl,rfl⟩
  go_wp2_with fail
  go_loopw [7] (fun i wr=>∃k:Nat,k<=p.core.cells.length/\i= .int .i64 k/\Hid (∀j (hj:j<p.core.cells.length),j<k->Op.bytesLess p.core.cells[j].key.toList key.toList=true)/\Qb [] ((w.alloc (.cells #[.string Q8,.string key,.int .i64 value,.string text] 42)).alloc (.cells #[.int .i64 0,.int .i64 0,.string ⟨#[]⟩,.int .i64 0,.int .i64 0] 131)) wr) (fun i _=>p.core.cells.length-(intOf i).toNat)
  case atStart=>exact⟨0,Nat.zero_le _,rfl,Qd (fun j _ hj0=>absurd hj0 (Nat.not_lt_zero _)),Qb.refl _ _⟩
  case round=>
   obtain⟨k,hk,rfl,HB,hc⟩:=hrel
   have d0:Qb [] w wr:=Qb.tz ((Qb.refl _ _ |>.alloc _) |>.alloc _) hc
   obtain⟨y,z,sz⟩:=hc.cells
   have rk:wr.cell? ⟨w.heap.size,1,none⟩=some (.string key):=(y w.heap.size 1 (by simp;omega)).trans (by go_simp)
   have rv:wr.cell? ⟨w.heap.size,2,none⟩=some (.int .i64 value):=(y w.heap.size 2 (by simp;omega)).trans (by go_simp)
   have rm:wr.cell? ⟨w.heap.size,0,none⟩=some (.string Q8):=(y w.heap.size 0 (by simp;omega)).trans (by go_simp)
   have rr:=fun o=>y (w.heap.size+1) o (by simp)
   have fr:=fun o=>z (w.heap.size+1) o (by simp)
   have cg:=fun o=>(y g o (by simp;omega)).trans (show _=w.cell? ⟨g,o,none⟩ by go_simp)
   have fg:=fun o=>(z g o (by simp;omega)).trans (show _=w.frozen? ⟨g,o,none⟩ by go_simp)
   have s1:w.heap.size+1<wr.heap.size:=by simp at sz;omega
   have s2:w.heap.size<wr.heap.size:=by omega
   have s3:g<wr.heap.size:=by omega
   have q3':=(cg 3).trans q3
   have q4':=(cg 4).trans q4
   clear y z sz
   by_cases hlt:k<p.core.cells.length
   ·obtain⟨b,off,rfl,hb,p0,p1⟩:=Xr (hrow.cz d0 (Nat.le_refl _)) k hlt
    have hd:decide ((k:Int)<(p.core.cells.length:Int))=true:=by simp;omega
    have hbw:b<wr.heap.size:=by have:=d0.size;omega
    cases hbl:Op.bytesLess p.core.cells[k].key.toList key.toList
    ·have FS:=Qd (KD ASC.out HB.out (fun _=>hbl))
     have PA:=Qd (yJ (v:=value) hk HB.out (fun _=>hbl))
     simp only [List.getElem?_eq_getElem hlt,Option.bind_some] at FS
     simp only [List.getElem?_eq_getElem hlt,Option.any_some] at PA
     go_wp2_with fail
     go_quiet (fail)
     go_wp2_with fail
     cases hq:(p.core.cells[k].key.toList==key.toList)
     ·have hne:¬p.core.cells[k].key=key:=fun e=>by rw [e] at hq;simp at hq
      have K2:=Qd (K.out.trans (by rw [FS.out,if_neg hne]))
      clear K FS PA
      go_quiet (fail)
      go_wp2_with fail
      refine bodyPost_ret (v:=Zt (Qj 4 0 0 0)) (by simp only [Zt,Qj,results,Tryz.results252];go_simp) rfl ?_
      rw [K2.out]
      exact(Q9.same H.out rfl rfl (by first|exact Qb.to d0|exact Qb.now))
     ·have he:p.core.cells[k].key=key:=wX.1 (by simpa using hq)
      have K2:=Qd (K.out.trans (by rw [FS.out,if_pos he]))
      clear K FS PA he
      go_quiet (fail)
      go_wp2_with fail
      refine bodyPost_ret (v:=Zt (Qj 0 p.core.cells[k].value 0 0)) (by simp only [Zt,Qj,results,Tryz.results252];go_simp) rfl ?_
      rw [K2.out]
      exact(Q9.same H.out rfl rfl (by first|exact Qb.to d0|exact Qb.now))
    ·go_wp2_with fail
     go_quiet (fail)
     go_wp2_with fail
     go_roundw
     case rel=>exact⟨k+1,by omega,by go_num,Qd (fun j hj hj1=>(Nat.lt_succ_iff_lt_or_eq.1 hj1).elim (HB.out j hj) (fun e=>by subst e;exact hbl)),by repeat(first|with_reducible exact hc|with_reducible refine Qb.drew ?_|with_reducible refine Qb.drewN ?_ _)⟩
     case measure=>simp [intOf];omega
   ·obtain rfl:k=p.core.cells.length:=by omega
    have hd:decide ((p.core.cells.length:Int)<(p.core.cells.length:Int))=false:=by simp
    have FS:=Qd (KD (k:=key) ASC.out HB.out (fun h=>absurd h hlt))
    simp only [List.getElem?_eq_none (Nat.le_refl _),Option.bind_none] at FS
    have K2:=Qd (K.out.trans (by rw [FS.out]))
    clear K FS hlt
    go_wp2_with fail
    go_quiet (fail)
    go_wp2_with fail
    go_quiet (fail)
    go_wp2_with fail
    refine bodyPost_ret (v:=Zt (Qj 4 0 0 0)) (by simp only [Zt,Qj,results,Tryz.results252];go_simp) rfl ?_
    rw [K2.out]
    exact(Q9.same H.out rfl rfl (by first|exact Qb.to d0|exact Qb.now))
theorem kX (g:Nat) (p:Qh) (key:ByteArray) (value:Int) (text:ByteArray) (S3 S5:List Nat) (w:World) (h:Zi w g p S3 S5) (hp:XI p.core):
  Calls Tryz.prog 252 #[.pointer (some ⟨g,0,none⟩),.agg #[.string Q7,.string key,.int .i64 value,.string text]] w (Q9 g p (Wx p.core ⟨Q7,key,value,text⟩) S3 S5 w):=by
 have hg:=h.lt
 have hl3:=h.lt3
 obtain⟨A3,c3,A5,c5,q0,q1,q2,q3,q4,q5,k3,k5⟩:=h.ex
 have f0:=h.fr 0 (by omega);have f1:=h.fr 1 (by omega);have f2:=h.fr 2 (by omega);have f3:=h.fr 3 (by omega);have f4:=h.fr 4 (by omega)
 have tG:(ByteArray.toList Q7== [71,101,116])=false:=by rw [ByteArray.toList_eq];decide
 obtain⟨f,hkf,hcc,hc1,⟨hnum0,hnum1⟩,hon,hrun⟩:=hp
 have A1:=Qhb (UE hkf)
 have hrk:QbH p.core.kind=has f 0:=by unfold QbH;rw [hkf];rfl
 have KF:=Qd (fun W=>(ZP p.core.kind W).mono (Wv.some_ hkf))
 have ASC:=Qd (Jk hcc)
 have hl4:=hcc.1
 have gg1:g<w.heap.size+1:=by omega
 have gg2:g<w.heap.size+1+1:=by omega
 have CU:=Qd (fun W=>ZD p.core.count W ⟨hnum0,hnum1⟩)
 have H:=Qd h
 obtain⟨A,cap,e,h0,h1,hrow⟩:=Za k3.rd
 simp only [Value.slice.injEq,true_and] at e
 obtain⟨e1,e2⟩:=e
 subst e1 e2
 unfold maxLen at h1
 have K3:=Qd k3
 clear hkf hcc hc1 hon hrun h k3 k5
 by_cases hoff:has f 0=true/\p.core.on=false
 ·have K:Wx p.core ⟨Q7,key,value,text⟩=(p.core,Qj 2 0 0 0):=by unfold Wx;rw [hrk,if_pos hoff]
  rw [hoff.1] at A1
  rw [hoff.2] at q1
  rw [K]
  clear hoff
  go_enter Tryz.func252,Tryz.ntmps252
  go_wp2_with fail
  refine(KF.out _).mono ?_
  rintro e w1 ⟨rfl,rfl⟩
  go_wp2_with fail
  refine bodyPost_ret (v:=Zt (Qj 2 0 0 0)) (by simp only [Zt,Qj,results,Tryz.results252];go_simp) rfl ?_
  exact(Q9.same H.out rfl rfl Qb.now)
 have K:=Qd (show Wx p.core ⟨Q7,key,value,text⟩=if Vi p.core.cells key=none/\4<=p.core.cells.length then(p.core,Qj 5 0 0 0) else({p.core with cells:=XX p.core.cells key value,count:=GT p.core.count},Qj 0 (XX p.core.cells key value).length 0 0) by unfold Wx;rw [hrk,if_neg hoff,if_neg (by simp [xW])])
 have hcs:has f 0=false∨(has f 0=true/\p.core.on=true):=by
  cases hb:has f 0 with
  |false=>exact .inl rfl
  |true=>right;refine⟨rfl,?_⟩;cases hq:p.core.on with
   |false=>exact absurd ⟨hb,hq⟩ hoff
   |true=>rfl
 clear hoff hrk
 have tt1:w.heap.size<w.heap.size+1+1:=by omega
 rcases hcs with hr|⟨hr,ho⟩
 all_goals
  rw [hr] at A1
  try rw [ho] at q1
  go_enter Tryz.func252,Tryz.ntmps252
  go_wp2_with fail
  refine(KF.out _).mono ?_
  rintro e w1 ⟨rfl,rfl⟩
  go_wp2_with fail
  go_loopw [7] (fun i wr=>∃k:Nat,k<=p.core.cells.length/\i= .int .i64 k/\Hid (∀j (hj:j<p.core.cells.length),j<k->Op.bytesLess p.core.cells[j].key.toList key.toList=true)/\Qb [] ((w.alloc (.cells #[.string Q7,.string key,.int .i64 value,.string text] 42)).alloc (.cells #[.int .i64 0,.int .i64 0,.string ⟨#[]⟩,.int .i64 0,.int .i64 0] 131)) wr) (fun i _=>p.core.cells.length-(intOf i).toNat)
  case atStart=>exact⟨0,Nat.zero_le _,rfl,Qd (fun j _ hj0=>absurd hj0 (Nat.not_lt_zero _)),Qb.refl _ _⟩
  case round=>
   obtain⟨k,hk,rfl,HB,hc⟩:=hrel
   have d0:Qb [] w wr:=Qb.tz ((Qb.refl _ _ |>.alloc _) |>.alloc _) hc
   obtain⟨y,z,sz⟩:=hc.cells
   have rk:wr.cell? ⟨w.heap.size,1,none⟩=some (.string key):=(y w.heap.size 1 (by simp;omega)).trans (by go_simp)
   have rv:wr.cell? ⟨w.heap.size,2,none⟩=some (.int .i64 value):=(y w.heap.size 2 (by simp;omega)).trans (by go_simp)
   have rm:wr.cell? ⟨w.heap.size,0,none⟩=some (.string Q7):=(y w.heap.size 0 (by simp;omega)).trans (by go_simp)
   have rr:=fun o=>y (w.heap.size+1) o (by simp)
   have fr:=fun o=>z (w.heap.size+1) o (by simp)
   have cg:=fun o=>(y g o (by simp;omega)).trans (show _=w.cell? ⟨g,o,none⟩ by go_simp)
   have fg:=fun o=>(z g o (by simp;omega)).trans (show _=w.frozen? ⟨g,o,none⟩ by go_simp)
   have s1:w.heap.size+1<wr.heap.size:=by simp at sz;omega
   have s2:w.heap.size<wr.heap.size:=by omega
   have s3:g<wr.heap.size:=by omega
   have q3':=(cg 3).trans q3
   have q4':=(cg 4).trans q4
   clear y z sz
   by_cases hlt:k<p.core.cells.length
   ·obtain⟨b,off,rfl,hb,p0,p1⟩:=Xr (hrow.cz d0 (Nat.le_refl _)) k hlt
    have hd:decide ((k:Int)<(p.core.cells.length:Int))=true:=by simp;omega
    have hbw:b<wr.heap.size:=by have:=d0.size;omega
    cases hbl:Op.bytesLess p.core.cells[k].key.toList key.toList
    ·have FS:=Qd (KD ASC.out HB.out (fun _=>hbl))
     have PA:=Qd (yJ (v:=value) hk HB.out (fun _=>hbl))
     simp only [List.getElem?_eq_getElem hlt,Option.bind_some] at FS
     simp only [List.getElem?_eq_getElem hlt,Option.any_some] at PA
     go_wp2_with fail
     go_quiet (fail)
     go_wp2_with fail
     cases hq:(p.core.cells[k].key.toList==key.toList)
     ·have hne:¬p.core.cells[k].key=key:=fun e=>by rw [e] at hq;simp at hq
      simp only [hne,if_false] at FS
      simp only [hne,decide_false,Bool.false_eq_true,if_false] at PA
      by_cases h4:4<=p.core.cells.length
      ·have K2:=Qd (K.out.trans (by rw [FS.out,if_pos ⟨rfl,h4⟩]))
       have h4':(4:Int)<=(p.core.cells.length:Int):=by omega
       clear K FS PA hne
       go_quiet (fail)
       go_wp2_with fail
       refine bodyPost_ret (v:=Zt (Qj 5 0 0 0)) (by simp only [Zt,Qj,results,Tryz.results252];go_simp) rfl ?_
       rw [K2.out]
       exact(Q9.same H.out rfl rfl (by first|exact Qb.to d0|exact Qb.now))
      ·have K2:=Qd (K.out.trans (by rw [FS.out,if_neg (fun h=>h4 h.2)]))
       have h4':¬(4:Int)<=(p.core.cells.length:Int):=by omega
       clear K FS hne
       go_quiet (fail)
       go_wp2_with fail
       have hk3:k<=c3:=by omega
       have hk4:¬c3=k:=by omega
       have hk5:(0:Int)<=(k:Int):=by omega
       have HE:=Qd (qt K3.out.rd k)
       refine Wk (S:=(fun W=>W.cell? ⟨g,3,none⟩=some (.slice (some ⟨b,off,none⟩) p.core.cells.length c3)/\W.cell? ⟨w.heap.size,1,none⟩=some (.string key)/\W.cell? ⟨w.heap.size,2,none⟩=some (.int .i64 value))) (by kernel_rfl) ?_
       have hS0:=(show _/\_/\_ from⟨q3',rk,rv⟩)
       refine Qf.tk 0 22 hS0 (h:=?_)
       refine Qf.tk 1 2 hS0 (h:=?_)
       refine Qf.tk 2 3 hS0 (h:=?_)
       refine Qf.tk 3 4 hS0 (h:=?_)
       refine Qf.tk 4 6 hS0 (h:=?_)
       refine Qf.tk 5 6 hS0 (h:=?_)
       refine Qf.tk 6 7 hS0 (h:=?_)
       refine Qf.tk 8 9 hS0 (h:=?_)
       refine Qf.tk 9 12 hS0 (h:=?_)
       refine Qf.tk 10 11 hS0 (h:=?_)
       refine Qf.tk 11 12 hS0 (h:=?_)
       refine Qf.tk 12 13 hS0 (h:=?_)
       refine Qf.tk 15 16 hS0 (h:=?_)
       refine Qf.tk 16 17 hS0 (h:=?_)
       refine Qf.tk 17 18 hS0 (h:=?_)
       refine Qf.tk 18 20 hS0 (h:=?_)
       refine Qf.tk 19 20 hS0 (h:=?_)
       refine Qf.tk 20 21 hS0 (h:=?_)
       refine Qf.all (rs:=[7,13]) (by kernel_rfl) (by simp) ?_
       refine .cn (h:=fun K hK=>?_) (hs:=?_)
       case' refine_1=>
        refine Zx rfl (.const (.slice none 0 0)) (.tmp 76) _ rfl rfl rfl (ZE _ _ 189 _ 2 24 Tryz.underlying92 Ze rfl (by omega) (XG.nil wr 189 2 (Qb.refl _ _)) Qb.now _ _ _ (Zv (p.core.cells.take k)) (by rw [XN,List.length_take];omega) (HE.out.1 _ (Qb.tz d0 Qb.now)) (Yd _) (by omega) (by omega)) ?_;rintro A1 cap1 w1 ⟨hA1,hC1,_⟩
        simp only [Nat.zero_add,List.nil_append] at hA1 ⊢
        have hE1:Qb [] wr w1:=Qb.tz Qb.now hC1
        obtain⟨yy1,_,zz1⟩:=hE1.cells;have cg1:=fun o=>(yy1 g o (by omega)).trans (cg o);have ck1:=(yy1 w.heap.size 1 (by omega)).trans rk;have cv1:=(yy1 w.heap.size 2 (by omega)).trans rv
        clear hC1
        refine Y4 hK (⟨(cg1 3).trans q3,ck1,cv1⟩) (fun hS1=>?_)
        clear hK K
        refine Qf.on 13 (h:=fun K hK=>?_)
        go_simp
        refine Y4 hK (alc (alc j7) hS1) (fun hS2=>?_)
        clear hK K
        have hSJ:=hS2
       case' refine_2=>
        refine .cn (h:=fun K hK=>?_) (hs:=.nil)
        go_simp
        refine Y4 hK (alc (alc j7) hS0) (fun hS3=>?_)
        clear hK K
        refine Qf.on 7 (h:=fun K hK=>?_)
        refine Zx rfl (.const (.slice none 0 0)) (.tmp 76) _ rfl rfl rfl (ZE _ _ 189 _ 2 24 Tryz.underlying92 Ze rfl (by omega) (XG.nil wr 189 2 (Qb.refl _ _)) Qb.now _ _ _ (Zv (p.core.cells.take k)) (by rw [XN,List.length_take];omega) (HE.out.1 _ (Qb.tz d0 Qb.now)) (Yd _) (by omega) (by omega)) ?_;rintro A1 cap1 w1 ⟨hA1,hC1,_⟩
        simp only [Nat.zero_add,List.nil_append] at hA1 ⊢
        have hE1:Qb [] wr w1:=Qb.tz Qb.now hC1
        obtain⟨yy1,_,zz1⟩:=hE1.cells;have cg1:=fun o=>(yy1 g o (by omega)).trans (cg o);have ck1:=(yy1 w.heap.size 1 (by omega)).trans rk;have cv1:=(yy1 w.heap.size 2 (by omega)).trans rv
        have hC9:Qb [] _ w1:=hC1
        have nb0:=(hC9.cell (p:=⟨wr.heap.size,0,none⟩) (by simp) (by simp)).trans (Xj (wr.drewN _) _ _ rfl)
        have nb1:=(hC9.cell (p:=⟨wr.heap.size,1,none⟩) (by simp) (by simp)).trans (Xj (wr.drewN _) _ _ rfl)
        clear hC1 hC9
        refine Y4 hK (⟨(cg1 3).trans q3,ck1,cv1⟩) (fun hS4=>?_)
        clear hK K
        have hSJ:=hS4
       all_goals
        refine Qf.on 14 (h:=fun K hK=>?_)
        refine Zx rfl (.tmp 77) (.tmp 83) _ rfl rfl rfl (ZE _ _ 189 _ 2 24 Tryz.underlying92 Ze rfl (by omega) hA1 Qb.now _ _ _ ([.string key,.int .i64 value]) (by simp) (fun _=>⟨_,0,rfl,by intro j u hj;match j with|0|1=>cases hj;go_simp|j+2=>simp at hj⟩) (by intro u hu;simp at hu;rcases hu with rfl|rfl<;>rfl) (by omega) (by omega)) ?_;rintro A2 cap2 w2 ⟨hA2,hC2,_⟩
        have hE2:Qb [] wr w2:=hA2.chg
        obtain⟨yy2,_,zz2⟩:=hE2.cells;have cg2:=fun o=>(yy2 g o (by omega)).trans (cg o);have ck2:=(yy2 w.heap.size 1 (by omega)).trans rk;have cv2:=(yy2 w.heap.size 2 (by omega)).trans rv
        clear hC2
        refine Y4 hK (⟨(cg2 3).trans q3,ck2,cv2⟩) (fun hS5=>?_)
        clear hK K
        refine Qf.on 21 (h:=fun K hK=>?_)
        refine Zx rfl (.tmp 84) (.tmp 90) _ rfl rfl rfl (ZE _ _ 189 _ 2 24 Tryz.underlying92 Ze rfl (by omega) hA2 Qb.now _ _ _ (Zv (p.core.cells.drop k)) (by have h:=XN (p.core.cells.drop k);rw [List.length_drop] at h;omega) (fun hne=>by obtain⟨b9,o9,e9,hx9⟩:=HE.out.2 _ (d0.tz hE2) hne;cases e9;exact⟨_,_,rfl,hx9⟩) (Yd _) (by omega) (by omega)) ?_;rintro A9 cap9 w9 ⟨hA9,hC9,_⟩
        have hE9:Qb [] wr w9:=hA9.chg
        obtain⟨yy9,ff9,zz9⟩:=hE9.cells;have cg9:=fun o=>(yy9 g o (by omega)).trans (cg o);have ck9:=(yy9 w.heap.size 1 (by omega)).trans rk;have cv9:=(yy9 w.heap.size 2 (by omega)).trans rv
        clear hC9
        refine Y4 hK (⟨(cg9 3).trans q3,ck9,cv9⟩) (fun hS6=>?_)
        clear hK K
        refine Qf.tk 22 23 hS6 (h:=?_)
        refine Qf.tk 23 24 hS6 (h:=?_)
        refine Qf.on 24 (h:=fun K hK=>?_)
        go_simp
        refine Qar hK ?_
        clear hK K
        refine Qf.done (by kernel_rfl) ?_ _
        have hPL:(XX p.core.cells key value).length=k+1+(p.core.cells.length-k):=by rw [PA.out];simp only [List.length_append,List.length_cons,List.length_take,List.length_drop];omega
        have hPU:Zv (XX p.core.cells key value)=Zv (p.core.cells.take k)++([.string key,.int .i64 value] ++Zv (p.core.cells.drop k)):=by rw [PA.out];simp [Zv]
        obtain⟨N,hN⟩:∃N,N=k+1+(p.core.cells.length-k):=⟨_,rfl⟩
        rw [<-hN] at hA9 hPL ⊢
        have hA9c:XG wr w9 189 2 (.slice A9 N cap9) N ((Zv (XX p.core.cells key value)).map QK.v):=by rw [hPU,List.map_append,List.map_append, <-List.append_assoc];exact hA9
        obtain⟨hH9,hlo9⟩:=hA9c.has
        have hH9c:=Qd (show Yk w9 (cells (XX p.core.cells key value)) (.slice A9 (XX p.core.cells key value).length cap9) (VK (.slice A9 N cap9)) from by rw [Wg,hPL];exact hH9)
        have d9:Qb [g] w w9:=(d0.tz hE9).mono (by simp)
        have t3:=(cg9 3).trans q3
        have tg:=fun o=>(cg9 o)
        have t4:=(cg9 4).trans q4
        have ff:=fun o=>(ff9 g o (by omega)).trans (fg o)
        have t5:w.heap.size+1<w9.heap.size:=by omega
        have t6:g<w9.heap.size:=by omega
        have rr9:=fun o=>(yy9 (w.heap.size+1) o (by omega)).trans (rr o)
        have rf9:=fun o=>(ff9 (w.heap.size+1) o (by omega)).trans (fr o)
        have PL:=Qd hPL
        clear hA9 hA9c hH9 hPL hPU hN hS0 PA HE
        clear yy1 yy2 yy9 ff9 zz1 zz2 zz9 cg1 cg2 ck1 ck2 cv1 cv2 hA1 hA2 hE1 hE2 hE9
        clear rr fr
        go_wp2_with fail
        refine(CU.out _).mono ?_
        rintro e w8 ⟨rfl,hw8⟩
        subst hw8
        go_wp2_with fail
        refine bodyPost_ret (v:=Zt (Qj 0 N 0 0)) (by simp only [Zt,Qj,results,Tryz.results252];go_simp) rfl ?_
        rw [K2.out,PL.out]
        exact Q9.of (S3':=VK (.slice A9 N cap9)) (T:=[g]) (A3:=A9) (c3:=cap9) H.out rfl (Qb.to d9) (by simp) (fun x hx=>.inr (by have:=hlo9 x hx;omega)) rfl (by go_simp) (by go_simp) (by go_simp) (by show _=some (Value.slice A9 (XX p.core.cells key value).length cap9);rw [PL.out];go_simp) (by go_simp) (by go_simp) (fun o=>by simp only [World.frozen?_setCell];exact ff o) (hH9c.out.keep (S0:=[g,w.heap.size+1]) Qb.now (fun x hx=>by have:=hlo9 x hx;simp;omega))
     ·have he:p.core.cells[k].key=key:=wX.1 (by simpa using hq)
      simp only [he,if_true] at FS
      simp only [he,decide_true,if_true] at PA
      have K2:=Qd (K.out.trans (by rw [FS.out,if_neg (fun h=>by cases h.1)]))
      clear K FS
      obtain⟨g3,hg3,_⟩:∃g3,b=g3/\off=0:=by
       rcases K3.out.cases_ with ⟨h,_⟩|⟨g3,_,_,h,_⟩
       ·cases h
       ·cases h;exact⟨_,rfl,rfl⟩
      subst hg3
      subst_vars
      simp only [Nat.zero_add] at p0 p1
      obtain⟨kv,kf,kb⟩:=(K3.out.kz d0).cellVal hlt value
      have hgb:b≠g:=fun e=>by subst e;exact H.out.g3 kb
      have hb0:b<w.heap.size:=hb
      have KB:=Qd kb
      clear kv kb
      go_quiet (fail)
      go_wp2_with fail
      have ff:=fun o=>fg o
      have KVN:=Qd (fun n=>(((K3.out.kz (d0.drewN n)).cellVal hlt value).1))
      have PL:=Qd (show(XX p.core.cells p.core.cells[k].key value).length=p.core.cells.length by rw [PA.out,List.length_set])
      have dB:Qb [g,b] w wr:=d0.mono (by simp)
      go_region
      all_goals
       go_wp2_with fail
       refine(CU.out _).mono ?_
       rintro e w8 ⟨rfl,hw8⟩
       subst hw8
       go_wp2_with fail
       refine bodyPost_ret (v:=Zt (Qj 0 p.core.cells.length 0 0)) (by simp only [Zt,Qj,results,Tryz.results252];go_simp) rfl ?_
       rw [K2.out,PL.out]
       exact Q9.of (S3':=S3) (T:=[g,b]) (A3:=some ⟨b,0,none⟩) (c3:=c3) H.out rfl (Qb.to dB) (fun x hx=>by simp at hx;rcases hx with rfl|rfl;exact .inl rfl;exact .inr KB.out) (fun x hx=>.inl hx) rfl (by go_simp) (by go_simp) (by go_simp) (by show _=some (Value.slice (some ⟨b,0,none⟩) (XX p.core.cells p.core.cells[k].key value).length c3);rw [PL.out];go_simp) (by go_simp) (by go_simp) (fun o=>by simp only [World.frozen?_setCell,World.frozen?_drewN];exact ff o) (by
        show Yk _ (cells (XX p.core.cells p.core.cells[k].key value)) (.slice _ (XX p.core.cells p.core.cells[k].key value).length c3) S3
        rw [PL.out,PA.out]
        refine(KVN.out _).keep (S0:=[g,w.heap.size+1]) Qb.now (fun x hx=>?_)
        have h1:=H.out.lt3 x hx
        have h2:x≠g:=fun e=>by subst e;exact H.out.g3 hx
        simp;omega)
    ·go_wp2_with fail
     go_quiet (fail)
     go_wp2_with fail
     go_roundw
     case rel=>exact⟨k+1,by omega,by go_num,Qd (fun j hj hj1=>(Nat.lt_succ_iff_lt_or_eq.1 hj1).elim (HB.out j hj) (fun e=>by subst e;exact hbl)),by repeat(first|with_reducible exact hc|with_reducible refine Qb.drew ?_|with_reducible refine Qb.drewN ?_ _)⟩
     case measure=>simp [intOf];omega
   ·obtain rfl:k=p.core.cells.length:=by omega
    have hd:decide ((p.core.cells.length:Int)<(p.core.cells.length:Int))=false:=by simp
    have FS:=Qd (KD (k:=key) ASC.out HB.out (fun h=>absurd h hlt))
    have PA:=Qd (yJ (k:=key) (v:=value) (Nat.le_refl _) HB.out (fun h=>absurd h hlt))
    simp only [List.getElem?_eq_none (Nat.le_refl _),Option.bind_none] at FS
    simp only [List.getElem?_eq_none (Nat.le_refl _),Option.any_none,Bool.false_eq_true,if_false] at PA
    by_cases h4:4<=p.core.cells.length
    ·have K2:=Qd (K.out.trans (by rw [FS.out,if_pos ⟨rfl,h4⟩]))
     have h4':(4:Int)<=(p.core.cells.length:Int):=by omega
     clear K FS PA hlt
     go_wp2_with fail
     go_quiet (fail)
     go_wp2_with fail
     go_quiet (fail)
     go_wp2_with fail
     refine bodyPost_ret (v:=Zt (Qj 5 0 0 0)) (by simp only [Zt,Qj,results,Tryz.results252];go_simp) rfl ?_
     rw [K2.out]
     exact(Q9.same H.out rfl rfl (by first|exact Qb.to d0|exact Qb.now))
    ·have K2:=Qd (K.out.trans (by rw [FS.out,if_neg (fun h=>h4 h.2)]))
     have h4':¬(4:Int)<=(p.core.cells.length:Int):=by omega
     clear K FS hlt
     go_wp2_with fail
     go_quiet (fail)
     go_wp2_with fail
     go_quiet (fail)
     go_wp2_with fail
     have hk5:(0:Int)<=(p.core.cells.length:Int):=by omega
     rcases K3.out.cases_ with ⟨hnil,_⟩|⟨g3,cap3,_,hsl,_⟩
     ·simp only [Value.slice.injEq] at hnil
      obtain⟨e1,e2,e3⟩:=hnil
      subst e1 e3
      have z0:p.core.cells.length=0:=e2
      have HE:=Qd (qt K3.out.rd p.core.cells.length)
      refine Wk (S:=(fun W=>W.cell? ⟨g,3,none⟩=some (.slice none p.core.cells.length 0)/\W.cell? ⟨w.heap.size,1,none⟩=some (.string key)/\W.cell? ⟨w.heap.size,2,none⟩=some (.int .i64 value))) (by kernel_rfl) ?_
      have hS0:=(show _/\_/\_ from⟨q3',rk,rv⟩)
      refine Qf.tk 0 22 hS0 (h:=?_)
      refine Qf.tk 1 2 hS0 (h:=?_)
      refine Qf.tk 2 3 hS0 (h:=?_)
      refine Qf.tk 3 4 hS0 (h:=?_)
      refine Qf.tk 4 6 hS0 (h:=?_)
      refine Qf.tk 5 6 hS0 (h:=?_)
      refine Qf.tk 6 7 hS0 (h:=?_)
      refine Qf.tk 8 9 hS0 (h:=?_)
      refine Qf.tk 9 12 hS0 (h:=?_)
      refine Qf.tk 10 11 hS0 (h:=?_)
      refine Qf.tk 11 12 hS0 (h:=?_)
      refine Qf.tk 12 13 hS0 (h:=?_)
      refine Qf.tk 15 16 hS0 (h:=?_)
      refine Qf.tk 16 17 hS0 (h:=?_)
      refine Qf.tk 17 18 hS0 (h:=?_)
      refine Qf.tk 18 20 hS0 (h:=?_)
      refine Qf.tk 19 20 hS0 (h:=?_)
      refine Qf.tk 20 21 hS0 (h:=?_)
      refine Qf.all (rs:=[7,13]) (by kernel_rfl) (by simp) ?_
      refine .cn (h:=fun K hK=>?_) (hs:=?_)
      case' refine_1=>
       refine Zx rfl (.const (.slice none 0 0)) (.tmp 76) _ rfl rfl rfl (ZE _ _ 189 _ 2 24 Tryz.underlying92 Ze rfl (by omega) (XG.nil wr 189 2 (Qb.refl _ _)) Qb.now _ _ _ (Zv (p.core.cells.take p.core.cells.length)) (by rw [XN,List.length_take];omega) (HE.out.1 _ (Qb.tz d0 Qb.now)) (Yd _) (by omega) (by omega)) ?_;rintro A1 cap1 w1 ⟨hA1,hC1,_⟩
       simp only [Nat.zero_add,List.nil_append] at hA1 ⊢
       have hE1:Qb [] wr w1:=Qb.tz Qb.now hC1
       obtain⟨yy1,_,zz1⟩:=hE1.cells;have cg1:=fun o=>(yy1 g o (by omega)).trans (cg o);have ck1:=(yy1 w.heap.size 1 (by omega)).trans rk;have cv1:=(yy1 w.heap.size 2 (by omega)).trans rv
       clear hC1
       refine Y4 hK (⟨(cg1 3).trans q3,ck1,cv1⟩) (fun hS8=>?_)
       clear hK K
       refine Qf.on 13 (h:=fun K hK=>?_)
       go_simp
       refine Y4 hK (alc (alc j7) hS8) (fun hS9=>?_)
       clear hK K
       have hSJ:=hS9
      case' refine_2=>
       refine .cn (h:=fun K hK=>?_) (hs:=.nil)
       go_simp
       refine Y4 hK (alc (alc j7) hS0) (fun hS10=>?_)
       clear hK K
       refine Qf.on 7 (h:=fun K hK=>?_)
       refine Zx rfl (.const (.slice none 0 0)) (.tmp 76) _ rfl rfl rfl (ZE _ _ 189 _ 2 24 Tryz.underlying92 Ze rfl (by omega) (XG.nil wr 189 2 (Qb.refl _ _)) Qb.now _ _ _ (Zv (p.core.cells.take p.core.cells.length)) (by rw [XN,List.length_take];omega) (HE.out.1 _ (Qb.tz d0 Qb.now)) (Yd _) (by omega) (by omega)) ?_;rintro A1 cap1 w1 ⟨hA1,hC1,_⟩
       simp only [Nat.zero_add,List.nil_append] at hA1 ⊢
       have hE1:Qb [] wr w1:=Qb.tz Qb.now hC1
       obtain⟨yy1,_,zz1⟩:=hE1.cells;have cg1:=fun o=>(yy1 g o (by omega)).trans (cg o);have ck1:=(yy1 w.heap.size 1 (by omega)).trans rk;have cv1:=(yy1 w.heap.size 2 (by omega)).trans rv
       have hC9:Qb [] _ w1:=hC1
       have nb0:=(hC9.cell (p:=⟨wr.heap.size,0,none⟩) (by simp) (by simp)).trans (Xj (wr.drewN _) _ _ rfl)
       have nb1:=(hC9.cell (p:=⟨wr.heap.size,1,none⟩) (by simp) (by simp)).trans (Xj (wr.drewN _) _ _ rfl)
       clear hC1 hC9
       refine Y4 hK (⟨(cg1 3).trans q3,ck1,cv1⟩) (fun hS11=>?_)
       clear hK K
       have hSJ:=hS11
      all_goals
       refine Qf.on 14 (h:=fun K hK=>?_)
       refine Zx rfl (.tmp 77) (.tmp 83) _ rfl rfl rfl (ZE _ _ 189 _ 2 24 Tryz.underlying92 Ze rfl (by omega) hA1 Qb.now _ _ _ ([.string key,.int .i64 value]) (by simp) (fun _=>⟨_,0,rfl,by intro j u hj;match j with|0|1=>cases hj;go_simp|j+2=>simp at hj⟩) (by intro u hu;simp at hu;rcases hu with rfl|rfl<;>rfl) (by omega) (by omega)) ?_;rintro A2 cap2 w2 ⟨hA2,hC2,_⟩
       have hE2:Qb [] wr w2:=hA2.chg
       obtain⟨yy2,_,zz2⟩:=hE2.cells;have cg2:=fun o=>(yy2 g o (by omega)).trans (cg o);have ck2:=(yy2 w.heap.size 1 (by omega)).trans rk;have cv2:=(yy2 w.heap.size 2 (by omega)).trans rv
       clear hC2
       refine Y4 hK (⟨(cg2 3).trans q3,ck2,cv2⟩) (fun hS12=>?_)
       clear hK K
       refine Qf.on 21 (h:=fun K hK=>?_)
       refine Zx rfl (.tmp 84) (.tmp 90) _ rfl rfl rfl (ZE _ _ 189 _ 2 24 Tryz.underlying92 Ze rfl (by omega) hA2 Qb.now _ _ _ (Zv (p.core.cells.drop p.core.cells.length)) (by have h:=XN (p.core.cells.drop p.core.cells.length);rw [List.length_drop] at h;omega) (fun h=>absurd (by rw [List.drop_length];rfl) h) (Yd _) (by omega) (by omega)) ?_;rintro A9 cap9 w9 ⟨hA9,hC9,_⟩
       have hE9:Qb [] wr w9:=hA9.chg
       obtain⟨yy9,ff9,zz9⟩:=hE9.cells;have cg9:=fun o=>(yy9 g o (by omega)).trans (cg o);have ck9:=(yy9 w.heap.size 1 (by omega)).trans rk;have cv9:=(yy9 w.heap.size 2 (by omega)).trans rv
       clear hC9
       refine Y4 hK (⟨(cg9 3).trans q3,ck9,cv9⟩) (fun hS13=>?_)
       clear hK K
       refine Qf.tk 22 23 hS13 (h:=?_)
       refine Qf.tk 23 24 hS13 (h:=?_)
       refine Qf.on 24 (h:=fun K hK=>?_)
       go_simp
       refine Qar hK ?_
       clear hK K
       refine Qf.done (by kernel_rfl) ?_ _
       have hPL:(XX p.core.cells key value).length=1:=by rw [PA.out];simp only [List.length_append,List.length_cons,List.length_take,List.length_drop];omega
       have hPU:Zv (XX p.core.cells key value)=Zv (p.core.cells.take p.core.cells.length)++([.string key,.int .i64 value] ++Zv (p.core.cells.drop p.core.cells.length)):=by rw [PA.out];simp [Zv]
       have hA9c:XG wr w9 189 2 (.slice A9 1 cap9) 1 ((Zv (XX p.core.cells key value)).map QK.v):=by rw [hPU,List.map_append,List.map_append, <-List.append_assoc];exact hA9
       obtain⟨hH9,hlo9⟩:=hA9c.has
       have hH9c:=Qd (show Yk w9 (cells (XX p.core.cells key value)) (.slice A9 (XX p.core.cells key value).length cap9) (VK (.slice A9 1 cap9)) from by rw [Wg,hPL];exact hH9)
       have d9:Qb [g] w w9:=(d0.tz hE9).mono (by simp)
       have t3:=(cg9 3).trans q3
       have tg:=fun o=>(cg9 o)
       have t4:=(cg9 4).trans q4
       have ff:=fun o=>(ff9 g o (by omega)).trans (fg o)
       have t5:w.heap.size+1<w9.heap.size:=by omega
       have t6:g<w9.heap.size:=by omega
       have rr9:=fun o=>(yy9 (w.heap.size+1) o (by omega)).trans (rr o)
       have rf9:=fun o=>(ff9 (w.heap.size+1) o (by omega)).trans (fr o)
       have PL:=Qd hPL
       clear hA9 hA9c hH9 hPL hPU hS0 PA HE
       clear yy1 yy2 yy9 ff9 zz1 zz2 zz9 cg1 cg2 ck1 ck2 cv1 cv2 hA1 hA2 hE1 hE2 hE9
       clear rr fr
       go_wp2_with fail
       refine(CU.out _).mono ?_
       rintro e w8 ⟨rfl,hw8⟩
       subst hw8
       go_wp2_with fail
       refine bodyPost_ret (v:=Zt (Qj 0 1 0 0)) (by simp only [Zt,Qj,results,Tryz.results252];go_simp) rfl ?_
       rw [K2.out,PL.out]
       exact Q9.of (S3':=VK (.slice A9 1 cap9)) (T:=[g]) (A3:=A9) (c3:=cap9) H.out rfl (Qb.to d9) (by simp) (fun x hx=>.inr (by have:=hlo9 x hx;omega)) rfl (by go_simp) (by go_simp) (by go_simp) (by show _=some (Value.slice A9 (XX p.core.cells key value).length cap9);rw [PL.out];go_simp) (by go_simp) (by go_simp) (fun o=>by simp only [World.frozen?_setCell];exact ff o) (hH9c.out.keep (S0:=[g,w.heap.size+1]) Qb.now (fun x hx=>by have:=hlo9 x hx;simp;omega))
     ·simp only [Value.slice.injEq,true_and] at hsl
      obtain⟨e1,e2⟩:=hsl
      subst e1 e2
      by_cases hce:c3=p.core.cells.length
      ·subst hce
       have HE:=Qd (qt K3.out.rd p.core.cells.length)
       refine Wk (S:=(fun W=>W.cell? ⟨g,3,none⟩=some (.slice (some ⟨g3,0,none⟩) p.core.cells.length p.core.cells.length)/\W.cell? ⟨w.heap.size,1,none⟩=some (.string key)/\W.cell? ⟨w.heap.size,2,none⟩=some (.int .i64 value))) (by kernel_rfl) ?_
       have hS0:=(show _/\_/\_ from⟨q3',rk,rv⟩)
       refine Qf.tk 0 22 hS0 (h:=?_)
       refine Qf.tk 1 2 hS0 (h:=?_)
       refine Qf.tk 2 3 hS0 (h:=?_)
       refine Qf.tk 3 4 hS0 (h:=?_)
       refine Qf.tk 4 6 hS0 (h:=?_)
       refine Qf.tk 5 6 hS0 (h:=?_)
       refine Qf.tk 6 7 hS0 (h:=?_)
       refine Qf.tk 8 9 hS0 (h:=?_)
       refine Qf.tk 9 12 hS0 (h:=?_)
       refine Qf.tk 10 11 hS0 (h:=?_)
       refine Qf.tk 11 12 hS0 (h:=?_)
       refine Qf.tk 12 13 hS0 (h:=?_)
       refine Qf.tk 15 16 hS0 (h:=?_)
       refine Qf.tk 16 17 hS0 (h:=?_)
       refine Qf.tk 17 18 hS0 (h:=?_)
       refine Qf.tk 18 20 hS0 (h:=?_)
       refine Qf.tk 19 20 hS0 (h:=?_)
       refine Qf.tk 20 21 hS0 (h:=?_)
       refine Qf.all (rs:=[7,13]) (by kernel_rfl) (by simp) ?_
       refine .cn (h:=fun K hK=>?_) (hs:=?_)
       case' refine_1=>
        refine Zx rfl (.const (.slice none 0 0)) (.tmp 76) _ rfl rfl rfl (ZE _ _ 189 _ 2 24 Tryz.underlying92 Ze rfl (by omega) (XG.nil wr 189 2 (Qb.refl _ _)) Qb.now _ _ _ (Zv (p.core.cells.take p.core.cells.length)) (by rw [XN,List.length_take];omega) (HE.out.1 _ (Qb.tz d0 Qb.now)) (Yd _) (by omega) (by omega)) ?_;rintro A1 cap1 w1 ⟨hA1,hC1,_⟩
        simp only [Nat.zero_add,List.nil_append] at hA1 ⊢
        have hE1:Qb [] wr w1:=Qb.tz Qb.now hC1
        obtain⟨yy1,_,zz1⟩:=hE1.cells;have cg1:=fun o=>(yy1 g o (by omega)).trans (cg o);have ck1:=(yy1 w.heap.size 1 (by omega)).trans rk;have cv1:=(yy1 w.heap.size 2 (by omega)).trans rv
        clear hC1
        refine Y4 hK (⟨(cg1 3).trans q3,ck1,cv1⟩) (fun hS15=>?_)
        clear hK K
        refine Qf.on 13 (h:=fun K hK=>?_)
        go_simp
        refine Y4 hK (alc (alc j7) hS15) (fun hS16=>?_)
        clear hK K
        have hSJ:=hS16
       case' refine_2=>
        refine .cn (h:=fun K hK=>?_) (hs:=.nil)
        go_simp
        refine Y4 hK (alc (alc j7) hS0) (fun hS17=>?_)
        clear hK K
        refine Qf.on 7 (h:=fun K hK=>?_)
        refine Zx rfl (.const (.slice none 0 0)) (.tmp 76) _ rfl rfl rfl (ZE _ _ 189 _ 2 24 Tryz.underlying92 Ze rfl (by omega) (XG.nil wr 189 2 (Qb.refl _ _)) Qb.now _ _ _ (Zv (p.core.cells.take p.core.cells.length)) (by rw [XN,List.length_take];omega) (HE.out.1 _ (Qb.tz d0 Qb.now)) (Yd _) (by omega) (by omega)) ?_;rintro A1 cap1 w1 ⟨hA1,hC1,_⟩
        simp only [Nat.zero_add,List.nil_append] at hA1 ⊢
        have hE1:Qb [] wr w1:=Qb.tz Qb.now hC1
        obtain⟨yy1,_,zz1⟩:=hE1.cells;have cg1:=fun o=>(yy1 g o (by omega)).trans (cg o);have ck1:=(yy1 w.heap.size 1 (by omega)).trans rk;have cv1:=(yy1 w.heap.size 2 (by omega)).trans rv
        have hC9:Qb [] _ w1:=hC1
        have nb0:=(hC9.cell (p:=⟨wr.heap.size,0,none⟩) (by simp) (by simp)).trans (Xj (wr.drewN _) _ _ rfl)
        have nb1:=(hC9.cell (p:=⟨wr.heap.size,1,none⟩) (by simp) (by simp)).trans (Xj (wr.drewN _) _ _ rfl)
        clear hC1 hC9
        refine Y4 hK (⟨(cg1 3).trans q3,ck1,cv1⟩) (fun hS18=>?_)
        clear hK K
        have hSJ:=hS18
       all_goals
        refine Qf.on 14 (h:=fun K hK=>?_)
        refine Zx rfl (.tmp 77) (.tmp 83) _ rfl rfl rfl (ZE _ _ 189 _ 2 24 Tryz.underlying92 Ze rfl (by omega) hA1 Qb.now _ _ _ ([.string key,.int .i64 value]) (by simp) (fun _=>⟨_,0,rfl,by intro j u hj;match j with|0|1=>cases hj;go_simp|j+2=>simp at hj⟩) (by intro u hu;simp at hu;rcases hu with rfl|rfl<;>rfl) (by omega) (by omega)) ?_;rintro A2 cap2 w2 ⟨hA2,hC2,_⟩
        have hE2:Qb [] wr w2:=hA2.chg
        obtain⟨yy2,_,zz2⟩:=hE2.cells;have cg2:=fun o=>(yy2 g o (by omega)).trans (cg o);have ck2:=(yy2 w.heap.size 1 (by omega)).trans rk;have cv2:=(yy2 w.heap.size 2 (by omega)).trans rv
        clear hC2
        refine Y4 hK (⟨(cg2 3).trans q3,ck2,cv2⟩) (fun hS19=>?_)
        clear hK K
        refine Qf.on 21 (h:=fun K hK=>?_)
        refine Zx rfl (.tmp 84) (.tmp 90) _ rfl rfl rfl (ZE _ _ 189 _ 2 24 Tryz.underlying92 Ze rfl (by omega) hA2 Qb.now _ _ _ (Zv (p.core.cells.drop p.core.cells.length)) (by have h:=XN (p.core.cells.drop p.core.cells.length);rw [List.length_drop] at h;omega) (fun h=>absurd (by rw [List.drop_length];rfl) h) (Yd _) (by omega) (by omega)) ?_;rintro A9 cap9 w9 ⟨hA9,hC9,_⟩
        have hE9:Qb [] wr w9:=hA9.chg
        obtain⟨yy9,ff9,zz9⟩:=hE9.cells;have cg9:=fun o=>(yy9 g o (by omega)).trans (cg o);have ck9:=(yy9 w.heap.size 1 (by omega)).trans rk;have cv9:=(yy9 w.heap.size 2 (by omega)).trans rv
        clear hC9
        refine Y4 hK (⟨(cg9 3).trans q3,ck9,cv9⟩) (fun hS20=>?_)
        clear hK K
        refine Qf.tk 22 23 hS20 (h:=?_)
        refine Qf.tk 23 24 hS20 (h:=?_)
        refine Qf.on 24 (h:=fun K hK=>?_)
        go_simp
        refine Qar hK ?_
        clear hK K
        refine Qf.done (by kernel_rfl) ?_ _
        have hPL:(XX p.core.cells key value).length=p.core.cells.length+1+0:=by rw [PA.out];simp only [List.length_append,List.length_cons,List.length_take,List.length_drop];omega
        have hPU:Zv (XX p.core.cells key value)=Zv (p.core.cells.take p.core.cells.length)++([.string key,.int .i64 value] ++Zv (p.core.cells.drop p.core.cells.length)):=by rw [PA.out];simp [Zv]
        obtain⟨N,hN⟩:∃N,N=p.core.cells.length+1+0:=⟨_,rfl⟩
        rw [<-hN] at hA9 hPL ⊢
        have hA9c:XG wr w9 189 2 (.slice A9 N cap9) N ((Zv (XX p.core.cells key value)).map QK.v):=by rw [hPU,List.map_append,List.map_append, <-List.append_assoc];exact hA9
        obtain⟨hH9,hlo9⟩:=hA9c.has
        have hH9c:=Qd (show Yk w9 (cells (XX p.core.cells key value)) (.slice A9 (XX p.core.cells key value).length cap9) (VK (.slice A9 N cap9)) from by rw [Wg,hPL];exact hH9)
        have d9:Qb [g] w w9:=(d0.tz hE9).mono (by simp)
        have t3:=(cg9 3).trans q3
        have tg:=fun o=>(cg9 o)
        have t4:=(cg9 4).trans q4
        have ff:=fun o=>(ff9 g o (by omega)).trans (fg o)
        have t5:w.heap.size+1<w9.heap.size:=by omega
        have t6:g<w9.heap.size:=by omega
        have rr9:=fun o=>(yy9 (w.heap.size+1) o (by omega)).trans (rr o)
        have rf9:=fun o=>(ff9 (w.heap.size+1) o (by omega)).trans (fr o)
        have PL:=Qd hPL
        clear hA9 hA9c hH9 hPL hPU hN hS0 PA HE
        clear yy1 yy2 yy9 ff9 zz1 zz2 zz9 cg1 cg2 ck1 ck2 cv1 cv2 hA1 hA2 hE1 hE2 hE9
        clear rr fr
        go_wp2_with fail
        refine(CU.out _).mono ?_
        rintro e w8 ⟨rfl,hw8⟩
        subst hw8
        go_wp2_with fail
        refine bodyPost_ret (v:=Zt (Qj 0 N 0 0)) (by simp only [Zt,Qj,results,Tryz.results252];go_simp) rfl ?_
        rw [K2.out,PL.out]
        exact Q9.of (S3':=VK (.slice A9 N cap9)) (T:=[g]) (A3:=A9) (c3:=cap9) H.out rfl (Qb.to d9) (by simp) (fun x hx=>.inr (by have:=hlo9 x hx;omega)) rfl (by go_simp) (by go_simp) (by go_simp) (by show _=some (Value.slice A9 (XX p.core.cells key value).length cap9);rw [PL.out];go_simp) (by go_simp) (by go_simp) (fun o=>by simp only [World.frozen?_setCell];exact ff o) (hH9c.out.keep (S0:=[g,w.heap.size+1]) Qb.now (fun x hx=>by have:=hlo9 x hx;simp;omega))
      ·have hk3:p.core.cells.length<=c3:=h0
       have HE:=Qd (qt K3.out.rd p.core.cells.length)
       refine Wk (S:=(fun W=>W.cell? ⟨g,3,none⟩=some (.slice (some ⟨g3,0,none⟩) p.core.cells.length c3)/\W.cell? ⟨w.heap.size,1,none⟩=some (.string key)/\W.cell? ⟨w.heap.size,2,none⟩=some (.int .i64 value))) (by kernel_rfl) ?_
       have hS0:=(show _/\_/\_ from⟨q3',rk,rv⟩)
       refine Qf.tk 0 22 hS0 (h:=?_)
       refine Qf.tk 1 2 hS0 (h:=?_)
       refine Qf.tk 2 3 hS0 (h:=?_)
       refine Qf.tk 3 4 hS0 (h:=?_)
       refine Qf.tk 4 6 hS0 (h:=?_)
       refine Qf.tk 5 6 hS0 (h:=?_)
       refine Qf.tk 6 7 hS0 (h:=?_)
       refine Qf.tk 8 9 hS0 (h:=?_)
       refine Qf.tk 9 12 hS0 (h:=?_)
       refine Qf.tk 10 11 hS0 (h:=?_)
       refine Qf.tk 11 12 hS0 (h:=?_)
       refine Qf.tk 12 13 hS0 (h:=?_)
       refine Qf.tk 15 16 hS0 (h:=?_)
       refine Qf.tk 16 17 hS0 (h:=?_)
       refine Qf.tk 17 18 hS0 (h:=?_)
       refine Qf.tk 18 20 hS0 (h:=?_)
       refine Qf.tk 19 20 hS0 (h:=?_)
       refine Qf.tk 20 21 hS0 (h:=?_)
       refine Qf.all (rs:=[7,13]) (by kernel_rfl) (by simp) ?_
       refine .cn (h:=fun K hK=>?_) (hs:=?_)
       case' refine_1=>
        refine Zx rfl (.const (.slice none 0 0)) (.tmp 76) _ rfl rfl rfl (ZE _ _ 189 _ 2 24 Tryz.underlying92 Ze rfl (by omega) (XG.nil wr 189 2 (Qb.refl _ _)) Qb.now _ _ _ (Zv (p.core.cells.take p.core.cells.length)) (by rw [XN,List.length_take];omega) (HE.out.1 _ (Qb.tz d0 Qb.now)) (Yd _) (by omega) (by omega)) ?_;rintro A1 cap1 w1 ⟨hA1,hC1,_⟩
        simp only [Nat.zero_add,List.nil_append] at hA1 ⊢
        have hE1:Qb [] wr w1:=Qb.tz Qb.now hC1
        obtain⟨yy1,_,zz1⟩:=hE1.cells;have cg1:=fun o=>(yy1 g o (by omega)).trans (cg o);have ck1:=(yy1 w.heap.size 1 (by omega)).trans rk;have cv1:=(yy1 w.heap.size 2 (by omega)).trans rv
        clear hC1
        refine Y4 hK (⟨(cg1 3).trans q3,ck1,cv1⟩) (fun hS22=>?_)
        clear hK K
        refine Qf.on 13 (h:=fun K hK=>?_)
        go_simp
        refine Y4 hK (alc (alc j7) hS22) (fun hS23=>?_)
        clear hK K
        have hSJ:=hS23
       case' refine_2=>
        refine .cn (h:=fun K hK=>?_) (hs:=.nil)
        go_simp
        refine Y4 hK (alc (alc j7) hS0) (fun hS24=>?_)
        clear hK K
        refine Qf.on 7 (h:=fun K hK=>?_)
        refine Zx rfl (.const (.slice none 0 0)) (.tmp 76) _ rfl rfl rfl (ZE _ _ 189 _ 2 24 Tryz.underlying92 Ze rfl (by omega) (XG.nil wr 189 2 (Qb.refl _ _)) Qb.now _ _ _ (Zv (p.core.cells.take p.core.cells.length)) (by rw [XN,List.length_take];omega) (HE.out.1 _ (Qb.tz d0 Qb.now)) (Yd _) (by omega) (by omega)) ?_;rintro A1 cap1 w1 ⟨hA1,hC1,_⟩
        simp only [Nat.zero_add,List.nil_append] at hA1 ⊢
        have hE1:Qb [] wr w1:=Qb.tz Qb.now hC1
        obtain⟨yy1,_,zz1⟩:=hE1.cells;have cg1:=fun o=>(yy1 g o (by omega)).trans (cg o);have ck1:=(yy1 w.heap.size 1 (by omega)).trans rk;have cv1:=(yy1 w.heap.size 2 (by omega)).trans rv
        have hC9:Qb [] _ w1:=hC1
        have nb0:=(hC9.cell (p:=⟨wr.heap.size,0,none⟩) (by simp) (by simp)).trans (Xj (wr.drewN _) _ _ rfl)
        have nb1:=(hC9.cell (p:=⟨wr.heap.size,1,none⟩) (by simp) (by simp)).trans (Xj (wr.drewN _) _ _ rfl)
        clear hC1 hC9
        refine Y4 hK (⟨(cg1 3).trans q3,ck1,cv1⟩) (fun hS25=>?_)
        clear hK K
        have hSJ:=hS25
       all_goals
        refine Qf.on 14 (h:=fun K hK=>?_)
        refine Zx rfl (.tmp 77) (.tmp 83) _ rfl rfl rfl (ZE _ _ 189 _ 2 24 Tryz.underlying92 Ze rfl (by omega) hA1 Qb.now _ _ _ ([.string key,.int .i64 value]) (by simp) (fun _=>⟨_,0,rfl,by intro j u hj;match j with|0|1=>cases hj;go_simp|j+2=>simp at hj⟩) (by intro u hu;simp at hu;rcases hu with rfl|rfl<;>rfl) (by omega) (by omega)) ?_;rintro A2 cap2 w2 ⟨hA2,hC2,_⟩
        have hE2:Qb [] wr w2:=hA2.chg
        obtain⟨yy2,_,zz2⟩:=hE2.cells;have cg2:=fun o=>(yy2 g o (by omega)).trans (cg o);have ck2:=(yy2 w.heap.size 1 (by omega)).trans rk;have cv2:=(yy2 w.heap.size 2 (by omega)).trans rv
        clear hC2
        refine Y4 hK (⟨(cg2 3).trans q3,ck2,cv2⟩) (fun hS26=>?_)
        clear hK K
        refine Qf.on 21 (h:=fun K hK=>?_)
        refine Zx rfl (.tmp 84) (.tmp 90) _ rfl rfl rfl (ZE _ _ 189 _ 2 24 Tryz.underlying92 Ze rfl (by omega) hA2 Qb.now _ _ _ (Zv (p.core.cells.drop p.core.cells.length)) (by have h:=XN (p.core.cells.drop p.core.cells.length);rw [List.length_drop] at h;omega) (fun h=>absurd (by rw [List.drop_length];rfl) h) (Yd _) (by omega) (by omega)) ?_;rintro A9 cap9 w9 ⟨hA9,hC9,_⟩
        have hE9:Qb [] wr w9:=hA9.chg
        obtain⟨yy9,ff9,zz9⟩:=hE9.cells;have cg9:=fun o=>(yy9 g o (by omega)).trans (cg o);have ck9:=(yy9 w.heap.size 1 (by omega)).trans rk;have cv9:=(yy9 w.heap.size 2 (by omega)).trans rv
        clear hC9
        refine Y4 hK (⟨(cg9 3).trans q3,ck9,cv9⟩) (fun hS27=>?_)
        clear hK K
        refine Qf.tk 22 23 hS27 (h:=?_)
        refine Qf.tk 23 24 hS27 (h:=?_)
        refine Qf.on 24 (h:=fun K hK=>?_)
        go_simp
        refine Qar hK ?_
        clear hK K
        refine Qf.done (by kernel_rfl) ?_ _
        have hPL:(XX p.core.cells key value).length=p.core.cells.length+1+0:=by rw [PA.out];simp only [List.length_append,List.length_cons,List.length_take,List.length_drop];omega
        have hPU:Zv (XX p.core.cells key value)=Zv (p.core.cells.take p.core.cells.length)++([.string key,.int .i64 value] ++Zv (p.core.cells.drop p.core.cells.length)):=by rw [PA.out];simp [Zv]
        obtain⟨N,hN⟩:∃N,N=p.core.cells.length+1+0:=⟨_,rfl⟩
        rw [<-hN] at hA9 hPL ⊢
        have hA9c:XG wr w9 189 2 (.slice A9 N cap9) N ((Zv (XX p.core.cells key value)).map QK.v):=by rw [hPU,List.map_append,List.map_append, <-List.append_assoc];exact hA9
        obtain⟨hH9,hlo9⟩:=hA9c.has
        have hH9c:=Qd (show Yk w9 (cells (XX p.core.cells key value)) (.slice A9 (XX p.core.cells key value).length cap9) (VK (.slice A9 N cap9)) from by rw [Wg,hPL];exact hH9)
        have d9:Qb [g] w w9:=(d0.tz hE9).mono (by simp)
        have t3:=(cg9 3).trans q3
        have tg:=fun o=>(cg9 o)
        have t4:=(cg9 4).trans q4
        have ff:=fun o=>(ff9 g o (by omega)).trans (fg o)
        have t5:w.heap.size+1<w9.heap.size:=by omega
        have t6:g<w9.heap.size:=by omega
        have rr9:=fun o=>(yy9 (w.heap.size+1) o (by omega)).trans (rr o)
        have rf9:=fun o=>(ff9 (w.heap.size+1) o (by omega)).trans (fr o)
        have PL:=Qd hPL
        clear hA9 hA9c hH9 hPL hPU hN hS0 PA HE
        clear yy1 yy2 yy9 ff9 zz1 zz2 zz9 cg1 cg2 ck1 ck2 cv1 cv2 hA1 hA2 hE1 hE2 hE9
        clear rr fr
        go_wp2_with fail
        refine(CU.out _).mono ?_
        rintro e w8 ⟨rfl,hw8⟩
        subst hw8
        go_wp2_with fail
        refine bodyPost_ret (v:=Zt (Qj 0 N 0 0)) (by simp only [Zt,Qj,results,Tryz.results252];go_simp) rfl ?_
        rw [K2.out,PL.out]
        exact Q9.of (S3':=VK (.slice A9 N cap9)) (T:=[g]) (A3:=A9) (c3:=cap9) H.out rfl (Qb.to d9) (by simp) (fun x hx=>.inr (by have:=hlo9 x hx;omega)) rfl (by go_simp) (by go_simp) (by go_simp) (by show _=some (Value.slice A9 (XX p.core.cells key value).length cap9);rw [PL.out];go_simp) (by go_simp) (by go_simp) (fun o=>by simp only [World.frozen?_setCell];exact ff o) (hH9c.out.keep (S0:=[g,w.heap.size+1]) Qb.now (fun x hx=>by have:=hlo9 x hx;simp;omega))
theorem QeA (g:Nat) (p:Qh) (key:ByteArray) (value:Int) (text:ByteArray) (S3 S5:List Nat) (w:World) (h:Zi w g p S3 S5) (hp:XI p.core) (_hx:QZ ⟨QS,key,value,text⟩) (hE:Km w) (ht:text.size<=1048575):
  Calls Tryz.prog 233 #[.pointer (some ⟨g,0,none⟩),.agg #[.string QS,.string key,.int .i64 value,.string text]] w (Q9 g p (XL p.core ⟨QS,key,value,text⟩) S3 S5 w):=by
 have hg:=h.lt
 obtain⟨A3,c3,A5,c5,q0,q1,q2,q3,q4,q5,k3,k5⟩:=h.ex
 have f0:=h.fr 0 (by omega);have f1:=h.fr 1 (by omega);have f2:=h.fr 2 (by omega);have f3:=h.fr 3 (by omega);have f4:=h.fr 4 (by omega)
 obtain⟨t0,t1,t2,t3,t4,t5,t6,t7,t8⟩:=QgN
 obtain⟨hnum0,hnum1⟩:0<=p.core.count/\p.core.count<=999:=by obtain⟨_,_,_,_,hn,_⟩:=hp;exact hn
 have gg1:g<w.heap.size+1:=by omega
 have gg2:g<w.heap.size+1+1:=by omega
 have CU:=Qd (fun W=>ZD p.core.count W ⟨hnum0,hnum1⟩)
 have H:=Qd h
 clear h
 rw [vg rfl]
 cases hb:p.core.broken
 ·rw [hb] at q2
  rw [if_neg (by simp)]
  have PC:=Qd (fun W (hW:Qb [] w W)=>QL text W ht (hE.keep hW))
  clear hE ht
  cases hpc:QA text with
  |none=>
   rw [hpc] at PC
   go_enter Tryz.func233,Tryz.ntmps233
   go_wp2_with fail
   refine(PC.out _ Qb.now).mono ?_
   rintro e w1 ⟨l,A,cap,hl,rfl,hN⟩
   have c1:=hN.chg
   obtain⟨y1,_,s1⟩:=c1.cells
   have s2:w.heap.size+1<w1.heap.size:=by simp at s1;omega
   have cr:=fun o=>y1 (w.heap.size+1) o (by simp)
   have d1:Qb [] w w1:=Qb.tz ((Qb.refl _ _ |>.alloc _) |>.alloc _) c1
   clear hN
   go_wp2_with fail
   refine bodyPost_ret (v:=Zt (Qj 6 0 0 0)) (by simp only [Zt,Qj,results,Tryz.results233];go_simp) rfl ?_
   exact(Q9.same H.out rfl rfl (Qb.to d1))
  | some l0=>
   rw [hpc] at PC
   go_enter Tryz.func233,Tryz.ntmps233
   go_wp2_with fail
   refine(PC.out _ Qb.now).mono ?_
   rintro e w1 ⟨l,A,cap,hl,rfl,hN⟩
   obtain rfl:l=l0:=hl
   obtain⟨S,hS,hlo,c1⟩:=hN
   obtain⟨y1,z1,s1⟩:=c1.cells
   have s2:w.heap.size+1<w1.heap.size:=by simp at s1;omega
   have s3:w.heap.size<w1.heap.size:=by omega
   have gw:g<w1.heap.size:=by omega
   have hlo2:∀x,x∈S->w.heap.size+1<x:=fun x hx=>by have:=hlo x hx;simp at this;omega
   have cr:=fun o=>y1 (w.heap.size+1) o (by simp)
   have cg:=fun o=>(y1 g o (by simp;omega)).trans (show _=w.cell? ⟨g,o,none⟩ by go_simp)
   have fg:=fun o=>(z1 g o (by simp;omega)).trans (show _=w.frozen? ⟨g,o,none⟩ by go_simp)
   have d1:Qb [] w w1:=Qb.tz ((Qb.refl _ _ |>.alloc _) |>.alloc _) c1
   have dg:Qb [g] w w1:=d1.mono (by simp)
   have fr:=fun o=>z1 (w.heap.size+1) o (by simp)
   have HS:=Qd hS
   clear hS hlo y1 z1 s1 c1
   go_wp2_with fail
   refine bodyPost_ret (v:=Zt (Qj 0 l.length 0 0)) (by simp only [Zt,Qj,results,Tryz.results233];go_simp) rfl ?_
   exact(Q9.of (S3':=S) (T:=[g]) (A3:=A) (c3:=cap) H.out rfl (Qb.to dg) (by simp) (fun x hx=>.inr (by have:=hlo2 x hx;omega)) rfl (by go_simp) (by go_simp) (by go_simp) (by go_simp) (by go_simp) (by go_simp) (fun o=>by simp only [World.frozen?_setCell];exact fg o)
    (HS.out.keep (S0:=[g,w.heap.size+1]) Qb.now (fun x hx=>by have:=hlo2 x hx;simp;omega)))
 ·rw [hb] at q2
  rw [if_pos rfl]
  go_enter Tryz.func233,Tryz.ntmps233
  go_wp2_with fail
  refine bodyPost_ret (v:=Zt (Qj 3 0 0 0)) (by simp only [Zt,Qj,results,Tryz.results233];go_simp) rfl ?_
  exact(Q9.same H.out rfl rfl Qb.now)
theorem Qfh (g:Nat) (p:Qh) (key:ByteArray) (value:Int) (text:ByteArray) (S3 S5:List Nat) (w:World) (h:Zi w g p S3 S5) (hp:XI p.core) (_hx:QZ ⟨Q8,key,value,text⟩):
  Calls Tryz.prog 233 #[.pointer (some ⟨g,0,none⟩),.agg #[.string Q8,.string key,.int .i64 value,.string text]] w (Q9 g p (XL p.core ⟨Q8,key,value,text⟩) S3 S5 w):=by
 have hg:=h.lt
 obtain⟨A3,c3,A5,c5,q0,q1,q2,q3,q4,q5,k3,k5⟩:=h.ex
 have f0:=h.fr 0 (by omega);have f1:=h.fr 1 (by omega);have f2:=h.fr 2 (by omega);have f3:=h.fr 3 (by omega);have f4:=h.fr 4 (by omega)
 obtain⟨t0,t1,t2,t3,t4,t5,t6,t7,t8⟩:=Qg7
 obtain⟨hnum0,hnum1⟩:0<=p.core.count/\p.core.count<=999:=by obtain⟨_,_,_,_,hn,_⟩:=hp;exact hn
 have gg1:g<w.heap.size+1:=by omega
 have gg2:g<w.heap.size+1+1:=by omega
 have CU:=Qd (fun W=>ZD p.core.count W ⟨hnum0,hnum1⟩)
 have H:=Qd h
 have KC:=Qd (fun W (hW:Qb [] w W)=>jc g p key value text S3 S5 W (h.kz hW) hp)
 clear h
 rw [ug rfl]
 cases hb:p.core.broken
 ·rw [hb] at q2
  rw [if_neg (by simp)]
  obtain⟨R,hR⟩:∃R,R=Wx p.core ⟨Q8,key,value,text⟩:=⟨_,rfl⟩
  rw [<-hR] at KC ⊢
  clear hR
  go_enter Tryz.func233,Tryz.ntmps233
  go_wp2_with fail
  refine(KC.out _ Qb.now).mono ?_
  rintro e w1 hD
  obtain rfl:=hD.ret
  have hc1:=hD.chg
  have hgS:∀x,x∈g::S3->x<w.heap.size:=fun x hx=>by
   rcases List.mem_cons.1 hx with rfl|hx
   ·exact hg
   ·exact H.out.lt3 x hx
  have cr:=fun o=>hc1.cell (p:=⟨w.heap.size+1,o,none⟩) (by simp) (fun hx=>by have h9:w.heap.size+1<w.heap.size:=hgS _ hx;omega)
  have fr:=fun o=>hc1.frozen (p:=⟨w.heap.size+1,o,none⟩) (by simp) (fun hx=>by have h9:w.heap.size+1<w.heap.size:=hgS _ hx;omega)
  have s1:w.heap.size+1<w1.heap.size:=by have:=hc1.size;simp at this;omega
  have HD:=Qd hD
  clear hD hc1 hgS
  unfold Zt
  go_wp2_with fail
  refine bodyPost_ret (v:=Zt R.2) (by simp only [Zt,results,Tryz.results233];go_simp) rfl ?_
  exact Q9.ends (t:=w.heap.size+1) H.out HD.out Qb.now Qb.now (by omega) (by simp)
 ·rw [hb] at q2
  rw [if_pos rfl]
  go_enter Tryz.func233,Tryz.ntmps233
  go_wp2_with fail
  refine bodyPost_ret (v:=Zt (Qj 3 0 0 0)) (by simp only [Zt,Qj,results,Tryz.results233];go_simp) rfl ?_
  exact(Q9.same H.out rfl rfl Qb.now)
theorem Qe5 (g:Nat) (p:Qh) (key:ByteArray) (value:Int) (text:ByteArray) (S3 S5:List Nat) (w:World) (h:Zi w g p S3 S5) (hp:XI p.core) (_hx:QZ ⟨Q7,key,value,text⟩):
  Calls Tryz.prog 233 #[.pointer (some ⟨g,0,none⟩),.agg #[.string Q7,.string key,.int .i64 value,.string text]] w (Q9 g p (XL p.core ⟨Q7,key,value,text⟩) S3 S5 w):=by
 have hg:=h.lt
 obtain⟨A3,c3,A5,c5,q0,q1,q2,q3,q4,q5,k3,k5⟩:=h.ex
 have f0:=h.fr 0 (by omega);have f1:=h.fr 1 (by omega);have f2:=h.fr 2 (by omega);have f3:=h.fr 3 (by omega);have f4:=h.fr 4 (by omega)
 obtain⟨t0,t1,t2,t3,t4,t5,t6,t7,t8⟩:=Qfb
 obtain⟨hnum0,hnum1⟩:0<=p.core.count/\p.core.count<=999:=by obtain⟨_,_,_,_,hn,_⟩:=hp;exact hn
 have gg1:g<w.heap.size+1:=by omega
 have gg2:g<w.heap.size+1+1:=by omega
 have CU:=Qd (fun W=>ZD p.core.count W ⟨hnum0,hnum1⟩)
 have H:=Qd h
 have KC:=Qd (fun W (hW:Qb [] w W)=>kX g p key value text S3 S5 W (h.kz hW) hp)
 clear h
 rw [ue rfl]
 cases hb:p.core.broken
 ·rw [hb] at q2
  rw [if_neg (by simp)]
  obtain⟨R,hR⟩:∃R,R=Wx p.core ⟨Q7,key,value,text⟩:=⟨_,rfl⟩
  rw [<-hR] at KC ⊢
  clear hR
  go_enter Tryz.func233,Tryz.ntmps233
  go_wp2_with fail
  refine(KC.out _ Qb.now).mono ?_
  rintro e w1 hD
  obtain rfl:=hD.ret
  have hc1:=hD.chg
  have hgS:∀x,x∈g::S3->x<w.heap.size:=fun x hx=>by
   rcases List.mem_cons.1 hx with rfl|hx
   ·exact hg
   ·exact H.out.lt3 x hx
  have cr:=fun o=>hc1.cell (p:=⟨w.heap.size+1,o,none⟩) (by simp) (fun hx=>by have h9:w.heap.size+1<w.heap.size:=hgS _ hx;omega)
  have fr:=fun o=>hc1.frozen (p:=⟨w.heap.size+1,o,none⟩) (by simp) (fun hx=>by have h9:w.heap.size+1<w.heap.size:=hgS _ hx;omega)
  have s1:w.heap.size+1<w1.heap.size:=by have:=hc1.size;simp at this;omega
  have HD:=Qd hD
  clear hD hc1 hgS
  unfold Zt
  go_wp2_with fail
  refine bodyPost_ret (v:=Zt R.2) (by simp only [Zt,results,Tryz.results233];go_simp) rfl ?_
  exact Q9.ends (t:=w.heap.size+1) H.out HD.out Qb.now Qb.now (by omega) (by simp)
 ·rw [hb] at q2
  rw [if_pos rfl]
  go_enter Tryz.func233,Tryz.ntmps233
  go_wp2_with fail
  refine bodyPost_ret (v:=Zt (Qj 3 0 0 0)) (by simp only [Zt,Qj,results,Tryz.results233];go_simp) rfl ?_
  exact(Q9.same H.out rfl rfl Qb.now)
theorem QfX (g:Nat) (p:Qh) (x:QQ) (S3 S5:List Nat) (w:World) (h:Zi w g p S3 S5) (hp:XI p.core) (hx:QZ x) (ht:x.text.size<=1048575) (hE:Km w):
  Calls Tryz.prog 233 #[.pointer (some ⟨g,0,none⟩),.agg #[.string x.method,.string x.key,.int .i64 x.value,.string x.text]] w (Q9 g p (XL p.core x) S3 S5 w):=by
 have hm:=YH hx
 obtain⟨m,k,v,t⟩:=x
 simp only at hm ht
 rcases hm with rfl|rfl|rfl|rfl|rfl|rfl|rfl|rfl|rfl
 ·exact QcK g p k v t S3 S5 w h hp hx
 ·exact QdM g p k v t S3 S5 w h hp hx
 ·exact Qfh g p k v t S3 S5 w h hp hx
 ·exact Qe5 g p k v t S3 S5 w h hp hx
 ·exact Qd3 g p k v t S3 S5 w h hp hx
 ·exact Qem g p k v t S3 S5 w h hp hx
 ·exact QeA g p k v t S3 S5 w h hp hx hE ht
 ·exact Qd1 g p k v t S3 S5 w h hp hx hE
 ·exact Qel g p k v t S3 S5 w h hp hx
end Go.Proofs.YtlnkgcdeljhjcaaGreatDoor
