/- FormatCells of the reference. Conditions: as stated. -/
import Derived.Test.YtlnkgcdeljhjcaaGreatDoorNumsAll
import Derived.Test.YtlnkgcdeljhjcaaGreatDoorBuilders
import Derived.Test.YtlnkgcdeljhjcaaGreatDoorApps
set_option maxRecDepth 100000
set_option maxHeartbeats 8000000
namespace Go.Proofs.YtlnkgcdeljhjcaaGreatDoor
open Go.RowKit

noncomputable def Uq (c:QD):ByteArray:=(c.key++⟨#[61]⟩)++Uv c.value
open Classical in
noncomputable def VJ (l:List QD):ByteArray:=if Zy l then(if l.length=0 then⟨#[45]⟩ else ZV (l.map Uq) ⟨#[44]⟩) else⟨#[]⟩
theorem zq {l:List QD} (h:¬Zy l):VJ l=⟨#[]⟩:=by unfold VJ;rw [if_neg h]
theorem GF {l:List QD} (h:Zy l) (h0:l.length=0):VJ l=⟨#[45]⟩:=by unfold VJ;rw [if_pos h,if_pos h0]
theorem Gu {l:List QD} (h:Zy l) (h0:¬l.length=0):VJ l=ZV (l.map Uq) ⟨#[44]⟩:=by unfold VJ;rw [if_pos h,if_neg h0]
theorem Qhj {m:Int} (h:m<=999):(U8 m).size<=3:=by
 have:∀(k:Nat) (m:Int),m.toNat<10 ^ (k+1)->(U8 m).size<=k+1:=by
  intro k
  induction k with
  |zero=>intro m h;unfold U8;rw [Lib.decDigits,dif_pos (by omega)];simp [ByteArray.size]
  | succ k ih=>
   intro m h
   by_cases hm:m.toNat<10
   ·unfold U8;rw [Lib.decDigits,dif_pos hm];simp [ByteArray.size]
   ·rw [zz (by omega),ByteArray.size_append,strOfNums_size]
    have:=ih (m / 10) (by rw [Nat.pow_succ] at h;omega)
    simp
    omega
 exact this 2 m (by omega)
theorem QbL {n:Int} (h:ZM n):(Uv n).size<=3:=by rw [xb h.1];exact Qhj h.2
theorem QcN {c:QD} (hk:qc c.key) (hv:ZM c.value):(Uq c).size<=12:=by
 unfold Uq
 rw [ByteArray.size_append,ByteArray.size_append]
 have:=QbL hv
 have:=hk.2.1
 have e:(⟨#[61]⟩:ByteArray).size=1:=rfl
 omega
theorem jq {l:List QD} (h:Zy l):ZY (l.map Uq)<=48:=by
 have:∀l:List QD,(∀c∈l,(Uq c).size<=12)->ZY (l.map Uq)<=l.length * 12:=by
  intro l
  induction l with
  |nil=>intro _;simp [ZY]
  |cons c l ih=>
   intro hs
   have h1:=hs c (by simp)
   have h2:=ih (fun x hx=>hs x (by simp [hx]))
   unfold ZY at h2 ⊢
   simp only [List.map_cons,List.sum_cons,List.length_cons]
   omega
 have:=this l (fun c hc=>by obtain⟨k,hk,rfl⟩:=List.getElem_of_mem hc;exact QcN (h.2 k hk).1 (h.2 k hk).2.1)
 have:=h.1
 omega
theorem Qbu (l:List QD):(VJ l).size<=60:=by
 by_cases h:Zy l
 ·by_cases h0:l.length=0
  ·rw [GF h h0];decide
  ·rw [Gu h h0]
   have h4:=h.1
   have hw:=jq h
   cases l with
   |nil=>exact absurd rfl h0
   |cons c l=>
    rw [List.map_cons] at hw ⊢
    rw [GP,show(⟨#[44]⟩:ByteArray).size=1 from rfl]
    simp only [List.length_cons,List.length_map] at h4 ⊢
    omega
 ·rw [zq h];decide
theorem Jq (l:List QD) (u:Value) (B:Nat) (w:World) (r:Rd w B (cells l) u) (hB:B<=w.heap.size) (hl:l.length<=1048576) (hs:∀c∈l,c.key.size<=1048576):
  Calls Tryz.prog 228 #[u] w (JT (VJ l) w):=by
 by_cases hp:Zy l
 ·have IC:=Qd (fun W (hc:Qb [] w W)=>(VI l u B W (r.cz hc hB) (Nat.le_trans hB hc.size) hl hs).mono (Qg.pos hp))
  obtain⟨A,cap,rfl,h0,h1,hrow⟩:=Za r
  unfold maxLen at h1
  have hl4:=hp.1
  have HP:=Qd hp
  clear hp hs r hl
  go_enter Tryz.func228,Tryz.ntmps228
  go_wp2_with fail
  refine(IC.out _ ((Qb.refl _ _).alloc _)).mono ?_
  rintro e w1 ⟨rfl,c1⟩
  have hA0:=Qd ((XG.empty w 9 1 (Qb.refl [] w)).later c1)
  clear c1 IC
  go_wp2_with fail
  go_loopw [3,12] (fun v i wr=>∃(k:Nat) (A':Option Addr) (cap':Nat),k<=l.length/\i= .int .i64 k/\v= .slice A' k cap'/\XG w wr 9 1 (.slice A' k cap') k (((l.take k).map Uq).flatMap U5)) (fun _ i _=>l.length-(intOf i).toNat)
  case atStart=>exact⟨0,_,0,Nat.zero_le _,rfl,rfl,hA0.out⟩
  case round=>
   obtain⟨k,A',cap',hk,rfl,rfl,hh⟩:=hrel
   have hcg:Qb [] w wr:=hh.chg
   by_cases hlt:k<l.length
   ·obtain⟨b,off,rfl,hb,q0,q1⟩:=Xr (hrow.cz hcg hB) k hlt
    have hsz:=hcg.size
    have hck:=HP.out.2 k hlt
    have z1:=hck.1.2.1
    have z3:=hck.2.1
    have z2:=QbL hck.2.1
    have HK:=Qd (show Uq l[k]=(l[k].key++⟨#[61]⟩)++Uv l[k].value from rfl)
    obtain⟨t,ht⟩:∃t,t=Uq l[k]:=⟨_,rfl⟩
    obtain⟨y,hy⟩:∃y,y=l[k].key:=⟨_,rfl⟩
    obtain⟨v,hv⟩:∃v,v=l[k].value:=⟨_,rfl⟩
    rw [<-ht, <-hy, <-hv] at HK
    rw [<-hy] at q0 z1
    rw [<-hv] at q1 z2 z3
    have FN:=Qd (fun W=>Wc v W (by have:=z3.1;omega) (by have:=z3.2;omega))
    obtain⟨n,hn⟩:∃n,n=Uv v:=⟨_,rfl⟩
    rw [<-hn] at HK FN z2
    obtain⟨x,hx⟩:∃x,x=y++⟨#[61]⟩:=⟨_,rfl⟩
    have HK:=HK.out
    rw [<-hx] at HK
    have e1:(⟨#[61]⟩:ByteArray).size=1:=rfl
    have zx:x.size<=9:=by rw [hx,ByteArray.size_append];omega
    have k1:=wN (P:=Tryz.prog) hx (by omega)
    have k2:=wN (P:=Tryz.prog) HK (by omega)
    have HT:=Qd ht
    have HH:=Qd hh
    clear hx hn hv hy ht HK e1 hck z3 hh hcg
    go_wp2_with fail
    go_region_law (first|(go_simp;go_at_call 248;(with_reducible refine(FN.out _).mono ?_);rintro e w2 ⟨rfl,c2⟩;(have y2:=fun o=>c2.cell (p:=⟨wr.heap.size,o,none⟩) (by simp) (by simp));(have c3:=(Qb.tz Qb.now c2:Qb [] wr w2));(have h2:=Qd c3);clear c3 c2;simp only [])|(refine Zx rfl (.tmp 16) (.tmp 24) _ rfl rfl rfl (qh _ _ 9 _ 1 16 Tryz.underlying50 Wf rfl (by omega) HH.out (us:=[.string t]) (dsE:=U5 t) ⟨[],Qu.cons_v (Qu.nil _),by simp,h2.out.alloc _⟩ _ 1 _ rfl (by intro j u hj;cases j with|zero=>cases hj;go_simp|succ j=>simp at hj) (by intro u hu;simp at hu;subst hu;rfl) (by omega) (by omega)) ?_;rintro A3 cap3 w3 ⟨hA3,_,_⟩;simp only [])|fail)
    all_goals
     go_wp2_with fail
     go_roundw
     case rel=>exact⟨k+1,A3,cap3,by omega,by go_num,rfl,by rw [List.take_succ_eq_append_getElem hlt,List.map_append,List.flatMap_append,List.map_cons,List.map_nil, <-HT.out];simpa using hA3⟩
     case measure=>simp [intOf];omega
   ·obtain rfl:k=l.length:=by omega
    have hn:=hh.new.rd
    rw [List.take_length] at hn
    have HJ:=Qd (qj (l.map Uq) ⟨#[44]⟩ (.slice A' l.length cap') wr.heap.size wr (by simp;omega) (by decide) (by have:=jq HP.out;omega) (by unfold Ws;rw [List.length_map];exact hn) (Nat.le_refl _))
    have HC:=Qd hcg
    clear hn hh hcg
    by_cases h0:l.length=0
    ·have HZ:=Qd (GF HP.out h0)
     have hz:((l.length:Int)==0)=true:=by simp [h0]
     clear h0 HJ
     go_wp2_with fail
     go_ret
     exact⟨VN HZ.out.symm,HC.out⟩
    ·have HZ:=Qd (Gu HP.out h0)
     have hz:((l.length:Int)==0)=false:=by simpa using h0
     clear h0
     go_wp2_with fail
     refine HJ.out.mono ?_
     rintro e w4 ⟨rfl,c4⟩
     go_wp2_with fail
     go_ret
     exact⟨VN HZ.out.symm,HC.out.tz c4⟩
 ·have IC:=Qd (fun W (hc:Qb [] w W)=>(VI l u B W (r.cz hc hB) (Nat.le_trans hB hc.size) hl hs).mono (Qg.neg hp))
  obtain⟨A,cap,rfl,h0,h1,hrow⟩:=Za r
  have HE:=Qd (zq hp)
  clear hp hs r hl hrow
  go_enter Tryz.func228,Tryz.ntmps228
  go_wp2_with fail
  refine(IC.out _ ((Qb.refl _ _).alloc _)).mono ?_
  rintro e w1 ⟨rfl,c1⟩
  go_wp2_with fail
  go_ret
  exact⟨VN HE.out.symm,((Qb.refl _ _).alloc _).tz c1⟩
end Go.Proofs.YtlnkgcdeljhjcaaGreatDoor
