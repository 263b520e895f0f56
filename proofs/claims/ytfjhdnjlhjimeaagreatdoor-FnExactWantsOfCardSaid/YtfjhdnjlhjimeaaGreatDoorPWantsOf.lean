/- FnExactWantsOf: for all arguments that can be read as data, the law returns true and its arguments read as before. Conditions: none beyond the row's own; the card ties the listed tables and variables to the program's text. -/
import Derived.Test.YtfjhdnjlhjimeaaGreatDoorMoreW
import Derived.Test.YtfjhdnjlhjimeaaGreatDoorWantsI
import Derived.Test.YtfjhdnjlhjimeaaGreatDoorRefB
import Derived.Test.YtfjhdnjlhjimeaaGreatDoorFrames
import Derived.Test.YtfjhdnjlhjimeaaGreatDoorOpens
import Derived.Test.YtfjhdnjlhjimeaaGreatDoorTie
import Derived.Test.YtfjhdnjlhjimeaaGreatDoorCards
import Derived.Lay
import Derived.SevenTiedAt
set_option maxRecDepth 100000
set_option maxHeartbeats 2000000
namespace Go.Proofs.YtfjhdnjlhjimeaaGreatDoor
open Go.RowKit

def Qk4 (k:Int) (n:Nat):List Int:=(List.range n).map fun i=>k+((i:Nat):Int)
theorem Qlb (k:Int) (n:Nat):(Qk4 k n).length=n:=by unfold Qk4;rw [J8,List.length_range]
theorem QlV (k:Int) (n j:Nat) (h:j<(Qk4 k n).length):(Qk4 k n)[j]=k+((j:Nat):Int):=by simp [Qk4]
theorem QlI (k:Int) (n:Nat):Qk4 k (n+1)=Qk4 k n++ [k+((n:Nat):Int)]:=by unfold Qk4;rw [List.range_succ,J2];rfl
theorem QlR {k:Int} {l:List Int} {j:Nat} (h:j<l.length):(Qk4 k j++l.drop j).set j (k+((j:Nat):Int))=Qk4 k (j+1)++l.drop (j+1):=by
 rw [N6 h,List.set_append_right _ _ (by rw [Qlb];exact F0 _),Qlb,Nat.sub_self,C8,QlI,U2]
 rfl
theorem Qme (l:List Int):l.flatMap vW=(l.map (Value.int .i64)).map QD.v:=by
 induction l with
 |nil=>rfl
 |cons a l ih=>simp only [J6,I9,ih];rfl
theorem Ql0 (l:List Int) (j:Nat) (k:Int):(l.flatMap vW).set j (.v (.int .i64 k))=(l.set j k).flatMap vW:=by
 rw [Qme,Qme,List.map_set,List.map_set]
theorem QlJ (l:List Int) (u:Value) (S:List Nat) (k0:Int) (w:World) (hk0:0<=k0) (hkb:k0+l.length<=100000000) (hh:Yp w (xE l) u S):
  Calls Tryz.prog 25 #[u,.int .i64 k0] w fun e w'=>e= .returned (.int .i64 (k0+l.length))/\Yp w' (xE (Qk4 k0 l.length)) u S/\Qc S w w':=by
 obtain⟨A,cap,rfl,h0,h1,_⟩:=hh.rd.at_
 unfold maxLen at h1
 go_enter Tryz.func25,Tryz.ntmps25
 go_wp2_with fail
 go_loopw [1,5] (fun r i wr=>∃(j:Nat),j<=l.length/\i= .int .i64 j/\r= .int .i64 (k0+j)/\Hid (Yp wr (.s l.length ((Qk4 k0 j++l.drop j).flatMap vW)) (.slice A l.length cap) S)/\Hid (Qc S w wr)) (fun _ i _=>l.length-(intOf i).toNat)
 case atStart=>exact⟨0,I3 _,rfl,by simp,Qb hh,Qb (B0 _ _)⟩
 case round=>
  obtain⟨j,hj,rfl,rfl,H0qq,hc⟩:=hrel
  by_cases hlt:j<l.length
  ·obtain⟨g,rfl,hgS⟩:=H0qq.out.own (by omega)
   have hjm:j<(Qk4 k0 j++l.drop j).length:=by rw [I0,Qlb,S7];omega
   obtain⟨q0,qf,_,P⟩:=H0qq.out.set_ (QfX _ j hjm) (.int .i64 (k0+j))
   rw [Ql0,QlR hlt] at P
   have HP:=Qb P
   have wkq:IntKind.i64.wrap (k0+(j:Int)+1)=k0+(j:Int)+1:=Zd (by omega) (by omega)
   clear P
   go_wp2_with fail
   go_roundw
   case rel=>exact⟨j+1,by omega,by go_num,by go_num,HP,Qb (hc.out.setCell (.inl hgS) _)⟩
   case measure=>simp [intOf];omega
  ·obtain rfl:j=l.length:=by omega
   go_wp2_with fail
   go_ret
   have H1:=H0qq.out
   rw [List.drop_of_length_le (F0 _),List.append_nil] at H1
   refine⟨rfl,?_,hc.out⟩
   unfold xE
   rw [Qlb]
   exact H1
theorem Qls (n:Nat) (u:Value) (B:Nat) (k0:Int) (w:World) (hk0:0<=k0) (hkb:k0+n<=100000000) (hr:Rd w B (xE (Qk4 k0 n)) u) (hB:B<=w.heap.size):
  Calls Tryz.prog 26 #[u,.int .i64 k0] w fun e w'=>e= .returned (.int .i64 (k0+n))/\Qc [] w w':=by
 obtain⟨A,cap,eu,h0,h1,hrow⟩:=zl hr
 have hln:=Qlb k0 n
 rw [hln] at eu h0
 subst eu
 unfold maxLen at h1
 clear hr
 go_enter Tryz.func26,Tryz.ntmps26
 go_wp2_with fail
 go_loopw [1,5] (fun r i wr=>∃k:Nat,k<=n/\i= .int .i64 k/\r= .int .i64 (k0+k)/\Qc [] w wr) (fun _ i _=>n-(intOf i).toNat)
 case atStart=>exact⟨0,I3 _,rfl,by simp,B0 _ _⟩
 case round=>
  obtain⟨k,hk,rfl,rfl,hh⟩:=hrel
  by_cases hlt:k<n
  ·obtain⟨b,off,rfl,hb,hu⟩:=yi (hrow.cz hh hB) k (by rw [hln];exact hlt)
   rw [QlV] at hu
   have wkq:IntKind.i64.wrap (k0+(k:Int)+1)=k0+(k:Int)+1:=Zd (by omega) (by omega)
   replace hrow:=Qb hrow
   replace hln:=Qb hln
   go_wp2_with fail
   go_roundw
   case rel=>exact⟨k+1,by omega,by go_num,by go_num,hh⟩
   case measure=>simp [intOf];omega
  ·obtain rfl:k=n:=by omega
   go_wp2_with fail
   go_ret
   exact⟨rfl,hh⟩
end Go.Proofs.YtfjhdnjlhjimeaaGreatDoor
set_option maxRecDepth 100000
set_option maxHeartbeats 8000000
namespace Go.Proofs.YtfjhdnjlhjimeaaGreatDoor
open Go.RowKit

def Qll (m:List Qa) (us:List Int) (b:Bool):Prop:=(b=false/\us=[] /\(¬QiK m∨(w3L QdW m).fail Qhy))∨
 (b=true/\QiK m/\¬(w3L QdW m).fail Qhy/\∃u0 u1 u2,us=[u0,u1,u2] /\Qgm ((w3L QdW m).ask Qhy) 0 u0/\Qgm ((w3L QdW m).ask Qhy) 1 u1/\Qgm ((w3L QdW m).ask Qhy) 2 u2)
theorem Qll.one {m:List Qa} {us us':List Int} {b b':Bool} (h:Qll m us b) (h':Qll m us' b'):us=us'/\b=b':=by
 rcases h with ⟨rfl,rfl,h1⟩|⟨rfl,h1,h2,u0,u1,u2,rfl,j0,j1,j2qq⟩<;>rcases h' with ⟨rfl,rfl,k1⟩|⟨rfl,k1,k2,v0,v1,v2,rfl,i0,i1,i2⟩
 ·exact⟨rfl,rfl⟩
 ·exact(h1.elim (fun h=>h k1) k2).elim
 ·exact(k1.elim (fun h=>h h1) h2).elim
 ·rw [j0.one i0,j1.one i1,j2qq.one i2];exact⟨rfl,rfl⟩
theorem Qll.len {m:List Qa} {us:List Int} {b:Bool} (h:Qll m us b):us.length<=3:=by
 rcases h with ⟨_,rfl,_⟩|⟨_,_,_,_,_,_,rfl,_⟩
 ·exact I3 _
 ·exact F0 _
theorem Ql6 (w:World):qt w w (xE []) (.slice none 0 0):=⟨[],⟨by rw [xE,Yb];exact .inl ⟨rfl,rfl,rfl,rfl⟩,O9⟩,by simp,B0 _ _⟩
theorem QlB (l:List Qa):Qk3 l=9 * Qd l:=by
 have key:∀n (l:List Qa),Qd l<=n->Qk3 l=9 * Qd l:=by
  intro n
  induction n with
  |zero=>
   intro l h
   cases l with
   |nil=>rfl
   |cons a l=>rw [Qd] at h;have:=a.size_eq;omega
  | succ n ih=>
   intro l
   induction l with
   |nil=>intro _;rfl
   |cons a l ihl=>
    intro h
    rw [Qd] at h ⊢
    have e1:=a.size_eq
    have h1:=ih a.A (by omega)
    have h2:=ih a.B (by omega)
    have h3:=ihl (by omega)
    unfold Qk3 at h3 ⊢
    simp only [I9,V8]
    rw [Qlq]
    omega
 exact key _ l (F0 _)
theorem Qlg (m:List Qa) (ul:Value) (S:List Nat) (w:World) (hW:Qi m<=1048576) (hE:KP w) (hO:Yp w (QA m) ul S):
  Calls Tryz.prog 21 #[ul] w fun e w'=>∃us b A c,e= .returned (.tuple #[.slice A us.length c,.bool b])/\qt w w' (xE us) (.slice A us.length c)/\Qll m us b:=by
 refine(QiN m ul S w hE hW hO.1 hO.lt).mono ?_
 rintro e w' ⟨hc,⟨hn,rfl⟩|⟨hok,hnf,u0,u1,u2,v,rfl,hv,j0,j1,j2qq,hn⟩⟩
 ·exact⟨[],false,none,0,rfl,(Ql6 w).later hc,.inl ⟨rfl,rfl,hn⟩⟩
 ·obtain⟨A,cap,rfl,_⟩:=hv
  exact⟨[u0,u1,u2],true,A,cap,rfl,hn,.inr ⟨rfl,hok,hnf,u0,u1,u2,rfl,j0,j1,j2qq⟩⟩
theorem KWq.one {w1:World} {g:Nat} (hs:Qjg w1 (Qj8 QjY).list (.slice (some ⟨g,0,none⟩) 3 3)):
  KWq (w1.alloc (.cells #[.slice (some ⟨g,0,none⟩) 3 3,.slice none 0 0,.int .i64 0,.int .i64 0,.int .i64 0,.int .i64 0] 109)) (fun s=>s=QjY) (.slice (some ⟨w1.heap.size,0,none⟩) 1 1):=
 ⟨[QjY],by simp,fun s=>by simp,fun s h=>by rw [E0.1 h];exact⟨(show 0<3 by decide),(show 1<3 by decide),(show 2<3 by decide)⟩,
  ⟨Qjp (.slice (some ⟨g,0,none⟩) 3 3)++ [],⟨rfl,.inr ⟨w1.heap.size,1,_,rfl,I3 _,heap_alloc_new w1 _,F0 _,by simp [maxLen],rfl,rfl⟩⟩,⟨_,_,rfl,hs.keep C6 Qjh.nil,rfl⟩⟩⟩
theorem Qj2.numsV {w:World} {b cw:Nat} {A:Nat->Int->Prop} (h:Qj2 w b A) (h1:3<=cw) (h2:cw<=maxLen):∃u0 u1 u2,Zn w [u0,u1,u2] (.slice (some ⟨b,0,none⟩) 3 cw)/\Qgm A 0 u0/\Qgm A 1 u1/\Qgm A 2 u2:=by
 obtain⟨u0,u1,u2,hb,⟨cs,fr,hk⟩,j0,j1,j2qq⟩:=h
 refine⟨u0,u1,u2,⟨_,_,rfl,h1,h2,.inr ⟨b,0,cs,fr,rfl,hk,fun j hj=>?_⟩⟩,j0,j1,j2qq⟩
 match j,hj with
 |0,_=>exact hb.c 0 _ rfl
 |1,_=>exact hb.c 1 _ rfl
 |2,_=>exact hb.c 2 _ rfl
theorem Qmb (m:List Qa) (ul:Value) (S:List Nat) (w:World) (hW:Qi m<=1048576) (hO:Yp w (QA m) ul S):
  Calls Tryz.prog 19 #[ul] w fun e w'=>∃us b A c,e= .returned (.tuple #[.slice A us.length c,.bool b])/\Rd w' w'.heap.size (xE us) (.slice A us.length c)/\Qc [] w w'/\Qll m us b:=by
 have hL:WY (fun y=>y∈S) w m ul:=⟨S,hO.1,fun y hy=>hy⟩
 have hsb:∀y,(fun y=>y∈S) y->y<w.heap.size:=hO.lt
 have IP:=Qb (Qma m ul w.heap.size w hW hL.rd (F0 _))
 go_enter Tryz.func19,Tryz.ntmps19
 go_wp2_with fail
 refine IP.out.mono ?_
 rintro e w1 ⟨t,rfl,ht,c1⟩
 cases t
 ·replace ht:=Qb ht
  go_wp2_with fail
  go_ret2
  exact⟨[],false,_,_,rfl,(Zn.nil _ _ (by decide)).rd,c1.alloc _,.inl ⟨rfl,rfl,.inl (fun h=>by have:=ht.out.2 h;cases this)⟩⟩
 ·have hok:=ht.1 rfl
  have hAll:QgK Qgc m:=QhI m hok.1.2.2 hok.2
  have z1:=c1.size
  clear ht
  replace hok:=Qb hok
  obtain⟨b3,hb3⟩:∃b,w1.heap.size=b:=⟨_,rfl⟩
  go_upto_region 3 with fail
  refine Qp fun w2 hw2=>?_
  obtain rfl:=hw2
  obtain⟨wa,hwa⟩:∃x,x=w2.alloc (.cells #[.string ⟨#[48]⟩,.string ⟨#[49]⟩,.string ⟨#[50]⟩] 9):=⟨_,rfl⟩
  have za:wa.heap.size=b3+1:=by rw [hwa, <-hb3];simp
  have ca:Qc [] w2 wa:=by rw [hwa];exact C6
  have sa:Qjg wa (Qj8 QjY).list (.slice (some ⟨b3,0,none⟩) 3 3):=by
   rw [hwa, <-hb3]
   have n0:W5 ((0:Nat):Int)=⟨#[48]⟩:=by decide+kernel
   have n1:W5 ((1:Nat):Int)=⟨#[49]⟩:=by decide+kernel
   have n2:W5 ((2:Nat):Int)=⟨#[50]⟩:=by decide+kernel
   have e0:Qj8 QjY=⟨⟨#[48]⟩,⟨#[49]⟩,⟨#[50]⟩⟩:=by
    show(⟨W5 ((0:Nat):Int),W5 ((1:Nat):Int),W5 ((2:Nat):Int)⟩:YY ByteArray)=_
    rw [n0,n1,n2]
   rw [e0]
   exact Qjg.of_box (Y3 _ _ _ rfl) (L9 w2 #[.string ⟨#[48]⟩,.string ⟨#[49]⟩,.string ⟨#[50]⟩] _) (F0 _) (by simp [maxLen])
  obtain⟨wb,hwb⟩:∃x,x=wa.alloc (.cells #[.slice (some ⟨b3,0,none⟩) 3 3,.slice none 0 0,.int .i64 0,.int .i64 0,.int .i64 0,.int .i64 0] 109):=⟨_,rfl⟩
  have zbq:wb.heap.size=b3+1+1:=by rw [hwb, <-za];simp
  have cb:Qc [] wa wb:=by rw [hwb];exact C6
  have kb:KWq wb (fun s=>s=QjY) (.slice (some ⟨b3+1,0,none⟩) 1 1):=by rw [hwb, <-za];exact KWq.one sa
  obtain⟨wc,hwc⟩:∃x,x=wb.alloc (.cells #[.int .i64 0,.int .i64 0,.int .i64 0] 3):=⟨_,rfl⟩
  have cc:Qc [] wb wc:=by rw [hwc];exact C6
  have Wcq:Qj2 wc (b3+1+1) (fun _ _=>False):=by
   rw [hwc, <-zbq]
   exact⟨0,0,0,L9 wb _ _,(Y3 _ _ _ rfl),QiH,QiH,QiH⟩
  have kc:=kb.keep cc Qjh.nil (by simp)
  have C:Qc [] w wc:=((c1.tz ca).tz cb).tz cc
  have zc:=C.size
  have LG:=QlE (fun y=>y∈S) w.heap.size (b3+1+1) 3 hsb m hAll ul _ _ _ wc zc (by omega) kc Wcq (hL.keep (B:=w.heap.size) C hsb (by simp))
  rw [hwc,hwb,hwa] at LG
  have hb5:w.heap.size<=b3+1+1:=by omega
  rw [hwc,hwb,hwa] at C
  replace C:=Qb C
  replace LG:=Qb LG
  clear hwa hwb hwc za zbq ca cb cc sa kb kc Wcq zc hL IP
  go_wp2_with fail
  refine LG.out.mono ?_
  rintro e w6 ⟨v',fb,rfl,k6,W6q,hfb,c6,_⟩
  obtain⟨A6,n6,p6,rfl⟩:=k6.sl
  obtain⟨u0,u1,u2,iv,j0,j1,j2qq⟩:=W6q.numsV (F0 _) (by simp [maxLen])
  obtain⟨hfl,hask⟩:=Qj1 hAll
  have C6qq:=Qb (C.out.trans c6 (fun y hy=>.inr (by rw [E0.1 hy];omega)))
  have hA':∀i n,(False∨∃s,s=QjY/\(w3L Qid m).ask s i n)↔(w3L QdW m).ask Qhy i n:=fun i n=>by
   rw [hask]
   exact⟨fun h=>h.elim (fun h=>h.elim) (fun⟨_,e,h⟩=>e ▸ h),fun h=>.inr ⟨_,rfl,h⟩⟩
  have hf':fb=true↔ ¬(w3L QdW m).fail Qhy:=by
   rw [hfb,hfl]
   exact not_congr ⟨fun⟨_,e,h⟩=>e ▸ h,fun h=>⟨_,rfl,h⟩⟩
  have J0qq:=Qb (j0.congr (hA' 0))
  have J1:=Qb (j1.congr (hA' 1))
  have J2qq:=Qb (j2qq.congr (hA' 2))
  replace hf':=Qb hf'
  replace iv:=Qb iv
  clear LG k6 W6q hfb c6 hfl hask hA' j0 j1 j2qq
  cases fb
  ·go_wp2_with fail
   go_ret2
   exact⟨[],false,_,_,rfl,(Zn.nil _ _ (by decide)).rd,C6qq.out.alloc _,.inl ⟨rfl,rfl,.inr (Classical.byContradiction fun h=>by have:=hf'.out.2 h;cases this)⟩⟩
  ·go_wp2_with fail
   go_ret2
   exact⟨[u0,u1,u2],true,_,_,rfl,iv.out.rd,C6qq.out,.inr ⟨rfl,hok.out,(by first|exact hf'.out.1 rfl|simpa using hf'.out),u0,u1,u2,rfl,J0qq.out,J1.out,J2qq.out⟩⟩
end Go.Proofs.YtfjhdnjlhjimeaaGreatDoor
set_option maxRecDepth 100000
set_option maxHeartbeats 4000000
namespace Go.Proofs.YtfjhdnjlhjimeaaGreatDoor
open Go.RowKit
theorem QlN (l:List Qa) (ul:Value) (B:Nat) (w:World) (hfl:Jl [QA l]) (rl_0:Rd w B (QA l) ul) (hB:B<=w.heap.size) (hE:KP w):
  Calls Tryz.prog 5 #[ul] w fun e w'=>e= .returned (.bool true)/\Qc [] w w':=by
 have EH:=Qb (fun W (hc:Qc [] w W)=>hE.keep hc)
 clear hE
 go_enter Tryz.func5,Tryz.ntmps5
 go_wp2_with fail
 refine(QlD l _ _ B _ (by omega) (by omega) hfl rl_0 (by omega)).mono ?_;rintro e w1 ⟨z1,rfl,L1qq,c1⟩
 have bd1:=L1qq.bd (by omega)
 have b1:=Qc.size (c1)
 have rl_1:=Rd.cz rl_0 (c1) (by omega)
 have d1:Qc [] w w1:=H0 (B0 [] w) (c1)
 go_wp2_with fail
 ·go_ret
  exact⟨rfl,d1⟩
 have hWl:Qi l<=1048576/\(0<=z1):=by simp only [Left] at L1qq;omega
 have hN3:=QlB l
 have hN4:=xU l
 have hWl1:=hWl.1
 refine(Qk7 l _ _ _ hWl.1 rl_1 (by omega)).mono ?_;intro e w2 G2;obtain⟨A2,cap2,rfl,n2⟩:=G2.sl
 have hc2:=n2.chg
 have b2:=Qc.size (hc2)
 have rl_2:=Rd.cz rl_1 (hc2) (by omega)
 have d2:Qc [] w w2:=H0 (d1) (hc2)
 obtain⟨St0,Ht0_2,lot0,_⟩:=n2
 have hit0:=Ht0_2.lt
 go_wp2_with fail
 refine(Qmb l _ _ _ hWl.1 Ht0_2).mono ?_;rintro e w3 ⟨us,tb,A3,cap3,rfl,v0_3,c3,hU⟩
 have hus:=hU.len
 replace hU:=Qb hU
 have b3:=Qc.size (c3)
 have rl_3:=Rd.cz rl_2 (c3) (by omega)
 have Ht0_3:=Yp.kz Ht0_2 (c3)
 have d3:Qc [] w w3:=H0 (d2) (c3)
 go_wp2_with fail
 refine(Qk7 l _ _ _ hWl.1 rl_3 (by omega)).mono ?_;intro e w4 G4;obtain⟨A4,cap4,rfl,n4⟩:=G4.sl
 have hc4:=n4.chg
 have b4:=Qc.size (hc4)
 have rl_4:=Rd.cz rl_3 (hc4) (by omega)
 have v0_4:=Rd.cz v0_3 (hc4) (by omega)
 have d4:Qc [] w w4:=H0 (d3) (hc4)
 obtain⟨Sx0,Hx0_4,lox0,_⟩:=n4
 have hix0:=Hx0_4.lt
 go_wp2_with fail
 refine(Qlg l _ _ _ hWl.1 (EH.out _ (d4)) Hx0_4).mono ?_;rintro e w5 ⟨us5,tb5,A5,cap5,rfl,n5,hV⟩
 obtain⟨rfl,rfl⟩:=hU.out.one hV
 clear hV
 have hc5:=n5.chg
 have b5:=Qc.size (hc5)
 have rl_5:=Rd.cz rl_4 (hc5) (by omega)
 have v0_5:=Rd.cz v0_4 (hc5) (by omega)
 have Hx0_5:=Yp.kz Hx0_4 (hc5)
 have d5:Qc [] w w5:=H0 (d4) (hc5)
 obtain⟨Sg0,Hg0_5,log0,_⟩:=n5
 have hig0:=Hg0_5.lt
 go_wp2_with fail
 refine(Qlk us _ _ _ _ _ Hg0_5.rd v0_5 (by omega) (by omega)).mono ?_;rintro e w6 ⟨rfl,c6⟩
 have b6:=Qc.size (c6)
 have rl_6:=Rd.cz rl_5 (c6) (by omega)
 have v0_6:=Rd.cz v0_5 (c6) (by omega)
 have Hx0_6:=Yp.kz Hx0_5 (c6)
 have Hg0_6:=Yp.kz Hg0_5 (c6)
 have d6:Qc [] w w6:=H0 (d5) (c6)
 go_wp2_with fail
 refine(Qk7 l _ _ _ hWl.1 rl_6 (by omega)).mono ?_;intro e w7 G7;obtain⟨A7,cap7,rfl,n7⟩:=G7.sl
 have hc7:=n7.chg
 have b7:=Qc.size (hc7)
 have rl_7:=Rd.cz rl_6 (hc7) (by omega)
 have v0_7:=Rd.cz v0_6 (hc7) (by omega)
 have Hx0_7:=Yp.kz Hx0_6 (hc7)
 have Hg0_7:=Yp.kz Hg0_6 (hc7)
 have d7:Qc [] w w7:=H0 (d6) (hc7)
 obtain⟨Sy0,Hy0_7,loy0,_⟩:=n7
 have hiy0:=Hy0_7.lt
 go_wp2_with fail
 refine(QlC l _ _ _ _ _ Hx0_7.rd Hy0_7.rd (by omega) (by omega)).mono ?_;rintro e w8 ⟨rfl,c8⟩
 have b8:=Qc.size (c8)
 have rl_8:=Rd.cz rl_7 (c8) (by omega)
 have v0_8:=Rd.cz v0_7 (c8) (by omega)
 have Hx0_8:=Yp.kz Hx0_7 (c8)
 have Hg0_8:=Yp.kz Hg0_7 (c8)
 have Hy0_8:=Yp.kz Hy0_7 (c8)
 have d8:Qc [] w w8:=H0 (d7) (c8)
 go_wp2_with fail
 refine(Qlz l _ _ _ _ (by omega) (by omega) Hx0_8).mono ?_;rintro e w9 ⟨rfl,Hx0_9,c9⟩
 have b9:=Qc.size (c9)
 have rl_9:=Rd.chg rl_8 (c9) (by omega) (fun x hx=>by have:=lox0 x hx;omega)
 have v0_9:=Rd.chg v0_8 (c9) (by omega) (fun x hx=>by have:=lox0 x hx;omega)
 have Hg0_9:=Yp.keep Hg0_8 (c9) (fun x hx hy=>by have:=log0 x hx;have:=hix0 x hy;omega)
 have d9:Qc [] w w9:=K6 (d8) (c9) (fun x hx=>.inr (by have:=lox0 x hx;omega))
 go_wp2_with fail
 refine(Qlk us _ _ _ _ _ Hg0_9.rd v0_9 (by omega) (by omega)).mono ?_;rintro e w10 ⟨rfl,c10⟩
 have b10:=Qc.size (c10)
 have rl_10:=Rd.cz rl_9 (c10) (by omega)
 have v0_10:=Rd.cz v0_9 (c10) (by omega)
 have Hg0_10:=Yp.kz Hg0_9 (c10)
 have d10:Qc [] w w10:=H0 (d9) (c10)
 go_wp2_with fail
 refine(QlJ us _ _ 1 _ (by omega) (by omega) Hg0_10).mono ?_;rintro e w11 ⟨rfl,Hg0_11,c11⟩
 have b11:=Qc.size (c11)
 have rl_11:=Rd.chg rl_10 (c11) (by omega) (fun x hx=>by have:=log0 x hx;omega)
 have v0_11:=Rd.chg v0_10 (c11) (by omega) (fun x hx=>by have:=log0 x hx;omega)
 have d11:Qc [] w w11:=K6 (d10) (c11) (fun x hx=>.inr (by have:=log0 x hx;omega))
 go_wp2_with fail
 refine(Qls us.length _ _ 1 _ (by omega) (by omega) Hg0_11.rd (by omega)).mono ?_;rintro e w12 ⟨rfl,c12⟩
 have b12:=Qc.size (c12)
 have rl_12:=Rd.cz rl_11 (c12) (by omega)
 have v0_12:=Rd.cz v0_11 (c12) (by omega)
 have Hg0_12:=Yp.kz Hg0_11 (c12)
 have d12:Qc [] w w12:=H0 (d11) (c12)
 go_wp2_with fail
 refine(Qk7 l _ _ _ hWl.1 rl_12 (by omega)).mono ?_;intro e w13 G13;obtain⟨A13,cap13,rfl,n13⟩:=G13.sl
 have hc13:=n13.chg
 have b13:=Qc.size (hc13)
 have rl_13:=Rd.cz rl_12 (hc13) (by omega)
 have v0_13:=Rd.cz v0_12 (hc13) (by omega)
 have Hg0_13:=Yp.kz Hg0_12 (hc13)
 have d13:Qc [] w w13:=H0 (d12) (hc13)
 obtain⟨St2,Ht2_13,lot2,_⟩:=n13
 have hit2:=Ht2_13.lt
 go_wp2_with fail
 refine(Qlg l _ _ _ hWl.1 (EH.out _ (d13)) Ht2_13).mono ?_;rintro e w14 ⟨us14,tb14,A14,cap14,rfl,n14,hV⟩
 obtain⟨rfl,rfl⟩:=hU.out.one hV
 clear hV
 have hc14:=n14.chg
 have b14:=Qc.size (hc14)
 have rl_14:=Rd.cz rl_13 (hc14) (by omega)
 have v0_14:=Rd.cz v0_13 (hc14) (by omega)
 have Hg0_14:=Yp.kz Hg0_13 (hc14)
 have Ht2_14:=Yp.kz Ht2_13 (hc14)
 have d14:Qc [] w w14:=H0 (d13) (hc14)
 obtain⟨Sh0,Hh0_14,loh0,_⟩:=n14
 have hih0:=Hh0_14.lt
 go_wp2_with fail
 refine(Qlk us _ _ _ _ _ Hh0_14.rd v0_14 (by omega) (by omega)).mono ?_;rintro e w15 ⟨rfl,c15⟩
 have b15:=Qc.size (c15)
 have rl_15:=Rd.cz rl_14 (c15) (by omega)
 have v0_15:=Rd.cz v0_14 (c15) (by omega)
 have Hg0_15:=Yp.kz Hg0_14 (c15)
 have Hh0_15:=Yp.kz Hh0_14 (c15)
 have d15:Qc [] w w15:=H0 (d14) (c15)
 go_wp2_with fail
 refine(Qls us.length _ _ 1 _ (by omega) (by omega) Hg0_15.rd (by omega)).mono ?_;rintro e w16 ⟨rfl,c16⟩
 have b16:=Qc.size (c16)
 have rl_16:=Rd.cz rl_15 (c16) (by omega)
 have v0_16:=Rd.cz v0_15 (c16) (by omega)
 have Hg0_16:=Yp.kz Hg0_15 (c16)
 have Hh0_16:=Yp.kz Hh0_15 (c16)
 have d16:Qc [] w w16:=H0 (d15) (c16)
 go_wp2_with fail
 go_ret
 exact⟨rfl,d16⟩
end Go.Proofs.YtfjhdnjlhjimeaaGreatDoor
set_option maxRecDepth 100000
namespace Go.Proofs.YtfjhdnjlhjimeaaGreatDoor
open Go.ChangeShapes Go.WideShapes Go.ChangeAt Go.RowKit

theorem QlA (os:Os) (started:os.Started) (H:Type) (enc:TypeId×Value->H):
  ReturnsInHanded {} Tryz.checked os 5 .any (fun w args=>(Rows.fnExactWantsOfSpec.pre enc Tryz.prog Tryz.f5 Rows.fnExactWantsOfRow.domain false w args/\laidMetH Tryz.prog Rows.fnExactWantsOfRow.laid w)/\sizedMet enc Tryz.prog Tryz.f5 (OpenSpec.ofChange Rows.fnExactWantsOfSpec) false w args)
   (Rows.fnExactWantsOfSpec.post enc Tryz.prog Tryz.f5 false true false false):=by
 refine zD (C:=Tryz.checked) (X:=fun w _=>laidMetH Tryz.prog Rows.fnExactWantsOfRow.laid w) (fun _ _ _ hh h=>h.of_heap hh) Tryz.own started (by kernel_rfl) Tryz.func5
  (ChangeSpec.witness_shaped (enc:=enc) (C:=Tryz.checked) (os:=os) (X:=fun w _=>laidMetH Tryz.prog Rows.fnExactWantsOfRow.laid w) false (World.laidAll Tryz.prog os Rows.fnExactWantsOfRow.laid) #[.slice none 0 0] 8 (World.laidAll_os _ _ _)
   (World.shaped_of_ZipB (by kernel_rfl) (by kernel_rfl)) (by kernel_rfl) (by kernel_rfl) (by kernel_rfl)
   (by rw [MakeChecks.laidMetH_plain _ _ _ (by kernel_rfl)];exact laidMet_laidAll _ (by kernel_rfl) (by kernel_rfl))) ?_
 intro W base args ds gs before hval0 hW hX hsh
 have hval:∀(j:Nat) t v,Tryz.f5.params[j]?=some t->args[j]?=some v->Value.okWide Tryz.prog W .any base t v:=hval0
 have hW':=hW
 obtain⟨p,q,hA0,hV,rfl,hfz,hnd⟩:=hW
 have hA:DataW.TrodAll enc Tryz.prog W 0 (fun _=>true) true Tryz.f5.params.toList args.toList ds p:=hA0
 rw [Tryz.params5] at hA hval
 obtain⟨v0,d0,rfl,rfl,h0⟩:=trodAll_one hA
 obtain⟨rfl,rfl⟩:=trodVars_none hV
 obtain⟨l,hfl,rdl⟩:=Vp.arg Qln Tryz.underlying44 (hval 0 44 v0 rfl rfl) h0
 rw [MakeChecks.laidMetH_plain _ _ _ (by kernel_rfl)] at hX
 have hE:KP W:=QgA hsh hX (.tail _ (.tail _ (.head _))) (.tail _ (.tail _ (.tail _ (.tail _ (.tail _ (.head _))))))
 refine(QlN l _ _ W hfl rdl (F0 _) hE).mono fun e W' ⟨he,hw⟩=>?_
 subst he
 exact⟨_,rfl,QgP rfl rfl Tryz.underlying4 Tryz.laidOut (by rw [Tryz.params5];intro t ht;simp at ht;subst ht;exact⟨by kernel_rfl,of_decide_eq_true (by kernel_rfl)⟩) hW' rfl hw⟩

theorem wantsOf_row_holds:Rows.FnExactWantsOfSaid:=
 OpenClaim.holds_of_wide 5 Tryz.f5 rfl rfl rfl rfl rfl rfl rfl ⟨rfl,rfl,rfl,rfl,rfl⟩ rfl rfl rfl rfl rfl (by kernel_rfl) Tryz.func5 (by kernel_rfl)
  (of_decide_eq_true (by kernel_rfl)) (by unfold Func.isWrapper;rw [if_neg (of_decide_eq_false (by kernel_rfl))];exact⟨rfl,rfl⟩)
  (fun os started H enc _=>QlA os started H enc)

theorem wantsOf_holds:Rows.FnExactWantsOfCardSaid:=
 Claim7.holds_tied_plain_at .later [] [.data,.data,.data,.data,.sentinel,.sentinel,.pinned] true _ true wantsOf_row_holds (fun _ h=>by cases h) (by kernel_rfl) (fun _ h=>by cases h) fnExactWantsOf_row_tie rfl ⟨rfl,rfl⟩ (by kernel_rfl) rfl
  (fun f fn hf hfn=>by
   obtain rfl:f=5:=M1 ((show Tryz.prog.funcNamed "loop.example/g03016/laws.FnExactWantsOf" =some 5 by kernel_rfl).symm.trans hf) |>.symm
   obtain rfl:fn=Tryz.f5:=(M1 (Tryz.func5.symm.trans hfn)).symm
   exact⟨by kernel_rfl,fun j t ht=>by
    rw [Tryz.params5] at ht
    have hm:t∈ [44]:=by simpa using Array.mem_of_getElem? ht
    have hall:([44].all fun u=>!Tryz.prog.wantsStandIn u)=true:=by kernel_rfl
    exact(show Tryz.prog.wantsStandIn t=false by simpa using g7.1 hall t hm)⟩)
  (by kernel_rfl)
end Go.Proofs.YtfjhdnjlhjimeaaGreatDoor
