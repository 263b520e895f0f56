/- Plans. Conditions: as stated. -/
import Derived.Test.YtjeadhmkghnkkaaGreatDoorList
set_option maxRecDepth 100000
set_option maxHeartbeats 16000000
namespace Go.Proofs.YtjeadhmkghnkkaaGreatDoor
open Go.RowKit

def Qgz (k N:Nat) (pl:Bool) (w:World) (e:Ending) (w':World):Prop:=∃(l:List Qa) (A:Option Addr) (cap:Nat),e= .returned (.slice A l.length cap)/\W0 [k] w w' 33 11 (.slice A l.length cap) l.length (l.flatMap QO)/\Xn l/\Qi l<=N/\(pl=true->zR 10 3 l)/\WN w' k
theorem vw:Xn []:=⟨by simp [Qd],by simp [Qv],by simp [Jm]⟩
theorem W0.row {T:List Nat} {w0 w:World} {e:TypeId} {A:Option Addr} {n cap c:Nat} {cs:List QD} (h:W0 T w0 w e c (.slice A n cap) n cs):n<=cap/\cap<=maxLen/\(0<n->∃g,A=some ⟨g,0,none⟩/\w0.heap.size<=g):=by
 obtain⟨xs,S',h1,_⟩:=h
 rcases h1.2 with ⟨e,rfl⟩|⟨g,cap',cur,e,h2,_,h3,h4,_⟩
 ·simp only [Value.slice.injEq] at e
  exact⟨by omega,by unfold maxLen;omega,fun h=>by omega⟩
 ·simp only [Value.slice.injEq,true_and] at e
  obtain⟨rfl,rfl⟩:=e
  exact⟨h3,h4,fun _=>⟨g,rfl,h2⟩⟩
theorem Qah {p q:Int} {l:List Qa} (n:Nat) (h:zR p q l):zR p q (l.take n):=by
 rw [kF] at h ⊢
 exact fun a ha=>h a (List.mem_of_mem_take ha)
theorem qo (l:List Qa) (n:Nat):Qi (l.take n)<=Qi l:=by
 have h:=UC (l.take n) (l.drop n)
 rw [T7] at h
 omega
theorem Qbx (k:Nat) (w:World) (hcur:WN w k):
  Calls Tryz.prog 32 #[.pointer (some ⟨k,0,none⟩)] w (Qgz k 26000 false w):=by
 have hk:=hcur.lt
 have ON:=Qb (fun n W (hc:WN W k)=>vv k n W hc)
 have LS:Hid (∀W,WN W k->Calls Tryz.prog 61 #[.pointer (some ⟨k,0,none⟩),.int .i64 6,.int .i64 2,.bool false] W (QeI k 25200 6 false W)):=Qb (fun W hc=>Qbb k false 2 6 W hc (by omega) (by omega) (by omega))
 have hT:Hid (∀x∈ [k],x<w.heap.size):=Qb (by simpa using hk)
 go_enter Tryz.func32,Tryz.ntmps32
 go_wp2_with fail
 refine ZM fun x0 hx0=>?_
 have hA0:=Qb (show W0 [k] w x0 33 11 (.slice (some ⟨w.heap.size,0,none⟩) 0 0) 0 [] by rw [hx0];exact W0.empty w _ _ (B0 _ _))
 have q0:=hcur.kz (show Qc [] w x0 by rw [hx0];exact C6)
 clear hx0
 refine(ON.out 3 _ q0).mono ?_
 rintro e w1 ⟨ok,rfl,q1,c1⟩
 have hA1:=Qb (hA0.out.later c1 hT.out)
 have k1:=q1.lt
 clear c1 hA0 q0
 cases ok
 ·go_wp2_with fail
  refine(LS.out _ q1).mono ?_
  rintro e w5 ⟨m,Am,cm,rfl,hm,hm1,hm6,hWm,_,q5⟩
  obtain⟨gm,rfl,_⟩:=hm.row.2.2 (by omega)
  obtain⟨us,nt,ul,un⟩:=hm.new.elems
  have HU:=Qb un
  have NT:=Qb nt
  have HL:=Qb (show us.length=m.length * 11 by rw [ul,Zs Yg])
  have HO:=Qb (kr nt)
  have r5:=hm.row.1
  have r6:=hm.row.2.1
  unfold maxLen at r6
  clear hm ul un nt
  go_wp2_with (at_builtin;refine Vr (T:=[k]) rfl (.tmp 12) (.tmp 14) _ rfl 33 _ 11 152 Tryz.underlying24 WJ rfl (by omega) hA1.out hT.out NT.out rfl gm m.length cm rfl HL.out HU.out HO.out (by omega) (by omega) ?_;intro A6 cap6 w6 hA6 hM6)
  simp only [J3,J9] at hA6 ⊢
  have q6:=q5.mid hM6 hk
  have HA6:=Qb hA6
  clear NT HL HU HO hA6 hM6 r5 r6 q5 hA1 q1
  go_loopw [3] (fun v wr=>∃(l:List Qa) (A:Option Addr) (cap:Nat),v= .slice A l.length cap/\Hid (W0 [k] w wr 33 11 (.slice A l.length cap) l.length (l.flatMap QO))/\Hid (Qi l<=26000)/\Hid (false=true->zR 10 3 l)/\l.length<=100/\WN wr k) (fun v _=>match v with| .slice _ n _=>n|_=>0)
  case atStart=>exact⟨m,A6,cap6,rfl,HA6,Qb (by omega),Qb (by simp),by omega,q6⟩
  case round=>
   obtain⟨l,A,cap,rfl,hA,hW,hP,hl,hq⟩:=hrel
   have IP:=Qb (JK l _ _ wr (G5 hW.out (by decide)) hA.out.new.rd (F0 _))
   obtain⟨r0,r1,r2⟩:=hA.out.row
   unfold maxLen at r1
   go_wp2_with fail
   refine IP.out.mono ?_
   rintro e w9 ⟨t,rfl,ht,c9⟩
   have hA9:=Qb (hA.out.later (c9.mono (by simp)) hT.out)
   have q9:=hq.kz c9
   have HT:=Qb ht
   clear IP hA hq c9 ht
   cases t
   ·have hnp:¬Xn l:=fun h=>by have:=HT.out.2 h;cases this
    cases hl2:l with
    |nil=>exact absurd (hl2 ▸ vw) hnp
    |cons a l2=>
     obtain⟨g,rfl,hg⟩:=r2 (by rw [hl2];simp)
     have hlen:l.length=l2.length+1:=by rw [hl2];rfl
     have wl:IntKind.i64.wrap (((l2.length+1:Nat):Int) -1)=(l2.length:Int):=by rw [Zd (by omega) (by omega)];omega
     have hsh:=Qb (hA9.out.shrink (m:=l2.length) (by omega))
     rw [Jo Yg] at hsh
     have htl:Hid ((l.take l2.length).length=l2.length):=Qb (by rw [J7,hlen];omega)
     have HN:=Qb hlen
     clear HT hnp r2
     subst hl2
     rw [I1] at r0 hl
     go_wp2_with fail
     go_roundw
     case rel=>exact⟨(a::l2).take l2.length,_,cap,by rw [htl.out],by rw [htl.out];exact hsh,Qb (G5 (qo _ _) hW.out),Qb (fun h=>Qah _ (hP.out h)),by rw [htl.out];omega,q9⟩
     case measure=>simp
   ·go_wp2_with fail
    go_ret
    exact⟨l,A,cap,rfl,hA9.out,(by have:=HT.out;simpa using this),hW.out,hP.out,q9⟩
 ·have NT:=Qb (show VU [k] w1 (w1.alloc (.cells #[.int .i64 1,.int .i64 0,.int .i64 0,.string ⟨#[114,111,98,111,116]⟩,.string ⟨#[]⟩,.string ⟨#[]⟩,.int .i64 0,.string ⟨#[]⟩,.int .i64 0,.slice none 0 0,.slice none 0 0,.int .i64 1,.int .i64 1,.int .i64 0,.string ⟨#[100,114,97,119,101,114]⟩,.string ⟨#[]⟩,.string ⟨#[]⟩,.int .i64 0,.string ⟨#[]⟩,.int .i64 0,.slice none 0 0,.slice none 0 0] 33)) (QO (.mk 1 0 0 ⟨#[114,111,98,111,116]⟩ ⟨⟨#[]⟩,⟨#[]⟩,0,⟨#[]⟩⟩ 0 [] [])++QO (.mk 1 1 0 ⟨#[100,114,97,119,101,114]⟩ ⟨⟨#[]⟩,⟨#[]⟩,0,⟨#[]⟩⟩ 0 [] [])) ([.int .i64 1,.int .i64 0,.int .i64 0,.string ⟨#[114,111,98,111,116]⟩,.string ⟨#[]⟩,.string ⟨#[]⟩,.int .i64 0,.string ⟨#[]⟩,.int .i64 0,.slice none 0 0,.slice none 0 0] ++ [.int .i64 1,.int .i64 1,.int .i64 0,.string ⟨#[100,114,97,119,101,114]⟩,.string ⟨#[]⟩,.string ⟨#[]⟩,.int .i64 0,.string ⟨#[]⟩,.int .i64 0,.slice none 0 0,.slice none 0 0]) from⟨[] ++ [],Zm.append (KT _ _ _ _ _ _ _ _ _ _) (KT _ _ _ _ _ _ _ _ _ _) (by simp),by simp,(B0 _ _).alloc _⟩)
  have NW:=Qb ((L9 w1 #[.int .i64 1,.int .i64 0,.int .i64 0,.string ⟨#[114,111,98,111,116]⟩,.string ⟨#[]⟩,.string ⟨#[]⟩,.int .i64 0,.string ⟨#[]⟩,.int .i64 0,.slice none 0 0,.slice none 0 0,.int .i64 1,.int .i64 1,.int .i64 0,.string ⟨#[100,114,97,119,101,114]⟩,.string ⟨#[]⟩,.string ⟨#[]⟩,.int .i64 0,.string ⟨#[]⟩,.int .i64 0,.slice none 0 0,.slice none 0 0] 33).c)
  have HONE:=Qb (show ∀u∈([.int .i64 1,.int .i64 0,.int .i64 0,.string ⟨#[114,111,98,111,116]⟩,.string ⟨#[]⟩,.string ⟨#[]⟩,.int .i64 0,.string ⟨#[]⟩,.int .i64 0,.slice none 0 0,.slice none 0 0] ++ [.int .i64 1,.int .i64 1,.int .i64 0,.string ⟨#[100,114,97,119,101,114]⟩,.string ⟨#[]⟩,.string ⟨#[]⟩,.int .i64 0,.string ⟨#[]⟩,.int .i64 0,.slice none 0 0,.slice none 0 0]:List Value),u.oneCell'=true from fun u hu=>(F4.1 hu).elim (zH u) (zH u))
  go_wp2_with (at_builtin;refine Vr (T:=[k]) rfl (.tmp 7) (.tmp 10) _ rfl 33 _ 11 152 Tryz.underlying24 WJ rfl (by omega) hA1.out hT.out NT.out rfl w1.heap.size 2 2 rfl rfl NW.out HONE.out (by omega) (by omega) ?_;intro A2 cap2 w2 hA2 hM2;simp only [J3,J9] at hA2 ⊢)
  have q2:=(q1.kz ((B0 _ _).alloc _)).mid hM2 hk
  have HA2:=Qb hA2
  clear NT NW HONE hA2 hM2 hA1 q1
  refine(LS.out _ q2).mono ?_
  rintro e w5 ⟨m,Am,cm,rfl,hm,hm1,hm6,hWm,_,q5⟩
  obtain⟨gm,rfl,_⟩:=hm.row.2.2 (by omega)
  obtain⟨us,nt,ul,un⟩:=hm.new.elems
  have HU:=Qb un
  have NT:=Qb nt
  have HL:=Qb (show us.length=m.length * 11 by rw [ul,Zs Yg])
  have HO:=Qb (kr nt)
  have r5:=hm.row.1
  have r6:=hm.row.2.1
  unfold maxLen at r6
  clear hm ul un nt
  go_wp2_with (at_builtin;refine Vr (T:=[k]) rfl (.tmp 12) (.tmp 14) _ rfl 33 _ 11 152 Tryz.underlying24 WJ rfl (by omega) HA2.out hT.out NT.out rfl gm m.length cm rfl HL.out HU.out HO.out (by omega) (by omega) ?_;intro A6 cap6 w6 hA6 hM6)
  have q6:=q5.mid hM6 hk
  have HA6:=Qb hA6
  clear NT HL HU HO hA6 hM6 r5 r6 q5 HA2 q2
  go_loopw [3] (fun v wr=>∃(l:List Qa) (A:Option Addr) (cap:Nat),v= .slice A l.length cap/\Hid (W0 [k] w wr 33 11 (.slice A l.length cap) l.length (l.flatMap QO))/\Hid (Qi l<=26000)/\Hid (false=true->zR 10 3 l)/\l.length<=100/\WN wr k) (fun v _=>match v with| .slice _ n _=>n|_=>0)
  case atStart=>exact⟨[(.mk 1 0 0 ⟨#[114,111,98,111,116]⟩ ⟨⟨#[]⟩,⟨#[]⟩,0,⟨#[]⟩⟩ 0 [] []),(.mk 1 1 0 ⟨#[100,114,97,119,101,114]⟩ ⟨⟨#[]⟩,⟨#[]⟩,0,⟨#[]⟩⟩ 0 [] [])] ++m,A6,cap6,by rw [I0];rfl,Qb (by have:=HA6.out;rw [J0,I0];exact this),Qb (by rw [UC];have h13:Qi [(.mk 1 0 0 ⟨#[114,111,98,111,116]⟩ ⟨⟨#[]⟩,⟨#[]⟩,0,⟨#[]⟩⟩ 0 [] []),(.mk 1 1 0 ⟨#[100,114,97,119,101,114]⟩ ⟨⟨#[]⟩,⟨#[]⟩,0,⟨#[]⟩⟩ 0 [] [])] <=100:=(by decide);omega),Qb (by simp),by simp;omega,q6⟩
  case round=>
   obtain⟨l,A,cap,rfl,hA,hW,hP,hl,hq⟩:=hrel
   have IP:=Qb (JK l _ _ wr (G5 hW.out (by decide)) hA.out.new.rd (F0 _))
   obtain⟨r0,r1,r2⟩:=hA.out.row
   unfold maxLen at r1
   go_wp2_with fail
   refine IP.out.mono ?_
   rintro e w9 ⟨t,rfl,ht,c9⟩
   have hA9:=Qb (hA.out.later (c9.mono (by simp)) hT.out)
   have q9:=hq.kz c9
   have HT:=Qb ht
   clear IP hA hq c9 ht
   cases t
   ·have hnp:¬Xn l:=fun h=>by have:=HT.out.2 h;cases this
    cases hl2:l with
    |nil=>exact absurd (hl2 ▸ vw) hnp
    |cons a l2=>
     obtain⟨g,rfl,hg⟩:=r2 (by rw [hl2];simp)
     have hlen:l.length=l2.length+1:=by rw [hl2];rfl
     have wl:IntKind.i64.wrap (((l2.length+1:Nat):Int) -1)=(l2.length:Int):=by rw [Zd (by omega) (by omega)];omega
     have hsh:=Qb (hA9.out.shrink (m:=l2.length) (by omega))
     rw [Jo Yg] at hsh
     have htl:Hid ((l.take l2.length).length=l2.length):=Qb (by rw [J7,hlen];omega)
     have HN:=Qb hlen
     clear HT hnp r2
     subst hl2
     rw [I1] at r0 hl
     go_wp2_with fail
     go_roundw
     case rel=>exact⟨(a::l2).take l2.length,_,cap,by rw [htl.out],by rw [htl.out];exact hsh,Qb (G5 (qo _ _) hW.out),Qb (fun h=>Qah _ (hP.out h)),by rw [htl.out];omega,q9⟩
     case measure=>simp
   ·go_wp2_with fail
    go_ret
    exact⟨l,A,cap,rfl,hA9.out,(by have:=HT.out;simpa using this),hW.out,hP.out,q9⟩
theorem QfW {k:Nat} (w:World) (x:Int):VU [k] w (w.alloc (.cells #[.int .i64 x] 3)) (vW x) [.int .i64 x]:=⟨[],I2 (T8 _),by simp,(B0 _ _).alloc _⟩
def Qhf (w:World) (e:Ending) (w':World):Prop:=∃(p:List Qa) (A1:Option Addr) (cap1:Nat) (l:List Int) (A:Option Addr) (cap:Nat),e= .returned (.tuple #[.slice A1 p.length cap1,.slice A l.length cap])/\Xn p/\Qi p<=26000/\(∀x∈l,0<=x/\x<=3)/\l.length<=9/\∃S1 S2,Yp w' (QA p) (.slice A1 p.length cap1) S1/\Yp w' (xE l) (.slice A l.length cap) S2/\(∀x,x∈S1->w.heap.size<=x)/\(∀x,x∈S2->w.heap.size<=x)/\(∀x,x∈S1->x∉S2)/\Qc [] w w'
theorem jv (A0:Option Addr) (n0 cap0:Nat) (w0:World) (hn:n0<=5000) (hb:Kj w0 w0.heap.size A0 n0):
  Calls Tryz.prog 8 #[.slice A0 n0 cap0] w0 (Qhf w0):=by
 have NE:=Qb (QdS A0 n0 cap0 w0 hn hb)
 clear hb
 go_enter Tryz.func8,Tryz.ntmps8
 go_wp2_with fail
 refine NE.out.mono ?_
 rintro e w1 ⟨k,rfl,hk0,q1,c1⟩
 have C1:=Qb c1
 have DR:=Qb (Qbx k w1 q1)
 have BL:=Qb (fun n W (hc:WN W k)=>Yf k n W hc)
 clear NE c1
 go_wp2_with fail
 refine DR.out.mono ?_
 rintro e w ⟨p,A1,cap1,rfl,hAp,hok,hW,_,q2⟩
 have hk:=q2.lt
 have hT:Hid (∀x∈ [k],x<w.heap.size):=Qb (by simpa using hk)
 have NP:=Qb hAp.new
 have q1k:=q1.lt
 clear hAp q1 DR
 go_wp2_with fail
 refine(BL.out 9 _ (q2.kz ((B0 _ _).alloc _))).mono ?_
 rintro e w3 ⟨r,rfl,⟨r0,r1⟩,q3,c3⟩
 have r1:=r1 (by omega)
 obtain⟨n,rfl⟩:∃n:Nat,r=(n:Int):=⟨r.toNat,by omega⟩
 have nm:n<=9:=by omega
 have hA0:=Qb ((W0.empty (T:=[k]) w 3 1 (B0 _ _)).later c3 hT.out)
 clear r0 r1 c3
 go_wp2_with fail
 go_loopw [6,7] (fun v n wr=>∃(j:Nat) (l:List Int) (A:Option Addr) (cap:Nat),n= .int .i64 (j:Int)/\v= .slice A l.length cap/\l.length+j<=9/\Hid (W0 [k] w wr 3 1 (.slice A l.length cap) l.length (l.flatMap vW))/\Hid (∀x∈l,0<=x/\x<=3)/\WN wr k) (fun v n _=>(intOf n).toNat)
 case atStart=>exact⟨n,[],_,_,rfl,rfl,by simpa using nm,hA0,Qb (by simp),q3⟩
 case round=>
  obtain⟨j,l,A,cap,rfl,rfl,hlj,hA,hL,hq⟩:=hrel
  by_cases hj:0<j
  case neg=>
   obtain rfl:j=0:=by omega
   go_wp2_with fail
   go_ret2
   obtain⟨S2,s1,s2,s3⟩:=hA.out.new
   obtain⟨S1,p1,p2,p3⟩:=NP.out
   have lw:=p1.lt
   have l1:=C1.out.size
   have l2:=p3.size
   exact⟨p,A1,cap1,l,A,cap,rfl,hok,hW,hL.out,by omega,S1,S2,p1.keep s3 (fun x hx hy=>by have:=p2 x hx;have:=q1k;simp at hy;omega),s1,fun x hx=>G5 l1 (p2 x hx),fun x hx=>by have:=s2 x hx;omega,fun x hx hy=>by have:=lw x hx;have:=s2 x hy;omega,((C1.out.mono (T:=[k]) (by simp)).trans (p3.trans s3 (fun _ h=>.inl h)) (fun _ h=>.inl h)).mono (fun y hy=>.inr (by simp at hy;omega))⟩
  case pos=>
   obtain⟨j,rfl⟩:∃m,j=m+1:=⟨j-1,by omega⟩
   have hj0:(0:Int)<((j+1:Nat):Int):=by omega
   have wj:IntKind.i64.wrap (((j+1:Nat):Int) -1)=(j:Int):=by rw [Zd (by omega) (by omega)];omega
   go_wp2_with fail
   refine(BL.out 4 _ hq).mono ?_
   rintro e w2 ⟨x,rfl,⟨x0,x4⟩,q2,c2⟩
   have x4:=x4 (by omega)
   have hA2:=Qb (hA.out.later c2 hT.out)
   have NT:=Qb (QfW (k:=k) w2 x)
   have NW:=Qb ((L9 w2 #[.int .i64 x] 3).c)
   have HONE:=Qb (show ∀u∈([.int .i64 x]:List Value),u.oneCell'=true by intro u hu;simp at hu;subst hu;rfl)
   clear c2 hA hq
   go_wp2_with (at_builtin;refine Vr (T:=[k]) rfl (.tmp 19) (.tmp 22) _ rfl 3 _ 1 8 Tryz.underlying25 GI rfl (by omega) hA2.out hT.out NT.out rfl w2.heap.size 1 1 rfl rfl NW.out HONE.out (by omega) (by omega) ?_;intro A6 cap6 w6 hA6 hM6)
   go_roundw
   case rel=>exact⟨j,l++ [x],A6,cap6,by first|rfl|go_num,by simp,by simp;omega,Qb (by simpa [List.flatMap_append,vW] using hA6),Qb (fun y hy=>by rcases F4.1 hy with hy|hy;exact hL.out y hy;simp at hy;omega),(q2.kz ((B0 _ _).alloc _)).mid hM6 hk⟩
   case measure=>first|(simp [intOf];done)|(simp [intOf];omega)
end Go.Proofs.YtjeadhmkghnkkaaGreatDoor
