/- Plain Lean. Conditions: as stated. -/
import Derived.Test.YtlnkgcdeljhjcaaGreatDoorFindA
import Derived.Test.YtlnkgcdeljhjcaaGreatDoorFindIf
import Derived.Test.YtlnkgcdeljhjcaaGreatDoorFindLp
import Derived.Test.YtlnkgcdeljhjcaaGreatDoorFindTr
set_option maxRecDepth 100000
set_option maxHeartbeats 8000000
namespace Go.Proofs.YtlnkgcdeljhjcaaGreatDoor
open Go.RowKit

abbrev Fl:=Int×Int×Int
def vY (X:ys) (s:B3) (P:Fl->Bool) (i:List Int):Prop:=∃k:Yl,P k.1=true/\Wz X s k i
def Vn (D:Yl->List Int->Prop) (P:Fl->Bool) (found:Bool) (i0:List Int):Prop:=
 (found=false/\i0=[] /\∀k i,D k i->P k.1=false)∨(found=true/\(∃k,D k i0/\P k.1=true)/\∀k i,D k i->P k.1=true->YY i0 i<=0)
section
variable {D:Yl->List Int->Prop} {P:Fl->Bool} {found:Bool} {i0 i1:List Int} {k1:Yl} {X:ys} {s:B3}
theorem Vn.none:Vn (fun _ _=>False) P false []:=.inl ⟨rfl,rfl,fun _ _ h=>h.elim⟩
theorem Vn.skip (h:Vn D P found i0) (hp:P k1.1=false):Vn (fun k i=>D k i∨(k=k1/\i=i1)) P found i0:=by
 rcases h with ⟨h1,h2,h3⟩|⟨h1,⟨k,h2,h3⟩,h4⟩
 ·refine .inl ⟨h1,h2,fun k i h=>?_⟩
  rcases h with h|⟨rfl,_⟩
  ·exact h3 _ _ h
  ·exact hp
 ·refine .inr ⟨h1,⟨k,.inl h2,h3⟩,fun k i h hk=>?_⟩
  rcases h with h|⟨rfl,_⟩
  ·exact h4 _ _ h hk
  ·rw [hp] at hk;cases hk
theorem Vn.take (h:Vn D P found i0) (hp:P k1.1=true) (hc:found=false∨YY i1 i0<0):Vn (fun k i=>D k i∨(k=k1/\i=i1)) P true i1:=by
 refine .inr ⟨rfl,⟨k1,.inr ⟨rfl,rfl⟩,hp⟩,fun k i hd hk=>?_⟩
 rcases hd with hd|⟨_,rfl⟩
 ·rcases h with ⟨_,_,h3⟩|⟨h1,_,h4⟩
  ·rw [h3 _ _ hd] at hk;cases hk
  ·rcases hc with hc|hc
   ·rw [h1] at hc;cases hc
   ·exact Kx (by omega) (h4 _ _ hd hk)
 ·rw [WZ];omega
theorem Vn.stay (h:Vn D P true i0) (hc:¬YY i1 i0<0):Vn (fun k i=>D k i∨(k=k1/\i=i1)) P true i0:=by
 rcases h with ⟨h1,_⟩|⟨_,⟨k,h2,h3⟩,h4⟩
 ·cases h1
 ·refine .inr ⟨rfl,⟨k,.inl h2,h3⟩,fun k i hd hk=>?_⟩
  rcases hd with hd|⟨_,rfl⟩
  ·exact h4 _ _ hd hk
  ·exact(zA _ _).2 (by omega)
theorem Vn.small (h:Vn D P found i0) (hD:∀k i,D k i->i.length<=1000000):i0.length<=1000000:=by
 rcases h with ⟨_,rfl,_⟩|⟨_,⟨k,h2,_⟩,_⟩
 ·exact Nat.zero_le _
 ·exact hD _ _ h2
theorem Vn.done (h:Vn D P found i0) (hD:∀k i,D k i↔XF (Wz X s k) i) (dX:XM X):
  (found=true/\XF (vY X s P) i0)∨(found=false/\i0=[] /\∀i,¬vY X s P i):=by
 rcases h with ⟨h1,h2,h3⟩|⟨h1,⟨k,h2,h3⟩,h4⟩
 ·refine .inr ⟨h1,h2,fun i ⟨k,hk,hi⟩=>?_⟩
  obtain⟨j,hj⟩:=(VS dX s k).least hi
  have:=h3 k j ((hD _ _).2 hj)
  rw [hk] at this
  cases this
 ·refine .inl ⟨h1,⟨k,h3,((hD _ _).1 h2).1⟩,fun j ⟨k',hk',hj⟩=>?_⟩
  obtain⟨i,hi⟩:=(VS dX s k').least hj
  exact Kx (h4 k' i ((hD _ _).2 hi) hk') (hi.2 _ hj)
end
def nos:B3:=(⟨#[]⟩,⟨#[]⟩,⟨#[]⟩)
theorem xl:(Vr nos).All WF:=Qc8 KS
section
variable {p:List Qa} {i:List Int} {P:Fl->Bool}
theorem Qgv (hp:X0 p) (h:vY (Vu Qy p 0) nos P i):∃k:Fl,P k=true/\(QV i p 0 ⟨Vs,0⟩).2=⟨1,k.1,k.2.1,k.2.2⟩/\(QV i p 0 ⟨Vs,0⟩).1.taken=i.length:=by
 obtain⟨k,hk,h⟩:=h
 obtain⟨h1,h2,_⟩:=QeX (l:=Vs) KS hp h
 rw [Qdi KS hp] at h1 h2
 exact⟨k.1,hk,h1,h2⟩
end
mutual
theorem Ye.blk {w:World}:∀(d:QK) (u:Value) (S:List Nat),Ye w d u S->∀x,x∈S->∃cs e,w.heap[x]?=some (.cells cs e (0,0))
 | .v x,u,S,h=>by rw [Ye] at h;rw [h.2];simp
 | .s n cs,u,S,h=>by
  rw [Ye] at h
  rcases h with ⟨_,_,_,rfl⟩|⟨g,cap,cur,e,us,S',_,_,_,hg,_,_,hl,rfl⟩
  ·simp
  ·intro x hx
   rcases List.mem_cons.1 hx with rfl|hx
   ·exact⟨_,_,hg⟩
   ·exact Qt.blk cs us S' hl x hx
theorem Qt.blk {w:World}:∀(ds:List QK) (us:List Value) (S:List Nat),Qt w ds us S->∀x,x∈S->∃cs e,w.heap[x]?=some (.cells cs e (0,0))
 | [],us,S,h=>by rw [Qt] at h;rw [h.2];simp
 |d::ds,us,S,h=>by
  rw [Qt] at h
  obtain⟨u,us',S1,S2,_,rfl,h1,h2⟩:=h
  intro x hx
  rcases List.mem_append.1 hx with hx|hx
  ·exact Ye.blk d u S1 h1 x hx
  ·exact Qt.blk ds us' S2 h2 x hx
end
theorem QdI (AT:Int->Option Qa) (SB:Nat->Prop) (B xp bs:Nat) (a:Qa) (hA:vU AT SB B xp bs a.A) (hB:vU AT SB B xp bs a.B):Qex AT SB B xp bs a:=by
 by_cases h8:a.op=8
 ·exact Qe7 AT SB B xp bs a h8 hA hB
 ·by_cases h9:a.op=9
  ·exact Qcp AT SB B xp bs a h9 hA hB
  ·by_cases h10:a.op=10
   ·exact Qek AT SB B xp bs a h10 hA hB
   ·exact jw AT SB B xp bs a h8 h9 h10
theorem QeE (AT:Int->Option Qa) (SB:Nat->Prop) (B xp bs:Nat):∀m,vU AT SB B xp bs m:=
 Qa.ind fun m ih=>QeH AT SB B xp bs m (fun a ha=>QdI AT SB B xp bs a (ih a ha).1 (ih a ha).2)
def QhR (X:ys) (s:B3) (w:World) (e:Ending) (w':World):Prop:=∃b1 b2 b3,e= .returned (.agg #[.map (some b1),.map (some b2),.map (some b3)])/\Xx w' b1 b2 b3 X s/\Qb [] w w'
theorem Jm (m:List Qa) (ul us:Value) (S:List Nat) (s1 s2 s3:ByteArray) (w:World) (hp:X0 m) (hW:Ql m<=1048576) (hO:Ye w (QH m) ul S) (hr:Rd w w.heap.size (Ws [s1,s2,s3]) us) (hs:(Vr (s1,s2,s3)).All WF) (hE:Km w):
  Calls Tryz.prog 35 #[ul,us] w (QhR (Vu Qy m 0) (s1,s2,s3) w):=by
 obtain⟨A,cap,rfl,_,_,_⟩:=Yu hr
 go_enter Tryz.func35,Tryz.ntmps35
 have hm:=Um Tryz.prog
 obtain⟨x4,hx4⟩:∃x4,w.heap.size=x4:=⟨_,rfl⟩
 have LA:=Qd (QeE (fun q=>jO m 0 q) (fun y=>y∈S) w.heap.size (x4+2) (x4+1) m 0 ul (s1,s2,s3) [])
 have h2:Qe m<=14:=hp.1
 have h3:=JY hp
 have LB:=Qd (fun W hX hL=>LA.out W hX hL (Qfz m) hp.2.2 (Int.le_refl _) (by omega) (by omega) hW hs)
 go_upto_region 3 with fail
 refine Qo fun w5 hw5=>?_
 have c5:Qb [] w w5:=by rw [hw5];exact Qb.now
 have E4:QY w5 x4 [.map none,.map none,.map none]:=by rw [hw5, <-hx4];exact(((QY.new w _ _).alloc _).alloc _).alloc _
 have K4:Kd w5 x4 73:=by rw [hw5, <-hx4];exact(((Kd.newAt w _ _ rfl).alloc _).alloc _).alloc _
 have M5:ZI w5 (KCx fun y=>y∈S) (x4+1) []:=by
  have h:=ZI.made (w.alloc (.cells #[.map none,.map none,.map none] 73)) (KCx fun y=>y∈S)
  have e:(w.alloc (.cells #[.map none,.map none,.map none] 73)).heap.size=x4+1:=by rw [<-hx4];simp
  rw [e] at h
  rw [hw5]
  exact h.chg (((Qb.refl [] _).alloc _).alloc _) (by simp)
 have P5:w5.cell? ⟨x4+2,0,none⟩=some (.map (some (x4+1))):=by
  have h:=QY.new ((w.alloc (.cells #[.map none,.map none,.map none] 73)).alloc (.map #[] 0)) #[.map (some (x4+1))] 120
  have e:((w.alloc (.cells #[.map none,.map none,.map none] 73)).alloc (.map #[] 0)).heap.size=x4+2:=by rw [<-hx4];simp
  rw [e] at h
  rw [hw5]
  exact(h.alloc _).c 0 _ rfl
 have E6:QY w5 (x4+1+1+1) [.string ⟨#[]⟩,.string ⟨#[]⟩,.string ⟨#[]⟩]:=by
  have h:=QY.new (((w.alloc (.cells #[.map none,.map none,.map none] 73)).alloc (.map #[] 0)).alloc (.cells #[.map (some (x4+1))] 120)) #[.string ⟨#[]⟩,.string ⟨#[]⟩,.string ⟨#[]⟩] 88
  have e:(((w.alloc (.cells #[.map none,.map none,.map none] 73)).alloc (.map #[] 0)).alloc (.cells #[.map (some (x4+1))] 120)).heap.size=x4+1+1+1:=by rw [<-hx4];simp
  rw [e] at h
  rw [hw5]
  exact h
 clear hw5
 have hcp:=Qg0 E6 (hr.cz c5 (Nat.le_refl _))
 go_upto_region 4 with fail
 have cp:=Xo w5 (x4+1+1+1) (.string s1) (.string s2) (.string s3)
 have D6:=E6.put3 rfl (.string s1) (.string s2) (.string s3)
 obtain⟨w6,hw6⟩:∃w6,(((w5.setCell ⟨x4+1+1+1,0,none⟩ (.string s1)).setCell ⟨x4+1+1+1,1,none⟩ (.string s2)).setCell ⟨x4+1+1+1,2,none⟩ (.string s3))=w6:=⟨_,rfl⟩
 rw [hw6] at cp D6 ⊢
 clear hw6 hcp E6
 have s5:=c5.size
 have c6:Qb [] w w6:=c5.trans cp (fun y hy=>.inr (by rw [List.mem_singleton.1 hy];omega))
 have X6:YZ (fun q=>jO m 0 q) (fun y=>y∈S) w.heap.size w6 (x4+2) (x4+1) []:=
  ⟨(YE.of hE).keep c6 (by simp) (Nat.le_refl _),c6.size,fun y hy=>by
   obtain⟨cs,e,hb⟩:=Ye.blk _ _ _ hO y hy
   exact⟨cs,e,(c6.block y (Ye.lt _ _ _ hO y hy) (by simp)).trans hb⟩,fun y hy=>Ye.lt _ _ _ hO y hy,
    (cp.cell (p:=⟨x4+2,0,none⟩) (Qn P5) (by simp)).trans P5,⟨[],M5.chg cp (by simp),fun p hp=>by cases hp⟩,⟨by omega,by simp,fun y hy=>by cases hy⟩,⟨by simp,by omega⟩⟩
 have L6:Ww (fun y=>y∈S) w6 m ul:=⟨S,Ye.keep c6 _ _ _ (fun _ _ h=>by cases h) hO,fun y hy=>hy⟩
 have LC:=Qd (LB.out w6 X6 L6)
 have E4:=E4.keep cp (by rw [List.mem_singleton];omega)
 have K4:=K4.keep cp (by rw [List.mem_singleton];omega)
 have o6:=D6.o3
 have f6:=D6.f
 have l4:=E4.lt
 unfold QX at LC
 clear LB LA X6 L6 hO hr hE M5 P5 cp c5
 go_upto_region 99 with (first|(go_at_call 65;refine LC.out.mono ?_;rintro e w7 ⟨b1,b2,b3,rfl,ho,hT,hX,c7⟩;have E7:=E4.keep c7 (by rw [List.mem_singleton];omega);have K7:=K4.keep c7 (by rw [List.mem_singleton];omega);have q7:=E7.o3;have f7:=E7.f)|fail)
 have cp2:=Xo w7 x4 (.map (some b1)) (.map (some b2)) (.map (some b3))
 have B8:=E7.put3 rfl (.map (some b1)) (.map (some b2)) (.map (some b3))
 have z8:=B8.o3
 have y8:=B8.f
 have s6:=c6.size
 refine bodyPost_ret (v:=.agg #[.map (some b1),.map (some b2),.map (some b3)]) (by simp only [results,Tryz.results35];go_simp) rfl ?_
 exact⟨b1,b2,b3,rfl,ho.keepB cp2 K7,(c6.trans c7 (fun y hy=>.inr (by rw [List.mem_singleton.1 hy];omega))).trans cp2 (fun y hy=>.inr (by rw [List.mem_singleton.1 hy];omega))⟩
theorem Gf.least {w:World} {κ:Type} {KC:Value->Prop} {enc:κ->Value} {b r:Nat} {X D:κ->List Int->Prop} (h:Gf w KC enc b r X D) {k:κ} {i:List Int} (hd:D k i):XF (X k) i:=by
 obtain⟨E,L,_,_,_,_,_,_,h7⟩:=h
 exact((h7 k i).1 hd).1
theorem QaS (l:List Int):∀u∈l.map (Value.int .i64),u.oneCell'=true:=fun u hu=>by
 obtain⟨x,_,rfl⟩:=List.mem_map.1 hu
 rfl
theorem xf (b1 b2 b3:Nat) (W:World):(Instr.field 73 (.agg #[.map (some b1),.map (some b2),.map (some b3)]) 1).run Tryz.prog W= .ok (.map (some b2)) W:=by kernel_rfl
def Qgf (X:ys) (P:Fl->Bool) (w:World) (e:Ending) (w':World):Prop:=∃v found i,e= .returned (.tuple #[v,.bool found])/\Zj w' i v/\Qb [] w w'/\((found=true/\XF (vY X nos P) i)∨(found=false/\i=[] /\∀j,¬vY X nos P j))
theorem KP (w:World):Calls Tryz.prog 36 #[] w fun e w'=>∃v,e= .returned v/\Rd w' w'.heap.size (Ws [⟨#[]⟩,⟨#[]⟩,⟨#[]⟩]) v/\Qb [] w w':=by
 have hmk:∀W,(Instr.makeSlice 50 (.int .i64 3) (.int .i64 3)).run Tryz.prog W= .ok (.slice (some ⟨W.heap.size,0,none⟩) 3 3) (W.alloc (.cells (madeCells (Value.string ⟨#[]⟩).cells (3 * 1)) 9)):=fun W=>Gm (P:=Tryz.prog) 50 9 _ 1 16 (by kernel_rfl) (by kernel_rfl) .i64 .i64 3 3 (Nat.le_refl _) (by omega) (by omega) W
 have hb:QY (w.alloc (.cells (madeCells (Value.string ⟨#[]⟩).cells (3 * 1)) 9)) w.heap.size [.string ⟨#[]⟩,.string ⟨#[]⟩,.string ⟨#[]⟩]:=by
  have h:=QY.new w (madeCells (Value.string ⟨#[]⟩).cells (3 * 1)) 9
  have e:(madeCells (Value.string ⟨#[]⟩).cells (3 * 1)).toList=[.string ⟨#[]⟩,.string ⟨#[]⟩,.string ⟨#[]⟩]:=by kernel_rfl
  rwa [e] at h
 go_enter Tryz.func36,Tryz.ntmps36
 go_wp2_with fail
 go_ret
 exact⟨_,rfl,hb.strs3,Qb.now⟩
theorem Qbe (m:List Qa) (ul:Value) (S:List Nat) (P:Fl->Bool) (w:World) (hp:X0 m) (hW:Ql m<=1048576) (hO:Ye w (QH m) ul S) (hE:Km w)
  (HF:∀(k1 k2 k3:Int) (W:World),Qb [] w W->Calls Tryz.prog 34 #[.agg #[.int .i64 k1,.int .i64 k2,.int .i64 k3]] W fun e W'=>e= .returned (.bool (P (k1,k2,k3)))/\Qb [] W W'):
  Calls Tryz.prog 33 #[ul,.func (.func 34) #[] #[]] w (Qgf (Vu Qy m 0) P w):=by
 have hrd:=Ye.rd _ _ _ hO
 obtain⟨A,cap,rfl,_,_,_⟩:=Qw hrd
 have IP:=Qd ((WL m _ w.heap.size w hE hW hrd (Nat.le_refl _)).mono (Qg.pos hp))
 have NS:=Qd (fun W=>KP W)
 obtain⟨X,hX⟩:∃X,X=Vu Qy m 0:=⟨_,rfl⟩
 have EX:=Qd (fun us W (hc:Qb [] w W) hr=>Jm m _ us S ⟨#[]⟩ ⟨#[]⟩ ⟨#[]⟩ W hp hW (Ye.keep hc _ _ _ (fun _ _ h=>by cases h) hO) hr xl (hE.keep hc))
 have dX:XM X:=by rw [hX];exact Wt _ _
 have gX:Yo X (Q1 m) (Vd (Yw m) 0 (0+Qe m)):=by rw [hX];exact YW _ hp.2.2 0
 have hcost:=JY hp
 rw [<-hX] at EX ⊢
 clear hX hrd hO hE hW hp
 have HF:=Qd HF
 have gX:=Qd gX
 have dX:=Qd dX
 go_enter Tryz.func33,Tryz.ntmps33
 have hfld:=xf
 have hu:Tryz.prog.underlying 70=some (.map 90 25):=by kernel_rfl
 go_wp2_with (first|(go_at_call 18;refine IP.out.mono ?_;rintro e w1 ⟨rfl,c1⟩)|(go_at_call 36;refine(NS.out _).mono ?_;rintro e w2 ⟨us,rfl,r2,c2⟩;have EX2:=Qd (EX.out us w2 (c1.tz c2) r2);clear r2)|(go_at_call 35;refine EX2.out.mono ?_;rintro e w3 ⟨b1,b2,b3,rfl,ho,c3⟩;have k2:=ho.fl)|(at_range;refine ZA rfl (.tmp 16) _ rfl hu (fun _ _ h=>Vc h) rfl k2 ?_;intro w4 hR hc4 hs4)|fail)
 obtain⟨r,hr⟩:∃r,w3.heap.size=r:=⟨_,rfl⟩
 rw [hr] at hR hs4 ⊢
 simp only [Act.put,List.setIfInBounds_toArray,List.set_cons_zero,List.set_cons_succ]
 have hwr:w.heap.size<=r:=by have:=((c1.tz c2).tz c3).size;omega
 have c04:=Qd (((c1.tz c2).tz c3).tz hc4)
 clear c1 c2 c3 hc4 ho k2 EX EX2 NS IP
 go_loopw [6,7] (fun v6 v7 wr=>∃D i0 found,v7= .bool found/\Zj wr i0 v6/\Gf wr ql YD b2 r (Wz X nos) D/\Vn D P found i0/\Qb [r] w4 wr) (fun _ _ wr=>leftN wr b2 r)
 case atStart=>exact⟨_,[],false,rfl,Zj.nil _ _ (Nat.zero_le _),hR,Vn.none,Qb.refl _ _⟩
 case round=>
  obtain⟨D,i0,found,rfl,hv,hR,hB,hc⟩:=hrel
  obtain⟨wq,hwq⟩:∃wq:World,wq=wr:=⟨_,rfl⟩
  rw [<-hwq] at hv hR hc ⊢
  clear hwq
  have nq:Qc wq [r]:=Qc.cons hR.nz Qc.nil
  have hsm:=hB.small (fun k i h=>by have h1:=(gX.out.bad xl (hR.least h).1).2.1;omega)
  obtain⟨A0,cap0,e0,_⟩:=id hv
  subst e0
  have R1:=Qd (ZE 25 25 3 _ 1 8 Tryz.underlying25 Jg rfl (by omega) (XG.nil wq 3 1 (Qb.refl _ _)) (Qb.refl _ _) A0 i0.length cap0 (i0.map (Value.int .i64)) (by simp) hv.news (QaS i0) (by omega) (by omega))
  go_upto_region 8 with (first|(at_next;refine Zz rfl (.tmp 17) rfl rfl hR ?_ ?_;rotate_left;rintro⟨⟨g1,g2,g3⟩,g4,g5,g6⟩ j v1 wA hk hj hl hRA hcA hsA hlt hent;unfold YD at hent ⊢;rotate_right;intro hD)|(at_builtin;refine WW rfl (.const (.slice none 0 0)) (.tmp 38) _ rfl rfl rfl R1.out ?_;rintro A1 c1 w1 ⟨hA1,_,_⟩;simp only [Nat.zero_add,List.nil_append] at hA1 ⊢)|fail)
  ·go_ret2
   have e1:(i0.map (Value.int .i64)).map QK.v=i0.map fun x=>QK.v (.int .i64 x):=by rw [List.map_map];rfl
   rw [e1] at hA1
   exact⟨_,found,i0,rfl,hA1.intsV,(c04.out.trans hc (fun y hy=>.inr (by have h1:=List.mem_singleton.1 hy;have:=c04.out.size;omega))).tz hA1.chg,hB.done hD dX.out⟩
  ·obtain⟨x8,hx8⟩:∃x8,wA.heap.size=x8:=⟨_,rfl⟩
   refine Qo fun w5 hw5=>?_
   have c5:Qb [] wA w5:=by rw [hw5];exact Qb.now
   have E8:QY w5 x8 [.int .i64 g1,.int .i64 g2,.int .i64 g3,.string g4,.string g5,.string g6]:=by rw [hw5, <-hx8];exact QY.new wA _ _
   clear hw5
   try rw [<-hsA]
   try rw [hx8]
   have cw5:Qb [] w w5:=((c04.out.trans hc (fun y hy=>.inr (by have h1:=List.mem_singleton.1 hy;have:=c04.out.size;omega))).trans hcA (fun y hy=>.inr (by have h1:=List.mem_singleton.1 hy;have:=c04.out.size;omega))).tz c5
   have R5:=Qd (hRA.keep c5 Qc.nil (by simp) (by simp))
   have HL:=Qd (show leftN w5 b2 r<leftN wq b2 r by rw [hRA.left c5 (by simp) (by simp)];exact hlt)
   have V5:=Qd ((hv.keep hcA nq).keep c5 Qc.nil)
   have J5:=Qd (hj.keep c5 Qc.nil)
   have CC:=Qd ((hc.trans hcA (fun y hy=>.inl hy)).tz c5)
   obtain⟨A1,cap1,e1,_⟩:=id hj
   subst e1
   have CI:=Qd (fun W (h:Qb [] w5 W)=>ZJ j i0 _ _ W.heap.size W.heap.size W (J5.out.keep h Qc.nil).rd (V5.out.keep h Qc.nil).rd (Nat.le_refl _) (Nat.le_refl _))
   have HF5:=Qd (HF.out g1 g2 g3 w5 cw5)
   have o8:=E8.o6
   have f8:=E8.f
   clear hRA hcA hsA hlt hent hj hk hl hv hR hc R1 HF cw5 c5
   by_cases hP:P (g1,g2,g3)=true
   case pos=>
    rw [hP] at HF5
    cases found with
    |false=>
     go_wp2_with (first|(go_at_call 34;refine HF5.out.mono ?_;rintro e w6 ⟨rfl,c6⟩)|fail)
     go_roundw
     case rel=>exact⟨_,j,true,rfl,J5.out.keep c6 Qc.nil,R5.out.keep c6 Qc.nil (by simp) (by simp),hB.take hP (.inl rfl),CC.out.tz c6⟩
     case measure=>rw [R5.out.left c6 (by simp) (by simp)];exact HL.out
    | true=>
     by_cases hC:YY j i0<0
     ·go_wp2_with (first|(go_at_call 34;refine HF5.out.mono ?_;rintro e w6 ⟨rfl,c6⟩)|(go_at_call 15;refine(CI.out _ c6).mono ?_;rintro e w7 ⟨rfl,c7⟩)|fail)
      go_roundw
      case rel=>exact⟨_,j,true,rfl,(J5.out.keep c6 Qc.nil).keep c7 Qc.nil,(R5.out.keep c6 Qc.nil (by simp) (by simp)).keep c7 Qc.nil (by simp) (by simp),hB.take hP (.inr hC),(CC.out.tz c6).tz c7⟩
      case measure=>rw [(R5.out.keep c6 Qc.nil (by simp) (by simp)).left c7 (by simp) (by simp),R5.out.left c6 (by simp) (by simp)];exact HL.out
     ·go_wp2_with (first|(go_at_call 34;refine HF5.out.mono ?_;rintro e w6 ⟨rfl,c6⟩)|(go_at_call 15;refine(CI.out _ c6).mono ?_;rintro e w7 ⟨rfl,c7⟩)|fail)
      go_roundw
      case rel=>exact⟨_,i0,true,rfl,(V5.out.keep c6 Qc.nil).keep c7 Qc.nil,(R5.out.keep c6 Qc.nil (by simp) (by simp)).keep c7 Qc.nil (by simp) (by simp),hB.stay (by omega),(CC.out.tz c6).tz c7⟩
      case measure=>rw [(R5.out.keep c6 Qc.nil (by simp) (by simp)).left c7 (by simp) (by simp),R5.out.left c6 (by simp) (by simp)];exact HL.out
   case neg=>
    have hP:P (g1,g2,g3)=false:=by simpa using hP
    rw [hP] at HF5
    go_wp2_with (first|(go_at_call 34;refine HF5.out.mono ?_;rintro e w6 ⟨rfl,c6⟩)|fail)
    go_roundw
    case rel=>exact⟨_,i0,found,rfl,V5.out.keep c6 Qc.nil,R5.out.keep c6 Qc.nil (by simp) (by simp),hB.skip hP,CC.out.tz c6⟩
    case measure=>rw [R5.out.left c6 (by simp) (by simp)];exact HL.out
theorem Qa5 (m:List Qa) (ul:Value) (S:List Nat) (P:Fl->Bool) (xq:Nat) (w:World) (hp:X0 m) (hW:Ql m<=1048576) (hO:Ye w (QH m) ul S) (hE:Km w)
  (HF:∀(k1 k2 k3:Int) (W:World),Qb [] w W->Calls Tryz.prog 40 #[.agg #[.int .i64 k1,.int .i64 k2,.int .i64 k3],.pointer (some ⟨xq,0,none⟩)] W fun e W'=>e= .returned (.bool (P (k1,k2,k3)))/\Qb [] W W'):
  Calls Tryz.prog 33 #[ul,.func (.func 40) #[] #[.pointer (some ⟨xq,0,none⟩)]] w (Qgf (Vu Qy m 0) P w):=by
 have hrd:=Ye.rd _ _ _ hO
 obtain⟨A,cap,rfl,_,_,_⟩:=Qw hrd
 have IP:=Qd ((WL m _ w.heap.size w hE hW hrd (Nat.le_refl _)).mono (Qg.pos hp))
 have NS:=Qd (fun W=>KP W)
 obtain⟨X,hX⟩:∃X,X=Vu Qy m 0:=⟨_,rfl⟩
 have EX:=Qd (fun us W (hc:Qb [] w W) hr=>Jm m _ us S ⟨#[]⟩ ⟨#[]⟩ ⟨#[]⟩ W hp hW (Ye.keep hc _ _ _ (fun _ _ h=>by cases h) hO) hr xl (hE.keep hc))
 have dX:XM X:=by rw [hX];exact Wt _ _
 have gX:Yo X (Q1 m) (Vd (Yw m) 0 (0+Qe m)):=by rw [hX];exact YW _ hp.2.2 0
 have hcost:=JY hp
 rw [<-hX] at EX ⊢
 clear hX hrd hO hE hW hp
 have HF:=Qd HF
 have gX:=Qd gX
 have dX:=Qd dX
 go_enter Tryz.func33,Tryz.ntmps33
 have hfld:=xf
 have hu:Tryz.prog.underlying 70=some (.map 90 25):=by kernel_rfl
 go_wp2_with (first|(go_at_call 18;refine IP.out.mono ?_;rintro e w1 ⟨rfl,c1⟩)|(go_at_call 36;refine(NS.out _).mono ?_;rintro e w2 ⟨us,rfl,r2,c2⟩;have EX2:=Qd (EX.out us w2 (c1.tz c2) r2);clear r2)|(go_at_call 35;refine EX2.out.mono ?_;rintro e w3 ⟨b1,b2,b3,rfl,ho,c3⟩;have k2:=ho.fl)|(at_range;refine ZA rfl (.tmp 16) _ rfl hu (fun _ _ h=>Vc h) rfl k2 ?_;intro w4 hR hc4 hs4)|fail)
 obtain⟨r,hr⟩:∃r,w3.heap.size=r:=⟨_,rfl⟩
 rw [hr] at hR hs4 ⊢
 simp only [Act.put,List.setIfInBounds_toArray,List.set_cons_zero,List.set_cons_succ]
 have hwr:w.heap.size<=r:=by have:=((c1.tz c2).tz c3).size;omega
 have c04:=Qd (((c1.tz c2).tz c3).tz hc4)
 clear c1 c2 c3 hc4 ho k2 EX EX2 NS IP
 go_loopw [6,7] (fun v6 v7 wr=>∃D i0 found,v7= .bool found/\Zj wr i0 v6/\Gf wr ql YD b2 r (Wz X nos) D/\Vn D P found i0/\Qb [r] w4 wr) (fun _ _ wr=>leftN wr b2 r)
 case atStart=>exact⟨_,[],false,rfl,Zj.nil _ _ (Nat.zero_le _),hR,Vn.none,Qb.refl _ _⟩
 case round=>
  obtain⟨D,i0,found,rfl,hv,hR,hB,hc⟩:=hrel
  obtain⟨wq,hwq⟩:∃wq:World,wq=wr:=⟨_,rfl⟩
  rw [<-hwq] at hv hR hc ⊢
  clear hwq
  have nq:Qc wq [r]:=Qc.cons hR.nz Qc.nil
  have hsm:=hB.small (fun k i h=>by have h1:=(gX.out.bad xl (hR.least h).1).2.1;omega)
  obtain⟨A0,cap0,e0,_⟩:=id hv
  subst e0
  have R1:=Qd (ZE 25 25 3 _ 1 8 Tryz.underlying25 Jg rfl (by omega) (XG.nil wq 3 1 (Qb.refl _ _)) (Qb.refl _ _) A0 i0.length cap0 (i0.map (Value.int .i64)) (by simp) hv.news (QaS i0) (by omega) (by omega))
  go_upto_region 8 with (first|(at_next;refine Zz rfl (.tmp 17) rfl rfl hR ?_ ?_;rotate_left;rintro⟨⟨g1,g2,g3⟩,g4,g5,g6⟩ j v1 wA hk hj hl hRA hcA hsA hlt hent;unfold YD at hent ⊢;rotate_right;intro hD)|(at_builtin;refine WW rfl (.const (.slice none 0 0)) (.tmp 38) _ rfl rfl rfl R1.out ?_;rintro A1 c1 w1 ⟨hA1,_,_⟩;simp only [Nat.zero_add,List.nil_append] at hA1 ⊢)|fail)
  ·go_ret2
   have e1:(i0.map (Value.int .i64)).map QK.v=i0.map fun x=>QK.v (.int .i64 x):=by rw [List.map_map];rfl
   rw [e1] at hA1
   exact⟨_,found,i0,rfl,hA1.intsV,(c04.out.trans hc (fun y hy=>.inr (by have h1:=List.mem_singleton.1 hy;have:=c04.out.size;omega))).tz hA1.chg,hB.done hD dX.out⟩
  ·obtain⟨x8,hx8⟩:∃x8,wA.heap.size=x8:=⟨_,rfl⟩
   refine Qo fun w5 hw5=>?_
   have c5:Qb [] wA w5:=by rw [hw5];exact Qb.now
   have E8:QY w5 x8 [.int .i64 g1,.int .i64 g2,.int .i64 g3,.string g4,.string g5,.string g6]:=by rw [hw5, <-hx8];exact QY.new wA _ _
   clear hw5
   try rw [<-hsA]
   try rw [hx8]
   have cw5:Qb [] w w5:=((c04.out.trans hc (fun y hy=>.inr (by have h1:=List.mem_singleton.1 hy;have:=c04.out.size;omega))).trans hcA (fun y hy=>.inr (by have h1:=List.mem_singleton.1 hy;have:=c04.out.size;omega))).tz c5
   have R5:=Qd (hRA.keep c5 Qc.nil (by simp) (by simp))
   have HL:=Qd (show leftN w5 b2 r<leftN wq b2 r by rw [hRA.left c5 (by simp) (by simp)];exact hlt)
   have V5:=Qd ((hv.keep hcA nq).keep c5 Qc.nil)
   have J5:=Qd (hj.keep c5 Qc.nil)
   have CC:=Qd ((hc.trans hcA (fun y hy=>.inl hy)).tz c5)
   obtain⟨A1,cap1,e1,_⟩:=id hj
   subst e1
   have CI:=Qd (fun W (h:Qb [] w5 W)=>ZJ j i0 _ _ W.heap.size W.heap.size W (J5.out.keep h Qc.nil).rd (V5.out.keep h Qc.nil).rd (Nat.le_refl _) (Nat.le_refl _))
   have HF5:=Qd (HF.out g1 g2 g3 w5 cw5)
   have o8:=E8.o6
   have f8:=E8.f
   clear hRA hcA hsA hlt hent hj hk hl hv hR hc R1 HF cw5 c5
   by_cases hP:P (g1,g2,g3)=true
   case pos=>
    rw [hP] at HF5
    cases found with
    |false=>
     go_wp2_with (first|(go_at_call 40;refine HF5.out.mono ?_;rintro e w6 ⟨rfl,c6⟩)|fail)
     go_roundw
     case rel=>exact⟨_,j,true,rfl,J5.out.keep c6 Qc.nil,R5.out.keep c6 Qc.nil (by simp) (by simp),hB.take hP (.inl rfl),CC.out.tz c6⟩
     case measure=>rw [R5.out.left c6 (by simp) (by simp)];exact HL.out
    | true=>
     by_cases hC:YY j i0<0
     ·go_wp2_with (first|(go_at_call 40;refine HF5.out.mono ?_;rintro e w6 ⟨rfl,c6⟩)|(go_at_call 15;refine(CI.out _ c6).mono ?_;rintro e w7 ⟨rfl,c7⟩)|fail)
      go_roundw
      case rel=>exact⟨_,j,true,rfl,(J5.out.keep c6 Qc.nil).keep c7 Qc.nil,(R5.out.keep c6 Qc.nil (by simp) (by simp)).keep c7 Qc.nil (by simp) (by simp),hB.take hP (.inr hC),(CC.out.tz c6).tz c7⟩
      case measure=>rw [(R5.out.keep c6 Qc.nil (by simp) (by simp)).left c7 (by simp) (by simp),R5.out.left c6 (by simp) (by simp)];exact HL.out
     ·go_wp2_with (first|(go_at_call 40;refine HF5.out.mono ?_;rintro e w6 ⟨rfl,c6⟩)|(go_at_call 15;refine(CI.out _ c6).mono ?_;rintro e w7 ⟨rfl,c7⟩)|fail)
      go_roundw
      case rel=>exact⟨_,i0,true,rfl,(V5.out.keep c6 Qc.nil).keep c7 Qc.nil,(R5.out.keep c6 Qc.nil (by simp) (by simp)).keep c7 Qc.nil (by simp) (by simp),hB.stay (by omega),(CC.out.tz c6).tz c7⟩
      case measure=>rw [(R5.out.keep c6 Qc.nil (by simp) (by simp)).left c7 (by simp) (by simp),R5.out.left c6 (by simp) (by simp)];exact HL.out
   case neg=>
    have hP:P (g1,g2,g3)=false:=by simpa using hP
    rw [hP] at HF5
    go_wp2_with (first|(go_at_call 40;refine HF5.out.mono ?_;rintro e w6 ⟨rfl,c6⟩)|fail)
    go_roundw
    case rel=>exact⟨_,i0,found,rfl,V5.out.keep c6 Qc.nil,R5.out.keep c6 Qc.nil (by simp) (by simp),hB.skip hP,CC.out.tz c6⟩
    case measure=>rw [R5.out.left c6 (by simp) (by simp)];exact HL.out
theorem Qgx (k1 k2 k3:Int) (w:World):Calls Tryz.prog 34 #[.agg #[.int .i64 k1,.int .i64 k2,.int .i64 k3]] w fun e w'=>e= .returned (.bool true)/\Qb [] w w':=by
 go_enter Tryz.func34,Tryz.ntmps34
 go_wp2_with fail
 go_ret
 exact⟨rfl,Qb.now⟩
theorem QeD (k1 k2 k3 q:Int) (xq:Nat) (w:World) (hq:w.cell? ⟨xq,0,none⟩=some (.int .i64 q)):Calls Tryz.prog 40 #[.agg #[.int .i64 k1,.int .i64 k2,.int .i64 k3],.pointer (some ⟨xq,0,none⟩)] w fun e w'=>e= .returned (.bool (k1==q))/\Qb [] w w':=by
 have hl:=Qn hq
 have hq2:=fun o=>((Qb.refl [] w).alloc o).cell (p:=⟨xq,0,none⟩) hl (by simp)
 go_enter Tryz.func40,Tryz.ntmps40
 go_wp2_with fail
 go_ret
 exact⟨rfl,Qb.now⟩
theorem QaJ (m:List Qa) (ul:Value) (S:List Nat) (w:World) (hp:X0 m) (hW:Ql m<=1048576) (hO:Ye w (QH m) ul S) (hE:Km w):
  Calls Tryz.prog 9 #[ul] w (Qgf (Vu Qy m 0) (fun _=>true) w):=by
 have WO:=Qd (Qbe m ul S (fun _=>true) w hp hW hO hE (fun k1 k2 k3 W _=>Qgx k1 k2 k3 W))
 obtain⟨A,cap,rfl,_,_,_⟩:=Qw (Ye.rd _ _ _ hO)
 clear hO hE hW
 go_enter Tryz.func9,Tryz.ntmps9
 go_wp2_with fail
 refine WO.out.mono ?_
 rintro e w1 ⟨v,found,i,rfl,h⟩
 go_wp2_with fail
 go_ret2
 exact⟨_,found,i,rfl,h⟩
theorem QcJ (m:List Qa) (ul:Value) (S:List Nat) (q:Int) (w:World) (hp:X0 m) (hW:Ql m<=1048576) (hO:Ye w (QH m) ul S) (hE:Km w):
  Calls Tryz.prog 14 #[ul,.int .i64 q] w (Qgf (Vu Qy m 0) (fun k=>k.1==q) w):=by
 obtain⟨w1,hw1⟩:∃w1,w1=w.alloc (.cells #[.int .i64 q] 3):=⟨_,rfl⟩
 have c1:Qb [] w w1:=by rw [hw1];exact Qb.now
 have hq:w1.cell? ⟨w.heap.size,0,none⟩=some (.int .i64 q):=by rw [hw1];exact World.cell?_alloc_new _ _ _ _
 have WO:=Qd (Qa5 m ul S (fun k=>k.1==q) w.heap.size w1 hp hW (Ye.keep c1 _ _ _ (fun _ _ h=>by cases h) hO) (hE.keep c1) (fun k1 k2 k3 W hc=>QeD k1 k2 k3 q _ W ((hc.cell (p:=⟨w.heap.size,0,none⟩) (Qn hq) (by simp)).trans hq)))
 obtain⟨A,cap,rfl,_,_,_⟩:=Qw (Ye.rd _ _ _ hO)
 have hmf:∀(fn:Fn) (first cap:Array Value) (w:World),(Instr.makeFunc fn first cap).run Tryz.prog w= .ok (.func fn first cap) w:=fun _ _ _ _=>rfl
 clear hO hE hW hq
 go_enter Tryz.func14,Tryz.ntmps14
 go_wp2_with fail
 rw [<-hw1]
 refine WO.out.mono ?_
 rintro e w2 ⟨v,found,i,rfl,h1,h2,h3⟩
 go_wp2_with fail
 go_ret2
 exact⟨_,found,i,rfl,h1,c1.tz h2,h3⟩
theorem Qhm {w:World} {b:Nat} {X:Yl->List Int->Prop} (h:Qz w ql YD b X):∃n:Nat,(∀ty,(Builtin.len_ #[70] ty #[.map (some b)]).run Tryz.prog w= .ok (.int .i64 n) w)/\(n=0↔ ∀k i,¬X k i):=by
 obtain⟨E,⟨es,c,h1,_,_,h5⟩,h3,h4⟩:=h
 have hu:Tryz.prog.underlying 70=some (.map 90 25):=by kernel_rfl
 refine⟨es.size,fun ty=>by simp [Builtin.len_,run_underlying hu,MapKept.run_getObj_map h1,goInt,Result.andThen],fun h k i hx=>?_,fun h=>?_⟩
 ·obtain⟨p,hp,_⟩:=h4 k i hx
  rw [<-h5,Array.eq_empty_of_size_eq_zero h] at hp
  simp at hp
 ·cases hE:es.toList with
  |nil=>simpa using congrArg List.length hE
  |cons x l=>
   obtain⟨k,i,_,_,hl⟩:=h3 (kv x) (by rw [<-h5,hE];simp)
   exact absurd hl.1 (h k i)
theorem QcE (m:List Qa) (ul:Value) (S:List Nat) (w:World) (hp:X0 m) (hW:Ql m<=1048576) (hO:Ye w (QH m) ul S) (hE:Km w):
  Calls Tryz.prog 10 #[ul] w fun e w'=>∃b:Bool,e= .returned (.bool b)/\(b=true↔ ∀i,¬vY (Vu Qy m 0) nos (fun _=>true) i)/\Qb [] w w':=by
 have hrd:=Ye.rd _ _ _ hO
 obtain⟨A,cap,rfl,_,_,_⟩:=Qw hrd
 have IP:=Qd ((WL m _ w.heap.size w hE hW hrd (Nat.le_refl _)).mono (Qg.pos hp))
 have NS:=Qd (fun W=>KP W)
 have EX:=Qd (fun us W (hc:Qb [] w W) hr=>Jm m _ us S ⟨#[]⟩ ⟨#[]⟩ ⟨#[]⟩ W hp hW (Ye.keep hc _ _ _ (fun _ _ h=>by cases h) hO) hr xl (hE.keep hc))
 have hfld:=xf
 clear hrd hO hE hW hp
 go_enter Tryz.func10,Tryz.ntmps10
 go_wp2_with (first|(go_at_call 18;refine IP.out.mono ?_;rintro e w1 ⟨rfl,c1⟩)|(go_at_call 36;refine(NS.out _).mono ?_;rintro e w2 ⟨us,rfl,r2,c2⟩;have EX2:=Qd (EX.out us w2 (c1.tz c2) r2);clear r2)|(go_at_call 35;refine EX2.out.mono ?_;rintro e w3 ⟨b1,b2,b3,rfl,ho,c3⟩;obtain⟨n,hlen,hn⟩:=Qhm ho.fl)|fail)
 go_ret
 refine⟨_,rfl,?_,((c1.tz c2).tz c3)⟩
 have e0:((n:Int)==0)=true↔n=0:=by rw [beq_iff_eq];omega
 rw [e0,hn]
 exact⟨fun h i ⟨k,_,hk⟩=>h k i hk,fun h k i hk=>h i ⟨k,rfl,hk⟩⟩
end Go.Proofs.YtlnkgcdeljhjcaaGreatDoor
