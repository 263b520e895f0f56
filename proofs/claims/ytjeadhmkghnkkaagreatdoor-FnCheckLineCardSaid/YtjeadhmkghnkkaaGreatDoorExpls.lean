/- Plain Lean. Conditions: as stated. -/
import Derived.Test.YtjeadhmkghnkkaaGreatDoorFindA
import Derived.Test.YtjeadhmkghnkkaaGreatDoorFindIf
import Derived.Test.YtjeadhmkghnkkaaGreatDoorFindLp
import Derived.Test.YtjeadhmkghnkkaaGreatDoorFindTr
set_option maxRecDepth 100000
set_option maxHeartbeats 8000000
namespace Go.Proofs.YtjeadhmkghnkkaaGreatDoor
open Go.RowKit

abbrev Fl:=Int×Int×Int
def xv (X:yW) (s:B3) (P:Fl->Bool) (i:List Int):Prop:=∃k:Yq,P k.1=true/\W6 X s k i
def VT (D:Yq->List Int->Prop) (P:Fl->Bool) (found:Bool) (i0:List Int):Prop:=
 (found=false/\i0=[] /\∀k i,D k i->P k.1=false)∨(found=true/\(∃k,D k i0/\P k.1=true)/\∀k i,D k i->P k.1=true->Wy i0 i<=0)
section
variable {D:Yq->List Int->Prop} {P:Fl->Bool} {found:Bool} {i0 i1:List Int} {k1:Yq} {X:yW} {s:B3}
theorem VT.none:VT (fun _ _=>False) P false []:=.inl ⟨rfl,rfl,fun _ _ h=>h.elim⟩
theorem VT.skip (h:VT D P found i0) (hp:P k1.1=false):VT (fun k i=>D k i∨(k=k1/\i=i1)) P found i0:=by
 rcases h with ⟨h1,h2,h3⟩|⟨h1,⟨k,h2,h3⟩,h4⟩
 ·refine .inl ⟨h1,h2,fun k i h=>?_⟩
  rcases h with h|⟨rfl,_⟩
  ·exact h3 _ _ h
  ·exact hp
 ·refine .inr ⟨h1,⟨k,.inl h2,h3⟩,fun k i h hk=>?_⟩
  rcases h with h|⟨rfl,_⟩
  ·exact h4 _ _ h hk
  ·rw [hp] at hk;cases hk
theorem VT.take (h:VT D P found i0) (hp:P k1.1=true) (hc:found=false∨Wy i1 i0<0):VT (fun k i=>D k i∨(k=k1/\i=i1)) P true i1:=by
 refine .inr ⟨rfl,⟨k1,.inr ⟨rfl,rfl⟩,hp⟩,fun k i hd hk=>?_⟩
 rcases hd with hd|⟨_,rfl⟩
 ·rcases h with ⟨_,_,h3⟩|⟨h1,_,h4⟩
  ·rw [h3 _ _ hd] at hk;cases hk
  ·rcases hc with hc|hc
   ·rw [h1] at hc;cases hc
   ·exact Jg (by omega) (h4 _ _ hd hk)
 ·rw [Vx];omega
theorem VT.stay (h:VT D P true i0) (hc:¬Wy i1 i0<0):VT (fun k i=>D k i∨(k=k1/\i=i1)) P true i0:=by
 rcases h with ⟨h1,_⟩|⟨_,⟨k,h2,h3⟩,h4⟩
 ·cases h1
 ·refine .inr ⟨rfl,⟨k,.inl h2,h3⟩,fun k i hd hk=>?_⟩
  rcases hd with hd|⟨_,rfl⟩
  ·exact h4 _ _ hd hk
  ·exact(yr _ _).2 (by omega)
theorem VT.small (h:VT D P found i0) (hD:∀k i,D k i->i.length<=1000000):i0.length<=1000000:=by
 rcases h with ⟨_,rfl,_⟩|⟨_,⟨k,h2,_⟩,_⟩
 ·exact I3 _
 ·exact hD _ _ h2
theorem VT.done (h:VT D P found i0) (hD:∀k i,D k i↔XC (W6 X s k) i) (dX:XM X):
  (found=true/\XC (xv X s P) i0)∨(found=false/\i0=[] /\∀i,¬xv X s P i):=by
 rcases h with ⟨h1,h2,h3⟩|⟨h1,⟨k,h2,h3⟩,h4⟩
 ·refine .inr ⟨h1,h2,fun i ⟨k,hk,hi⟩=>?_⟩
  obtain⟨j,hj⟩:=(UB dX s k).least hi
  have:=h3 k j ((hD _ _).2 hj)
  rw [hk] at this
  cases this
 ·refine .inl ⟨h1,⟨k,h3,((hD _ _).1 h2).1⟩,fun j ⟨k',hk',hj⟩=>?_⟩
  obtain⟨i,hi⟩:=(UB dX s k').least hj
  exact Jg (h4 k' i ((hD _ _).2 hi) hk') (hi.2 _ hj)
end
def nos:B3:=(⟨#[]⟩,⟨#[]⟩,⟨#[]⟩)
theorem qQ:(Vz nos).All W8:=Qba Ud
section
variable {p:List Qa} {i:List Int} {P:Fl->Bool}
theorem Qcq (hp:Xn p) (h:xv (Vn Qs p 0) nos P i):∃k:Fl,P k=true/\(QM i p 0 ⟨YQ,0⟩).2=⟨1,k.1,k.2.1,k.2.2⟩/\(QM i p 0 ⟨YQ,0⟩).1.taken=i.length:=by
 obtain⟨k,hk,h⟩:=h
 obtain⟨h1,h2,_⟩:=Qav (l:=YQ) Ud hp h
 rw [jy Ud hp] at h1 h2
 exact⟨k.1,hk,h1,h2⟩
end
mutual
theorem Yb.blk {w:World}:∀(d:QD) (u:Value) (S:List Nat),Yb w d u S->∀x,x∈S->∃cs e,w.heap[x]?=some (.cells cs e (0,0))
 | .v x,u,S,h=>by rw [Yb] at h;rw [h.2];simp
 | .s n cs,u,S,h=>by
  rw [Yb] at h
  rcases h with ⟨_,_,_,rfl⟩|⟨g,cap,cur,e,us,S',_,_,_,hg,_,_,hl,rfl⟩
  ·simp
  ·intro x hx
   rcases C7.1 hx with rfl|hx
   ·exact⟨_,_,hg⟩
   ·exact Qt.blk cs us S' hl x hx
theorem Qt.blk {w:World}:∀(ds:List QD) (us:List Value) (S:List Nat),Qt w ds us S->∀x,x∈S->∃cs e,w.heap[x]?=some (.cells cs e (0,0))
 | [],us,S,h=>by rw [Qt] at h;rw [h.2];simp
 |d::ds,us,S,h=>by
  rw [Qt] at h
  obtain⟨u,us',S1,S2,_,rfl,h1,h2⟩:=h
  intro x hx
  rcases F4.1 hx with hx|hx
  ·exact Yb.blk d u S1 h1 x hx
  ·exact Qt.blk ds us' S2 h2 x hx
end
theorem Qc3 (AT:Int->Option Qa) (SB:Nat->Prop) (B xp bs:Nat) (a:Qa) (hA:ut AT SB B xp bs a.A) (hB:ut AT SB B xp bs a.B):QcV AT SB B xp bs a:=by
 by_cases h8:a.op=8
 ·exact QeZ AT SB B xp bs a h8 hA hB
 ·by_cases h9:a.op=9
  ·exact QbE AT SB B xp bs a h9 hA hB
  ·by_cases h10:a.op=10
   ·exact Qdi AT SB B xp bs a h10 hA hB
   ·exact kX AT SB B xp bs a h8 h9 h10
theorem Qdl (AT:Int->Option Qa) (SB:Nat->Prop) (B xp bs:Nat):∀m,ut AT SB B xp bs m:=
 j4 fun m ih=>Qc2 AT SB B xp bs m (fun a ha=>Qc3 AT SB B xp bs a (ih a ha).1 (ih a ha).2)
def Qhc (X:yW) (s:B3) (w:World) (e:Ending) (w':World):Prop:=∃b1 b2 b3,e= .returned (.agg #[.map (some b1),.map (some b2),.map (some b3)])/\XH w' b1 b2 b3 X s/\Qc [] w w'
theorem Ge (m:List Qa) (ul us:Value) (S:List Nat) (s1 s2 s3:ByteArray) (w:World) (hp:Xn m) (hW:Qi m<=1048576) (hO:Yb w (QA m) ul S) (hr:Rd w w.heap.size (WB [s1,s2,s3]) us) (hs:(Vz (s1,s2,s3)).All W8) (hE:KP w):
  Calls Tryz.prog 38 #[ul,us] w (Qhc (Vn Qs m 0) (s1,s2,s3) w):=by
 obtain⟨A,cap,rfl,_,_,_⟩:=YB hr
 go_enter Tryz.func38,Tryz.ntmps38
 have hm:=UU Tryz.prog
 obtain⟨x4,hx4⟩:∃x4,w.heap.size=x4:=⟨_,rfl⟩
 have LA:=Qb (Qdl (fun q=>jx m 0 q) (fun y=>y∈S) w.heap.size (x4+2) (x4+1) m 0 ul (s1,s2,s3) [])
 have h2:Qd m<=14:=hp.1
 have h3:=Jc hp
 have LB:=Qb (fun W hX hL=>LA.out W hX hL (Qfr m) hp.2.2 (Int.le_refl _) (by omega) (by omega) hW hs)
 go_upto_region 3 with fail
 refine Qp fun w5 hw5=>?_
 have c5:Qc [] w w5:=by rw [hw5];exact C6
 have E4:ZU w5 x4 [.map none,.map none,.map none]:=by rw [hw5, <-hx4];exact(((L9 w _ _).alloc _).alloc _).alloc _
 have K4:Kd w5 x4 74:=by rw [hw5, <-hx4];exact(((Y3 w _ _ rfl).alloc _).alloc _).alloc _
 have M5:ZH w5 (KCx fun y=>y∈S) (x4+1) []:=by
  have h:=ZH.made (w.alloc (.cells #[.map none,.map none,.map none] 74)) (KCx fun y=>y∈S)
  have e:(w.alloc (.cells #[.map none,.map none,.map none] 74)).heap.size=x4+1:=by rw [<-hx4];simp
  rw [e] at h
  rw [hw5]
  exact h.chg (((B0 [] _).alloc _).alloc _) (by simp)
 have P5:w5.cell? ⟨x4+2,0,none⟩=some (.map (some (x4+1))):=by
  have h:=L9 ((w.alloc (.cells #[.map none,.map none,.map none] 74)).alloc (.map #[] 0)) #[.map (some (x4+1))] 136
  have e:((w.alloc (.cells #[.map none,.map none,.map none] 74)).alloc (.map #[] 0)).heap.size=x4+2:=by rw [<-hx4];simp
  rw [e] at h
  rw [hw5]
  exact(h.alloc _).c 0 _ rfl
 have E6:ZU w5 (x4+1+1+1) [.string ⟨#[]⟩,.string ⟨#[]⟩,.string ⟨#[]⟩]:=by
  have h:=L9 (((w.alloc (.cells #[.map none,.map none,.map none] 74)).alloc (.map #[] 0)).alloc (.cells #[.map (some (x4+1))] 136)) #[.string ⟨#[]⟩,.string ⟨#[]⟩,.string ⟨#[]⟩] 82
  have e:(((w.alloc (.cells #[.map none,.map none,.map none] 74)).alloc (.map #[] 0)).alloc (.cells #[.map (some (x4+1))] 136)).heap.size=x4+1+1+1:=by rw [<-hx4];simp
  rw [e] at h
  rw [hw5]
  exact h
 clear hw5
 have hcp:=Qgd E6 (hr.cz c5 (F0 _))
 go_upto_region 4 with fail
 have cp:=Xz w5 (x4+1+1+1) (.string s1) (.string s2) (.string s3)
 have D6:=E6.put3 rfl (.string s1) (.string s2) (.string s3)
 obtain⟨w6,hw6⟩:∃w6,(((w5.setCell ⟨x4+1+1+1,0,none⟩ (.string s1)).setCell ⟨x4+1+1+1,1,none⟩ (.string s2)).setCell ⟨x4+1+1+1,2,none⟩ (.string s3))=w6:=⟨_,rfl⟩
 rw [hw6] at cp D6 ⊢
 clear hw6 hcp E6
 have s5:=c5.size
 have c6:Qc [] w w6:=c5.trans cp (fun y hy=>.inr (by rw [E0.1 hy];omega))
 have X6:Wz (fun q=>jx m 0 q) (fun y=>y∈S) w.heap.size w6 (x4+2) (x4+1) []:=
  ⟨(YO.of hE).keep c6 (by simp) (F0 _),c6.size,fun y hy=>by
   obtain⟨cs,e,hb⟩:=Yb.blk _ _ _ hO y hy
   exact⟨cs,e,(c6.block y (Yb.lt _ _ _ hO y hy) (by simp)).trans hb⟩,fun y hy=>Yb.lt _ _ _ hO y hy,
    (cp.cell (p:=⟨x4+2,0,none⟩) (Qk P5) (by simp)).trans P5,⟨[],M5.chg cp (by simp),fun p hp=>by cases hp⟩,⟨by omega,by simp,fun y hy=>by cases hy⟩,⟨by simp,by omega⟩⟩
 have L6:WY (fun y=>y∈S) w6 m ul:=⟨S,Yb.keep c6 _ _ _ (fun _ _ h=>by cases h) hO,fun y hy=>hy⟩
 have LC:=Qb (LB.out w6 X6 L6)
 have E4:=E4.keep cp (by rw [E0];omega)
 have K4:=K4.keep cp (by rw [E0];omega)
 have o6:=D6.o3
 have f6:=D6.f
 have l4:=E4.lt
 unfold QW at LC
 clear LB LA X6 L6 hO hr hE M5 P5 cp c5
 go_upto_region 99 with (first|(go_at_call 69;refine LC.out.mono ?_;rintro e w7 ⟨b1,b2,b3,rfl,ho,hT,hX,c7⟩;have E7:=E4.keep c7 (by rw [E0];omega);have K7:=K4.keep c7 (by rw [E0];omega);have q7:=E7.o3;have f7:=E7.f)|fail)
 have cp2:=Xz w7 x4 (.map (some b1)) (.map (some b2)) (.map (some b3))
 have B8:=E7.put3 rfl (.map (some b1)) (.map (some b2)) (.map (some b3))
 have z8:=B8.o3
 have y8:=B8.f
 have s6:=c6.size
 refine bodyPost_ret (v:=.agg #[.map (some b1),.map (some b2),.map (some b3)]) (by simp only [results,Tryz.results38];go_simp) rfl ?_
 exact⟨b1,b2,b3,rfl,ho.keepB cp2 K7,(c6.trans c7 (fun y hy=>.inr (by rw [E0.1 hy];omega))).trans cp2 (fun y hy=>.inr (by rw [E0.1 hy];omega))⟩
theorem qG.least {w:World} {κ:Type} {KC:Value->Prop} {enc:κ->Value} {b r:Nat} {X D:κ->List Int->Prop} (h:qG w KC enc b r X D) {k:κ} {i:List Int} (hd:D k i):XC (X k) i:=by
 obtain⟨E,L,_,_,_,_,_,_,h7⟩:=h
 exact((h7 k i).1 hd).1
theorem QaR (l:List Int):∀u∈l.map (Value.int .i64),u.oneCell'=true:=fun u hu=>by
 obtain⟨x,_,rfl⟩:=L7.1 hu
 rfl
theorem wR (b1 b2 b3:Nat) (W:World):(Instr.field 74 (.agg #[.map (some b1),.map (some b2),.map (some b3)]) 1).run Tryz.prog W= .ok (.map (some b2)) W:=by kernel_rfl
def Qf6 (X:yW) (P:Fl->Bool) (w:World) (e:Ending) (w':World):Prop:=∃v found i,e= .returned (.tuple #[v,.bool found])/\Zn w' i v/\Qc [] w w'/\((found=true/\XC (xv X nos P) i)∨(found=false/\i=[] /\∀j,¬xv X nos P j))
theorem Jh (w:World):Calls Tryz.prog 39 #[] w fun e w'=>∃v,e= .returned v/\Rd w' w'.heap.size (WB [⟨#[]⟩,⟨#[]⟩,⟨#[]⟩]) v/\Qc [] w w':=by
 have hmk:∀W,(Instr.makeSlice 54 (.int .i64 3) (.int .i64 3)).run Tryz.prog W= .ok (.slice (some ⟨W.heap.size,0,none⟩) 3 3) (W.alloc (.cells (madeCells (Value.string ⟨#[]⟩).cells (3 * 1)) 9)):=fun W=>qh (P:=Tryz.prog) 54 9 _ 1 16 (by kernel_rfl) (by kernel_rfl) .i64 .i64 3 3 (F0 _) (by omega) (by omega) W
 have hb:ZU (w.alloc (.cells (madeCells (Value.string ⟨#[]⟩).cells (3 * 1)) 9)) w.heap.size [.string ⟨#[]⟩,.string ⟨#[]⟩,.string ⟨#[]⟩]:=by
  have h:=L9 w (madeCells (Value.string ⟨#[]⟩).cells (3 * 1)) 9
  have e:(madeCells (Value.string ⟨#[]⟩).cells (3 * 1)).toList=[.string ⟨#[]⟩,.string ⟨#[]⟩,.string ⟨#[]⟩]:=by kernel_rfl
  rwa [e] at h
 go_enter Tryz.func39,Tryz.ntmps39
 go_wp2_with fail
 go_ret
 exact⟨_,rfl,hb.strs3,C6⟩
theorem QaG (m:List Qa) (ul:Value) (S:List Nat) (P:Fl->Bool) (w:World) (hp:Xn m) (hW:Qi m<=1048576) (hO:Yb w (QA m) ul S) (hE:KP w)
  (HF:∀(k1 k2 k3:Int) (W:World),Qc [] w W->Calls Tryz.prog 65 #[.agg #[.int .i64 k1,.int .i64 k2,.int .i64 k3]] W fun e W'=>e= .returned (.bool (P (k1,k2,k3)))/\Qc [] W W'):
  Calls Tryz.prog 64 #[ul,.func (.func 65) #[] #[]] w (Qf6 (Vn Qs m 0) P w):=by
 have hrd:=Yb.rd _ _ _ hO
 obtain⟨A,cap,rfl,_,_,_⟩:=Qr hrd
 have IP:=Qb ((Yv m _ w.heap.size w hE hW hrd (F0 _)).mono (O3 hp))
 have NS:=Qb (fun W=>Jh W)
 obtain⟨X,hX⟩:∃X,X=Vn Qs m 0:=⟨_,rfl⟩
 have EX:=Qb (fun us W (hc:Qc [] w W) hr=>Ge m _ us S ⟨#[]⟩ ⟨#[]⟩ ⟨#[]⟩ W hp hW (Yb.keep hc _ _ _ (fun _ _ h=>by cases h) hO) hr qQ (hE.keep hc))
 have dX:XM X:=by rw [hX];exact WF _ _
 have gX:Yu X (QT m) (VS (YH m) 0 (0+Qd m)):=by rw [hX];exact Yy _ hp.2.2 0
 have hcost:=Jc hp
 rw [<-hX] at EX ⊢
 clear hX hrd hO hE hW hp
 have HF:=Qb HF
 have gX:=Qb gX
 have dX:=Qb dX
 go_enter Tryz.func64,Tryz.ntmps64
 have hfld:=wR
 have hu:Tryz.prog.underlying 71=some (.map 84 25):=by kernel_rfl
 go_wp2_with (first|(go_at_call 12;refine IP.out.mono ?_;rintro e w1 ⟨rfl,c1⟩)|(go_at_call 39;refine(NS.out _).mono ?_;rintro e w2 ⟨us,rfl,r2,c2⟩;have EX2:=Qb (EX.out us w2 (c1.tz c2) r2);clear r2)|(go_at_call 38;refine EX2.out.mono ?_;rintro e w3 ⟨b1,b2,b3,rfl,ho,c3⟩;have k2:=ho.fl)|(at_range;refine ZQ rfl (.tmp 16) _ rfl hu (fun _ _ h=>VN h) rfl k2 ?_;intro w4 hR hc4 hs4)|fail)
 obtain⟨r,hr⟩:∃r,w3.heap.size=r:=⟨_,rfl⟩
 rw [hr] at hR hs4 ⊢
 simp only [Act.put,D0,C8,C9]
 have hwr:w.heap.size<=r:=by have:=((c1.tz c2).tz c3).size;omega
 have c04:=Qb (((c1.tz c2).tz c3).tz hc4)
 clear c1 c2 c3 hc4 ho k2 EX EX2 NS IP
 go_loopw [6,7] (fun v6 v7 wr=>∃D i0 found,v7= .bool found/\Zn wr i0 v6/\qG wr zS YN b2 r (W6 X nos) D/\VT D P found i0/\Qc [r] w4 wr) (fun _ _ wr=>leftN wr b2 r)
 case atStart=>exact⟨_,[],false,rfl,Zn.nil _ _ (I3 _),hR,VT.none,B0 _ _⟩
 case round=>
  obtain⟨D,i0,found,rfl,hv,hR,hB,hc⟩:=hrel
  obtain⟨wq,hwq⟩:∃wq:World,wq=wr:=⟨_,rfl⟩
  rw [<-hwq] at hv hR hc ⊢
  clear hwq
  have nq:Qm wq [r]:=F7 hR.nz C0
  have hsm:=hB.small (fun k i h=>by have h1:=(gX.out.bad qQ (hR.least h).1).2.1;omega)
  obtain⟨A0,cap0,e0,_⟩:=id hv
  subst e0
  have R1:=Qb (Zi 25 25 3 _ 1 8 Tryz.underlying25 GI rfl (by omega) (S8 wq 3 1 (B0 _ _)) (B0 _ _) A0 i0.length cap0 (i0.map (Value.int .i64)) (by simp) hv.news (QaR i0) (by omega) (by omega))
  go_upto_region 8 with (first|(at_next;refine ZP rfl (.tmp 17) rfl rfl hR ?_ ?_;rotate_left;rintro⟨⟨g1,g2,g3⟩,g4,g5,g6⟩ j v1 wA hk hj hl hRA hcA hsA hlt hent;unfold YN at hent ⊢;rotate_right;intro hD)|(at_builtin;refine Vv rfl (.const (.slice none 0 0)) (.tmp 38) _ rfl rfl rfl R1.out ?_;rintro A1 c1 w1 ⟨hA1,_,_⟩;simp only [J3,J9] at hA1 ⊢)|fail)
  ·go_ret2
   have e1:(i0.map (Value.int .i64)).map QD.v=i0.map fun x=>QD.v (.int .i64 x):=by rw [List.map_map];rfl
   rw [e1] at hA1
   exact⟨_,found,i0,rfl,hA1.intsV,(c04.out.trans hc (fun y hy=>.inr (by have h1:=E0.1 hy;have:=c04.out.size;omega))).tz hA1.chg,hB.done hD dX.out⟩
  ·obtain⟨x8,hx8⟩:∃x8,wA.heap.size=x8:=⟨_,rfl⟩
   refine Qp fun w5 hw5=>?_
   have c5:Qc [] wA w5:=by rw [hw5];exact C6
   have E8:ZU w5 x8 [.int .i64 g1,.int .i64 g2,.int .i64 g3,.string g4,.string g5,.string g6]:=by rw [hw5, <-hx8];exact L9 wA _ _
   clear hw5
   try rw [<-hsA]
   try rw [hx8]
   have cw5:Qc [] w w5:=((c04.out.trans hc (fun y hy=>.inr (by have h1:=E0.1 hy;have:=c04.out.size;omega))).trans hcA (fun y hy=>.inr (by have h1:=E0.1 hy;have:=c04.out.size;omega))).tz c5
   have R5:=Qb (hRA.keep c5 C0 (by simp) (by simp))
   have HL:=Qb (show leftN w5 b2 r<leftN wq b2 r by rw [hRA.left c5 (by simp) (by simp)];exact hlt)
   have V5:=Qb ((hv.keep hcA nq).keep c5 C0)
   have J5:=Qb (hj.keep c5 C0)
   have CC:=Qb ((hc.trans hcA (fun y hy=>.inl hy)).tz c5)
   obtain⟨A1,cap1,e1,_⟩:=id hj
   subst e1
   have CI:=Qb (fun W (h:Qc [] w5 W)=>Xl j i0 _ _ W.heap.size W.heap.size W (J5.out.keep h C0).rd (V5.out.keep h C0).rd (F0 _) (F0 _))
   have HF5:=Qb (HF.out g1 g2 g3 w5 cw5)
   have o8:=E8.o6
   have f8:=E8.f
   clear hRA hcA hsA hlt hent hj hk hl hv hR hc R1 HF cw5 c5
   by_cases hP:P (g1,g2,g3)=true
   case pos=>
    rw [hP] at HF5
    cases found with
    |false=>
     go_wp2_with (first|(go_at_call 65;refine HF5.out.mono ?_;rintro e w6 ⟨rfl,c6⟩)|fail)
     go_roundw
     case rel=>exact⟨_,j,true,rfl,J5.out.keep c6 C0,R5.out.keep c6 C0 (by simp) (by simp),hB.take hP (.inl rfl),CC.out.tz c6⟩
     case measure=>rw [R5.out.left c6 (by simp) (by simp)];exact HL.out
    | true=>
     by_cases hC:Wy j i0<0
     ·go_wp2_with (first|(go_at_call 65;refine HF5.out.mono ?_;rintro e w6 ⟨rfl,c6⟩)|(go_at_call 92;refine(CI.out _ c6).mono ?_;rintro e w7 ⟨rfl,c7⟩)|fail)
      go_roundw
      case rel=>exact⟨_,j,true,rfl,(J5.out.keep c6 C0).keep c7 C0,(R5.out.keep c6 C0 (by simp) (by simp)).keep c7 C0 (by simp) (by simp),hB.take hP (.inr hC),(CC.out.tz c6).tz c7⟩
      case measure=>rw [(R5.out.keep c6 C0 (by simp) (by simp)).left c7 (by simp) (by simp),R5.out.left c6 (by simp) (by simp)];exact HL.out
     ·go_wp2_with (first|(go_at_call 65;refine HF5.out.mono ?_;rintro e w6 ⟨rfl,c6⟩)|(go_at_call 92;refine(CI.out _ c6).mono ?_;rintro e w7 ⟨rfl,c7⟩)|fail)
      go_roundw
      case rel=>exact⟨_,i0,true,rfl,(V5.out.keep c6 C0).keep c7 C0,(R5.out.keep c6 C0 (by simp) (by simp)).keep c7 C0 (by simp) (by simp),hB.stay (by omega),(CC.out.tz c6).tz c7⟩
      case measure=>rw [(R5.out.keep c6 C0 (by simp) (by simp)).left c7 (by simp) (by simp),R5.out.left c6 (by simp) (by simp)];exact HL.out
   case neg=>
    have hP:P (g1,g2,g3)=false:=by simpa using hP
    rw [hP] at HF5
    go_wp2_with (first|(go_at_call 65;refine HF5.out.mono ?_;rintro e w6 ⟨rfl,c6⟩)|fail)
    go_roundw
    case rel=>exact⟨_,i0,found,rfl,V5.out.keep c6 C0,R5.out.keep c6 C0 (by simp) (by simp),hB.skip hP,CC.out.tz c6⟩
    case measure=>rw [R5.out.left c6 (by simp) (by simp)];exact HL.out
theorem QfE (k1 k2 k3:Int) (w:World):Calls Tryz.prog 65 #[.agg #[.int .i64 k1,.int .i64 k2,.int .i64 k3]] w fun e w'=>e= .returned (.bool true)/\Qc [] w w':=by
 go_enter Tryz.func65,Tryz.ntmps65
 go_wp2_with fail
 go_ret
 exact⟨rfl,C6⟩
theorem Qay (m:List Qa) (ul:Value) (S:List Nat) (w:World) (hp:Xn m) (hW:Qi m<=1048576) (hO:Yb w (QA m) ul S) (hE:KP w):
  Calls Tryz.prog 34 #[ul] w (Qf6 (Vn Qs m 0) (fun _=>true) w):=by
 have WO:=Qb (QaG m ul S (fun _=>true) w hp hW hO hE (fun k1 k2 k3 W _=>QfE k1 k2 k3 W))
 obtain⟨A,cap,rfl,_,_,_⟩:=Qr (Yb.rd _ _ _ hO)
 clear hO hE hW
 go_enter Tryz.func34,Tryz.ntmps34
 go_wp2_with fail
 refine WO.out.mono ?_
 rintro e w1 ⟨v,found,i,rfl,h⟩
 go_wp2_with fail
 go_ret2
 exact⟨_,found,i,rfl,h⟩
theorem Qgv {w:World} {b:Nat} {X:Yq->List Int->Prop} (h:Qx w zS YN b X):∃n:Nat,(∀ty,(Builtin.len_ #[71] ty #[.map (some b)]).run Tryz.prog w= .ok (.int .i64 n) w)/\(n=0↔ ∀k i,¬X k i):=by
 obtain⟨E,⟨es,c,h1,_,_,h5⟩,h3,h4⟩:=h
 have hu:Tryz.prog.underlying 71=some (.map 84 25):=by kernel_rfl
 refine⟨es.size,fun ty=>by simp [Builtin.len_,run_underlying hu,MapKept.run_getObj_map h1,goInt,Result.andThen],fun h k i hx=>?_,fun h=>?_⟩
 ·obtain⟨p,hp,_⟩:=h4 k i hx
  rw [<-h5,Array.eq_empty_of_size_eq_zero h] at hp
  simp at hp
 ·cases hE:es.toList with
  |nil=>simpa using congrArg List.length hE
  |cons x l=>
   obtain⟨k,i,_,_,hl⟩:=h3 (kv x) (by rw [<-h5,hE];simp)
   exact absurd hl.1 (h k i)
theorem Qbi (m:List Qa) (ul:Value) (S:List Nat) (w:World) (hp:Xn m) (hW:Qi m<=1048576) (hO:Yb w (QA m) ul S) (hE:KP w):
  Calls Tryz.prog 10 #[ul] w fun e w'=>∃b:Bool,e= .returned (.bool b)/\(b=true↔ ∀i,¬xv (Vn Qs m 0) nos (fun _=>true) i)/\Qc [] w w':=by
 have hrd:=Yb.rd _ _ _ hO
 obtain⟨A,cap,rfl,_,_,_⟩:=Qr hrd
 have IP:=Qb ((Yv m _ w.heap.size w hE hW hrd (F0 _)).mono (O3 hp))
 have NS:=Qb (fun W=>Jh W)
 have EX:=Qb (fun us W (hc:Qc [] w W) hr=>Ge m _ us S ⟨#[]⟩ ⟨#[]⟩ ⟨#[]⟩ W hp hW (Yb.keep hc _ _ _ (fun _ _ h=>by cases h) hO) hr qQ (hE.keep hc))
 have hfld:=wR
 clear hrd hO hE hW hp
 go_enter Tryz.func10,Tryz.ntmps10
 go_wp2_with (first|(go_at_call 12;refine IP.out.mono ?_;rintro e w1 ⟨rfl,c1⟩)|(go_at_call 39;refine(NS.out _).mono ?_;rintro e w2 ⟨us,rfl,r2,c2⟩;have EX2:=Qb (EX.out us w2 (c1.tz c2) r2);clear r2)|(go_at_call 38;refine EX2.out.mono ?_;rintro e w3 ⟨b1,b2,b3,rfl,ho,c3⟩;obtain⟨n,hlen,hn⟩:=Qgv ho.fl)|fail)
 go_ret
 refine⟨_,rfl,?_,((c1.tz c2).tz c3)⟩
 have e0:((n:Int)==0)=true↔n=0:=by rw [beq_iff_eq];omega
 rw [e0,hn]
 exact⟨fun h i ⟨k,_,hk⟩=>h k i hk,fun h k i hk=>h i ⟨k,rfl,hk⟩⟩
end Go.Proofs.YtjeadhmkghnkkaaGreatDoor
