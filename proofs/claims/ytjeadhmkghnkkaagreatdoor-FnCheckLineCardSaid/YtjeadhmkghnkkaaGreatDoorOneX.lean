/- one of the explorer. Conditions: as stated. -/
import Derived.Test.YtjeadhmkghnkkaaGreatDoorMemos
set_option maxRecDepth 100000
set_option maxHeartbeats 4000000
namespace Go.Proofs.YtjeadhmkghnkkaaGreatDoor
open Go.RowKit

theorem Wz.stored {AT:Int->Option Qa} {SB:Nat->Prop} {B:Nat} {w w':World} {xp bs:Nat} {T:List Nat} {E E':List (Value×Value)} {x:yQ} {a:Qa} {b1 b2 b3:Nat} (h:Wz AT SB B w xp bs T) (_hE:ZH w (KCx SB) bs E) (hall:∀p∈E,∃(x:yQ) (a:Qa) (b1 b2 b3:Nat),p.1=JC x/\p.2= .agg #[.map (some b1),.map (some b2),.map (some b3)] /\AT x.1=some a/\XH w b1 b2 b3 (a.ex Qs x.1) x.2.2/\∀y∈ [b1,b2,b3],y∉T/\y≠bs)
  (h':ZH w' (KCx SB) bs E') (hc:Qc [bs] w w') (hm:∀p,p∈E'↔(p∈E/\p.1≠JC x)∨p=(JC x,.agg #[.map (some b1),.map (some b2),.map (some b3)])) (ha:AT x.1=some a) (ho:XH w b1 b2 b3 (a.ex Qs x.1) x.2.2) (hT:∀y∈ [b1,b2,b3],y∉T/\y≠bs):Wz AT SB B w' xp bs T/\XH w' b1 b2 b3 (a.ex Qs x.1) x.2.2:=by
 have hn:=h.nz
 have hB:∀y∈ [bs],B<=y:=fun y hy=>by rw [E0.1 hy];exact h.low.1
 have kp:∀ {x:yQ} {a:Qa} {b1 b2 b3:Nat},XH w b1 b2 b3 (a.ex Qs x.1) x.2.2->(∀y∈ [b1,b2,b3],y∉T/\y≠bs)->XH w' b1 b2 b3 (a.ex Qs x.1) x.2.2:=fun ho hT=>
  ho.keep hc hn (by simpa using (hT _ (by simp)).2) (by simpa using (hT _ (by simp)).2) (by simpa using (hT _ (by simp)).2)
 refine⟨⟨h.env.keep hc hB h.le,G5 h.le hc.size,fun y hy=>?_,h.sb,?_,⟨E',h',fun p hp=>?_⟩,⟨h.low.1,h.low.2.1,fun y hy=>⟨(h.low.2.2 y hy).1,F6 (h.low.2.2 y hy).2 hc.size⟩⟩,h.xpn⟩,kp ho hT⟩
 ·obtain⟨cs,e,hb⟩:=h.blk y hy
  have hy2:=h.sb y hy
  exact⟨cs,e,(hc.block y (by have:=h.le;omega) (fun hx=>by have:=hB y hx;omega)).trans hb⟩
 ·exact(hc.cell (p:=⟨xp,0,none⟩) (Qk h.ptr) (by simpa using h.xpn.2)).trans h.ptr
 ·rcases(hm p).1 hp with ⟨hp1,_⟩|rfl
  ·obtain⟨x,a,b1,b2,b3,e1,e2,e3,ho,hT⟩:=hall p hp1
   exact⟨x,a,b1,b2,b3,e1,e2,e3,kp ho hT,hT⟩
  ·exact⟨x,a,b1,b2,b3,rfl,rfl,ha,kp ho hT,hT⟩
theorem Qfe (AT:Int->Option Qa) (SB:Nat->Prop) (B:Nat) (a:Qa) (place:Int) (s1 s2 s3:ByteArray) (b off xp bs:Nat) (T:List Nat) (w:World) (hX:Wz AT SB B w xp bs T) (ha:AT place=some a) (hb:SB b)
  (F:∀W T',Wz AT SB B W xp bs T'->Qc [] w W->Calls Tryz.prog 136 #[.pointer (some ⟨xp,0,none⟩),.pointer (some ⟨b,off,none⟩),.int .i64 place,QW (s1,s2,s3)] W (Qf4 AT SB B (a.ex Qs place) (s1,s2,s3) xp bs T' W)):
  Calls Tryz.prog 98 #[.pointer (some ⟨xp,0,none⟩),.pointer (some ⟨b,off,none⟩),.int .i64 place,QW (s1,s2,s3)] w (Qf4 AT SB B (a.ex Qs place) (s1,s2,s3) xp bs T w):=by
 have F:=Qb F
 unfold QW at F ⊢
 go_enter Tryz.func98,Tryz.ntmps98
 obtain⟨x7,hx7⟩:∃x7,w.heap.size=x7:=⟨_,rfl⟩
 go_upto_region 2 with fail
 refine Qp fun w5 hw5=>?_
 have c5:Qc [] w w5:=by rw [hw5];exact C6
 have E7:ZU w5 x7 [.string s1,.string s2,.string s3]:=by rw [hw5, <-hx7];exact((L9 w _ _).alloc _).alloc _
 have E8:ZU w5 (x7+1) [.map none,.map none,.map none]:=by rw [hw5, <-hx7];exact(ZU.newAt (w.alloc _) _ _).alloc _
 have E9:ZU w5 (x7+1+1) [.int .i64 place,.pointer (some ⟨b,off,none⟩),.string s1,.string s2,.string s3]:=by rw [hw5, <-hx7];exact ZU.newAt ((w.alloc _).alloc _) _ _
 have K8:Kd w5 (x7+1) 74:=by rw [hw5, <-hx7];exact(Y3 (w.alloc _) _ _).alloc _
 have sz5:w5.heap.size=x7+3:=by rw [hw5, <-hx7];simp
 clear hw5
 have X5:Wz AT SB B w5 xp bs ([x7,x7+1,x7+1+1] ++T):=hX.more c5 (fun y hy=>by
  rcases F4.1 hy with hy|hy
  ·exact .inr (by simp at hy;omega)
  ·exact .inl hy)
 have hu:Tryz.prog.underlying 134=some (.map 210 74):=by kernel_rfl
 have hz:∀W:World,(zeroValue 74).run Tryz.prog W= .ok (.agg #[.map none,.map none,.map none]) W:=fun W=>by kernel_rfl
 have hk:KCx SB (JC (place,(b,off),s1,s2,s3)):=⟨_,rfl,hb⟩
 obtain⟨E,hE,hall⟩:=X5.memo
 have X5h:=Qb X5
 have E9h:=Qb E9
 clear X5 E9
 by_cases hin:∃v,(JC (place,(b,off),s1,s2,s3),v)∈E
 ·obtain⟨v0,hin⟩:=hin
  obtain⟨x,a',b1,b2,b3,e1,e2,e3,ho,hT⟩:=hall _ hin
  obtain rfl:=QaN e1
  obtain rfl:v0= .agg #[.map (some b1),.map (some b2),.map (some b3)]:=e2
  obtain rfl:a=a':=M1 (ha.symm.trans e3)
  have LK:=Qb (fun W (c:Qc [] w5 W)=>show(Instr.lookup 134 (.map (some bs)) (.agg #[.int .i64 place,.pointer (some ⟨b,off,none⟩),.string s1,.string s2,.string s3]) true).run Tryz.prog W= .ok (.tuple #[.agg #[.map (some b1),.map (some b2),.map (some b3)],.bool true]) W by
   have hEW:=hE.chg c (by simp)
   rcases hEW.look (yu SB) (X5h.out.kz c).blk hu (hz W) hk true with ⟨v,hv,hrun⟩|⟨hno,_⟩
   ·rw [ux hEW.apart hin hv];exact hrun
   ·exact absurd rfl (hno _ hin))
  obtain⟨VL,hV⟩:∃VL:List Value,VL=[.pointer (some ⟨xp,0,none⟩),.pointer (some ⟨xp,0,none⟩),.pointer (some ⟨xp,0,none⟩),.map (some bs),.agg #[.int .i64 place,.pointer (some ⟨b,off,none⟩),.string s1,.string s2,.string s3],.tuple #[.agg #[.map (some b1),.map (some b2),.map (some b3)],.bool true],.tuple #[.agg #[.map (some b1),.map (some b2),.map (some b3)],.bool true],.agg #[.map (some b1),.map (some b2),.map (some b3)],.bool true]:=⟨_,rfl⟩
  obtain⟨J,hJ⟩:∃J:(Nat->Bool)->(Nat->Value)->World->Prop,∀d v W,J d v W↔(JG [(0,18),(1,19),(2,20),(3,21),(4,22),(5,23),(6,17),(7,24),(8,25)] VL d v/\(d 9=true->∃x u0 u1 u2,(v 10)= .pointer (some ⟨x,0,none⟩)/\w5.heap.size<=x/\ZU W x [u0,u1,u2])/\(d 10=true->∃x,v 10= .pointer (some ⟨x,0,none⟩)/\w5.heap.size<=x/\ZU W x [.map (some b1),.map (some b2),.map (some b3)])/\Qc [] w5 W):=⟨_,fun _ _ _=>i7⟩
  refine Ze (b:=⟨#[],[]⟩) 11 [18,19,20,21,22,23,17,24,25,10] J (by kernel_rfl) (XN _ _) (by kernel_rfl) (by kernel_rfl) (by kernel_rfl) ?_ ?_ ?_
  ·exact(hJ _ _ _).2 ⟨UO (by decide),fun h=>absurd h (by decide),fun h=>absurd h (by decide),C6⟩
  ·refine⟨.inr ?_,.inr ?_,.inr ?_,.inr ?_,.inr ?_,.inr ?_,.inr ?_,.inr ?_,.inr ?_,.inr ?_,.inr ?_,.inl rfl,trivial⟩
   ·intro d v W hC hd hpre hJ1 K hK
    have H:=Qb ((hJ _ _ _).1 hJ1)
    clear hJ1
    clear hpre hC hd
    simp only [Xq,C8,C9]
    go_simp
    refine YD hK (by simp only [Xq,Act.put,D0,C8,C9] <;>rfl) ((hJ _ _ _).2 ⟨Qu (by decide) (by decide) H.out.1 0 _ _ _ rfl (by rw [hV];rfl),fun h=>H.out.2.1 (by simpa using h),fun h=>H.out.2.2.1 (by simpa using h),H.out.2.2.2⟩)
   ·intro d v W hC hd hpre hJ1 K hK
    have H:=Qb ((hJ _ _ _).1 hJ1)
    clear hJ1
    have e0:v 18= .pointer (some ⟨xp,0,none⟩):=H.out.1 0 _ _ _ rfl (by rw [hV];rfl) (Qh hpre 0)
    clear hpre hC hd
    have q0:=(X5h.out.kz H.out.2.2.2).ptr
    simp only [Xq,C8,C9,e0]
    go_simp
    refine YD hK (by simp only [Xq,Act.put,D0,C8,C9,e0] <;>rfl) ((hJ _ _ _).2 ⟨Qu (by decide) (by decide) H.out.1 1 _ _ _ rfl (by rw [hV];rfl),fun h=>H.out.2.1 (by simpa using h),fun h=>H.out.2.2.1 (by simpa using h),H.out.2.2.2⟩)
   ·intro d v W hC hd hpre hJ1 K hK
    have H:=Qb ((hJ _ _ _).1 hJ1)
    clear hJ1
    have e1:v 19= .pointer (some ⟨xp,0,none⟩):=H.out.1 1 _ _ _ rfl (by rw [hV];rfl) (Qh hpre 1)
    clear hpre hC hd
    simp only [Xq,C8,C9,e1]
    go_simp
    refine YD hK (by simp only [Xq,Act.put,D0,C8,C9,e1] <;>rfl) ((hJ _ _ _).2 ⟨Qu (by decide) (by decide) H.out.1 2 _ _ _ rfl (by rw [hV];rfl),fun h=>H.out.2.1 (by simpa using h),fun h=>H.out.2.2.1 (by simpa using h),H.out.2.2.2⟩)
   ·intro d v W hC hd hpre hJ1 K hK
    have H:=Qb ((hJ _ _ _).1 hJ1)
    clear hJ1
    have e2:v 20= .pointer (some ⟨xp,0,none⟩):=H.out.1 2 _ _ _ rfl (by rw [hV];rfl) (Qh hpre 2)
    clear hpre hC hd
    have q0:=(X5h.out.kz H.out.2.2.2).ptr
    simp only [Xq,C8,C9,e2]
    go_simp
    refine YD hK (by simp only [Xq,Act.put,D0,C8,C9,e2] <;>rfl) ((hJ _ _ _).2 ⟨Qu (by decide) (by decide) H.out.1 3 _ _ _ rfl (by rw [hV];rfl),fun h=>H.out.2.1 (by simpa using h),fun h=>H.out.2.2.1 (by simpa using h),H.out.2.2.2⟩)
   ·intro d v W hC hd hpre hJ1 K hK
    have H:=Qb ((hJ _ _ _).1 hJ1)
    clear hJ1
    clear hpre hC hd
    have q9:=(E9h.out.keep H.out.2.2.2).o5
    have f9:=(E9h.out.keep H.out.2.2.2).f
    simp only [Xq,C8,C9]
    go_simp
    refine YD hK (by simp only [Xq,Act.put,D0,C8,C9] <;>rfl) ((hJ _ _ _).2 ⟨Qu (by decide) (by decide) H.out.1 4 _ _ _ rfl (by rw [hV];rfl),fun h=>H.out.2.1 (by simpa using h),fun h=>H.out.2.2.1 (by simpa using h),H.out.2.2.2⟩)
   ·intro d v W hC hd hpre hJ1 K hK
    have H:=Qb ((hJ _ _ _).1 hJ1)
    clear hJ1
    have e3:v 21= .map (some bs):=H.out.1 3 _ _ _ rfl (by rw [hV];rfl) (Qh hpre 3)
    have e4:v 22= .agg #[.int .i64 place,.pointer (some ⟨b,off,none⟩),.string s1,.string s2,.string s3]:=H.out.1 4 _ _ _ rfl (by rw [hV];rfl) (Qh hpre 4)
    clear hpre hC hd
    have lk:=LK.out W H.out.2.2.2
    simp only [Xq,C8,C9,e3,e4]
    go_simp
    refine YD hK (by simp only [Xq,Act.put,D0,C8,C9,e3,e4] <;>rfl) ((hJ _ _ _).2 ⟨Qu (by decide) (by decide) H.out.1 5 _ _ _ rfl (by rw [hV];rfl),fun h=>H.out.2.1 (by simpa using h),fun h=>H.out.2.2.1 (by simpa using h),H.out.2.2.2⟩)
   ·intro d v W hC hd hpre hJ1 K hK
    have H:=Qb ((hJ _ _ _).1 hJ1)
    clear hJ1
    have e5:v 23= .tuple #[.agg #[.map (some b1),.map (some b2),.map (some b3)],.bool true]:=H.out.1 5 _ _ _ rfl (by rw [hV];rfl) (Qh hpre 5)
    clear hpre hC hd
    simp only [Xq,C8,C9,e5]
    go_simp
    refine YD hK (by simp only [Xq,Act.put,D0,C8,C9,e5] <;>rfl) ((hJ _ _ _).2 ⟨Qu (by decide) (by decide) H.out.1 6 _ _ _ rfl (by rw [hV];rfl),fun h=>H.out.2.1 (by simpa using h),fun h=>H.out.2.2.1 (by simpa using h),H.out.2.2.2⟩)
   ·intro d v W hC hd hpre hJ1 K hK
    have H:=Qb ((hJ _ _ _).1 hJ1)
    clear hJ1
    have e6:v 17= .tuple #[.agg #[.map (some b1),.map (some b2),.map (some b3)],.bool true]:=H.out.1 6 _ _ _ rfl (by rw [hV];rfl) (Qh hpre 6)
    clear hpre hC hd
    simp only [Xq,C8,C9,e6]
    go_simp
    refine YD hK (by simp only [Xq,Act.put,D0,C8,C9,e6] <;>rfl) ((hJ _ _ _).2 ⟨Qu (by decide) (by decide) H.out.1 7 _ _ _ rfl (by rw [hV];rfl),fun h=>H.out.2.1 (by simpa using h),fun h=>H.out.2.2.1 (by simpa using h),H.out.2.2.2⟩)
   ·intro d v W hC hd hpre hJ1 K hK
    have H:=Qb ((hJ _ _ _).1 hJ1)
    clear hJ1
    have e6:v 17= .tuple #[.agg #[.map (some b1),.map (some b2),.map (some b3)],.bool true]:=H.out.1 6 _ _ _ rfl (by rw [hV];rfl) (Qh hpre 6)
    clear hpre hC hd
    simp only [Xq,C8,C9,e6]
    go_simp
    refine YD hK (by simp only [Xq,Act.put,D0,C8,C9,e6] <;>rfl) ((hJ _ _ _).2 ⟨Qu (by decide) (by decide) H.out.1 8 _ _ _ rfl (by rw [hV];rfl),fun h=>H.out.2.1 (by simpa using h),fun h=>H.out.2.2.1 (by simpa using h),H.out.2.2.2⟩)
   ·intro d v W hC hd hpre hJ1 K hK
    have H:=Qb ((hJ _ _ _).1 hJ1)
    clear hJ1
    clear hpre
    have g:=H.out.2.2.2
    simp only [Xq,C8,C9]
    go_simp
    have hP:∃x u0 u1 u2,(Value.pointer (some ⟨W.heap.size,0,none⟩))= .pointer (some ⟨x,0,none⟩)/\w5.heap.size<=x/\ZU (W.alloc (.cells #[.map none,.map none,.map none] 74)) x [u0,u1,u2]:=⟨_,_,_,_,rfl,g.size,L9 W _ _⟩
    refine YD hK (by simp only [Xq,Act.put,D0,C8,C9] <;>rfl) ((hJ _ _ _).2 ⟨GX H.out.1 _ _ _ (by decide),fun _=>hP,fun h=>absurd (Qh (hC 10 _ rfl (by simpa using h)) 9) (by simp [hd]),H.out.2.2.2.alloc _⟩)
   ·intro d v W hC hd hpre hJ1 K hK
    have H:=Qb ((hJ _ _ _).1 hJ1)
    clear hJ1
    have e7:v 24= .agg #[.map (some b1),.map (some b2),.map (some b3)]:=H.out.1 7 _ _ _ rfl (by rw [hV];rfl) (Qh hpre 7)
    have P9:=H.out.2.1 (Qh hpre 9)
    clear hpre
    have g:=H.out.2.2.2
    simp only [Xq,C8,C9,e7]
    obtain⟨x,u0,u1,u2,e10,hx,hB⟩:=P9
    rw [e10]
    have fq:=hB.f
    have oq:=hB.o3
    go_simp
    have hP:∃x,v 10= .pointer (some ⟨x,0,none⟩)/\w5.heap.size<=x/\ZU _ x [.map (some b1),.map (some b2),.map (some b3)]:=⟨x,e10,hx,hB.put3 rfl _ _ _⟩
    refine YD (x:=undef) hK (by simp only [Xq,Act.put,C8,C9,e7,e10] <;>rfl) ((hJ _ _ _).2 ⟨wt H.out.1 _ _ (by decide),fun h=>⟨x,_,_,_,e10,hx,hB.put3 rfl _ _ _⟩,fun _=>hP,((H.out.2.2.2.setCell (.inr hx) _).setCell (.inr hx) _).setCell (.inr hx) _⟩)
  ·refine⟨_,rfl,fun v W hJ1 K hK=>?_⟩
   have H:=Qb ((hJ _ _ _).1 hJ1)
   clear hJ1
   have e0:v 18= .pointer (some ⟨xp,0,none⟩):=H.out.1 0 _ _ _ rfl (by rw [hV];rfl) (by decide)
   have e1:v 19= .pointer (some ⟨xp,0,none⟩):=H.out.1 1 _ _ _ rfl (by rw [hV];rfl) (by decide)
   have e2:v 20= .pointer (some ⟨xp,0,none⟩):=H.out.1 2 _ _ _ rfl (by rw [hV];rfl) (by decide)
   have e3:v 21= .map (some bs):=H.out.1 3 _ _ _ rfl (by rw [hV];rfl) (by decide)
   have e4:v 22= .agg #[.int .i64 place,.pointer (some ⟨b,off,none⟩),.string s1,.string s2,.string s3]:=H.out.1 4 _ _ _ rfl (by rw [hV];rfl) (by decide)
   have e5:v 23= .tuple #[.agg #[.map (some b1),.map (some b2),.map (some b3)],.bool true]:=H.out.1 5 _ _ _ rfl (by rw [hV];rfl) (by decide)
   have e6:v 17= .tuple #[.agg #[.map (some b1),.map (some b2),.map (some b3)],.bool true]:=H.out.1 6 _ _ _ rfl (by rw [hV];rfl) (by decide)
   have e7:v 24= .agg #[.map (some b1),.map (some b2),.map (some b3)]:=H.out.1 7 _ _ _ rfl (by rw [hV];rfl) (by decide)
   have e8:v 25= .bool true:=H.out.1 8 _ _ _ rfl (by rw [hV];rfl) (by decide)
   have P9:=H.out.2.1 (by decide)
   have P10:=H.out.2.2.1 (by decide)
   have CHW:=H.out.2.2.2
   clear H hJ J hV
   simp only [Xq,C8,C9,e0,e1,e2,e3,e4,e5,e6,e7,e8]
   obtain⟨x,e10,hx,hB⟩:=P10
   rw [e10]
   go_simp
   refine hK.out _ _ ?_
   have ob:=hB.o3
   have fb:=hB.f
   have o8:=(E8.keep CHW).o3
   have f8:=(E8.keep CHW).f
   have cp:=Xz W (x7+1) (.map (some b1)) (.map (some b2)) (.map (some b3))
   have n8:Qm W [x7+1]:=F7 (K8.keep CHW).nz C0
   have B8:=(E8.keep CHW).put3 rfl (.map (some b1)) (.map (some b2)) (.map (some b3))
   have X6:=(X5h.out.kz CHW).keep cp n8 (by simp)
   have no:∀y∈ [b1,b2,b3],y∉ [x7+1]:=fun y hy h=>(hT y hy).1 (by rw [E0.1 h];simp)
   have ho2:=(ho.keep CHW C0 (by simp) (by simp) (by simp)).keep cp n8 (no b1 (by simp)) (no b2 (by simp)) (no b3 (by simp))
   go_wp2_with fail
   have q8:=B8.o3
   have g8:=B8.f
   refine bodyPost_ret (v:=.agg #[.map (some b1),.map (some b2),.map (some b3)]) (by simp only [results,Tryz.results98];go_simp) rfl ?_
   exact⟨b1,b2,b3,rfl,ho2,fun y hy=>⟨fun h=>(hT y hy).1 (V0 _ h),(hT y hy).2⟩,X6.less (fun y hy=>V0 _ hy),((c5.tz CHW).trans cp (fun x hx=>.inr (by rw [E0.1 hx];omega))).mono (by simp)⟩
 ·have LK:=Qb (fun W (c:Qc [] w5 W)=>show(Instr.lookup 134 (.map (some bs)) (.agg #[.int .i64 place,.pointer (some ⟨b,off,none⟩),.string s1,.string s2,.string s3]) true).run Tryz.prog W= .ok (.tuple #[.agg #[.map none,.map none,.map none],.bool false]) W by
   have hEW:=hE.chg c (by simp)
   rcases hEW.look (yu SB) (X5h.out.kz c).blk hu (hz W) hk true with ⟨v,hv,hrun⟩|⟨hno,hrun⟩
   ·exact absurd ⟨v,hv⟩ hin
   ·exact hrun)
  obtain⟨VL,hV⟩:∃VL:List Value,VL=[.pointer (some ⟨xp,0,none⟩),.pointer (some ⟨xp,0,none⟩),.pointer (some ⟨xp,0,none⟩),.map (some bs),.agg #[.int .i64 place,.pointer (some ⟨b,off,none⟩),.string s1,.string s2,.string s3],.tuple #[.agg #[.map none,.map none,.map none],.bool false],.tuple #[.agg #[.map none,.map none,.map none],.bool false],.agg #[.map none,.map none,.map none],.bool false]:=⟨_,rfl⟩
  obtain⟨J,hJ⟩:∃J:(Nat->Bool)->(Nat->Value)->World->Prop,∀d v W,J d v W↔(JG [(0,18),(1,19),(2,20),(3,21),(4,22),(5,23),(6,17),(7,24),(8,25)] VL d v/\(d 9=true->∃x u0 u1 u2,(v 10)= .pointer (some ⟨x,0,none⟩)/\w5.heap.size<=x/\ZU W x [u0,u1,u2])/\(d 10=true->∃x,v 10= .pointer (some ⟨x,0,none⟩)/\w5.heap.size<=x/\ZU W x [.map none,.map none,.map none])/\Qc [] w5 W):=⟨_,fun _ _ _=>i7⟩
  refine Ze (b:=⟨#[],[]⟩) 11 [18,19,20,21,22,23,17,24,25,10] J (by kernel_rfl) (XN _ _) (by kernel_rfl) (by kernel_rfl) (by kernel_rfl) ?_ ?_ ?_
  ·exact(hJ _ _ _).2 ⟨UO (by decide),fun h=>absurd h (by decide),fun h=>absurd h (by decide),C6⟩
  ·refine⟨.inr ?_,.inr ?_,.inr ?_,.inr ?_,.inr ?_,.inr ?_,.inr ?_,.inr ?_,.inr ?_,.inr ?_,.inr ?_,.inl rfl,trivial⟩
   ·intro d v W hC hd hpre hJ1 K hK
    have H:=Qb ((hJ _ _ _).1 hJ1)
    clear hJ1
    clear hpre hC hd
    simp only [Xq,C8,C9]
    go_simp
    refine YD hK (by simp only [Xq,Act.put,D0,C8,C9] <;>rfl) ((hJ _ _ _).2 ⟨Qu (by decide) (by decide) H.out.1 0 _ _ _ rfl (by rw [hV];rfl),fun h=>H.out.2.1 (by simpa using h),fun h=>H.out.2.2.1 (by simpa using h),H.out.2.2.2⟩)
   ·intro d v W hC hd hpre hJ1 K hK
    have H:=Qb ((hJ _ _ _).1 hJ1)
    clear hJ1
    have e0:v 18= .pointer (some ⟨xp,0,none⟩):=H.out.1 0 _ _ _ rfl (by rw [hV];rfl) (Qh hpre 0)
    clear hpre hC hd
    have q0:=(X5h.out.kz H.out.2.2.2).ptr
    simp only [Xq,C8,C9,e0]
    go_simp
    refine YD hK (by simp only [Xq,Act.put,D0,C8,C9,e0] <;>rfl) ((hJ _ _ _).2 ⟨Qu (by decide) (by decide) H.out.1 1 _ _ _ rfl (by rw [hV];rfl),fun h=>H.out.2.1 (by simpa using h),fun h=>H.out.2.2.1 (by simpa using h),H.out.2.2.2⟩)
   ·intro d v W hC hd hpre hJ1 K hK
    have H:=Qb ((hJ _ _ _).1 hJ1)
    clear hJ1
    have e1:v 19= .pointer (some ⟨xp,0,none⟩):=H.out.1 1 _ _ _ rfl (by rw [hV];rfl) (Qh hpre 1)
    clear hpre hC hd
    simp only [Xq,C8,C9,e1]
    go_simp
    refine YD hK (by simp only [Xq,Act.put,D0,C8,C9,e1] <;>rfl) ((hJ _ _ _).2 ⟨Qu (by decide) (by decide) H.out.1 2 _ _ _ rfl (by rw [hV];rfl),fun h=>H.out.2.1 (by simpa using h),fun h=>H.out.2.2.1 (by simpa using h),H.out.2.2.2⟩)
   ·intro d v W hC hd hpre hJ1 K hK
    have H:=Qb ((hJ _ _ _).1 hJ1)
    clear hJ1
    have e2:v 20= .pointer (some ⟨xp,0,none⟩):=H.out.1 2 _ _ _ rfl (by rw [hV];rfl) (Qh hpre 2)
    clear hpre hC hd
    have q0:=(X5h.out.kz H.out.2.2.2).ptr
    simp only [Xq,C8,C9,e2]
    go_simp
    refine YD hK (by simp only [Xq,Act.put,D0,C8,C9,e2] <;>rfl) ((hJ _ _ _).2 ⟨Qu (by decide) (by decide) H.out.1 3 _ _ _ rfl (by rw [hV];rfl),fun h=>H.out.2.1 (by simpa using h),fun h=>H.out.2.2.1 (by simpa using h),H.out.2.2.2⟩)
   ·intro d v W hC hd hpre hJ1 K hK
    have H:=Qb ((hJ _ _ _).1 hJ1)
    clear hJ1
    clear hpre hC hd
    have q9:=(E9h.out.keep H.out.2.2.2).o5
    have f9:=(E9h.out.keep H.out.2.2.2).f
    simp only [Xq,C8,C9]
    go_simp
    refine YD hK (by simp only [Xq,Act.put,D0,C8,C9] <;>rfl) ((hJ _ _ _).2 ⟨Qu (by decide) (by decide) H.out.1 4 _ _ _ rfl (by rw [hV];rfl),fun h=>H.out.2.1 (by simpa using h),fun h=>H.out.2.2.1 (by simpa using h),H.out.2.2.2⟩)
   ·intro d v W hC hd hpre hJ1 K hK
    have H:=Qb ((hJ _ _ _).1 hJ1)
    clear hJ1
    have e3:v 21= .map (some bs):=H.out.1 3 _ _ _ rfl (by rw [hV];rfl) (Qh hpre 3)
    have e4:v 22= .agg #[.int .i64 place,.pointer (some ⟨b,off,none⟩),.string s1,.string s2,.string s3]:=H.out.1 4 _ _ _ rfl (by rw [hV];rfl) (Qh hpre 4)
    clear hpre hC hd
    have lk:=LK.out W H.out.2.2.2
    simp only [Xq,C8,C9,e3,e4]
    go_simp
    refine YD hK (by simp only [Xq,Act.put,D0,C8,C9,e3,e4] <;>rfl) ((hJ _ _ _).2 ⟨Qu (by decide) (by decide) H.out.1 5 _ _ _ rfl (by rw [hV];rfl),fun h=>H.out.2.1 (by simpa using h),fun h=>H.out.2.2.1 (by simpa using h),H.out.2.2.2⟩)
   ·intro d v W hC hd hpre hJ1 K hK
    have H:=Qb ((hJ _ _ _).1 hJ1)
    clear hJ1
    have e5:v 23= .tuple #[.agg #[.map none,.map none,.map none],.bool false]:=H.out.1 5 _ _ _ rfl (by rw [hV];rfl) (Qh hpre 5)
    clear hpre hC hd
    simp only [Xq,C8,C9,e5]
    go_simp
    refine YD hK (by simp only [Xq,Act.put,D0,C8,C9,e5] <;>rfl) ((hJ _ _ _).2 ⟨Qu (by decide) (by decide) H.out.1 6 _ _ _ rfl (by rw [hV];rfl),fun h=>H.out.2.1 (by simpa using h),fun h=>H.out.2.2.1 (by simpa using h),H.out.2.2.2⟩)
   ·intro d v W hC hd hpre hJ1 K hK
    have H:=Qb ((hJ _ _ _).1 hJ1)
    clear hJ1
    have e6:v 17= .tuple #[.agg #[.map none,.map none,.map none],.bool false]:=H.out.1 6 _ _ _ rfl (by rw [hV];rfl) (Qh hpre 6)
    clear hpre hC hd
    simp only [Xq,C8,C9,e6]
    go_simp
    refine YD hK (by simp only [Xq,Act.put,D0,C8,C9,e6] <;>rfl) ((hJ _ _ _).2 ⟨Qu (by decide) (by decide) H.out.1 7 _ _ _ rfl (by rw [hV];rfl),fun h=>H.out.2.1 (by simpa using h),fun h=>H.out.2.2.1 (by simpa using h),H.out.2.2.2⟩)
   ·intro d v W hC hd hpre hJ1 K hK
    have H:=Qb ((hJ _ _ _).1 hJ1)
    clear hJ1
    have e6:v 17= .tuple #[.agg #[.map none,.map none,.map none],.bool false]:=H.out.1 6 _ _ _ rfl (by rw [hV];rfl) (Qh hpre 6)
    clear hpre hC hd
    simp only [Xq,C8,C9,e6]
    go_simp
    refine YD hK (by simp only [Xq,Act.put,D0,C8,C9,e6] <;>rfl) ((hJ _ _ _).2 ⟨Qu (by decide) (by decide) H.out.1 8 _ _ _ rfl (by rw [hV];rfl),fun h=>H.out.2.1 (by simpa using h),fun h=>H.out.2.2.1 (by simpa using h),H.out.2.2.2⟩)
   ·intro d v W hC hd hpre hJ1 K hK
    have H:=Qb ((hJ _ _ _).1 hJ1)
    clear hJ1
    clear hpre
    have g:=H.out.2.2.2
    simp only [Xq,C8,C9]
    go_simp
    have hP:∃x u0 u1 u2,(Value.pointer (some ⟨W.heap.size,0,none⟩))= .pointer (some ⟨x,0,none⟩)/\w5.heap.size<=x/\ZU (W.alloc (.cells #[.map none,.map none,.map none] 74)) x [u0,u1,u2]:=⟨_,_,_,_,rfl,g.size,L9 W _ _⟩
    refine YD hK (by simp only [Xq,Act.put,D0,C8,C9] <;>rfl) ((hJ _ _ _).2 ⟨GX H.out.1 _ _ _ (by decide),fun _=>hP,fun h=>absurd (Qh (hC 10 _ rfl (by simpa using h)) 9) (by simp [hd]),H.out.2.2.2.alloc _⟩)
   ·intro d v W hC hd hpre hJ1 K hK
    have H:=Qb ((hJ _ _ _).1 hJ1)
    clear hJ1
    have e7:v 24= .agg #[.map none,.map none,.map none]:=H.out.1 7 _ _ _ rfl (by rw [hV];rfl) (Qh hpre 7)
    have P9:=H.out.2.1 (Qh hpre 9)
    clear hpre
    have g:=H.out.2.2.2
    simp only [Xq,C8,C9,e7]
    obtain⟨x,u0,u1,u2,e10,hx,hB⟩:=P9
    rw [e10]
    have fq:=hB.f
    have oq:=hB.o3
    go_simp
    have hP:∃x,v 10= .pointer (some ⟨x,0,none⟩)/\w5.heap.size<=x/\ZU _ x [.map none,.map none,.map none]:=⟨x,e10,hx,hB.put3 rfl _ _ _⟩
    refine YD (x:=undef) hK (by simp only [Xq,Act.put,C8,C9,e7,e10] <;>rfl) ((hJ _ _ _).2 ⟨wt H.out.1 _ _ (by decide),fun h=>⟨x,_,_,_,e10,hx,hB.put3 rfl _ _ _⟩,fun _=>hP,((H.out.2.2.2.setCell (.inr hx) _).setCell (.inr hx) _).setCell (.inr hx) _⟩)
  ·refine⟨_,rfl,fun v W hJ1 K hK=>?_⟩
   have H:=Qb ((hJ _ _ _).1 hJ1)
   clear hJ1
   have e0:v 18= .pointer (some ⟨xp,0,none⟩):=H.out.1 0 _ _ _ rfl (by rw [hV];rfl) (by decide)
   have e1:v 19= .pointer (some ⟨xp,0,none⟩):=H.out.1 1 _ _ _ rfl (by rw [hV];rfl) (by decide)
   have e2:v 20= .pointer (some ⟨xp,0,none⟩):=H.out.1 2 _ _ _ rfl (by rw [hV];rfl) (by decide)
   have e3:v 21= .map (some bs):=H.out.1 3 _ _ _ rfl (by rw [hV];rfl) (by decide)
   have e4:v 22= .agg #[.int .i64 place,.pointer (some ⟨b,off,none⟩),.string s1,.string s2,.string s3]:=H.out.1 4 _ _ _ rfl (by rw [hV];rfl) (by decide)
   have e5:v 23= .tuple #[.agg #[.map none,.map none,.map none],.bool false]:=H.out.1 5 _ _ _ rfl (by rw [hV];rfl) (by decide)
   have e6:v 17= .tuple #[.agg #[.map none,.map none,.map none],.bool false]:=H.out.1 6 _ _ _ rfl (by rw [hV];rfl) (by decide)
   have e7:v 24= .agg #[.map none,.map none,.map none]:=H.out.1 7 _ _ _ rfl (by rw [hV];rfl) (by decide)
   have e8:v 25= .bool false:=H.out.1 8 _ _ _ rfl (by rw [hV];rfl) (by decide)
   have P9:=H.out.2.1 (by decide)
   have P10:=H.out.2.2.1 (by decide)
   have CHW:=H.out.2.2.2
   clear H hJ J hV
   simp only [Xq,C8,C9,e0,e1,e2,e3,e4,e5,e6,e7,e8]
   obtain⟨x,e10,hx,hB⟩:=P10
   rw [e10]
   go_simp
   refine hK.out _ _ ?_
   have o7:=(E7.keep CHW).o3
   have f7:=(E7.keep CHW).f
   have FF:=Qb (F.out W _ (X5h.out.kz CHW) (c5.tz CHW))
   have K8w:=K8.keep CHW
   have E8w:=E8.keep CHW
   have E9w:=Qb (E9h.out.keep CHW)
   have szw:=CHW.size
   have cW:=c5.tz CHW
   clear LK E7 E8 K8 hE hall hB hx CHW c5 E9h
   go_upto_region 6 with (first|(go_at_call 136;refine FF.out.mono ?_;rintro e w6 ⟨b1,b2,b3,rfl,ho,hT,X6,c6⟩)|fail)
   refine Qp fun w7 hw7=>?_
   obtain⟨x12,hx12⟩:∃x12,w6.heap.size=x12:=⟨_,rfl⟩
   have c7:Qc [] w6 w7:=by rw [hw7];exact C6
   have G12:=Qb (show ZU w7 x12 [.map (some b1),.map (some b2),.map (some b3)] by rw [hw7, <-hx12];exact L9 w6 _ _)
   clear hw7
   rw [hx12]
   have lbs:=X6.memo.lt
   have nbs:bs∉ [x7,x7+1,x7+1+1] ++T:=X6.low.2.1
   have n8:bs≠x7+1:=fun h=>nbs (by rw [h];simp)
   have n9:bs≠x7+1+1:=fun h=>nbs (by rw [h];simp)
   have G8:=Qb ((E8w.kp c6).keep c7)
   have L8:=(K8w.kp c6).keep c7
   have G9:=Qb ((E9w.out.kp c6).keep c7)
   have X7:=Qb (X6.kz c7)
   have ho7:=ho.keep c7 C0 (by simp) (by simp) (by simp)
   have s6:=c6.size
   have s7:=c7.size
   have l12:=G12.out.lt
   clear E8w E9w K8w X6 ho FF
   obtain⟨VL,hV⟩:∃VL:List Value,VL=[.pointer (some ⟨xp,0,none⟩),.pointer (some ⟨xp,0,none⟩),.pointer (some ⟨xp,0,none⟩),.map (some bs),.agg #[.int .i64 place,.pointer (some ⟨b,off,none⟩),.string s1,.string s2,.string s3],.agg #[.map (some b1),.map (some b2),.map (some b3)]]:=⟨_,rfl⟩
   obtain⟨J,hJ⟩:∃J:(Nat->Bool)->(Nat->Value)->World->Prop,∀d v W,J d v W↔(JG [(0,33),(1,34),(2,35),(3,36),(4,37),(5,38)] VL d v/\Qc [] w7 W):=⟨_,fun _ _ _=>i7⟩
   refine Ze (b:=⟨#[],[]⟩) 6 [33,34,35,36,37,38] J (by kernel_rfl) (XN _ _) (by kernel_rfl) (by kernel_rfl) (by kernel_rfl) ?_ ?_ ?_
   ·exact(hJ _ _ _).2 ⟨UO (by decide),C6⟩
   ·refine⟨.inr ?_,.inr ?_,.inr ?_,.inr ?_,.inr ?_,.inr ?_,.inl rfl,trivial⟩
    ·intro d v W hC hd hpre hJ1 K hK
     have H:=Qb ((hJ _ _ _).1 hJ1)
     clear hJ1
     clear hpre hC hd
     simp only [Xq,C8,C9]
     go_simp
     refine YD hK (by simp only [Xq,Act.put,D0,C8,C9] <;>rfl) ((hJ _ _ _).2 ⟨Qu (by decide) (by decide) H.out.1 0 _ _ _ rfl (by rw [hV];rfl),H.out.2⟩)
    ·intro d v W hC hd hpre hJ1 K hK
     have H:=Qb ((hJ _ _ _).1 hJ1)
     clear hJ1
     have e0:v 33= .pointer (some ⟨xp,0,none⟩):=H.out.1 0 _ _ _ rfl (by rw [hV];rfl) (Qh hpre 0)
     clear hpre hC hd
     have q0:=(X7.out.kz H.out.2).ptr
     simp only [Xq,C8,C9,e0]
     go_simp
     refine YD hK (by simp only [Xq,Act.put,D0,C8,C9,e0] <;>rfl) ((hJ _ _ _).2 ⟨Qu (by decide) (by decide) H.out.1 1 _ _ _ rfl (by rw [hV];rfl),H.out.2⟩)
    ·intro d v W hC hd hpre hJ1 K hK
     have H:=Qb ((hJ _ _ _).1 hJ1)
     clear hJ1
     have e1:v 34= .pointer (some ⟨xp,0,none⟩):=H.out.1 1 _ _ _ rfl (by rw [hV];rfl) (Qh hpre 1)
     clear hpre hC hd
     simp only [Xq,C8,C9,e1]
     go_simp
     refine YD hK (by simp only [Xq,Act.put,D0,C8,C9,e1] <;>rfl) ((hJ _ _ _).2 ⟨Qu (by decide) (by decide) H.out.1 2 _ _ _ rfl (by rw [hV];rfl),H.out.2⟩)
    ·intro d v W hC hd hpre hJ1 K hK
     have H:=Qb ((hJ _ _ _).1 hJ1)
     clear hJ1
     have e2:v 35= .pointer (some ⟨xp,0,none⟩):=H.out.1 2 _ _ _ rfl (by rw [hV];rfl) (Qh hpre 2)
     clear hpre hC hd
     have q0:=(X7.out.kz H.out.2).ptr
     simp only [Xq,C8,C9,e2]
     go_simp
     refine YD hK (by simp only [Xq,Act.put,D0,C8,C9,e2] <;>rfl) ((hJ _ _ _).2 ⟨Qu (by decide) (by decide) H.out.1 3 _ _ _ rfl (by rw [hV];rfl),H.out.2⟩)
    ·intro d v W hC hd hpre hJ1 K hK
     have H:=Qb ((hJ _ _ _).1 hJ1)
     clear hJ1
     clear hpre hC hd
     have q9:=(G9.out.keep H.out.2).o5
     have f9:=(G9.out.keep H.out.2).f
     simp only [Xq,C8,C9]
     go_simp
     refine YD hK (by simp only [Xq,Act.put,D0,C8,C9] <;>rfl) ((hJ _ _ _).2 ⟨Qu (by decide) (by decide) H.out.1 4 _ _ _ rfl (by rw [hV];rfl),H.out.2⟩)
    ·intro d v W hC hd hpre hJ1 K hK
     have H:=Qb ((hJ _ _ _).1 hJ1)
     clear hJ1
     clear hpre hC hd
     have q9:=(G12.out.keep H.out.2).o3
     have f9:=(G12.out.keep H.out.2).f
     simp only [Xq,C8,C9]
     go_simp
     refine YD hK (by simp only [Xq,Act.put,D0,C8,C9] <;>rfl) ((hJ _ _ _).2 ⟨Qu (by decide) (by decide) H.out.1 5 _ _ _ rfl (by rw [hV];rfl),H.out.2⟩)
   ·refine⟨_,rfl,fun v W hJ1 K hK=>?_⟩
    have H:=Qb ((hJ _ _ _).1 hJ1)
    clear hJ1
    have e0:v 33= .pointer (some ⟨xp,0,none⟩):=H.out.1 0 _ _ _ rfl (by rw [hV];rfl) (by decide)
    have e1:v 34= .pointer (some ⟨xp,0,none⟩):=H.out.1 1 _ _ _ rfl (by rw [hV];rfl) (by decide)
    have e2:v 35= .pointer (some ⟨xp,0,none⟩):=H.out.1 2 _ _ _ rfl (by rw [hV];rfl) (by decide)
    have e3:v 36= .map (some bs):=H.out.1 3 _ _ _ rfl (by rw [hV];rfl) (by decide)
    have e4:v 37= .agg #[.int .i64 place,.pointer (some ⟨b,off,none⟩),.string s1,.string s2,.string s3]:=H.out.1 4 _ _ _ rfl (by rw [hV];rfl) (by decide)
    have e5:v 38= .agg #[.map (some b1),.map (some b2),.map (some b3)]:=H.out.1 5 _ _ _ rfl (by rw [hV];rfl) (by decide)
    have CHW:=H.out.2
    clear H hJ J hV
    simp only [Xq,C8,C9,e0,e1,e2,e3,e4,e5]
    obtain⟨E2,hE2,hall2⟩:=(X7.out.kz CHW).memo
    have hGW:=(X7.out.kz CHW).blk
    refine QdG rfl ?_
    refine Qe7 (.tmp 36) (.tmp 37) (.tmp 38) _ rfl (yu SB) hGW hu rfl hE2 (key:=JC (place,(b,off),s1,s2,s3)) (val:=.agg #[.map (some b1),.map (some b2),.map (some b3)]) rfl rfl hk ?_
    intro w8 E8 hE8 d8 sz8 hm8
    refine hK.out _ _ ?_
    have nm:∀y∈ [b1,b2,b3],y∉ [x7,x7+1,x7+1+1] ++T/\y≠bs:=hT
    obtain⟨X8,ho8⟩:=Wz.stored (x:=(place,(b,off),s1,s2,s3)) (a:=a) (X7.out.kz CHW) hE2 hall2 hE8 d8 hm8 ha (ho7.keep CHW C0 (by simp) (by simp) (by simp)) nm
    have D8:=(G8.out.keep CHW).kp d8
    have M8:=(L8.keep CHW).kp d8
    have o8:=D8.o3
    have f8:=D8.f
    have D12:=(G12.out.keep CHW).kp d8
    have o12:=D12.o3
    have f12:=D12.f
    have cz:Qc [bs] w w8:=((cW.ty (c6.tz c7)).tz CHW).trans d8 (fun x hx=>.inl hx)
    have w8s:x7+1<w8.heap.size:=D8.lt
    have cp:=Xz w8 (x7+1) (.map (some b1)) (.map (some b2)) (.map (some b3))
    have n8:Qm w8 [x7+1]:=F7 M8.nz C0
    have B8:=D8.put3 rfl (.map (some b1)) (.map (some b2)) (.map (some b3))
    have X9:=X8.keep cp n8 (by simp)
    have no:∀y∈ [b1,b2,b3],y∉ [x7+1]:=fun y hy h=>(nm y hy).1 (by rw [E0.1 h];simp)
    have ho9:=ho8.keep cp n8 (no b1 (by simp)) (no b2 (by simp)) (no b3 (by simp))
    clear hT hin hk hz hu hm8 hE8 hE2 hall2 d8 G8 G12 G9 X7
    go_wp2_with fail
    have q8:=B8.o3
    have g8:=B8.f
    refine bodyPost_ret (v:=.agg #[.map (some b1),.map (some b2),.map (some b3)]) (by simp only [results,Tryz.results98];go_simp) rfl ?_
    exact⟨b1,b2,b3,rfl,ho9,fun y hy=>⟨fun h=>(nm y hy).1 (V0 _ h),(nm y hy).2⟩,X9.less (fun y hy=>V0 _ hy),cz.trans cp (fun x hx=>.inr (by rw [E0.1 hx];omega))⟩
end Go.Proofs.YtjeadhmkghnkkaaGreatDoor
