/- l8List of the reference. Conditions: as stated. -/
import Derived.Test.YtjeadhmkghnkkaaGreatDoorFlat
import Derived.Test.YtjeadhmkghnkkaaGreatDoorActsG
set_option maxRecDepth 100000
set_option maxHeartbeats 16000000
namespace Go.Proofs.YtjeadhmkghnkkaaGreatDoor
open Go.RowKit

theorem Qbb (k:Nat) (pl:Bool):∀(deep most:Nat) (w:World),WN w k->1<=most->most<=100->deep<=100->
  Calls Tryz.prog 61 #[.pointer (some ⟨k,0,none⟩),.int .i64 (most:Int),.int .i64 (deep:Int),.bool pl] w (QeI k (most * cB deep) most pl w):=by
 intro deep
 induction deep with
 | zero=>
  intro most w hcur hm1 hm2 _
  have hk:=hcur.lt
  have BL:=Qb (fun n W (hc:WN W k)=>Yf k n W hc)
  have FL:=Qb (fun W (hc:WN W k)=>vB k W hc)
  have LI:=Qb (fun L g cap W hc h0 h1 hg hl hx=>GY k L g cap W hc h0 h1 hg hl hx)
  have hT:Hid (∀x∈ [k],x<w.heap.size):=Qb (by simpa using hk)
  have wm:∀r:Int,0<=r->r<most->IntKind.i64.wrap (1+r)=1+r:=fun r h0 h1=>Zd (by omega) (by omega)
  go_enter Tryz.func61,Tryz.ntmps61
  go_wp2_with fail
  refine(BL.out most _ (hcur.kz ((B0 _ _).alloc _))).mono ?_
  rintro e w1 ⟨r,rfl,⟨r0,r1⟩,q1,c1⟩
  have r1:=r1 (by omega)
  have wr1:=wm r r0 r1
  obtain⟨n,hn⟩:∃n:Nat,1+r=(n:Int):=⟨(1+r).toNat,by omega⟩
  have nm:n<=most:=by omega
  have n1:1<=n:=by omega
  have hA0:=Qb ((W0.empty (T:=[k]) w 33 11 (B0 _ _)).later c1 hT.out)
  have HN:=Qb hn
  clear r0 r1 hn wm c1
  go_wp2_with fail
  go_loopw [9,10] (fun v n wr=>∃(j:Nat) (l:List Qa) (A:Option Addr) (cap:Nat),n= .int .i64 (j:Int)/\v= .slice A l.length cap/\l.length+j<=most/\1<=l.length+j/\Hid (W0 [k] w wr 33 11 (.slice A l.length cap) l.length (l.flatMap QO))/\Hid (Qi l<=l.length * cB 0)/\Hid (pl=true->zR 10 3 l)/\WN wr k) (fun _ n _=>(intOf n).toNat)
  case atStart=>exact⟨n,[],_,_,congrArg (Value.int .i64) HN.out,rfl,by simpa using nm,by simpa using n1,hA0,Qb (by simp [Qi,Wv]),Qb (fun _=>Un),q1⟩
  case round=>
   obtain⟨j,l,A,cap,rfl,rfl,hlj,hl1,hA,hW,hP,hq⟩:=hrel
   by_cases hj:0<j
   case neg=>
    obtain rfl:j=0:=by omega
    go_wp2_with fail
    go_ret
    exact⟨l,A,cap,rfl,hA.out,by omega,by omega,G5 hW.out (X0 _ (by omega)),hP.out,hq⟩
   case pos=>
    obtain⟨j,rfl⟩:∃m,j=m+1:=⟨j-1,by omega⟩
    have hj0:(0:Int)<((j+1:Nat):Int):=by omega
    have wj:IntKind.i64.wrap (((j+1:Nat):Int) -1)=(j:Int):=by rw [Zd (by omega) (by omega)];omega
    go_wp2_with fail
    refine(FL.out _ hq).mono ?_
    rintro e w1 ⟨op,sl,ot,wd,m,y,v,t,fc,rfl,zw,zm,zy,zt,q1,c1⟩
    have k1:=hq.lt
    have kw1:=q1.lt
    go_upto_region 10 with fail
    refine Qp ?_
    intro x hx
    have K:YZ k wr x w1.heap.size (cB 0) (QbV pl):=by rw [hx];exact⟨⟨.mk op sl ot wd ⟨m,y,v,t⟩ fc [] [],none,0,none,0,[],L9 _ _ _,KT _ _ _ _ _ _ _ _ _ _,by simp,by simp,by rw [Qa8,vy];unfold cB;omega,fun _=>⟨Un,Un⟩⟩,q1.kz ((B0 _ _).alloc _),H9 c1,c1.size⟩
    clear hx q1 c1 zw zm zy zt
    obtain⟨⟨a,A9,c9,A10,c10,S,BB,HH,mS,bS,hW1,hP1⟩,qq,dd,lo⟩:=K
    have ub:=BB.lt
    have kq:=qq.lt
    have BB:=Qb BB
    have HH:=Qb HH
    have dd:=Qb dd
    by_cases hpl:pl=true/\(a.op=10∨a.op=3)
    case' pos=>
     obtain⟨b0,b1,b2,b3,b4,b5,b6,b7,b8,b9,b10⟩:=BB.out.o11
     have bf:=BB.out.f
     obtain⟨hpt,hop⟩:=hpl
     have oo:Hid ((a.op==10)=true∨(a.op==10)=false/\(a.op==3)=true):=Qb (by rcases hop with h|h<;>rw [h] <;>decide)
     clear hop
     rcases oo.out with o1|⟨o1,o2⟩
     all_goals
      go_wp2_with fail
      refine ZM fun y1 hy1=>?_
      have e1:Qc [] x y1:=by rw [hy1];exact C6
      clear hy1
      refine(BL.out 3 _ (qq.kz e1)).mono ?_
      rintro e w7 ⟨s7,rfl,_,q7,c7⟩
      clear b0 b1 b2 b3 b4 b5 b6 b7 b8 b9 b10 bf
      have B7:=Qb ((BB.out.keep e1).keep c7 (by simp;omega))
      have D7:=Qb ((dd.out.tz e1).trans c7 (fun x hx=>.inl hx))
      clear e1 c7 BB HH dd qq mS bS hW1 hP1
      go_wp2_with fail
      refine ZM fun y2 hy2=>?_
      have e2:Qc [] w7 y2:=by rw [hy2];exact C6
      obtain⟨lt7,LT7⟩:=UI (g:=w7.heap.size) [1,2,4,3] hy2 rfl
      have k7:=q7.lt
      clear hy2
      refine(LI.out [1,2,4,3] w7.heap.size 4 _ (q7.kz e2) (by decide) (by decide) (by omega) lt7 LT7).mono ?_
      rintro e w8 ⟨f8,rfl,_,q8,c8⟩
      have B8:=Qb ((B7.out.keep e2).keep c8 (by simp;omega))
      have D8:=Qb ((D7.out.tz e2).trans c8 (fun x hx=>.inl hx))
      have u8:=B8.out.lt
      clear e2 c8 B7 D7 q7 lt7 LT7 k7
      obtain⟨b0,b1,b2,b3,b4,b5,b6,b7,b8,b9,b10⟩:=B8.out.o11
      have bf:=B8.out.f
      go_upto_region 12 with fail
      refine Qp ?_
      intro z hz
      have K2:YZ k wr z w1.heap.size (cB 0) (Qfw pl):=by rw [hz];exact⟨⟨.mk 6 s7 0 ⟨#[]⟩ ⟨⟨#[]⟩,⟨#[]⟩,0,⟨#[]⟩⟩ f8 [] [],none,0,none,0,[],B8.out.all11,KT _ _ _ _ _ _ _ _ _ _,by simp,by simp,Qec _,fun _=>QcL (by decide) (by decide)⟩,q8.keep (S:=[w1.heap.size]) C6 (by simp;omega),zp D8.out lo C6,lo⟩
      clear b0 b1 b2 b3 b4 b5 b6 b7 b8 b9 b10 bf
      have O1:=Qb hpt
      clear hz B8 D8 q8 u8 oo hpt o1
      try clear o2
    case' neg=>
     have hno:Hid (pl=true->a.op≠10/\a.op≠3):=Qb (fun h=>⟨fun e=>hpl ⟨h,.inl e⟩,fun e=>hpl ⟨h,.inr e⟩⟩)
     have o1:pl=false∨pl=true/\(a.op==10)=false/\(a.op==3)=false:=by
      cases pl
      ·exact .inl rfl
      ·exact .inr ⟨rfl,by rw [beq_eq_false_iff_ne];exact(hno.out rfl).1,by rw [beq_eq_false_iff_ne];exact(hno.out rfl).2⟩
     clear hpl
     obtain⟨b0,b1,b2,b3,b4,b5,b6,b7,b8,b9,b10⟩:=BB.out.o11
     have bf:=BB.out.f
     rcases o1 with o1|⟨o1,o2,o3⟩
     all_goals
      go_upto_region 12 with fail
      refine Qp ?_
      intro z hz
      have K2:YZ k wr z w1.heap.size (cB 0) (Qfw pl):=by rw [hz];exact(YZ.same (x:=x) ⟨⟨a,A9,c9,A10,c10,S,BB.out,HH.out,mS,bS,hW1,fun h=>(a.no_iff 10 3).2 ⟨hno.out h,(hP1 h).1,(hP1 h).2⟩⟩,qq,dd.out,lo⟩ C6)
      clear b0 b1 b2 b3 b4 b5 b6 b7 b8 b9 b10 bf
      have O1:=Qb o1
      clear hz BB HH dd qq mS bS hW1 hP1 hno o1
      try clear o2 o3
    all_goals
     obtain⟨⟨a2,A29,c29,A210,c210,S2,BB2,HH2,mS2,bS2,hW2,hP2⟩,qq2,dd2,lo2⟩:=K2
     have NT:=Qb (show VU [k] wr (z.alloc (.cells #[.int .i64 a2.op,.int .i64 a2.slot,.int .i64 a2.other,.string a2.word,.string a2.call.method,.string a2.call.key,.int .i64 a2.call.value,.string a2.call.text,.int .i64 a2.face,.slice A29 a2.A.length c29,.slice A210 a2.B.length c210] 33)) (QO a2) [.int .i64 a2.op,.int .i64 a2.slot,.int .i64 a2.other,.string a2.word,.string a2.call.method,.string a2.call.key,.int .i64 a2.call.value,.string a2.call.text,.int .i64 a2.face,.slice A29 a2.A.length c29,.slice A210 a2.B.length c210] from⟨S2,HH2.kz ((B0 _ _).alloc _),mS2,dd2.alloc _⟩)
     have NW:=Qb ((L9 z #[.int .i64 a2.op,.int .i64 a2.slot,.int .i64 a2.other,.string a2.word,.string a2.call.method,.string a2.call.key,.int .i64 a2.call.value,.string a2.call.text,.int .i64 a2.face,.slice A29 a2.A.length c29,.slice A210 a2.B.length c210] 33).c)
     have HONE:=Qb (@zH a2.op a2.slot a2.other a2.word a2.call.method a2.call.key a2.call.value a2.call.text a2.face A29 a2.A.length c29 A210 a2.B.length c210)
     have dd2:=Qb dd2
     have HW2:=Qb (show Qi (l++ [a2])<=(l++ [a2]).length * (cB 0) by rw [UC,zr,I0,Nat.add_mul];simp only [I1,U7,J3,Nat.one_mul];exact Nat.add_le_add hW.out hW2)
     have HP2:=Qb (show pl=true->zR 10 3 (l++ [a2]) from fun h=>(vD _ _).2 ⟨hP.out h,by rw [zR,zR];exact⟨hP2 h,trivial⟩⟩)
     obtain⟨b0,b1,b2,b3,b4,b5,b6,b7,b8,b9,b10⟩:=BB2.o11
     have bf:=BB2.f
     clear BB2 HH2 mS2 bS2 hW2 hP2
     go_wp2_with (at_builtin;refine Vr (T:=[k]) rfl (.tmp 69) (.tmp 71) _ rfl 33 _ 11 152 Tryz.underlying24 WJ rfl (by omega) hA.out hT.out NT.out rfl z.heap.size 1 1 rfl rfl NW.out HONE.out (by omega) (by omega) ?_;intro A2 cap2 w2 hA2 hM2)
     go_roundw
     case rel=>exact⟨_,_,⟨j,rfl,l++ [a2],A2,cap2,rfl,by simp;omega,by simp;omega,Qb (by simpa [List.flatMap_append] using hA2),HW2,HP2,(qq2.kz ((B0 _ _).alloc _)).mid hM2 hk⟩,O1.out,by simp,rfl⟩
     case measure=>first|(simp [intOf];done)|(simp [intOf];omega)
 | succ d ih=>
  intro most w hcur hm1 hm2 hd
  have hk:=hcur.lt
  have BL:=Qb (fun n W (hc:WN W k)=>Yf k n W hc)
  have FL:=Qb (fun W (hc:WN W k)=>vB k W hc)
  have ON:=Qb (fun n W (hc:WN W k)=>vv k n W hc)
  have IH:=Qb (fun W (hc:WN W k)=>ih 2 W hc (by omega) (by omega) (by omega))
  have wd1:IntKind.i64.wrap (((d+1:Nat):Int) -1)=(d:Int):=by rw [Zd (by omega) (by omega)];omega
  have hd0:(0:Int)<((d+1:Nat):Int):=by omega
  clear ih
  have LI:=Qb (fun L g cap W hc h0 h1 hg hl hx=>GY k L g cap W hc h0 h1 hg hl hx)
  have hT:Hid (∀x∈ [k],x<w.heap.size):=Qb (by simpa using hk)
  have wm:∀r:Int,0<=r->r<most->IntKind.i64.wrap (1+r)=1+r:=fun r h0 h1=>Zd (by omega) (by omega)
  go_enter Tryz.func61,Tryz.ntmps61
  go_wp2_with fail
  refine(BL.out most _ (hcur.kz ((B0 _ _).alloc _))).mono ?_
  rintro e w1 ⟨r,rfl,⟨r0,r1⟩,q1,c1⟩
  have r1:=r1 (by omega)
  have wr1:=wm r r0 r1
  obtain⟨n,hn⟩:∃n:Nat,1+r=(n:Int):=⟨(1+r).toNat,by omega⟩
  have nm:n<=most:=by omega
  have n1:1<=n:=by omega
  have hA0:=Qb ((W0.empty (T:=[k]) w 33 11 (B0 _ _)).later c1 hT.out)
  have HN:=Qb hn
  clear r0 r1 hn wm c1
  go_wp2_with fail
  go_loopw [9,10] (fun v n wr=>∃(j:Nat) (l:List Qa) (A:Option Addr) (cap:Nat),n= .int .i64 (j:Int)/\v= .slice A l.length cap/\l.length+j<=most/\1<=l.length+j/\Hid (W0 [k] w wr 33 11 (.slice A l.length cap) l.length (l.flatMap QO))/\Hid (Qi l<=l.length * cB (d+1))/\Hid (pl=true->zR 10 3 l)/\WN wr k) (fun _ n _=>(intOf n).toNat)
  case atStart=>exact⟨n,[],_,_,congrArg (Value.int .i64) HN.out,rfl,by simpa using nm,by simpa using n1,hA0,Qb (by simp [Qi,Wv]),Qb (fun _=>Un),q1⟩
  case round=>
   obtain⟨j,l,A,cap,rfl,rfl,hlj,hl1,hA,hW,hP,hq⟩:=hrel
   by_cases hj:0<j
   case neg=>
    obtain rfl:j=0:=by omega
    go_wp2_with fail
    go_ret
    exact⟨l,A,cap,rfl,hA.out,by omega,by omega,G5 hW.out (X0 _ (by omega)),hP.out,hq⟩
   case pos=>
    obtain⟨j,rfl⟩:∃m,j=m+1:=⟨j-1,by omega⟩
    have hj0:(0:Int)<((j+1:Nat):Int):=by omega
    have wj:IntKind.i64.wrap (((j+1:Nat):Int) -1)=(j:Int):=by rw [Zd (by omega) (by omega)];omega
    go_wp2_with fail
    refine(FL.out _ hq).mono ?_
    rintro e w1 ⟨op,sl,ot,wd,m,y,v,t,fc,rfl,zw,zm,zy,zt,q1,c1⟩
    have k1:=hq.lt
    have kw1:=q1.lt
    go_wp2_with fail
    refine ZM fun x1 hx1=>?_
    have K1:YZ k wr x1 w1.heap.size 200 (QbV pl):=by rw [hx1];exact⟨⟨.mk op sl ot wd ⟨m,y,v,t⟩ fc [] [],none,0,none,0,[],L9 _ _ _,KT _ _ _ _ _ _ _ _ _ _,by simp,by simp,by rw [Qa8,vy];omega,fun _=>⟨Un,Un⟩⟩,q1.kz ((B0 _ _).alloc _),H9 c1,c1.size⟩
    clear hx1 q1 c1 zw zm zy zt
    refine(ON.out 3 _ K1.cur).mono ?_
    rintro e w2 ⟨ok,rfl,q2,c2⟩
    have K2:=K1.later c2 q2 k1
    clear K1 q2 c2
    cases ok
    case' false=>
     go_upto_region 10 with fail
     refine Qp ?_
     intro x hx
     have K:YZ k wr x w1.heap.size (cB (d+1)) (QbV pl):=by rw [hx];exact(K2.same C6).more (by unfold cB;omega)
     clear hx K2
    case' true=>
     go_wp2_with fail
     refine ZM fun x2 hx2=>?_
     have K3:YZ k wr x2 w1.heap.size 200 (QbV pl):=by rw [hx2];exact K2.same C6
     obtain⟨lt2,LT2⟩:=UI (g:=w2.heap.size) [8,8,9,10] hx2 rfl
     have kw2:=K2.cur.lt
     clear hx2 K2
     refine(LI.out [8,8,9,10] w2.heap.size 4 _ K3.cur (by decide) (by decide) (by omega) lt2 LT2).mono ?_
     rintro e w3 ⟨op2,rfl,hop,q3,c3⟩
     have K4:=K3.later c3 q3 k1
     clear K3 q3 c3 lt2 LT2
     go_wp2_with fail
     refine(IH.out _ K4.cur).mono ?_
     rintro e w4 ⟨LA,uA,capA,rfl,hAA,_,_,hWA,hPA,q4⟩
     have K5:=K4.later hAA.chg q4 k1
     have NA:=Qb hAA.new
     obtain⟨SA,sa1,sa2,_⟩:=NA.out
     have bA:w1.heap.size∉SA:=fun h=>by have:=sa2 _ h;have:=K4.b_lt;omega
     have lA:∀y,y∈SA->y<w4.heap.size:=sa1.lt
     have mA:∀y,y∈SA->wr.heap.size<=y:=fun y h=>by have:=sa2 y h;have:=K4.chg.size;omega
     obtain⟨f0,f1,f2,f3,f4,f5,f6,f7,f8,f9,f10,bx5⟩:=K5.raw
     have BX5:=Qb bx5
     have u5:=BX5.out.lt
     clear bx5 hAA K4
     rcases(show op2=9∨op2=8∨op2=10 by simp at hop;omega) with rfl|h810
     case' inl=>
      obtain⟨b0,b1,b2,b3,b4,b5,b6,b7,b8,b9,b10⟩:=BX5.out.o11
      have bf:=BX5.out.f
      go_upto_region 8 with fail
      refine Qp ?_
      intro x5 hx5
      clear b0 b1 b2 b3 b4 b5 b6 b7 b8 b9 b10 bf
      have B6:=Qb (show ZU x5 w1.heap.size [.int .i64 9,.int .i64 0,.int .i64 0,.string ⟨#[]⟩,.string ⟨#[]⟩,.string ⟨#[]⟩,.int .i64 0,.string ⟨#[]⟩,.int .i64 0,.slice uA LA.length capA,.slice none 0 0] by rw [hx5];exact BX5.out.all11)
      have H6:=Qb (show Yp x5 (QA LA) (.slice uA LA.length capA) SA by rw [hx5];exact sa1.keep (S0:=[w1.heap.size]) C6 (jt bA))
      have Q6:=q4.keep (S:=[w1.heap.size]) (show Qc [w1.heap.size] w4 x5 by rw [hx5];exact C6) (by simp;omega)
      have D6:=Qb (show Qc [k] wr x5 by rw [hx5];exact zp K5.chg K5.lo C6)
      have M6:w4.heap.size<=x5.heap.size:=(show Qc [w1.heap.size] w4 x5 by rw [hx5];exact C6).size
      have lo:=K5.lo
      clear hx5 BX5 K5 q4 sa1 NA
      obtain⟨b0,b1,b2,b3,b4,b5,b6,b7,b8,b9,b10⟩:=B6.out.o11
      have bf:=B6.out.f
      go_upto_region 10 with fail
      refine Qp ?_
      intro x hx
      have K:YZ k wr x w1.heap.size (cB (d+1)) (QbV pl):=by rw [hx];exact⟨⟨.mk 9 0 0 ⟨#[]⟩ ⟨⟨#[]⟩,⟨#[]⟩,0,⟨#[]⟩⟩ 0 LA [],uA,capA,none,0,SA,B6.out.keep (S:=[]) C6,((we H6.out).kz C6),mA,bA,QeM hWA,fun h=>⟨hPA h,Un⟩⟩,Q6.kz C6,H9 D6.out,lo⟩
      clear b0 b1 b2 b3 b4 b5 b6 b7 b8 b9 b10 bf
      clear hx B6 H6 Q6 D6 M6 hWA hPA
     case' inr=>
      have o9:(op2==9)=false:=by rw [beq_eq_false_iff_ne];omega
      have o9b:¬op2=9:=by omega
      have o9c:(op2 !=9)=true:=by rw [bne,o9];rfl
      clear h810
      obtain⟨b0,b1,b2,b3,b4,b5,b6,b7,b8,b9,b10⟩:=BX5.out.o11
      have bf:=BX5.out.f
      go_upto_region 8 with fail
      refine Qp ?_
      intro x5 hx5
      clear b0 b1 b2 b3 b4 b5 b6 b7 b8 b9 b10 bf
      skip
      have B6:=Qb (show ZU x5 w1.heap.size [.int .i64 op2,.int .i64 0,.int .i64 0,.string ⟨#[]⟩,.string ⟨#[]⟩,.string ⟨#[]⟩,.int .i64 0,.string ⟨#[]⟩,.int .i64 0,.slice uA LA.length capA,.slice none 0 0] by rw [hx5];exact BX5.out.all11)
      have H6:=Qb (show Yp x5 (QA LA) (.slice uA LA.length capA) SA by rw [hx5];exact sa1.keep (S0:=[w1.heap.size]) C6 (jt bA))
      have Q6:=q4.keep (S:=[w1.heap.size]) (show Qc [w1.heap.size] w4 x5 by rw [hx5];exact C6) (by simp;omega)
      have D6:=Qb (show Qc [k] wr x5 by rw [hx5];exact zp K5.chg K5.lo C6)
      have M6:w4.heap.size<=x5.heap.size:=(show Qc [w1.heap.size] w4 x5 by rw [hx5];exact C6).size
      have lo:=K5.lo
      clear hx5 BX5 K5 q4 sa1 NA
      obtain⟨b0,b1,b2,b3,b4,b5,b6,b7,b8,b9,b10⟩:=B6.out.o11
      have bf:=B6.out.f
      go_wp2_with fail
      refine(ON.out 3 _ Q6).mono ?_
      rintro e w5 ⟨ok,rfl,q5,c5⟩
      clear b0 b1 b2 b3 b4 b5 b6 b7 b8 b9 b10 bf
      have B7:=Qb (B6.out.keep c5 (by simp;omega))
      have H7:=Qb (H6.out.keep c5 (QgY mA k1))
      have D7:=Qb (D6.out.trans c5 (fun x hx=>.inl hx))
      have M7:w4.heap.size<=w5.heap.size:=G5 M6 c5.size
      clear B6 H6 D6 c5 Q6 M6
      cases ok
      case' true=>
       obtain⟨b0,b1,b2,b3,b4,b5,b6,b7,b8,b9,b10⟩:=B7.out.o11
       have bf:=B7.out.f
       go_upto_region 10 with fail
       refine Qp ?_
       intro x hx
       have K:YZ k wr x w1.heap.size (cB (d+1)) (QbV pl):=by rw [hx];exact⟨⟨.mk op2 0 0 ⟨#[]⟩ ⟨⟨#[]⟩,⟨#[]⟩,0,⟨#[]⟩⟩ 0 LA [],uA,capA,none,0,SA,B7.out.keep (S:=[]) C6,((we H7.out).kz C6),mA,bA,QeM hWA,fun h=>⟨hPA h,Un⟩⟩,q5.kz C6,H9 D7.out,lo⟩
       clear b0 b1 b2 b3 b4 b5 b6 b7 b8 b9 b10 bf
       clear hx B7 H7 q5 D7 M7 hWA hPA
      case' false=>
       obtain⟨b0,b1,b2,b3,b4,b5,b6,b7,b8,b9,b10⟩:=B7.out.o11
       have bf:=B7.out.f
       go_wp2_with fail
       refine(IH.out _ q5).mono ?_
       rintro e w6 ⟨LB,uB,capB,rfl,hBB,_,_,hWB,hPB,q6⟩
       clear b0 b1 b2 b3 b4 b5 b6 b7 b8 b9 b10 bf
       obtain⟨SB,sb1,sb2,c6⟩:=hBB.new
       have bB:w1.heap.size∉SB:=fun h=>by have:=sb2 _ h;have:=B7.out.lt;omega
       have mB:∀y,y∈SB->wr.heap.size<=y:=fun y h=>by have:=sb2 y h;have:=D7.out.size;omega
       have dAB:∀y,y∈SA->y∉SB:=fun y ha hb=>by have:=lA y ha;have:=sb2 y hb;omega
       have B8:=Qb (B7.out.keep c6 (by simp;omega))
       have H8:=Qb (H7.out.keep c6 (QgY mA k1))
       have D8:=Qb (D7.out.trans c6 (fun x hx=>.inl hx))
       have HB8:=Qb sb1
       clear B7 H7 D7 c6 q5 M7 hBB sb1
       obtain⟨b0,b1,b2,b3,b4,b5,b6,b7,b8,b9,b10⟩:=B8.out.o11
       have bf:=B8.out.f
       have u8:=B8.out.lt
       go_upto_region 10 with fail
       refine Qp ?_
       intro x hx
       have K:YZ k wr x w1.heap.size (cB (d+1)) (QbV pl):=by rw [hx];exact⟨⟨.mk op2 0 0 ⟨#[]⟩ ⟨⟨#[]⟩,⟨#[]⟩,0,⟨#[]⟩⟩ 0 LA LB,uA,capA,uB,capB,SA++SB,B8.out.set 10 _,uG (H8.out.keep (S0:=[w1.heap.size]) C6 (jt bA)) (HB8.out.keep (S0:=[w1.heap.size]) C6 (jt bB)) dAB,fun y hy=>(F4.1 hy).elim (mA y) (mB y),fun hy=>(F4.1 hy).elim bA bB,QcB hWA hWB,fun h=>⟨hPA h,hPB h⟩⟩,q6.keep (S:=[w1.heap.size]) C6 (by simp;omega),zp D8.out lo C6,lo⟩
       clear b0 b1 b2 b3 b4 b5 b6 b7 b8 b9 b10 bf
       clear hx B8 H8 q6 D8 HB8 hWA hPA hWB hPB
    all_goals
     obtain⟨⟨a,A9,c9,A10,c10,S,BB,HH,mS,bS,hW1,hP1⟩,qq,dd,lo⟩:=K
     have ub:=BB.lt
     have kq:=qq.lt
     have BB:=Qb BB
     have HH:=Qb HH
     have dd:=Qb dd
     by_cases hpl:pl=true/\(a.op=10∨a.op=3)
     case' pos=>
      obtain⟨b0,b1,b2,b3,b4,b5,b6,b7,b8,b9,b10⟩:=BB.out.o11
      have bf:=BB.out.f
      obtain⟨hpt,hop⟩:=hpl
      have oo:Hid ((a.op==10)=true∨(a.op==10)=false/\(a.op==3)=true):=Qb (by rcases hop with h|h<;>rw [h] <;>decide)
      clear hop
      rcases oo.out with o1|⟨o1,o2⟩
      all_goals
       go_wp2_with fail
       refine ZM fun y1 hy1=>?_
       have e1:Qc [] x y1:=by rw [hy1];exact C6
       clear hy1
       refine(BL.out 3 _ (qq.kz e1)).mono ?_
       rintro e w7 ⟨s7,rfl,_,q7,c7⟩
       clear b0 b1 b2 b3 b4 b5 b6 b7 b8 b9 b10 bf
       have B7:=Qb ((BB.out.keep e1).keep c7 (by simp;omega))
       have D7:=Qb ((dd.out.tz e1).trans c7 (fun x hx=>.inl hx))
       clear e1 c7 BB HH dd qq mS bS hW1 hP1
       go_wp2_with fail
       refine ZM fun y2 hy2=>?_
       have e2:Qc [] w7 y2:=by rw [hy2];exact C6
       obtain⟨lt7,LT7⟩:=UI (g:=w7.heap.size) [1,2,4,3] hy2 rfl
       have k7:=q7.lt
       clear hy2
       refine(LI.out [1,2,4,3] w7.heap.size 4 _ (q7.kz e2) (by decide) (by decide) (by omega) lt7 LT7).mono ?_
       rintro e w8 ⟨f8,rfl,_,q8,c8⟩
       have B8:=Qb ((B7.out.keep e2).keep c8 (by simp;omega))
       have D8:=Qb ((D7.out.tz e2).trans c8 (fun x hx=>.inl hx))
       have u8:=B8.out.lt
       clear e2 c8 B7 D7 q7 lt7 LT7 k7
       obtain⟨b0,b1,b2,b3,b4,b5,b6,b7,b8,b9,b10⟩:=B8.out.o11
       have bf:=B8.out.f
       go_upto_region 12 with fail
       refine Qp ?_
       intro z hz
       have K2:YZ k wr z w1.heap.size (cB (d+1)) (Qfw pl):=by rw [hz];exact⟨⟨.mk 6 s7 0 ⟨#[]⟩ ⟨⟨#[]⟩,⟨#[]⟩,0,⟨#[]⟩⟩ f8 [] [],none,0,none,0,[],B8.out.all11,KT _ _ _ _ _ _ _ _ _ _,by simp,by simp,Qec _,fun _=>QcL (by decide) (by decide)⟩,q8.keep (S:=[w1.heap.size]) C6 (by simp;omega),zp D8.out lo C6,lo⟩
       clear b0 b1 b2 b3 b4 b5 b6 b7 b8 b9 b10 bf
       have O1:=Qb hpt
       clear hz B8 D8 q8 u8 oo hpt o1
       try clear o2
     case' neg=>
      have hno:Hid (pl=true->a.op≠10/\a.op≠3):=Qb (fun h=>⟨fun e=>hpl ⟨h,.inl e⟩,fun e=>hpl ⟨h,.inr e⟩⟩)
      have o1:pl=false∨pl=true/\(a.op==10)=false/\(a.op==3)=false:=by
       cases pl
       ·exact .inl rfl
       ·exact .inr ⟨rfl,by rw [beq_eq_false_iff_ne];exact(hno.out rfl).1,by rw [beq_eq_false_iff_ne];exact(hno.out rfl).2⟩
      clear hpl
      obtain⟨b0,b1,b2,b3,b4,b5,b6,b7,b8,b9,b10⟩:=BB.out.o11
      have bf:=BB.out.f
      rcases o1 with o1|⟨o1,o2,o3⟩
      all_goals
       go_upto_region 12 with fail
       refine Qp ?_
       intro z hz
       have K2:YZ k wr z w1.heap.size (cB (d+1)) (Qfw pl):=by rw [hz];exact(YZ.same (x:=x) ⟨⟨a,A9,c9,A10,c10,S,BB.out,HH.out,mS,bS,hW1,fun h=>(a.no_iff 10 3).2 ⟨hno.out h,(hP1 h).1,(hP1 h).2⟩⟩,qq,dd.out,lo⟩ C6)
       clear b0 b1 b2 b3 b4 b5 b6 b7 b8 b9 b10 bf
       have O1:=Qb o1
       clear hz BB HH dd qq mS bS hW1 hP1 hno o1
       try clear o2 o3
     all_goals
      obtain⟨⟨a2,A29,c29,A210,c210,S2,BB2,HH2,mS2,bS2,hW2,hP2⟩,qq2,dd2,lo2⟩:=K2
      have NT:=Qb (show VU [k] wr (z.alloc (.cells #[.int .i64 a2.op,.int .i64 a2.slot,.int .i64 a2.other,.string a2.word,.string a2.call.method,.string a2.call.key,.int .i64 a2.call.value,.string a2.call.text,.int .i64 a2.face,.slice A29 a2.A.length c29,.slice A210 a2.B.length c210] 33)) (QO a2) [.int .i64 a2.op,.int .i64 a2.slot,.int .i64 a2.other,.string a2.word,.string a2.call.method,.string a2.call.key,.int .i64 a2.call.value,.string a2.call.text,.int .i64 a2.face,.slice A29 a2.A.length c29,.slice A210 a2.B.length c210] from⟨S2,HH2.kz ((B0 _ _).alloc _),mS2,dd2.alloc _⟩)
      have NW:=Qb ((L9 z #[.int .i64 a2.op,.int .i64 a2.slot,.int .i64 a2.other,.string a2.word,.string a2.call.method,.string a2.call.key,.int .i64 a2.call.value,.string a2.call.text,.int .i64 a2.face,.slice A29 a2.A.length c29,.slice A210 a2.B.length c210] 33).c)
      have HONE:=Qb (@zH a2.op a2.slot a2.other a2.word a2.call.method a2.call.key a2.call.value a2.call.text a2.face A29 a2.A.length c29 A210 a2.B.length c210)
      have dd2:=Qb dd2
      have HW2:=Qb (show Qi (l++ [a2])<=(l++ [a2]).length * (cB (d+1)) by rw [UC,zr,I0,Nat.add_mul];simp only [I1,U7,J3,Nat.one_mul];exact Nat.add_le_add hW.out hW2)
      have HP2:=Qb (show pl=true->zR 10 3 (l++ [a2]) from fun h=>(vD _ _).2 ⟨hP.out h,by rw [zR,zR];exact⟨hP2 h,trivial⟩⟩)
      obtain⟨b0,b1,b2,b3,b4,b5,b6,b7,b8,b9,b10⟩:=BB2.o11
      have bf:=BB2.f
      clear BB2 HH2 mS2 bS2 hW2 hP2
      go_wp2_with (at_builtin;refine Vr (T:=[k]) rfl (.tmp 69) (.tmp 71) _ rfl 33 _ 11 152 Tryz.underlying24 WJ rfl (by omega) hA.out hT.out NT.out rfl z.heap.size 1 1 rfl rfl NW.out HONE.out (by omega) (by omega) ?_;intro A2 cap2 w2 hA2 hM2)
      go_roundw
      case rel=>exact⟨_,_,⟨j,rfl,l++ [a2],A2,cap2,rfl,by simp;omega,by simp;omega,Qb (by simpa [List.flatMap_append] using hA2),HW2,HP2,(qq2.kz ((B0 _ _).alloc _)).mid hM2 hk⟩,O1.out,by simp,rfl⟩
      case measure=>first|(simp [intOf];done)|(simp [intOf];omega)
end Go.Proofs.YtjeadhmkghnkkaaGreatDoor
