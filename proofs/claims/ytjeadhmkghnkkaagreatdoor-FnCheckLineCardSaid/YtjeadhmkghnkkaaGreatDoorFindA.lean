/- Recipes of shapes. Conditions: as stated. -/
import Derived.Test.YtjeadhmkghnkkaaGreatDoorRunPI
import Derived.Test.YtjeadhmkghnkkaaGreatDoorListX
import Derived.Laws.IdiomCopy
set_option maxRecDepth 100000
set_option maxHeartbeats 8000000
namespace Go.Proofs.YtjeadhmkghnkkaaGreatDoor
open Go.RowKit

theorem uq (l:List ByteArray):Gx (l.map Um)↔QaT l:=by
 have hne:∀s:ByteArray,Um s=[] ↔s.size=0:=by
  intro s
  unfold Um
  split
  ·rename_i h;simp [h]
  ·rename_i h
   have:QG 32 s≠ []:=by
    unfold QG
    cases s.data.toList with
    |nil=>simp [Zw]
    | cons b r=>
     rw [Zw]
     split
     ·simp
     ·intro h0
      have:=List.map_eq_nil_iff.1 h0
      have hl:∀(l cur:List UInt8),Zw 32 cur l≠ []:=by
       intro l
       induction l with
       |nil=>intro cur;simp [Zw]
       |cons b l ih=>
        intro cur
        rw [Zw]
        split
        ·simp
        ·exact ih _
      exact hl _ _ this
   simp [h,this]
 have hs:∀s:ByteArray,(Wd (Um s)).isSome=true↔(s.size=0∨(Ys (Um s)).2.code=0):=by
  intro s
  cases h:Um s with
  |nil=>simp [Qbz,(hne s).1 h]
  |cons k r=>
   have h0:¬s.size=0:=fun h0=>by rw [(hne s).2 h0] at h;cases h
   rw [Wd]
   split
   ·rename_i hc;simp [hc]
   ·rename_i hc;simp [hc,h0]
 unfold Gx QaT
 rw [J8]
 refine and_congr i7 ⟨fun h k hk=>(hs _).1 (h _ (L7.2 ⟨_,I4 hk,rfl⟩)),fun h x hx=>?_⟩
 obtain⟨s,hm,rfl⟩:=L7.1 hx
 obtain⟨k,hk,rfl⟩:=List.mem_iff_getElem.1 hm
 exact(hs _).2 (h k hk)
theorem Qd9 (w:World) (l:List ByteArray) (e:TypeId) (h:l.length<=maxLen):qt w (w.alloc (.cells (l.map Value.string).toArray e)) (WB l) (.slice (some ⟨w.heap.size,0,none⟩) l.length l.length):=by
 refine⟨[w.heap.size],⟨?_,by simp⟩,by simp,(B0 _ _).alloc _⟩
 unfold WB
 have hc:l.flatMap Ur=(l.map Value.string).map QD.v:=by
  induction l with
  |nil=>rfl
  |cons a l ih=>simp [Ur,ih (by simp at h;omega)]
 rw [hc,Yb]
 refine .inr ⟨w.heap.size,l.length,_,e,l.map Value.string,[],rfl,F0 _,h,heap_alloc_new w _,?_,by simp,Qt.plainN _ _,rfl⟩
 simp
 exact U1 (by simp)
theorem vt:(Tryz.prog.info? 54).map (fun i=>(i.zero,i.size,i.bytes))=some (some (.slice none 0 0),1,24):=by kernel_rfl
theorem vV (l:List ByteArray) (u:Value) (B:Nat) (w:World) (m:Int) (hm:w.cell? ⟨2,0,none⟩=some (.int .i64 m)) (hw: 2 <w.heap.size) (r:Rd w B (WB l) u) (hB:B<=w.heap.size) (hl:l.length<=1048576) (hs:∀s∈l,s.size<=1048575):
  Calls Tryz.prog 173 #[u] w (KW (QaF (l.map Um)) w):=by
 obtain⟨A,cap,rfl,h0,h1,hrow⟩:=YB r
 unfold maxLen at h1
 clear r
 go_enter Tryz.func173,Tryz.ntmps173
 go_wp2_with fail
 go_loopw [3,8] (fun v i wr=>∃(j:Nat) (A':Option Addr) (cap':Nat),j<=l.length/\i= .int .i64 j/\v= .slice A' j cap'/\Yo w wr 54 1 (.slice A' j cap') j (((l.take j).map Um).flatMap Jv)) (fun _ i _=>l.length-(intOf i).toNat)
 case atStart=>exact⟨0,none,0,I3 _,rfl,rfl,S8 w _ _ (B0 _ _)⟩
 case round=>
  obtain⟨j,A',cap',hj,rfl,rfl,hh⟩:=hrel
  have HA:=Qb hh
  have hcg:=hh.chg
  have hsz:=hcg.size
  have hmr:wr.cell? ⟨2,0,none⟩=some (.int .i64 m):=(hcg.cell (p:=⟨2,0,none⟩) hw (by simp)).trans hm
  clear hh
  by_cases hlt:j<l.length
  ·obtain⟨b,off,rfl,hb,q0⟩:=ZO (hrow.cz hcg hB) j hlt
   have hsj:=hs _ (I4 hlt)
   cases hz:(l[j].toList== [])
   ·have hr:Um l[j]=QG 32 l[j]:=by unfold Um;rw [if_neg (wM hz)]
    have hlen:=QcC l[j]
    have SP:=Tryz.strings_Split l[j] ⟨#[32]⟩ m wr (by omega) hmr (by decide)
    rw [Jt 32 _ _ rfl, <-hr] at SP
    have hcn:Lib.countB l[j] ⟨#[32]⟩+1=(Um l[j]).length:=by rw [hr, <-Jt 32 _ _ rfl,Lib.splitB_all _ (by decide) _ _ _ rfl]
    rw [hcn] at SP
    have SP:=Qb SP
    clear hr hcn
    go_wp2_with fail
    refine SP.out.mono ?_
    rintro e w2 ⟨rfl,hw2⟩
    have n2:=Qd9 wr (Um l[j]) 9 (by unfold maxLen;omega)
    rw [<-hw2] at n2
    have N2:=Qb n2
    have c2:=n2.chg
    have HW:=Qb hw2
    clear n2 hw2
    have nl:YW wr (w2.alloc (.cells #[.slice (some ⟨wr.heap.size,0,none⟩) (Um l[j]).length (Um l[j]).length] 54)) (Jv (Um l[j])) [.slice (some ⟨wr.heap.size,0,none⟩) (Um l[j]).length (Um l[j]).length]:=((N2.out.later ((B0 _ _).alloc _)).elim fun S x=>⟨S,Zm.one x.1,x.2⟩)
    have NLH:=Qb nl
    clear nl
    go_wp2_with (at_builtin;refine ZN rfl (.tmp 17) (.tmp 20) _ rfl 54 _ 1 24 Tryz.underlying57 vt rfl (by omega) HA.out (us:=[.slice (some ⟨wr.heap.size,0,none⟩) (Um l[j]).length (Um l[j]).length]) (dsE:=Jv (Um l[j])) NLH.out rfl w2.heap.size 1 rfl rfl (by intro i u hi;exact JF _ _ _ _ rfl (by simpa using hi)) (by intro u hu;simp at hu;subst hu;rfl) (by omega) (by omega) ?_;intro A2 cap2 w5 hA2)
    go_roundw
    case rel=>exact⟨j+1,A2,cap2,by omega,by go_num,by go_num,by rw [G6 hlt,J2,J0];simpa using hA2⟩
    case measure=>simp [intOf];omega
   ·have hr:Um l[j]=[]:=by unfold Um;rw [if_pos (QbZ hz)]
    have nl:YW wr (wr.alloc (.cells #[.slice none 0 0] 54)) (Jv (Um l[j])) [.slice none 0 0]:=by rw [hr];exact⟨[],Zm.cons_nil (T8 _),by simp,(B0 _ _).alloc _⟩
    have NLH:=Qb nl
    clear nl hr
    go_wp2_with (at_builtin;refine ZN rfl (.tmp 14) (.tmp 15) _ rfl 54 _ 1 24 Tryz.underlying57 vt rfl (by omega) HA.out (us:=[.slice none 0 0]) (dsE:=Jv (Um l[j])) NLH.out rfl wr.heap.size 1 rfl rfl (by intro i u hi;exact JF _ _ _ _ rfl (by simpa using hi)) (by intro u hu;simp at hu;subst hu;rfl) (by omega) (by omega) ?_;intro A2 cap2 w5 hA2)
    go_roundw
    case rel=>exact⟨j+1,A2,cap2,by omega,by go_num,by go_num,by rw [G6 hlt,J2,J0];simpa using hA2⟩
    case measure=>simp [intOf];omega
  ·obtain rfl:j=l.length:=by omega
   have HA2:=HA.out
   rw [I8] at HA2
   go_wp2_with fail
   go_ret
   exact⟨_,rfl,by have:=HA2.new;unfold QaF;rw [J8];exact this⟩
theorem zu (l:List Ql) (u:Value) (B:Nat) (w:World) (hl:yj l<=1048576) (hr:Rd w B (slots l) u) (hB:B<=w.heap.size):
  Calls Tryz.prog 174 #[u] w (KW (WB (YM l)) w):=by
 obtain⟨A,cap,rfl,h0,h1,hrow⟩:=Ja hr
 have hll:l.length<=1048576:=by unfold yj at hl;omega
 unfold maxLen at h1
 clear hr
 go_enter Tryz.func174,Tryz.ntmps174
 go_wp2_with fail
 go_loopw [3,8] (fun v i wr=>∃(k:Nat) (A':Option Addr) (cap':Nat),k<=l.length/\i= .int .i64 k/\v= .slice A' k cap'/\Yo w wr 9 1 (.slice A' k cap') k (((l.take k).map ZI).flatMap Ur)) (fun _ i _=>l.length-(intOf i).toNat)
 case atStart=>exact⟨0,_,0,I3 _,rfl,rfl,S8 w _ _ (B0 _ _)⟩
 case round=>
  obtain⟨k,A',cap',hk,rfl,rfl,hh⟩:=hrel
  by_cases hlt:k<l.length
  ·obtain⟨b,off,u4,u6,rfl,hb,q0,q1,q2,q3,q4,q5,q6,r4,r6⟩:=Kw (hrow.cz hh.chg hB) k hlt
   have hsz:=hh.chg.size
   have hwt:wn l[k].part<=xR l:=QbM (I4 hlt)
   have hrw:=Qe2 l[k].part
   have hll6:l[k].part.layers.length<=1048576:=by unfold wn xO at hwt;unfold yj at hl;omega
   have hrs:(QP l[k].part).length<=1073741824/\Zp (QP l[k].part)<=1073741824:=by unfold Qfo at hrw;unfold yj at hl;omega
   obtain⟨X4,xap4,rfl,_,_,_⟩:=QX r4
   obtain⟨X6,xap6,rfl,_,_,_⟩:=Xb r6
   clear hwt hrw
   by_cases hfull:l[k].full=true
   ·have hsh:ZI l[k]=Zx (QP l[k].part) ⟨#[32]⟩:=by unfold ZI;rw [if_pos hfull]
    go_wp2_with fail
    refine(zE l[k].part _ _ B _ hll6 (r6.cz ((B0 _ _).alloc _) (by omega)) (by simp;omega)).mono ?_
    intro e w1 G1;obtain⟨A1,cap1,rfl,n1⟩:=G1.sl
    have d1:Qc [] wr w1:=H0 ((B0 _ _).alloc _) n1.chg
    go_wp2_with fail
    refine(WE (QP l[k].part) ⟨#[32]⟩ _ _ _ hrs.1 (by decide) hrs.2 n1.rd (F0 _)).mono ?_
    rintro e w2 ⟨rfl,c2⟩
    have d2:Qc [] wr w2:=H0 d1 c2
    rw [<-hsh]
    go_wp2_with (at_builtin;refine ZN rfl (.tmp 14) (.tmp 19) _ rfl 9 _ 1 16 Tryz.underlying54 Yx rfl (by omega) hh (us:=[.string (ZI l[k])]) (dsE:=Ur (ZI l[k])) ⟨[],I2 (T8 _),by simp,d2.alloc _⟩ rfl w2.heap.size 1 rfl rfl (by intro j u hj;cases j with|zero=>cases hj;go_simp|succ j=>simp at hj) (by intro u hu;simp at hu;subst hu;rfl) (by omega) (by omega) ?_;intro A2 cap2 w3 hA2)
    go_roundw
    case rel=>exact⟨k+1,A2,cap2,by omega,by go_num,by go_num,by rw [G6 hlt,J2,J0];simpa using hA2⟩
    case measure=>simp [intOf];omega
   ·have hsh:ZI l[k]=⟨#[]⟩:=by unfold ZI;rw [if_neg hfull]
    have hff:l[k].full=false:=by simpa using hfull
    have hemp:({data:= #[] }:ByteArray)=ZI l[k]:=hsh.symm
    have HE:=Qb hemp
    clear hsh hemp hfull
    go_wp2_with (at_builtin;refine ZN rfl (.tmp 21) (.tmp 22) _ rfl 9 _ 1 16 Tryz.underlying54 Yx rfl (by omega) hh (us:=[.string ⟨#[]⟩]) (dsE:=Ur ⟨#[]⟩) ⟨[],I2 (T8 _),by simp,((B0 _ _).alloc _).alloc _⟩ rfl (wr.heap.size+1) 1 rfl rfl (by intro j u hj;cases j with|zero=>cases hj;go_simp|succ j=>simp at hj) (by intro u hu;simp at hu;subst hu;rfl) (by omega) (by omega) ?_;intro A2 cap2 w3 hA2)
    go_roundw
    case rel=>
     rw [HE.out] at hA2
     exact⟨k+1,A2,cap2,by omega,by go_num,by go_num,by rw [G6 hlt,J2,J0];simpa using hA2⟩
    case measure=>simp [intOf];omega
  ·obtain rfl:k=l.length:=by omega
   rw [I8] at hh
   go_wp2_with fail
   go_ret
   exact⟨_,rfl,by have:=hh.new;unfold WB YM;rw [J8];exact this⟩
theorem ZU.strs3 {w:World} {b:Nat} {s1 s2 s3:ByteArray} (h:ZU w b [.string s1,.string s2,.string s3]):Rd w w.heap.size (WB [s1,s2,s3]) (.slice (some ⟨b,0,none⟩) 3 3):=by
 obtain⟨h0,h1,h2⟩:=h.o3
 unfold WB
 rw [Rd]
 refine⟨some ⟨b,0,none⟩,3,rfl,by simp,by unfold maxLen;omega,.inr ⟨b,0,rfl,h.lt,?_⟩⟩
 rw [Jr]
 intro j d hd
 match j,hd with
 |0,hd=>cases hd;exact⟨_,h0,by rw [Rd]⟩
 |1,hd=>cases hd;exact⟨_,h1,by rw [Rd]⟩
 |2,hd=>cases hd;exact⟨_,h2,by rw [Rd]⟩
 |j+3,hd=>simp [Ur] at hd
theorem Qgd {W:World} {x B cap:Nat} {u0 u1 u2:Value} {t1 t2 t3:ByteArray} {A:Option Addr} (hb:ZU W x [u0,u1,u2]) (hr:Rd W B (WB [t1,t2,t3]) (.slice A 3 cap)) (ty:TypeId):
  (Builtin.copy_ #[54,54] ty #[.slice (some ⟨x,0,none⟩) 3 3,.slice A 3 cap]).run Tryz.prog W= .ok (goInt 3) (((W.setCell ⟨x,0,none⟩ (.string t1)).setCell ⟨x,1,none⟩ (.string t2)).setCell ⟨x,2,none⟩ (.string t3)):=by
 obtain⟨A',cap',e,_,_,hrow⟩:=YB hr
 obtain⟨rfl,rfl⟩:A=A'/\cap=cap':=by injection e with h1 _ h2;exact⟨h1,h2⟩
 obtain⟨b,off,rfl,_,c0⟩:=ZO hrow 0 (by simp)
 obtain⟨b',off',e1,_,c1⟩:=ZO hrow 1 (by simp)
 obtain⟨b'',off'',e2,_,c2⟩:=ZO hrow 2 (by simp)
 obtain⟨rfl,rfl⟩:b=b'/\off=off':=by injection e1 with e1;injection e1 with h1 h2;exact⟨h1,h2⟩
 obtain⟨rfl,rfl⟩:b=b''/\off=off'':=by injection e2 with e2;injection e2 with h1 h2;exact⟨h1,h2⟩
 obtain⟨h0,h1,h2⟩:=hb.o3
 have hu:Tryz.prog.underlying 54=some (.slice 9):=by kernel_rfl
 have hs:(Tryz.prog.info? 9).map (·.size)=some 1:=by kernel_rfl
 refine run_copy_cells W 54 54 ty 9 x 0 3 3 ⟨b,off,none⟩ 3 cap [.string t1,.string t2,.string t3] hu hs rfl (fun j v hv=>?_) (fun j hj=>?_) (fun j _=>hb.f _) (fun v hv=>?_)
 ·match j,hv with
  |0,hv=>cases hv;simpa [Addr.add] using c0
  |1,hv=>cases hv;simpa [Addr.add] using c1
  |2,hv=>cases hv;simpa [Addr.add] using c2
  |j+3,hv=>simp at hv
 ·have hj3:j<3:=hj
  rcases(show j=0∨j=1∨j=2 by omega) with rfl|rfl|rfl
  ·rw [h0];rfl
  ·rw [h1];rfl
  ·rw [h2];rfl
 ·simp only [C7,F1,or_false] at hv
  rcases hv with rfl|rfl|rfl<;>rfl
theorem Qbw {w w':World} {l:List Ql} {A:Option Addr} {cap n:Nat} (h:qt w w' (slots l) (.slice A n cap)) (hn:n=l.length) (h3:l.length=3):∃g S,A=some ⟨g,0,none⟩/\Yp w' (slots l) (.slice (some ⟨g,0,none⟩) 3 cap) S/\(∀x,x∈S->w.heap.size<=x)/\Qc [] w w':=by
 subst hn
 obtain⟨g,cap',S,e,hh,hS,hc⟩:=QeA h3 (e:=.returned (.slice A l.length cap)) ⟨_,rfl,h⟩
 injection e with e
 injection e with e1 _ e2
 subst e1 e2
 exact⟨g,S,rfl,hh,hS,hc⟩
theorem kX (AT:Int->Option Qa) (SB:Nat->Prop) (B xp bs:Nat) (a:Qa) (h8:a.op≠8) (h9:a.op≠9) (h10:a.op≠10):QcV AT SB B xp bs a:=by
 rintro place b off ⟨s1,s2,s4⟩ T w hX hAct hfit hok hp0 hp1 hcost hW hs
 unfold QW
 have e8:(a.op==8)=false:=by simpa using h8
 have e9:(a.op==9)=false:=by simpa using h9
 have e10:(a.op==10)=false:=by simpa using h10
 obtain⟨uA,uB,hSB,lb,cs,lA,lB⟩:=id hAct
 have op0:=cs.1
 have cs:=Qb cs
 go_enter Tryz.func136,Tryz.ntmps136
 have hm:=UU Tryz.prog
 have hu:Tryz.prog.underlying 70=some (.map 82 25):=by kernel_rfl
 have hu2:Tryz.prog.underlying 71=some (.map 84 25):=by kernel_rfl
 have hu3:Tryz.prog.underlying 72=some (.map 3 25):=by kernel_rfl
 obtain⟨x7,hx7⟩:∃x7,w.heap.size=x7:=⟨_,rfl⟩
 have NO:=Qb (fun W=>Wq W)
 go_upto_region 2 with (first|(go_at_call 97;refine(NO.out _).mono ?_;rintro e w1 ⟨b1,b2,b3,rfl,⟨m1,m2,m3,m4⟩,c1,k1,k2,k3⟩)|fail)
 refine Qp fun w2 hw2=>?_
 have cA:Qc [] w w1:=(show Qc [] w _ from C6).tz c1
 have c2:Qc [] w w2:=by rw [hw2];exact cA.alloc _
 obtain⟨x9,hx9⟩:∃x9,w1.heap.size=x9:=⟨_,rfl⟩
 have e12:Qc [] w1 w2:=by rw [hw2];exact C6
 have s12:w2.heap.size=x9+1:=by rw [hw2, <-hx9];simp
 have b9:b1<x9/\b2<x9/\b3<x9:=by omega
 have hpl:place<=999:=by have:=a.size_eq;omega
 have m0:x7+2<=b1:=by have:=m1;first|omega|(simp [hx7] at this;omega)
 have E7:ZU w2 x7 [.string s1,.string s2,.string s4]:=by rw [hw2, <-hx7];exact(((L9 w _ _).alloc _).keep c1).alloc _
 have E8:ZU w2 (x7+1) [.map none,.map none,.map none]:=by rw [hw2, <-hx7];exact((ZU.newAt (w.alloc _) _ _).keep c1).alloc _
 have K8:Kd w2 (x7+1) 74:=by rw [hw2, <-hx7];exact((Y3 (w.alloc _) _ _).keep c1).alloc _
 have E9:ZU w2 x9 [.map (some b1),.map (some b2),.map (some b3)]:=by rw [hw2, <-hx9];exact L9 w1 _ _
 have K9:Kd w2 x9 74:=by rw [hw2, <-hx9];exact Y3 w1 _ _
 have k1:=fun X hX=>(k1 X hX).keep e12 C0 (by simp)
 have k2:=fun X hX=>(k2 X hX).keep e12 C0 (by simp)
 have k3:=fun X hX=>(k3 X hX).keep e12 C0 (by simp)
 clear hw2 NO
 rw [hx9]
 have l7:=E7.lt
 have l8:=E8.lt
 have l9:=E9.lt
 obtain⟨T1,hT1⟩:∃T1,Hid (T1=[x7+1,x9,b1,b2,b3] ++T):=⟨_,Qb rfl⟩
 have wl:=hX.memo.lt
 have X2:Wz AT SB B w2 xp bs T1:=hX.more c2 (fun y hy=>by
  rw [hT1.out] at hy
  simp only [C7,F4,F1,or_false] at hy
  rcases hy with (rfl|rfl|rfl|rfl|rfl)|hy
  all_goals first|exact .inl hy|exact .inr (by omega))
 have act2:=hAct.keep c2 hX.sb (by simp)
 have lA2:=lA.keep c2 hX.sb (by simp)
 have lB2:=lB.keep c2 hX.sb (by simp)
 have cs2:=Qb (fun(o:Nat) (u:Value) (h:w.cell? ⟨b,o,none⟩=some u)=>(c2.cell (p:=⟨b,o,none⟩) lb (by simp)).trans h)
 have op2:=cs2.out _ _ op0
 have lb2:=F6 lb c2.size
 have hTl:=fun y hy=>(hX.low.2.2 y hy).2
 have sbl:=hX.sb
 have hsh:=Qb hs
 clear hs cA e12 c1 m1 m4 op0 hAct lA lB hX
 obtain⟨mx,hmx⟩:=X2.env.env.max
 have RO:=Qb (fun(u:Value) (W:World) (hc:Qc [] w2 W) (r:Rd W W.heap.size (WB [s1,s2,s4]) u)=>vV [s1,s2,s4] u W.heap.size W mx ((hc.cell (p:=⟨2,0,none⟩) (Qk hmx) (by simp)).trans hmx) (F6 (Qk hmx) hc.size) r (F0 _) (by simp) (fun s hs=>by
  have h1:=hsh.out
  simp only [C7,F1,or_false] at hs
  rcases hs with rfl|rfl|rfl
  ·have:=Uc h1.1;simp only [Vz] at this;omega
  ·have:=Uc h1.2.1;simp only [Vz] at this;omega
  ·have:=Uc h1.2.2;simp only [Vz] at this;omega))
 clear hmx
 have o7:=E7.o3
 have f7:=E7.f
 have R7:=Qb (RO.out _ w2 (B0 _ _) E7.strs3)
 have hfo:Gx ([s1,s2,s4].map Um):=(uq _).2 ⟨rfl,fun k hk=>by
  have h1:=hsh.out
  have hk3:k<3:=hk
  rcases(show k=0∨k=1∨k=2 by omega) with rfl|rfl|rfl
  ·exact h1.1
  ·exact h1.2.1
  ·exact h1.2.2⟩
 have FS:=Qb (fun(u:Value) (W:World) (r:Rd W W.heap.size (QaF ([s1,s2,s4].map Um)) u)=>qM ([s1,s2,s4].map Um) u W.heap.size W (by simp) (fun x hx=>by
  have h1:=hsh.out
  simp only [I9,O2,C7,F1,or_false] at hx
  have hz:∀s:ByteArray,W8 s->(Um s).length<=1048576:=fun s h=>by have h2:=QcC s;have h3:=Uc h;omega
  rcases hx with rfl|rfl|rfl
  ·exact hz _ h1.1
  ·exact hz _ h1.2.1
  ·exact hz _ h1.2.2) r (F0 _))
 rw [vg hfo] at FS
 have hl0:JB ([s1,s2,s4].map Um)=Yj (Vz (s1,s2,s4)):=rfl
 rw [hl0] at FS
 obtain⟨l0,hl00⟩:∃l0,l0=Yj (Vz (s1,s2,s4)):=⟨_,rfl⟩
 rw [<-hl00] at FS
 have hl0h:=Qb hl00
 clear hl00 hl0 hfo
 have hl3:l0.length=3:=by rw [hl0h.out];rfl
 have hl3h:=Qb hl3
 clear hl3
 go_upto_region 63 with (first|(go_at_call 173;refine R7.out.mono ?_;intro e w3 G1;obtain⟨u1,rfl,n1⟩:=G1;have c3:=n1.chg;have FS1:=Qb (FS.out u1 w3 n1.rd);clear n1)|(go_at_call 30;refine FS1.out.mono ?_;rintro e w4 ⟨A2,p2,rfl,n2⟩;have n2h:=Qb n2;clear n2)|fail)
 obtain⟨gs,S,rfl,hS,lowS,c4⟩:=Qbw n2h.out rfl hl3h.out
 rw [hl3h.out]
 have c24:Qc [] w2 w4:=c3.tz c4
 obtain⟨x36,hx36⟩:∃x36,w4.heap.size=x36:=⟨_,rfl⟩
 have wsz:w2.heap.size<=w3.heap.size:=c3.size
 have wsz4:w3.heap.size<=w4.heap.size:=c4.size
 clear n2h FS1 FS R7 RO
 go_upto_region 64 with fail
 refine Qp fun w5 hw5=>?_
 have c45:Qc [] w4 w5:=by rw [hw5];exact C6
 have B36:ZU w5 x36 [.slice (some ⟨gs,0,none⟩) 3 p2,.slice none 0 0,.int .i64 0]:=by rw [hw5, <-hx36];exact L9 w4 _ _
 clear hw5
 try rw [hx36]
 have l36:=B36.lt
 have rb:RB w5 x36 gs p2 (.slice none 0 0) l0 0 S:=⟨B36.o3.1,B36.o3.2.1,B36.o3.2.2,B36.f _,hS.kz c45,hl3h.out,fun h=>by have:=hS.lt _ h;omega⟩
 have env5:YO w2.heap.size w5:=(YO.of X2.env.env).keep (c24.tz c45) (by simp) (F0 _)
 have c25:=c24.tz c45
 have rn:Rd w5 w2.heap.size (xE []) (.slice none 0 0):=by unfold xE;rw [Rd];exact⟨none,0,rfl,by simp,by unfold maxLen;omega,.inl rfl⟩
 have ON:=Qb (Qcp a (wF a.A) (wF a.B) uA uB place x36 gs p2 (.slice none 0 0) [] l0 0 S w5 w2.heap.size hok hW (by rw [hl0h.out];exact GS hsh.out) rb (lA2.rd.cz c25 (F0 _)) (lB2.rd.cz c25 (F0 _)) ⟨env5,c25.size,rn⟩ (fun y hy=>by rcases C7.1 hy with rfl|hy;omega;have:=lowS y hy;omega) hp0 hp1 (by omega) (by omega))
 rw [GM h8 h9 h10] at ON
 obtain⟨st,hst⟩:∃st,st=ZF a place ⟨l0,0⟩:=⟨_,rfl⟩
 rw [<-hst] at ON
 have hsth:=Qb hst
 clear hst
 have cy:=cs.out
 have cx5:=fun o=>((c2.tz c24).tz c45).cell (p:=⟨b,o,none⟩) lb (by simp)
 simp only [<-cx5] at cy
 clear cx5 cs cs2 op2 act2
 have lb5:=F6 lb2 c25.size
 go_upto_region 65 with (first|(go_at_call 73;refine ON.out.mono ?_;rintro e w6 ⟨S',rfl,rb6,lowS6,c6⟩)|fail)
 refine Qp fun w7 hw7=>?_
 obtain⟨x37,hx37⟩:∃x37,w6.heap.size=x37:=⟨_,rfl⟩
 have c67:Qc [] w6 w7:=by rw [hw7];exact C6
 have B37:ZU w7 x37 [.int .i64 st.2.code,.int .i64 st.2.place,.int .i64 st.2.want,.int .i64 st.2.had]:=by rw [hw7, <-hx37];exact L9 w6 _ _
 have z67:w7.heap.size=x37+1:=by rw [hw7, <-hx37];simp
 clear hw7
 try rw [hx37]
 have c26:Qc [] w2 w6:=c25.trans c6 (fun y hy=>.inr (by rcases C7.1 hy with rfl|hy;omega;have:=lowS y hy;omega))
 have c27:=c26.tz c67
 have rb7:=rb6.kz c67
 have s6:=c26.size
 have s27:=c27.size
 clear ON env5 rn rb6 B36 rb c6 cy hS
 go_upto_region 66 with fail
 refine Qp fun w8 hw8=>?_
 have c78:Qc [] w7 w8:=by rw [hw8];exact C6
 have B39:ZU w8 (x37+1) [.string ⟨#[]⟩,.string ⟨#[]⟩,.string ⟨#[]⟩]:=by rw [hw8, <-z67];exact L9 w7 _ _
 clear hw8
 try rw [z67]
 have c28:=c27.tz c78
 have rb8:=rb7.kz c78
 have G37:=B37.keep c78
 have s28:=c28.size
 have l39:=B39.lt
 have hsim:=vd a ((a.ok_iff.1 hok).1) place h8 h9 h10 (Vz (s1,s2,s4)) hsh.out 0
 rw [<-hl0h.out, <-hsth.out] at hsim
 obtain⟨⟨t1,t2,t3⟩,hone⟩:∃k:B3,(YX a place (Vz (s1,s2,s4))).1=Vz k:=Ul _
 have hshp:YM st.1.slots=[t1,t2,t3]:=by rw [hsim.1,hone];rfl
 have hst2:st.2=(YX a place (Vz (s1,s2,s4))).2:=hsim.2
 have hso:QH st.1.slots:=by have h:=Qek [] a hok place ⟨l0,0⟩ (by rw [hl0h.out];exact GS hsh.out);rw [GM h8 h9 h10, <-hsth.out] at h;exact h
 have SH:=Qb (fun(W:World) (hc:Qc [] w8 W)=>zu st.1.slots (.slice (some ⟨gs,0,none⟩) 3 p2) W.heap.size W (Qfu hso) (rb8.hs.kz hc).rd (F0 _))
 rw [hshp] at SH
 have hsimh:=Qb hst2
 have honeh:=Qb hone
 clear hsim hshp hst2 hone hso c67 c78 rb7 B37 hfit hcost hW hp1
 have rb8h:=Qb rb8
 clear rb8
 refine Ze (b:=⟨#[],[]⟩) 4 [260,261,262,263] (JR [(0,260),(1,261),(2,262)] [.slice (some ⟨x37+1,0,none⟩) 3 3,.pointer (some ⟨x36,0,none⟩),.slice (some ⟨gs,0,none⟩) 3 p2] [(3,263)] [fun W u=>∃A p,u= .slice A 3 p/\Rd W W.heap.size (WB [t1,t2,t3]) (.slice A 3 p)] none [] w8) (by kernel_rfl) (XN _ _) (by kernel_rfl) (by kernel_rfl) (by kernel_rfl) (JR.zero (by decide) (by decide)) ?_ ?_
 ·refine⟨.inr ?_,.inr ?_,.inr ?_,.inr ?_,.inl rfl,trivial⟩
  ·rintro d v W- -p H K hK
   simp only [z1,z2,z4,z5,z6] at hK ⊢
   go_simp
   exact hK.out _ _ (H.put 0 rfl rfl)
  ·rintro d v W- -p H K hK
   simp only [z1,z2,z4,z5,z6] at hK ⊢
   go_simp
   exact hK.out _ _ (H.put 1 rfl rfl)
  ·rintro d v W- -p H K hK
   have e1:=H.val 1 _ _ _ rfl rfl (Qh p 1)
   have q0:=(rb8h.out.kz H.chg).c0
   simp only [z1,z2,z4,z5,z6,e1] at hK ⊢
   go_simp
   exact hK.out _ _ (H.put 2 rfl rfl)
  ·intro d v W hC hd p H K hK
   have e2:=H.val 2 _ _ _ rfl rfl (Qh p 2)
   have g:=H.chg
   simp only [z1,z2,z4,z5,z6,e2] at hK ⊢
   go_simp
   go_at_call 174
   refine(SH.out W g).mono ?_
   intro e W2 G2
   obtain⟨A,p,rfl,n2⟩:=KW.sl G2
   have c2:=n2.chg
   have hP:∃A p,_=Value.slice A 3 p/\Rd W2 W2.heap.size (WB [t1,t2,t3]) (.slice A 3 p):=⟨A,p,rfl,n2.rd⟩
   dsimp only
   exact hK.out _ _ (H.n1 _ hP (.inr c2) (H.chg.tz c2))
 ·refine⟨_,rfl,fun v W H K hK=>?_⟩
  have e0:=H.val 0 _ _ _ rfl rfl (by decide)
  have e1:=H.val 1 _ _ _ rfl rfl (by decide)
  have e2:=H.val 2 _ _ _ rfl rfl (by decide)
  have P3:=H.prop 0 _ _ _ rfl rfl (by decide)
  have CHW:=H.chg
  clear H
  simp only [z1,z2,z4,z5,e0,e1,e2]
  obtain⟨A,p,e3,hrd⟩:=P3
  rw [e3]
  have hcp:=Qgd (B39.keep CHW) hrd
  go_simp
  refine hK.out _ _ ?_
  have cp:=Xz W (x37+1) (.string t1) (.string t2) (.string t3)
  have D39:=(B39.keep CHW).put3 rfl (.string t1) (.string t2) (.string t3)
  have c29:=(c28.tz CHW).trans cp (fun y hy=>.inr (by rw [E0.1 hy];omega))
  have D37:=(G37.keep CHW).kp cp
  obtain⟨w9,hw9⟩:∃w9,(((W.setCell ⟨x37+1,0,none⟩ (.string t1)).setCell ⟨x37+1,1,none⟩ (.string t2)).setCell ⟨x37+1,2,none⟩ (.string t3))=w9:=⟨_,rfl⟩
  rw [hw9] at D39 c29 D37 ⊢
  clear hw9 cp hcp hrd CHW SH rb8h B39 G37 e0 e1 e2 c28
  have XW:=X2.kz c29
  have D9:=E9.keep c29
  have D8:=E8.keep c29
  have M8:=K8.keep c29
  have o9:=D9.o3
  have p9:=D9.f
  have o39:=D39.o3
  have p39:=D39.f
  have o37:=D37.o4
  have p37:=D37.f
  have ex:a.ex Qs place=Qs a place:=by rw [Qa.ex_eq,if_neg h8,if_neg h9,if_neg h10]
  obtain⟨EA,hEA,nA⟩:=(k1 (fun _ _=>False) (fun _ _ h=>h)).empty
  obtain⟨EB,hEB,nB⟩:=(k2 (fun _ _=>False) (fun _ _ h=>h)).empty
  obtain⟨EC,hEC,nC⟩:=(k3 (fun _ _=>False) (fun _ _ h=>h)).empty
  have hEA:=hEA.chg c29 (by simp)
  have hEB:=hEB.chg c29 (by simp)
  have hEC:=hEC.chg c29 (by simp)
  have cw9:=c2.tz c29
  have ho1:YX a place (Vz (s1,s2,s4))=(Vz (t1,t2,t3),st.2):=Prod.ext honeh.out hsimh.out.symm
  have hend:st.2.code=0->st.2=QJ:=fun h=>by have h1:=ko [] a place ⟨l0,0⟩ (by rw [GM h8 h9 h10, <-hsth.out];exact h);rw [GM h8 h9 h10, <-hsth.out] at h1;exact h1
  have hkt:Uu (.agg #[.string t1,.string t2,.string t3]):=Qb8 (s:=(t1,t2,t3)) (by have h:=QcO a ((a.ok_iff.1 hok).1) place h8 h9 h10 (Vz (s1,s2,s4)) hsh.out;rw [ho1] at h;exact h)
  have hw9l:w2.heap.size<=w9.heap.size:=c29.size
  by_cases hA:st.2.code=0
  ·have d0:decide (st.2.code=0)=true:=by simpa using hA
   obtain⟨q1,q2,q3⟩:=Qda ho1 (hend hA)
   have G2:=(k2 _ q2).keep c29 C0 (by simp)
   have G3:=(k3 _ q3).keep c29 C0 (by simp)
   have hq1:=Qb q1
   clear q1 q2 q3 k1 k2 k3 hend d0
   go_upto_region 72 with (first|(at_mapUpdate;refine YE rfl (.tmp 272) (.tmp 273) (.const (.slice none 0 0)) _ rfl Vo trivial hu rfl hEA (key:=QW (t1,t2,t3)) (val:=.slice none 0 0) rfl rfl hkt ?_;intro w10 E10 hE10 d10 z10 hm10)|fail)
   have nb:Qm w9 [b1]:=F7 hEA.nz C0
   have hoW:XH w10 b1 b2 b3 (a.ex Qs place) (s1,s2,s4):=by rw [ex];exact⟨(Qx.stored1 nA hE10 hm10 (Zn.nil w10 none (I3 _))).congr (fun k i=>(hq1.out k i).symm),G2.keep d10 nb,G3.keep d10 nb⟩
   have XW:=XW.keep d10 nb (fun y hy=>.inl (by rw [E0.1 hy,hT1.out];simp))
   have D9:=D9.kp d10
   have D8:=D8.kp d10
   have M8:=M8.kp d10
   have czW:Qc [bs] w w10:=(cw9.trans d10 (fun y hy=>.inr (by rw [E0.1 hy];omega))).mono (by simp)
   clear o9 p9
   have o9:=D9.o3
   have p9:=D9.f
   have q8:=D8.o3
   have r8:=D8.f
   have cp2:=Xz w10 (x7+1) (.map (some b1)) (.map (some b2)) (.map (some b3))
   have n2x:Qm w10 [x7+1]:=F7 M8.nz C0
   have B8:=D8.put3 rfl (.map (some b1)) (.map (some b2)) (.map (some b3))
   have X9:=XW.keep cp2 n2x (fun y hy=>.inl (by rw [E0.1 hy,hT1.out];simp))
   have ho9:=hoW.keep cp2 n2x
   have cz:=(czW.trans cp2 (fun y hy=>.inr (by rw [E0.1 hy];omega)))
   go_wp2_with fail
   have z8:=B8.o3
   have y8:=B8.f
   refine bodyPost_ret (v:=.agg #[.map (some b1),.map (some b2),.map (some b3)]) (by simp only [results,Tryz.results136];go_simp) rfl ?_
   refine⟨b1,b2,b3,rfl,ho9,fun y hy=>?_,X9.less (fun y hy=>by rw [hT1.out];simp [hy]),cz⟩
   simp only [C7,F1,or_false] at hy
   rcases hy with rfl|rfl|rfl<;>exact⟨fun h=>by have:=hTl _ h;omega,by omega⟩
  ·have d0:decide (st.2.code=0)=false:=by simpa using hA
   have hne:(YX a place (Vz (s1,s2,s4))).2≠QJ:=fun h=>hA (by rw [hsimh.out,h];rfl)
   obtain⟨hs1,hc12,hsm1,hsm2,hsm3⟩:=Qbl ((a.ok_iff.1 hok).1) place ⟨hp0,by omega⟩ (Vz (s1,s2,s4)) hsh.out hne
   rw [<-hsimh.out] at hc12 hsm1 hsm2 hsm3
   have hne2:st.2≠QJ:=by rw [hsimh.out];exact hne
   by_cases hB:st.2.code=1
   ·have d1:(st.2.code==1)=true:=by simpa using hB
    obtain⟨q1,q2,q3⟩:=QdL ho1 hB
    have G1:=(k1 _ q1).keep c29 C0 (by simp)
    have G3:=(k3 _ q3).keep c29 C0 (by simp)
    have hq2:=Qb q2
    obtain⟨zt,ht1,ht2,ht3⟩:=hkt
    obtain rfl:=Xw (show QW (t1,t2,t3)=QW zt from ht1)
    have hkf:zS (.agg #[.int .i64 st.2.place,.int .i64 st.2.want,.int .i64 st.2.had,.string t1,.string t2,.string t3]):=⟨((st.2.place,st.2.want,st.2.had),t1,t2,t3),rfl,hsm1,hsm2,hsm3,ht2,ht3.1,ht3.2⟩
    clear q1 q2 q3 k1 k2 k3 hend d0 d1 hc12 hsm1 hsm2 hsm3 hs1 hne hne2 ht1 ht2 ht3
    go_upto_region 72 with (first|(at_mapUpdate;refine YE rfl (.tmp 279) (.tmp 288) (.const (.slice none 0 0)) _ rfl Km trivial hu2 rfl hEB (key:=YN ((st.2.place,st.2.want,st.2.had),t1,t2,t3)) (val:=.slice none 0 0) rfl rfl hkf ?_;intro w10 E10 hE10 d10 z10 hm10)|fail)
    have nb:Qm w9 [b2]:=F7 hEB.nz C0
    have hoW:XH w10 b1 b2 b3 (a.ex Qs place) (s1,s2,s4):=by rw [ex];exact⟨G1.keep d10 nb,(Qx.stored1 nB hE10 hm10 (Zn.nil w10 none (I3 _))).congr (fun k i=>(hq2.out k i).symm),G3.keep d10 nb⟩
    have XW:=XW.keep d10 nb (fun y hy=>.inl (by rw [E0.1 hy,hT1.out];simp))
    have D9:=D9.kp d10
    have D8:=D8.kp d10
    have M8:=M8.kp d10
    have czW:Qc [bs] w w10:=(cw9.trans d10 (fun y hy=>.inr (by rw [E0.1 hy];omega))).mono (by simp)
    clear o9 p9
    have o9:=D9.o3
    have p9:=D9.f
    have q8:=D8.o3
    have r8:=D8.f
    have cp2:=Xz w10 (x7+1) (.map (some b1)) (.map (some b2)) (.map (some b3))
    have n2x:Qm w10 [x7+1]:=F7 M8.nz C0
    have B8:=D8.put3 rfl (.map (some b1)) (.map (some b2)) (.map (some b3))
    have X9:=XW.keep cp2 n2x (fun y hy=>.inl (by rw [E0.1 hy,hT1.out];simp))
    have ho9:=hoW.keep cp2 n2x
    have cz:=(czW.trans cp2 (fun y hy=>.inr (by rw [E0.1 hy];omega)))
    go_wp2_with fail
    have z8:=B8.o3
    have y8:=B8.f
    refine bodyPost_ret (v:=.agg #[.map (some b1),.map (some b2),.map (some b3)]) (by simp only [results,Tryz.results136];go_simp) rfl ?_
    refine⟨b1,b2,b3,rfl,ho9,fun y hy=>?_,X9.less (fun y hy=>by rw [hT1.out];simp [hy]),cz⟩
    simp only [C7,F1,or_false] at hy
    rcases hy with rfl|rfl|rfl<;>exact⟨fun h=>by have:=hTl _ h;omega,by omega⟩
   ·have d1:(st.2.code==1)=false:=by simpa using hB
    obtain⟨q1,q2,q3⟩:=Qdg ho1 hB hne2
    have G1:=(k1 _ q1).keep c29 C0 (by simp)
    have G2:=(k2 _ q2).keep c29 C0 (by simp)
    have hq3:=Qb q3
    have hki:zX (.int .i64 st.2.place):=⟨st.2.place,rfl,hsm1⟩
    clear q1 q2 q3 k1 k2 k3 hend d0 d1 hc12 hsm1 hsm2 hsm3 hs1 hne hne2
    go_upto_region 72 with (first|(at_mapUpdate;refine YE rfl (.tmp 266) (.tmp 268) (.const (.slice none 0 0)) _ rfl zF trivial hu3 rfl hEC (key:=Wi st.2.place) (val:=.slice none 0 0) rfl rfl hki ?_;intro w10 E10 hE10 d10 z10 hm10)|fail)
    have nb:Qm w9 [b3]:=F7 hEC.nz C0
    have hoW:XH w10 b1 b2 b3 (a.ex Qs place) (s1,s2,s4):=by rw [ex];exact⟨G1.keep d10 nb,G2.keep d10 nb,(Qx.stored1 nC hE10 hm10 (Zn.nil w10 none (I3 _))).congr (fun k i=>(hq3.out k i).symm)⟩
    have XW:=XW.keep d10 nb (fun y hy=>.inl (by rw [E0.1 hy,hT1.out];simp))
    have D9:=D9.kp d10
    have D8:=D8.kp d10
    have M8:=M8.kp d10
    have czW:Qc [bs] w w10:=(cw9.trans d10 (fun y hy=>.inr (by rw [E0.1 hy];omega))).mono (by simp)
    clear o9 p9
    have o9:=D9.o3
    have p9:=D9.f
    have q8:=D8.o3
    have r8:=D8.f
    have cp2:=Xz w10 (x7+1) (.map (some b1)) (.map (some b2)) (.map (some b3))
    have n2x:Qm w10 [x7+1]:=F7 M8.nz C0
    have B8:=D8.put3 rfl (.map (some b1)) (.map (some b2)) (.map (some b3))
    have X9:=XW.keep cp2 n2x (fun y hy=>.inl (by rw [E0.1 hy,hT1.out];simp))
    have ho9:=hoW.keep cp2 n2x
    have cz:=(czW.trans cp2 (fun y hy=>.inr (by rw [E0.1 hy];omega)))
    go_wp2_with fail
    have z8:=B8.o3
    have y8:=B8.f
    refine bodyPost_ret (v:=.agg #[.map (some b1),.map (some b2),.map (some b3)]) (by simp only [results,Tryz.results136];go_simp) rfl ?_
    refine⟨b1,b2,b3,rfl,ho9,fun y hy=>?_,X9.less (fun y hy=>by rw [hT1.out];simp [hy]),cz⟩
    simp only [C7,F1,or_false] at hy
    rcases hy with rfl|rfl|rfl<;>exact⟨fun h=>by have:=hTl _ h;omega,by omega⟩
end Go.Proofs.YtjeadhmkghnkkaaGreatDoor
