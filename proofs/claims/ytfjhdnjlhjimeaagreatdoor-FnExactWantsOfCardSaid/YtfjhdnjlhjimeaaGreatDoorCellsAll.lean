/- strings. Conditions: as stated. -/
import Derived.Test.YtfjhdnjlhjimeaaGreatDoorTexts
import Derived.Test.YtfjhdnjlhjimeaaGreatDoorNumsAll
import Derived.Test.YtfjhdnjlhjimeaaGreatDoorShSplit
import Derived.Test.YtfjhdnjlhjimeaaGreatDoorMeths
import Derived.Lib.Split
import Derived.Lib.SplitLaws
set_option maxRecDepth 100000
set_option maxHeartbeats 4000000
namespace Go.Proofs.YtfjhdnjlhjimeaaGreatDoor
open Go.RowKit

theorem Gf (c:UInt8):∀(l cur:List UInt8),(Lib.index l [c]= -1->Zw c cur l=[cur++l])/\∀i:Nat,Lib.index l [c]=i->Zw c cur l=(cur++l.take i)::Zw c [] (l.drop (i+1))
 | [],cur=>by
  have h0:Lib.index [] [c]= -1:=rfl
  refine⟨fun _=>by simp [Zw],fun i hi=>?_⟩
  rw [h0] at hi
  omega
 | b::l,cur=>by
  by_cases hb:b=c
  ·subst hb
   have h0:Lib.index (b::l) [b]=0:=by unfold Lib.index;rw [if_pos (by simp)]
   refine⟨fun h=>by rw [h0] at h;omega,fun i hi=>?_⟩
   rw [h0] at hi
   obtain rfl:i=0:=by omega
   rw [Zw,if_pos rfl]
   simp
  ·have hp:([c].isPrefixOf (b::l))=false:=by
    show(c==b&&List.isPrefixOf [] l)=false
    rw [beq_eq_false_iff_ne.2 (fun e=>hb e.symm)]
    rfl
   have ih:=Gf c l (cur++ [b])
   have hs:Zw c cur (b::l)=Zw c (cur++ [b]) l:=by rw [Zw,if_neg hb]
   by_cases hm:Lib.index l [c]= -1
   ·have h0:Lib.index (b::l) [c]= -1:=by unfold Lib.index;rw [hp,hm];rfl
    refine⟨fun _=>by rw [hs,ih.1 hm];simp,fun i hi=>?_⟩
    rw [h0] at hi
    omega
   ·have h0:Lib.index (b::l) [c]=Lib.index l [c] +1:=by
     conv=>lhs;unfold Lib.index
     rw [hp]
     simp [hm]
    have hge:=Lib.index_ge l [c]
    refine⟨fun h=>by omega,fun i hi=>?_⟩
    obtain⟨j,hj⟩:∃j:Nat,Lib.index l [c]=j:=⟨(Lib.index l [c]).toNat,by omega⟩
    obtain rfl:i=j+1:=by omega
    rw [hs,ih.2 j hj]
    simp
theorem qT (s:ByteArray):Uz s.data.toList=s:=by
 apply O5
 simp [Uz]
theorem Jt (c:UInt8):∀(k:Nat) (s:ByteArray),Lib.countB s ⟨#[c]⟩=k->Lib.splitB ⟨#[c]⟩ 0 k s=QG c s:=by
 intro k
 induction k with
 | zero=>
  intro s hk
  rw [Lib.splitB_zero]
  rcases Lib.indexB_cases s ⟨#[c]⟩ with h|⟨i,h,_⟩
  ·have:=(Gf c s.data.toList []).1 h
   unfold QG
   rw [this]
   simp [qT]
  ·have:=Lib.countB_hit s ⟨#[c]⟩ i (by simp [ByteArray.size]) h
   omega
 | succ k ih=>
  intro s hk
  rcases Lib.indexB_cases s ⟨#[c]⟩ with h|⟨i,h,_⟩
  ·have:=Lib.countB_miss s ⟨#[c]⟩ h
   omega
  ·have hc:=Lib.countB_hit s ⟨#[c]⟩ i (by simp [ByteArray.size]) h
   have hsz:(⟨#[c]⟩:ByteArray).size=1:=rfl
   rw [hsz] at hc
   rw [Lib.splitB_hit _ _ _ _ i h,hsz,ih _ (by omega)]
   have:=(Gf c s.data.toList []).2 i h
   unfold QG
   rw [this,I9]
   congr 1
   ·rw [L3,Gs]
    simp [cut]
   ·rw [Jz]
    unfold cut
    congr 2
    rw [U1]
    rw [S7,Zl]
    exact F0 _
theorem Qgf (c:UInt8):∀(l cur:List UInt8),c∉l->Zw c cur l=[cur++l]
 | [],cur,_=>by simp [Zw]
 |b::l,cur,h=>by
  rw [Zw,if_neg (fun e=>h (by simp [e])),Qgf c l _ (fun hx=>h (by simp [hx]))]
  simp
theorem x6 (c:UInt8):∀(l cur:List UInt8),1<=(Zw c cur l).length
 | [],cur=>by simp [Zw]
 |b::l,cur=>by
  rw [Zw]
  split
  ·simp
  ·exact x6 c l _
theorem Qej (c:UInt8):∀(l cur:List UInt8),c∈l->2<=(Zw c cur l).length
 | b::l,cur,h=>by
  rw [Zw]
  split
  ·have:=x6 c l [];simp;omega
  ·rename_i hb
   exact Qej c l _ ((C7.1 h).elim (fun e=>absurd e.symm hb) id)
theorem vh (c:UInt8):∀(l cur x:List UInt8),x∈Zw c cur l->x.length<=cur.length+l.length
 | [],cur,x,h=>by rw [Zw,E0] at h;subst h;simp
 | b::l,cur,x,h=>by
  rw [Zw] at h
  split at h
  ·rcases C7.1 h with rfl|h
   ·omega
   ·have:=vh c l [] x h;simp at this ⊢;omega
  ·have:=vh c l _ x h;simp at this ⊢;omega
theorem kV (l:List UInt8):(Uz l).size=l.length:=rfl
theorem UA {c:UInt8} {s x:ByteArray} (h:x∈QG c s):x.size<=s.size:=by
 unfold QG at h
 obtain⟨y,hy,rfl⟩:=L7.1 h
 have:=vh c _ _ y hy
 rw [Zl] at this
 rw [kV]
 simpa using this
theorem qz (c:UInt8) (s:ByteArray):1<=(QG c s).length/\(QG c s).length<=s.size+1:=by
 unfold QG
 rw [J8]
 have h1:=x6 c s.data.toList []
 have h2:=GO c s.data.toList []
 rw [Zl] at h2
 exact⟨h1,h2⟩
theorem yF {c:UInt8} {s:ByteArray} (h:c∉s.data.toList):QG c s=[s]:=by
 unfold QG
 rw [Qgf c _ _ h]
 simp [qT]
theorem QbH {c:UInt8} {s x:ByteArray} (h:QG c s=[x]):x=s/\c∉s.data.toList:=by
 by_cases hc:c∈s.data.toList
 ·have:=Qej c _ [] hc
  have h2:=congrArg List.length h
  unfold QG at h2
  rw [J8] at h2
  simp at h2;omega
 ·rw [yF hc] at h
  simp at h
  exact⟨h.symm,hc⟩
theorem QgJ {c:UInt8} {s:ByteArray} (h:(Lib.cut s.data.toList [c]).2.2=false):QG c s=[s]:=by
 unfold Lib.cut at h
 split at h
 ·cases h
 ·rename_i hi
  have hge:=Lib.index_ge s.data.toList [c]
  have:=(Gf c s.data.toList []).1 (by omega)
  unfold QG
  rw [this]
  simp [qT]
theorem QcP {c:UInt8} {s:ByteArray} (h:(Lib.cut s.data.toList [c]).2.2=true):QG c s=⟨(Lib.cut s.data.toList [c]).1.toArray⟩::QG c ⟨(Lib.cut s.data.toList [c]).2.1.toArray⟩:=by
 unfold Lib.cut at h ⊢
 split
 ·rename_i hi
  have:=(Gf c s.data.toList []).2 (Lib.index s.data.toList [c]).toNat (by omega)
  unfold QG
  rw [this]
  simp [Uz]
 ·rename_i hi
  rw [if_neg hi] at h
  cases h
noncomputable def XE (p:ByteArray):Option QC:=match QG 61 p with
 | [k,t]=>(YI t).map fun n=>⟨k,n⟩
 |_=>none
theorem qw {p k t:ByteArray} (h:QG 61 p=[k,t]):XE p=(YI t).map fun n=>⟨k,n⟩:=by unfold XE;rw [h]
theorem qK {p:ByteArray} (h:(QG 61 p).length≠2):XE p=none:=by
 unfold XE
 split
 ·rename_i hh;rw [hh] at h;simp at h
 ·rfl
theorem Qdz {p:ByteArray} (h:(Lib.cut p.data.toList [61]).2.2=false):XE p=none:=qK (by rw [QgJ h];simp)
theorem QbQ {p:ByteArray} (h:(Lib.cut p.data.toList [61]).2.2=true) (hn:YI ⟨(Lib.cut p.data.toList [61]).2.1.toArray⟩=none):XE p=none:=by
 have hs:=QcP h
 obtain⟨t,ht⟩:∃t,t=(⟨(Lib.cut p.data.toList [61]).2.1.toArray⟩:ByteArray):=⟨_,rfl⟩
 rw [<-ht] at hs hn
 by_cases hl:(QG 61 t).length=1
 ·obtain⟨x,hx⟩:=List.length_eq_one_iff.1 hl
  rw [hx,(QbH hx).1] at hs
  rw [qw hs,hn]
  rfl
 ·exact qK (by rw [hs,I1];omega)
theorem QaH {p:ByteArray} {n:Int} (h:(Lib.cut p.data.toList [61]).2.2=true) (hn:YI ⟨(Lib.cut p.data.toList [61]).2.1.toArray⟩=some n):XE p=some ⟨⟨(Lib.cut p.data.toList [61]).1.toArray⟩,n⟩:=by
 have hs:=QcP h
 obtain⟨t,ht⟩:∃t,t=(⟨(Lib.cut p.data.toList [61]).2.1.toArray⟩:ByteArray):=⟨_,rfl⟩
 rw [<-ht] at hs hn
 have hd:=(QaO hn).digit
 rw [yF (c:=61) (s:=t) (fun hm=>by have:=hd _ hm;simp at this)] at hs
 rw [qw hs,hn]
 rfl
open Classical in
noncomputable def Qy (s:ByteArray):Option (List QC):=
 if s=⟨#[45]⟩ then some [] else if h:∃out,(QG 44 s).map XE=out.map some/\ZA out then some h.choose else none
theorem JH:Qy ⟨#[45]⟩=some []:=by unfold Qy;rw [if_pos rfl]
theorem Jx {α:Type}:∀ {a b:List α},a.map some=b.map some->a=b
 | [],[],_=>rfl
 | [],_::_,h=>by simp at h
 |_::_,[],h=>by simp at h
 |x::a,y::b,h=>by
  simp only [I9,List.cons.injEq,O7] at h
  rw [h.1,Jx h.2]
theorem JM {s:ByteArray} {out:List QC} (h0:s≠⟨#[45]⟩) (h:(QG 44 s).map XE=out.map some) (hok:ZA out):Qy s=some out:=by
 unfold Qy
 have he:∃out,(QG 44 s).map XE=out.map some/\ZA out:=⟨out,h,hok⟩
 rw [if_neg h0,dif_pos he,Jx (he.choose_spec.1.symm.trans h)]
theorem GB {s:ByteArray} {out:List QC} (h0:s≠⟨#[45]⟩) (h:(QG 44 s).map XE=out.map some) (hok:¬ZA out):Qy s=none:=by
 unfold Qy
 rw [if_neg h0,dif_neg]
 rintro⟨x,h1,h2⟩
 rw [Jx (h1.symm.trans h)] at h2
 exact hok h2
theorem GD {s:ByteArray} (h0:s≠⟨#[45]⟩) {k:Nat} (hk:k<(QG 44 s).length) (hb:XE (QG 44 s)[k]=none):Qy s=none:=by
 unfold Qy
 rw [if_neg h0,dif_neg]
 rintro⟨x,h1,_⟩
 have:=congrArg (fun l=>l[k]?) h1
 simp only [R0,F8 hk,Option.map_some,hb] at this
 cases hx:x[k]? with
 |none=>rw [hx] at this;simp at this
 |some y=>rw [hx] at this;simp at this
theorem xC {s:ByteArray} (h0:s≠⟨#[45]⟩) (hl:4<(QG 44 s).length):Qy s=none:=by
 unfold Qy
 rw [if_neg h0,dif_neg]
 rintro⟨x,h1,h2⟩
 have:=congrArg List.length h1
 simp at this
 have:=h2.1
 omega
theorem yV {s:ByteArray} {out:List QC} {k:Nat} (hk:k<(QG 44 s).length) (h:((QG 44 s).take k).map XE=out.map some) {c:QC} (hc:XE (QG 44 s)[k]=some c):((QG 44 s).take (k+1)).map XE=(out++ [c]).map some:=by
 rw [G6 hk,J2,h,J2]
 simp [hc]
def ZD (o:Option (List QC)) (w:World) (e:Ending) (w':World):Prop:=∃l A cap,l=o.getD [] /\e= .returned (.tuple #[.slice A l.length cap,.bool o.isSome])/\qt w w' (cells l) (.slice A l.length cap)
theorem ZD.yes {o:Option (List QC)} {l:List QC} {w w':World} {A:Option Addr} {n cap:Nat} (h:o=some l) (hn:n=l.length) (hN:qt w w' (cells l) (.slice A n cap)):ZD o w (.returned (.tuple #[.slice A n cap,.bool true])) w':=by
 subst h hn
 exact⟨l,A,cap,rfl,rfl,hN⟩
theorem ZD.no {o:Option (List QC)} {w w':World} {A:Option Addr} {cap:Nat} (h:o=none) (hN:qt w w' (cells []) (.slice A 0 cap)):ZD o w (.returned (.tuple #[.slice A 0 cap,.bool false])) w':=by
 subst h
 exact⟨[],A,cap,rfl,rfl,hN⟩
theorem ww:(Tryz.prog.info? 194).map (fun i=>(i.zero,i.size,i.bytes))=some (some (.agg #[.string ⟨#[]⟩,.int .i64 0]),2,24):=by kernel_rfl
theorem uK {w w':World} (c:QC) (hc:Qc [] w w'):YW w w' (Vu c) [.string c.key,.int .i64 c.value]:=by
 rw [wE]
 refine YW.cons_v (YW.cons_v (YW.nil hc))
theorem Yo.toCells {w0 w:World} {A:Option Addr} {n cap:Nat} {l:List QC} (h:Yo w0 w 194 2 (.slice A n cap) n (l.flatMap Vu)) (hn:n=l.length):qt w0 w (cells l) (.slice A n cap):=by
 have:=h.new
 unfold cells
 rw [<-hn]
 exact this
theorem QgC {α:Type}:∀ {l:List α},l.length=2->∃a b,l=[a,b]
 | [a,b],_=>⟨a,b,rfl⟩
theorem QaL {s:ByteArray} (h:(s.toList== [45])=false):s≠⟨#[45]⟩:=by
 intro e
 rw [e,ByteArray.toList_eq] at h
 simp at h
theorem QcD {s:ByteArray} (h:(s.toList== [45])=true):s=⟨#[45]⟩:=by
 have h:=beq_iff_eq.1 h
 rw [ByteArray.toList_eq] at h
 exact O5 (Q2.1 (by simpa using h))
theorem qa (s:ByteArray) (w:World) (hs:s.size<=1048575):
  Calls Tryz.prog 163 #[.string s] w (ZD (Qy s) w):=by
 cases hd:(s.toList== [45])
 ·have hnd:=QaL hd
  have SPL:=Qb (fun W=>JJ s 44 W (by omega))
  have hpl:=qz 44 s
  have hps:∀x∈QG 44 s,x.size<=1048576:=fun x hx=>G5 (UA hx) (by omega)
  obtain⟨L,hL⟩:∃L,L=QG 44 s:=⟨_,rfl⟩
  rw [<-hL] at SPL hpl hps
  have BAD:Hid (∀(k:Nat) (hk:k<L.length),XE L[k]=none->Qy s=none):=by rw [hL];exact fun k hk h=>GD hnd hk h
  have GOOD:Hid (∀out:List QC,L.map XE=out.map some->(ZA out->Qy s=some out)/\(¬ZA out->Qy s=none)):=by rw [hL];exact fun out h=>⟨fun hok=>JM hnd h hok,fun hok=>GB hnd h hok⟩
  have STEP:Hid (∀(k:Nat) (hk:k<L.length) (out:List QC) (c:QC),(L.take k).map XE=out.map some->XE L[k]=some c->(L.take (k+1)).map XE=(out++ [c]).map some):=by rw [hL];exact fun k hk out c h hc=>yV hk h hc
  clear hL hnd
  go_enter Tryz.func163,Tryz.ntmps163
  go_wp2_with fail
  refine(SPL.out _).mono ?_
  intro e w1 G1
  obtain⟨A1,cap1,rfl,n1⟩:=G1.sl
  obtain⟨SK,hK⟩:=ug.start (Yo.empty w 194 2 (B0 _ _)) n1
  clear n1
  go_wp2_with fail
  go_loopw [4,17] (fun v i wr=>∃(k:Nat) (A':Option Addr) (cap':Nat) (out:List QC),k<=L.length/\i= .int .i64 k/\v= .slice A' k cap'/\out.length=k/\(∀c∈out,c.key.size<=1048576)/\Hid ((L.take k).map XE=out.map some)/\ug w wr 194 2 (.slice A' k cap') k (out.flatMap Vu) (WB L) (.slice A1 L.length cap1) SK) (fun _ i _=>L.length-(intOf i).toNat)
  case atStart=>exact⟨0,_,0,[],I3 _,rfl,rfl,rfl,by simp,by simp [Hid],hK⟩
  case round=>
   obtain⟨k,A',cap',out,hk,rfl,rfl,hout,hkey,HM,hh⟩:=hrel
   have hcg:=hh.1.chg
   by_cases hlt:k<L.length
   ·obtain⟨_,_,e9,_,_,hrow⟩:=YB hh.2.1.rd
    cases e9
    obtain⟨b,off,rfl,hb,q0⟩:=ZO hrow k hlt
    have hsk:=hps _ (I4 hlt)
    have S2:=Qb (fun W=>JJ L[k] 61 W hsk)
    have HA:=Qb hh
    clear hh hrow
    by_cases h2:(QG 61 L[k]).length=2
    ·obtain⟨x,y,hxy⟩:=QgC h2
     have hx:x.size<=1048576:=by have:=UA (c:=61) (s:=L[k]) (x:=x) (by rw [hxy];simp);omega
     have hy:y.size<=1048576:=by have:=UA (c:=61) (s:=L[k]) (x:=y) (by rw [hxy];simp);omega
     have CO:=Qb (qw hxy)
     rw [hxy] at S2
     clear h2 hxy
     go_wp2_with fail
     refine(S2.out _).mono ?_
     intro e w2 G2
     obtain⟨A2,cap2,rfl,n2⟩:=G2.sl
     have c2:=n2.chg
     have r2:=n2.rd
     obtain⟨_,_,e8,_,_,hr2⟩:=YB r2
     cases e8
     obtain⟨b2,off2,e7,hb2,t0⟩:=ZO hr2 0 (by simp)
     obtain⟨_,_,e6,_,t1⟩:=ZO hr2 1 (by simp)
     subst e7
     cases e6
     simp only [S6,List.getElem_cons_succ,L3] at t0 t1
     clear G2 n2 r2 hr2
     go_wp2_with fail
     refine(JX y _ hy).mono ?_
     rintro e w3 ⟨he3,c3⟩
     subst he3
     have u0:=(c3.cell (p:=⟨b2,off2,none⟩) hb2 (by simp)).trans t0
     have u1:=(c3.cell (p:=⟨b2,off2+1,none⟩) hb2 (by simp)).trans t1
     clear t0 t1
     cases hp:YI y with
     |none=>
      have HB:=Qb (BAD.out k hlt (by rw [CO.out,hp];rfl))
      clear hp
      go_wp2_with fail
      go_ret2
      exact ZD.no HB.out (Yo.toCells (l:=[]) (Yo.empty w 194 2 ((hcg.tz c2).tz c3)) rfl)
     |some n=>
      have HG:=Qb (STEP.out k hlt out ⟨x,n⟩ HM.out (by rw [CO.out,hp];rfl))
      clear hp
      have hA2:=Qb ((HA.out.later c2).later c3)
      have hcl:k<=1048576:=by omega
      go_wp2_with (at_builtin;refine Qal rfl (.tmp 37) (.tmp 43) _ rfl 194 _ 2 24 Tryz.underlying92 ww rfl (by omega) hA2.out (us:=[.string x,.int .i64 n]) (dsE:=Vu ⟨x,n⟩) (uK ⟨x,n⟩ ((B0 _ _).alloc _)) rfl w3.heap.size 1 rfl rfl (by intro j u hj;match j,hj with|0,hj=>cases hj;go_simp|1,hj=>cases hj;go_simp|j+2,hj=>simp at hj) (by intro u hu;simp at hu;rcases hu with rfl|rfl<;>rfl) (by omega) (by omega) ?_;intro A3 cap3 w4 hA3)
      go_roundw
      case rel=>exact⟨k+1,A3,cap3,out++ [⟨x,n⟩],by omega,by go_num,by go_num,by simp [hout],fun c hc=>(F4.1 hc).elim (hkey c) (fun hc=>by rw [E0] at hc;subst hc;exact hx),HG,by rw [J0];simpa using hA3⟩
      case measure=>simp [intOf];omega
    ·have HB:=Qb (BAD.out k hlt (qK h2))
     have h2n:(((QG 61 L[k]).length:Int)==2)=false:=beq_eq_false_iff_ne.2 (by omega)
     obtain⟨M,hM⟩:∃M,M=QG 61 L[k]:=⟨_,rfl⟩
     rw [<-hM] at S2 h2n
     clear hM h2
     go_wp2_with fail
     refine(S2.out _).mono ?_
     intro e w2 G2
     obtain⟨A2,cap2,rfl,n2⟩:=G2.sl
     have c2:=n2.chg
     clear G2 n2
     go_wp2_with fail
     go_ret2
     exact ZD.no HB.out (Yo.toCells (l:=[]) (Yo.empty w 194 2 (hcg.tz c2)) rfl)
   ·obtain rfl:k=L.length:=by omega
    have HM2:=HM.out
    rw [I8] at HM2
    have HG:=Qb (GOOD.out out HM2)
    have hN:=Yo.toCells (l:=out) hh.1 hout.symm
    have hrd:Rd wr wr.heap.size (cells out) (.slice A' L.length cap'):=hN.rd
    have IC:=Qb (VY out _ wr.heap.size wr hrd (F0 _) (by omega) hkey)
    have HNN:=Qb hN
    clear HM2 hN hrd hh
    by_cases hok:ZA out
    ·have IC2:=Qb (IC.out.mono (O3 hok))
     have HP:=Qb (HG.out.1 hok)
     clear hok
     go_wp2_with fail
     refine IC2.out.mono ?_
     rintro e w2 ⟨rfl,c2⟩
     go_wp2_with fail
     go_ret2
     exact ZD.yes HP.out hout.symm (HNN.out.later c2)
    ·have IC2:=Qb (IC.out.mono (R4 hok))
     have HP:=Qb (HG.out.2 hok)
     clear hok
     go_wp2_with fail
     refine IC2.out.mono ?_
     rintro e w2 ⟨rfl,c2⟩
     go_wp2_with fail
     go_ret2
     exact ZD.no HP.out (Yo.toCells (l:=[]) (Yo.empty w 194 2 (hcg.tz c2)) rfl)
 ·have HD:=Qb (QcD hd)
  go_enter Tryz.func163,Tryz.ntmps163
  go_wp2_with fail
  go_ret2
  exact ZD.yes (l:=[]) (by rw [HD.out];exact JH) rfl (Yo.toCells (l:=[]) (Yo.empty w 194 2 (B0 _ _)) rfl)
theorem QeJ (l:List UInt8) (c:UInt8):(Lib.cut l [c]).1.length<=l.length/\(Lib.cut l [c]).2.1.length<=l.length:=by
 unfold Lib.cut
 split
 ·simp
  omega
 ·simp
theorem Qc.drawn (w:World) (n:Nat):Qc [] w (w.drewN n):=(B0 _ _).drewN n
theorem QF (s:ByteArray) (w:World) (hs:s.size<=1048575) (he:KP w):
  Calls Tryz.prog 105 #[.string s] w (ZD (Qy s) w):=by
 cases hd:(s.toList== [45])
 ·have hnd:=QaL hd
  obtain⟨m,hm⟩:=he.max
  have hpl:=qz 44 s
  have SP:=Tryz.strings_Split s ⟨#[44]⟩ m w (by omega) hm (by decide)
  have hcn:Lib.countB s ⟨#[44]⟩+1=(QG 44 s).length:=by rw [<-Jt 44 _ _ rfl,Lib.splitB_all _ (by decide) _ _ _ rfl]
  rw [Jt 44 _ _ rfl,hcn] at SP
  have hps:∀x∈QG 44 s,x.size<=1048575:=fun x hx=>G5 (UA hx) hs
  obtain⟨L,hL⟩:∃L,L=QG 44 s:=⟨_,rfl⟩
  rw [<-hL] at SP hpl hps
  have BAD:Hid (∀(k:Nat) (hk:k<L.length),XE L[k]=none->Qy s=none):=by rw [hL];exact fun k hk h=>GD hnd hk h
  have LONG:Hid (4<L.length->Qy s=none):=by rw [hL];exact fun h=>xC hnd h
  have GOOD:Hid (∀out:List QC,L.map XE=out.map some->(ZA out->Qy s=some out)/\(¬ZA out->Qy s=none)):=by rw [hL];exact fun out h=>⟨fun hok=>JM hnd h hok,fun hok=>GB hnd h hok⟩
  have STEP:Hid (∀(k:Nat) (hk:k<L.length) (out:List QC) (c:QC),(L.take k).map XE=out.map some->XE L[k]=some c->(L.take (k+1)).map XE=(out++ [c]).map some):=by rw [hL];exact fun k hk out c h hc=>yV hk h hc
  have SPH:=Qb SP
  have HE:=Qb he
  clear hL hnd SP hcn hm he
  go_enter Tryz.func105,Tryz.ntmps105
  go_wp2_with fail
  refine SPH.out.mono ?_
  rintro e w1 ⟨rfl,hw1⟩
  have n1:=Xe w w L 9 _ rfl (by unfold maxLen;omega) (B0 _ _)
  rw [<-hw1] at n1
  have d1:=n1.chg
  have hrd1:=n1.rd
  obtain⟨_,_,e9,_,_,hrow⟩:=YB hrd1
  cases e9
  clear n1 hw1 hrd1
  go_wp2_with fail
  go_loopw [4,17] (fun v i wr=>∃(k:Nat) (A':Option Addr) (cap':Nat) (out:List QC),k<=L.length/\i= .int .i64 k/\v= .slice A' k cap'/\out.length=k/\(∀c∈out,c.key.size<=1048576)/\Hid ((L.take k).map XE=out.map some)/\Yo w1 wr 194 2 (.slice A' k cap') k (out.flatMap Vu)) (fun _ i _=>L.length-(intOf i).toNat)
  case atStart=>exact⟨0,_,0,[],I3 _,rfl,rfl,rfl,by simp,by simp [Hid],S8 w1 _ _ (B0 _ _)⟩
  case round=>
   obtain⟨k,A',cap',out,hk,rfl,rfl,hout,hkey,HM,hh⟩:=hrel
   have hcg:=hh.chg
   have dr:Qc [] w wr:=d1.tz hcg
   have HEr:=Qb (HE.out.keep dr)
   by_cases hlt:k<L.length
   ·obtain⟨b,off,e8,hb,q0⟩:=ZO (hrow.cz hcg (F0 _)) k hlt
    cases e8
    simp only [J3] at q0
    have hsk:=hps _ (I4 hlt)
    obtain⟨m,hm⟩:=HEr.out.max
    have CUT:=Tryz.strings_Cut L[k] ⟨#[61]⟩ m wr (by omega) hm
    have hcs:=QeJ L[k].data.toList 61
    rw [Zl] at hcs
    have hsep:(⟨#[61]⟩:ByteArray).data.toList=[61]:=rfl
    rw [hsep] at CUT
    have CNO:=Qb (Qdz (p:=L[k]))
    have CBAD:=Qb (QbQ (p:=L[k]))
    have CGOOD:=Qb (fun n=>QaH (p:=L[k]) (n:=n))
    obtain⟨K,hK⟩:∃K:ByteArray,K=⟨(Lib.cut L[k].data.toList [61]).1.toArray⟩:=⟨_,rfl⟩
    obtain⟨T,hT⟩:∃T:ByteArray,T=⟨(Lib.cut L[k].data.toList [61]).2.1.toArray⟩:=⟨_,rfl⟩
    have hKs:K.size<=1048576:=by rw [hK];show(List.toArray _).size<=_;simp;omega
    have hTs:T.size<=1048576:=by rw [hT];show(List.toArray _).size<=_;simp;omega
    rw [<-hK] at CUT CGOOD
    rw [<-hT] at CUT CGOOD CBAD
    obtain⟨f,hf⟩:∃f,f=(Lib.cut L[k].data.toList [61]).2.2:=⟨_,rfl⟩
    rw [<-hf] at CUT CGOOD CBAD CNO
    have CUTH:=Qb CUT
    have HA:=Qb hh
    clear hK hT hf CUT hsep hcs hm hh
    cases f with
    |false=>
     have HB:=Qb (BAD.out k hlt (CNO.out rfl))
     go_wp2_with fail
     refine CUTH.out.mono ?_
     rintro e w2 ⟨rfl,n,hw2⟩
     have c2:Qc [] wr w2:=hw2 ▸ Qc.drawn _ _
     clear hw2
     go_wp2_with fail
     refine(WK T _ hTs (HEr.out.keep c2)).mono ?_
     rintro e w3 ⟨he3,c3⟩
     subst he3
     go_wp2_with fail
     go_ret2
     exact ZD.no HB.out (Yo.toCells (l:=[]) (S8 w 194 2 ((dr.tz c2).tz c3)) rfl)
    | true=>
     cases hp:YI T with
     |none=>
      have HB:=Qb (BAD.out k hlt (CBAD.out rfl hp))
      have PN:=Qb (fun W hE=>WK T W hTs hE)
      rw [hp] at PN
      clear hp
      go_wp2_with fail
      refine CUTH.out.mono ?_
      rintro e w2 ⟨rfl,n,hw2⟩
      have c2:Qc [] wr w2:=hw2 ▸ Qc.drawn _ _
      clear hw2
      go_wp2_with fail
      refine(PN.out _ (HEr.out.keep c2)).mono ?_
      rintro e w3 ⟨he3,c3⟩
      subst he3
      go_wp2_with fail
      go_ret2
      exact ZD.no HB.out (Yo.toCells (l:=[]) (S8 w 194 2 ((dr.tz c2).tz c3)) rfl)
     | some z=>
      have HG:=Qb (STEP.out k hlt out ⟨K,z⟩ HM.out (CGOOD.out z rfl hp))
      have PN:=Qb (fun W hE=>WK T W hTs hE)
      rw [hp] at PN
      clear hp
      by_cases h4:4<=k
      ·have HB:=Qb (LONG.out (by omega))
       go_wp2_with fail
       refine CUTH.out.mono ?_
       rintro e w2 ⟨rfl,n,hw2⟩
       have c2:Qc [] wr w2:=hw2 ▸ Qc.drawn _ _
       clear hw2
       go_wp2_with fail
       refine(PN.out _ (HEr.out.keep c2)).mono ?_
       rintro e w3 ⟨he3,c3⟩
       subst he3
       go_wp2_with fail
       go_ret2
       exact ZD.no HB.out (Yo.toCells (l:=[]) (S8 w 194 2 ((dr.tz c2).tz c3)) rfl)
      ·go_wp2_with fail
       refine CUTH.out.mono ?_
       rintro e w2 ⟨rfl,n,hw2⟩
       have c2:Qc [] wr w2:=hw2 ▸ Qc.drawn _ _
       clear hw2
       go_wp2_with fail
       refine(PN.out _ (HEr.out.keep c2)).mono ?_
       rintro e w3 ⟨he3,c3⟩
       subst he3
       have hA2:=Qb ((HA.out.later c2).later c3)
       go_wp2_with (at_builtin;refine ZN rfl (.tmp 43) (.tmp 47) _ rfl 194 _ 2 24 Tryz.underlying92 ww rfl (by omega) hA2.out (us:=[.string K,.int .i64 z]) (dsE:=Vu ⟨K,z⟩) (uK ⟨K,z⟩ ((B0 _ _).alloc _)) rfl w3.heap.size 1 rfl rfl (by intro j u hj;match j,hj with|0,hj=>cases hj;go_simp|1,hj=>cases hj;go_simp|j+2,hj=>simp at hj) (by intro u hu;simp at hu;rcases hu with rfl|rfl<;>rfl) (by omega) (by omega) ?_;intro A3 cap3 w4 hA3)
       go_roundw
       case rel=>exact⟨k+1,A3,cap3,out++ [⟨K,z⟩],by omega,by go_num,by go_num,by simp [hout],fun c hc=>(F4.1 hc).elim (hkey c) (fun hc=>by rw [E0] at hc;subst hc;exact hKs),HG,by rw [J0];simpa using hA3⟩
       case measure=>simp [intOf];omega
   ·obtain rfl:k=L.length:=by omega
    have HM2:=HM.out
    rw [I8] at HM2
    have HG:=Qb (GOOD.out out HM2)
    have hN:=Yo.toCells (l:=out) hh hout.symm
    have hrd:Rd wr wr.heap.size (cells out) (.slice A' L.length cap'):=hN.rd
    have IC:=Qb (YU out _ wr.heap.size wr hrd (F0 _) (by omega) hkey)
    have HNN:=Qb (show qt w wr (cells out) (.slice A' L.length cap') from by
     obtain⟨S,h1,h2,h3⟩:=hN
     exact⟨S,h1,fun x hx=>G5 d1.size (h2 x hx),dr⟩)
    clear HM2 hN hrd hh
    by_cases hok:ZA out
    ·have IC2:=Qb (IC.out.mono (O3 hok))
     have HP:=Qb (HG.out.1 hok)
     clear hok
     go_wp2_with fail
     refine IC2.out.mono ?_
     rintro e w2 ⟨rfl,c2⟩
     go_wp2_with fail
     go_ret2
     exact ZD.yes HP.out hout.symm (HNN.out.later c2)
    ·have IC2:=Qb (IC.out.mono (R4 hok))
     have HP:=Qb (HG.out.2 hok)
     clear hok
     go_wp2_with fail
     refine IC2.out.mono ?_
     rintro e w2 ⟨rfl,c2⟩
     go_wp2_with fail
     go_ret2
     exact ZD.no HP.out (Yo.toCells (l:=[]) (S8 w 194 2 (dr.tz c2)) rfl)
 ·have HD:=Qb (QcD hd)
  clear he
  go_enter Tryz.func105,Tryz.ntmps105
  go_wp2_with fail
  go_ret2
  exact ZD.yes (l:=[]) (by rw [HD.out];exact JH) rfl (Yo.toCells (l:=[]) (S8 w 194 2 (B0 _ _)) rfl)
end Go.Proofs.YtfjhdnjlhjimeaaGreatDoor
