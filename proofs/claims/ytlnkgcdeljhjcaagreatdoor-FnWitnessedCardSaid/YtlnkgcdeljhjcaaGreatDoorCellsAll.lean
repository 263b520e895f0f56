/- strings. Conditions: as stated. -/
import Derived.Test.YtlnkgcdeljhjcaaGreatDoorTexts
import Derived.Test.YtlnkgcdeljhjcaaGreatDoorNumsAll
import Derived.Test.YtlnkgcdeljhjcaaGreatDoorShSplit
import Derived.Test.YtlnkgcdeljhjcaaGreatDoorMeths
import Derived.Lib.Split
import Derived.Lib.SplitLaws
set_option maxRecDepth 100000
set_option maxHeartbeats 4000000
namespace Go.Proofs.YtlnkgcdeljhjcaaGreatDoor
open Go.RowKit

theorem Jl (c:UInt8):∀(l cur:List UInt8),(Lib.index l [c]= -1->Zw c cur l=[cur++l])/\∀i:Nat,Lib.index l [c]=i->Zw c cur l=(cur++l.take i)::Zw c [] (l.drop (i+1))
 | [],cur=>by
  have h0:Lib.index [] [c]= -1:=rfl
  refine⟨fun _=>by simp [Zw],fun i hi=>?_⟩
  rw [h0] at hi
  omega
 | b::l,cur=>by
  by_cases hb:b=c
  ·subst hb
   have h0:Lib.index (b::l) [b]=0:=by unfold Lib.index;rw [if_pos (by simp)]
   refine⟨fun h=>by rw [h0] at h;omega,fun i hi=>?_⟩
   rw [h0] at hi
   obtain rfl:i=0:=by omega
   rw [Zw,if_pos rfl]
   simp
  ·have hp:([c].isPrefixOf (b::l))=false:=by
    show(c==b&&List.isPrefixOf [] l)=false
    rw [beq_eq_false_iff_ne.2 (fun e=>hb e.symm)]
    rfl
   have ih:=Jl c l (cur++ [b])
   have hs:Zw c cur (b::l)=Zw c (cur++ [b]) l:=by rw [Zw,if_neg hb]
   by_cases hm:Lib.index l [c]= -1
   ·have h0:Lib.index (b::l) [c]= -1:=by unfold Lib.index;rw [hp,hm];rfl
    refine⟨fun _=>by rw [hs,ih.1 hm];simp,fun i hi=>?_⟩
    rw [h0] at hi
    omega
   ·have h0:Lib.index (b::l) [c]=Lib.index l [c] +1:=by
     conv=>lhs;unfold Lib.index
     rw [hp]
     simp [hm]
    have hge:=Lib.index_ge l [c]
    refine⟨fun h=>by omega,fun i hi=>?_⟩
    obtain⟨j,hj⟩:∃j:Nat,Lib.index l [c]=j:=⟨(Lib.index l [c]).toNat,by omega⟩
    obtain rfl:i=j+1:=by omega
    rw [hs,ih.2 j hj]
    simp
theorem GI (s:ByteArray):Ub s.data.toList=s:=by
 apply ByteArray.ext
 simp [Ub]
theorem Ku (c:UInt8):∀(k:Nat) (s:ByteArray),Lib.countB s ⟨#[c]⟩=k->Lib.splitB ⟨#[c]⟩ 0 k s=QM c s:=by
 intro k
 induction k with
 | zero=>
  intro s hk
  rw [Lib.splitB_zero]
  rcases Lib.indexB_cases s ⟨#[c]⟩ with h|⟨i,h,_⟩
  ·have:=(Jl c s.data.toList []).1 h
   unfold QM
   rw [this]
   simp [GI]
  ·have:=Lib.countB_hit s ⟨#[c]⟩ i (by simp [ByteArray.size]) h
   omega
 | succ k ih=>
  intro s hk
  rcases Lib.indexB_cases s ⟨#[c]⟩ with h|⟨i,h,_⟩
  ·have:=Lib.countB_miss s ⟨#[c]⟩ h
   omega
  ·have hc:=Lib.countB_hit s ⟨#[c]⟩ i (by simp [ByteArray.size]) h
   have hsz:(⟨#[c]⟩:ByteArray).size=1:=rfl
   rw [hsz] at hc
   rw [Lib.splitB_hit _ _ _ _ i h,hsz,ih _ (by omega)]
   have:=(Jl c s.data.toList []).2 i h
   unfold QM
   rw [this,List.map_cons]
   congr 1
   ·rw [Nat.add_zero,Jh]
    simp [cut]
   ·rw [Ks]
    unfold cut
    congr 2
    rw [List.take_of_length_le]
    rw [List.length_drop,Zr]
    exact Nat.le_refl _
theorem QgR (c:UInt8):∀(l cur:List UInt8),c∉l->Zw c cur l=[cur++l]
 | [],cur,_=>by simp [Zw]
 |b::l,cur,h=>by
  rw [Zw,if_neg (fun e=>h (by simp [e])),QgR c l _ (fun hx=>h (by simp [hx]))]
  simp
theorem yG (c:UInt8):∀(l cur:List UInt8),1<=(Zw c cur l).length
 | [],cur=>by simp [Zw]
 |b::l,cur=>by
  rw [Zw]
  split
  ·simp
  ·exact yG c l _
theorem Qfx (c:UInt8):∀(l cur:List UInt8),c∈l->2<=(Zw c cur l).length
 | b::l,cur,h=>by
  rw [Zw]
  split
  ·have:=yG c l [];simp;omega
  ·rename_i hb
   exact Qfx c l _ ((List.mem_cons.1 h).elim (fun e=>absurd e.symm hb) id)
theorem xn (c:UInt8):∀(l cur x:List UInt8),x∈Zw c cur l->x.length<=cur.length+l.length
 | [],cur,x,h=>by rw [Zw,List.mem_singleton] at h;subst h;simp
 | b::l,cur,x,h=>by
  rw [Zw] at h
  split at h
  ·rcases List.mem_cons.1 h with rfl|h
   ·omega
   ·have:=xn c l [] x h;simp at this ⊢;omega
  ·have:=xn c l _ x h;simp at this ⊢;omega
theorem jX (l:List UInt8):(Ub l).size=l.length:=rfl
theorem Uc {c:UInt8} {s x:ByteArray} (h:x∈QM c s):x.size<=s.size:=by
 unfold QM at h
 obtain⟨y,hy,rfl⟩:=List.mem_map.1 h
 have:=xn c _ _ y hy
 rw [Zr] at this
 rw [jX]
 simpa using this
theorem GJ (c:UInt8) (s:ByteArray):1<=(QM c s).length/\(QM c s).length<=s.size+1:=by
 unfold QM
 rw [List.length_map]
 have h1:=yG c s.data.toList []
 have h2:=JV c s.data.toList []
 rw [Zr] at h2
 exact⟨h1,h2⟩
theorem zh {c:UInt8} {s:ByteArray} (h:c∉s.data.toList):QM c s=[s]:=by
 unfold QM
 rw [QgR c _ _ h]
 simp [GI]
theorem QcI {c:UInt8} {s x:ByteArray} (h:QM c s=[x]):x=s/\c∉s.data.toList:=by
 by_cases hc:c∈s.data.toList
 ·have:=Qfx c _ [] hc
  have h2:=congrArg List.length h
  unfold QM at h2
  rw [List.length_map] at h2
  simp at h2;omega
 ·rw [zh hc] at h
  simp at h
  exact⟨h.symm,hc⟩
theorem Qhf {c:UInt8} {s:ByteArray} (h:(Lib.cut s.data.toList [c]).2.2=false):QM c s=[s]:=by
 unfold Lib.cut at h
 split at h
 ·cases h
 ·rename_i hi
  have hge:=Lib.index_ge s.data.toList [c]
  have:=(Jl c s.data.toList []).1 (by omega)
  unfold QM
  rw [this]
  simp [GI]
theorem QdG {c:UInt8} {s:ByteArray} (h:(Lib.cut s.data.toList [c]).2.2=true):QM c s=⟨(Lib.cut s.data.toList [c]).1.toArray⟩::QM c ⟨(Lib.cut s.data.toList [c]).2.1.toArray⟩:=by
 unfold Lib.cut at h ⊢
 split
 ·rename_i hi
  have:=(Jl c s.data.toList []).2 (Lib.index s.data.toList [c]).toNat (by omega)
  unfold QM
  rw [this]
  simp [Ub]
 ·rename_i hi
  rw [if_neg hi] at h
  cases h
noncomputable def XD (p:ByteArray):Option QD:=match QM 61 p with
 | [k,t]=>(Yv t).map fun n=>⟨k,n⟩
 |_=>none
theorem Gz {p k t:ByteArray} (h:QM 61 p=[k,t]):XD p=(Yv t).map fun n=>⟨k,n⟩:=by unfold XD;rw [h]
theorem GS {p:ByteArray} (h:(QM 61 p).length≠2):XD p=none:=by
 unfold XD
 split
 ·rename_i hh;rw [hh] at h;simp at h
 ·rfl
theorem Qef {p:ByteArray} (h:(Lib.cut p.data.toList [61]).2.2=false):XD p=none:=GS (by rw [Qhf h];simp)
theorem QcL {p:ByteArray} (h:(Lib.cut p.data.toList [61]).2.2=true) (hn:Yv ⟨(Lib.cut p.data.toList [61]).2.1.toArray⟩=none):XD p=none:=by
 have hs:=QdG h
 obtain⟨t,ht⟩:∃t,t=(⟨(Lib.cut p.data.toList [61]).2.1.toArray⟩:ByteArray):=⟨_,rfl⟩
 rw [<-ht] at hs hn
 by_cases hl:(QM 61 t).length=1
 ·obtain⟨x,hx⟩:=List.length_eq_one_iff.1 hl
  rw [hx,(QcI hx).1] at hs
  rw [Gz hs,hn]
  rfl
 ·exact GS (by rw [hs,List.length_cons];omega)
theorem Qbd {p:ByteArray} {n:Int} (h:(Lib.cut p.data.toList [61]).2.2=true) (hn:Yv ⟨(Lib.cut p.data.toList [61]).2.1.toArray⟩=some n):XD p=some ⟨⟨(Lib.cut p.data.toList [61]).1.toArray⟩,n⟩:=by
 have hs:=QdG h
 obtain⟨t,ht⟩:∃t,t=(⟨(Lib.cut p.data.toList [61]).2.1.toArray⟩:ByteArray):=⟨_,rfl⟩
 rw [<-ht] at hs hn
 have hd:=(QaH hn).digit
 rw [zh (c:=61) (s:=t) (fun hm=>by have:=hd _ hm;simp at this)] at hs
 rw [Gz hs,hn]
 rfl
open Classical in
noncomputable def QA (s:ByteArray):Option (List QD):=
 if s=⟨#[45]⟩ then some [] else if h:∃out,(QM 44 s).map XD=out.map some/\Zy out then some h.choose else none
theorem KZ:QA ⟨#[45]⟩=some []:=by unfold QA;rw [if_pos rfl]
theorem Kq {α:Type}:∀ {a b:List α},a.map some=b.map some->a=b
 | [],[],_=>rfl
 | [],_::_,h=>by simp at h
 |_::_,[],h=>by simp at h
 |x::a,y::b,h=>by
  simp only [List.map_cons,List.cons.injEq,Option.some.injEq] at h
  rw [h.1,Kq h.2]
theorem KV {s:ByteArray} {out:List QD} (h0:s≠⟨#[45]⟩) (h:(QM 44 s).map XD=out.map some) (hok:Zy out):QA s=some out:=by
 unfold QA
 have he:∃out,(QM 44 s).map XD=out.map some/\Zy out:=⟨out,h,hok⟩
 rw [if_neg h0,dif_pos he,Kq (he.choose_spec.1.symm.trans h)]
theorem Jr {s:ByteArray} {out:List QD} (h0:s≠⟨#[45]⟩) (h:(QM 44 s).map XD=out.map some) (hok:¬Zy out):QA s=none:=by
 unfold QA
 rw [if_neg h0,dif_neg]
 rintro⟨x,h1,h2⟩
 rw [Kq (h1.symm.trans h)] at h2
 exact hok h2
theorem Jz {s:ByteArray} (h0:s≠⟨#[45]⟩) {k:Nat} (hk:k<(QM 44 s).length) (hb:XD (QM 44 s)[k]=none):QA s=none:=by
 unfold QA
 rw [if_neg h0,dif_neg]
 rintro⟨x,h1,_⟩
 have:=congrArg (fun l=>l[k]?) h1
 simp only [List.getElem?_map,List.getElem?_eq_getElem hk,Option.map_some,hb] at this
 cases hx:x[k]? with
 |none=>rw [hx] at this;simp at this
 |some y=>rw [hx] at this;simp at this
theorem yx {s:ByteArray} (h0:s≠⟨#[45]⟩) (hl:4<(QM 44 s).length):QA s=none:=by
 unfold QA
 rw [if_neg h0,dif_neg]
 rintro⟨x,h1,h2⟩
 have:=congrArg List.length h1
 simp at this
 have:=h2.1
 omega
theorem zS {s:ByteArray} {out:List QD} {k:Nat} (hk:k<(QM 44 s).length) (h:((QM 44 s).take k).map XD=out.map some) {c:QD} (hc:XD (QM 44 s)[k]=some c):((QM 44 s).take (k+1)).map XD=(out++ [c]).map some:=by
 rw [List.take_succ_eq_append_getElem hk,List.map_append,h,List.map_append]
 simp [hc]
def ZF (o:Option (List QD)) (w:World) (e:Ending) (w':World):Prop:=∃l A cap,l=o.getD [] /\e= .returned (.tuple #[.slice A l.length cap,.bool o.isSome])/\Gd w w' (cells l) (.slice A l.length cap)
theorem ZF.yes {o:Option (List QD)} {l:List QD} {w w':World} {A:Option Addr} {n cap:Nat} (h:o=some l) (hn:n=l.length) (hN:Gd w w' (cells l) (.slice A n cap)):ZF o w (.returned (.tuple #[.slice A n cap,.bool true])) w':=by
 subst h hn
 exact⟨l,A,cap,rfl,rfl,hN⟩
theorem ZF.no {o:Option (List QD)} {w w':World} {A:Option Addr} {cap:Nat} (h:o=none) (hN:Gd w w' (cells []) (.slice A 0 cap)):ZF o w (.returned (.tuple #[.slice A 0 cap,.bool false])) w':=by
 subst h
 exact⟨[],A,cap,rfl,rfl,hN⟩
theorem xG:(Tryz.prog.info? 189).map (fun i=>(i.zero,i.size,i.bytes))=some (some (.agg #[.string ⟨#[]⟩,.int .i64 0]),2,24):=by kernel_rfl
theorem uw {w w':World} (c:QD) (hc:Qb [] w w'):YJ w w' (WU c) [.string c.key,.int .i64 c.value]:=by
 rw [wJ]
 refine YJ.cons_v (YJ.cons_v (YJ.nil hc))
theorem XG.toCells {w0 w:World} {A:Option Addr} {n cap:Nat} {l:List QD} (h:XG w0 w 189 2 (.slice A n cap) n (l.flatMap WU)) (hn:n=l.length):Gd w0 w (cells l) (.slice A n cap):=by
 have:=h.new
 unfold cells
 rw [<-hn]
 exact this
theorem Qhr {α:Type}:∀ {l:List α},l.length=2->∃a b,l=[a,b]
 | [a,b],_=>⟨a,b,rfl⟩
theorem Qat {s:ByteArray} (h:(s.toList== [45])=false):s≠⟨#[45]⟩:=by
 intro e
 rw [e,ByteArray.toList_eq] at h
 simp at h
theorem QdB {s:ByteArray} (h:(s.toList== [45])=true):s=⟨#[45]⟩:=by
 have h:=beq_iff_eq.1 h
 rw [ByteArray.toList_eq] at h
 exact ByteArray.ext (Array.toList_inj.1 (by simpa using h))
theorem J6 (s:ByteArray) (w:World) (hs:s.size<=1048575):
  Calls Tryz.prog 200 #[.string s] w (ZF (QA s) w):=by
 cases hd:(s.toList== [45])
 ·have hnd:=Qat hd
  have SPL:=Qd (fun W=>KX s 44 W (by omega))
  have hpl:=GJ 44 s
  have hps:∀x∈QM 44 s,x.size<=1048576:=fun x hx=>Nat.le_trans (Uc hx) (by omega)
  obtain⟨L,hL⟩:∃L,L=QM 44 s:=⟨_,rfl⟩
  rw [<-hL] at SPL hpl hps
  have BAD:Hid (∀(k:Nat) (hk:k<L.length),XD L[k]=none->QA s=none):=by rw [hL];exact fun k hk h=>Jz hnd hk h
  have GOOD:Hid (∀out:List QD,L.map XD=out.map some->(Zy out->QA s=some out)/\(¬Zy out->QA s=none)):=by rw [hL];exact fun out h=>⟨fun hok=>KV hnd h hok,fun hok=>Jr hnd h hok⟩
  have STEP:Hid (∀(k:Nat) (hk:k<L.length) (out:List QD) (c:QD),(L.take k).map XD=out.map some->XD L[k]=some c->(L.take (k+1)).map XD=(out++ [c]).map some):=by rw [hL];exact fun k hk out c h hc=>zS hk h hc
  clear hL hnd
  go_enter Tryz.func200,Tryz.ntmps200
  go_wp2_with fail
  refine(SPL.out _).mono ?_
  intro e w1 G1
  obtain⟨A1,cap1,rfl,n1⟩:=G1.sl
  obtain⟨SK,hK⟩:=vx.start (XG.empty w 189 2 (Qb.refl _ _)) n1
  clear n1
  go_wp2_with fail
  go_loopw [4,17] (fun v i wr=>∃(k:Nat) (A':Option Addr) (cap':Nat) (out:List QD),k<=L.length/\i= .int .i64 k/\v= .slice A' k cap'/\out.length=k/\(∀c∈out,c.key.size<=1048576)/\Hid ((L.take k).map XD=out.map some)/\vx w wr 189 2 (.slice A' k cap') k (out.flatMap WU) (Ws L) (.slice A1 L.length cap1) SK) (fun _ i _=>L.length-(intOf i).toNat)
  case atStart=>exact⟨0,_,0,[],Nat.zero_le _,rfl,rfl,rfl,by simp,by simp [Hid],hK⟩
  case round=>
   obtain⟨k,A',cap',out,hk,rfl,rfl,hout,hkey,HM,hh⟩:=hrel
   have hcg:=hh.1.chg
   by_cases hlt:k<L.length
   ·obtain⟨_,_,e9,_,_,hrow⟩:=Yu hh.2.1.rd
    cases e9
    obtain⟨b,off,rfl,hb,q0⟩:=ZO hrow k hlt
    have hsk:=hps _ (List.getElem_mem hlt)
    have S2:=Qd (fun W=>KX L[k] 61 W hsk)
    have HA:=Qd hh
    clear hh hrow
    by_cases h2:(QM 61 L[k]).length=2
    ·obtain⟨x,y,hxy⟩:=Qhr h2
     have hx:x.size<=1048576:=by have:=Uc (c:=61) (s:=L[k]) (x:=x) (by rw [hxy];simp);omega
     have hy:y.size<=1048576:=by have:=Uc (c:=61) (s:=L[k]) (x:=y) (by rw [hxy];simp);omega
     have CO:=Qd (Gz hxy)
     rw [hxy] at S2
     clear h2 hxy
     go_wp2_with fail
     refine(S2.out _).mono ?_
     intro e w2 G2
     obtain⟨A2,cap2,rfl,n2⟩:=G2.sl
     have c2:=n2.chg
     have r2:=n2.rd
     obtain⟨_,_,e8,_,_,hr2⟩:=Yu r2
     cases e8
     obtain⟨b2,off2,e7,hb2,t0⟩:=ZO hr2 0 (by simp)
     obtain⟨_,_,e6,_,t1⟩:=ZO hr2 1 (by simp)
     subst e7
     cases e6
     simp only [List.getElem_cons_zero,List.getElem_cons_succ,Nat.add_zero] at t0 t1
     clear G2 n2 r2 hr2
     go_wp2_with fail
     refine(JB y _ hy).mono ?_
     rintro e w3 ⟨he3,c3⟩
     subst he3
     have u0:=(c3.cell (p:=⟨b2,off2,none⟩) hb2 (by simp)).trans t0
     have u1:=(c3.cell (p:=⟨b2,off2+1,none⟩) hb2 (by simp)).trans t1
     clear t0 t1
     cases hp:Yv y with
     |none=>
      have HB:=Qd (BAD.out k hlt (by rw [CO.out,hp];rfl))
      clear hp
      go_wp2_with fail
      go_ret2
      exact ZF.no HB.out (XG.toCells (l:=[]) (XG.empty w 189 2 ((hcg.tz c2).tz c3)) rfl)
     |some n=>
      have HG:=Qd (STEP.out k hlt out ⟨x,n⟩ HM.out (by rw [CO.out,hp];rfl))
      clear hp
      have hA2:=Qd ((HA.out.later c2).later c3)
      have hcl:k<=1048576:=by omega
      go_wp2_with (at_builtin;refine j9 rfl (.tmp 37) (.tmp 43) _ rfl 189 _ 2 24 Tryz.underlying92 xG rfl (by omega) hA2.out (us:=[.string x,.int .i64 n]) (dsE:=WU ⟨x,n⟩) (uw ⟨x,n⟩ ((Qb.refl _ _).alloc _)) rfl w3.heap.size 1 rfl rfl (by intro j u hj;match j,hj with|0,hj=>cases hj;go_simp|1,hj=>cases hj;go_simp|j+2,hj=>simp at hj) (by intro u hu;simp at hu;rcases hu with rfl|rfl<;>rfl) (by omega) (by omega) ?_;intro A3 cap3 w4 hA3)
      go_roundw
      case rel=>exact⟨k+1,A3,cap3,out++ [⟨x,n⟩],by omega,by go_num,by go_num,by simp [hout],fun c hc=>(List.mem_append.1 hc).elim (hkey c) (fun hc=>by rw [List.mem_singleton] at hc;subst hc;exact hx),HG,by rw [List.flatMap_append];simpa using hA3⟩
      case measure=>simp [intOf];omega
    ·have HB:=Qd (BAD.out k hlt (GS h2))
     have h2n:(((QM 61 L[k]).length:Int)==2)=false:=beq_eq_false_iff_ne.2 (by omega)
     obtain⟨M,hM⟩:∃M,M=QM 61 L[k]:=⟨_,rfl⟩
     rw [<-hM] at S2 h2n
     clear hM h2
     go_wp2_with fail
     refine(S2.out _).mono ?_
     intro e w2 G2
     obtain⟨A2,cap2,rfl,n2⟩:=G2.sl
     have c2:=n2.chg
     clear G2 n2
     go_wp2_with fail
     go_ret2
     exact ZF.no HB.out (XG.toCells (l:=[]) (XG.empty w 189 2 (hcg.tz c2)) rfl)
   ·obtain rfl:k=L.length:=by omega
    have HM2:=HM.out
    rw [List.take_length] at HM2
    have HG:=Qd (GOOD.out out HM2)
    have hN:=XG.toCells (l:=out) hh.1 hout.symm
    have hrd:Rd wr wr.heap.size (cells out) (.slice A' L.length cap'):=hN.rd
    have IC:=Qd (VI out _ wr.heap.size wr hrd (Nat.le_refl _) (by omega) hkey)
    have HNN:=Qd hN
    clear HM2 hN hrd hh
    by_cases hok:Zy out
    ·have IC2:=Qd (IC.out.mono (Qg.pos hok))
     have HP:=Qd (HG.out.1 hok)
     clear hok
     go_wp2_with fail
     refine IC2.out.mono ?_
     rintro e w2 ⟨rfl,c2⟩
     go_wp2_with fail
     go_ret2
     exact ZF.yes HP.out hout.symm (HNN.out.later c2)
    ·have IC2:=Qd (IC.out.mono (Qg.neg hok))
     have HP:=Qd (HG.out.2 hok)
     clear hok
     go_wp2_with fail
     refine IC2.out.mono ?_
     rintro e w2 ⟨rfl,c2⟩
     go_wp2_with fail
     go_ret2
     exact ZF.no HP.out (XG.toCells (l:=[]) (XG.empty w 189 2 (hcg.tz c2)) rfl)
 ·have HD:=Qd (QdB hd)
  go_enter Tryz.func200,Tryz.ntmps200
  go_wp2_with fail
  go_ret2
  exact ZF.yes (l:=[]) (by rw [HD.out];exact KZ) rfl (XG.toCells (l:=[]) (XG.empty w 189 2 (Qb.refl _ _)) rfl)
theorem Qf0 (l:List UInt8) (c:UInt8):(Lib.cut l [c]).1.length<=l.length/\(Lib.cut l [c]).2.1.length<=l.length:=by
 unfold Lib.cut
 split
 ·simp
  omega
 ·simp
theorem Qb.drawn (w:World) (n:Nat):Qb [] w (w.drewN n):=(Qb.refl _ _).drewN n
theorem QL (s:ByteArray) (w:World) (hs:s.size<=1048575) (he:Km w):
  Calls Tryz.prog 116 #[.string s] w (ZF (QA s) w):=by
 cases hd:(s.toList== [45])
 ·have hnd:=Qat hd
  obtain⟨m,hm⟩:=he.max
  have hpl:=GJ 44 s
  have SP:=Tryz.strings_Split s ⟨#[44]⟩ m w (by omega) hm (by decide)
  have hcn:Lib.countB s ⟨#[44]⟩+1=(QM 44 s).length:=by rw [<-Ku 44 _ _ rfl,Lib.splitB_all _ (by decide) _ _ _ rfl]
  rw [Ku 44 _ _ rfl,hcn] at SP
  have hps:∀x∈QM 44 s,x.size<=1048575:=fun x hx=>Nat.le_trans (Uc hx) hs
  obtain⟨L,hL⟩:∃L,L=QM 44 s:=⟨_,rfl⟩
  rw [<-hL] at SP hpl hps
  have BAD:Hid (∀(k:Nat) (hk:k<L.length),XD L[k]=none->QA s=none):=by rw [hL];exact fun k hk h=>Jz hnd hk h
  have LONG:Hid (4<L.length->QA s=none):=by rw [hL];exact fun h=>yx hnd h
  have GOOD:Hid (∀out:List QD,L.map XD=out.map some->(Zy out->QA s=some out)/\(¬Zy out->QA s=none)):=by rw [hL];exact fun out h=>⟨fun hok=>KV hnd h hok,fun hok=>Jr hnd h hok⟩
  have STEP:Hid (∀(k:Nat) (hk:k<L.length) (out:List QD) (c:QD),(L.take k).map XD=out.map some->XD L[k]=some c->(L.take (k+1)).map XD=(out++ [c]).map some):=by rw [hL];exact fun k hk out c h hc=>zS hk h hc
  have SPH:=Qd SP
  have HE:=Qd he
  clear hL hnd SP hcn hm he
  go_enter Tryz.func116,Tryz.ntmps116
  go_wp2_with fail
  refine SPH.out.mono ?_
  rintro e w1 ⟨rfl,hw1⟩
  have n1:=Xc w w L 9 _ rfl (by unfold maxLen;omega) (Qb.refl _ _)
  rw [<-hw1] at n1
  have d1:=n1.chg
  have hrd1:=n1.rd
  obtain⟨_,_,e9,_,_,hrow⟩:=Yu hrd1
  cases e9
  clear n1 hw1 hrd1
  go_wp2_with fail
  go_loopw [4,17] (fun v i wr=>∃(k:Nat) (A':Option Addr) (cap':Nat) (out:List QD),k<=L.length/\i= .int .i64 k/\v= .slice A' k cap'/\out.length=k/\(∀c∈out,c.key.size<=1048576)/\Hid ((L.take k).map XD=out.map some)/\XG w1 wr 189 2 (.slice A' k cap') k (out.flatMap WU)) (fun _ i _=>L.length-(intOf i).toNat)
  case atStart=>exact⟨0,_,0,[],Nat.zero_le _,rfl,rfl,rfl,by simp,by simp [Hid],XG.nil w1 _ _ (Qb.refl _ _)⟩
  case round=>
   obtain⟨k,A',cap',out,hk,rfl,rfl,hout,hkey,HM,hh⟩:=hrel
   have hcg:=hh.chg
   have dr:Qb [] w wr:=d1.tz hcg
   have HEr:=Qd (HE.out.keep dr)
   by_cases hlt:k<L.length
   ·obtain⟨b,off,e8,hb,q0⟩:=ZO (hrow.cz hcg (Nat.le_refl _)) k hlt
    cases e8
    simp only [Nat.zero_add] at q0
    have hsk:=hps _ (List.getElem_mem hlt)
    obtain⟨m,hm⟩:=HEr.out.max
    have CUT:=Tryz.strings_Cut L[k] ⟨#[61]⟩ m wr (by omega) hm
    have hcs:=Qf0 L[k].data.toList 61
    rw [Zr] at hcs
    have hsep:(⟨#[61]⟩:ByteArray).data.toList=[61]:=rfl
    rw [hsep] at CUT
    have CNO:=Qd (Qef (p:=L[k]))
    have CBAD:=Qd (QcL (p:=L[k]))
    have CGOOD:=Qd (fun n=>Qbd (p:=L[k]) (n:=n))
    obtain⟨K,hK⟩:∃K:ByteArray,K=⟨(Lib.cut L[k].data.toList [61]).1.toArray⟩:=⟨_,rfl⟩
    obtain⟨T,hT⟩:∃T:ByteArray,T=⟨(Lib.cut L[k].data.toList [61]).2.1.toArray⟩:=⟨_,rfl⟩
    have hKs:K.size<=1048576:=by rw [hK];show(List.toArray _).size<=_;simp;omega
    have hTs:T.size<=1048576:=by rw [hT];show(List.toArray _).size<=_;simp;omega
    rw [<-hK] at CUT CGOOD
    rw [<-hT] at CUT CGOOD CBAD
    obtain⟨f,hf⟩:∃f,f=(Lib.cut L[k].data.toList [61]).2.2:=⟨_,rfl⟩
    rw [<-hf] at CUT CGOOD CBAD CNO
    have CUTH:=Qd CUT
    have HA:=Qd hh
    clear hK hT hf CUT hsep hcs hm hh
    cases f with
    |false=>
     have HB:=Qd (BAD.out k hlt (CNO.out rfl))
     go_wp2_with fail
     refine CUTH.out.mono ?_
     rintro e w2 ⟨rfl,n,hw2⟩
     have c2:Qb [] wr w2:=hw2 ▸ Qb.drawn _ _
     clear hw2
     go_wp2_with fail
     refine(Wi T _ hTs (HEr.out.keep c2)).mono ?_
     rintro e w3 ⟨he3,c3⟩
     subst he3
     go_wp2_with fail
     go_ret2
     exact ZF.no HB.out (XG.toCells (l:=[]) (XG.nil w 189 2 ((dr.tz c2).tz c3)) rfl)
    | true=>
     cases hp:Yv T with
     |none=>
      have HB:=Qd (BAD.out k hlt (CBAD.out rfl hp))
      have PN:=Qd (fun W hE=>Wi T W hTs hE)
      rw [hp] at PN
      clear hp
      go_wp2_with fail
      refine CUTH.out.mono ?_
      rintro e w2 ⟨rfl,n,hw2⟩
      have c2:Qb [] wr w2:=hw2 ▸ Qb.drawn _ _
      clear hw2
      go_wp2_with fail
      refine(PN.out _ (HEr.out.keep c2)).mono ?_
      rintro e w3 ⟨he3,c3⟩
      subst he3
      go_wp2_with fail
      go_ret2
      exact ZF.no HB.out (XG.toCells (l:=[]) (XG.nil w 189 2 ((dr.tz c2).tz c3)) rfl)
     | some z=>
      have HG:=Qd (STEP.out k hlt out ⟨K,z⟩ HM.out (CGOOD.out z rfl hp))
      have PN:=Qd (fun W hE=>Wi T W hTs hE)
      rw [hp] at PN
      clear hp
      by_cases h4:4<=k
      ·have HB:=Qd (LONG.out (by omega))
       go_wp2_with fail
       refine CUTH.out.mono ?_
       rintro e w2 ⟨rfl,n,hw2⟩
       have c2:Qb [] wr w2:=hw2 ▸ Qb.drawn _ _
       clear hw2
       go_wp2_with fail
       refine(PN.out _ (HEr.out.keep c2)).mono ?_
       rintro e w3 ⟨he3,c3⟩
       subst he3
       go_wp2_with fail
       go_ret2
       exact ZF.no HB.out (XG.toCells (l:=[]) (XG.nil w 189 2 ((dr.tz c2).tz c3)) rfl)
      ·go_wp2_with fail
       refine CUTH.out.mono ?_
       rintro e w2 ⟨rfl,n,hw2⟩
       have c2:Qb [] wr w2:=hw2 ▸ Qb.drawn _ _
       clear hw2
       go_wp2_with fail
       refine(PN.out _ (HEr.out.keep c2)).mono ?_
       rintro e w3 ⟨he3,c3⟩
       subst he3
       have hA2:=Qd ((HA.out.later c2).later c3)
       go_wp2_with (at_builtin;refine Xm rfl (.tmp 43) (.tmp 47) _ rfl 189 _ 2 24 Tryz.underlying92 xG rfl (by omega) hA2.out (us:=[.string K,.int .i64 z]) (dsE:=WU ⟨K,z⟩) (uw ⟨K,z⟩ ((Qb.refl _ _).alloc _)) rfl w3.heap.size 1 rfl rfl (by intro j u hj;match j,hj with|0,hj=>cases hj;go_simp|1,hj=>cases hj;go_simp|j+2,hj=>simp at hj) (by intro u hu;simp at hu;rcases hu with rfl|rfl<;>rfl) (by omega) (by omega) ?_;intro A3 cap3 w4 hA3)
       go_roundw
       case rel=>exact⟨k+1,A3,cap3,out++ [⟨K,z⟩],by omega,by go_num,by go_num,by simp [hout],fun c hc=>(List.mem_append.1 hc).elim (hkey c) (fun hc=>by rw [List.mem_singleton] at hc;subst hc;exact hKs),HG,by rw [List.flatMap_append];simpa using hA3⟩
       case measure=>simp [intOf];omega
   ·obtain rfl:k=L.length:=by omega
    have HM2:=HM.out
    rw [List.take_length] at HM2
    have HG:=Qd (GOOD.out out HM2)
    have hN:=XG.toCells (l:=out) hh hout.symm
    have hrd:Rd wr wr.heap.size (cells out) (.slice A' L.length cap'):=hN.rd
    have IC:=Qd (YI out _ wr.heap.size wr hrd (Nat.le_refl _) (by omega) hkey)
    have HNN:=Qd (show Gd w wr (cells out) (.slice A' L.length cap') from by
     obtain⟨S,h1,h2,h3⟩:=hN
     exact⟨S,h1,fun x hx=>Nat.le_trans d1.size (h2 x hx),dr⟩)
    clear HM2 hN hrd hh
    by_cases hok:Zy out
    ·have IC2:=Qd (IC.out.mono (Qg.pos hok))
     have HP:=Qd (HG.out.1 hok)
     clear hok
     go_wp2_with fail
     refine IC2.out.mono ?_
     rintro e w2 ⟨rfl,c2⟩
     go_wp2_with fail
     go_ret2
     exact ZF.yes HP.out hout.symm (HNN.out.later c2)
    ·have IC2:=Qd (IC.out.mono (Qg.neg hok))
     have HP:=Qd (HG.out.2 hok)
     clear hok
     go_wp2_with fail
     refine IC2.out.mono ?_
     rintro e w2 ⟨rfl,c2⟩
     go_wp2_with fail
     go_ret2
     exact ZF.no HP.out (XG.toCells (l:=[]) (XG.nil w 189 2 (dr.tz c2)) rfl)
 ·have HD:=Qd (QdB hd)
  clear he
  go_enter Tryz.func116,Tryz.ntmps116
  go_wp2_with fail
  go_ret2
  exact ZF.yes (l:=[]) (by rw [HD.out];exact KZ) rfl (XG.toCells (l:=[]) (XG.nil w 189 2 (Qb.refl _ _)) rfl)
end Go.Proofs.YtlnkgcdeljhjcaaGreatDoor
