/- l9Wants of the reference. Conditions: as stated. -/
import Derived.Test.YtfjhdnjlhjimeaaGreatDoorRefA
import Derived.Test.YtfjhdnjlhjimeaaGreatDoorTextsP
import Derived.Test.YtfjhdnjlhjimeaaGreatDoorWantS
import Derived.Test.YtfjhdnjlhjimeaaGreatDoorPre3
set_option maxRecDepth 100000
set_option maxHeartbeats 8000000
namespace Go.Proofs.YtfjhdnjlhjimeaaGreatDoor
open Go.RowKit

theorem Qke:Qjv ⟨#[]⟩=none:=by decide+kernel
def Qj2 (w:World) (b:Nat) (A:Nat->Int->Prop):Prop:=∃u0 u1 u2,ZU w b [.int .i64 u0,.int .i64 u1,.int .i64 u2] /\Kd w b 3/\Qgm A 0 u0/\Qgm A 1 u1/\Qgm A 2 u2
theorem Qj2.noStrs {w:World} {b:Nat} {A:Nat->Int->Prop} (h:Qj2 w b A):Qjh w [b]:=by
 obtain⟨_,_,_,_,⟨cs,fr,hk⟩,_⟩:=h
 intro x hx cs' fr' h2
 rw [E0.1 hx,hk] at h2
 injection h2 with h2
 injection h2 with _ h3
 revert h3
 decide
theorem Qj2.keep {w w':World} {b:Nat} {A:Nat->Int->Prop} {S:List Nat} (h:Qj2 w b A) (hc:Qc S w w') (hb:b∉S:=by simp):Qj2 w' b A:=by
 obtain⟨u0,u1,u2,h1,h2,h3⟩:=h
 exact⟨u0,u1,u2,h1.keep hc hb,h2.keep hc hb,h3⟩
theorem Qj2.congr {w:World} {b:Nat} {A A':Nat->Int->Prop} (h:Qj2 w b A) (he:∀i n,A i n↔A' i n):Qj2 w b A':=by
 have:A=A':=funext fun i=>funext fun n=>propext (he i n)
 rwa [<-this]
def Qj8 (x:YY Kn):YY ByteArray:=x.map knT
theorem Qj9 (x:YY Kn) (i:Int):(Qj8 x).get i=knT (x.get i):=YY.map_get knT x i
theorem Qkb (x:YY Kn) (i:Int) (y:Kn):Qj8 (x.set i y)=(Qj8 x).set i (knT y):=YY.map_set knT x i y
def Qkc (a:Qa) (A1 A2:Option Addr) (c1 c2:Nat):Value:=.agg #[.int .i64 a.op,.int .i64 a.slot,.int .i64 a.other,.string a.word,.string a.call.method,.string a.call.key,.int .i64 a.call.value,.string a.call.text,.int .i64 a.face,.slice A1 a.A.length c1,.slice A2 a.B.length c2]
theorem Qkh (w:World) (cs1 cs2 cs3:Array Value) (t1 t2 t3:TypeId):ZU (((w.alloc (.cells cs1 t1)).alloc (.cells cs2 t2)).alloc (.cells cs3 t3)) w.heap.size cs1.toList/\ZU (((w.alloc (.cells cs1 t1)).alloc (.cells cs2 t2)).alloc (.cells cs3 t3)) (w.heap.size+1) cs2.toList/\
  ZU (((w.alloc (.cells cs1 t1)).alloc (.cells cs2 t2)).alloc (.cells cs3 t3)) (w.heap.size+2) cs3.toList/\Kd (((w.alloc (.cells cs1 t1)).alloc (.cells cs2 t2)).alloc (.cells cs3 t3)) (w.heap.size+2) t3:=
 ⟨((L9 w _ _).alloc _).alloc _,(ZU.newAt (w.alloc (.cells cs1 t1)) cs2 t2 (by simp)).alloc _,ZU.newAt ((w.alloc (.cells cs1 t1)).alloc (.cells cs2 t2)) cs3 t3 (by simp),Y3 ((w.alloc (.cells cs1 t1)).alloc (.cells cs2 t2)) cs3 t3 (by simp)⟩
theorem Qkg (w:World) (b:Nat) (u0 u1 u2 u3 u4 u5:Value):Qc [b] w ((((((w.setCell ⟨b,0,none⟩ u0).setCell ⟨b,1,none⟩ u1).setCell ⟨b,2,none⟩ u2).setCell ⟨b,3,none⟩ u3).setCell ⟨b,4,none⟩ u4).setCell ⟨b,5,none⟩ u5):=
 ((((((B0 _ _).setCell (.inl (by simp)) _).setCell (.inl (by simp)) _).setCell (.inl (by simp)) _).setCell (.inl (by simp)) _).setCell (.inl (by simp)) _).setCell (.inl (by simp)) _
theorem Kd.noStrs {w:World} {b:Nat} (h:Kd w b 109):Qjh w [b]:=by
 obtain⟨cs,fr,hk⟩:=h
 intro x hx cs' fr' h2
 rw [E0.1 hx,hk] at h2
 injection h2 with h2
 injection h2 with _ h3
 revert h3
 decide
def Qkf (a:Qa) (x:YY Kn) (bw cw:Nat) (A:Nat->Int->Prop) (w:World) (e:Ending) (w':World):Prop:=
 ∃(Ag:Option Addr) (ng cg:Nat) (code:Int) (ok:Bool),e= .returned (.tuple #[.agg #[.slice Ag ng cg,.slice none 0 0,.int .i64 code,.int .i64 0,.int .i64 0,.int .i64 0],.slice (some ⟨bw,0,none⟩) 3 cw,.bool ok])/\
  Qj2 w' bw (fun i n=>A i n∨(Qid a).ask x i n)/\Qc [bw] w w'/\(code=0∨code=1)/\(code=1↔(Qid a).fail x)/\
  (code=0->ok=false->∀y,¬(Qid a).reach x y)/\(code=1->∀y,¬(Qid a).reach x y)/\
  (code=0->ok=true->∃y,(∀z,(Qid a).reach x z↔z=y)/\Qjg w' (Qj8 y).list (.slice Ag ng cg))
theorem Qkm {a:Qa} (ha:ZG a) (h:a.op=2∨a.op=6∨a.op=7):ql (KV a):=by
 rcases h with h|h|h
 ·have hw:=((xJ h).1 ha).2.1
  obtain⟨y,hy⟩:=O6.1 hw
  have hm:=UZ hy
  have hall:∀p∈Yk,0<=p.2.1/\p.2.1<=63:=by decide
  unfold KV
  rw [if_neg (by omega),if_neg (by omega),hy]
  exact hall _ hm
 ·unfold KV
  rw [if_pos h]
  exact((jk h).1 ha).2.1
 ·unfold KV
  rw [if_neg (by omega),if_pos h]
  unfold ZR ql
  cases hk:Zg a.call.method with
  |none=>decide
  |some k=>
   obtain⟨j,hj,rfl,_⟩:=Ku hk
   match j,hj with
   |0,_|1,_|2,_|3,_|4,_|5,_=>decide
theorem Qkr:∀i k:Fin 3,(((W5 ((i.1:Nat):Int)).data.toList==(W5 ((k.1:Nat):Int)).data.toList))=decide (k=i):=by decide+kernel
theorem Qkt {i k:Nat} (hi:i<3) (hk:k<3):((W5 (i:Int)).toList==(W5 (k:Int)).toList)=decide (k=i):=by
 rw [ByteArray.toList_eq,ByteArray.toList_eq,Qkr ⟨i,hi⟩ ⟨k,hk⟩]
 simp
theorem Qks {w:World} {b g:Nat} {A:Nat->Int->Prop} {u0 u1 u2 u z:Int} (j0:Qgm A 0 u0) (j1:Qgm A 1 u1) (j2qq:Qgm A 2 u2) (hg:g<3) (hc:([.int .i64 u0,.int .i64 u1,.int .i64 u2]:List Value)[g]?=some (.int .i64 u)) (hz:ql z)
  (hB:ZU w b (([.int .i64 u0,.int .i64 u1,.int .i64 u2]:List Value).set g (.int .i64 (bits .or .i64 u z)))) (hK:Kd w b 3):Qj2 w b (fun i n=>A i n∨(i=g/\n=z)):=by
 have go:∀ {i:Nat} {v:Int},Qgm A i v->Qgm (fun i n=>A i n∨(i=g/\n=z)) i (if i=g then bits .or .i64 v z else v):=fun {i v} h=>by
  by_cases e:i=g
  ·rw [if_pos e, <-e]
   exact h.or hz
  ·rw [if_neg e]
   exact h.congr (fun n=>⟨.inl,fun h=>h.elim id (fun h=>absurd h.1 e)⟩)
 rcases(show g=0∨g=1∨g=2 by omega) with rfl|rfl|rfl
 ·cases hc;exact⟨_,_,_,hB,hK,go j0,go j1,go j2qq⟩
 ·cases hc;exact⟨_,_,_,hB,hK,go j0,go j1,go j2qq⟩
 ·cases hc;exact⟨_,_,_,hB,hK,go j0,go j1,go j2qq⟩
theorem Qkq {l:Nat} {f:Int} (h:l<=3/\ql f) {k:Nat} (hk:k<3):¬(knT (.known l f)).toList=(W5 (k:Int)).toList:=fun e=>by
 have e2:=congrArg List.length e
 rw [ByteArray.toList_eq,ByteArray.toList_eq,Zl,Zl] at e2
 have h1:=(Qjb ⟨k,by omega⟩).2
 have h2:=(Qjb ⟨l,by omega⟩).2
 simp only at h1 h2
 have h3:(knT (.known l f)).size=(W5 (l:Int)).size+(1+(Gc f).size):=by
  show(W5 (l:Int)++(xG++Gc f)).size=_
  rw [M3,M3]
  rfl
 omega
def goK (x y:YY Kn) (z:Int):Kn->Prop
 | .no=>False
 | .giv _=>y=x
 | .known _ f=>ZL f z/\y=x
theorem Qkk (a:Qa) (x:YY Kn) (h:a.op=6∨a.op=7) {knq:Kn} (hk:x.get a.slot=knq):(∀y,(Qid a).reach x y↔goK x y (KV a) knq)/\(∀i w,(Qid a).ask x i w↔knq= .giv i/\w=KV a)/\((Qid a).fail x↔ ∃l f,knq= .known l f/\¬ZL f (KV a)):=by
 have hn:¬a.op=1/\¬a.op=5/\¬a.op=4/\¬a.op=2:=by omega
 unfold Qid
 simp only [hn.1,hn.2.1,hn.2.2.1,hn.2.2.2,if_false,hk]
 exact⟨fun _=>by cases knq<;>exact i7,fun _ _=>by trivial,by trivial⟩
def Qkx (x y:YY Kn) (i z g:Int):Kn->Prop
 | .no=>False
 | .giv _=>y=x.set i (.known 1 g)
 | .known l f=>(3<=l/\y=x)∨(l<3/\ZL f z/\y=x.set i (.known (l+1) g))
theorem Qkv (a:Qa) (x:YY Kn) (h:a.op=2) {lw:Int×Int} (hl:Qj a.word=some lw) {knq:Kn} (hk:x.get a.slot=knq):(∀y,(Qid a).reach x y↔Qkx x y a.slot (KV a) lw.2 knq)/\(∀i w,(Qid a).ask x i w↔knq= .giv i/\w=KV a)/\((Qid a).fail x↔ ∃l f,knq= .known l f/\l<3/\¬ZL f (KV a)):=by
 have hn:¬a.op=1/\¬a.op=5/\¬a.op=4:=by omega
 unfold Qid
 rw [if_neg hn.1,if_neg hn.2.1,if_neg hn.2.2,if_pos h]
 simp only [hk,hl,Option.getD_some]
 exact⟨fun _=>by cases knq<;>exact i7,fun _ _=>by trivial,by trivial⟩
theorem Qj5 {a:Qa} (h:Qgc a):QE a.slot:=by
 obtain⟨ha,h3,h10⟩:=h
 have hop:=Gt ha
 have z:QE 0:=⟨by omega,by omega⟩
 rcases(show a.op=1∨a.op=2∨a.op=4∨a.op=5∨a.op=6∨a.op=7∨a.op=8∨a.op=9 by omega) with h|h|h|h|h|h|h|h
 ·exact((xQ h).1 ha).1
 ·exact((xJ h).1 ha).1
 ·exact((GV h).1 ha).1
 ·exact((kJ (.inr h)).1 ha).1
 ·exact((jk h).1 ha).1
 ·exact((jf h).1 ha).1
 ·rw [((jD (.inl h)).1 ha).1];exact z
 ·rw [((QcM h).1 ha).1];exact z
theorem Qkd (a:Qa) (x:YY Kn) (us:Value) (A1 A2:Option Addr) (c1 c2 bw cw:Nat) (A:Nat->Int->Prop) (w:World) (ha:Qgc a) (hx:x.All Kn.sm) (hs:Qjg w (Qj8 x).list us) (hW:Qj2 w bw A) (hop:a.op=5):
  Calls Tryz.prog 78 #[.agg #[us,.slice none 0 0,.int .i64 0,.int .i64 0,.int .i64 0,.int .i64 0],Qkc a A1 A2 c1 c2,.slice (some ⟨bw,0,none⟩) 3 cw] w (Qkf a x bw cw A w):=by
 have hslot:QE a.slot:=Qj5 ha
 obtain⟨b,off,c,eu,_,_,_,s0,s1,s2⟩:=hs.at3
 subst eu
 have lb:=Qk s0
 obtain⟨n,hn,hn3⟩:∃n:Nat,a.slot=(n:Int)/\n<3:=⟨a.slot.toNat,by have:=hslot.1;omega,by have:=hslot.2;omega⟩
 have get:∀k:Nat,k<3->w.cell? ⟨b,off+k,none⟩=some (.string (knT (x.get (k:Int)))):=fun k hk=>by
  rw [<-Qj9]
  rcases(show k=0∨k=1∨k=2 by omega) with rfl|rfl|rfl
  ·exact s0
  ·exact s1
  ·exact s2
 have hget:=get n hn3
 have ni:((n:Nat):Int)<3:=by omega
 unfold Qkc
 go_enter Tryz.func78,Tryz.ntmps78
 obtain⟨z0,hz0⟩:∃z,w.heap.size=z:=⟨_,rfl⟩
 go_upto_region 1 with fail
 refine Qp fun w2 hw2=>?_
 have c2x:Qc [] w w2:=by rw [hw2];exact C6
 have Bx:ZU w2 z0 [.slice (some ⟨b,off,none⟩) 3 c,.slice none 0 0,.int .i64 0,.int .i64 0,.int .i64 0,.int .i64 0]:=by rw [hw2, <-hz0];exact(Qkh w _ _ _ _ _ _).1
 have Ba:ZU w2 (z0+1) [.int .i64 5,.int .i64 (n:Int),.int .i64 a.other,.string a.word,.string a.call.method,.string a.call.key,.int .i64 a.call.value,.string a.call.text,.int .i64 a.face,.slice A1 a.A.length c1,.slice A2 a.B.length c2]:=by rw [hw2, <-hz0];exact(Qkh w _ _ _ _ _ _).2.1
 have Br:ZU w2 (z0+2) [.slice none 0 0,.slice none 0 0,.int .i64 0,.int .i64 0,.int .i64 0,.int .i64 0]:=by rw [hw2, <-hz0];exact(Qkh w _ _ _ _ _ _).2.2.1
 have W2:=hW.keep c2x
 have S2:=hs.keep c2x Qjh.nil
 have g2:=(c2x.cell (p:=⟨b,off+n,none⟩) lb (by simp)).trans hget
 have Krq:Kd w2 (z0+2) 109:=by rw [hw2, <-hz0];exact(Qkh w _ _ _ _ _ _).2.2.2
 clear hw2
 try rw [hz0]
 have px:=Bx.o6
 have pa:=Ba.o11
 have pr:=Br.o6
 have hre:(∀z,(Qid a).reach x z↔z=x.set a.slot Kn.no)/\(∀i n,¬(Qid a).ask x i n)/\¬(Qid a).fail x:=by
  unfold Qid
  simp only [hop,if_true,show ¬(5:Int)=1 by decide,if_false]
  exact⟨fun _=>by trivial,fun _ _ h=>h,fun h=>h⟩
 have hre2:=Qb hre
 clear hre
 have bwz:Hid (¬bw=z0+2):=Qb (fun e=>by obtain⟨_,_,_,h,_⟩:=hW;have:=h.lt;omega)
 have hxs:=hx.get (n:Int)
 have LF:=Qb (fun W=>Qjw (x.get (n:Int)) hxs W)
 have PF:=Qb (fun W=>Qj7 (x.get (n:Int)).ftext W)
 have LS:=Qb (fun W (hc:Qc [] w2 W)=>QjF (Qj8 x) _ (n:Int) (knT Kn.no) W (by rw [<-hn];exact hslot) (S2.keep hc Qjh.nil))
 have hsetT:(Qj8 x).set (n:Int) (knT Kn.no)=Qj8 (x.set a.slot Kn.no):=by rw [Qkb,hn]
 rw [hsetT] at LS
 obtain⟨s,hs9⟩:∃s,knT (x.get (n:Int))=s:=⟨_,rfl⟩
 obtain⟨ft,hft⟩:∃ft,(x.get (n:Int)).ftext=ft:=⟨_,rfl⟩
 rw [hs9] at g2 LF
 rw [hft] at LF PF
 obtain⟨fo,hfo⟩:∃fo,Qjv ft=fo:=⟨_,rfl⟩
 rw [hfo] at PF
 have l2:=c2x.size
 have C2:=Qb c2x
 have hnh:=Qb hn
 clear hs9 hft hfo hsetT get hget hn hslot c2x s0 s1 s2 hs hW hxs
 obtain⟨w4,hw4⟩:∃w4:World,w4=w2:=⟨_,rfl⟩
 have D4:Hid (Qc [] w2 w4):=Qb (by rw [hw4];exact B0 _ _)
 rw [<-hw4] at g2 px pa pr ⊢
 clear hw4
 have px4:=(Bx.keep D4.out).o6
 have pa4:=(Ba.keep D4.out).o11
 have pr4:=(Br.keep D4.out).o6
 go_wp2_with fail
 refine(LF.out _).mono ?_
 rintro e w5 ⟨rfl,d5⟩
 go_wp2_with fail
 refine(PF.out _).mono ?_
 rintro e w6 ⟨rfl,d6⟩
 have D6:=Qb ((D4.out.tz d5).tz d6)
 clear d5 d6 LF PF
 go_wp2_with fail
 go_loopw [116] (fun i wr=>∃k:Nat,k<=3/\i= .int .i64 (k:Int)/\Qc [] w6 wr) (fun i _=>3-(intOf i).toNat)
 case atStart=>exact⟨0,by omega,rfl,B0 _ _⟩
 case round=>
  obtain⟨k,hk,rfl,hc⟩:=hrel
  obtain⟨wo,hwo⟩:∃wo:World,wo=wr:=⟨_,rfl⟩
  rw [<-hwo] at hc ⊢
  clear hwo
  have DO:=Qb (D6.out.tz hc)
  by_cases hk3:k<3
  ·have kiq:((k:Nat):Int)<3:=by omega
   go_wp2_with fail
   go_roundw
   case rel=>exact⟨k+1,by omega,by go_num,hc⟩
   case measure=>simp [intOf];omega
  ·obtain rfl:k=3:=by omega
   have px6:=(Bx.keep DO.out).o6
   have pa6:=(Ba.keep DO.out).o11
   go_wp2_with fail
   refine(LS.out _ DO.out).mono ?_
   rintro e w7 ⟨v,rfl,hv,d7⟩
   obtain⟨vb,voq,vcq,ev,_,_,_,_,_,_⟩:=hv.at3
   subst ev
   have D7:=Qb (DO.out.tz d7)
   have B7:=Br.keep D7.out
   have pr7:=B7.o6
   have fr7:=B7.f
   have K7:=Krq.keep D7.out
   have b6:=(((((B7.set 0 (.slice (some ⟨vb,voq,none⟩) 3 vcq)).set 1 (.slice none 0 0)).set 2 (.int .i64 0)).set 3 (.int .i64 0)).set 4 (.int .i64 0)).set 5 (.int .i64 0)
   have r7:=b6.o6
   clear LS px6 pa6 d7 hc
   go_wp2_with fail
   refine bodyPost_ret (v:=.tuple #[.agg #[.slice (some ⟨vb,voq,none⟩) 3 vcq,.slice none 0 0,.int .i64 0,.int .i64 0,.int .i64 0,.int .i64 0],.slice (some ⟨bw,0,none⟩) 3 cw,.bool true]) (by simp only [results,Tryz.results78];go_simp) rfl ?_
   have hcw2:=Qkg w7 (z0+2) (.slice (some ⟨vb,voq,none⟩) 3 vcq) (.slice none 0 0) (.int .i64 0) (.int .i64 0) (.int .i64 0) (.int .i64 0)
   have hcz:Qc [] w _:=(C2.out.tz D7.out).trans hcw2 (fun y hy=>.inr (by rw [E0.1 hy];omega))
   refine⟨_,_,_,0,true,rfl,?_,hcz.mono (by simp),.inl rfl,⟨fun h=>absurd h (by decide),fun h=>absurd h hre2.out.2.2⟩,fun _ h=>absurd h (by decide),fun h=>absurd h (by decide),fun _ _=>⟨_,hre2.out.1,by first|exact hv.keep hcw2 K7.noStrs|(rw [hmo.out];exact hv.keep hcw2 K7.noStrs)⟩⟩
   exact((W2.keep D7.out).keep hcw2 (by rw [E0];exact bwz.out)).congr (fun i n=>⟨.inl,fun h=>h.elim id (fun h=>absurd h (hre2.out.2.1 i n))⟩)
theorem Qki (a:Qa) (x:YY Kn) (us:Value) (A1 A2:Option Addr) (c1 c2 bw cw:Nat) (A:Nat->Int->Prop) (w:World) (ha:Qgc a) (hx:x.All Kn.sm) (hs:Qjg w (Qj8 x).list us) (hW:Qj2 w bw A) (hop:a.op=4):
  Calls Tryz.prog 78 #[.agg #[us,.slice none 0 0,.int .i64 0,.int .i64 0,.int .i64 0,.int .i64 0],Qkc a A1 A2 c1 c2,.slice (some ⟨bw,0,none⟩) 3 cw] w (Qkf a x bw cw A w):=by
 have hslot:QE a.slot:=Qj5 ha
 obtain⟨b,off,c,eu,_,_,_,s0,s1,s2⟩:=hs.at3
 subst eu
 have lb:=Qk s0
 obtain⟨n,hn,hn3⟩:∃n:Nat,a.slot=(n:Int)/\n<3:=⟨a.slot.toNat,by have:=hslot.1;omega,by have:=hslot.2;omega⟩
 have get:∀k:Nat,k<3->w.cell? ⟨b,off+k,none⟩=some (.string (knT (x.get (k:Int)))):=fun k hk=>by
  rw [<-Qj9]
  rcases(show k=0∨k=1∨k=2 by omega) with rfl|rfl|rfl
  ·exact s0
  ·exact s1
  ·exact s2
 have hget:=get n hn3
 have ni:((n:Nat):Int)<3:=by omega
 unfold Qkc
 go_enter Tryz.func78,Tryz.ntmps78
 obtain⟨z0,hz0⟩:∃z,w.heap.size=z:=⟨_,rfl⟩
 go_upto_region 1 with fail
 refine Qp fun w2 hw2=>?_
 have c2x:Qc [] w w2:=by rw [hw2];exact C6
 have Bx:ZU w2 z0 [.slice (some ⟨b,off,none⟩) 3 c,.slice none 0 0,.int .i64 0,.int .i64 0,.int .i64 0,.int .i64 0]:=by rw [hw2, <-hz0];exact(Qkh w _ _ _ _ _ _).1
 have Ba:ZU w2 (z0+1) [.int .i64 4,.int .i64 (n:Int),.int .i64 a.other,.string a.word,.string a.call.method,.string a.call.key,.int .i64 a.call.value,.string a.call.text,.int .i64 a.face,.slice A1 a.A.length c1,.slice A2 a.B.length c2]:=by rw [hw2, <-hz0];exact(Qkh w _ _ _ _ _ _).2.1
 have Br:ZU w2 (z0+2) [.slice none 0 0,.slice none 0 0,.int .i64 0,.int .i64 0,.int .i64 0,.int .i64 0]:=by rw [hw2, <-hz0];exact(Qkh w _ _ _ _ _ _).2.2.1
 have W2:=hW.keep c2x
 have S2:=hs.keep c2x Qjh.nil
 have g2:=(c2x.cell (p:=⟨b,off+n,none⟩) lb (by simp)).trans hget
 have Krq:Kd w2 (z0+2) 109:=by rw [hw2, <-hz0];exact(Qkh w _ _ _ _ _ _).2.2.2
 clear hw2
 try rw [hz0]
 have px:=Bx.o6
 have pa:=Ba.o11
 have pr:=Br.o6
 have hre:(∀z,(Qid a).reach x z↔z=x.set a.slot (x.get a.other))/\(∀i n,¬(Qid a).ask x i n)/\¬(Qid a).fail x:=by
  unfold Qid
  simp only [hop,if_true,show ¬(4:Int)=1 by decide,show ¬(4:Int)=5 by decide,if_false]
  exact⟨fun _=>by trivial,fun _ _ h=>h,fun h=>h⟩
 have hre2:=Qb hre
 clear hre
 have bwz:Hid (¬bw=z0+2):=Qb (fun e=>by obtain⟨_,_,_,h,_⟩:=hW;have:=h.lt;omega)
 have hxs:=hx.get (n:Int)
 have LF:=Qb (fun W=>Qjw (x.get (n:Int)) hxs W)
 have PF:=Qb (fun W=>Qj7 (x.get (n:Int)).ftext W)
 have LS:=Qb (fun W (hc:Qc [] w2 W)=>QjF (Qj8 x) _ (n:Int) (knT (x.get a.other)) W (by rw [<-hn];exact hslot) (S2.keep hc Qjh.nil))
 have hsetT:(Qj8 x).set (n:Int) (knT (x.get a.other))=Qj8 (x.set a.slot (x.get a.other)):=by rw [Qkb,hn]
 rw [hsetT] at LS
 have hoth:QE a.other:=((GV hop).1 ha.1).2.1
 obtain⟨m,hm,hm3⟩:∃m:Nat,a.other=(m:Int)/\m<3:=⟨a.other.toNat,by have:=hoth.1;omega,by have:=hoth.2;omega⟩
 have g4:=(c2x.cell (p:=⟨b,off+m,none⟩) lb (by simp)).trans (get m hm3)
 have mi:((m:Nat):Int)<3:=by omega
 rw [hm] at Ba LS
 have pa:=Ba.o11
 have hmo:=Qb hm
 clear hm hoth
 obtain⟨s,hs9⟩:∃s,knT (x.get (n:Int))=s:=⟨_,rfl⟩
 obtain⟨ft,hft⟩:∃ft,(x.get (n:Int)).ftext=ft:=⟨_,rfl⟩
 rw [hs9] at g2 LF
 rw [hft] at LF PF
 obtain⟨fo,hfo⟩:∃fo,Qjv ft=fo:=⟨_,rfl⟩
 rw [hfo] at PF
 have l2:=c2x.size
 have C2:=Qb c2x
 have hnh:=Qb hn
 clear hs9 hft hfo hsetT get hget hn hslot c2x s0 s1 s2 hs hW hxs
 obtain⟨w4,hw4⟩:∃w4:World,w4=w2:=⟨_,rfl⟩
 have D4:Hid (Qc [] w2 w4):=Qb (by rw [hw4];exact B0 _ _)
 rw [<-hw4] at g2 px pa pr g4 ⊢
 clear hw4
 have px4:=(Bx.keep D4.out).o6
 have pa4:=(Ba.keep D4.out).o11
 have pr4:=(Br.keep D4.out).o6
 go_wp2_with fail
 refine(LF.out _).mono ?_
 rintro e w5 ⟨rfl,d5⟩
 go_wp2_with fail
 refine(PF.out _).mono ?_
 rintro e w6 ⟨rfl,d6⟩
 have D6:=Qb ((D4.out.tz d5).tz d6)
 clear d5 d6 LF PF
 go_wp2_with fail
 go_loopw [116] (fun i wr=>∃k:Nat,k<=3/\i= .int .i64 (k:Int)/\Qc [] w6 wr) (fun i _=>3-(intOf i).toNat)
 case atStart=>exact⟨0,by omega,rfl,B0 _ _⟩
 case round=>
  obtain⟨k,hk,rfl,hc⟩:=hrel
  obtain⟨wo,hwo⟩:∃wo:World,wo=wr:=⟨_,rfl⟩
  rw [<-hwo] at hc ⊢
  clear hwo
  have DO:=Qb (D6.out.tz hc)
  by_cases hk3:k<3
  ·have kiq:((k:Nat):Int)<3:=by omega
   go_wp2_with fail
   go_roundw
   case rel=>exact⟨k+1,by omega,by go_num,hc⟩
   case measure=>simp [intOf];omega
  ·obtain rfl:k=3:=by omega
   have px6:=(Bx.keep DO.out).o6
   have pa6:=(Ba.keep DO.out).o11
   go_wp2_with fail
   refine(LS.out _ DO.out).mono ?_
   rintro e w7 ⟨v,rfl,hv,d7⟩
   obtain⟨vb,voq,vcq,ev,_,_,_,_,_,_⟩:=hv.at3
   subst ev
   have D7:=Qb (DO.out.tz d7)
   have B7:=Br.keep D7.out
   have pr7:=B7.o6
   have fr7:=B7.f
   have K7:=Krq.keep D7.out
   have b6:=(((((B7.set 0 (.slice (some ⟨vb,voq,none⟩) 3 vcq)).set 1 (.slice none 0 0)).set 2 (.int .i64 0)).set 3 (.int .i64 0)).set 4 (.int .i64 0)).set 5 (.int .i64 0)
   have r7:=b6.o6
   clear LS px6 pa6 d7 hc
   go_wp2_with fail
   refine bodyPost_ret (v:=.tuple #[.agg #[.slice (some ⟨vb,voq,none⟩) 3 vcq,.slice none 0 0,.int .i64 0,.int .i64 0,.int .i64 0,.int .i64 0],.slice (some ⟨bw,0,none⟩) 3 cw,.bool true]) (by simp only [results,Tryz.results78];go_simp) rfl ?_
   have hcw2:=Qkg w7 (z0+2) (.slice (some ⟨vb,voq,none⟩) 3 vcq) (.slice none 0 0) (.int .i64 0) (.int .i64 0) (.int .i64 0) (.int .i64 0)
   have hcz:Qc [] w _:=(C2.out.tz D7.out).trans hcw2 (fun y hy=>.inr (by rw [E0.1 hy];omega))
   refine⟨_,_,_,0,true,rfl,?_,hcz.mono (by simp),.inl rfl,⟨fun h=>absurd h (by decide),fun h=>absurd h hre2.out.2.2⟩,fun _ h=>absurd h (by decide),fun h=>absurd h (by decide),fun _ _=>⟨_,hre2.out.1,by first|exact hv.keep hcw2 K7.noStrs|(rw [hmo.out];exact hv.keep hcw2 K7.noStrs)⟩⟩
   exact((W2.keep D7.out).keep hcw2 (by rw [E0];exact bwz.out)).congr (fun i n=>⟨.inl,fun h=>h.elim id (fun h=>absurd h (hre2.out.2.1 i n))⟩)
theorem Qkj (a:Qa) (x:YY Kn) (us:Value) (A1 A2:Option Addr) (c1 c2 bw cw:Nat) (A:Nat->Int->Prop) (w:World) (ha:Qgc a) (hx:x.All Kn.sm) (hs:Qjg w (Qj8 x).list us) (hW:Qj2 w bw A) (hop:a.op=1):
  Calls Tryz.prog 78 #[.agg #[us,.slice none 0 0,.int .i64 0,.int .i64 0,.int .i64 0,.int .i64 0],Qkc a A1 A2 c1 c2,.slice (some ⟨bw,0,none⟩) 3 cw] w (Qkf a x bw cw A w):=by
 have hslot:QE a.slot:=Qj5 ha
 obtain⟨b,off,c,eu,_,_,_,s0,s1,s2⟩:=hs.at3
 subst eu
 have lb:=Qk s0
 obtain⟨n,hn,hn3⟩:∃n:Nat,a.slot=(n:Int)/\n<3:=⟨a.slot.toNat,by have:=hslot.1;omega,by have:=hslot.2;omega⟩
 have get:∀k:Nat,k<3->w.cell? ⟨b,off+k,none⟩=some (.string (knT (x.get (k:Int)))):=fun k hk=>by
  rw [<-Qj9]
  rcases(show k=0∨k=1∨k=2 by omega) with rfl|rfl|rfl
  ·exact s0
  ·exact s1
  ·exact s2
 have hget:=get n hn3
 have ni:((n:Nat):Int)<3:=by omega
 unfold Qkc
 go_enter Tryz.func78,Tryz.ntmps78
 obtain⟨z0,hz0⟩:∃z,w.heap.size=z:=⟨_,rfl⟩
 go_upto_region 1 with fail
 refine Qp fun w2 hw2=>?_
 have c2x:Qc [] w w2:=by rw [hw2];exact C6
 have Bx:ZU w2 z0 [.slice (some ⟨b,off,none⟩) 3 c,.slice none 0 0,.int .i64 0,.int .i64 0,.int .i64 0,.int .i64 0]:=by rw [hw2, <-hz0];exact(Qkh w _ _ _ _ _ _).1
 have Ba:ZU w2 (z0+1) [.int .i64 1,.int .i64 (n:Int),.int .i64 a.other,.string a.word,.string a.call.method,.string a.call.key,.int .i64 a.call.value,.string a.call.text,.int .i64 a.face,.slice A1 a.A.length c1,.slice A2 a.B.length c2]:=by rw [hw2, <-hz0];exact(Qkh w _ _ _ _ _ _).2.1
 have Br:ZU w2 (z0+2) [.slice none 0 0,.slice none 0 0,.int .i64 0,.int .i64 0,.int .i64 0,.int .i64 0]:=by rw [hw2, <-hz0];exact(Qkh w _ _ _ _ _ _).2.2.1
 have W2:=hW.keep c2x
 have S2:=hs.keep c2x Qjh.nil
 have g2:=(c2x.cell (p:=⟨b,off+n,none⟩) lb (by simp)).trans hget
 have Krq:Kd w2 (z0+2) 109:=by rw [hw2, <-hz0];exact(Qkh w _ _ _ _ _ _).2.2.2
 clear hw2
 try rw [hz0]
 have px:=Bx.o6
 have pa:=Ba.o11
 have pr:=Br.o6
 have hre:(∀z,(Qid a).reach x z↔z=x.set a.slot (Kn.known 0 ((Qo a.word).getD 0)))/\(∀i n,¬(Qid a).ask x i n)/\¬(Qid a).fail x:=by
  unfold Qid
  simp only [hop,if_true]
  exact⟨fun _=>by trivial,fun _ _ h=>h,fun h=>h⟩
 have hre2:=Qb hre
 clear hre
 have bwz:Hid (¬bw=z0+2):=Qb (fun e=>by obtain⟨_,_,_,h,_⟩:=hW;have:=h.lt;omega)
 have hxs:=hx.get (n:Int)
 have LF:=Qb (fun W=>Qjw (x.get (n:Int)) hxs W)
 have PF:=Qb (fun W=>Qj7 (x.get (n:Int)).ftext W)
 have LS:=Qb (fun W (hc:Qc [] w2 W)=>QjF (Qj8 x) _ (n:Int) (knT (Kn.known 0 ((Qo a.word).getD 0))) W (by rw [<-hn];exact hslot) (S2.keep hc Qjh.nil))
 have hsetT:(Qj8 x).set (n:Int) (knT (Kn.known 0 ((Qo a.word).getD 0)))=Qj8 (x.set a.slot (Kn.known 0 ((Qo a.word).getD 0))):=by rw [Qkb,hn]
 rw [hsetT] at LS
 have KF:=Qb (fun W=>QN a.word W)
 have LK:=Qb (fun W=>Qju ((Qo a.word).getD 0) 0 W (by omega))
 obtain⟨s,hs9⟩:∃s,knT (x.get (n:Int))=s:=⟨_,rfl⟩
 obtain⟨ft,hft⟩:∃ft,(x.get (n:Int)).ftext=ft:=⟨_,rfl⟩
 rw [hs9] at g2 LF
 rw [hft] at LF PF
 obtain⟨fo,hfo⟩:∃fo,Qjv ft=fo:=⟨_,rfl⟩
 rw [hfo] at PF
 have l2:=c2x.size
 have C2:=Qb c2x
 have hnh:=Qb hn
 clear hs9 hft hfo hsetT get hget hn hslot c2x s0 s1 s2 hs hW hxs
 go_wp2_with fail
 refine(KF.out _).mono ?_
 rintro e w3 ⟨rfl,d3⟩
 go_wp2_with fail
 refine(LK.out _).mono ?_
 rintro e w4 ⟨rfl,d4⟩
 have D4:=Qb ((B0 [] w2).tz (d3.tz d4))
 have px4:=(Bx.keep D4.out).o6
 have pa4:=(Ba.keep D4.out).o11
 have pr4:=(Br.keep D4.out).o6
 go_wp2_with fail
 refine(LF.out _).mono ?_
 rintro e w5 ⟨rfl,d5⟩
 go_wp2_with fail
 refine(PF.out _).mono ?_
 rintro e w6 ⟨rfl,d6⟩
 have D6:=Qb ((D4.out.tz d5).tz d6)
 clear d5 d6 LF PF
 go_wp2_with fail
 go_loopw [116] (fun i wr=>∃k:Nat,k<=3/\i= .int .i64 (k:Int)/\Qc [] w6 wr) (fun i _=>3-(intOf i).toNat)
 case atStart=>exact⟨0,by omega,rfl,B0 _ _⟩
 case round=>
  obtain⟨k,hk,rfl,hc⟩:=hrel
  obtain⟨wo,hwo⟩:∃wo:World,wo=wr:=⟨_,rfl⟩
  rw [<-hwo] at hc ⊢
  clear hwo
  have DO:=Qb (D6.out.tz hc)
  by_cases hk3:k<3
  ·have kiq:((k:Nat):Int)<3:=by omega
   go_wp2_with fail
   go_roundw
   case rel=>exact⟨k+1,by omega,by go_num,hc⟩
   case measure=>simp [intOf];omega
  ·obtain rfl:k=3:=by omega
   have px6:=(Bx.keep DO.out).o6
   have pa6:=(Ba.keep DO.out).o11
   go_wp2_with fail
   refine(LS.out _ DO.out).mono ?_
   rintro e w7 ⟨v,rfl,hv,d7⟩
   obtain⟨vb,voq,vcq,ev,_,_,_,_,_,_⟩:=hv.at3
   subst ev
   have D7:=Qb (DO.out.tz d7)
   have B7:=Br.keep D7.out
   have pr7:=B7.o6
   have fr7:=B7.f
   have K7:=Krq.keep D7.out
   have b6:=(((((B7.set 0 (.slice (some ⟨vb,voq,none⟩) 3 vcq)).set 1 (.slice none 0 0)).set 2 (.int .i64 0)).set 3 (.int .i64 0)).set 4 (.int .i64 0)).set 5 (.int .i64 0)
   have r7:=b6.o6
   clear LS px6 pa6 d7 hc
   go_wp2_with fail
   refine bodyPost_ret (v:=.tuple #[.agg #[.slice (some ⟨vb,voq,none⟩) 3 vcq,.slice none 0 0,.int .i64 0,.int .i64 0,.int .i64 0,.int .i64 0],.slice (some ⟨bw,0,none⟩) 3 cw,.bool true]) (by simp only [results,Tryz.results78];go_simp) rfl ?_
   have hcw2:=Qkg w7 (z0+2) (.slice (some ⟨vb,voq,none⟩) 3 vcq) (.slice none 0 0) (.int .i64 0) (.int .i64 0) (.int .i64 0) (.int .i64 0)
   have hcz:Qc [] w _:=(C2.out.tz D7.out).trans hcw2 (fun y hy=>.inr (by rw [E0.1 hy];omega))
   refine⟨_,_,_,0,true,rfl,?_,hcz.mono (by simp),.inl rfl,⟨fun h=>absurd h (by decide),fun h=>absurd h hre2.out.2.2⟩,fun _ h=>absurd h (by decide),fun h=>absurd h (by decide),fun _ _=>⟨_,hre2.out.1,by first|exact hv.keep hcw2 K7.noStrs|(rw [hmo.out];exact hv.keep hcw2 K7.noStrs)⟩⟩
   exact((W2.keep D7.out).keep hcw2 (by rw [E0];exact bwz.out)).congr (fun i n=>⟨.inl,fun h=>h.elim id (fun h=>absurd h (hre2.out.2.1 i n))⟩)
theorem Qkw (a:Qa) (x:YY Kn) (us:Value) (A1 A2:Option Addr) (c1 c2 bw cw:Nat) (A:Nat->Int->Prop) (w:World) (ha:Qgc a) (hx:x.All Kn.sm) (hs:Qjg w (Qj8 x).list us) (hW:Qj2 w bw A) (hop:a.op=2):
  Calls Tryz.prog 78 #[.agg #[us,.slice none 0 0,.int .i64 0,.int .i64 0,.int .i64 0,.int .i64 0],Qkc a A1 A2 c1 c2,.slice (some ⟨bw,0,none⟩) 3 cw] w (Qkf a x bw cw A w):=by
 have hslot:QE a.slot:=Qj5 ha
 obtain⟨b,off,c,eu,_,_,_,s0,s1,s2⟩:=hs.at3
 subst eu
 have lb:=Qk s0
 obtain⟨n,hn,hn3⟩:∃n:Nat,a.slot=(n:Int)/\n<3:=⟨a.slot.toNat,by have:=hslot.1;omega,by have:=hslot.2;omega⟩
 have get:∀k:Nat,k<3->w.cell? ⟨b,off+k,none⟩=some (.string (knT (x.get (k:Int)))):=fun k hk=>by
  rw [<-Qj9]
  rcases(show k=0∨k=1∨k=2 by omega) with rfl|rfl|rfl
  ·exact s0
  ·exact s1
  ·exact s2
 have hget:=get n hn3
 have ni:((n:Nat):Int)<3:=by omega
 unfold Qkc
 go_enter Tryz.func78,Tryz.ntmps78
 obtain⟨z0,hz0⟩:∃z,w.heap.size=z:=⟨_,rfl⟩
 go_upto_region 1 with fail
 refine Qp fun w2 hw2=>?_
 have c2x:Qc [] w w2:=by rw [hw2];exact C6
 have Bx:ZU w2 z0 [.slice (some ⟨b,off,none⟩) 3 c,.slice none 0 0,.int .i64 0,.int .i64 0,.int .i64 0,.int .i64 0]:=by rw [hw2, <-hz0];exact(Qkh w _ _ _ _ _ _).1
 have Ba:ZU w2 (z0+1) [.int .i64 2,.int .i64 (n:Int),.int .i64 a.other,.string a.word,.string a.call.method,.string a.call.key,.int .i64 a.call.value,.string a.call.text,.int .i64 a.face,.slice A1 a.A.length c1,.slice A2 a.B.length c2]:=by rw [hw2, <-hz0];exact(Qkh w _ _ _ _ _ _).2.1
 have Br:ZU w2 (z0+2) [.slice none 0 0,.slice none 0 0,.int .i64 0,.int .i64 0,.int .i64 0,.int .i64 0]:=by rw [hw2, <-hz0];exact(Qkh w _ _ _ _ _ _).2.2.1
 have W2:=hW.keep c2x
 have S2:=hs.keep c2x Qjh.nil
 have g2:=(c2x.cell (p:=⟨b,off+n,none⟩) lb (by simp)).trans hget
 have Krq:Kd w2 (z0+2) 109:=by rw [hw2, <-hz0];exact(Qkh w _ _ _ _ _ _).2.2.2
 clear hw2
 try rw [hz0]
 have px:=Bx.o6
 have pa:=Ba.o11
 have pr:=Br.o6
 have hz:ql (KV a):=Qkm ha.1 (by omega)
 obtain⟨u0,u1,u2,hbw,hkw,j0,j1,j2qq⟩:=id W2
 have lbw:=hbw.lt
 have hxs:=hx.get (n:Int)
 obtain⟨lw,hlw⟩:=O6.1 ((xJ hop).1 ha.1).2.1
 have hstep:=fun(knq:Kn) (h:x.get (n:Int)=knq)=>Qkv a x hop hlw (knq:=knq) (by rw [hn];exact h)
 obtain⟨z,hzz⟩:∃z,KV a=z:=⟨_,rfl⟩
 rw [hzz] at hz
 obtain⟨z1,g⟩:=lw
 obtain rfl:z1=z:=by rw [<-hzz];unfold KV;rw [if_neg (by omega),if_neg (by omega),hlw];rfl
 have LN:Hid (∀W,Calls Tryz.prog 115 #[.string a.word] W (WU (some z1) W)):=Qb (fun W=>by have:=QK a.word W;rw [hlw] at this;exact this)
 have LG:Hid (∀W,Calls Tryz.prog 116 #[.string a.word] W (WU (some g) W)):=Qb (fun W=>by have:=Qjn a.word W;rw [hlw] at this;exact this)
 obtain⟨z,hz1⟩:∃z,z1=z:=⟨_,rfl⟩
 rw [hz1] at hz hzz LN
 clear hlw hz1
 have l2:=c2x.size
 have C2:=Qb c2x
 have hnh:=Qb hn
 have LF:=Qb (fun W=>Qjw (x.get (n:Int)) hxs W)
 have FN:=Qb (fun(k:Nat) (hk:k<3) W=>Wx (k:Int) W (by omega) (by omega))
 have hbwl:=Qb (show bw<w.heap.size by obtain⟨_,_,_,h,_⟩:=hW;exact h.lt)
 have bwz:¬bw=z0+2:=by obtain⟨_,_,_,h,_⟩:=hW;have:=h.lt;omega
 replace hstep:=Qb hstep
 clear get hget hslot c2x s0 s1 s2 hs hW
 cases hkn:x.get (n:Int) with
 |no=>
  rw [hkn] at g2
  replace g2:w2.cell? ⟨b,off+n,none⟩=some (.string ⟨#[]⟩):=g2
  have HS:=Qb (hstep.out _ hkn)
  clear hkn LF FN hstep
  have LL:Hid (∀W,Calls Tryz.prog 117 #[.string ⟨#[]⟩] W (xY 0 W)):=Qb (fun W=>Qjt .no trivial W)
  have LK:Hid (∀W,Calls Tryz.prog 114 #[.int .i64 g,.int .i64 1] W (Kv (knT (.known 1 g)) W)):=Qb (fun W=>Qju g 1 W (by omega))
  go_wp2_with fail
  refine(LN.out _).mono ?_
  rintro e wa ⟨rfl,da⟩
  have paA:=(Ba.keep da).o11
  go_wp2_with fail
  refine(LG.out _).mono ?_
  rintro e wb ⟨rfl,db⟩
  go_wp2_with fail
  refine(LL.out _).mono ?_
  rintro e wc ⟨rfl,dc⟩
  go_wp2_with fail
  refine(LK.out _).mono ?_
  rintro e V ⟨rfl,dd⟩
  have DV:=Qb (((da.tz db).tz dc).tz dd)
  clear da db dc dd paA
  have pxV:=(Bx.keep DV.out).o6
  have paV:=(Ba.keep DV.out).o11
  have prV:=(Br.keep DV.out).o6
  have BV:=Br.keep DV.out
  have frV:=BV.f
  go_wp2_with fail
  have hcw2:=Qkg V (z0+2) (.slice (some ⟨b,off,none⟩) 3 c) (.slice none 0 0) (.int .i64 0) (.int .i64 0) (.int .i64 0) (.int .i64 0)
  have b6:=((((((BV.set 0 (.slice (some ⟨b,off,none⟩) 3 c)).set 1 (.slice none 0 0)).set 2 (.int .i64 0)).set 3 (.int .i64 0)).set 4 (.int .i64 0)).set 5 (.int .i64 0))
  have r7:=b6.o6
  refine bodyPost_ret (v:=.tuple #[.agg #[.slice (some ⟨b,off,none⟩) 3 c,.slice none 0 0,.int .i64 0,.int .i64 0,.int .i64 0,.int .i64 0],.slice (some ⟨bw,0,none⟩) 3 cw,.bool false]) (by simp only [results,Tryz.results78];go_simp) rfl ?_
  have hcz:Qc [] w _:=(C2.out.tz DV.out).trans hcw2 (fun y hy=>.inr (by rw [E0.1 hy];omega))
  refine⟨_,_,_,0,false,rfl,((W2.keep DV.out).keep hcw2 (by rw [E0];exact bwz)).congr (fun i n=>⟨.inl,fun h=>h.elim id (fun h=>by cases((HS.out.2.1 i n).1 h).1)⟩),hcz.mono (by simp),.inl rfl,⟨fun h=>absurd h (by decide),fun h=>by obtain⟨_,_,h,_⟩:=HS.out.2.2.1 h;cases h⟩,fun _ _ y h=>(HS.out.1 y).1 h,fun h=>absurd h (by decide),fun _ h=>absurd h (by decide)⟩
 | known l f=>
  have hsm:l<=3/\ql f:=by rw [hkn] at hxs;exact hxs
  have HS:=Qb (hstep.out _ hkn)
  have LF2:=Qb (fun W=>Qjw (.known l f) hsm W)
  replace LF2:Hid (∀W,Calls Tryz.prog 120 #[.string (knT (.known l f))] W (Kv (Gc f) W)):=LF2
  have PF:=Qb (fun W=>Qj7 (Gc f) W)
  rw [Qko hsm.2] at PF
  have OF:=Qb (fun W=>Qkn f z W)
  have hne0:((knT (.known l f)).toList== [])=false:=by rw [beq_eq_false_iff_ne];exact fun h=>by cases(Qjy (x:=.known l f) hsm).1 h
  have hneq:Hid (∀k:Nat,k<3->((knT (.known l f)).toList==(W5 (k:Int)).toList)=false):=Qb (fun k hk=>by rw [beq_eq_false_iff_ne];exact Qkq hsm hk)
  have LS:=Qb (fun W (hc:Qc [] w2 W)=>QjF (Qj8 x) _ (n:Int) (knT (.known (l+1) g)) W ⟨by omega,by omega⟩ (S2.keep hc Qjh.nil))
  have hsetT:(Qj8 x).set (n:Int) (knT (.known (l+1) g))=Qj8 (x.set a.slot (.known (l+1) g)):=by rw [Qkb,hn]
  rw [hsetT] at LS
  rw [hkn] at g2
  have LL:Hid (∀W,Calls Tryz.prog 117 #[.string (knT (.known l f))] W (xY (l:Int) W)):=Qb (fun W=>Qjt (.known l f) hsm W)
  have LK:Hid (∀W,Calls Tryz.prog 114 #[.int .i64 g,.int .i64 ((l:Int)+1)] W (Kv (knT (.known (l+1) g)) W)):=Qb (fun W=>Qju g (l+1) W (by omega))
  obtain⟨pt,hpt⟩:∃pt,knT (.known (l+1) g)=pt:=⟨_,rfl⟩
  rw [hpt] at LS LK
  clear hpt
  have hl3:(l:Int)<=3:=by have:=hsm.1;omega
  obtain⟨s,hs9⟩:∃s,knT (.known l f)=s:=⟨_,rfl⟩
  rw [hs9] at g2 LF2 hne0 hneq LL
  obtain⟨ft,hft⟩:∃ft,Gc f=ft:=⟨_,rfl⟩
  rw [hft] at LF2 PF
  clear hkn hxs LF hstep hsetT hs9 hft
  go_wp2_with fail
  refine(LN.out _).mono ?_
  rintro e wa ⟨rfl,da⟩
  have paA:=(Ba.keep da).o11
  go_wp2_with fail
  refine(LG.out _).mono ?_
  rintro e wb ⟨rfl,db⟩
  go_wp2_with fail
  refine(LL.out _).mono ?_
  rintro e wc ⟨rfl,dc⟩
  go_wp2_with fail
  refine(LK.out _).mono ?_
  rintro e V ⟨rfl,dd⟩
  have DV:=Qb (((da.tz db).tz dc).tz dd)
  clear da db dc dd paA
  have pxV:=(Bx.keep DV.out).o6
  have paV:=(Ba.keep DV.out).o11
  have prV:=(Br.keep DV.out).o6
  go_wp2_with fail
  refine(LL.out _).mono ?_
  rintro e VXq ⟨rfl,dx⟩
  have DX:=Qb (DV.out.tz dx)
  clear dx
  have pxX:=(Bx.keep DX.out).o6
  have paX:=(Ba.keep DX.out).o11
  have prX:=(Br.keep DX.out).o6
  by_cases hl2:(l:Int)<3
  rotate_left
  ·have BV:=Br.keep DX.out
   have frV:=BV.f
   go_wp2_with fail
   have hcw2:=Qkg VXq (z0+2) (.slice (some ⟨b,off,none⟩) 3 c) (.slice none 0 0) (.int .i64 0) (.int .i64 0) (.int .i64 0) (.int .i64 0)
   have b6:=((((((BV.set 0 (.slice (some ⟨b,off,none⟩) 3 c)).set 1 (.slice none 0 0)).set 2 (.int .i64 0)).set 3 (.int .i64 0)).set 4 (.int .i64 0)).set 5 (.int .i64 0))
   have r7:=b6.o6
   refine bodyPost_ret (v:=.tuple #[.agg #[.slice (some ⟨b,off,none⟩) 3 c,.slice none 0 0,.int .i64 0,.int .i64 0,.int .i64 0,.int .i64 0],.slice (some ⟨bw,0,none⟩) 3 cw,.bool true]) (by simp only [results,Tryz.results78];go_simp) rfl ?_
   have hcz:Qc [] w _:=(C2.out.tz DX.out).trans hcw2 (fun y hy=>.inr (by rw [E0.1 hy];omega))
   refine⟨_,_,_,0,true,rfl,((W2.keep DX.out).keep hcw2 (by rw [E0];exact bwz)).congr (fun i n=>⟨.inl,fun h=>h.elim id (fun h=>by cases((HS.out.2.1 i n).1 h).1)⟩),hcz.mono (by simp),.inl rfl,⟨fun h=>absurd h (by decide),fun h=>by obtain⟨_,_,e,h,_⟩:=HS.out.2.2.1 h;cases e;omega⟩,fun _ h=>absurd h (by decide),fun h=>absurd h (by decide),fun _ _=>⟨x,fun y=>⟨fun h=>((HS.out.1 y).1 h).elim (fun h=>h.2) (fun h=>absurd h.1 (by omega)),fun h=>(HS.out.1 y).2 (.inl ⟨by omega,h⟩)⟩,(S2.keep DX.out Qjh.nil).keep hcw2 (Krq.keep DX.out).noStrs⟩⟩
  go_wp2_with fail
  refine(LF2.out _).mono ?_
  rintro e w5 ⟨rfl,d5⟩
  go_wp2_with fail
  refine(PF.out _).mono ?_
  rintro e w6 ⟨rfl,d6⟩
  have D6:=Qb ((DX.out.tz d5).tz d6)
  clear d5 d6 LF2 PF
  go_wp2_with fail
  go_loopw [116] (fun i wr=>∃k:Nat,k<=3/\i= .int .i64 (k:Int)/\Qc [] w6 wr) (fun i _=>3-(intOf i).toNat)
  case atStart=>exact⟨0,by omega,rfl,B0 _ _⟩
  case round=>
   obtain⟨k,hk,rfl,hc⟩:=hrel
   obtain⟨wo,hwo⟩:∃wo:World,wo=wr:=⟨_,rfl⟩
   rw [<-hwo] at hc ⊢
   clear hwo
   have DO:=Qb (D6.out.tz hc)
   by_cases hk3:k<3
   ·have kiq:((k:Nat):Int)<3:=by omega
    have F3:=Qb (FN.out k hk3)
    have ne3:=hneq.out k hk3
    obtain⟨nt,hnt⟩:∃nt,W5 (k:Int)=nt:=⟨_,rfl⟩
    rw [hnt] at F3 ne3
    clear hnt
    go_wp2_with fail
    refine(F3.out _).mono ?_
    rintro e w7 ⟨rfl,d7⟩
    have U7qq:=Qb (hc.tz d7)
    clear F3 hc d7
    go_wp2_with fail
    go_roundw
    case rel=>exact⟨k+1,by omega,by go_num,U7qq.out⟩
    case measure=>simp [intOf];omega
   ·obtain rfl:k=3:=by omega
    have px6:=(Bx.keep DO.out).o6
    have pa6:=(Ba.keep DO.out).o11
    go_wp2_with fail
    refine(OF.out _).mono ?_
    rintro e w7 ⟨t,rfl,ht,rfl⟩
    have B7:=Br.keep DO.out
    have pr7:=B7.o6
    have fr7:=B7.f
    have K7:=Krq.keep DO.out
    cases t
    ·have hno:¬ZL f z:=fun h=>by have:=ht.2 h;cases this
     replace hno:=Qb hno
     clear ht LS
     have b6:=(((((B7.set 0 (.slice (some ⟨b,off,none⟩) 3 c)).set 1 (.slice none 0 0)).set 2 (.int .i64 1)).set 3 (.int .i64 0)).set 4 (.int .i64 0)).set 5 (.int .i64 0)
     have r7:=b6.o6
     go_wp2_with fail
     refine bodyPost_ret (v:=.tuple #[.agg #[.slice (some ⟨b,off,none⟩) 3 c,.slice none 0 0,.int .i64 1,.int .i64 0,.int .i64 0,.int .i64 0],.slice (some ⟨bw,0,none⟩) 3 cw,.bool true]) (by simp only [results,Tryz.results78];go_simp) rfl ?_
     have hcw2:=Qkg w7 (z0+2) (.slice (some ⟨b,off,none⟩) 3 c) (.slice none 0 0) (.int .i64 1) (.int .i64 0) (.int .i64 0) (.int .i64 0)
     have hcz:Qc [] w _:=(C2.out.tz DO.out).trans hcw2 (fun y hy=>.inr (by rw [E0.1 hy];omega))
     refine⟨_,_,_,1,true,rfl,((W2.keep DO.out).keep hcw2 (by rw [E0];exact bwz)).congr (fun i n=>⟨.inl,fun h=>h.elim id (fun h=>by cases((HS.out.2.1 i n).1 h).1)⟩),hcz.mono (by simp),.inr rfl,⟨fun _=>HS.out.2.2.2 ⟨l,f,rfl,by omega,by rw [hzz];exact hno.out⟩,fun _=>rfl⟩,fun h=>absurd h (by decide),fun _ y h=>((HS.out.1 y).1 h).elim (fun h=>by omega) (fun h=>hno.out (by have:=h.2.1;rwa [hzz] at this)),fun h=>absurd h (by decide)⟩
    ·have hyes:ZL f z:=ht.1 rfl
     replace hyes:=Qb hyes
     clear ht
     go_wp2_with fail
     refine(LS.out _ DO.out).mono ?_
     rintro e w8 ⟨v,rfl,hv,d8⟩
     obtain⟨vb,voq,vcq,ev,_,_,_,_,_,_⟩:=hv.at3
     subst ev
     have D8:=Qb (DO.out.tz d8)
     have B8:=Br.keep D8.out
     have pr8:=B8.o6
     have fr8:=B8.f
     have K8:=Krq.keep D8.out
     have b6:=(((((B8.set 0 (.slice (some ⟨vb,voq,none⟩) 3 vcq)).set 1 (.slice none 0 0)).set 2 (.int .i64 0)).set 3 (.int .i64 0)).set 4 (.int .i64 0)).set 5 (.int .i64 0)
     have r8:=b6.o6
     clear LS d8 pr7 fr7 px6 pa6
     go_wp2_with fail
     refine bodyPost_ret (v:=.tuple #[.agg #[.slice (some ⟨vb,voq,none⟩) 3 vcq,.slice none 0 0,.int .i64 0,.int .i64 0,.int .i64 0,.int .i64 0],.slice (some ⟨bw,0,none⟩) 3 cw,.bool true]) (by simp only [results,Tryz.results78];go_simp) rfl ?_
     have hcw2:=Qkg w8 (z0+2) (.slice (some ⟨vb,voq,none⟩) 3 vcq) (.slice none 0 0) (.int .i64 0) (.int .i64 0) (.int .i64 0) (.int .i64 0)
     have hcz:Qc [] w _:=(C2.out.tz D8.out).trans hcw2 (fun y hy=>.inr (by rw [E0.1 hy];omega))
     refine⟨_,_,_,0,true,rfl,((W2.keep D8.out).keep hcw2 (by rw [E0];exact bwz)).congr (fun i n=>⟨.inl,fun h=>h.elim id (fun h=>by cases((HS.out.2.1 i n).1 h).1)⟩),hcz.mono (by simp),.inl rfl,⟨fun h=>absurd h (by decide),fun h=>by obtain⟨_,_,e,_,h⟩:=HS.out.2.2.1 h;cases e;rw [hzz] at h;exact absurd hyes.out h⟩,fun _ h=>absurd h (by decide),fun h=>absurd h (by decide),fun _ _=>⟨(x.set a.slot (.known (l+1) g)),fun y=>⟨fun h=>((HS.out.1 y).1 h).elim (fun h=>by omega) (fun h=>h.2.2),fun h=>(HS.out.1 y).2 (.inr ⟨by omega,by rw [hzz];exact hyes.out,h⟩)⟩,hv.keep hcw2 K8.noStrs⟩⟩
 | giv gi=>
  have hg3:gi<3:=by rw [hkn] at hxs;exact hxs
  have HS:=Qb (hstep.out _ hkn)
  have LF2:=Qb (fun W=>Qjw (.giv gi) hg3 W)
  replace LF2:Hid (∀W,Calls Tryz.prog 120 #[.string (W5 (gi:Int))] W (Kv ⟨#[]⟩ W)):=LF2
  have PF:=Qb (fun W=>Qj7 ⟨#[]⟩ W)
  rw [Qke] at PF
  have hne0:((W5 (gi:Int)).toList== [])=false:=by rw [beq_eq_false_iff_ne];exact fun h=>by cases(Qjy (x:=.giv gi) hg3).1 h
  have hneq:Hid (∀k:Nat,k<3->((W5 (gi:Int)).toList==(W5 (k:Int)).toList)=decide (k=gi)):=Qb (fun k hk=>Qkt hg3 hk)
  have LS:=Qb (fun W (hc:Qc [bw] w2 W)=>QjF (Qj8 x) _ (n:Int) (knT (.known 1 g)) W ⟨by omega,by omega⟩ (S2.keep hc W2.noStrs))
  have hsetT:(Qj8 x).set (n:Int) (knT (.known 1 g))=Qj8 (x.set a.slot (.known 1 g)):=by rw [Qkb,hn]
  rw [hsetT] at LS
  have LL:Hid (∀W,Calls Tryz.prog 117 #[.string (W5 (gi:Int))] W (xY 0 W)):=Qb (fun W=>Qjt (.giv gi) hg3 W)
  have LK:Hid (∀W,Calls Tryz.prog 114 #[.int .i64 g,.int .i64 1] W (Kv (knT (.known 1 g)) W)):=Qb (fun W=>Qju g 1 W (by omega))
  obtain⟨pt,hpt⟩:∃pt,knT (.known 1 g)=pt:=⟨_,rfl⟩
  rw [hpt] at LS LK
  clear hpt
  rw [hkn] at g2
  replace g2:w2.cell? ⟨b,off+n,none⟩=some (.string (W5 (gi:Int))):=g2
  obtain⟨u,hcu,juq⟩:∃u,([.int .i64 u0,.int .i64 u1,.int .i64 u2]:List Value)[gi]?=some (.int .i64 u)/\Qgm A gi u:=by
   rcases(show gi=0∨gi=1∨gi=2 by omega) with rfl|rfl|rfl
   ·exact⟨u0,rfl,j0⟩
   ·exact⟨u1,rfl,j1⟩
   ·exact⟨u2,rfl,j2qq⟩
  have EF:=Qb (fun W=>QjZ u z W juq.1 hz)
  obtain⟨u9,hu9⟩:∃u9,bits .or .i64 u z=u9:=⟨_,rfl⟩
  have HW9:Hid (∀W:World,ZU W bw (([.int .i64 u0,.int .i64 u1,.int .i64 u2]:List Value).set gi (.int .i64 u9))->Kd W bw 3->Qj2 W bw (fun i n=>A i n∨(i=gi/\n=z))):=Qb (fun W hB hK=>Qks j0 j1 j2qq hg3 hcu hz (by rw [hu9];exact hB) hK)
  rw [hu9] at EF
  obtain⟨s,hs9⟩:∃s,W5 (gi:Int)=s:=⟨_,rfl⟩
  rw [hs9] at g2 LF2 hne0 hneq LL
  have hcu:=Qb hcu
  have hbz:bw<z0:=by have:=C2.out.size;have h:=hbwl.out;omega
  clear hkn hxs LF hstep hsetT hs9 hu9 j0 j1 j2qq juq
  go_wp2_with fail
  refine(LN.out _).mono ?_
  rintro e wa ⟨rfl,da⟩
  have paA:=(Ba.keep da).o11
  go_wp2_with fail
  refine(LG.out _).mono ?_
  rintro e wb ⟨rfl,db⟩
  go_wp2_with fail
  refine(LL.out _).mono ?_
  rintro e wc ⟨rfl,dc⟩
  go_wp2_with fail
  refine(LK.out _).mono ?_
  rintro e V ⟨rfl,dd⟩
  have DV:=Qb (((da.tz db).tz dc).tz dd)
  clear da db dc dd paA
  have pxV:=(Bx.keep DV.out).o6
  have paV:=(Ba.keep DV.out).o11
  have prV:=(Br.keep DV.out).o6
  go_wp2_with fail
  refine(LL.out _).mono ?_
  rintro e VXq ⟨rfl,dx⟩
  have DX:=Qb (DV.out.tz dx)
  clear dx
  have pxX:=(Bx.keep DX.out).o6
  have paX:=(Ba.keep DX.out).o11
  have prX:=(Br.keep DX.out).o6
  have bV:=hbw.keep DX.out
  have kVq:=hkw.keep DX.out
  go_wp2_with fail
  refine(LF2.out _).mono ?_
  rintro e w5 ⟨rfl,d5⟩
  go_wp2_with fail
  refine(PF.out _).mono ?_
  rintro e w6 ⟨rfl,d6⟩
  have D6:=Qb ((DX.out.tz d5).tz d6)
  have b6w:=(bV.keep d5).keep d6
  have k6w:=(kVq.keep d5).keep d6
  clear d5 d6 LF2 PF bV kVq
  go_wp2_with fail
  go_loopw [116] (fun i wr=>∃k:Nat,k<=3/\i= .int .i64 (k:Int)/\ZU wr bw (if gi<k then([.int .i64 u0,.int .i64 u1,.int .i64 u2]:List Value).set gi (.int .i64 u9) else [.int .i64 u0,.int .i64 u1,.int .i64 u2])/\Kd wr bw 3/\Qc [bw] w6 wr) (fun i _=>3-(intOf i).toNat)
  case atStart=>exact⟨0,by omega,rfl,by rw [if_neg (by omega)];exact b6w,k6w,B0 _ _⟩
  case round=>
   obtain⟨k,hk,rfl,hBk,hKk,hc⟩:=hrel
   obtain⟨wo,hwo⟩:∃wo:World,wo=wr:=⟨_,rfl⟩
   rw [<-hwo] at hBk hKk hc ⊢
   clear hwo
   have DO:=Qb ((D6.out.mono (T:=[bw]) (by simp)).trans hc (fun _ h=>.inl h))
   by_cases hk3:k<3
   ·have kiq:((k:Nat):Int)<3:=by omega
    have F3:=Qb (FN.out k hk3)
    have ne3:=hneq.out k hk3
    obtain⟨nt,hnt⟩:∃nt,W5 (k:Int)=nt:=⟨_,rfl⟩
    rw [hnt] at F3 ne3
    clear hnt
    by_cases hkg:k=gi
    ·have ne4:(s.toList==nt.toList)=true:=by rw [ne3];simpa using hkg
     rw [if_neg (by omega)] at hBk
     have hck:=Qb (show([.int .i64 u0,.int .i64 u1,.int .i64 u2]:List Value)[k]?=some (.int .i64 u) by rw [hkg];exact hcu.out)
     replace hkg:=Qb hkg
     clear ne3
     go_wp2_with fail
     refine(F3.out _).mono ?_
     rintro e w7 ⟨rfl,d7⟩
     have B7:=hBk.keep d7
     have K7:=hKk.keep d7
     have q7:=B7.c k _ hck.out
     have U7qq:=Qb (hc.trans d7 (fun _ h=>by cases h))
     clear F3 hc d7 hBk hKk
     go_wp2_with fail
     refine(EF.out _).mono ?_
     rintro e w8 ⟨rfl,d8⟩
     have B8:=B7.keep d8
     have K8:=K7.keep d8
     have q8:=B8.c k _ hck.out
     have f8:=B8.f
     have U8qq:=Qb (U7qq.out.trans d8 (fun _ h=>by cases h))
     clear d8 B7 K7 q7 U7qq
     have B9:=Qb (B8.set k (.int .i64 u9))
     have K9:=Qb (Kd.setC (i:=k) (u:=.int .i64 u9) K8)
     have U9qq:Hid (Qc [bw] w6 (w8.setCell ⟨bw,k,none⟩ (.int .i64 u9))):=Qb (U8qq.out.setCell (.inl (by simp)) _)
     clear B8 K8
     go_wp2_with fail
     go_roundw
     case rel=>exact⟨k+1,by omega,by go_num,by rw [if_pos (by have:=hkg.out;omega), <-hkg.out];exact B9.out,K9.out,U9qq.out⟩
     case measure=>simp [intOf];omega
    ·have ne4:(s.toList==nt.toList)=false:=by rw [ne3];simpa using hkg
     have hif:Hid ((if gi<k then([.int .i64 u0,.int .i64 u1,.int .i64 u2]:List Value).set gi (.int .i64 u9) else [.int .i64 u0,.int .i64 u1,.int .i64 u2])=(if gi<k+1 then([.int .i64 u0,.int .i64 u1,.int .i64 u2]:List Value).set gi (.int .i64 u9) else [.int .i64 u0,.int .i64 u1,.int .i64 u2])):=Qb (by by_cases h:gi<k;rw [if_pos h,if_pos (by omega)];rw [if_neg h,if_neg (by omega)])
     replace hBk:=Qb hBk
     clear ne3 hkg
     go_wp2_with fail
     refine(F3.out _).mono ?_
     rintro e w7 ⟨rfl,d7⟩
     have B7:=Qb (hBk.out.keep d7)
     have K7:=hKk.keep d7
     have U7qq:=Qb (hc.trans d7 (fun _ h=>by cases h))
     clear F3 hc d7 hKk
     go_wp2_with fail
     go_roundw
     case rel=>exact⟨k+1,by omega,by go_num,by rw [<-hif.out];exact B7.out,K7,U7qq.out⟩
     case measure=>simp [intOf];omega
   ·obtain rfl:k=3:=by omega
    rw [if_pos hg3] at hBk
    have WNq:=Qb (HW9.out wo hBk hKk)
    have px6:=(Bx.keep DO.out (by simp;omega)).o6
    have pa6:=(Ba.keep DO.out (by simp;omega)).o11
    clear hBk hKk
    go_wp2_with fail
    refine(LS.out _ DO.out).mono ?_
    rintro e w8 ⟨v,rfl,hv,d8⟩
    obtain⟨vb,voq,vcq,ev,_,_,_,_,_,_⟩:=hv.at3
    subst ev
    have D8:=Qb (DO.out.trans d8 (fun _ h=>by cases h))
    have W8q:=WNq.out.keep d8
    have B8:=Br.keep D8.out (by simp;omega)
    have pr8:=B8.o6
    have fr8:=B8.f
    have K8:=Krq.keep D8.out (by simp;omega)
    have b6:=(((((B8.set 0 (.slice (some ⟨vb,voq,none⟩) 3 vcq)).set 1 (.slice none 0 0)).set 2 (.int .i64 0)).set 3 (.int .i64 0)).set 4 (.int .i64 0)).set 5 (.int .i64 0)
    have r8:=b6.o6
    clear LS d8 px6 pa6 hc
    go_wp2_with fail
    refine bodyPost_ret (v:=.tuple #[.agg #[.slice (some ⟨vb,voq,none⟩) 3 vcq,.slice none 0 0,.int .i64 0,.int .i64 0,.int .i64 0,.int .i64 0],.slice (some ⟨bw,0,none⟩) 3 cw,.bool true]) (by simp only [results,Tryz.results78];go_simp) rfl ?_
    have hcw2:=Qkg w8 (z0+2) (.slice (some ⟨vb,voq,none⟩) 3 vcq) (.slice none 0 0) (.int .i64 0) (.int .i64 0) (.int .i64 0) (.int .i64 0)
    have hcz:Qc [bw] w _:=((C2.out.mono (T:=[bw]) (by simp)).trans D8.out (fun _ h=>.inl h)).trans hcw2 (fun y hy=>.inr (by rw [E0.1 hy];omega))
    refine⟨_,_,_,0,true,rfl,(W8q.keep hcw2 (by rw [E0];exact bwz)).congr (fun i n=>or_congr i7 ⟨fun h=>(HS.out.2.1 i n).2 ⟨by rw [h.1],by rw [hzz];exact h.2⟩,fun h=>by have h2:=(HS.out.2.1 i n).1 h;rw [hzz] at h2;obtain⟨e,h3⟩:=h2;cases e;exact⟨rfl,h3⟩⟩),hcz,.inl rfl,⟨fun h=>absurd h (by decide),fun h=>by obtain⟨_,_,e,_⟩:=HS.out.2.2.1 h;cases e⟩,fun _ h=>absurd h (by decide),fun h=>absurd h (by decide),fun _ _=>⟨x.set a.slot (.known 1 g),fun y=>HS.out.1 y,hv.keep hcw2 K8.noStrs⟩⟩
theorem Qkl (a:Qa) (x:YY Kn) (us:Value) (A1 A2:Option Addr) (c1 c2 bw cw:Nat) (A:Nat->Int->Prop) (w:World) (ha:Qgc a) (hx:x.All Kn.sm) (hs:Qjg w (Qj8 x).list us) (hW:Qj2 w bw A) (hop:a.op=6):
  Calls Tryz.prog 78 #[.agg #[us,.slice none 0 0,.int .i64 0,.int .i64 0,.int .i64 0,.int .i64 0],Qkc a A1 A2 c1 c2,.slice (some ⟨bw,0,none⟩) 3 cw] w (Qkf a x bw cw A w):=by
 have hslot:QE a.slot:=Qj5 ha
 obtain⟨b,off,c,eu,_,_,_,s0,s1,s2⟩:=hs.at3
 subst eu
 have lb:=Qk s0
 obtain⟨n,hn,hn3⟩:∃n:Nat,a.slot=(n:Int)/\n<3:=⟨a.slot.toNat,by have:=hslot.1;omega,by have:=hslot.2;omega⟩
 have get:∀k:Nat,k<3->w.cell? ⟨b,off+k,none⟩=some (.string (knT (x.get (k:Int)))):=fun k hk=>by
  rw [<-Qj9]
  rcases(show k=0∨k=1∨k=2 by omega) with rfl|rfl|rfl
  ·exact s0
  ·exact s1
  ·exact s2
 have hget:=get n hn3
 have ni:((n:Nat):Int)<3:=by omega
 unfold Qkc
 go_enter Tryz.func78,Tryz.ntmps78
 obtain⟨z0,hz0⟩:∃z,w.heap.size=z:=⟨_,rfl⟩
 go_upto_region 1 with fail
 refine Qp fun w2 hw2=>?_
 have c2x:Qc [] w w2:=by rw [hw2];exact C6
 have Bx:ZU w2 z0 [.slice (some ⟨b,off,none⟩) 3 c,.slice none 0 0,.int .i64 0,.int .i64 0,.int .i64 0,.int .i64 0]:=by rw [hw2, <-hz0];exact(Qkh w _ _ _ _ _ _).1
 have Ba:ZU w2 (z0+1) [.int .i64 6,.int .i64 (n:Int),.int .i64 a.other,.string a.word,.string a.call.method,.string a.call.key,.int .i64 a.call.value,.string a.call.text,.int .i64 a.face,.slice A1 a.A.length c1,.slice A2 a.B.length c2]:=by rw [hw2, <-hz0];exact(Qkh w _ _ _ _ _ _).2.1
 have Br:ZU w2 (z0+2) [.slice none 0 0,.slice none 0 0,.int .i64 0,.int .i64 0,.int .i64 0,.int .i64 0]:=by rw [hw2, <-hz0];exact(Qkh w _ _ _ _ _ _).2.2.1
 have W2:=hW.keep c2x
 have S2:=hs.keep c2x Qjh.nil
 have g2:=(c2x.cell (p:=⟨b,off+n,none⟩) lb (by simp)).trans hget
 have Krq:Kd w2 (z0+2) 109:=by rw [hw2, <-hz0];exact(Qkh w _ _ _ _ _ _).2.2.2
 clear hw2
 try rw [hz0]
 have px:=Bx.o6
 have pa:=Ba.o11
 have pr:=Br.o6
 have hz:ql (KV a):=Qkm ha.1 (by omega)
 obtain⟨u0,u1,u2,hbw,hkw,j0,j1,j2qq⟩:=id W2
 have lbw:=hbw.lt
 have hxs:=hx.get (n:Int)
 have hstep:=fun(knq:Kn) (h:x.get (n:Int)=knq)=>Qkk a x (by omega) (knq:=knq) (by rw [hn];exact h)
 obtain⟨z,hzz⟩:∃z,KV a=z:=⟨_,rfl⟩
 rw [hzz] at hz
 have e0:a.face=z:=by rw [<-hzz];unfold KV;rw [if_pos hop]
 rw [e0] at Ba pa
 have l2:=c2x.size
 have C2:=Qb c2x
 have hnh:=Qb hn
 have LF:=Qb (fun W=>Qjw (x.get (n:Int)) hxs W)
 have FN:=Qb (fun(k:Nat) (hk:k<3) W=>Wx (k:Int) W (by omega) (by omega))
 have hbwl:=Qb (show bw<w.heap.size by obtain⟨_,_,_,h,_⟩:=hW;exact h.lt)
 have bwz:¬bw=z0+2:=by obtain⟨_,_,_,h,_⟩:=hW;have:=h.lt;omega
 replace hstep:=Qb hstep
 clear get hget hslot c2x s0 s1 s2 hs hW
 cases hkn:x.get (n:Int) with
 |no=>
  rw [hkn] at g2
  replace g2:w2.cell? ⟨b,off+n,none⟩=some (.string ⟨#[]⟩):=g2
  have HS:=Qb (hstep.out _ hkn)
  clear hkn LF FN hstep
  obtain⟨V,hV⟩:∃V:World,V=w2:=⟨_,rfl⟩
  have DV:Hid (Qc [] w2 V):=Qb (by rw [hV];exact B0 _ _)
  rw [<-hV] at g2 px pa pr ⊢
  clear hV
  have pxV:=(Bx.keep DV.out).o6
  have paV:=(Ba.keep DV.out).o11
  have prV:=(Br.keep DV.out).o6
  have BV:=Br.keep DV.out
  have frV:=BV.f
  go_wp2_with fail
  have hcw2:=Qkg V (z0+2) (.slice (some ⟨b,off,none⟩) 3 c) (.slice none 0 0) (.int .i64 0) (.int .i64 0) (.int .i64 0) (.int .i64 0)
  have b6:=((((((BV.set 0 (.slice (some ⟨b,off,none⟩) 3 c)).set 1 (.slice none 0 0)).set 2 (.int .i64 0)).set 3 (.int .i64 0)).set 4 (.int .i64 0)).set 5 (.int .i64 0))
  have r7:=b6.o6
  refine bodyPost_ret (v:=.tuple #[.agg #[.slice (some ⟨b,off,none⟩) 3 c,.slice none 0 0,.int .i64 0,.int .i64 0,.int .i64 0,.int .i64 0],.slice (some ⟨bw,0,none⟩) 3 cw,.bool false]) (by simp only [results,Tryz.results78];go_simp) rfl ?_
  have hcz:Qc [] w _:=(C2.out.tz DV.out).trans hcw2 (fun y hy=>.inr (by rw [E0.1 hy];omega))
  refine⟨_,_,_,0,false,rfl,((W2.keep DV.out).keep hcw2 (by rw [E0];exact bwz)).congr (fun i n=>⟨.inl,fun h=>h.elim id (fun h=>by cases((HS.out.2.1 i n).1 h).1)⟩),hcz.mono (by simp),.inl rfl,⟨fun h=>absurd h (by decide),fun h=>by obtain⟨_,_,h,_⟩:=HS.out.2.2.1 h;cases h⟩,fun _ _ y h=>(HS.out.1 y).1 h,fun h=>absurd h (by decide),fun _ h=>absurd h (by decide)⟩
 | known l f=>
  have hsm:l<=3/\ql f:=by rw [hkn] at hxs;exact hxs
  have HS:=Qb (hstep.out _ hkn)
  have LF2:=Qb (fun W=>Qjw (.known l f) hsm W)
  replace LF2:Hid (∀W,Calls Tryz.prog 120 #[.string (knT (.known l f))] W (Kv (Gc f) W)):=LF2
  have PF:=Qb (fun W=>Qj7 (Gc f) W)
  rw [Qko hsm.2] at PF
  have OF:=Qb (fun W=>Qkn f z W)
  have hne0:((knT (.known l f)).toList== [])=false:=by rw [beq_eq_false_iff_ne];exact fun h=>by cases(Qjy (x:=.known l f) hsm).1 h
  have hneq:Hid (∀k:Nat,k<3->((knT (.known l f)).toList==(W5 (k:Int)).toList)=false):=Qb (fun k hk=>by rw [beq_eq_false_iff_ne];exact Qkq hsm hk)
  have LS:=Qb (fun W (hc:Qc [] w2 W)=>QjF (Qj8 x) _ (n:Int) (knT (.known l f)) W ⟨by omega,by omega⟩ (S2.keep hc Qjh.nil))
  have hsetT:(Qj8 x).set (n:Int) (knT (.known l f))=Qj8 x:=by rw [<-hkn, <-Qj9,YY.set_get]
  rw [hsetT] at LS
  rw [hkn] at g2
  obtain⟨s,hs9⟩:∃s,knT (.known l f)=s:=⟨_,rfl⟩
  rw [hs9] at g2 LF2 hne0 hneq LS
  obtain⟨ft,hft⟩:∃ft,Gc f=ft:=⟨_,rfl⟩
  rw [hft] at LF2 PF
  clear hkn hxs LF hstep hsetT hs9 hft
  obtain⟨V,hV⟩:∃V:World,V=w2:=⟨_,rfl⟩
  have DV:Hid (Qc [] w2 V):=Qb (by rw [hV];exact B0 _ _)
  rw [<-hV] at g2 px pa pr ⊢
  clear hV
  have pxV:=(Bx.keep DV.out).o6
  have paV:=(Ba.keep DV.out).o11
  have prV:=(Br.keep DV.out).o6
  go_wp2_with fail
  refine(LF2.out _).mono ?_
  rintro e w5 ⟨rfl,d5⟩
  go_wp2_with fail
  refine(PF.out _).mono ?_
  rintro e w6 ⟨rfl,d6⟩
  have D6:=Qb ((DV.out.tz d5).tz d6)
  clear d5 d6 LF2 PF
  go_wp2_with fail
  go_loopw [116] (fun i wr=>∃k:Nat,k<=3/\i= .int .i64 (k:Int)/\Qc [] w6 wr) (fun i _=>3-(intOf i).toNat)
  case atStart=>exact⟨0,by omega,rfl,B0 _ _⟩
  case round=>
   obtain⟨k,hk,rfl,hc⟩:=hrel
   obtain⟨wo,hwo⟩:∃wo:World,wo=wr:=⟨_,rfl⟩
   rw [<-hwo] at hc ⊢
   clear hwo
   have DO:=Qb (D6.out.tz hc)
   by_cases hk3:k<3
   ·have kiq:((k:Nat):Int)<3:=by omega
    have F3:=Qb (FN.out k hk3)
    have ne3:=hneq.out k hk3
    obtain⟨nt,hnt⟩:∃nt,W5 (k:Int)=nt:=⟨_,rfl⟩
    rw [hnt] at F3 ne3
    clear hnt
    go_wp2_with fail
    refine(F3.out _).mono ?_
    rintro e w7 ⟨rfl,d7⟩
    have U7qq:=Qb (hc.tz d7)
    clear F3 hc d7
    go_wp2_with fail
    go_roundw
    case rel=>exact⟨k+1,by omega,by go_num,U7qq.out⟩
    case measure=>simp [intOf];omega
   ·obtain rfl:k=3:=by omega
    have px6:=(Bx.keep DO.out).o6
    have pa6:=(Ba.keep DO.out).o11
    go_wp2_with fail
    refine(OF.out _).mono ?_
    rintro e w7 ⟨t,rfl,ht,rfl⟩
    have B7:=Br.keep DO.out
    have pr7:=B7.o6
    have fr7:=B7.f
    have K7:=Krq.keep DO.out
    cases t
    ·have hno:¬ZL f z:=fun h=>by have:=ht.2 h;cases this
     replace hno:=Qb hno
     clear ht LS
     have b6:=(((((B7.set 0 (.slice (some ⟨b,off,none⟩) 3 c)).set 1 (.slice none 0 0)).set 2 (.int .i64 1)).set 3 (.int .i64 0)).set 4 (.int .i64 0)).set 5 (.int .i64 0)
     have r7:=b6.o6
     go_wp2_with fail
     refine bodyPost_ret (v:=.tuple #[.agg #[.slice (some ⟨b,off,none⟩) 3 c,.slice none 0 0,.int .i64 1,.int .i64 0,.int .i64 0,.int .i64 0],.slice (some ⟨bw,0,none⟩) 3 cw,.bool true]) (by simp only [results,Tryz.results78];go_simp) rfl ?_
     have hcw2:=Qkg w7 (z0+2) (.slice (some ⟨b,off,none⟩) 3 c) (.slice none 0 0) (.int .i64 1) (.int .i64 0) (.int .i64 0) (.int .i64 0)
     have hcz:Qc [] w _:=(C2.out.tz DO.out).trans hcw2 (fun y hy=>.inr (by rw [E0.1 hy];omega))
     refine⟨_,_,_,1,true,rfl,((W2.keep DO.out).keep hcw2 (by rw [E0];exact bwz)).congr (fun i n=>⟨.inl,fun h=>h.elim id (fun h=>by cases((HS.out.2.1 i n).1 h).1)⟩),hcz.mono (by simp),.inr rfl,⟨fun _=>HS.out.2.2.2 ⟨l,f,rfl,by rw [hzz];exact hno.out⟩,fun _=>rfl⟩,fun h=>absurd h (by decide),fun _ y h=>hno.out (by have:=((HS.out.1 y).1 h).1;rwa [hzz] at this),fun h=>absurd h (by decide)⟩
    ·have hyes:ZL f z:=ht.1 rfl
     replace hyes:=Qb hyes
     clear ht
     go_wp2_with fail
     refine(LS.out _ DO.out).mono ?_
     rintro e w8 ⟨v,rfl,hv,d8⟩
     obtain⟨vb,voq,vcq,ev,_,_,_,_,_,_⟩:=hv.at3
     subst ev
     have D8:=Qb (DO.out.tz d8)
     have B8:=Br.keep D8.out
     have pr8:=B8.o6
     have fr8:=B8.f
     have K8:=Krq.keep D8.out
     have b6:=(((((B8.set 0 (.slice (some ⟨vb,voq,none⟩) 3 vcq)).set 1 (.slice none 0 0)).set 2 (.int .i64 0)).set 3 (.int .i64 0)).set 4 (.int .i64 0)).set 5 (.int .i64 0)
     have r8:=b6.o6
     clear LS d8 pr7 fr7 px6 pa6
     go_wp2_with fail
     refine bodyPost_ret (v:=.tuple #[.agg #[.slice (some ⟨vb,voq,none⟩) 3 vcq,.slice none 0 0,.int .i64 0,.int .i64 0,.int .i64 0,.int .i64 0],.slice (some ⟨bw,0,none⟩) 3 cw,.bool true]) (by simp only [results,Tryz.results78];go_simp) rfl ?_
     have hcw2:=Qkg w8 (z0+2) (.slice (some ⟨vb,voq,none⟩) 3 vcq) (.slice none 0 0) (.int .i64 0) (.int .i64 0) (.int .i64 0) (.int .i64 0)
     have hcz:Qc [] w _:=(C2.out.tz D8.out).trans hcw2 (fun y hy=>.inr (by rw [E0.1 hy];omega))
     refine⟨_,_,_,0,true,rfl,((W2.keep D8.out).keep hcw2 (by rw [E0];exact bwz)).congr (fun i n=>⟨.inl,fun h=>h.elim id (fun h=>by cases((HS.out.2.1 i n).1 h).1)⟩),hcz.mono (by simp),.inl rfl,⟨fun h=>absurd h (by decide),fun h=>by obtain⟨_,_,e,h⟩:=HS.out.2.2.1 h;cases e;rw [hzz] at h;exact absurd hyes.out h⟩,fun _ h=>absurd h (by decide),fun h=>absurd h (by decide),fun _ _=>⟨x,fun y=>⟨fun h=>((HS.out.1 y).1 h).2,fun h=>(HS.out.1 y).2 ⟨by rw [hzz];exact hyes.out,h⟩⟩,hv.keep hcw2 K8.noStrs⟩⟩
 | giv gi=>
  have hg3:gi<3:=by rw [hkn] at hxs;exact hxs
  have HS:=Qb (hstep.out _ hkn)
  have LF2:=Qb (fun W=>Qjw (.giv gi) hg3 W)
  replace LF2:Hid (∀W,Calls Tryz.prog 120 #[.string (W5 (gi:Int))] W (Kv ⟨#[]⟩ W)):=LF2
  have PF:=Qb (fun W=>Qj7 ⟨#[]⟩ W)
  rw [Qke] at PF
  have hne0:((W5 (gi:Int)).toList== [])=false:=by rw [beq_eq_false_iff_ne];exact fun h=>by cases(Qjy (x:=.giv gi) hg3).1 h
  have hneq:Hid (∀k:Nat,k<3->((W5 (gi:Int)).toList==(W5 (k:Int)).toList)=decide (k=gi)):=Qb (fun k hk=>Qkt hg3 hk)
  have LS:=Qb (fun W (hc:Qc [bw] w2 W)=>QjF (Qj8 x) _ (n:Int) (W5 (gi:Int)) W ⟨by omega,by omega⟩ (S2.keep hc W2.noStrs))
  have hsetT:(Qj8 x).set (n:Int) (W5 (gi:Int))=Qj8 x:=by rw [show W5 (gi:Int)=knT (.giv gi) from rfl, <-hkn, <-Qj9,YY.set_get]
  rw [hsetT] at LS
  rw [hkn] at g2
  replace g2:w2.cell? ⟨b,off+n,none⟩=some (.string (W5 (gi:Int))):=g2
  obtain⟨u,hcu,juq⟩:∃u,([.int .i64 u0,.int .i64 u1,.int .i64 u2]:List Value)[gi]?=some (.int .i64 u)/\Qgm A gi u:=by
   rcases(show gi=0∨gi=1∨gi=2 by omega) with rfl|rfl|rfl
   ·exact⟨u0,rfl,j0⟩
   ·exact⟨u1,rfl,j1⟩
   ·exact⟨u2,rfl,j2qq⟩
  have EF:=Qb (fun W=>QjZ u z W juq.1 hz)
  obtain⟨u9,hu9⟩:∃u9,bits .or .i64 u z=u9:=⟨_,rfl⟩
  have HW9:Hid (∀W:World,ZU W bw (([.int .i64 u0,.int .i64 u1,.int .i64 u2]:List Value).set gi (.int .i64 u9))->Kd W bw 3->Qj2 W bw (fun i n=>A i n∨(i=gi/\n=z))):=Qb (fun W hB hK=>Qks j0 j1 j2qq hg3 hcu hz (by rw [hu9];exact hB) hK)
  rw [hu9] at EF
  obtain⟨s,hs9⟩:∃s,W5 (gi:Int)=s:=⟨_,rfl⟩
  rw [hs9] at g2 LF2 hne0 hneq LS
  have hcu:=Qb hcu
  have hbz:bw<z0:=by have:=C2.out.size;have h:=hbwl.out;omega
  clear hkn hxs LF hstep hsetT hs9 hu9 j0 j1 j2qq juq
  obtain⟨V,hV⟩:∃V:World,V=w2:=⟨_,rfl⟩
  have DV:Hid (Qc [] w2 V):=Qb (by rw [hV];exact B0 _ _)
  rw [<-hV] at g2 px pa pr ⊢
  clear hV
  have pxV:=(Bx.keep DV.out).o6
  have paV:=(Ba.keep DV.out).o11
  have prV:=(Br.keep DV.out).o6
  have bV:=hbw.keep DV.out
  have kVq:=hkw.keep DV.out
  go_wp2_with fail
  refine(LF2.out _).mono ?_
  rintro e w5 ⟨rfl,d5⟩
  go_wp2_with fail
  refine(PF.out _).mono ?_
  rintro e w6 ⟨rfl,d6⟩
  have D6:=Qb ((DV.out.tz d5).tz d6)
  have b6w:=(bV.keep d5).keep d6
  have k6w:=(kVq.keep d5).keep d6
  clear d5 d6 LF2 PF bV kVq
  go_wp2_with fail
  go_loopw [116] (fun i wr=>∃k:Nat,k<=3/\i= .int .i64 (k:Int)/\ZU wr bw (if gi<k then([.int .i64 u0,.int .i64 u1,.int .i64 u2]:List Value).set gi (.int .i64 u9) else [.int .i64 u0,.int .i64 u1,.int .i64 u2])/\Kd wr bw 3/\Qc [bw] w6 wr) (fun i _=>3-(intOf i).toNat)
  case atStart=>exact⟨0,by omega,rfl,by rw [if_neg (by omega)];exact b6w,k6w,B0 _ _⟩
  case round=>
   obtain⟨k,hk,rfl,hBk,hKk,hc⟩:=hrel
   obtain⟨wo,hwo⟩:∃wo:World,wo=wr:=⟨_,rfl⟩
   rw [<-hwo] at hBk hKk hc ⊢
   clear hwo
   have DO:=Qb ((D6.out.mono (T:=[bw]) (by simp)).trans hc (fun _ h=>.inl h))
   by_cases hk3:k<3
   ·have kiq:((k:Nat):Int)<3:=by omega
    have F3:=Qb (FN.out k hk3)
    have ne3:=hneq.out k hk3
    obtain⟨nt,hnt⟩:∃nt,W5 (k:Int)=nt:=⟨_,rfl⟩
    rw [hnt] at F3 ne3
    clear hnt
    by_cases hkg:k=gi
    ·have ne4:(s.toList==nt.toList)=true:=by rw [ne3];simpa using hkg
     rw [if_neg (by omega)] at hBk
     have hck:=Qb (show([.int .i64 u0,.int .i64 u1,.int .i64 u2]:List Value)[k]?=some (.int .i64 u) by rw [hkg];exact hcu.out)
     replace hkg:=Qb hkg
     clear ne3
     go_wp2_with fail
     refine(F3.out _).mono ?_
     rintro e w7 ⟨rfl,d7⟩
     have B7:=hBk.keep d7
     have K7:=hKk.keep d7
     have q7:=B7.c k _ hck.out
     have U7qq:=Qb (hc.trans d7 (fun _ h=>by cases h))
     clear F3 hc d7 hBk hKk
     go_wp2_with fail
     refine(EF.out _).mono ?_
     rintro e w8 ⟨rfl,d8⟩
     have B8:=B7.keep d8
     have K8:=K7.keep d8
     have q8:=B8.c k _ hck.out
     have f8:=B8.f
     have U8qq:=Qb (U7qq.out.trans d8 (fun _ h=>by cases h))
     clear d8 B7 K7 q7 U7qq
     have B9:=Qb (B8.set k (.int .i64 u9))
     have K9:=Qb (Kd.setC (i:=k) (u:=.int .i64 u9) K8)
     have U9qq:Hid (Qc [bw] w6 (w8.setCell ⟨bw,k,none⟩ (.int .i64 u9))):=Qb (U8qq.out.setCell (.inl (by simp)) _)
     clear B8 K8
     go_wp2_with fail
     go_roundw
     case rel=>exact⟨k+1,by omega,by go_num,by rw [if_pos (by have:=hkg.out;omega), <-hkg.out];exact B9.out,K9.out,U9qq.out⟩
     case measure=>simp [intOf];omega
    ·have ne4:(s.toList==nt.toList)=false:=by rw [ne3];simpa using hkg
     have hif:Hid ((if gi<k then([.int .i64 u0,.int .i64 u1,.int .i64 u2]:List Value).set gi (.int .i64 u9) else [.int .i64 u0,.int .i64 u1,.int .i64 u2])=(if gi<k+1 then([.int .i64 u0,.int .i64 u1,.int .i64 u2]:List Value).set gi (.int .i64 u9) else [.int .i64 u0,.int .i64 u1,.int .i64 u2])):=Qb (by by_cases h:gi<k;rw [if_pos h,if_pos (by omega)];rw [if_neg h,if_neg (by omega)])
     replace hBk:=Qb hBk
     clear ne3 hkg
     go_wp2_with fail
     refine(F3.out _).mono ?_
     rintro e w7 ⟨rfl,d7⟩
     have B7:=Qb (hBk.out.keep d7)
     have K7:=hKk.keep d7
     have U7qq:=Qb (hc.trans d7 (fun _ h=>by cases h))
     clear F3 hc d7 hKk
     go_wp2_with fail
     go_roundw
     case rel=>exact⟨k+1,by omega,by go_num,by rw [<-hif.out];exact B7.out,K7,U7qq.out⟩
     case measure=>simp [intOf];omega
   ·obtain rfl:k=3:=by omega
    rw [if_pos hg3] at hBk
    have WNq:=Qb (HW9.out wo hBk hKk)
    have px6:=(Bx.keep DO.out (by simp;omega)).o6
    have pa6:=(Ba.keep DO.out (by simp;omega)).o11
    clear hBk hKk
    go_wp2_with fail
    refine(LS.out _ DO.out).mono ?_
    rintro e w8 ⟨v,rfl,hv,d8⟩
    obtain⟨vb,voq,vcq,ev,_,_,_,_,_,_⟩:=hv.at3
    subst ev
    have D8:=Qb (DO.out.trans d8 (fun _ h=>by cases h))
    have W8q:=WNq.out.keep d8
    have B8:=Br.keep D8.out (by simp;omega)
    have pr8:=B8.o6
    have fr8:=B8.f
    have K8:=Krq.keep D8.out (by simp;omega)
    have b6:=(((((B8.set 0 (.slice (some ⟨vb,voq,none⟩) 3 vcq)).set 1 (.slice none 0 0)).set 2 (.int .i64 0)).set 3 (.int .i64 0)).set 4 (.int .i64 0)).set 5 (.int .i64 0)
    have r8:=b6.o6
    clear LS d8 px6 pa6 hc
    go_wp2_with fail
    refine bodyPost_ret (v:=.tuple #[.agg #[.slice (some ⟨vb,voq,none⟩) 3 vcq,.slice none 0 0,.int .i64 0,.int .i64 0,.int .i64 0,.int .i64 0],.slice (some ⟨bw,0,none⟩) 3 cw,.bool true]) (by simp only [results,Tryz.results78];go_simp) rfl ?_
    have hcw2:=Qkg w8 (z0+2) (.slice (some ⟨vb,voq,none⟩) 3 vcq) (.slice none 0 0) (.int .i64 0) (.int .i64 0) (.int .i64 0) (.int .i64 0)
    have hcz:Qc [bw] w _:=((C2.out.mono (T:=[bw]) (by simp)).trans D8.out (fun _ h=>.inl h)).trans hcw2 (fun y hy=>.inr (by rw [E0.1 hy];omega))
    refine⟨_,_,_,0,true,rfl,(W8q.keep hcw2 (by rw [E0];exact bwz)).congr (fun i n=>or_congr i7 ⟨fun h=>(HS.out.2.1 i n).2 ⟨by rw [h.1],by rw [hzz];exact h.2⟩,fun h=>by have h2:=(HS.out.2.1 i n).1 h;rw [hzz] at h2;obtain⟨e,h3⟩:=h2;cases e;exact⟨rfl,h3⟩⟩),hcz,.inl rfl,⟨fun h=>absurd h (by decide),fun h=>by obtain⟨_,_,e,_⟩:=HS.out.2.2.1 h;cases e⟩,fun _ h=>absurd h (by decide),fun h=>absurd h (by decide),fun _ _=>⟨x,fun y=>HS.out.1 y,hv.keep hcw2 K8.noStrs⟩⟩
theorem Qku (a:Qa) (x:YY Kn) (us:Value) (A1 A2:Option Addr) (c1 c2 bw cw:Nat) (A:Nat->Int->Prop) (w:World) (ha:Qgc a) (hx:x.All Kn.sm) (hs:Qjg w (Qj8 x).list us) (hW:Qj2 w bw A) (hop:a.op=7):
  Calls Tryz.prog 78 #[.agg #[us,.slice none 0 0,.int .i64 0,.int .i64 0,.int .i64 0,.int .i64 0],Qkc a A1 A2 c1 c2,.slice (some ⟨bw,0,none⟩) 3 cw] w (Qkf a x bw cw A w):=by
 have hslot:QE a.slot:=Qj5 ha
 obtain⟨b,off,c,eu,_,_,_,s0,s1,s2⟩:=hs.at3
 subst eu
 have lb:=Qk s0
 obtain⟨n,hn,hn3⟩:∃n:Nat,a.slot=(n:Int)/\n<3:=⟨a.slot.toNat,by have:=hslot.1;omega,by have:=hslot.2;omega⟩
 have get:∀k:Nat,k<3->w.cell? ⟨b,off+k,none⟩=some (.string (knT (x.get (k:Int)))):=fun k hk=>by
  rw [<-Qj9]
  rcases(show k=0∨k=1∨k=2 by omega) with rfl|rfl|rfl
  ·exact s0
  ·exact s1
  ·exact s2
 have hget:=get n hn3
 have ni:((n:Nat):Int)<3:=by omega
 unfold Qkc
 go_enter Tryz.func78,Tryz.ntmps78
 obtain⟨z0,hz0⟩:∃z,w.heap.size=z:=⟨_,rfl⟩
 go_upto_region 1 with fail
 refine Qp fun w2 hw2=>?_
 have c2x:Qc [] w w2:=by rw [hw2];exact C6
 have Bx:ZU w2 z0 [.slice (some ⟨b,off,none⟩) 3 c,.slice none 0 0,.int .i64 0,.int .i64 0,.int .i64 0,.int .i64 0]:=by rw [hw2, <-hz0];exact(Qkh w _ _ _ _ _ _).1
 have Ba:ZU w2 (z0+1) [.int .i64 7,.int .i64 (n:Int),.int .i64 a.other,.string a.word,.string a.call.method,.string a.call.key,.int .i64 a.call.value,.string a.call.text,.int .i64 a.face,.slice A1 a.A.length c1,.slice A2 a.B.length c2]:=by rw [hw2, <-hz0];exact(Qkh w _ _ _ _ _ _).2.1
 have Br:ZU w2 (z0+2) [.slice none 0 0,.slice none 0 0,.int .i64 0,.int .i64 0,.int .i64 0,.int .i64 0]:=by rw [hw2, <-hz0];exact(Qkh w _ _ _ _ _ _).2.2.1
 have W2:=hW.keep c2x
 have S2:=hs.keep c2x Qjh.nil
 have g2:=(c2x.cell (p:=⟨b,off+n,none⟩) lb (by simp)).trans hget
 have Krq:Kd w2 (z0+2) 109:=by rw [hw2, <-hz0];exact(Qkh w _ _ _ _ _ _).2.2.2
 clear hw2
 try rw [hz0]
 have px:=Bx.o6
 have pa:=Ba.o11
 have pr:=Br.o6
 have hz:ql (KV a):=Qkm ha.1 (by omega)
 obtain⟨u0,u1,u2,hbw,hkw,j0,j1,j2qq⟩:=id W2
 have lbw:=hbw.lt
 have hxs:=hx.get (n:Int)
 have hstep:=fun(knq:Kn) (h:x.get (n:Int)=knq)=>Qkk a x (by omega) (knq:=knq) (by rw [hn];exact h)
 obtain⟨z,hzz⟩:∃z,KV a=z:=⟨_,rfl⟩
 rw [hzz] at hz
 have e0:ZR a.call.method=z:=by rw [<-hzz];unfold KV;rw [if_neg (by omega),if_pos hop]
 have WO:Hid (∀W,Calls Tryz.prog 118 #[.string a.call.method] W (fun e w9=>e= .returned (.int .i64 (ZR a.call.method))/\Qc [] W w9)):=Qb (fun W=>JI a.call.method W)
 rw [e0] at WO
 have l2:=c2x.size
 have C2:=Qb c2x
 have hnh:=Qb hn
 have LF:=Qb (fun W=>Qjw (x.get (n:Int)) hxs W)
 have FN:=Qb (fun(k:Nat) (hk:k<3) W=>Wx (k:Int) W (by omega) (by omega))
 have hbwl:=Qb (show bw<w.heap.size by obtain⟨_,_,_,h,_⟩:=hW;exact h.lt)
 have bwz:¬bw=z0+2:=by obtain⟨_,_,_,h,_⟩:=hW;have:=h.lt;omega
 replace hstep:=Qb hstep
 clear get hget hslot c2x s0 s1 s2 hs hW
 cases hkn:x.get (n:Int) with
 |no=>
  rw [hkn] at g2
  replace g2:w2.cell? ⟨b,off+n,none⟩=some (.string ⟨#[]⟩):=g2
  have HS:=Qb (hstep.out _ hkn)
  clear hkn LF FN hstep
  go_wp2_with fail
  refine(WO.out _).mono ?_
  rintro e V ⟨rfl,d3⟩
  have DV:=Qb d3
  clear d3
  have pxV:=(Bx.keep DV.out).o6
  have paV:=(Ba.keep DV.out).o11
  have prV:=(Br.keep DV.out).o6
  have BV:=Br.keep DV.out
  have frV:=BV.f
  go_wp2_with fail
  have hcw2:=Qkg V (z0+2) (.slice (some ⟨b,off,none⟩) 3 c) (.slice none 0 0) (.int .i64 0) (.int .i64 0) (.int .i64 0) (.int .i64 0)
  have b6:=((((((BV.set 0 (.slice (some ⟨b,off,none⟩) 3 c)).set 1 (.slice none 0 0)).set 2 (.int .i64 0)).set 3 (.int .i64 0)).set 4 (.int .i64 0)).set 5 (.int .i64 0))
  have r7:=b6.o6
  refine bodyPost_ret (v:=.tuple #[.agg #[.slice (some ⟨b,off,none⟩) 3 c,.slice none 0 0,.int .i64 0,.int .i64 0,.int .i64 0,.int .i64 0],.slice (some ⟨bw,0,none⟩) 3 cw,.bool false]) (by simp only [results,Tryz.results78];go_simp) rfl ?_
  have hcz:Qc [] w _:=(C2.out.tz DV.out).trans hcw2 (fun y hy=>.inr (by rw [E0.1 hy];omega))
  refine⟨_,_,_,0,false,rfl,((W2.keep DV.out).keep hcw2 (by rw [E0];exact bwz)).congr (fun i n=>⟨.inl,fun h=>h.elim id (fun h=>by cases((HS.out.2.1 i n).1 h).1)⟩),hcz.mono (by simp),.inl rfl,⟨fun h=>absurd h (by decide),fun h=>by obtain⟨_,_,h,_⟩:=HS.out.2.2.1 h;cases h⟩,fun _ _ y h=>(HS.out.1 y).1 h,fun h=>absurd h (by decide),fun _ h=>absurd h (by decide)⟩
 | known l f=>
  have hsm:l<=3/\ql f:=by rw [hkn] at hxs;exact hxs
  have HS:=Qb (hstep.out _ hkn)
  have LF2:=Qb (fun W=>Qjw (.known l f) hsm W)
  replace LF2:Hid (∀W,Calls Tryz.prog 120 #[.string (knT (.known l f))] W (Kv (Gc f) W)):=LF2
  have PF:=Qb (fun W=>Qj7 (Gc f) W)
  rw [Qko hsm.2] at PF
  have OF:=Qb (fun W=>Qkn f z W)
  have hne0:((knT (.known l f)).toList== [])=false:=by rw [beq_eq_false_iff_ne];exact fun h=>by cases(Qjy (x:=.known l f) hsm).1 h
  have hneq:Hid (∀k:Nat,k<3->((knT (.known l f)).toList==(W5 (k:Int)).toList)=false):=Qb (fun k hk=>by rw [beq_eq_false_iff_ne];exact Qkq hsm hk)
  have LS:=Qb (fun W (hc:Qc [] w2 W)=>QjF (Qj8 x) _ (n:Int) (knT (.known l f)) W ⟨by omega,by omega⟩ (S2.keep hc Qjh.nil))
  have hsetT:(Qj8 x).set (n:Int) (knT (.known l f))=Qj8 x:=by rw [<-hkn, <-Qj9,YY.set_get]
  rw [hsetT] at LS
  rw [hkn] at g2
  obtain⟨s,hs9⟩:∃s,knT (.known l f)=s:=⟨_,rfl⟩
  rw [hs9] at g2 LF2 hne0 hneq LS
  obtain⟨ft,hft⟩:∃ft,Gc f=ft:=⟨_,rfl⟩
  rw [hft] at LF2 PF
  clear hkn hxs LF hstep hsetT hs9 hft
  go_wp2_with fail
  refine(WO.out _).mono ?_
  rintro e V ⟨rfl,d3⟩
  have DV:=Qb d3
  clear d3
  have pxV:=(Bx.keep DV.out).o6
  have paV:=(Ba.keep DV.out).o11
  have prV:=(Br.keep DV.out).o6
  go_wp2_with fail
  refine(LF2.out _).mono ?_
  rintro e w5 ⟨rfl,d5⟩
  go_wp2_with fail
  refine(PF.out _).mono ?_
  rintro e w6 ⟨rfl,d6⟩
  have D6:=Qb ((DV.out.tz d5).tz d6)
  clear d5 d6 LF2 PF
  go_wp2_with fail
  go_loopw [116] (fun i wr=>∃k:Nat,k<=3/\i= .int .i64 (k:Int)/\Qc [] w6 wr) (fun i _=>3-(intOf i).toNat)
  case atStart=>exact⟨0,by omega,rfl,B0 _ _⟩
  case round=>
   obtain⟨k,hk,rfl,hc⟩:=hrel
   obtain⟨wo,hwo⟩:∃wo:World,wo=wr:=⟨_,rfl⟩
   rw [<-hwo] at hc ⊢
   clear hwo
   have DO:=Qb (D6.out.tz hc)
   by_cases hk3:k<3
   ·have kiq:((k:Nat):Int)<3:=by omega
    have F3:=Qb (FN.out k hk3)
    have ne3:=hneq.out k hk3
    obtain⟨nt,hnt⟩:∃nt,W5 (k:Int)=nt:=⟨_,rfl⟩
    rw [hnt] at F3 ne3
    clear hnt
    go_wp2_with fail
    refine(F3.out _).mono ?_
    rintro e w7 ⟨rfl,d7⟩
    have U7qq:=Qb (hc.tz d7)
    clear F3 hc d7
    go_wp2_with fail
    go_roundw
    case rel=>exact⟨k+1,by omega,by go_num,U7qq.out⟩
    case measure=>simp [intOf];omega
   ·obtain rfl:k=3:=by omega
    have px6:=(Bx.keep DO.out).o6
    have pa6:=(Ba.keep DO.out).o11
    go_wp2_with fail
    refine(OF.out _).mono ?_
    rintro e w7 ⟨t,rfl,ht,rfl⟩
    have B7:=Br.keep DO.out
    have pr7:=B7.o6
    have fr7:=B7.f
    have K7:=Krq.keep DO.out
    cases t
    ·have hno:¬ZL f z:=fun h=>by have:=ht.2 h;cases this
     replace hno:=Qb hno
     clear ht LS
     have b6:=(((((B7.set 0 (.slice (some ⟨b,off,none⟩) 3 c)).set 1 (.slice none 0 0)).set 2 (.int .i64 1)).set 3 (.int .i64 0)).set 4 (.int .i64 0)).set 5 (.int .i64 0)
     have r7:=b6.o6
     go_wp2_with fail
     refine bodyPost_ret (v:=.tuple #[.agg #[.slice (some ⟨b,off,none⟩) 3 c,.slice none 0 0,.int .i64 1,.int .i64 0,.int .i64 0,.int .i64 0],.slice (some ⟨bw,0,none⟩) 3 cw,.bool true]) (by simp only [results,Tryz.results78];go_simp) rfl ?_
     have hcw2:=Qkg w7 (z0+2) (.slice (some ⟨b,off,none⟩) 3 c) (.slice none 0 0) (.int .i64 1) (.int .i64 0) (.int .i64 0) (.int .i64 0)
     have hcz:Qc [] w _:=(C2.out.tz DO.out).trans hcw2 (fun y hy=>.inr (by rw [E0.1 hy];omega))
     refine⟨_,_,_,1,true,rfl,((W2.keep DO.out).keep hcw2 (by rw [E0];exact bwz)).congr (fun i n=>⟨.inl,fun h=>h.elim id (fun h=>by cases((HS.out.2.1 i n).1 h).1)⟩),hcz.mono (by simp),.inr rfl,⟨fun _=>HS.out.2.2.2 ⟨l,f,rfl,by rw [hzz];exact hno.out⟩,fun _=>rfl⟩,fun h=>absurd h (by decide),fun _ y h=>hno.out (by have:=((HS.out.1 y).1 h).1;rwa [hzz] at this),fun h=>absurd h (by decide)⟩
    ·have hyes:ZL f z:=ht.1 rfl
     replace hyes:=Qb hyes
     clear ht
     go_wp2_with fail
     refine(LS.out _ DO.out).mono ?_
     rintro e w8 ⟨v,rfl,hv,d8⟩
     obtain⟨vb,voq,vcq,ev,_,_,_,_,_,_⟩:=hv.at3
     subst ev
     have D8:=Qb (DO.out.tz d8)
     have B8:=Br.keep D8.out
     have pr8:=B8.o6
     have fr8:=B8.f
     have K8:=Krq.keep D8.out
     have b6:=(((((B8.set 0 (.slice (some ⟨vb,voq,none⟩) 3 vcq)).set 1 (.slice none 0 0)).set 2 (.int .i64 0)).set 3 (.int .i64 0)).set 4 (.int .i64 0)).set 5 (.int .i64 0)
     have r8:=b6.o6
     clear LS d8 pr7 fr7 px6 pa6
     go_wp2_with fail
     refine bodyPost_ret (v:=.tuple #[.agg #[.slice (some ⟨vb,voq,none⟩) 3 vcq,.slice none 0 0,.int .i64 0,.int .i64 0,.int .i64 0,.int .i64 0],.slice (some ⟨bw,0,none⟩) 3 cw,.bool true]) (by simp only [results,Tryz.results78];go_simp) rfl ?_
     have hcw2:=Qkg w8 (z0+2) (.slice (some ⟨vb,voq,none⟩) 3 vcq) (.slice none 0 0) (.int .i64 0) (.int .i64 0) (.int .i64 0) (.int .i64 0)
     have hcz:Qc [] w _:=(C2.out.tz D8.out).trans hcw2 (fun y hy=>.inr (by rw [E0.1 hy];omega))
     refine⟨_,_,_,0,true,rfl,((W2.keep D8.out).keep hcw2 (by rw [E0];exact bwz)).congr (fun i n=>⟨.inl,fun h=>h.elim id (fun h=>by cases((HS.out.2.1 i n).1 h).1)⟩),hcz.mono (by simp),.inl rfl,⟨fun h=>absurd h (by decide),fun h=>by obtain⟨_,_,e,h⟩:=HS.out.2.2.1 h;cases e;rw [hzz] at h;exact absurd hyes.out h⟩,fun _ h=>absurd h (by decide),fun h=>absurd h (by decide),fun _ _=>⟨x,fun y=>⟨fun h=>((HS.out.1 y).1 h).2,fun h=>(HS.out.1 y).2 ⟨by rw [hzz];exact hyes.out,h⟩⟩,hv.keep hcw2 K8.noStrs⟩⟩
 | giv gi=>
  have hg3:gi<3:=by rw [hkn] at hxs;exact hxs
  have HS:=Qb (hstep.out _ hkn)
  have LF2:=Qb (fun W=>Qjw (.giv gi) hg3 W)
  replace LF2:Hid (∀W,Calls Tryz.prog 120 #[.string (W5 (gi:Int))] W (Kv ⟨#[]⟩ W)):=LF2
  have PF:=Qb (fun W=>Qj7 ⟨#[]⟩ W)
  rw [Qke] at PF
  have hne0:((W5 (gi:Int)).toList== [])=false:=by rw [beq_eq_false_iff_ne];exact fun h=>by cases(Qjy (x:=.giv gi) hg3).1 h
  have hneq:Hid (∀k:Nat,k<3->((W5 (gi:Int)).toList==(W5 (k:Int)).toList)=decide (k=gi)):=Qb (fun k hk=>Qkt hg3 hk)
  have LS:=Qb (fun W (hc:Qc [bw] w2 W)=>QjF (Qj8 x) _ (n:Int) (W5 (gi:Int)) W ⟨by omega,by omega⟩ (S2.keep hc W2.noStrs))
  have hsetT:(Qj8 x).set (n:Int) (W5 (gi:Int))=Qj8 x:=by rw [show W5 (gi:Int)=knT (.giv gi) from rfl, <-hkn, <-Qj9,YY.set_get]
  rw [hsetT] at LS
  rw [hkn] at g2
  replace g2:w2.cell? ⟨b,off+n,none⟩=some (.string (W5 (gi:Int))):=g2
  obtain⟨u,hcu,juq⟩:∃u,([.int .i64 u0,.int .i64 u1,.int .i64 u2]:List Value)[gi]?=some (.int .i64 u)/\Qgm A gi u:=by
   rcases(show gi=0∨gi=1∨gi=2 by omega) with rfl|rfl|rfl
   ·exact⟨u0,rfl,j0⟩
   ·exact⟨u1,rfl,j1⟩
   ·exact⟨u2,rfl,j2qq⟩
  have EF:=Qb (fun W=>QjZ u z W juq.1 hz)
  obtain⟨u9,hu9⟩:∃u9,bits .or .i64 u z=u9:=⟨_,rfl⟩
  have HW9:Hid (∀W:World,ZU W bw (([.int .i64 u0,.int .i64 u1,.int .i64 u2]:List Value).set gi (.int .i64 u9))->Kd W bw 3->Qj2 W bw (fun i n=>A i n∨(i=gi/\n=z))):=Qb (fun W hB hK=>Qks j0 j1 j2qq hg3 hcu hz (by rw [hu9];exact hB) hK)
  rw [hu9] at EF
  obtain⟨s,hs9⟩:∃s,W5 (gi:Int)=s:=⟨_,rfl⟩
  rw [hs9] at g2 LF2 hne0 hneq LS
  have hcu:=Qb hcu
  have hbz:bw<z0:=by have:=C2.out.size;have h:=hbwl.out;omega
  clear hkn hxs LF hstep hsetT hs9 hu9 j0 j1 j2qq juq
  go_wp2_with fail
  refine(WO.out _).mono ?_
  rintro e V ⟨rfl,d3⟩
  have DV:=Qb d3
  clear d3
  have pxV:=(Bx.keep DV.out).o6
  have paV:=(Ba.keep DV.out).o11
  have prV:=(Br.keep DV.out).o6
  have bV:=hbw.keep DV.out
  have kVq:=hkw.keep DV.out
  go_wp2_with fail
  refine(LF2.out _).mono ?_
  rintro e w5 ⟨rfl,d5⟩
  go_wp2_with fail
  refine(PF.out _).mono ?_
  rintro e w6 ⟨rfl,d6⟩
  have D6:=Qb ((DV.out.tz d5).tz d6)
  have b6w:=(bV.keep d5).keep d6
  have k6w:=(kVq.keep d5).keep d6
  clear d5 d6 LF2 PF bV kVq
  go_wp2_with fail
  go_loopw [116] (fun i wr=>∃k:Nat,k<=3/\i= .int .i64 (k:Int)/\ZU wr bw (if gi<k then([.int .i64 u0,.int .i64 u1,.int .i64 u2]:List Value).set gi (.int .i64 u9) else [.int .i64 u0,.int .i64 u1,.int .i64 u2])/\Kd wr bw 3/\Qc [bw] w6 wr) (fun i _=>3-(intOf i).toNat)
  case atStart=>exact⟨0,by omega,rfl,by rw [if_neg (by omega)];exact b6w,k6w,B0 _ _⟩
  case round=>
   obtain⟨k,hk,rfl,hBk,hKk,hc⟩:=hrel
   obtain⟨wo,hwo⟩:∃wo:World,wo=wr:=⟨_,rfl⟩
   rw [<-hwo] at hBk hKk hc ⊢
   clear hwo
   have DO:=Qb ((D6.out.mono (T:=[bw]) (by simp)).trans hc (fun _ h=>.inl h))
   by_cases hk3:k<3
   ·have kiq:((k:Nat):Int)<3:=by omega
    have F3:=Qb (FN.out k hk3)
    have ne3:=hneq.out k hk3
    obtain⟨nt,hnt⟩:∃nt,W5 (k:Int)=nt:=⟨_,rfl⟩
    rw [hnt] at F3 ne3
    clear hnt
    by_cases hkg:k=gi
    ·have ne4:(s.toList==nt.toList)=true:=by rw [ne3];simpa using hkg
     rw [if_neg (by omega)] at hBk
     have hck:=Qb (show([.int .i64 u0,.int .i64 u1,.int .i64 u2]:List Value)[k]?=some (.int .i64 u) by rw [hkg];exact hcu.out)
     replace hkg:=Qb hkg
     clear ne3
     go_wp2_with fail
     refine(F3.out _).mono ?_
     rintro e w7 ⟨rfl,d7⟩
     have B7:=hBk.keep d7
     have K7:=hKk.keep d7
     have q7:=B7.c k _ hck.out
     have U7qq:=Qb (hc.trans d7 (fun _ h=>by cases h))
     clear F3 hc d7 hBk hKk
     go_wp2_with fail
     refine(EF.out _).mono ?_
     rintro e w8 ⟨rfl,d8⟩
     have B8:=B7.keep d8
     have K8:=K7.keep d8
     have q8:=B8.c k _ hck.out
     have f8:=B8.f
     have U8qq:=Qb (U7qq.out.trans d8 (fun _ h=>by cases h))
     clear d8 B7 K7 q7 U7qq
     have B9:=Qb (B8.set k (.int .i64 u9))
     have K9:=Qb (Kd.setC (i:=k) (u:=.int .i64 u9) K8)
     have U9qq:Hid (Qc [bw] w6 (w8.setCell ⟨bw,k,none⟩ (.int .i64 u9))):=Qb (U8qq.out.setCell (.inl (by simp)) _)
     clear B8 K8
     go_wp2_with fail
     go_roundw
     case rel=>exact⟨k+1,by omega,by go_num,by rw [if_pos (by have:=hkg.out;omega), <-hkg.out];exact B9.out,K9.out,U9qq.out⟩
     case measure=>simp [intOf];omega
    ·have ne4:(s.toList==nt.toList)=false:=by rw [ne3];simpa using hkg
     have hif:Hid ((if gi<k then([.int .i64 u0,.int .i64 u1,.int .i64 u2]:List Value).set gi (.int .i64 u9) else [.int .i64 u0,.int .i64 u1,.int .i64 u2])=(if gi<k+1 then([.int .i64 u0,.int .i64 u1,.int .i64 u2]:List Value).set gi (.int .i64 u9) else [.int .i64 u0,.int .i64 u1,.int .i64 u2])):=Qb (by by_cases h:gi<k;rw [if_pos h,if_pos (by omega)];rw [if_neg h,if_neg (by omega)])
     replace hBk:=Qb hBk
     clear ne3 hkg
     go_wp2_with fail
     refine(F3.out _).mono ?_
     rintro e w7 ⟨rfl,d7⟩
     have B7:=Qb (hBk.out.keep d7)
     have K7:=hKk.keep d7
     have U7qq:=Qb (hc.trans d7 (fun _ h=>by cases h))
     clear F3 hc d7 hKk
     go_wp2_with fail
     go_roundw
     case rel=>exact⟨k+1,by omega,by go_num,by rw [<-hif.out];exact B7.out,K7,U7qq.out⟩
     case measure=>simp [intOf];omega
   ·obtain rfl:k=3:=by omega
    rw [if_pos hg3] at hBk
    have WNq:=Qb (HW9.out wo hBk hKk)
    have px6:=(Bx.keep DO.out (by simp;omega)).o6
    have pa6:=(Ba.keep DO.out (by simp;omega)).o11
    clear hBk hKk
    go_wp2_with fail
    refine(LS.out _ DO.out).mono ?_
    rintro e w8 ⟨v,rfl,hv,d8⟩
    obtain⟨vb,voq,vcq,ev,_,_,_,_,_,_⟩:=hv.at3
    subst ev
    have D8:=Qb (DO.out.trans d8 (fun _ h=>by cases h))
    have W8q:=WNq.out.keep d8
    have B8:=Br.keep D8.out (by simp;omega)
    have pr8:=B8.o6
    have fr8:=B8.f
    have K8:=Krq.keep D8.out (by simp;omega)
    have b6:=(((((B8.set 0 (.slice (some ⟨vb,voq,none⟩) 3 vcq)).set 1 (.slice none 0 0)).set 2 (.int .i64 0)).set 3 (.int .i64 0)).set 4 (.int .i64 0)).set 5 (.int .i64 0)
    have r8:=b6.o6
    clear LS d8 px6 pa6 hc
    go_wp2_with fail
    refine bodyPost_ret (v:=.tuple #[.agg #[.slice (some ⟨vb,voq,none⟩) 3 vcq,.slice none 0 0,.int .i64 0,.int .i64 0,.int .i64 0,.int .i64 0],.slice (some ⟨bw,0,none⟩) 3 cw,.bool true]) (by simp only [results,Tryz.results78];go_simp) rfl ?_
    have hcw2:=Qkg w8 (z0+2) (.slice (some ⟨vb,voq,none⟩) 3 vcq) (.slice none 0 0) (.int .i64 0) (.int .i64 0) (.int .i64 0) (.int .i64 0)
    have hcz:Qc [bw] w _:=((C2.out.mono (T:=[bw]) (by simp)).trans D8.out (fun _ h=>.inl h)).trans hcw2 (fun y hy=>.inr (by rw [E0.1 hy];omega))
    refine⟨_,_,_,0,true,rfl,(W8q.keep hcw2 (by rw [E0];exact bwz)).congr (fun i n=>or_congr i7 ⟨fun h=>(HS.out.2.1 i n).2 ⟨by rw [h.1],by rw [hzz];exact h.2⟩,fun h=>by have h2:=(HS.out.2.1 i n).1 h;rw [hzz] at h2;obtain⟨e,h3⟩:=h2;cases e;exact⟨rfl,h3⟩⟩),hcz,.inl rfl,⟨fun h=>absurd h (by decide),fun h=>by obtain⟨_,_,e,_⟩:=HS.out.2.2.1 h;cases e⟩,fun _ h=>absurd h (by decide),fun h=>absurd h (by decide),fun _ _=>⟨x,fun y=>HS.out.1 y,hv.keep hcw2 K8.noStrs⟩⟩
end Go.Proofs.YtfjhdnjlhjimeaaGreatDoor
set_option maxRecDepth 100000
namespace Go.Proofs.YtfjhdnjlhjimeaaGreatDoor
open Go.RowKit

def QkD:List Int:=[0,1,2,5,3,9,19,63,6,33,4]
def knU:List Kn:=.no:: .giv 0:: .giv 1:: .giv 2::([0,1,2,3]:List Nat).flatMap fun l=>QkD.map (Kn.known l)
def Kn.ok:Kn->Prop
 | .no=>True
 | .giv i=>i<3
 | .known l f=>l<=3/\f∈QkD
theorem Kn.ok.sm {x:Kn} (h:x.ok):x.sm:=by
 cases x with
 |no=>trivial
 |giv i=>exact h
 |known l f=>
  have hall:∀f∈QkD,0<=f/\f<=63:=by decide
  exact⟨h.1,hall f h.2⟩
theorem Kn.ok.mem {x:Kn} (h:x.ok):x∈knU:=by
 unfold knU
 cases x with
 |no=>simp
 |giv i=>
  have:i<3:=h
  rcases(show i=0∨i=1∨i=2 by omega) with rfl|rfl|rfl<;>simp
 |known l f=>
  refine I5 _ (I5 _ (I5 _ (I5 _ (Y7.2 ⟨l,?_,L7.2 ⟨f,h.2,rfl⟩⟩))))
  have:=h.1
  rcases(show l=0∨l=1∨l=2∨l=3 by omega) with rfl|rfl|rfl|rfl<;>simp
theorem QkU {s:YY Kn} (h:s.All Kn.ok):s.All Kn.sm:=⟨h.1.sm,h.2.1.sm,h.2.2.sm⟩
theorem QkE {α:Type}:∀ {l u:List α},l.Nodup->(∀x∈l,x∈u)->l.length<=u.length
 | [],_,_,_=>I3 _
 |x::l,u,hn,hs=>by
  classical
  obtain⟨h1,h2⟩:=U6.1 hn
  have hx:=hs x K0
  have ih:=QkE (u:=u.erase x) h2 (fun y hy=>(List.mem_erase_of_ne (fun e=>h1 (by rw [<-e];exact hy))).2 (hs y (I5 _ hy)))
  rw [List.length_erase_of_mem hx] at ih
  have:=List.length_pos_of_mem hx
  rw [I1]
  omega
theorem QkA {α β:Type} (f:α->List β) (n:Nat):∀(l:List α),(∀x∈l,(f x).length=n)->(l.flatMap f).length=l.length * n
 | [],_=>by simp
 |x::l,h=>by
  rw [J6,I0,h x K0,QkA f n l (fun y hy=>h y (I5 _ hy)),I1,Y5]
  omega
def QkR:List (YY Kn):=knU.flatMap fun a=>knU.flatMap fun b=>knU.map fun c=>⟨a,b,c⟩
theorem QkG:knU.length=48:=by rfl
theorem QkN:QkR.length=110592:=by
 unfold QkR
 rw [QkA _ (48 * 48) _ (fun a _=>by rw [QkA _ 48 _ (fun b _=>by rw [J8,QkG]),QkG]),QkG]
theorem QkO {t:YY Kn} (h:t.All Kn.ok):t∈QkR:=
 Y7.2 ⟨_,h.1.mem,Y7.2 ⟨_,h.2.1.mem,L7.2 ⟨_,h.2.2.mem,by cases t;rfl⟩⟩⟩
theorem QkM:∀i k:Fin 5,(W5 ((i.1:Nat):Int)).data.toList=(W5 ((k.1:Nat):Int)).data.toList->i=k:=by decide+kernel
theorem QkJ {i k:Nat} (hi:i<5) (hk:k<5) (h:W5 (i:Int)=W5 (k:Int)):i=k:=by
 have:=QkM ⟨i,hi⟩ ⟨k,hk⟩ (by rw [h])
 injection this
theorem QkL {x y:Kn} (hx:x.sm) (hy:y.sm) (h:knT x=knT y):x=y:=by
 have e:=Qjm hx
 rw [h,Qjm hy] at e
 have n1:∀i:Nat,i<5->W5 (i:Int)≠⟨#[]⟩:=fun i hi h=>by
  have h1:=(Qjb ⟨i,hi⟩).2
  simp only [h] at h1
  exact absurd h1 (by decide)
 cases x with
 |no=>cases y with
  |no=>rfl
  |giv j=>exact absurd (List.cons.inj e).1 (n1 j (by have:j<3:=hy;omega))
  |known l f=>exact absurd (congrArg List.length e) (by simp [Kn.words])
 | giv i=>cases y with
  |no=>exact absurd (List.cons.inj e).1.symm (n1 i (by have:i<3:=hx;omega))
  |giv j=>
   have:=QkJ (by have:j<3:=hy;omega) (by have:i<3:=hx;omega) (List.cons.inj e).1
   rw [this]
  |known l f=>exact absurd (congrArg List.length e) (by simp [Kn.words])
 | known l f=>cases y with
  |no=>exact absurd (congrArg List.length e) (by simp [Kn.words])
  |giv j=>exact absurd (congrArg List.length e) (by simp [Kn.words])
  |known l' f'=>
   obtain⟨e1,e2⟩:=List.cons.inj e
   have h1:=QkJ (by have:=hy.1;omega) (by have:=hx.1;omega) e1
   have h2:=congrArg Qjv (List.cons.inj e2).1
   rw [Qko hy.2,Qko hx.2] at h2
   rw [h1,M1 h2]
theorem QkP {s t:YY Kn} (hs:s.All Kn.ok) (ht:t.All Kn.ok) (h:Qj8 s=Qj8 t):s=t:=by
 obtain⟨a,b,c⟩:=s
 obtain⟨a',b',c'⟩:=t
 injection h with h1 h2 h3
 have e1:a=a':=QkL hs.1.sm ht.1.sm h1
 have e2:b=b':=QkL hs.2.1.sm ht.2.1.sm h2
 have e3:c=c':=QkL hs.2.2.sm ht.2.2.sm h3
 rw [e1,e2,e3]
def Qky (X:W3 (YY Kn)):Prop:=∀s t,s.All Kn.ok->X.reach s t->t.All Kn.ok
section
variable {X Y:W3 (YY Kn)}
theorem Qky.skip:Qky W3.skip:=fun s t h e=>by have e:t=s:=e;rw [e];exact h
theorem Qky.seq (h:Qky X) (h':Qky Y):Qky (X.seq Y):=fun s t hs ⟨u,a,b⟩=>h' u t (h s u hs a) b
theorem Qky.alt (h:Qky X) (h':Qky Y):Qky (X.alt Y):=fun s t hs h1=>h1.elim (h s t hs) (h' s t hs)
theorem Qky.pow (h:Qky X):∀n,Qky (X.pow n)
 |0=>Qky.skip
 |n+1=>(Qky.pow h n).seq h
theorem Qky.loop (h:Qky X):Qky X.loop:=fun s t hs ⟨n,_,h1⟩=>h.pow n s t hs h1
end
theorem QkK (s:ByteArray):(Qo s).getD 0∈QkD:=by
 cases h:Qo s with
 |none=>decide
 |some f=>
  have hm:=UZ h
  have hall:∀p∈kinds,p.2∈QkD:=by decide
  exact hall _ hm
theorem QkB (s:ByteArray):((Qj s).getD (0,0)).2∈QkD:=by
 cases h:Qj s with
 |none=>decide
 |some f=>
  have hm:=UZ h
  have hall:∀p∈Yk,p.2.2∈QkD:=by decide
  exact hall _ hm
theorem QkI (a:Qa):Qky (Qid a):=fun s t hs hr=>by
 unfold Qid at hr
 by_cases h1:a.op=1
 ·rw [if_pos h1] at hr
  rw [show t=s.set a.slot (.known 0 ((Qo a.word).getD 0)) from hr]
  exact hs.set _ ⟨by omega,QkK _⟩
 rw [if_neg h1] at hr
 by_cases h5:a.op=5
 ·rw [if_pos h5] at hr
  rw [show t=s.set a.slot .no from hr]
  exact hs.set _ trivial
 rw [if_neg h5] at hr
 by_cases h4:a.op=4
 ·rw [if_pos h4] at hr
  rw [show t=s.set a.slot (s.get a.other) from hr]
  exact hs.set _ (hs.get _)
 rw [if_neg h4] at hr
 have hg:=hs.get a.slot
 by_cases h2:a.op=2
 ·rw [if_pos h2] at hr
  simp only at hr
  cases hk:s.get a.slot with
  |no=>rw [hk] at hr;exact absurd hr (by simp)
  |giv i=>
   rw [hk] at hr
   rw [show t=s.set a.slot (.known 1 ((Qj a.word).getD (0,0)).2) from hr]
   exact hs.set _ ⟨by omega,QkB _⟩
  |known l f=>
   rw [hk] at hr
   rcases hr with ⟨_,rfl⟩|⟨hl,_,rfl⟩
   ·exact hs
   ·exact hs.set _ ⟨by omega,QkB _⟩
 ·rw [if_neg h2] at hr
  simp only at hr
  cases hk:s.get a.slot with
  |no=>rw [hk] at hr;exact absurd hr (by simp)
  |giv i=>rw [hk] at hr;rw [show t=s from hr];exact hs
  |known l f=>rw [hk] at hr;rw [hr.2];exact hs
mutual
theorem Qa.keepsK:∀a:Qa,Qky (a.w3 Qid)
 | .mk op slot other word call face A B=>by
  rw [Qa.w3_eq]
  by_cases h8:op=8
  ·simp only [Qa.op,Qa.A,Qa.B,h8,if_true];exact(QkC A).alt (QkC B)
  ·by_cases h9:op=9
   ·simp only [Qa.op,Qa.A,h9,if_true];exact(QkC A).loop
   ·simp only [Qa.op,h8,h9,if_false];exact QkI _
theorem QkC:∀l:List Qa,Qky (w3L Qid l)
 | []=>by rw [w3L];exact Qky.skip
 |a::l=>by
  rw [w3L]
  exact(Qa.keepsK a).seq (QkC l)
end
def KWq (w:World) (X:YY Kn->Prop) (v:Value):Prop:=∃K:List (YY Kn),K.Nodup/\(∀s,X s↔s∈K)/\(∀s∈K,s.All Kn.ok)/\Qjc w (K.map Qj8) v
theorem QkH {K:List (YY Kn)} (hn:K.Nodup) (h:∀s∈K,s.All Kn.ok):K.length<=110592:=by
 rw [<-QkN]
 exact QkE hn (fun s hs=>QkO (h s hs))
section
variable {w w':World} {X Y:YY Kn->Prop} {v u:Value} {S:List Nat}
theorem KWq.congr (h:KWq w X v) (he:∀s,X s↔Y s):KWq w Y v:=by
 obtain⟨K,h1,h2,h3⟩:=h
 exact⟨K,h1,fun s=>(he s).symm.trans (h2 s),h3⟩
theorem KWq.ok (h:KWq w X v) {s:YY Kn} (hs:X s):s.All Kn.ok:=by
 obtain⟨K,_,h2,h3,_⟩:=h
 exact h3 s ((h2 s).1 hs)
theorem KWq.noStrs (h:KWq w X v):Qjh w (Ub v):=by obtain⟨K,_,_,_,h⟩:=h;exact h.noStrs
theorem KWq.lt (h:KWq w X v):∀y∈Ub v,y<w.heap.size:=by obtain⟨K,_,_,_,h⟩:=h;exact h.lt
theorem KWq.sl (h:KWq w X v):∃A n c,v= .slice A n c:=by
 obtain⟨K,_,_,_,h⟩:=h
 obtain⟨A,cap,e,_⟩:=h.cells
 exact⟨A,_,cap,e⟩
theorem KWq.keep (h:KWq w X v) (hc:Qc S w w') (hS:Qjh w S) (hv:∀x∈Ub v,x∉S):KWq w' X v:=by
 obtain⟨K,h1,h2,h3,h4⟩:=h
 exact⟨K,h1,h2,h3,h4.keep hc hS hv⟩
theorem KWq.nil (w:World):KWq (w.alloc (.cells #[] 109)) (fun _=>False) (.slice (some ⟨w.heap.size,0,none⟩) 0 0):=
 ⟨[],O9,fun s=>by simp,fun s h=>absurd h (by simp),Qjc.nil w⟩
theorem QkF {K:List (YY Kn)} {y:YY Kn} (hn:K.Nodup) (hK:∀s∈K,s.All Kn.ok) (hy:y.All Kn.ok):∃K':List (YY Kn),QjL (K.map Qj8) (Qj8 y)=K'.map Qj8/\K'.Nodup/\(∀s,s∈K'↔s∈K∨s=y)/\∀s∈K',s.All Kn.ok:=by
 unfold QjL
 by_cases h:Qj8 y∈K.map Qj8
 ·obtain⟨z,hz,e⟩:=L7.1 h
  have:=QkP (hK z hz) hy e
  rw [if_pos h]
  exact⟨K,rfl,hn,fun s=>⟨.inl,fun h=>h.elim id (fun e=>by rw [e, <-this];exact hz)⟩,hK⟩
 ·rw [if_neg h]
  refine⟨K++ [y],by simp,L1.2 ⟨hn,by simp,fun a ha b hb=>by rw [E0.1 hb];exact fun e=>h (L7.2 ⟨y,e ▸ ha,rfl⟩)⟩,fun s=>by simp,fun s hs=>?_⟩
  rcases F4.1 hs with h|h
  ·exact hK s h
  ·rw [E0.1 h];exact hy
theorem Qkz:∀ {M K:List (YY Kn)},K.Nodup->(∀s∈K,s.All Kn.ok)->(∀s∈M,s.All Kn.ok)->∃K':List (YY Kn),QjG (K.map Qj8) (M.map Qj8)=K'.map Qj8/\K'.Nodup/\(∀s,s∈K'↔s∈K∨s∈M)/\∀s∈K',s.All Kn.ok
 | [],K,hn,hK,_=>⟨K,rfl,hn,fun s=>by simp,hK⟩
 |y::M,K,hn,hK,hM=>by
  obtain⟨K1,e1,n1,m1,k1⟩:=QkF hn hK (hM y K0)
  obtain⟨K2,e2,n2,m2,k2⟩:=Qkz (M:=M) n1 k1 (fun s hs=>hM s (I5 _ hs))
  refine⟨K2,by rw [I9,QjG,e1,e2],n2,fun s=>?_,k2⟩
  rw [m2,m1,C7,or_assoc]
end
theorem QkT {X:YY Kn->Prop} {y:YY Kn} {v a:Value} {w:World} (h:KWq w X v) (hy:y.All Kn.ok) (ha:Qjg w (Qj8 y).list a):
  Calls Tryz.prog 79 #[v,.agg #[a,.slice none 0 0,.int .i64 0,.int .i64 0,.int .i64 0,.int .i64 0]] w fun e w'=>∃v',e= .returned v'/\KWq w' (fun s=>X s∨s=y) v'/\Qc (Ub v) w w'/\∀y∈Ub v',y∈Ub v∨w.heap.size<=y:=by
 obtain⟨K,h1,h2,h3,h4⟩:=h
 have hl:=QkH h1 h3
 refine(QjO (K.map Qj8) (Qj8 y) v a w h4 ha (by rw [J8];omega)).mono ?_
 rintro e w' ⟨v',rfl,h5,h6,h7⟩
 obtain⟨K',e',n',m',k'⟩:=QkF h1 h3 hy
 rw [e'] at h5
 exact⟨v',rfl,⟨K',n',fun s=>(or_congr (h2 s) i7).trans (m' s).symm,k',h5⟩,h6,h7⟩
theorem QkQ {X Y:YY Kn->Prop} {v u:Value} {w:World} (h:KWq w X v) (hY:KWq w Y u) (hd:∀y∈Ub u,y∉Ub v):
  Calls Tryz.prog 77 #[v,u] w fun e w'=>∃v',e= .returned v'/\KWq w' (fun s=>X s∨Y s) v'/\Qc (Ub v) w w'/\∀y∈Ub v',y∈Ub v∨w.heap.size<=y:=by
 obtain⟨K,h1,h2,h3,h4⟩:=h
 obtain⟨M,m1,m2,m3,m4⟩:=hY
 have hl:=QkH h1 h3
 have hl2:=QkH m1 m3
 refine(QjT (K.map Qj8) (M.map Qj8) v u w h4 m4 hd (by rw [J8,J8];omega)).mono ?_
 rintro e w' ⟨v',rfl,h5,h6,h7⟩
 obtain⟨K',e',n',m',k'⟩:=Qkz h1 h3 m3
 rw [e'] at h5
 exact⟨v',rfl,⟨K',n',fun s=>(or_congr (h2 s) (m2 s)).trans (m' s).symm,k',h5⟩,h6,h7⟩
theorem Qjd.len {w:World}:∀ {L:List (YY ByteArray)} {us:List Value},Qjd w L us->us.length=L.length * 6/\∀u∈us,u.oneCell'=true
 | [],_,h=>by have h:_=_:=h;rw [h];simp
 |t::L,us,⟨a,r,e,h1,h2⟩=>by
  obtain⟨e1,e2⟩:=h2.len
  obtain⟨_,_,_,ea,_⟩:=h1.at3
  rw [e]
  refine⟨by rw [I0,e1,I1];show 6+_=_;omega,fun u hu=>?_⟩
  rcases F4.1 hu with h|h
  ·exact QjP (by rw [ea];rfl) u h
  ·exact e2 u h
theorem QkS {v:Value} {o:Option Nat}:v.ownBlock=o->Ub v=(match o with|some k=>[k] |none=>[]):=fun h=>by
 subst h
 rfl
theorem QkV {w:World} {X:YY Kn->Prop} {v:Value} (h:KWq w X v):∃A n c,v= .slice A n c/\n<=110592/\∃A' cap' w',(Builtin.append_ #[105,105] 105 #[.slice (some ⟨w.heap.size,0,none⟩) 0 0,.slice A n c]).run Tryz.prog (w.alloc (.cells #[] 109))= .ok (.slice A' (0+n) cap') w'/\KWq w' X (.slice A' (0+n) cap')/\Qc [] w w'/\∀y∈Ub (.slice A' (0+n) cap'),w.heap.size<=y:=by
 obtain⟨K,h1,h2,h3,h4⟩:=h
 have hl:=QkH h1 h3
 obtain⟨us0,hA,hU0⟩:=(Qjc.nil w).row
 have hU0:_=_:=hU0
 rw [hU0,U7] at hA
 obtain⟨us,⟨_,hb⟩,hU⟩:=id h4
 obtain⟨l1,l2⟩:=hU.len
 rw [J8] at l1
 obtain⟨A,cap,rfl,_,_,_⟩:=h4.cells
 refine⟨A,_,cap,rfl,by rw [J8];exact hl,?_⟩
 have ca:Qc [] w (w.alloc (.cells #[] 109)):=(B0 _ _).alloc _
 obtain⟨A',cap',w',hr,hA',hc,hown⟩:=Zi (w:=w.alloc (.cells #[] 109)) 105 105 109 _ 6 80 Tryz.underlying105 QjQ rfl (by omega) hA (B0 _ _) A (K.map Qj8).length cap us (by rw [J8];exact l1) (fun hne=>by
   rcases hb with ⟨e,hz⟩|⟨g,c1,cur,e,_,hb,_,_,_,htk⟩
   ·rw [J8] at hz
    rw [hz] at l1
    exact absurd (I6 (by omega)) hne
   ·injection e with e1 e2 e3
    refine⟨g,0,e1,fun j u hj=>?_⟩
    rw [J3]
    have hj2:j<(K.map Qj8).length * 6:=by
     obtain⟨hlt,_⟩:=N9.1 hj
     rw [J8]
     omega
    rw [<-htk,List.getElem?_take_of_lt hj2] at hj
    refine(ca.cell (p:=⟨g,j,none⟩) (F5.1 hb).1 (by simp)).trans ?_
    unfold World.cell?
    rw [hb]
    simpa using hj) l2 (by rw [J8];omega) (by omega)
 refine⟨A',cap',w',hr,?_⟩
 have hcw:Qc [] w w':=ca.trans hc (fun y hy=>.inr (by
  rw [show Ub (.slice (some ⟨w.heap.size,0,none⟩) 0 0)=[w.heap.size] from rfl,E0] at hy
  omega))
 refine⟨⟨K,h1,h2,h3,?_⟩,hcw,fun y hy=>?_⟩
 ·have e0:([]:List Value).map QD.v++us.map QD.v=us.map QD.v:=by simp
  rw [e0] at hA'
  have hA2:Yo {w' with heap:= #[] } w' 109 6 (.slice A' (0+(K.map Qj8).length) cap') (0+(K.map Qj8).length) (us.map QD.v):=by
   obtain⟨xs,S',o1,o2,o3,o4,o5,o6⟩:=hA'
   exact⟨xs,S',o1,o2,o3,o4,o5,⟨rfl,rfl,rfl,I3 _,fun k hk=>absurd hk (by simp)⟩⟩
  exact Qjc.of (w:=w') hA2 (by simp) (hU.keep hcw Qjh.nil)
 ·rcases hown with e|e
  ·rw [QkS e] at hy
   rw [E0.1 (show y∈ [w.heap.size] from hy)]
   exact F0 _
  ·rw [QkS e] at hy
   rw [E0.1 (show y∈ [_] from hy)]
   exact ca.size
end Go.Proofs.YtfjhdnjlhjimeaaGreatDoor
set_option maxRecDepth 100000
set_option maxHeartbeats 8000000
namespace Go.Proofs.YtfjhdnjlhjimeaaGreatDoor
open Go.RowKit

theorem QkX (a:Qa) (x:YY Kn) (us:Value) (A1 A2:Option Addr) (c1 c2 bw cw:Nat) (A:Nat->Int->Prop) (w:World) (ha:Qgc a) (h8:¬a.op=8) (h9:¬a.op=9) (hx:x.All Kn.sm) (hs:Qjg w (Qj8 x).list us) (hW:Qj2 w bw A):
  Calls Tryz.prog 78 #[.agg #[us,.slice none 0 0,.int .i64 0,.int .i64 0,.int .i64 0,.int .i64 0],Qkc a A1 A2 c1 c2,.slice (some ⟨bw,0,none⟩) 3 cw] w (Qkf a x bw cw A w):=by
 have hop:=Gt ha.1
 have h3:=ha.2.1
 have h10:=ha.2.2
 by_cases h1:a.op=1
 ·exact Qkj a x us A1 A2 c1 c2 bw cw A w ha hx hs hW h1
 by_cases h2:a.op=2
 ·exact Qkw a x us A1 A2 c1 c2 bw cw A w ha hx hs hW h2
 by_cases h4:a.op=4
 ·exact Qki a x us A1 A2 c1 c2 bw cw A w ha hx hs hW h4
 by_cases h5:a.op=5
 ·exact Qkd a x us A1 A2 c1 c2 bw cw A w ha hx hs hW h5
 by_cases h6:a.op=6
 ·exact Qkl a x us A1 A2 c1 c2 bw cw A w ha hx hs hW h6
 ·exact Qku a x us A1 A2 c1 c2 bw cw A w ha hx hs hW (by omega)
theorem KWq.ne {w:World} {X:YY Kn->Prop} {v:Value} {bw:Nat} {A:Nat->Int->Prop} (h:KWq w X v) (hW:Qj2 w bw A):bw∉Ub v:=by
 obtain⟨K,_,_,_,us,⟨_,h1⟩,_⟩:=h
 obtain⟨_,_,_,_,⟨cs,fr,hk⟩,_⟩:=hW
 rcases h1 with ⟨rfl,_⟩|⟨g,cap,cur,rfl,_,hb,_⟩
 ·intro h;cases h
 ·intro h
  rw [E0.1 (show bw∈ [g] from h),hb] at hk
  injection hk with hk
  injection hk with _ h3
  revert h3
  decide
theorem Qj2.lt {w:World} {b:Nat} {A:Nat->Int->Prop} (h:Qj2 w b A):b<w.heap.size:=by obtain⟨_,_,_,h,_⟩:=h;exact h.lt
def QkY (SB:Nat->Prop) (B bw cw:Nat) (m:List Qa):Prop:=∀(ul v:Value) (X:YY Kn->Prop) (A:Nat->Int->Prop) (w:World),B<=w.heap.size->B<=bw->KWq w X v->Qj2 w bw A->WY SB w m ul->
 Calls Tryz.prog 50 #[v,ul,.slice (some ⟨bw,0,none⟩) 3 cw] w fun e w'=>∃v' fb,e= .returned (.tuple #[v',.slice (some ⟨bw,0,none⟩) 3 cw,.bool fb])/\KWq w' (fun t=>∃s,X s/\(w3L Qid m).reach s t) v'/\
  Qj2 w' bw (fun i n=>A i n∨∃s,X s/\(w3L Qid m).ask s i n)/\(fb=true↔ ¬ ∃s,X s/\(w3L Qid m).fail s)/\Qc [bw] w w'/\∀y∈Ub v',w.heap.size<=y
theorem QkW {α:Type} {K:List α} {k:Nat} (h:k<K.length) {s:α}:s∈K.take (k+1)↔s∈K.take k∨s=K[k]:=by
 rw [G6 h,F4,E0]
theorem QkZ (SB:Nat->Prop) (B bw cw:Nat) (m:List Qa) (hsb:∀y,SB y->y<B) (hP:∀a∈m,Qgc a) (hF:∀a∈m,(a.op=8->QkY SB B bw cw a.A/\QkY SB B bw cw a.B)/\(a.op=9->QkY SB B bw cw a.A)):QkY SB B bw cw m:=by
 intro ul v X A w hB hbw hX hW hL
 obtain⟨Aa,cap,eul,hcap,hcm⟩:=hL.sl
 unfold maxLen at hcm
 subst eul
 have lbw:=hW.lt
 obtain⟨A0,n0,p0,rfl,hn0,hrun⟩:=QkV hX
 replace hrun:=Qb hrun
 replace hF:=Qb hF
 replace hP:=Qb hP
 go_enter Tryz.func50,Tryz.ntmps50
 go_wp2_with (first|(at_builtin;refine Vv rfl (.tmp 29) (.tmp 30) _ rfl rfl rfl hrun.out ?_;rintro A1 c1 w1 ⟨hK1,d1,o1⟩;simp only [J3] at hK1 o1 ⊢)|fail)
 have W1:=hW.keep d1
 clear hrun hX
 go_loopw [0,2,9,34] (fun lv wnq fn i wr=>∃k A5 n5 p5 fb Xkq Ak Fk,k<=m.length/\lv= .slice A5 n5 p5/\wnq= .slice (some ⟨bw,0,none⟩) 3 cw/\fn= .bool fb/\i= .int .i64 (k:Nat)/\Hid (QhF X A False (w3L Qid (m.take k)) Xkq Ak Fk)/\Hid (KWq wr Xkq (.slice A5 n5 p5))/\Hid (Qj2 wr bw Ak)/\Hid (fb=true↔ ¬Fk)/\Hid (Qc [bw] w wr)/\Hid (∀y∈Ub (.slice A5 n5 p5),w.heap.size<=y)) (fun _ _ _ i _=>m.length-(intOf i).toNat)
 case atStart=>exact⟨0,A1,n0,c1,true,X,A,False,I3 _,rfl,rfl,rfl,rfl,Qb (by rw [T9];exact QhF.zero X A False),Qb hK1,Qb W1,Qb (by simp),Qb (d1.mono (by simp)),Qb o1⟩
 clear hK1 W1 d1 o1
 case round=>
  obtain⟨k,A5,n5,p5,fb,Xkq,Ak,Fk,hk,rfl,rfl,rfl,rfl,hP3,hKk,hWk,hfb,hc,hown⟩:=hrel
  obtain⟨wo,hwo⟩:∃wo:World,wo=wr:=⟨_,rfl⟩
  rw [<-hwo] at hKk hWk hc ⊢
  clear hwo
  have zo:=hc.out.size
  by_cases hlt:k<m.length
  ·have lAo:=hL.keep hc.out hsb (fun y hy=>by rw [E0.1 hy];exact hbw)
   obtain⟨g,cap',eg,_,_,hact⟩:=lAo.act k hlt
   obtain⟨rfl,rfl⟩:Aa=some (⟨g,0,none⟩:Addr)/\cap=cap':=by injection eg with h1 _ h2;exact⟨h1,h2⟩
   clear eg lAo
   have hP2:=Qb (hP3.out.more hlt)
   have pa:=hP.out m[k] (I4 hlt)
   have hFa:=hF.out m[k] (I4 hlt)
   have hw3:=Qa.w3_eq Qid m[k]
   obtain⟨Y,hY⟩:∃Y,m[k].w3 Qid=Y:=⟨_,rfl⟩
   rw [hY] at hP2 hw3
   obtain⟨a,ha⟩:∃a,m[k]=a:=⟨_,rfl⟩
   rw [ha] at hact pa hFa hw3
   clear ha hY
   obtain⟨uA,uB,hgb,hgl,cs,lA,lB⟩:=hact
   obtain⟨A2,p2,eA,_,_⟩:=lA.sl
   obtain⟨A3,p3,eB,_,_⟩:=lB.sl
   subst eA eB
   obtain⟨f0,f1,f2,f3,f4,f5,f6,f7,f8,f9,f10⟩:=cs
   have hkl:=Qb (show 0<m.length-k by omega)
   have lbo:=hWk.out.lt
   replace hw3:=Qb hw3
   replace hFa:=Qb hFa
   replace pa:=Qb pa
   obtain⟨ybq,hyb⟩:∃ybq,wo.heap.size=ybq:=⟨_,rfl⟩
   clear hP3
   have kiq:((k:Nat):Int)<(m.length:Int):=by omega
   go_upto_region 7 with fail
   refine Qp fun w7 hw7=>?_
   have c7:Qc [] wo w7:=by rw [hw7];exact C6
   have z7q:w7.heap.size=ybq+2:=by rw [hw7, <-hyb];simp
   have Ba:ZU w7 ybq [.int .i64 a.op,.int .i64 a.slot,.int .i64 a.other,.string a.word,.string a.call.method,.string a.call.key,.int .i64 a.call.value,.string a.call.text,.int .i64 a.face,.slice A2 a.A.length p2,.slice A3 a.B.length p3]:=by rw [hw7, <-hyb];exact(L9 wo _ _).alloc _
   have N7:KWq w7 (fun _=>False) (.slice (some ⟨ybq+1,0,none⟩) 0 0):=by
    rw [hw7]
    have:=KWq.nil (wo.alloc (.cells #[.int .i64 a.op,.int .i64 a.slot,.int .i64 a.other,.string a.word,.string a.call.method,.string a.call.key,.int .i64 a.call.value,.string a.call.text,.int .i64 a.face,.slice A2 a.A.length p2,.slice A3 a.B.length p3] 33))
    rwa [show(wo.alloc (.cells #[.int .i64 a.op,.int .i64 a.slot,.int .i64 a.other,.string a.word,.string a.call.method,.string a.call.key,.int .i64 a.call.value,.string a.call.text,.int .i64 a.face,.slice A2 a.A.length p2,.slice A3 a.B.length p3] 33)).heap.size=ybq+1 by rw [<-hyb];simp] at this
   clear hw7 f0 f1 f2 f3 f4 f5 f6 f7 f8 f9 f10
   try rw [hyb]
   have K7:=Qb (hKk.out.keep c7 Qjh.nil (by simp))
   have W7q:=Qb (hWk.out.keep c7)
   have low5:=Qb (fun y (hy:y∈Ub (.slice A5 n5 p5))=>hyb ▸ hKk.out.lt y hy)
   have L7A:=Qb (lA.keep (B:=B) c7 hsb (by simp))
   have L7B:=Qb (lB.keep (B:=B) c7 hsb (by simp))
   have cw7:=Qb (hc.out.trans c7 (fun _ h=>by cases h))
   have bwy:bw<ybq:=by omega
   have Byb:B<=ybq:=by omega
   have px:=Ba.o11
   clear c7 hKk hWk lA lB hc
   replace N7:=Qb N7
   have nb5:=Qb (K7.out.ne W7q.out)
   by_cases h8:a.op=8
   ·obtain⟨HA,HB⟩:=hFa.out.1 h8
    have hw:Hid (Y=W3.alt (w3L Qid a.A) (w3L Qid a.B)):=Qb (by have:=hw3.out;rwa [if_pos h8] at this)
    rw [h8] at Ba px
    have HA7:=Qb (HA _ _ _ _ w7 (by omega) hbw K7.out W7q.out L7A.out)
    have HBx:=Qb HB
    clear HA HB N7 hw3 hFa
    go_wp2_with fail
    refine HA7.out.mono ?_
    rintro e w8 ⟨v1,b1,rfl,k8,W8q,hb1,c8,o8⟩
    have px8:=(Ba.keep c8 (by simp;omega)).o11
    obtain⟨B1,m1,q1,rfl⟩:=k8.sl
    have z8:=c8.size
    have HB8:=Qb (HBx.out _ _ _ _ w8 (by omega) hbw (K7.out.keep c8 W7q.out.noStrs (fun x hx=>by rw [E0];exact fun e=>nb5.out (e ▸ hx))) W8q (L7B.out.keep c8 hsb (fun y hy=>by rw [E0.1 hy];exact hbw)))
    have C8qq:=Qb c8
    replace hb1:=Qb hb1
    replace k8:=Qb k8
    replace W8q:=Qb W8q
    replace o8:=Qb o8
    clear HA7 HBx c8 px
    go_wp2_with fail
    refine HB8.out.mono ?_
    rintro e w9 ⟨v2,b2,rfl,k9q,W9q,hb2,c9,o9⟩
    obtain⟨B2,m2,q2,rfl⟩:=k9q.sl
    have z9:=c9.size
    have k89:=k8.out.keep c9 W8q.out.noStrs (fun x hx=>by rw [E0];exact fun e=>k8.out.ne W8q.out (e ▸ hx))
    have AA:=Qb (QkQ k89 k9q (fun y hy hy2=>by have h1:=o9 y hy;have h2:=k8.out.lt y hy2;omega))
    have nb1:=Qb (k8.out.ne W8q.out)
    have C9qq:=Qb c9
    replace hb2:=Qb hb2
    replace W9q:=Qb W9q
    clear HB8 k89 k9q o9 c9
    go_wp2_with fail
    refine AA.out.mono ?_
    rintro e wtq ⟨v3,rfl,ktq,ct,ot⟩
    obtain⟨B3,m3,q3,rfl⟩:=ktq.sl
    have Wtq:=Qb ((W9q.out.keep ct nb1.out).congr (A':=fun i n=>Ak i n∨∃u,Xkq u/\Y.ask u i n) (fun i n=>by rw [hw.out];exact⟨fun h=>h.elim (fun h=>h.elim .inl (fun⟨s,h1,h2⟩=>.inr ⟨s,h1,.inl h2⟩)) (fun⟨s,h1,h2⟩=>.inr ⟨s,h1,.inr h2⟩),fun h=>h.elim (fun h=>.inl (.inl h)) (fun⟨s,h1,h2⟩=>h2.elim (fun h2=>.inl (.inr ⟨s,h1,h2⟩)) (fun h2=>.inr ⟨s,h1,h2⟩))⟩))
    have Ktq:=Qb (ktq.congr (Y:=fun t=>∃u,Xkq u/\Y.reach u t) (fun t=>by rw [hw.out];exact⟨fun h=>h.elim (fun⟨s,h1,h2⟩=>⟨s,h1,.inl h2⟩) (fun⟨s,h1,h2⟩=>⟨s,h1,.inr h2⟩),fun⟨s,h1,h2⟩=>h2.elim (fun h2=>.inl ⟨s,h1,h2⟩) (fun h2=>.inr ⟨s,h1,h2⟩)⟩))
    have Ct:=Qb ((((cw7.out.trans C8qq.out (fun _ h=>.inl h)).trans C9qq.out (fun _ h=>.inl h))).trans ct (fun y hy=>.inr (by have:=o8.out y hy;omega)))
    have Ot:=Qb (fun y (hy:y∈Ub (.slice B3 m3 q3))=>(ot y hy).elim (fun h=>by have:=o8.out y h;omega) (fun h=>by omega):∀y∈Ub (.slice B3 m3 q3),w.heap.size<=y)
    have Ft:Hid (((fb&&b1)&&b2)=true↔ ¬(Fk∨∃u,Xkq u/\Y.fail u)):=Qb (by
     rw [T0,T0,hfb.out,hb1.out,hb2.out,hw.out]
     exact⟨fun⟨⟨h1,h2⟩,h3⟩ h=>h.elim h1 (fun⟨s,hs,h⟩=>h.elim (fun h=>h2 ⟨s,hs,h⟩) (fun h=>h3 ⟨s,hs,h⟩)),fun h=>⟨⟨fun h1=>h (.inl h1),fun⟨s,hs,h1⟩=>h (.inr ⟨s,hs,.inl h1⟩)⟩,fun⟨s,hs,h1⟩=>h (.inr ⟨s,hs,.inr h1⟩)⟩⟩)
    clear AA ct ot ktq hfb hb1 hb2 px8 Ba
    cases fb<;>cases b1<;>cases b2
    all_goals
     go_wp2_with fail
     go_roundw
     case rel=>exact⟨k+1,_,_,_,_,_,_,_,by omega,rfl,rfl,rfl,by go_num,hP2,Ktq,Wtq,Ft,Ct,Ot⟩
     case measure=>have:=hkl.out;simp [intOf];omega
   by_cases h9:a.op=9
   ·have HA:=Qb (hFa.out.2 h9)
    obtain⟨XA,hXA⟩:∃XA,w3L Qid a.A=XA:=⟨_,rfl⟩
    have hw:Hid (Y=W3.loop XA):=Qb (by have:=hw3.out;rwa [if_neg h8,if_pos h9,hXA] at this)
    rw [h9] at Ba px
    have d57:∀y∈Ub (.slice A5 n5 p5),y∉Ub (.slice (some ⟨ybq+1,0,none⟩) 0 0):=fun y hy hy2=>by have:=low5.out y hy;rw [E0.1 (show y∈ [ybq+1] from hy2)] at this;omega
    have AA:=Qb (QkQ N7.out K7.out d57)
    replace d57:=Qb d57
    clear hw3 hFa
    go_wp2_with fail
    refine AA.out.mono ?_
    rintro e w8 ⟨v1,rfl,k8,c8,o8⟩
    obtain⟨B1,m1,q1,rfl⟩:=k8.sl
    have z8:=c8.size
    have Ba8:=Qb (Ba.keep c8 (by rw [show Ub (.slice (some ⟨ybq+1,0,none⟩) 0 0)=[ybq+1] from rfl,E0];omega))
    have K8:=Qb (K7.out.keep c8 N7.out.noStrs d57.out)
    have W8q:=Qb (W7q.out.keep c8 (by rw [show Ub (.slice (some ⟨ybq+1,0,none⟩) 0 0)=[ybq+1] from rfl,E0];omega))
    have O8qq:Hid (∀y∈Ub (.slice B1 m1 q1),ybq+1<=y):=Qb (fun y hy=>(o8 y hy).elim (fun h=>by rw [E0.1 (show y∈ [ybq+1] from h)];omega) (fun h=>by omega))
    have L8:=Qb (L7A.out.keep c8 hsb (fun y hy=>by rw [E0.1 (show y∈ [ybq+1] from hy)];omega))
    have C8qq:Hid (Qc [bw] w w8):=Qb (cw7.out.trans c8 (fun y hy=>.inr (by rw [E0.1 (show y∈ [ybq+1] from hy)];omega)))
    have k8h:=Qb (k8.congr (Y:=fun t=>∃n,n<=0/\∃s,Xkq s/\(XA.pow n).reach s t) (fun t=>⟨fun h=>h.elim (fun h=>h.elim) (fun h=>⟨0,F0 _,t,h,rfl⟩),fun⟨n,h1,s,h2,h3⟩=>.inr (by obtain rfl:n=0:=(by omega);rw [show t=s from h3];exact h2)⟩))
    have K80:=Qb (K8.out.congr (Y:=fun t=>∃s,Xkq s/\(XA.pow 0).reach s t) (fun t=>⟨fun h=>⟨t,h,rfl⟩,fun⟨s,h,e⟩=>by rw [show t=s from e];exact h⟩))
    have W80:=Qb (W8q.out.congr (A':=fun i n=>Ak i n∨∃s,Xkq s/\(XA.pow 0).ask s i n) (fun i n=>⟨.inl,fun h=>h.elim id (fun⟨_,_,h⟩=>h.elim)⟩))
    have F80:Hid (fb=true↔ ¬(Fk∨∃s,Xkq s/\(XA.pow 0).fail s)):=Qb (hfb.out.trans (not_congr ⟨.inl,fun h=>h.elim id (fun⟨_,_,h⟩=>h.elim)⟩))
    have Y80:Hid (∀y∈Ub (.slice A5 n5 p5),y∉Ub (.slice B1 m1 q1)):=Qb (fun y hy hy2=>by have h1:=low5.out y hy;have h2:=O8qq.out y hy2;omega)
    clear AA N7 K7 W7q Ba c8 o8 k8 K8 W8q hfb px L7A
    go_wp2_with fail
    go_loopw [2,9,12,19,20] (fun wnq fn nx mv i wr=>∃j Bn nn qnq Bm nm qmq b9,j<=3/\wnq= .slice (some ⟨bw,0,none⟩) 3 cw/\fn= .bool b9/\nx= .slice Bn nn qnq/\mv= .slice Bm nm qmq/\i= .int .i64 (j:Nat)/\Hid (KWq wr (fun t=>∃n,n<=j/\∃s,Xkq s/\(XA.pow n).reach s t) (.slice Bn nn qnq))/\Hid (KWq wr (fun t=>∃s,Xkq s/\(XA.pow j).reach s t) (.slice Bm nm qmq))/\Hid (Qj2 wr bw (fun i n=>Ak i n∨∃s,Xkq s/\(XA.pow j).ask s i n))/\Hid (b9=true↔ ¬(Fk∨∃s,Xkq s/\(XA.pow j).fail s))/\Hid (Qc [bw] w wr)/\Hid (ZU wr ybq [.int .i64 9,.int .i64 a.slot,.int .i64 a.other,.string a.word,.string a.call.method,.string a.call.key,.int .i64 a.call.value,.string a.call.text,.int .i64 a.face,.slice A2 a.A.length p2,.slice A3 a.B.length p3])/\Hid (WY SB wr a.A (.slice A2 a.A.length p2))/\Hid (∀y∈Ub (.slice Bn nn qnq),ybq+1<=y)/\Hid (∀y∈Ub (.slice Bm nm qmq),y∉Ub (.slice Bn nn qnq))/\ybq+1<=wr.heap.size) (fun _ _ _ _ i _=>3-(intOf i).toNat)
    case atStart=>exact⟨0,B1,m1,q1,A5,n5,p5,fb,by omega,rfl,rfl,rfl,rfl,rfl,k8h,K80,W80,F80,C8qq,Ba8,L8,O8qq,Y80,by omega⟩
    clear k8h K80 W80 F80 C8qq Ba8 L8 O8qq Y80
    case round=>
     obtain⟨j,Bn,nn,qnq,Bm,nm,qmq,b9,hj,rfl,rfl,rfl,rfl,rfl,knq,kmq,Wjq,hb9,cj,Baj,Lj,Oj,Yjq,zjq⟩:=hrel
     obtain⟨wp,hwp⟩:∃wp:World,wp=wr:=⟨_,rfl⟩
     rw [<-hwp] at knq kmq Wjq cj Baj Lj zjq ⊢
     clear hwp
     by_cases hj3:j<3
     ·have jiq:((j:Nat):Int)<3:=by omega
      have HAj:=Qb (HA.out _ _ _ _ wp (by omega) hbw kmq.out Wjq.out Lj.out)
      rw [hXA] at HAj
      have pxj:=Baj.out.o11
      clear kmq
      go_wp2_with fail
      refine HAj.out.mono ?_
      rintro e w9 ⟨v2,b2,rfl,k9q,W9q,hb2,c9,o9⟩
      obtain⟨B2,m2,q2,rfl⟩:=k9q.sl
      have z9:=c9.size
      have kn9:=knq.out.keep c9 Wjq.out.noStrs (fun x hx=>by rw [E0];exact fun e=>by have:=Oj.out x hx;omega)
      have d92:∀y∈Ub (.slice B2 m2 q2),y∉Ub (.slice Bn nn qnq):=fun y hy hy2=>by have h1:=o9 y hy;have h2:=knq.out.lt y hy2;omega
      have AB:=Qb (QkQ kn9 k9q d92)
      have k9h:=Qb k9q
      have kn9h:=Qb kn9
      replace d92:=Qb d92
      have Ba9:=Qb (Baj.out.keep c9 (by simp;omega))
      have L9qq:=Qb (Lj.out.keep c9 hsb (fun y hy=>by rw [E0.1 hy];exact hbw))
      have W9h:=Qb W9q
      have C9qq:=Qb (cj.out.trans c9 (fun _ h=>.inl h))
      have F9:Hid ((b9&&b2)=true↔ ¬(Fk∨∃s,Xkq s/\(XA.pow (j+1)).fail s)):=Qb (by
       rw [T0,hb9.out,hb2]
       exact⟨fun⟨h1,h2⟩ h=>h.elim (fun h=>h1 (.inl h)) (fun⟨s,hs,h⟩=>h.elim (fun h=>h1 (.inr ⟨s,hs,h⟩)) (fun⟨u,h3,h4⟩=>h2 ⟨u,⟨s,hs,h3⟩,h4⟩)),fun h=>⟨fun h1=>h1.elim (fun h1=>h (.inl h1)) (fun⟨s,hs,h1⟩=>h (.inr ⟨s,hs,.inl h1⟩)),fun⟨u,⟨s,hs,h3⟩,h4⟩=>h (.inr ⟨s,hs,.inr ⟨u,h3,h4⟩⟩)⟩⟩)
      clear HAj k9q kn9 W9q hb2 c9 o9 hb9 knq Wjq cj Baj Lj pxj
      have hj3i:=Qb hj3
      cases b9<;>cases b2
      all_goals
       go_wp2_with fail
       refine AB.out.mono ?_
       rintro e wtq ⟨v3,rfl,ktq,ct,ot⟩
       obtain⟨B3,m3,q3,rfl⟩:=ktq.sl
       have zt:=ct.size
       have Ktq:=Qb (ktq.congr (Y:=fun t=>∃n,n<=j+1/\∃s,Xkq s/\(XA.pow n).reach s t) (fun t=>⟨fun h=>h.elim (fun⟨n,h1,h2⟩=>⟨n,by omega,h2⟩) (fun⟨u,⟨s,hs,h1⟩,h2⟩=>⟨j+1,F0 _,s,hs,u,h1,h2⟩),fun⟨n,h1,s,hs,h2⟩=>by
        by_cases hn:n<=j
        ·exact .inl ⟨n,hn,s,hs,h2⟩
        ·obtain rfl:n=j+1:=by omega
         obtain⟨u,h3,h4⟩:=h2
         exact .inr ⟨u,⟨s,hs,h3⟩,h4⟩⟩))
       have Mt:=Qb ((k9h.out.keep ct kn9h.out.noStrs d92.out).congr (Y:=fun t=>∃s,Xkq s/\(XA.pow (j+1)).reach s t) (fun t=>⟨fun⟨u,⟨s,hs,h1⟩,h2⟩=>⟨s,hs,u,h1,h2⟩,fun⟨s,hs,u,h1,h2⟩=>⟨u,⟨s,hs,h1⟩,h2⟩⟩))
       have Wtq:=Qb ((W9h.out.keep ct (fun h=>by have:=Oj.out _ h;omega)).congr (A':=fun i n=>Ak i n∨∃s,Xkq s/\(XA.pow (j+1)).ask s i n) (fun i n=>⟨fun h=>h.elim (fun h=>h.elim .inl (fun⟨s,hs,h⟩=>.inr ⟨s,hs,.inl h⟩)) (fun⟨u,⟨s,hs,h1⟩,h2⟩=>.inr ⟨s,hs,.inr ⟨u,h1,h2⟩⟩),fun h=>h.elim (fun h=>.inl (.inl h)) (fun⟨s,hs,h⟩=>h.elim (fun h=>.inl (.inr ⟨s,hs,h⟩)) (fun⟨u,h1,h2⟩=>.inr ⟨u,⟨s,hs,h1⟩,h2⟩))⟩))
       have Ct:=Qb (C9qq.out.trans ct (fun y hy=>.inr (by have:=Oj.out y hy;omega)))
       have Bt:=Qb (Ba9.out.keep ct (fun h=>by have:=Oj.out _ h;omega))
       have Lt:=Qb (L9qq.out.keep ct hsb (fun y hy=>by have:=Oj.out y hy;omega))
       have Ot:=Qb (fun y (hy:y∈Ub (.slice B3 m3 q3))=>(ot y hy).elim (Oj.out y) (fun h=>by omega):∀y∈Ub (.slice B3 m3 q3),ybq+1<=y)
       have Ytq:=Qb (fun y (hy:y∈Ub (.slice B2 m2 q2)) (hy2:y∈Ub (.slice B3 m3 q3))=>(ot y hy2).elim (d92.out y hy) (fun h=>by have:=k9h.out.lt y hy;omega):∀y∈Ub (.slice B2 m2 q2),y∉Ub (.slice B3 m3 q3))
       clear AB k9h kn9h d92 Ba9 L9qq W9h C9qq ktq ct ot Oj
       go_wp2_with fail
       go_roundw
       case rel=>exact⟨j+1,_,_,_,_,_,_,_,by have:=hj3i.out;omega,rfl,rfl,rfl,rfl,by go_num,Ktq,Mt,Wtq,F9,Ct,Bt,Lt,Ot,Ytq,by omega⟩
       case measure=>have:=hj3i.out;simp [intOf];omega
     ·obtain rfl:j=3:=by omega
      have Ktq:=Qb (knq.out.congr (Y:=fun t=>∃u,Xkq u/\Y.reach u t) (fun t=>by rw [hw.out];exact⟨fun⟨n,h1,s,hs,h2⟩=>⟨s,hs,n,h1,h2⟩,fun⟨s,hs,n,h1,h2⟩=>⟨n,h1,s,hs,h2⟩⟩))
      have Wtq:Hid (Qj2 wp bw (fun i n=>Ak i n∨∃u,Xkq u/\Y.ask u i n)):=Qb (by rw [hw.out];exact Wjq.out)
      have Ft:Hid (b9=true↔ ¬(Fk∨∃u,Xkq u/\Y.fail u)):=Qb (by rw [hw.out];exact hb9.out)
      have Ot:=Qb (fun y (hy:y∈Ub (.slice Bn nn qnq))=>(by have:=Oj.out y hy;omega:w.heap.size<=y))
      clear knq kmq Wjq hb9 Baj Lj Oj Yjq
      go_wp2_with fail
      go_roundw
      case rel=>exact⟨k+1,_,_,_,_,_,_,_,by omega,rfl,rfl,rfl,by go_num,hP2,Ktq,Wtq,Ft,cj,Ot⟩
      case measure=>have:=hkl.out;simp [intOf];omega
   have hw:Hid (Y=Qid a):=Qb (by have:=hw3.out;rwa [if_neg h8,if_neg h9] at this)
   have ne8:(a.op==8)=false:=by simpa using h8
   have ne9:(a.op==9)=false:=by simpa using h9
   obtain⟨K,kn1,kn2,kn3,kn4⟩:=K7.out
   have lK:=QkH kn1 kn3
   obtain⟨A',cap9,ev,_,_,_⟩:=kn4.cells
   rw [J8] at ev
   obtain⟨rfl,rfl,rfl⟩:A5=A'/\n5=K.length/\p5=cap9:=by injection ev with h1 h2 h3;exact⟨h1,h2,h3⟩
   have hx89:=Qb (And.intro h8 h9)
   have NS7:Qjh w7 [bw,ybq+1]:=fun x hx=>by
    rcases C7.1 hx with rfl|hx
    ·exact W7q.out.noStrs _ K0
    ·exact N7.out.noStrs x hx
   replace NS7:=Qb NS7
   replace kn2:=Qb kn2
   replace kn3:=Qb kn3
   replace kn4:=Qb kn4
   have N70:=Qb (N7.out.congr (Y:=fun t=>∃s,s∈K.take 0/\Y.reach s t) (fun t=>⟨fun h=>h.elim,fun⟨s,h,_⟩=>by rw [T9] at h;cases h⟩))
   have W70:=Qb (W7q.out.congr (A':=fun i n=>Ak i n∨∃s,s∈K.take 0/\Y.ask s i n) (fun i n=>⟨.inl,fun h=>h.elim id (fun⟨s,h,_⟩=>by rw [T9] at h;cases h)⟩))
   have F70:Hid (fb=true↔ ¬(Fk∨∃s,s∈K.take 0/\Y.fail s)):=Qb (hfb.out.trans (not_congr ⟨.inl,fun h=>h.elim id (fun⟨s,h,_⟩=>by rw [T9] at h;cases h)⟩))
   have O70:Hid (∀y∈Ub (.slice (some ⟨ybq+1,0,none⟩) 0 0),ybq+1<=y):=Qb (fun y hy=>by rw [E0.1 (show y∈ [ybq+1] from hy)];omega)
   replace Ba:=Qb Ba
   clear hw3 hFa h8 h9 kn1 ev N7 hfb K7 W7q
   go_wp2_with fail
   go_loopw [2,9,12,43] (fun wnq fn nx i wr=>∃j Bn nn qnq b9,j<=K.length/\wnq= .slice (some ⟨bw,0,none⟩) 3 cw/\fn= .bool b9/\nx= .slice Bn nn qnq/\i= .int .i64 (j:Nat)/\Hid (KWq wr (fun t=>∃s,s∈K.take j/\Y.reach s t) (.slice Bn nn qnq))/\Hid (Qj2 wr bw (fun i n=>Ak i n∨∃s,s∈K.take j/\Y.ask s i n))/\Hid (b9=true↔ ¬(Fk∨∃s,s∈K.take j/\Y.fail s))/\Hid (Qc [bw,ybq+1] w7 wr)/\Hid (∀y∈Ub (.slice Bn nn qnq),ybq+1<=y)) (fun _ _ _ i _=>K.length-(intOf i).toNat)
   case atStart=>exact⟨0,_,_,_,fb,I3 _,rfl,rfl,rfl,rfl,N70,W70,F70,Qb (B0 _ _),O70⟩
   clear N70 W70 F70 O70
   case round=>
    obtain⟨j,Bn,nn,qnq,b9,hj,rfl,rfl,rfl,rfl,knq,Wjq,hb9,cj,Oj⟩:=hrel
    obtain⟨wp,hwp⟩:∃wp:World,wp=wr:=⟨_,rfl⟩
    rw [<-hwp] at knq Wjq cj ⊢
    clear hwp
    have zjq:=cj.out.size
    by_cases hjl:j<K.length
    ·have HMo:=kn4.out.keep cj.out NS7.out (fun x hx hx2=>by
      have:=low5.out x hx
      rcases C7.1 hx2 with rfl|hx2
      ·exact nb5.out hx
      ·rw [E0.1 hx2] at this;omega)
     obtain⟨A8,cap8,ev,_,_,hcell⟩:=HMo.cells
     rw [J8] at ev
     obtain⟨rfl,rfl⟩:A5=A8/\p5=cap8:=by injection ev with h1 _ h2;exact⟨h1,h2⟩
     obtain⟨gg,hgg,lgg,a',ha',hcs⟩:=hcell j (by rw [J8];exact hjl)
     subst hgg
     rw [List.getElem_map] at ha'
     have q0:wp.cell? ⟨gg,j * 6,none⟩=some a':=by obtain⟨u,h1,h2⟩:=hcs 0 (by omega);cases h1;exact h2
     have q1:wp.cell? ⟨gg,j * 6+1,none⟩=some (.slice none 0 0):=by obtain⟨u,h1,h2⟩:=hcs 1 (by omega);cases h1;exact h2
     have q2:wp.cell? ⟨gg,j * 6+2,none⟩=some (.int .i64 0):=by obtain⟨u,h1,h2⟩:=hcs 2 (by omega);cases h1;exact h2
     have q3:wp.cell? ⟨gg,j * 6+3,none⟩=some (.int .i64 0):=by obtain⟨u,h1,h2⟩:=hcs 3 (by omega);cases h1;exact h2
     have q4:wp.cell? ⟨gg,j * 6+4,none⟩=some (.int .i64 0):=by obtain⟨u,h1,h2⟩:=hcs 4 (by omega);cases h1;exact h2
     have q5:wp.cell? ⟨gg,j * 6+5,none⟩=some (.int .i64 0):=by obtain⟨u,h1,h2⟩:=hcs 5 (by omega);cases h1;exact h2
     obtain⟨b',off',c',ea,_,_,_,_,_,_⟩:=ha'.at3
     subst ea
     have jiq:((j:Nat):Int)<(K.length:Int):=by omega
     have hso:=kn3.out K[j] (I4 hjl)
     have mt:Hid (∀t,t∈K.take (j+1)↔t∈K.take j∨t=K[j]):=Qb (fun t=>QkW hjl)
     obtain⟨s,hs⟩:∃s,K[j]=s:=⟨_,rfl⟩
     rw [hs] at ha' hso mt
     replace hso:=Qb hso
     have hjli:=Qb hjl
     have GVq:=Qb (fun W (hc:Qc [] wp W)=>QkX a s _ A2 A3 p2 p3 bw cw _ W pa.out hx89.out.1 hx89.out.2 (QkU hso.out) (ha'.keep hc Qjh.nil) (Wjq.out.keep hc))
     unfold Qkc at GVq
     have pxj:=(Ba.out.keep cj.out (by simp;omega)).o11
     have lyb:=(Ba.out.keep cj.out (by simp;omega)).lt
     obtain⟨xb,hxb⟩:∃xb,wp.heap.size=xb:=⟨_,rfl⟩
     clear hcs hcell ev hs HMo ha'
     go_upto_region 11 with fail
     refine Qp fun w8 hw8=>?_
     have c8:Qc [] wp w8:=by rw [hw8];exact C6
     have Bx:ZU w8 xb [.slice (some ⟨b',off',none⟩) 3 c',.slice none 0 0,.int .i64 0,.int .i64 0,.int .i64 0,.int .i64 0]:=by rw [hw8, <-hxb];exact L9 wp _ _
     clear hw8
     try rw [hxb]
     have px8:=Bx.o6
     have pa8:=((Ba.out.keep cj.out (by simp;omega)).keep c8).o11
     have G8:=Qb (GVq.out w8 c8)
     have kn8:=Qb (knq.out.keep c8 Qjh.nil (by simp))
     have W8q:=Qb (Wjq.out.keep c8)
     have C8qq:=Qb (cj.out.trans c8 (fun _ h=>by cases h))
     have lkn:=Qb (knq.out.ne Wjq.out)
     have lz8:=c8.size
     clear q0 q1 q2 q3 q4 q5 GVq c8 Bx pxj knq cj
     go_wp2_with fail
     refine G8.out.mono ?_
     rintro e w9 ⟨Ag,ng,cg,code,ok,rfl,W9q,c9,hcode,hfail,hno0,hno1,hyes⟩
     have kn9:=Qb (kn8.out.keep c9 W8q.out.noStrs (fun x hx=>by rw [E0];exact fun e=>lkn.out (e ▸ hx)))
     obtain⟨rb,hrb⟩:∃rb,w9.heap.size=rb:=⟨_,rfl⟩
     have lxb:=c9.size
     replace hfail:=Qb hfail
     replace hno0:=Qb hno0
     replace hno1:=Qb hno1
     replace hyes:=Qb hyes
     replace W9q:=Qb W9q
     replace c9:=Qb c9
     replace hcode:=Qb hcode
     clear px8 pa8 G8 kn8 Wjq W8q
     go_upto_region 12 with fail
     refine Qp fun w10 hw10=>?_
     have c10:Qc [] w9 w10:=by rw [hw10];exact C6
     have Br:ZU w10 rb [.slice Ag ng cg,.slice none 0 0,.int .i64 code,.int .i64 0,.int .i64 0,.int .i64 0]:=by rw [hw10, <-hrb];exact L9 w9 _ _
     clear hw10
     try rw [hrb]
     have ktq:=Qb (kn9.out.keep c10 Qjh.nil (by simp))
     have Wtq:=Qb ((W9q.out.keep c10).congr (A':=fun i n=>Ak i n∨∃t,t∈K.take (j+1)/\Y.ask t i n) (fun i n=>by
      rw [hw.out]
      exact⟨fun h=>h.elim (fun h=>h.elim .inl (fun⟨t,h1,h2⟩=>.inr ⟨t,(mt.out t).2 (.inl h1),h2⟩)) (fun h=>.inr ⟨s,(mt.out s).2 (.inr rfl),h⟩),fun h=>h.elim (fun h=>.inl (.inl h)) (fun⟨t,h1,h2⟩=>((mt.out t).1 h1).elim (fun h1=>.inl (.inr ⟨t,h1,h2⟩)) (fun e=>.inr (e ▸ h2)))⟩))
     have Ct:=Qb ((C8qq.out.trans c9.out (fun y hy=>.inl (by rw [E0.1 hy];simp))).trans c10 (fun _ h=>by cases h))
     have c10h:=Qb c10
     clear kn9 W9q C8qq c10
     have pr:=Br.o6
     have lrb:=Br.lt
     replace Br:=Qb Br
     rcases hcode.out with rfl|rfl
     ·have F0qq:Hid (b9=true↔ ¬(Fk∨∃t,t∈K.take (j+1)/\Y.fail t)):=Qb (hb9.out.trans (not_congr (or_congr i7 ⟨fun⟨t,h1,h2⟩=>⟨t,(mt.out t).2 (.inl h1),h2⟩,fun⟨t,h1,h2⟩=>((mt.out t).1 h1).elim (fun h1=>⟨t,h1,h2⟩) (fun e=>by rw [e,hw.out] at h2;exact absurd (hfail.out.2 h2) (by decide))⟩)))
      cases ok
      ·have Ktq:=Qb (ktq.out.congr (Y:=fun t=>∃u,u∈K.take (j+1)/\Y.reach u t) (fun t=>⟨fun⟨u,h1,h2⟩=>⟨u,(mt.out u).2 (.inl h1),h2⟩,fun⟨u,h1,h2⟩=>((mt.out u).1 h1).elim (fun h1=>⟨u,h1,h2⟩) (fun e=>by rw [e,hw.out] at h2;exact absurd h2 (hno0.out rfl rfl t))⟩))
       clear ktq hb9
       cases b9
       all_goals
        go_wp2_with fail
        go_roundw
        case rel=>exact⟨j+1,_,_,_,_,by have:=hjli.out;omega,rfl,rfl,rfl,by go_num,Ktq,Wtq,F0qq,Ct,Oj⟩
        case measure=>have:=hjli.out;simp [intOf];omega
      ·obtain⟨y,hy,sy⟩:=hyes.out rfl rfl
       have yok:=QkI a s y hso.out ((hy y).2 rfl)
       have LA:=Qb (QkT ktq.out yok (sy.keep c10h.out Qjh.nil))
       have hy:=Qb hy
       clear hb9 sy yok
       cases b9
       all_goals
        go_wp2_with fail
        refine LA.out.mono ?_
        rintro e wtq ⟨v3,rfl,k3,c3,o3⟩
        obtain⟨B3,m3,q3,rfl⟩:=k3.sl
        have zt:=c3.size
        have Ktq:=Qb (k3.congr (Y:=fun t=>∃u,u∈K.take (j+1)/\Y.reach u t) (fun t=>⟨fun h=>h.elim (fun⟨u,h1,h2⟩=>⟨u,(mt.out u).2 (.inl h1),h2⟩) (fun e=>⟨s,(mt.out s).2 (.inr rfl),by rw [hw.out];exact(hy.out t).2 e⟩),fun⟨u,h1,h2⟩=>((mt.out u).1 h1).elim (fun h1=>.inl ⟨u,h1,h2⟩) (fun e=>.inr (by rw [e,hw.out] at h2;exact(hy.out t).1 h2))⟩))
        have W3:=Qb (Wtq.out.keep c3 (fun h=>by have:=Oj.out _ h;omega))
        have C3:=Qb (Ct.out.trans c3 (fun y hy=>by have:=Oj.out y hy;by_cases e:y=ybq+1;exact .inl (by rw [e];simp);exact .inr (by omega)))
        have O3qq:=Qb (fun y (hy:y∈Ub (.slice B3 m3 q3))=>(o3 y hy).elim (Oj.out y) (fun h=>by have:=c9.out.size;have:=c10h.out.size;omega):∀y∈Ub (.slice B3 m3 q3),ybq+1<=y)
        clear LA ktq Wtq Ct k3 c3 o3 Oj
        go_wp2_with fail
        go_roundw
        case rel=>exact⟨j+1,_,_,_,_,by have:=hjli.out;omega,rfl,rfl,rfl,by go_num,Ktq,W3,Qb (by first|exact F0qq.out|simpa using F0qq.out),C3,O3qq⟩
        case measure=>have:=hjli.out;simp [intOf];omega
     ·have F1qq:Hid (false=true↔ ¬(Fk∨∃t,t∈K.take (j+1)/\Y.fail t)):=Qb ⟨fun h=>(by cases h),fun h=>absurd (.inr ⟨s,(mt.out s).2 (.inr rfl),by rw [hw.out];exact hfail.out.1 rfl⟩) h⟩
      have Ktq:=Qb (ktq.out.congr (Y:=fun t=>∃u,u∈K.take (j+1)/\Y.reach u t) (fun t=>⟨fun⟨u,h1,h2⟩=>⟨u,(mt.out u).2 (.inl h1),h2⟩,fun⟨u,h1,h2⟩=>((mt.out u).1 h1).elim (fun h1=>⟨u,h1,h2⟩) (fun e=>by rw [e,hw.out] at h2;exact absurd h2 (hno1.out rfl t))⟩))
      clear ktq hb9
      cases ok<;>cases b9
      all_goals
       go_wp2_with fail
       go_roundw
       case rel=>exact⟨j+1,_,_,_,_,by have:=hjli.out;omega,rfl,rfl,rfl,by go_num,Ktq,Wtq,F1qq,Ct,Oj⟩
       case measure=>have:=hjli.out;simp [intOf];omega
    ·obtain rfl:j=K.length:=by omega
     rw [I8] at knq Wjq hb9
     have Ktq:=Qb (knq.out.congr (Y:=fun t=>∃u,Xkq u/\Y.reach u t) (fun t=>⟨fun⟨u,h1,h2⟩=>⟨u,(kn2.out u).2 h1,h2⟩,fun⟨u,h1,h2⟩=>⟨u,(kn2.out u).1 h1,h2⟩⟩))
     have Wtq:=Qb (Wjq.out.congr (A':=fun i n=>Ak i n∨∃u,Xkq u/\Y.ask u i n) (fun i n=>or_congr i7 ⟨fun⟨u,h1,h2⟩=>⟨u,(kn2.out u).2 h1,h2⟩,fun⟨u,h1,h2⟩=>⟨u,(kn2.out u).1 h1,h2⟩⟩))
     have Ft:Hid (b9=true↔ ¬(Fk∨∃u,Xkq u/\Y.fail u)):=Qb (hb9.out.trans (not_congr (or_congr i7 ⟨fun⟨u,h1,h2⟩=>⟨u,(kn2.out u).2 h1,h2⟩,fun⟨u,h1,h2⟩=>⟨u,(kn2.out u).1 h1,h2⟩⟩)))
     have Ct:=Qb (cw7.out.trans cj.out (fun y hy=>by rcases C7.1 hy with e|hy;exact .inl (by rw [e];simp);exact .inr (by rw [E0.1 hy];omega)))
     have Ot:=Qb (fun y (hy:y∈Ub (.slice Bn nn qnq))=>(by have:=Oj.out y hy;omega:w.heap.size<=y))
     clear knq Wjq hb9 cj Oj
     go_wp2_with fail
     go_roundw
     case rel=>exact⟨k+1,_,_,_,_,_,_,_,by omega,rfl,rfl,rfl,by go_num,hP2,Ktq,Wtq,Ft,Ct,Ot⟩
     case measure=>have:=hkl.out;simp [intOf];omega
  ·obtain rfl:k=m.length:=by omega
   rw [I8] at hP3
   go_wp2_with fail
   refine bodyPost_ret (v:=.tuple #[.slice A5 n5 p5,.slice (some ⟨bw,0,none⟩) 3 cw,.bool fb]) (by simp only [results,Tryz.results50];go_simp) rfl ?_
   exact⟨_,fb,rfl,hKk.out.congr hP3.out.r,hWk.out.congr hP3.out.a,hfb.out.trans (not_congr (hP3.out.f.trans ⟨fun h=>h.resolve_left id,.inr⟩)),hc.out,hown.out⟩
end Go.Proofs.YtfjhdnjlhjimeaaGreatDoor
namespace Go.Proofs.YtfjhdnjlhjimeaaGreatDoor
open Go.RowKit

mutual
theorem Ql8 (SB:Nat->Prop) (B bw cw:Nat) (hsb:∀y,SB y->y<B):∀a:Qa,a.AllA Qgc->Qgc a/\(a.op=8->QkY SB B bw cw a.A/\QkY SB B bw cw a.B)/\(a.op=9->QkY SB B bw cw a.A)
 | .mk op slot other word call face A Bl,h=>by
  rw [Qa.AllA] at h
  have hA:=QlE SB B bw cw hsb A h.2.1
  have hB:=QlE SB B bw cw hsb Bl h.2.2
  exact⟨h.1,fun _=>⟨hA,hB⟩,fun _=>hA⟩
theorem QlE (SB:Nat->Prop) (B bw cw:Nat) (hsb:∀y,SB y->y<B):∀l:List Qa,QgK Qgc l->QkY SB B bw cw l
 |l,h=>QkZ SB B bw cw l hsb (fun a ha=>(Qlw SB B bw cw hsb l h a ha).1) (fun a ha=>(Qlw SB B bw cw hsb l h a ha).2)
theorem Qlw (SB:Nat->Prop) (B bw cw:Nat) (hsb:∀y,SB y->y<B):∀l:List Qa,QgK Qgc l->∀a∈l,Qgc a/\(a.op=8->QkY SB B bw cw a.A/\QkY SB B bw cw a.B)/\(a.op=9->QkY SB B bw cw a.A)
 | [],_=>fun a h=>by cases h
 |a::l,h=>by
  rw [QgK] at h
  intro b hb
  by_cases e:b=a
  ·rw [e];exact Ql8 SB B bw cw hsb a h.1
  ·exact Qlw SB B bw cw hsb l h.2 b ((C7.1 hb).resolve_left e)
end
end Go.Proofs.YtfjhdnjlhjimeaaGreatDoor
