/- l4Own of the reference: what a layer does with a call, given what the layers below it do. Conditions: the call has bounds. Written by a program. -/
import Derived.Test.YtjigcplpkhpgnaaGreatDoorBoxes
import Derived.Test.YtjigcplpkhpgnaaGreatDoorDoesAll
import Derived.StillTailTactics
import Derived.Deep.RegionHeld3
import Derived.Test.YtjigcplpkhpgnaaGreatDoorRegL
set_option maxRecDepth 100000
set_option maxHeartbeats 8000000
namespace Go.Proofs.YtjigcplpkhpgnaaGreatDoor
open Go.RowKit
theorem ln_Counts:(ByteArray.toList nCounts== [99,111,117,110,116,115])=true/\(ByteArray.toList nCounts== [108,97,122,121])=false/\(ByteArray.toList nCounts== [114,101,97,100,115])=false/\(ByteArray.toList nCounts== [104,101,97,114,115])=false/\(ByteArray.toList nCounts== [104,101,97,108,115])=false/\(ByteArray.toList nCounts== [116,119,105,99,101])=false:=by rw [ByteArray.toList_eq];decide
theorem ln_Lazy:(ByteArray.toList nLazy== [99,111,117,110,116,115])=false/\(ByteArray.toList nLazy== [108,97,122,121])=true/\(ByteArray.toList nLazy== [114,101,97,100,115])=false/\(ByteArray.toList nLazy== [104,101,97,114,115])=false/\(ByteArray.toList nLazy== [104,101,97,108,115])=false/\(ByteArray.toList nLazy== [116,119,105,99,101])=false:=by rw [ByteArray.toList_eq];decide
theorem ln_Reads:(ByteArray.toList nReads== [99,111,117,110,116,115])=false/\(ByteArray.toList nReads== [108,97,122,121])=false/\(ByteArray.toList nReads== [114,101,97,100,115])=true/\(ByteArray.toList nReads== [104,101,97,114,115])=false/\(ByteArray.toList nReads== [104,101,97,108,115])=false/\(ByteArray.toList nReads== [116,119,105,99,101])=false:=by rw [ByteArray.toList_eq];decide
theorem ln_Hears:(ByteArray.toList nHears== [99,111,117,110,116,115])=false/\(ByteArray.toList nHears== [108,97,122,121])=false/\(ByteArray.toList nHears== [114,101,97,100,115])=false/\(ByteArray.toList nHears== [104,101,97,114,115])=true/\(ByteArray.toList nHears== [104,101,97,108,115])=false/\(ByteArray.toList nHears== [116,119,105,99,101])=false:=by rw [ByteArray.toList_eq];decide
theorem ln_Heals:(ByteArray.toList nHeals== [99,111,117,110,116,115])=false/\(ByteArray.toList nHeals== [108,97,122,121])=false/\(ByteArray.toList nHeals== [114,101,97,100,115])=false/\(ByteArray.toList nHeals== [104,101,97,114,115])=false/\(ByteArray.toList nHeals== [104,101,97,108,115])=true/\(ByteArray.toList nHeals== [116,119,105,99,101])=false:=by rw [ByteArray.toList_eq];decide
theorem ln_Twice:(ByteArray.toList nTwice== [99,111,117,110,116,115])=false/\(ByteArray.toList nTwice== [108,97,122,121])=false/\(ByteArray.toList nTwice== [114,101,97,100,115])=false/\(ByteArray.toList nTwice== [104,101,97,114,115])=false/\(ByteArray.toList nTwice== [104,101,97,108,115])=false/\(ByteArray.toList nTwice== [116,119,105,99,101])=true:=by rw [ByteArray.toList_eq];decide
theorem ln_Runs:(ByteArray.toList nRuns== [99,111,117,110,116,115])=false/\(ByteArray.toList nRuns== [108,97,122,121])=false/\(ByteArray.toList nRuns== [114,101,97,100,115])=false/\(ByteArray.toList nRuns== [104,101,97,114,115])=false/\(ByteArray.toList nRuns== [104,101,97,108,115])=false/\(ByteArray.toList nRuns== [116,119,105,99,101])=false:=by rw [ByteArray.toList_eq];decide
theorem ln_Keeps:(ByteArray.toList nKeeps== [99,111,117,110,116,115])=false/\(ByteArray.toList nKeeps== [108,97,122,121])=false/\(ByteArray.toList nKeeps== [114,101,97,100,115])=false/\(ByteArray.toList nKeeps== [104,101,97,114,115])=false/\(ByteArray.toList nKeeps== [104,101,97,108,115])=false/\(ByteArray.toList nKeeps== [116,119,105,99,101])=false:=by rw [ByteArray.toList_eq];decide
/-- What the tests of a layer's name and of a method answer. -/
def LnT (x:ByteArray) (c l r h e t:Bool):Prop:=(ByteArray.toList x== [99,111,117,110,116,115])=c/\(ByteArray.toList x== [108,97,122,121])=l/\(ByteArray.toList x== [114,101,97,100,115])=r/\(ByteArray.toList x== [104,101,97,114,115])=h/\(ByteArray.toList x== [104,101,97,108,115])=e/\(ByteArray.toList x== [116,119,105,99,101])=t
def MtT (x:ByteArray) (g p t h e:Bool):Prop:=(ByteArray.toList x== [71,101,116])=g/\(ByteArray.toList x== [80,117,116])=p/\(ByteArray.toList x== [84,101,108,108])=t/\(ByteArray.toList x== [72,101,97,114])=h/\(ByteArray.toList x== [72,101,97,108])=e
theorem mt_Start:MtT mStart false false false false false:=by unfold MtT;rw [ByteArray.toList_eq];decide
theorem mt_Stop:MtT mStop false false false false false:=by unfold MtT;rw [ByteArray.toList_eq];decide
theorem mt_Get:MtT mGet true false false false false:=by unfold MtT;rw [ByteArray.toList_eq];decide
theorem mt_Put:MtT mPut false true false false false:=by unfold MtT;rw [ByteArray.toList_eq];decide
/-- A call that a layer hands on. -/
def PassC (x m:ByteArray):Prop:=(LnT x false false false false false false/\MtT m false false false false false)∨(LnT x false false false false false false/\MtT m true false false false false)∨(LnT x false false false false false false/\MtT m false true false false false)∨(LnT x false true false false false false/\MtT m false false false false false)∨(LnT x false false false true false false/\MtT m false false false false false)∨(LnT x false false false false true false/\MtT m false false false false false)∨(LnT x false false true false false false/\MtT m true false false false false)
/-- Get or Put. -/
def KeepC (m:ByteArray):Prop:=MtT m true false false false false∨MtT m false true false false false
theorem keepC_Get:KeepC mGet:=.inl mt_Get
theorem keepC_Put:KeepC mPut:=.inr mt_Put
theorem region_tail {P:Program} {id:Nat} {Q:Exit->Act->World->Prop} {a:Act} {w:World} {l:List Oper} (n:Nat) (hm:P.follows .mixedOrders=true) (hB:Region.lexTailB .any l.toArray n=true)
  (h:wpStill P l.toArray w.drew (fun a2=>wpList P l.toArray Q (l.drop n) a2 w.drew) (l.take n) a):(Code.region id l.toArray true).wp P Q a w:=wp_region_still_tail n hm hB h
def L4Do (n:Nat):Prop:=∀(p:PartT) (x:CallT) (L:Nat) (A3:Option Addr) (c3:Nat) (A5:Option Addr) (c5:Nat) (S3 S5:List Nat) (w:World),POwn w p L A3 c3 A5 c5 S3 S5->ThrOk n p x->x.text.size<=1048575->x.key.size<=1048576->
  Calls Tryz.prog 104 #[.agg #[.string p.core.kind,.bool p.core.on,.bool p.core.broken,.slice A3 p.core.cells.length c3,.int .i64 p.core.count,.slice A5 L c5],.int .i64 (n:Int),.agg #[.string x.method,.string x.key,.int .i64 x.value,.string x.text]] w (PartDo (thr n p x) L A5 c5 S3 S5 w)
theorem l4Own_none (n:Nat) (IH:L4Do n) (p:PartT) (mt nm:ByteArray) (hpc:PassC nm mt) (key:ByteArray) (value:Int) (text:ByteArray) (L:Nat) (A3:Option Addr) (c3:Nat) (A5:Option Addr) (c5:Nat) (S3 S5:List Nat) (w:World) (h:POwn w p L A3 c3 A5 c5 S3 S5) (hok:ThrOk (n+1) p ⟨mt,key,value,text⟩) (ht:text.size<=1048575) (hk:key.size<=1048576) (e:(layN p n).name=nm):
  Calls Tryz.prog 126 #[.agg #[.string p.core.kind,.bool p.core.on,.bool p.core.broken,.slice A3 p.core.cells.length c3,.int .i64 p.core.count,.slice A5 L c5],.int .i64 ((n+1:Nat):Int),.agg #[.string mt,.string key,.int .i64 value,.string text]] w (PartOwn (p,repOf 0 0 0 0) false L A5 c5 S3 S5 w):=by
 rcases hpc with hpc|hpc|hpc|hpc|hpc|hpc|hpc
 all_goals
  have hb:=And.intro ht (And.intro hk IH)
  have hnL:n<L:=by have:=hok.le;have:=h.len;omega
  obtain⟨g,rfl,hgS,hg,hLc,hcm⟩:=h.block (by omega)
  unfold maxLen at hcm
  obtain⟨q0,q1,_⟩:=h.lay hnL
  rw [e] at q0
  have l3:=hid h.h3.lt
  have l5:=hid h.h5.lt
  obtain⟨u0,u1,u2,u3,u4,u5⟩:=hpc.1
  obtain⟨t2,t3,t4,t5,t8⟩:=hpc.2
  clear hpc
  have i0:(0:Int)<=(n:Int):=by omega
  have i1:(n:Int)<(L:Int):=by omega
  have i2:(L:Int)<=9223372036854775807:=by omega
  have i3:IntKind.i64.wrap (n:Int)=(n:Int):=wr_id (by omega) (by omega)
  have g0:g<w.heap.size+1:=by omega
  have g1:g<w.heap.size+1+1:=by omega
  have g2:g<w.heap.size+1+1+1:=by omega
  have g3:g<w.heap.size+1+1+1+1:=by omega
  have hnum:IsNum (layN p n).count:=by
   have hlen:=h.len
   obtain⟨_,_,_,hx,_⟩:=hok.part.2.2 n (by omega)
   rw [layN_eq (by omega)]
   exact hx
  have H:=hid h
  have HN:=hid hnum
  have E:=hid e
  clear h hok hnum e hb ht hk IH
  go_enter Tryz.func126,Tryz.ntmps126
  go_wp2_with fail
  refine bodyPost_ret (v:=.tuple #[.agg #[.string p.core.kind,.bool p.core.on,.bool p.core.broken,.slice A3 p.core.cells.length c3,.int .i64 p.core.count,.slice (some ⟨g,0,none⟩) L c5],.agg #[.int .i64 0,.int .i64 0,.string ⟨#[]⟩,.int .i64 0,.int .i64 0],.bool false]) (by simp only [results,Tryz.results126];go_simp) rfl ?_
  exact⟨A3,c3,S3,rfl,H.out.keep0 Chg.now,fun x hx=>.inl hx,Chg.mono (S:=[]) Chg.now (by simp)⟩
theorem l4Own_countTell (n:Nat) (IH:L4Do n) (p:PartT) (key:ByteArray) (value:Int) (text:ByteArray) (L:Nat) (A3:Option Addr) (c3:Nat) (A5:Option Addr) (c5:Nat) (S3 S5:List Nat) (w:World) (h:POwn w p L A3 c3 A5 c5 S3 S5) (hok:ThrOk (n+1) p ⟨mTell,key,value,text⟩) (ht:text.size<=1048575) (hk:key.size<=1048576) (e:(layN p n).name=nCounts):
  Calls Tryz.prog 126 #[.agg #[.string p.core.kind,.bool p.core.on,.bool p.core.broken,.slice A3 p.core.cells.length c3,.int .i64 p.core.count,.slice A5 L c5],.int .i64 ((n+1:Nat):Int),.agg #[.string mTell,.string key,.int .i64 value,.string text]] w (PartOwn (p,repOf 0 (layN p n).count 0 0) true L A5 c5 S3 S5 w):=by
 have hb:=And.intro ht (And.intro hk IH)
 have hnL:n<L:=by have:=hok.le;have:=h.len;omega
 obtain⟨g,rfl,hgS,hg,hLc,hcm⟩:=h.block (by omega)
 unfold maxLen at hcm
 obtain⟨q0,q1,_⟩:=h.lay hnL
 rw [e] at q0
 have l3:=hid h.h3.lt
 have l5:=hid h.h5.lt
 obtain⟨u0,u1,u2,u3,u4,u5⟩:=ln_Counts
 obtain⟨t0,t1,t2,t3,t4,t5,t6,t7,t8⟩:=tl_Tell
 have i0:(0:Int)<=(n:Int):=by omega
 have i1:(n:Int)<(L:Int):=by omega
 have i2:(L:Int)<=9223372036854775807:=by omega
 have i3:IntKind.i64.wrap (n:Int)=(n:Int):=wr_id (by omega) (by omega)
 have g0:g<w.heap.size+1:=by omega
 have g1:g<w.heap.size+1+1:=by omega
 have g2:g<w.heap.size+1+1+1:=by omega
 have g3:g<w.heap.size+1+1+1+1:=by omega
 have hnum:IsNum (layN p n).count:=by
  have hlen:=h.len
  obtain⟨_,_,_,hx,_⟩:=hok.part.2.2 n (by omega)
  rw [layN_eq (by omega)]
  exact hx
 have H:=hid h
 have HN:=hid hnum
 have E:=hid e
 clear h hok hnum e hb ht hk IH
 go_enter Tryz.func126,Tryz.ntmps126
 go_wp2_with fail
 go_region_held3 (fun w'=>w'.cell? ⟨w.heap.size,0,none⟩=some (.string p.core.kind)/\w'.cell? ⟨w.heap.size,1,none⟩=some (.bool p.core.on)/\w'.cell? ⟨w.heap.size,2,none⟩=some (.bool p.core.broken)/\w'.cell? ⟨w.heap.size,3,none⟩=some (.slice A3 p.core.cells.length c3)/\w'.cell? ⟨w.heap.size,4,none⟩=some (.int .i64 p.core.count)/\w'.cell? ⟨w.heap.size,5,none⟩=some (.slice (some ⟨g,0,none⟩) L c5)/\w'.cell? ⟨g,n * 2+1,none⟩=some (.int .i64 (layN p n).count)) (((refine⟨?_,?_,?_,?_,?_,?_,?_⟩)<;>(first|(go_keep;done)|(go_simp;done)|(simp [*];done)))) (fail)
 all_goals
  go_wp2_with fail
  refine bodyPost_ret (v:=.tuple #[.agg #[.string p.core.kind,.bool p.core.on,.bool p.core.broken,.slice A3 p.core.cells.length c3,.int .i64 p.core.count,.slice (some ⟨g,0,none⟩) L c5],.agg #[.int .i64 0,.int .i64 (layN p n).count,.string ⟨#[]⟩,.int .i64 0,.int .i64 0],.bool true]) (by simp only [results,Tryz.results126];go_simp) rfl ?_
  exact⟨A3,c3,S3,rfl,H.out.keep0 Chg.now,fun x hx=>.inl hx,Chg.mono (S:=[]) Chg.now (by simp)⟩
theorem l4Own_readsPut (n:Nat) (IH:L4Do n) (p:PartT) (key:ByteArray) (value:Int) (text:ByteArray) (L:Nat) (A3:Option Addr) (c3:Nat) (A5:Option Addr) (c5:Nat) (S3 S5:List Nat) (w:World) (h:POwn w p L A3 c3 A5 c5 S3 S5) (hok:ThrOk (n+1) p ⟨mPut,key,value,text⟩) (ht:text.size<=1048575) (hk:key.size<=1048576) (e:(layN p n).name=nReads):
  Calls Tryz.prog 126 #[.agg #[.string p.core.kind,.bool p.core.on,.bool p.core.broken,.slice A3 p.core.cells.length c3,.int .i64 p.core.count,.slice A5 L c5],.int .i64 ((n+1:Nat):Int),.agg #[.string mPut,.string key,.int .i64 value,.string text]] w (PartOwn (p,repOf 6 0 0 0) true L A5 c5 S3 S5 w):=by
 have hb:=And.intro ht (And.intro hk IH)
 have hnL:n<L:=by have:=hok.le;have:=h.len;omega
 obtain⟨g,rfl,hgS,hg,hLc,hcm⟩:=h.block (by omega)
 unfold maxLen at hcm
 obtain⟨q0,q1,_⟩:=h.lay hnL
 rw [e] at q0
 have l3:=hid h.h3.lt
 have l5:=hid h.h5.lt
 obtain⟨u0,u1,u2,u3,u4,u5⟩:=ln_Reads
 obtain⟨t0,t1,t2,t3,t4,t5,t6,t7,t8⟩:=tl_Put
 have i0:(0:Int)<=(n:Int):=by omega
 have i1:(n:Int)<(L:Int):=by omega
 have i2:(L:Int)<=9223372036854775807:=by omega
 have i3:IntKind.i64.wrap (n:Int)=(n:Int):=wr_id (by omega) (by omega)
 have g0:g<w.heap.size+1:=by omega
 have g1:g<w.heap.size+1+1:=by omega
 have g2:g<w.heap.size+1+1+1:=by omega
 have g3:g<w.heap.size+1+1+1+1:=by omega
 have hnum:IsNum (layN p n).count:=by
  have hlen:=h.len
  obtain⟨_,_,_,hx,_⟩:=hok.part.2.2 n (by omega)
  rw [layN_eq (by omega)]
  exact hx
 have H:=hid h
 have HN:=hid hnum
 have E:=hid e
 clear h hok hnum e hb ht hk IH
 go_enter Tryz.func126,Tryz.ntmps126
 go_wp2_with fail
 refine bodyPost_ret (v:=.tuple #[.agg #[.string p.core.kind,.bool p.core.on,.bool p.core.broken,.slice A3 p.core.cells.length c3,.int .i64 p.core.count,.slice (some ⟨g,0,none⟩) L c5],.agg #[.int .i64 6,.int .i64 0,.string ⟨#[]⟩,.int .i64 0,.int .i64 0],.bool true]) (by simp only [results,Tryz.results126];go_simp) rfl ?_
 exact⟨A3,c3,S3,rfl,H.out.keep0 Chg.now,fun x hx=>.inl hx,Chg.mono (S:=[]) Chg.now (by simp)⟩
theorem l4Own_countKeep (n:Nat) (IH:L4Do n) (p:PartT) (mt:ByteArray) (hkc:KeepC mt) (key:ByteArray) (value:Int) (text:ByteArray) (L:Nat) (A3:Option Addr) (c3:Nat) (A5:Option Addr) (c5:Nat) (S3 S5:List Nat) (w:World) (h:POwn w p L A3 c3 A5 c5 S3 S5) (hok:ThrOk (n+1) p ⟨mt,key,value,text⟩) (ht:text.size<=1048575) (hk:key.size<=1048576) (e:(layN p n).name=nCounts) (okx:ThrOk n p ⟨mt,key,value,text⟩):
  Calls Tryz.prog 126 #[.agg #[.string p.core.kind,.bool p.core.on,.bool p.core.broken,.slice A3 p.core.cells.length c3,.int .i64 p.core.count,.slice A5 L c5],.int .i64 ((n+1:Nat):Int),.agg #[.string mt,.string key,.int .i64 value,.string text]] w (PartOwn (bump (thr n p ⟨mt,key,value,text⟩).1 n,(thr n p ⟨mt,key,value,text⟩).2) true L A5 c5 S3 S5 w):=by
 rcases hkc with hkc|hkc
 all_goals
  have hb:=And.intro ht (And.intro hk IH)
  have hnL:n<L:=by have:=hok.le;have:=h.len;omega
  obtain⟨g,rfl,hgS,hg,hLc,hcm⟩:=h.block (by omega)
  unfold maxLen at hcm
  obtain⟨q0,q1,_⟩:=h.lay hnL
  rw [e] at q0
  have l3:=hid h.h3.lt
  have l5:=hid h.h5.lt
  obtain⟨u0,u1,u2,u3,u4,u5⟩:=ln_Counts
  obtain⟨t2,t3,t4,t5,t8⟩:=hkc
  have i0:(0:Int)<=(n:Int):=by omega
  have i1:(n:Int)<(L:Int):=by omega
  have i2:(L:Int)<=9223372036854775807:=by omega
  have i3:IntKind.i64.wrap (n:Int)=(n:Int):=wr_id (by omega) (by omega)
  have g0:g<w.heap.size+1:=by omega
  have g1:g<w.heap.size+1+1:=by omega
  have g2:g<w.heap.size+1+1+1:=by omega
  have g3:g<w.heap.size+1+1+1+1:=by omega
  have hnum:IsNum (layN p n).count:=by
   have hlen:=h.len
   obtain⟨_,_,_,hx,_⟩:=hok.part.2.2 n (by omega)
   rw [layN_eq (by omega)]
   exact hx
  obtain⟨r1,hr1⟩:∃r,r=thr n p ⟨mt,key,value,text⟩:=⟨_,rfl⟩
  have DO1:=hid (fun W A3 c3 S3 (hW:POwn W p L A3 c3 (some ⟨g,0,none⟩) c5 S3 S5)=>IH p ⟨mt,key,value,text⟩ L A3 c3 _ c5 S3 S5 W hW okx (by first|exact ht|decide|(show(0:Nat)<=1048575;decide)) (by first|exact hk|decide|(show(0:Nat)<=1048576;decide)))
  rw [<-hr1] at DO1
  have OK1:=(show PartOk r1.1/\Same n p r1.1 from by rw [hr1];exact thr_ok n _ _ okx)
  have hn1:IsNum (layN r1.1 n).count:=by
   have hlen:=h.len
   obtain⟨_,_,_,hx,_⟩:=OK1.1.2.2 n (by rw [OK1.2.len];omega)
   rw [layN_eq (by rw [OK1.2.len];omega)]
   exact hx
  have UP:=hid (fun W=>l3Up_any (layN r1.1 n).count W hn1)
  rw [<-hr1]
  clear OK1 okx hn1
  have H:=hid h
  have HN:=hid hnum
  have E:=hid e
  clear hr1 h hok hnum e hb ht hk IH
  go_enter Tryz.func126,Tryz.ntmps126
  go_wp2_with fail
  refine(DO1.out _ _ _ _ (H.out.keep0 Chg.now)).mono ?_
  rintro e w1 ⟨A11,c11,T1,rfl,own1,hD1,c1⟩
  have s1:=c1.size
  have v1:w.heap.size+4<=w1.heap.size:=by simp at s1;omega
  obtain⟨-, -,xa1, -, -,xb1,yc1,zc1,xc1,yd1,zd1,xd1, -⟩:=c1.low 4 (w.heap.size) (fun x hx=>by have:=l5.out _ hx;(try simp at this)<;>omega)
  have lo1:Hid (∀x,x∈T1->x<w.heap.size∨(w.heap.size+4<=x/\x<w1.heap.size)):=hid (fun x hx=>by rcases hD1 x hx with h|h;(have:=l3.out x h;omega);(have:=own1.h3.lt x hx;simp at h;omega))
  have hT1:Hid (∀x,x∈T1->x∈S3∨w.heap.size<=x):=hid (fun x hx=>by rcases hD1 x hx with h|h;(exact .inl h);(exact .inr (by simp at h;omega)))
  have D1:Hid (Chg S5 w w1):=hid (Chg.trans (S:=S5) Chg.now c1 (fun x hx=>.inl hx))
  obtain⟨n10,n11,nf1⟩:=own1.lay hnL
  have OWN1:=hid own1
  obtain⟨hg1,hg1a,hg1b,hne1,hne1a⟩:=near (show g<w1.heap.size by omega)
  clear own1 hD1 c1 s1
  go_wp2_with fail
  refine region_tail 14 (by kernel_rfl) (by kernel_rfl) ?_
  simp only [List.take_succ_cons,List.take_zero,List.drop_succ_cons,List.drop_zero]
  repeat still_step
  still_call (UP.out _)
  repeat still_step
  try refine wpStill_nil ?_
  go_wp2_with fail
  go_region
  all_goals
   go_wp2_with fail
   refine bodyPost_ret (v:=.tuple #[.agg #[.string r1.1.core.kind,.bool r1.1.core.on,.bool r1.1.core.broken,.slice A11 r1.1.core.cells.length c11,.int .i64 r1.1.core.count,.slice (some ⟨g,0,none⟩) L c5],.agg #[.int .i64 r1.2.code,.int .i64 r1.2.value,.string r1.2.text,.int .i64 r1.2.want,.int .i64 r1.2.had],.bool true]) (by simp only [results,Tryz.results126];go_simp) rfl ?_
   exact⟨A11,c11,T1,rfl,(POwn.bump (w:=w1) OWN1.out hnL).keep (T:=[w.heap.size+1+1,w.heap.size+1+1+1]) Chg.now (fun x hx=>by have:=lo1.out x hx;simp;omega) (fun x hx=>by have:=l5.out x hx;simp;omega),hT1.out,(Chg.to D1.out)⟩
theorem l4Own_lazyKeepA (n:Nat) (IH:L4Do n) (p:PartT) (mt:ByteArray) (hkc:KeepC mt) (key:ByteArray) (value:Int) (text:ByteArray) (L:Nat) (A3:Option Addr) (c3:Nat) (A5:Option Addr) (c5:Nat) (S3 S5:List Nat) (w:World) (h:POwn w p L A3 c3 A5 c5 S3 S5) (hok:ThrOk (n+1) p ⟨mt,key,value,text⟩) (ht:text.size<=1048575) (hk:key.size<=1048576) (e:(layN p n).name=nLazy) (okx:ThrOk n p ⟨mt,key,value,text⟩) (ok2:ThrOk n p (only mStart)) (hc:(thr n p ⟨mt,key,value,text⟩).2.code=2):
  Calls Tryz.prog 126 #[.agg #[.string p.core.kind,.bool p.core.on,.bool p.core.broken,.slice A3 p.core.cells.length c3,.int .i64 p.core.count,.slice A5 L c5],.int .i64 ((n+1:Nat):Int),.agg #[.string mt,.string key,.int .i64 value,.string text]] w (PartOwn (thr n (thr n (thr n p ⟨mt,key,value,text⟩).1 (only mStart)).1 ⟨mt,key,value,text⟩) true L A5 c5 S3 S5 w):=by
 rcases hkc with hkc|hkc
 all_goals
  have hb:=And.intro ht (And.intro hk IH)
  have hnL:n<L:=by have:=hok.le;have:=h.len;omega
  obtain⟨g,rfl,hgS,hg,hLc,hcm⟩:=h.block (by omega)
  unfold maxLen at hcm
  obtain⟨q0,q1,_⟩:=h.lay hnL
  rw [e] at q0
  have l3:=hid h.h3.lt
  have l5:=hid h.h5.lt
  obtain⟨u0,u1,u2,u3,u4,u5⟩:=ln_Lazy
  obtain⟨t2,t3,t4,t5,t8⟩:=hkc
  have i0:(0:Int)<=(n:Int):=by omega
  have i1:(n:Int)<(L:Int):=by omega
  have i2:(L:Int)<=9223372036854775807:=by omega
  have i3:IntKind.i64.wrap (n:Int)=(n:Int):=wr_id (by omega) (by omega)
  have g0:g<w.heap.size+1:=by omega
  have g1:g<w.heap.size+1+1:=by omega
  have g2:g<w.heap.size+1+1+1:=by omega
  have g3:g<w.heap.size+1+1+1+1:=by omega
  have hnum:IsNum (layN p n).count:=by
   have hlen:=h.len
   obtain⟨_,_,_,hx,_⟩:=hok.part.2.2 n (by omega)
   rw [layN_eq (by omega)]
   exact hx
  obtain⟨r1,hr1⟩:∃r,r=thr n p ⟨mt,key,value,text⟩:=⟨_,rfl⟩
  have DO1:=hid (fun W A3 c3 S3 (hW:POwn W p L A3 c3 (some ⟨g,0,none⟩) c5 S3 S5)=>IH p ⟨mt,key,value,text⟩ L A3 c3 _ c5 S3 S5 W hW okx (by first|exact ht|decide|(show(0:Nat)<=1048575;decide)) (by first|exact hk|decide|(show(0:Nat)<=1048576;decide)))
  rw [<-hr1] at DO1
  have OK1:=(show PartOk r1.1/\Same n p r1.1 from by rw [hr1];exact thr_ok n _ _ okx)
  obtain⟨r2,hr2⟩:∃r,r=thr n r1.1 (only mStart):=⟨_,rfl⟩
  have DO2:=hid (fun W A3 c3 S3 (hW:POwn W r1.1 L A3 c3 (some ⟨g,0,none⟩) c5 S3 S5)=>IH r1.1 (only mStart) L A3 c3 _ c5 S3 S5 W hW (ok2.to OK1.2 OK1.1) (by first|exact ht|decide|(show(0:Nat)<=1048575;decide)) (by first|exact hk|decide|(show(0:Nat)<=1048576;decide)))
  rw [<-hr2] at DO2
  have OK2:=(show PartOk r2.1/\Same n r1.1 r2.1 from by rw [hr2];exact thr_ok n _ _ (ok2.to OK1.2 OK1.1))
  obtain⟨r3,hr3⟩:∃r,r=thr n r2.1 ⟨mt,key,value,text⟩:=⟨_,rfl⟩
  have DO3:=hid (fun W A3 c3 S3 (hW:POwn W r2.1 L A3 c3 (some ⟨g,0,none⟩) c5 S3 S5)=>IH r2.1 ⟨mt,key,value,text⟩ L A3 c3 _ c5 S3 S5 W hW (okx.to (OK1.2.trans OK2.2) OK2.1) (by first|exact ht|decide|(show(0:Nat)<=1048575;decide)) (by first|exact hk|decide|(show(0:Nat)<=1048576;decide)))
  rw [<-hr3] at DO3
  have OK3:=(show PartOk r3.1/\Same n r2.1 r3.1 from by rw [hr3];exact thr_ok n _ _ (okx.to (OK1.2.trans OK2.2) OK2.1))
  have hc1:(r1.2.code==2)=true:=by rw [hr1];simpa using hc
  rw [<-hr1, <-hr2, <-hr3]
  clear OK1 OK2 OK3 okx ok2
  have H:=hid h
  have HN:=hid hnum
  have E:=hid e
  clear hr3 hr2 hr1 hc h hok hnum e hb ht hk IH
  go_enter Tryz.func126,Tryz.ntmps126
  go_wp2_with fail
  refine(DO1.out _ _ _ _ (H.out.keep0 Chg.now)).mono ?_
  rintro e w1 ⟨A11,c11,T1,rfl,own1,hD1,c1⟩
  have s1:=c1.size
  have v1:w.heap.size+4<=w1.heap.size:=by simp at s1;omega
  obtain⟨-, -,xa1,yb1,zb1,xb1,yc1,zc1,xc1,yd1,zd1,xd1, -⟩:=c1.low 4 (w.heap.size) (fun x hx=>by have:=l5.out _ hx;(try simp at this)<;>omega)
  have lo1:Hid (∀x,x∈T1->x<w.heap.size∨(w.heap.size+4<=x/\x<w1.heap.size)):=hid (fun x hx=>by rcases hD1 x hx with h|h;(have:=l3.out x h;omega);(have:=own1.h3.lt x hx;simp at h;omega))
  have hT1:Hid (∀x,x∈T1->x∈S3∨w.heap.size<=x):=hid (fun x hx=>by rcases hD1 x hx with h|h;(exact .inl h);(exact .inr (by simp at h;omega)))
  have D1:Hid (Chg S5 w w1):=hid (Chg.trans (S:=S5) Chg.now c1 (fun x hx=>.inl hx))
  obtain⟨n10,n11,nf1⟩:=own1.lay hnL
  have OWN1:=hid own1
  obtain⟨hg1,hg1a,hg1b,hne1,hne1a⟩:=near (show g<w1.heap.size by omega)
  clear own1 hD1 c1 s1
  go_wp2_with fail
  refine(DO2.out _ _ _ _ (OWN1.out.keep0 Chg.now)).mono ?_
  rintro e w2 ⟨A12,c12,T2,rfl,own2,hD2,c2⟩
  have s2:=c2.size
  have v2:w1.heap.size+2<=w2.heap.size:=by simp at s2;omega
  obtain⟨-, -,xa2,yb2,zb2,xb2,yc2,zc2,xc2,yd2,zd2,xd2, -⟩:=c2.low 4 (w.heap.size) (fun x hx=>by have:=l5.out _ hx;(try simp at this)<;>omega)
  obtain⟨yq2,zq2,xq2,yr2,zr2,xr2, -⟩:=c2.low 2 (w1.heap.size) (fun x hx=>by have:=l5.out _ hx;(try simp at this)<;>omega)
  have lo2:Hid (∀x,x∈T2->x<w.heap.size∨(w.heap.size+4<=x/\x<w1.heap.size)∨(w1.heap.size+2<=x/\x<w2.heap.size)):=hid (fun x hx=>by rcases hD2 x hx with h|h;(have:=lo1.out x h;omega);(have:=own2.h3.lt x hx;simp at h;omega))
  have hT2:Hid (∀x,x∈T2->x∈S3∨w.heap.size<=x):=hid (fun x hx=>by rcases hD2 x hx with h|h;(exact hT1.out x h);(exact .inr (by simp at h;omega)))
  have D2:Hid (Chg S5 w w2):=hid (Chg.trans (S:=S5) (Chg.to D1.out) c2 (fun x hx=>.inl hx))
  obtain⟨n20,n21,nf2⟩:=own2.lay hnL
  have OWN2:=hid own2
  obtain⟨hg2,hg2a,hg2b,hne2,hne2a⟩:=near (show g<w2.heap.size by omega)
  clear own2 hD2 c2 s2
  go_wp2_with fail
  refine(DO3.out _ _ _ _ ((OWN2.out).keep (T:=[w1.heap.size]) Chg.now (fun x hx=>by have:=lo2.out x hx;simp;omega) (fun x hx=>by have:=l5.out x hx;simp;omega))).mono ?_
  rintro e w3 ⟨A13,c13,T3,rfl,own3,hD3,c3⟩
  have s3:=c3.size
  have v3:w2.heap.size<=w3.heap.size:=by simp at s3;omega
  obtain⟨-, -,xa3, -, -,xb3,yc3,zc3,xc3,yd3,zd3,xd3, -⟩:=c3.low 4 (w.heap.size) (fun x hx=>by have:=l5.out _ hx;(try simp at this)<;>omega)
  obtain⟨yq3,zq3,xq3,yr3,zr3,xr3, -⟩:=c3.low 2 (w1.heap.size) (fun x hx=>by have:=l5.out _ hx;(try simp at this)<;>omega)
  have lo3:Hid (∀x,x∈T3->x<w.heap.size∨(w.heap.size+4<=x/\x<w1.heap.size)∨(w1.heap.size+2<=x/\x<w2.heap.size)∨(w2.heap.size<=x/\x<w3.heap.size)):=hid (fun x hx=>by rcases hD3 x hx with h|h;(have:=lo2.out x h;omega);(have:=own3.h3.lt x hx;simp at h;omega))
  have hT3:Hid (∀x,x∈T3->x∈S3∨w.heap.size<=x):=hid (fun x hx=>by rcases hD3 x hx with h|h;(exact hT2.out x h);(exact .inr (by simp at h;omega)))
  have D3:Hid (Chg S5 w w3):=hid (Chg.trans (S:=S5) (Chg.to D2.out) c3 (fun x hx=>.inl hx))
  obtain⟨n30,n31,nf3⟩:=own3.lay hnL
  have OWN3:=hid own3
  obtain⟨hg3,hg3a,hg3b,hne3,hne3a⟩:=near (show g<w3.heap.size by omega)
  clear own3 hD3 c3 s3
  have eq30:w3.cell? ⟨w1.heap.size,0,none⟩=some (.string r2.1.core.kind):=(yq3 0).trans (by go_simp)
  have eq31:w3.cell? ⟨w1.heap.size,1,none⟩=some (.bool r2.1.core.on):=(yq3 1).trans (by go_simp)
  have eq32:w3.cell? ⟨w1.heap.size,2,none⟩=some (.bool r2.1.core.broken):=(yq3 2).trans (by go_simp)
  have eq33:w3.cell? ⟨w1.heap.size,3,none⟩=some (.slice A12 r2.1.core.cells.length c12):=(yq3 3).trans (by go_simp)
  have eq34:w3.cell? ⟨w1.heap.size,4,none⟩=some (.int .i64 r2.1.core.count):=(yq3 4).trans (by go_simp)
  have eq35:w3.cell? ⟨w1.heap.size,5,none⟩=some (.slice (some ⟨g,0,none⟩) L c5):=(yq3 5).trans (by go_simp)
  clear yq3
  have er30:w3.cell? ⟨w1.heap.size+1,0,none⟩=some (.int .i64 r1.2.code):=(yr3 0).trans (by go_simp)
  have er31:w3.cell? ⟨w1.heap.size+1,1,none⟩=some (.int .i64 r1.2.value):=(yr3 1).trans (by go_simp)
  have er32:w3.cell? ⟨w1.heap.size+1,2,none⟩=some (.string r1.2.text):=(yr3 2).trans (by go_simp)
  have er33:w3.cell? ⟨w1.heap.size+1,3,none⟩=some (.int .i64 r1.2.want):=(yr3 3).trans (by go_simp)
  have er34:w3.cell? ⟨w1.heap.size+1,4,none⟩=some (.int .i64 r1.2.had):=(yr3 4).trans (by go_simp)
  clear yr3
  go_wp2_with fail
  go_region
  all_goals
   go_wp2_with fail
   refine bodyPost_ret (v:=.tuple #[.agg #[.string r3.1.core.kind,.bool r3.1.core.on,.bool r3.1.core.broken,.slice A13 r3.1.core.cells.length c13,.int .i64 r3.1.core.count,.slice (some ⟨g,0,none⟩) L c5],.agg #[.int .i64 r3.2.code,.int .i64 r3.2.value,.string r3.2.text,.int .i64 r3.2.want,.int .i64 r3.2.had],.bool true]) (by simp only [results,Tryz.results126];go_simp) rfl ?_
   exact⟨A13,c13,T3,rfl,(OWN3.out).keep (T:=[w.heap.size+1+1,w.heap.size+1+1+1,w1.heap.size,w1.heap.size+1]) Chg.now (fun x hx=>by have:=lo3.out x hx;simp;omega) (fun x hx=>by have:=l5.out x hx;simp;omega),hT3.out,(Chg.to D3.out)⟩
theorem l4Own_lazyKeep (n:Nat) (IH:L4Do n) (p:PartT) (mt:ByteArray) (hkc:KeepC mt) (key:ByteArray) (value:Int) (text:ByteArray) (L:Nat) (A3:Option Addr) (c3:Nat) (A5:Option Addr) (c5:Nat) (S3 S5:List Nat) (w:World) (h:POwn w p L A3 c3 A5 c5 S3 S5) (hok:ThrOk (n+1) p ⟨mt,key,value,text⟩) (ht:text.size<=1048575) (hk:key.size<=1048576) (e:(layN p n).name=nLazy) (okx:ThrOk n p ⟨mt,key,value,text⟩) (_ok2:ThrOk n p (only mStart)) (hc:¬(thr n p ⟨mt,key,value,text⟩).2.code=2):
  Calls Tryz.prog 126 #[.agg #[.string p.core.kind,.bool p.core.on,.bool p.core.broken,.slice A3 p.core.cells.length c3,.int .i64 p.core.count,.slice A5 L c5],.int .i64 ((n+1:Nat):Int),.agg #[.string mt,.string key,.int .i64 value,.string text]] w (PartOwn (thr n p ⟨mt,key,value,text⟩) true L A5 c5 S3 S5 w):=by
 rcases hkc with hkc|hkc
 all_goals
  have hb:=And.intro ht (And.intro hk IH)
  have hnL:n<L:=by have:=hok.le;have:=h.len;omega
  obtain⟨g,rfl,hgS,hg,hLc,hcm⟩:=h.block (by omega)
  unfold maxLen at hcm
  obtain⟨q0,q1,_⟩:=h.lay hnL
  rw [e] at q0
  have l3:=hid h.h3.lt
  have l5:=hid h.h5.lt
  obtain⟨u0,u1,u2,u3,u4,u5⟩:=ln_Lazy
  obtain⟨t2,t3,t4,t5,t8⟩:=hkc
  have i0:(0:Int)<=(n:Int):=by omega
  have i1:(n:Int)<(L:Int):=by omega
  have i2:(L:Int)<=9223372036854775807:=by omega
  have i3:IntKind.i64.wrap (n:Int)=(n:Int):=wr_id (by omega) (by omega)
  have g0:g<w.heap.size+1:=by omega
  have g1:g<w.heap.size+1+1:=by omega
  have g2:g<w.heap.size+1+1+1:=by omega
  have g3:g<w.heap.size+1+1+1+1:=by omega
  have hnum:IsNum (layN p n).count:=by
   have hlen:=h.len
   obtain⟨_,_,_,hx,_⟩:=hok.part.2.2 n (by omega)
   rw [layN_eq (by omega)]
   exact hx
  obtain⟨r1,hr1⟩:∃r,r=thr n p ⟨mt,key,value,text⟩:=⟨_,rfl⟩
  have DO1:=hid (fun W A3 c3 S3 (hW:POwn W p L A3 c3 (some ⟨g,0,none⟩) c5 S3 S5)=>IH p ⟨mt,key,value,text⟩ L A3 c3 _ c5 S3 S5 W hW okx (by first|exact ht|decide|(show(0:Nat)<=1048575;decide)) (by first|exact hk|decide|(show(0:Nat)<=1048576;decide)))
  rw [<-hr1] at DO1
  have OK1:=(show PartOk r1.1/\Same n p r1.1 from by rw [hr1];exact thr_ok n _ _ okx)
  have hc1:(r1.2.code==2)=false:=by rw [hr1];simpa using hc
  rw [<-hr1]
  clear OK1 okx
  have H:=hid h
  have HN:=hid hnum
  have E:=hid e
  clear hr1 hc h hok hnum e hb ht hk IH
  go_enter Tryz.func126,Tryz.ntmps126
  go_wp2_with fail
  refine(DO1.out _ _ _ _ (H.out.keep0 Chg.now)).mono ?_
  rintro e w1 ⟨A11,c11,T1,rfl,own1,hD1,c1⟩
  have s1:=c1.size
  have v1:w.heap.size+4<=w1.heap.size:=by simp at s1;omega
  obtain⟨-, -,xa1, -, -,xb1,yc1,zc1,xc1,yd1,zd1,xd1, -⟩:=c1.low 4 (w.heap.size) (fun x hx=>by have:=l5.out _ hx;(try simp at this)<;>omega)
  have lo1:Hid (∀x,x∈T1->x<w.heap.size∨(w.heap.size+4<=x/\x<w1.heap.size)):=hid (fun x hx=>by rcases hD1 x hx with h|h;(have:=l3.out x h;omega);(have:=own1.h3.lt x hx;simp at h;omega))
  have hT1:Hid (∀x,x∈T1->x∈S3∨w.heap.size<=x):=hid (fun x hx=>by rcases hD1 x hx with h|h;(exact .inl h);(exact .inr (by simp at h;omega)))
  have D1:Hid (Chg S5 w w1):=hid (Chg.trans (S:=S5) Chg.now c1 (fun x hx=>.inl hx))
  obtain⟨n10,n11,nf1⟩:=own1.lay hnL
  have OWN1:=hid own1
  obtain⟨hg1,hg1a,hg1b,hne1,hne1a⟩:=near (show g<w1.heap.size by omega)
  clear own1 hD1 c1 s1
  go_wp2_with fail
  go_region
  all_goals
   go_wp2_with fail
   refine bodyPost_ret (v:=.tuple #[.agg #[.string r1.1.core.kind,.bool r1.1.core.on,.bool r1.1.core.broken,.slice A11 r1.1.core.cells.length c11,.int .i64 r1.1.core.count,.slice (some ⟨g,0,none⟩) L c5],.agg #[.int .i64 r1.2.code,.int .i64 r1.2.value,.string r1.2.text,.int .i64 r1.2.want,.int .i64 r1.2.had],.bool true]) (by simp only [results,Tryz.results126];go_simp) rfl ?_
   exact⟨A11,c11,T1,rfl,(OWN1.out).keep (T:=[w.heap.size+1+1,w.heap.size+1+1+1]) Chg.now (fun x hx=>by have:=lo1.out x hx;simp;omega) (fun x hx=>by have:=l5.out x hx;simp;omega),hT1.out,(Chg.to D1.out)⟩
theorem l4Own_healsHeal (n:Nat) (IH:L4Do n) (p:PartT) (key:ByteArray) (value:Int) (text:ByteArray) (L:Nat) (A3:Option Addr) (c3:Nat) (A5:Option Addr) (c5:Nat) (S3 S5:List Nat) (w:World) (h:POwn w p L A3 c3 A5 c5 S3 S5) (hok:ThrOk (n+1) p ⟨mHeal,key,value,text⟩) (ht:text.size<=1048575) (hk:key.size<=1048576) (e:(layN p n).name=nHeals) (okx:ThrOk n p (only mStop)) (ok2:ThrOk n p (only mStart)):
  Calls Tryz.prog 126 #[.agg #[.string p.core.kind,.bool p.core.on,.bool p.core.broken,.slice A3 p.core.cells.length c3,.int .i64 p.core.count,.slice A5 L c5],.int .i64 ((n+1:Nat):Int),.agg #[.string mHeal,.string key,.int .i64 value,.string text]] w (PartOwn (thr n (thr n p (only mStop)).1 (only mStart)) true L A5 c5 S3 S5 w):=by
 have hb:=And.intro ht (And.intro hk IH)
 have hnL:n<L:=by have:=hok.le;have:=h.len;omega
 obtain⟨g,rfl,hgS,hg,hLc,hcm⟩:=h.block (by omega)
 unfold maxLen at hcm
 obtain⟨q0,q1,_⟩:=h.lay hnL
 rw [e] at q0
 have l3:=hid h.h3.lt
 have l5:=hid h.h5.lt
 obtain⟨u0,u1,u2,u3,u4,u5⟩:=ln_Heals
 obtain⟨t0,t1,t2,t3,t4,t5,t6,t7,t8⟩:=tl_Heal
 have i0:(0:Int)<=(n:Int):=by omega
 have i1:(n:Int)<(L:Int):=by omega
 have i2:(L:Int)<=9223372036854775807:=by omega
 have i3:IntKind.i64.wrap (n:Int)=(n:Int):=wr_id (by omega) (by omega)
 have g0:g<w.heap.size+1:=by omega
 have g1:g<w.heap.size+1+1:=by omega
 have g2:g<w.heap.size+1+1+1:=by omega
 have g3:g<w.heap.size+1+1+1+1:=by omega
 have hnum:IsNum (layN p n).count:=by
  have hlen:=h.len
  obtain⟨_,_,_,hx,_⟩:=hok.part.2.2 n (by omega)
  rw [layN_eq (by omega)]
  exact hx
 obtain⟨r1,hr1⟩:∃r,r=thr n p (only mStop):=⟨_,rfl⟩
 have DO1:=hid (fun W A3 c3 S3 (hW:POwn W p L A3 c3 (some ⟨g,0,none⟩) c5 S3 S5)=>IH p (only mStop) L A3 c3 _ c5 S3 S5 W hW okx (by first|exact ht|decide|(show(0:Nat)<=1048575;decide)) (by first|exact hk|decide|(show(0:Nat)<=1048576;decide)))
 rw [<-hr1] at DO1
 have OK1:=(show PartOk r1.1/\Same n p r1.1 from by rw [hr1];exact thr_ok n _ _ okx)
 obtain⟨r2,hr2⟩:∃r,r=thr n r1.1 (only mStart):=⟨_,rfl⟩
 have DO2:=hid (fun W A3 c3 S3 (hW:POwn W r1.1 L A3 c3 (some ⟨g,0,none⟩) c5 S3 S5)=>IH r1.1 (only mStart) L A3 c3 _ c5 S3 S5 W hW (ok2.to OK1.2 OK1.1) (by first|exact ht|decide|(show(0:Nat)<=1048575;decide)) (by first|exact hk|decide|(show(0:Nat)<=1048576;decide)))
 rw [<-hr2] at DO2
 have OK2:=(show PartOk r2.1/\Same n r1.1 r2.1 from by rw [hr2];exact thr_ok n _ _ (ok2.to OK1.2 OK1.1))
 rw [<-hr1, <-hr2]
 clear OK1 OK2 okx ok2
 have H:=hid h
 have HN:=hid hnum
 have E:=hid e
 clear hr2 hr1 h hok hnum e hb ht hk IH
 go_enter Tryz.func126,Tryz.ntmps126
 go_wp2_with fail
 refine(DO1.out _ _ _ _ (H.out.keep0 Chg.now)).mono ?_
 rintro e w1 ⟨A11,c11,T1,rfl,own1,hD1,c1⟩
 have s1:=c1.size
 have v1:w.heap.size+4<=w1.heap.size:=by simp at s1;omega
 obtain⟨-, -,xa1, -, -,xb1,yc1,zc1,xc1,yd1,zd1,xd1, -⟩:=c1.low 4 (w.heap.size) (fun x hx=>by have:=l5.out _ hx;(try simp at this)<;>omega)
 have lo1:Hid (∀x,x∈T1->x<w.heap.size∨(w.heap.size+4<=x/\x<w1.heap.size)):=hid (fun x hx=>by rcases hD1 x hx with h|h;(have:=l3.out x h;omega);(have:=own1.h3.lt x hx;simp at h;omega))
 have hT1:Hid (∀x,x∈T1->x∈S3∨w.heap.size<=x):=hid (fun x hx=>by rcases hD1 x hx with h|h;(exact .inl h);(exact .inr (by simp at h;omega)))
 have D1:Hid (Chg S5 w w1):=hid (Chg.trans (S:=S5) Chg.now c1 (fun x hx=>.inl hx))
 obtain⟨n10,n11,nf1⟩:=own1.lay hnL
 have OWN1:=hid own1
 obtain⟨hg1,hg1a,hg1b,hne1,hne1a⟩:=near (show g<w1.heap.size by omega)
 clear own1 hD1 c1 s1
 go_wp2_with fail
 refine(DO2.out _ _ _ _ (OWN1.out.keep0 Chg.now)).mono ?_
 rintro e w2 ⟨A12,c12,T2,rfl,own2,hD2,c2⟩
 have s2:=c2.size
 have v2:w1.heap.size+2<=w2.heap.size:=by simp at s2;omega
 obtain⟨-, -,xa2, -, -,xb2,yc2,zc2,xc2,yd2,zd2,xd2, -⟩:=c2.low 4 (w.heap.size) (fun x hx=>by have:=l5.out _ hx;(try simp at this)<;>omega)
 obtain⟨-, -,xq2, -, -,xr2, -⟩:=c2.low 2 (w1.heap.size) (fun x hx=>by have:=l5.out _ hx;(try simp at this)<;>omega)
 have lo2:Hid (∀x,x∈T2->x<w.heap.size∨(w.heap.size+4<=x/\x<w1.heap.size)∨(w1.heap.size+2<=x/\x<w2.heap.size)):=hid (fun x hx=>by rcases hD2 x hx with h|h;(have:=lo1.out x h;omega);(have:=own2.h3.lt x hx;simp at h;omega))
 have hT2:Hid (∀x,x∈T2->x∈S3∨w.heap.size<=x):=hid (fun x hx=>by rcases hD2 x hx with h|h;(exact hT1.out x h);(exact .inr (by simp at h;omega)))
 have D2:Hid (Chg S5 w w2):=hid (Chg.trans (S:=S5) (Chg.to D1.out) c2 (fun x hx=>.inl hx))
 obtain⟨n20,n21,nf2⟩:=own2.lay hnL
 have OWN2:=hid own2
 obtain⟨hg2,hg2a,hg2b,hne2,hne2a⟩:=near (show g<w2.heap.size by omega)
 clear own2 hD2 c2 s2
 go_wp2_with fail
 go_region
 all_goals
  go_wp2_with fail
  refine bodyPost_ret (v:=.tuple #[.agg #[.string r2.1.core.kind,.bool r2.1.core.on,.bool r2.1.core.broken,.slice A12 r2.1.core.cells.length c12,.int .i64 r2.1.core.count,.slice (some ⟨g,0,none⟩) L c5],.agg #[.int .i64 r2.2.code,.int .i64 r2.2.value,.string r2.2.text,.int .i64 r2.2.want,.int .i64 r2.2.had],.bool true]) (by simp only [results,Tryz.results126];go_simp) rfl ?_
  exact⟨A12,c12,T2,rfl,(OWN2.out).keep (T:=[w.heap.size+1+1,w.heap.size+1+1+1]) Chg.now (fun x hx=>by have:=lo2.out x hx;simp;omega) (fun x hx=>by have:=l5.out x hx;simp;omega),hT2.out,(Chg.to D2.out)⟩
theorem l4Own_twiceTell0 (n:Nat) (IH:L4Do n) (p:PartT) (key:ByteArray) (value:Int) (text:ByteArray) (L:Nat) (A3:Option Addr) (c3:Nat) (A5:Option Addr) (c5:Nat) (S3 S5:List Nat) (w:World) (h:POwn w p L A3 c3 A5 c5 S3 S5) (hok:ThrOk (n+1) p ⟨mTell,key,value,text⟩) (ht:text.size<=1048575) (hk:key.size<=1048576) (e:(layN p n).name=nTwice) (okx:ThrOk n p ⟨mTell,key,value,text⟩) (hc:(thr n p ⟨mTell,key,value,text⟩).2.code=0) (hv0:0<=(thr n p ⟨mTell,key,value,text⟩).2.value/\(thr n p ⟨mTell,key,value,text⟩).2.value<=999):
  Calls Tryz.prog 126 #[.agg #[.string p.core.kind,.bool p.core.on,.bool p.core.broken,.slice A3 p.core.cells.length c3,.int .i64 p.core.count,.slice A5 L c5],.int .i64 ((n+1:Nat):Int),.agg #[.string mTell,.string key,.int .i64 value,.string text]] w (PartOwn ((thr n p ⟨mTell,key,value,text⟩).1, { (thr n p ⟨mTell,key,value,text⟩).2 with value:=min (2 * (thr n p ⟨mTell,key,value,text⟩).2.value) 999}) true L A5 c5 S3 S5 w):=by
 have hb:=And.intro ht (And.intro hk IH)
 have hnL:n<L:=by have:=hok.le;have:=h.len;omega
 obtain⟨g,rfl,hgS,hg,hLc,hcm⟩:=h.block (by omega)
 unfold maxLen at hcm
 obtain⟨q0,q1,_⟩:=h.lay hnL
 rw [e] at q0
 have l3:=hid h.h3.lt
 have l5:=hid h.h5.lt
 obtain⟨u0,u1,u2,u3,u4,u5⟩:=ln_Twice
 obtain⟨t0,t1,t2,t3,t4,t5,t6,t7,t8⟩:=tl_Tell
 have i0:(0:Int)<=(n:Int):=by omega
 have i1:(n:Int)<(L:Int):=by omega
 have i2:(L:Int)<=9223372036854775807:=by omega
 have i3:IntKind.i64.wrap (n:Int)=(n:Int):=wr_id (by omega) (by omega)
 have g0:g<w.heap.size+1:=by omega
 have g1:g<w.heap.size+1+1:=by omega
 have g2:g<w.heap.size+1+1+1:=by omega
 have g3:g<w.heap.size+1+1+1+1:=by omega
 have hnum:IsNum (layN p n).count:=by
  have hlen:=h.len
  obtain⟨_,_,_,hx,_⟩:=hok.part.2.2 n (by omega)
  rw [layN_eq (by omega)]
  exact hx
 obtain⟨r1,hr1⟩:∃r,r=thr n p ⟨mTell,key,value,text⟩:=⟨_,rfl⟩
 have DO1:=hid (fun W A3 c3 S3 (hW:POwn W p L A3 c3 (some ⟨g,0,none⟩) c5 S3 S5)=>IH p ⟨mTell,key,value,text⟩ L A3 c3 _ c5 S3 S5 W hW okx (by first|exact ht|decide|(show(0:Nat)<=1048575;decide)) (by first|exact hk|decide|(show(0:Nat)<=1048576;decide)))
 rw [<-hr1] at DO1
 have OK1:=(show PartOk r1.1/\Same n p r1.1 from by rw [hr1];exact thr_ok n _ _ okx)
 have hc1:(r1.2.code==0)=true:=by rw [hr1];simpa using hc
 have hv:0<=r1.2.value/\r1.2.value<=999:=by rw [hr1];exact hv0
 obtain⟨hv1,hv2⟩:=hv
 have MI:=hid (fun W=>l1Min_any (2 * r1.2.value) 999 W)
 rw [<-hr1]
 clear OK1 okx
 have H:=hid h
 have HN:=hid hnum
 have E:=hid e
 clear hr1 hc hv0 h hok hnum e hb ht hk IH
 go_enter Tryz.func126,Tryz.ntmps126
 go_wp2_with fail
 refine(DO1.out _ _ _ _ (H.out.keep0 Chg.now)).mono ?_
 rintro e w1 ⟨A11,c11,T1,rfl,own1,hD1,c1⟩
 have s1:=c1.size
 have v1:w.heap.size+4<=w1.heap.size:=by simp at s1;omega
 obtain⟨-, -,xa1, -, -,xb1,yc1,zc1,xc1,yd1,zd1,xd1, -⟩:=c1.low 4 (w.heap.size) (fun x hx=>by have:=l5.out _ hx;(try simp at this)<;>omega)
 have lo1:Hid (∀x,x∈T1->x<w.heap.size∨(w.heap.size+4<=x/\x<w1.heap.size)):=hid (fun x hx=>by rcases hD1 x hx with h|h;(have:=l3.out x h;omega);(have:=own1.h3.lt x hx;simp at h;omega))
 have hT1:Hid (∀x,x∈T1->x∈S3∨w.heap.size<=x):=hid (fun x hx=>by rcases hD1 x hx with h|h;(exact .inl h);(exact .inr (by simp at h;omega)))
 have D1:Hid (Chg S5 w w1):=hid (Chg.trans (S:=S5) Chg.now c1 (fun x hx=>.inl hx))
 obtain⟨n10,n11,nf1⟩:=own1.lay hnL
 have OWN1:=hid own1
 obtain⟨hg1,hg1a,hg1b,hne1,hne1a⟩:=near (show g<w1.heap.size by omega)
 clear own1 hD1 c1 s1
 go_wp2_with fail
 refine(MI.out _).mono ?_
 rintro e w1b ⟨rfl,hw1b⟩
 subst hw1b
 go_wp2_with fail
 go_region
 all_goals
  go_wp2_with fail
  refine bodyPost_ret (v:=.tuple #[.agg #[.string r1.1.core.kind,.bool r1.1.core.on,.bool r1.1.core.broken,.slice A11 r1.1.core.cells.length c11,.int .i64 r1.1.core.count,.slice (some ⟨g,0,none⟩) L c5],.agg #[.int .i64 r1.2.code,.int .i64 (min (2 * r1.2.value) 999),.string r1.2.text,.int .i64 r1.2.want,.int .i64 r1.2.had],.bool true]) (by simp only [results,Tryz.results126];go_simp) rfl ?_
  exact⟨A11,c11,T1,rfl,(OWN1.out).keep (T:=[w.heap.size+1+1,w.heap.size+1+1+1]) Chg.now (fun x hx=>by have:=lo1.out x hx;simp;omega) (fun x hx=>by have:=l5.out x hx;simp;omega),hT1.out,(Chg.to D1.out)⟩
theorem l4Own_twiceTell (n:Nat) (IH:L4Do n) (p:PartT) (key:ByteArray) (value:Int) (text:ByteArray) (L:Nat) (A3:Option Addr) (c3:Nat) (A5:Option Addr) (c5:Nat) (S3 S5:List Nat) (w:World) (h:POwn w p L A3 c3 A5 c5 S3 S5) (hok:ThrOk (n+1) p ⟨mTell,key,value,text⟩) (ht:text.size<=1048575) (hk:key.size<=1048576) (e:(layN p n).name=nTwice) (okx:ThrOk n p ⟨mTell,key,value,text⟩) (hc:¬(thr n p ⟨mTell,key,value,text⟩).2.code=0):
  Calls Tryz.prog 126 #[.agg #[.string p.core.kind,.bool p.core.on,.bool p.core.broken,.slice A3 p.core.cells.length c3,.int .i64 p.core.count,.slice A5 L c5],.int .i64 ((n+1:Nat):Int),.agg #[.string mTell,.string key,.int .i64 value,.string text]] w (PartOwn (thr n p ⟨mTell,key,value,text⟩) true L A5 c5 S3 S5 w):=by
 have hb:=And.intro ht (And.intro hk IH)
 have hnL:n<L:=by have:=hok.le;have:=h.len;omega
 obtain⟨g,rfl,hgS,hg,hLc,hcm⟩:=h.block (by omega)
 unfold maxLen at hcm
 obtain⟨q0,q1,_⟩:=h.lay hnL
 rw [e] at q0
 have l3:=hid h.h3.lt
 have l5:=hid h.h5.lt
 obtain⟨u0,u1,u2,u3,u4,u5⟩:=ln_Twice
 obtain⟨t0,t1,t2,t3,t4,t5,t6,t7,t8⟩:=tl_Tell
 have i0:(0:Int)<=(n:Int):=by omega
 have i1:(n:Int)<(L:Int):=by omega
 have i2:(L:Int)<=9223372036854775807:=by omega
 have i3:IntKind.i64.wrap (n:Int)=(n:Int):=wr_id (by omega) (by omega)
 have g0:g<w.heap.size+1:=by omega
 have g1:g<w.heap.size+1+1:=by omega
 have g2:g<w.heap.size+1+1+1:=by omega
 have g3:g<w.heap.size+1+1+1+1:=by omega
 have hnum:IsNum (layN p n).count:=by
  have hlen:=h.len
  obtain⟨_,_,_,hx,_⟩:=hok.part.2.2 n (by omega)
  rw [layN_eq (by omega)]
  exact hx
 obtain⟨r1,hr1⟩:∃r,r=thr n p ⟨mTell,key,value,text⟩:=⟨_,rfl⟩
 have DO1:=hid (fun W A3 c3 S3 (hW:POwn W p L A3 c3 (some ⟨g,0,none⟩) c5 S3 S5)=>IH p ⟨mTell,key,value,text⟩ L A3 c3 _ c5 S3 S5 W hW okx (by first|exact ht|decide|(show(0:Nat)<=1048575;decide)) (by first|exact hk|decide|(show(0:Nat)<=1048576;decide)))
 rw [<-hr1] at DO1
 have OK1:=(show PartOk r1.1/\Same n p r1.1 from by rw [hr1];exact thr_ok n _ _ okx)
 have hc1:(r1.2.code==0)=false:=by rw [hr1];simpa using hc
 rw [<-hr1]
 clear OK1 okx
 have H:=hid h
 have HN:=hid hnum
 have E:=hid e
 clear hr1 hc h hok hnum e hb ht hk IH
 go_enter Tryz.func126,Tryz.ntmps126
 go_wp2_with fail
 refine(DO1.out _ _ _ _ (H.out.keep0 Chg.now)).mono ?_
 rintro e w1 ⟨A11,c11,T1,rfl,own1,hD1,c1⟩
 have s1:=c1.size
 have v1:w.heap.size+4<=w1.heap.size:=by simp at s1;omega
 obtain⟨-, -,xa1, -, -,xb1,yc1,zc1,xc1,yd1,zd1,xd1, -⟩:=c1.low 4 (w.heap.size) (fun x hx=>by have:=l5.out _ hx;(try simp at this)<;>omega)
 have lo1:Hid (∀x,x∈T1->x<w.heap.size∨(w.heap.size+4<=x/\x<w1.heap.size)):=hid (fun x hx=>by rcases hD1 x hx with h|h;(have:=l3.out x h;omega);(have:=own1.h3.lt x hx;simp at h;omega))
 have hT1:Hid (∀x,x∈T1->x∈S3∨w.heap.size<=x):=hid (fun x hx=>by rcases hD1 x hx with h|h;(exact .inl h);(exact .inr (by simp at h;omega)))
 have D1:Hid (Chg S5 w w1):=hid (Chg.trans (S:=S5) Chg.now c1 (fun x hx=>.inl hx))
 obtain⟨n10,n11,nf1⟩:=own1.lay hnL
 have OWN1:=hid own1
 obtain⟨hg1,hg1a,hg1b,hne1,hne1a⟩:=near (show g<w1.heap.size by omega)
 clear own1 hD1 c1 s1
 go_wp2_with fail
 go_region
 all_goals
  go_wp2_with fail
  refine bodyPost_ret (v:=.tuple #[.agg #[.string r1.1.core.kind,.bool r1.1.core.on,.bool r1.1.core.broken,.slice A11 r1.1.core.cells.length c11,.int .i64 r1.1.core.count,.slice (some ⟨g,0,none⟩) L c5],.agg #[.int .i64 r1.2.code,.int .i64 r1.2.value,.string r1.2.text,.int .i64 r1.2.want,.int .i64 r1.2.had],.bool true]) (by simp only [results,Tryz.results126];go_simp) rfl ?_
  exact⟨A11,c11,T1,rfl,(OWN1.out).keep (T:=[w.heap.size+1+1,w.heap.size+1+1+1]) Chg.now (fun x hx=>by have:=lo1.out x hx;simp;omega) (fun x hx=>by have:=l5.out x hx;simp;omega),hT1.out,(Chg.to D1.out)⟩
theorem l4Own_hearsHear2 (n:Nat) (IH:L4Do n) (p:PartT) (key:ByteArray) (value:Int) (text:ByteArray) (L:Nat) (A3:Option Addr) (c3:Nat) (A5:Option Addr) (c5:Nat) (S3 S5:List Nat) (w:World) (h:POwn w p L A3 c3 A5 c5 S3 S5) (hok:ThrOk (n+1) p ⟨mHear,key,value,text⟩) (ht:text.size<=1048575) (hk:key.size<=1048576) (e:(layN p n).name=nHears) (hc:value>1):
  Calls Tryz.prog 126 #[.agg #[.string p.core.kind,.bool p.core.on,.bool p.core.broken,.slice A3 p.core.cells.length c3,.int .i64 p.core.count,.slice A5 L c5],.int .i64 ((n+1:Nat):Int),.agg #[.string mHear,.string key,.int .i64 value,.string text]] w (PartOwn (bump p n,repOf 0 (layN (bump p n) n).count 0 0) true L A5 c5 S3 S5 w):=by
 have hb:=And.intro ht (And.intro hk IH)
 have hnL:n<L:=by have:=hok.le;have:=h.len;omega
 obtain⟨g,rfl,hgS,hg,hLc,hcm⟩:=h.block (by omega)
 unfold maxLen at hcm
 obtain⟨q0,q1,_⟩:=h.lay hnL
 rw [e] at q0
 have l3:=hid h.h3.lt
 have l5:=hid h.h5.lt
 obtain⟨u0,u1,u2,u3,u4,u5⟩:=ln_Hears
 obtain⟨t0,t1,t2,t3,t4,t5,t6,t7,t8⟩:=tl_Hear
 have i0:(0:Int)<=(n:Int):=by omega
 have i1:(n:Int)<(L:Int):=by omega
 have i2:(L:Int)<=9223372036854775807:=by omega
 have i3:IntKind.i64.wrap (n:Int)=(n:Int):=wr_id (by omega) (by omega)
 have g0:g<w.heap.size+1:=by omega
 have g1:g<w.heap.size+1+1:=by omega
 have g2:g<w.heap.size+1+1+1:=by omega
 have g3:g<w.heap.size+1+1+1+1:=by omega
 have hnum:IsNum (layN p n).count:=by
  have hlen:=h.len
  obtain⟨_,_,_,hx,_⟩:=hok.part.2.2 n (by omega)
  rw [layN_eq (by omega)]
  exact hx
 have UP:=hid (fun W=>l3Up_any (layN p n).count W hnum)
 have hbp:(bump p n).layers.length=L:=by rw [(bump_same (by have:=h.len;omega)).len];exact h.len
 have hbl:(layN (bump p n) n).count=upN (layN p n).count:=by
  have hlen:=h.len
  rw [layN_eq (by omega),layN_eq (by omega)]
  simp only [bump_eq (show n<p.layers.length by omega),List.getElem_set,if_true]
 have g4:g<w.heap.size+1+1+1+1+1:=by omega
 have hv:(value>1):=hc
 have hv1:decide (value>1)=true:=decide_eq_true hc
 have HB:=hid hbl
 clear hbp hbl
 have H:=hid h
 have HN:=hid hnum
 have E:=hid e
 clear hc h hok hnum e hb ht hk IH
 go_enter Tryz.func126,Tryz.ntmps126
 go_wp2_with fail
 go_wp2_with fail
 refine region_tail 14 (by kernel_rfl) (by kernel_rfl) ?_
 simp only [List.take_succ_cons,List.take_zero,List.drop_succ_cons,List.drop_zero]
 repeat still_step
 still_call (UP.out _)
 repeat still_step
 try refine wpStill_nil ?_
 go_wp2_with fail
 go_region_held3 (fun w'=>w'.cell? ⟨w.heap.size+1+1+1+1,0,none⟩=some (.string p.core.kind)/\w'.cell? ⟨w.heap.size+1+1+1+1,1,none⟩=some (.bool p.core.on)/\w'.cell? ⟨w.heap.size+1+1+1+1,2,none⟩=some (.bool p.core.broken)/\w'.cell? ⟨w.heap.size+1+1+1+1,3,none⟩=some (.slice A3 p.core.cells.length c3)/\w'.cell? ⟨w.heap.size+1+1+1+1,4,none⟩=some (.int .i64 p.core.count)/\w'.cell? ⟨w.heap.size+1+1+1+1,5,none⟩=some (.slice (some ⟨g,0,none⟩) L c5)/\w'.cell? ⟨g,n * 2+1,none⟩=some (.int .i64 (upN (layN p n).count))) (((refine⟨?_,?_,?_,?_,?_,?_,?_⟩)<;>(first|(go_keep;done)|(go_simp;done)|(simp [*];done)))) (fail)
 all_goals
  go_wp2_with fail
  refine bodyPost_ret (v:=.tuple #[.agg #[.string p.core.kind,.bool p.core.on,.bool p.core.broken,.slice A3 p.core.cells.length c3,.int .i64 p.core.count,.slice (some ⟨g,0,none⟩) L c5],.agg #[.int .i64 0,.int .i64 (upN (layN p n).count),.string ⟨#[]⟩,.int .i64 0,.int .i64 0],.bool true]) (by simp only [results,Tryz.results126];go_simp) rfl ?_
  exact⟨A3,c3,S3,by simp only [HB.out];rfl,(POwn.bump (w:=w) H.out hnL).keep0 Chg.now,fun x hx=>.inl hx,Chg.now⟩
end Go.Proofs.YtjigcplpkhpgnaaGreatDoor
