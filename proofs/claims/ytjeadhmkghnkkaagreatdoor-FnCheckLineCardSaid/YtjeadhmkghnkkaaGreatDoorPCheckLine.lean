/- FnCheckLine: for all bytes, the law returns true and the bytes, the names of the abilities read as before. Conditions: none beyond the row's own; the card ties the listed tables and variables to the program's text. -/
import Derived.Test.YtjeadhmkghnkkaaGreatDoorFrames
import Derived.Test.YtjeadhmkghnkkaaGreatDoorExpls
import Derived.Test.YtjeadhmkghnkkaaGreatDoorCurs
import Derived.Test.YtjeadhmkghnkkaaGreatDoorRunLws
import Derived.Test.YtjeadhmkghnkkaaGreatDoorDraw5
import Derived.Test.YtjeadhmkghnkkaaGreatDoorTie
import Derived.Test.YtjeadhmkghnkkaaGreatDoorCards
import Derived.Lay
import Derived.SevenTiedAt
set_option maxRecDepth 100000
set_option maxHeartbeats 400000
namespace Go.Proofs.YtjeadhmkghnkkaaGreatDoor
open Go.ChangeShapes Go.WideShapes Go.RowKit Go.Deep

theorem Vp.map {α β:Type} {P:Program} {N:Nat} {t:TypeId} {F:α->List QD} {G:β->List QD} (h:Vp P N t F) (g:α->β) (hg:∀a,G (g a)=F a):Vp P N t G:=fun enc w n cs x hn hx=>by
 obtain⟨a,h1,h2⟩:=h enc w n cs x hn hx
 exact⟨g a,by rw [hg];exact h1,by rw [hg];exact h2⟩

end Go.Proofs.YtjeadhmkghnkkaaGreatDoor

namespace Go.Proofs.YtjeadhmkghnkkaaGreatDoor
open Go.ChangeShapes Go.WideShapes Go.ChangeAt Go.RowKit Go.Deep

section
variable {H:Type} {enc:TypeId×Value->H} {P:Program}
theorem GE (hl:laidOutB P=true) {W W':World} {sp':Nat->Bool} (hc:Qc [] W W'):∀ {ns:List String} {gs:List (DataW H)} {ps:List MemPlace},
  (∀n∈ns,∀g t,P.globalNamed n=some g->(P.globals[g]?).map (·.type)=some t->P.readableRec t=true/\t<P.types.size)->
  DataW.TrodVars enc P W (fun _=>true) ns gs ps->(∀p∈ps,W.sameAt W' p)->(∀p∈ps,sp' p.block=true)->DataW.TrodVars enc P W' sp' ns gs ps
 | [],[],_,_,h,_,_=>h
 | n::ns,d::gs,_,hT,⟨g,t,cs,fuel,p,q,h1,h2,h3,h4,h5,e⟩,hsame,hs=>by
  subst e
  obtain⟨hr,hrow⟩:=hT n (by simp) g t h1 h2
  have hlt:g<W.heap.size:=by
   simp only [World.var?,h1,Y9] at h3
   split at h3
   ·rename_i hh;exact(F5.1 hh).1
   ·cases h3
  have h3':W'.var? P n=some cs:=by
   simp only [World.var?,h1,Y9] at h3 ⊢
   rw [hc.block g hlt (by simp)]
   exact h3
  exact⟨g,t,cs,fuel,p,q,h1,h2,h3',DataW.trod_stays (kids_book hl hr) (book_sized hr) (fun h=>by cases h) ⟨hrow,book_self t⟩ h4 (fun x hx=>hsame x (by simp [hx])) (fun x hx=>hs x (by simp [hx])),
   GE hl hc (fun m hm=>hT m (by simp [hm])) h5 (fun x hx=>hsame x (by simp [hx])) (fun x hx=>hs x (by simp [hx])),rfl⟩

theorem Qcd {f:Func} {s:ChangeSpec} {W W':World} {args:Array Value} {ds gs:List (DataW H)} {before:List MemPlace} {tb:TypeId} (hrt:f.resultTypes= #[tb]) (hub:P.underlying tb=some .bool)
  (hl:laidOutB P=true) (hrd:∀t∈f.params.toList,P.readableRec t=true/\t<P.types.size)
  (hrv:∀n∈s.vars,∀g t,P.globalNamed n=some g->(P.globals[g]?).map (·.type)=some t->P.readableRec t=true/\t<P.types.size)
  (hW:DataW.Whole enc P f.params.toList s.vars false W args.toList ds gs before) (hs:s.fn H (ds++gs)={results:=[.lit (.bool true)],args:=ds,vars:=gs}) (hc:Qc [] W W'):
  s.post enc P f false true false false W args (.bool true) W':=by
 have hb:Below W.heap.size W W':=hc.toBelow
 have hlt:∀p∈before,p.block<W.heap.size:=fun p hp=>hW.lt p hp
 have hW':=hW
 obtain⟨p,q,hA,hV,e,_,hn⟩:=hW
 have hres:(s.fn H (ds++gs)).results=[.lit (.bool true)]:=by rw [hs]
 have hargs:(s.fn H (ds++gs)).args=ds:=by rw [hs]
 have hvs:(s.fn H (ds++gs)).vars=gs:=by rw [hs]
 have R:∀(b:Nat) (sp:Nat->Bool) (hd:Bool),DataW.TrodAll enc P W' b sp hd f.resultTypes.toList ((Value.bool true).resultList f.resultTypes.size) (s.fn H (ds++gs)).results []:=by
  intro b sp hd
  rw [hres,hrt]
  exact trodAll_mk1 (shut_bool hub true)
 have hltp:∀x∈p,x.block<W.heap.size:=fun x hx=>hlt x (by rw [e];simp [hx])
 have hltq:∀x∈q,x.block<W.heap.size:=fun x hx=>hlt x (by rw [e];simp [hx])
 have A:DataW.TrodAll enc P W' 0 (fun b=>decide (b<W.heap.size)) true f.params.toList args.toList (s.fn H (ds++gs)).args p:=by
  rw [hargs]
  exact Ky hl hrd hA (fun x hx=>hb.same (hltp x hx)) (fun x hx=>by simpa using hltp x hx)
 have V:DataW.TrodVars enc P W' (fun b=>decide (b<W.heap.size)) s.vars (s.fn H (ds++gs)).vars q:=by
  rw [hvs]
  exact GE hl hc hrv hV (fun x hx=>hb.same (hltq x hx)) (fun x hx=>by simpa using hltq x hx)
 refine⟨ds,gs,before,[],p,q,hW',R _ _ _,A,V,World.keptBut_mono (fun x hx=>⟨hx,?_⟩) (hb.frame (· ∈before)),fun h=>by cases h⟩
 rw [e] at hx
 rcases F4.1 hx with hx|hx<;>simp [hx]

theorem ue {w:World} {base:Nat} {sp:Nat->Bool} {held:Bool} {fuel:Nat} {t e:TypeId} {n:Nat} {cs:List Value} {zs:List (List UInt8)} {p:List MemPlace}
  (ht:P.underlying t=some (.array n e)) (he:P.underlying e=some .string) (hce:P.cellsOf e=1) (hct:P.cellsOf t=n)
  (h:DataW.trod enc P w base sp held fuel t cs=some (.agg (zs.map fun z=>.lit (.string z)),p)):cs=zs.map fun z=>Value.string ⟨z.toArray⟩:=by
 cases fuel with
 |zero=>simp [DataW.trod] at h
 | succ fuel=>
  simp only [DataW.trod,ht,hce,hct,Nat.mul_one] at h
  split at h
  ·rename_i hl
   obtain⟨xs,hm,hx⟩:=O0.1 h
   have hxs:xs.map (·.1)=zs.map fun z=>(DataW.lit (.string z):DataW H):=by
    have:=congrArg Prod.fst hx
    simpa using this
   have hxl:xs.length=n:=by simpa using Lib.mapM_length hm
   have hzl:zs.length=n:=by
    have:=congrArg List.length hxs
    simp at this
    omega
   apply i8
   intro i
   by_cases hi:i<n
   ·obtain⟨b,hb,hf⟩:=Lib.mapM_at hm i i (by simp [hi])
    obtain⟨z,hc,rfl,_⟩:=DataW.trod_string he hf
    have h1:cs[i]?=some (.string z):=by
     have:=congrArg (·[0]?) hc
     simpa [List.getElem?_take,List.getElem?_drop] using this
    have h2:(xs.map (·.1))[i]?=some (DataW.lit (.string z.data.toList):DataW H):=by simp [hb]
    rw [hxs] at h2
    simp only [R0,O0,DataW.lit.injEq,Lit.string.injEq] at h2
    obtain⟨z',hz',e2⟩:=h2
    rw [h1,R0,hz']
    simp [e2]
   ·rw [L2 (by omega),L2 (by simp;omega)]
  ·cases h
theorem Qar {W:World} {name:String} {zs:List (List UInt8)} {l:List (String×DataW Unit)} {g:Nat} {t e:TypeId} {n:Nat}
  (hg:P.globalNamed name=some g) (hty:(P.globals[g]?).map (·.type)=some t) (ht:P.underlying t=some (.array n e)) (he:P.underlying e=some .string) (hce:P.cellsOf e=1) (hct:P.cellsOf t=n)
  (h:laidMet P l W) (hm:(name,(.agg (zs.map fun z=>.lit (.string z)):DataW Unit))∈l):W.var? P name=some (zs.map fun z=>Value.string ⟨z.toArray⟩).toArray:=by
 obtain⟨g',t',cs,fuel,p,hg',ht',hvar,hd⟩:=Lib.laidMet.reads h hm
 obtain rfl:=M1 (hg.symm.trans hg')
 obtain rfl:=M1 (hty.symm.trans ht')
 rw [hvar, <-ue ht he hce hct hd]
end
end Go.Proofs.YtjeadhmkghnkkaaGreatDoor

set_option maxRecDepth 100000
set_option maxHeartbeats 8000000
namespace Go.Proofs.YtjeadhmkghnkkaaGreatDoor
open Go.RowKit

section
variable {p:List Qa} {i:List Int} {P:Fl->Bool}
theorem QfQ (h:xv (Vn Qs p 0) nos P i):∀x∈i,0<=x/\x<=3:=by
 obtain⟨k,_,h⟩:=h
 exact(WF p 0).bad h
theorem Qf2 (hp:Xn p) (h:xv (Vn Qs p 0) nos P i):i.length<=378:=by
 obtain⟨k,_,h⟩:=h
 exact G5 ((Yy _ hp.2.2 0).bad qQ h).2.1 (Jc hp)
theorem Qdr (hp:Xn p) (h:xv (Vn Qs p 0) nos P i):0<=(QM i p 0 ⟨YQ,0⟩).2.place/\(QM i p 0 ⟨YQ,0⟩).2.place<14:=by
 obtain⟨k,hk,h1,_⟩:=Qcq hp h
 obtain⟨k',_,h⟩:=h
 obtain⟨a,_,q,h2,h3,h4⟩:=((Yy _ hp.2.2 0).bad qQ h).2.2
 obtain⟨h5,_⟩:=Qav (l:=YQ) Ud hp h
 rw [jy Ud hp] at h5
 have h6:(QM i p 0 ⟨YQ,0⟩).2.place=q:=by
  rw [show(QM i p 0 ⟨YQ,0⟩).2=_ from h5]
  rcases h4 with h4|h4<;>exact congrArg Xo.place h4
 have:=hp.1
 rw [h6]
 omega
end
end Go.Proofs.YtjeadhmkghnkkaaGreatDoor
set_option maxRecDepth 100000
set_option maxHeartbeats 2000000
namespace Go.Proofs.YtjeadhmkghnkkaaGreatDoor
open Go.RowKit

def QgS:List ByteArray:=[⟨#[114,117,110]⟩,⟨#[107,101,101,112]⟩,⟨#[116,101,108,108]⟩,⟨#[104,101,97,114]⟩,⟨#[115,97,118,101]⟩,⟨#[104,101,97,108]⟩]
def YL (k:Nat):ByteArray:=QgS.getD k ⟨#[]⟩
def VE (f:Int):Nat->List ByteArray
 |0=>[]
 |k+1=>if has f k=true then VE f k++ [YL k] else VE f k
instance (f:Int):Decidable (ql f):=inferInstanceAs (Decidable (_/\_))
def Gc (f:Int):ByteArray:=if f=0 then⟨#[110,111,110,101]⟩ else if ql f then Zx (VE f 6) ⟨#[43]⟩ else⟨#[]⟩
theorem QbW {f:Int} (h0:f≠0) (h:ql f):Gc f=Zx (VE f 6) ⟨#[43]⟩:=by
 unfold Gc;rw [if_neg h0,if_pos h]
theorem Qca {f:Int} (h:¬ql f):Gc f=⟨#[]⟩:=by
 unfold Gc
 have h0:f≠0:=fun e=>h ⟨by omega,by omega⟩
 rw [if_neg h0,if_neg h]
theorem yz (f:Int):∀k,(VE f k).length<=k
 |0=>F0 _
 |k+1=>by
  rw [VE]
  have:=yz f k
  split
  ·simp;omega
  ·omega
theorem jN (k:Nat):(YL k).size<=4:=by
 unfold YL QgS
 match k with
 |0|1|2|3|4|5=>decide
 |k+6=>simp [ByteArray.size]
theorem kC (f:Int):∀k,Zp (VE f k)<=4 * k
 |0=>F0 _
 |k+1=>by
  rw [VE]
  have:=kC f k
  have:=jN k
  unfold Zp at *
  split
  ·simp;omega
  ·omega
theorem QdN {f:Int} {k:Nat} (h:has f k=true):VE f (k+1)=VE f k++ [YL k]:=by rw [VE,if_pos h]
theorem Qem {f:Int} {k:Nat} (h:has f k=false):VE f (k+1)=VE f k:=by rw [VE,if_neg (by simp [h])]
theorem qm (l:List ByteArray) (sep:ByteArray) (n m:Nat) (hs:sep.size<=8) (hn:l.length<=n) (hW:Zp l<=m):(Zx l sep).size<=8 * n+m:=by
 cases l with
 |nil=>simp [yq,ByteArray.size]
 |cons x r=>
  rw [Ji]
  simp at hn
  have:sep.size * r.length<=8 * n:=V9 hs (by omega)
  omega
theorem Jy (f:Int):(Gc f).size<=100:=by
 unfold Gc
 split
 ·decide
 ·split
  ·exact G5 (qm _ ⟨#[43]⟩ 6 24 (by decide) (yz f 6) (kC f 6)) (by decide)
  ·decide
theorem QfL:∀(f:Fin 64) (k:Fin 6),(bits .and .i64 (((f.1:Nat):Int) / (2 ^ k.1:Nat)) 1==1)=has ((f.1:Nat):Int) k:=by decide+kernel
def Js (w:World):Prop:= 0 <w.heap.size/\∀k:Fin 6,w.cell? ⟨0,k,none⟩=some (.string (YL k))
theorem Js.keep {w w':World} (h:Js w) (hc:Qc [] w w'):Js w':=
 ⟨F6 h.1 hc.size,fun k=>(hc.cell (p:=⟨0,k,none⟩) h.1 (by simp)).trans (h.2 k)⟩
theorem Ut (f:Int) (w:World) (hg:Js w):
  Calls Tryz.prog 66 #[.int .i64 f] w (Kv (Gc f) w):=by
 by_cases hf:ql f
 ·have IF:=Qb (fun W=>(Wr f W).mono (QZ.pos hf))
  have HF:=Qb hf
  by_cases h0:f=0
  ·subst h0
   clear hf
   go_enter Tryz.func66,Tryz.ntmps66
   go_wp2_with fail
   refine(IF.out _).mono ?_
   rintro e w1 ⟨rfl,rfl⟩
   go_wp2_with fail
   go_ret
   exact⟨YC rfl,B0 _ _⟩
  ·have q0:w.cell? ⟨0,0,none⟩=some (.string (YL 0)):=hg.2 0
   have q1:w.cell? ⟨0,1,none⟩=some (.string (YL 1)):=hg.2 1
   have q2:w.cell? ⟨0,2,none⟩=some (.string (YL 2)):=hg.2 2
   have q3:w.cell? ⟨0,3,none⟩=some (.string (YL 3)):=hg.2 3
   have q4:w.cell? ⟨0,4,none⟩=some (.string (YL 4)):=hg.2 4
   have q5:w.cell? ⟨0,5,none⟩=some (.string (YL 5)):=hg.2 5
   have hz0:(f==0)=false:=by simpa using h0
   clear hf hg
   go_enter Tryz.func66,Tryz.ntmps66
   go_wp2_with fail
   refine(IF.out _).mono ?_
   rintro e w1 ⟨rfl,rfl⟩
   go_wp2_with fail
   go_loopw [3,12] (fun v i wr=>∃(k:Nat) (A':Option Addr) (cap':Nat),k<=6/\i= .int .i64 k/\v= .slice A' (VE f k).length cap'/\Yo w1 wr 9 1 (.slice A' (VE f k).length cap') (VE f k).length ((VE f k).flatMap Ur)) (fun _ i _=>6-(intOf i).toNat)
   case atStart=>exact⟨0,none,0,by omega,rfl,rfl,S8 w1 _ _ (B0 _ _)⟩
   case round=>
    obtain⟨k,A',cap',hk,rfl,rfl,hh⟩:=hrel
    obtain⟨L,hL⟩:∃L,L=VE f k:=⟨_,rfl⟩
    have hlen:=yz f k
    have hlw:=kC f k
    rw [<-hL] at hh hlen hlw
    rw [<-hL]
    have LL:=Qb hL
    clear hL q0 q1 q2 q3 q4 q5
    by_cases hlt:k<6
    ·have hidx:∀W,(Instr.index 165 (.agg #[.string (YL 0),.string (YL 1),.string (YL 2),.string (YL 3),.string (YL 4),.string (YL 5)]) (.int .i64 k)).run Tryz.prog W= .ok (.string (YL k)) W:=by
      obtain rfl|rfl|rfl|rfl|rfl|rfl:k=0∨k=1∨k=2∨k=3∨k=4∨k=5:=by omega
      all_goals exact fun W=>by kernel_rfl
     have hbit:(bits .and .i64 (f / 2 ^ k) 1==1)=has f k:=by
      have h0':=HF.out.1
      have:=QfL ⟨f.toNat,by have:=HF.out;unfold ql at this;omega⟩ ⟨k,hlt⟩
      simpa [Int.toNat_of_nonneg h0'] using this
     cases hb:has f k
     ·rw [hb] at hbit
      have HB:=Qb (Qem hb)
      clear hb
      go_wp2_with fail
      go_roundw
      case rel=>exact⟨k+1,A',cap',by omega,by go_num,by rw [HB.out, <-LL.out],by rw [HB.out, <-LL.out];exact hh⟩
      case measure=>simp [intOf];omega
     ·rw [hb] at hbit
      have HB:=Qb (QdN hb)
      clear hb
      go_wp2_with (at_builtin;refine ZN rfl (.tmp 21) (.tmp 23) _ rfl 9 _ 1 16 Tryz.underlying54 Yx rfl (by omega) hh (us:=[.string (YL k)]) (dsE:=Ur (YL k)) ⟨[],I2 (T8 _),by simp,(B0 _ _).alloc _⟩ rfl wr.heap.size 1 rfl rfl (by intro j u hj;cases j with|zero=>cases hj;go_simp|succ j=>simp at hj) (by intro u hu;simp at hu;subst hu;rfl) (by omega) (by omega) ?_;intro A2 cap2 w3 hA2)
      go_roundw
      case rel=>exact⟨k+1,A2,cap2,by omega,by go_num,by rw [HB.out, <-LL.out];simp,by rw [HB.out, <-LL.out,J0];simpa using hA2⟩
      case measure=>simp [intOf];omega
    ·obtain rfl:k=6:=by omega
     have hn:=hh.new
     have hj:=Qb (fun W (hc:Qc [] wr W)=>WE L ⟨#[43]⟩ _ wr.heap.size W (by omega) (by decide) (by omega) (show Rd W wr.heap.size (WB L) _ from hn.rd.cz hc (F0 _)) hc.size)
     have hcg:=hh.chg
     go_wp2_with fail
     refine(hj.out _ (B0 _ _)).mono ?_
     rintro e w2 ⟨rfl,c1⟩
     go_wp2_with fail
     go_ret
     exact⟨YC (by rw [QbW h0 HF.out, <-LL.out]),hcg.tz c1⟩
 ·have IF:=Qb (fun W=>(Wr f W).mono (QZ.neg hf))
  have hz:=Qb (Qca hf)
  clear hf
  go_enter Tryz.func66,Tryz.ntmps66
  go_wp2_with fail
  refine(IF.out _).mono ?_
  rintro e w1 ⟨rfl,rfl⟩
  go_wp2_with fail
  go_ret
  exact⟨YC hz.out.symm,B0 _ _⟩
end Go.Proofs.YtjeadhmkghnkkaaGreatDoor
set_option maxRecDepth 100000
set_option maxHeartbeats 4000000
namespace Go.Proofs.YtjeadhmkghnkkaaGreatDoor
open Go.RowKit

def yl (code place want had:Int):ByteArray:=
 if code=1 then⟨#[112,108,97,99,101,32]⟩++W5 place++⟨#[32,119,97,110,116,115,32]⟩++Gc want++⟨#[32,111,102,32]⟩++Gc had
 else if code=2 then⟨#[112,108,97,99,101,32]⟩++W5 place++⟨#[32,101,109,112,116,121]⟩
 else if code=3 then⟨#[98,97,100]⟩ else⟨#[111,107]⟩
theorem Qds (code place want had:Int) (h0: -9223372036854775808<=place) (h1:place<=9223372036854775807):(yl code place want had).size<=2097152:=by
 have h2:=uE h0 h1
 have h3:=Jy want
 have h4:=Jy had
 unfold yl
 split
 ·simp only [M3]
  have e1:(⟨#[112,108,97,99,101,32]⟩:ByteArray).size=6:=rfl
  have e2:(⟨#[32,119,97,110,116,115,32]⟩:ByteArray).size=7:=rfl
  have e3:(⟨#[32,111,102,32]⟩:ByteArray).size=4:=rfl
  omega
 ·split
  ·simp only [M3]
   have e1:(⟨#[112,108,97,99,101,32]⟩:ByteArray).size=6:=rfl
   have e2:(⟨#[32,101,109,112,116,121]⟩:ByteArray).size=6:=rfl
   omega
  ·split<;>decide
theorem Jf {P:Program} {a b x:ByteArray} (hx:x=a++b) (h:a.size+b.size<=9223372036854775807) (W:World):(Op.stringOp .add a b).run P W= .ok (.string x) W:=by
 rw [hx];exact run_string_add_sum _ _ _ h
theorem Gw {a b x:ByteArray} (hx:x=a++b):x.size=a.size+b.size:=by rw [hx,M3]
theorem jJ (code place want had:Int) (w:World) (h0: -9223372036854775808<=place) (h1:place<=9223372036854775807) (hp:zV w) (ha:Js w):
  Calls Tryz.prog 35 #[.agg #[.int .i64 code,.int .i64 place,.int .i64 want,.int .i64 had]] w (Kv (yl code place want had) w):=by
 have NP:=Qb (fun W (hc:Qc [] w W)=>Ym place W h0 h1 (hp.keep hc))
 have FW:=Qb (fun W (hc:Qc [] w W)=>Ut want W (ha.keep hc))
 have FH:=Qb (fun W (hc:Qc [] w W)=>Ut had W (ha.keep hc))
 have s1:=uE h0 h1
 have s2:=Jy want
 have s3:=Jy had
 obtain⟨n,hn⟩:∃n,n=W5 place:=⟨_,rfl⟩
 obtain⟨fw,hfw⟩:∃n,n=Gc want:=⟨_,rfl⟩
 obtain⟨fh,hfh⟩:∃n,n=Gc had:=⟨_,rfl⟩
 rw [<-hn] at s1 NP
 rw [<-hfw] at s2 FW
 rw [<-hfh] at s3 FH
 have HN:=Qb hn;have HW:=Qb hfw;have HH:=Qb hfh
 clear hn hfw hfh hp ha h0 h1
 by_cases c1:code=1
 ·subst c1
  have e1:(⟨#[112,108,97,99,101,32]⟩:ByteArray).size=6:=rfl
  have e2:(⟨#[32,119,97,110,116,115,32]⟩:ByteArray).size=7:=rfl
  have e3:(⟨#[32,111,102,32]⟩:ByteArray).size=4:=rfl
  obtain⟨x1,hx1⟩:∃x,x=⟨#[112,108,97,99,101,32]⟩++n:=⟨_,rfl⟩
  obtain⟨x2,hx2⟩:∃x,x=x1++⟨#[32,119,97,110,116,115,32]⟩:=⟨_,rfl⟩
  obtain⟨x3,hx3⟩:∃x,x=x2++fw:=⟨_,rfl⟩
  obtain⟨x4,hx4⟩:∃x,x=x3++⟨#[32,111,102,32]⟩:=⟨_,rfl⟩
  obtain⟨x5,hx5⟩:∃x,x=x4++fh:=⟨_,rfl⟩
  have z1:=Gw hx1;have z2:=Gw hx2;have z3:=Gw hx3;have z4:=Gw hx4
  have k1:=Jf (P:=Tryz.prog) hx1 (by omega)
  have k2:=Jf (P:=Tryz.prog) hx2 (by omega)
  have k3:=Jf (P:=Tryz.prog) hx3 (by omega)
  have k4:=Jf (P:=Tryz.prog) hx4 (by omega)
  have k5:=Jf (P:=Tryz.prog) hx5 (by omega)
  have HE:Hid (yl 1 place want had=x5):=by
   show _=_
   rw [hx5,hx4,hx3,hx2,hx1]
   unfold yl;rw [if_pos rfl,HN.out,HW.out,HH.out]
  clear hx1 hx2 hx3 hx4 hx5 z1 z2 z3 z4 e1 e2 e3 s1 s2 s3
  go_enter Tryz.func35,Tryz.ntmps35
  go_wp2_with fail
  go_region_held3 (fun w'=>w'.cell? ⟨w.heap.size,1,none⟩=some (.int .i64 place)/\w'.cell? ⟨w.heap.size,2,none⟩=some (.int .i64 want)/\w'.cell? ⟨w.heap.size,3,none⟩=some (.int .i64 had)/\w.heap.size<w'.heap.size/\Qc [] w w') (first|exact⟨by go_simp,by go_simp,by go_simp,by simp,((B0 _ _).alloc _).drew⟩|exact⟨(c1.cell E4 (by simp)).trans E1,(c1.cell E4 (by simp)).trans E2,(c1.cell E4 (by simp)).trans E3,by have:=c1.size;omega,E5.tz c1⟩) (first|(go_at_call 36;obtain⟨E1,E2,E3,E4,E5⟩:= ‹_/\_/\_/\_/\Qc [] w _›;(with_reducible refine(NP.out _ E5).mono ?_);rintro e w1 ⟨rfl,c1⟩)|(go_at_call 66;obtain⟨E1,E2,E3,E4,E5⟩:= ‹_/\_/\_/\_/\Qc [] w _›;(with_reducible refine(FW.out _ E5).mono ?_);rintro e w1 ⟨rfl,c1⟩)|(go_at_call 66;obtain⟨E1,E2,E3,E4,E5⟩:= ‹_/\_/\_/\_/\Qc [] w _›;(with_reducible refine(FH.out _ E5).mono ?_);rintro e w1 ⟨rfl,c1⟩))
  obtain⟨_,_,_,_,E⟩:= ‹_/\_/\_/\_/\Qc [] w _›
  go_wp2_with fail
  go_ret
  exact⟨YC HE.out.symm,E⟩
 ·have c1f:(code==1)=false:=by simpa using c1
  by_cases c2:code=2
  ·subst c2
   have HE:Hid (yl 2 place want had=⟨#[112,108,97,99,101,32]⟩++n++⟨#[32,101,109,112,116,121]⟩):=by
    show _=_
    unfold yl;rw [if_neg (by decide),if_pos rfl,HN.out]
   clear c1f
   go_enter Tryz.func35,Tryz.ntmps35
   go_wp2_with fail
   refine(NP.out _ ((B0 _ _).alloc _)).mono ?_
   rintro e w1 ⟨rfl,k1⟩
   go_wp2_with fail
   go_ret
   exact⟨YC HE.out.symm,((B0 _ _).alloc _).tz k1⟩
  ·have c2f:(code==2)=false:=by simpa using c2
   by_cases c3:code=3
   ·subst c3
    clear c1f c2f
    go_enter Tryz.func35,Tryz.ntmps35
    go_wp2_with fail
    go_ret
    exact⟨YC rfl,(B0 _ _).alloc _⟩
   ·have c3f:(code==3)=false:=by simpa using c3
    have HE:Hid (yl code place want had=⟨#[111,107]⟩):=by
     show _=_
     unfold yl;rw [if_neg c1,if_neg c2,if_neg c3]
    clear c1 c2 c3
    go_enter Tryz.func35,Tryz.ntmps35
    go_wp2_with fail
    go_ret
    exact⟨YC HE.out.symm,(B0 _ _).alloc _⟩
end Go.Proofs.YtjeadhmkghnkkaaGreatDoor
namespace Go.Proofs.YtjeadhmkghnkkaaGreatDoor
open Go.RowKit

theorem kY.raw {w:World} {B b:Nat}:∀ {ds:List QD} {off:Nat},kY w B ds b off->∃us:List Value,us.length=ds.length/\(∀(j:Nat) (u:Value),us[j]?=some u->w.cell? ⟨b,off+j,none⟩=some u)/\∀(j:Nat) (d:QD) (u:Value),ds[j]?=some d->us[j]?=some u->Rd w B d u
 | [],off,_=>⟨[],rfl,fun j u h=>by simp at h,fun j d u h=>by simp at h⟩
 | d::ds,off,h=>by
  rw [kY] at h
  obtain⟨⟨u,hu,hd⟩,hr⟩:=h
  obtain⟨us,h1,h2,h3⟩:=kY.raw hr
  refine⟨u::us,by simp [h1],fun j x hx=>?_,fun j e x he hx=>?_⟩
  ·match j,hx with
   |0,hx=>simp at hx;subst hx;exact hu
   |j+1,hx=>have:=h2 j x (by simpa using hx);rwa [O4,Nat.add_comm 1 j] at this
  ·match j,he,hx with
   |0,he,hx=>simp at he hx;subst he hx;exact hd
   |j+1,he,hx=>exact h3 j e x (by simpa using he) (by simpa using hx)
theorem Rd.raw {w:World} {B n cap:Nat} {ds:List QD} {A:Option Addr} (h:Rd w B (.s n ds) (.slice A n cap)):∃us:List Value,us.length=ds.length/\(us≠ [] ->∃b off,A=some ⟨b,off,none⟩/\b<B/\∀(j:Nat) (u:Value),us[j]?=some u->w.cell? ⟨b,off+j,none⟩=some u)/\∀(j:Nat) (d:QD) (u:Value),ds[j]?=some d->us[j]?=some u->Rd w B d u:=by
 rw [Rd] at h
 obtain⟨A',cap',e,_,_,h⟩:=h
 simp only [Value.slice.injEq] at e
 obtain⟨rfl, -,rfl⟩:=e
 rcases h with rfl|⟨b,off,rfl,hb,hl⟩
 ·exact⟨[],rfl,fun h=>absurd rfl h,fun j d u h=>by simp at h⟩
 ·obtain⟨us,h1,h2,h3⟩:=hl.raw
  exact⟨us,h1,fun _=>⟨b,off,rfl,hb,h2⟩,h3⟩
theorem Rd.oneCell {w:World} {B:Nat} {d:QD} {u:Value} (h:Rd w B d u) (hv:∀x,d= .v x->x.oneCell'=true):u.oneCell'=true:=by
 cases d with
 |v x=>rw [Rd] at h;rw [h];exact hv x rfl
 |s n cs=>
  rw [Rd] at h
  obtain⟨A,cap,rfl,_⟩:=h
  rfl
theorem Yo.reads {w0 w:World} {e:TypeId} {size n:Nat} {v:Value} {us:List Value} {ds:List QD} (h:Yo w0 w e size v n (us.map QD.v)) (hl:us.length=ds.length) (hr:∀(j:Nat) (d:QD) (u:Value),ds[j]?=some d->us[j]?=some u->Rd w w.heap.size d u):Rd w w.heap.size (.s n ds) v:=by
 have h1:=h.new.rd
 rw [Rd] at h1 ⊢
 obtain⟨A,cap,e1,h2,h3,h4⟩:=h1
 refine⟨A,cap,e1,h2,h3,?_⟩
 rcases h4 with h4|⟨b,off,e2,hb,hL⟩
 ·refine .inl (I6 ?_)
  rw [<-hl, <-J8 (f:=QD.v),h4]
  rfl
 ·refine .inr ⟨b,off,e2,hb,Jr.2 fun j d hd=>?_⟩
  have hj:j<us.length:=by rw [hl];exact(N9.1 hd).1
  obtain⟨u,hu,hd2⟩:=Jr.1 hL j (.v us[j]) (by simp [hj])
  rw [Rd] at hd2
  subst hd2
  exact⟨_,hu,hr j d _ hd (F8 hj)⟩
theorem yN {l:List Qa} {x:Value} (h:QD.v x∈l.flatMap QO):x.oneCell'=true:=by
 obtain⟨a,_,ha⟩:=Y7.1 h
 rw [Vi] at ha
 simp only [C7,F1,or_false] at ha
 unfold QA at ha
 simp only [QD.v.injEq,reduceCtorEq,or_false] at ha
 rcases ha with rfl|rfl|rfl|rfl|rfl|rfl|rfl|rfl|rfl<;>rfl
end Go.Proofs.YtjeadhmkghnkkaaGreatDoor
set_option maxRecDepth 100000
set_option maxHeartbeats 8000000
namespace Go.Proofs.YtjeadhmkghnkkaaGreatDoor
open Go.RowKit

theorem Zn.cell {w:World} {i:List Int} {A:Option Addr} {cap k:Nat} (h:Zn w i (.slice A i.length cap)) (hk:k<i.length):∃b off,A=some ⟨b,off,none⟩/\w.cell? ⟨b,off+k,none⟩=some (.int .i64 i[k]):=by
 obtain⟨A',cap',e,_,_,h3⟩:=h
 obtain⟨rfl,_⟩:A=A'/\True:=⟨by injection e,trivial⟩
 rcases h3 with rfl|⟨b,off,cs,fr,rfl,_,h3⟩
 ·simp at hk
 ·exact⟨b,off,rfl,h3 k hk⟩
theorem Qev:∀(i:List Int),(∀x∈i,0<=x/\x<=3)->Zp (i.map W5)<=20 * i.length
 | [],_=>by simp [Zp]
 | x::i,h=>by
  have h1:=Qev i (fun y hy=>h y (I5 _ hy))
  have h2:=h x K0
  have h3:(W5 x).size<=20:=by
   rcases(show x=0∨x=1∨x=2∨x=3 by omega) with rfl|rfl|rfl|rfl<;>decide+kernel
  unfold Zp at h1 ⊢
  simp only [I9,V8,I1] at h1 ⊢
  omega
def QeN:ByteArray:=⟨#[115,97,102,101]⟩
def UK (e:Xo) (i:List Int):ByteArray:=if i=[] then yl e.code e.place e.want e.had else yl e.code e.place e.want e.had++(⟨#[32,102,111,114,32]⟩++Zx (i.map W5) ⟨#[32]⟩)
theorem Qan {e:Xo} (h:e.code=1) (i:List Int):UK e i≠QeN:=fun hs=>by
 have h0:(UK e i).data.toList.head?=some 112:=by
  unfold UK yl
  rw [if_pos h]
  split<;>simp [ByteArray.data_append]
 rw [hs] at h0
 cases h0
def Qhi (p:List Qa) (w:World) (e:Ending) (w':World):Prop:=∃s,e= .returned (.string s)/\Qc [] w w'/\
 ((s=QeN/\∀i,¬xv (Vn Qs p 0) nos (fun _=>true) i)∨(∃i,XC (xv (Vn Qs p 0) nos (fun _=>true)) i/\s=UK (QM i p 0 ⟨YQ,0⟩).2 i/\(QM i p 0 ⟨YQ,0⟩).2.code=1))
theorem jz (m:List Qa) (ul:Value) (w:World) (hp:¬Xn m) (hW:Qi m<=1048576) (hr:Rd w w.heap.size (QA m) ul) (hE:KP w):
  Calls Tryz.prog 9 #[ul] w fun e w'=>e= .returned (.string ⟨#[110,111,32,112,108,97,110]⟩)/\Qc [] w w':=by
 have IP:=Qb ((Yv m _ w.heap.size w hE hW hr (F0 _)).mono (R4 hp))
 obtain⟨A,cap,rfl,_,_,_⟩:=Qr hr
 clear hr hE hW hp
 go_enter Tryz.func9,Tryz.ntmps9
 go_wp2_with fail
 refine IP.out.mono ?_
 rintro e w1 ⟨rfl,c1⟩
 go_wp2_with fail
 go_ret
 exact⟨rfl,c1⟩
theorem uo (m:List Qa) (ul:Value) (S:List Nat) (w:World) (hp:Xn m) (hW:Qi m<=1048576) (hO:Yb w (QA m) ul S) (hE:KP w) (ha:Js w):
  Calls Tryz.prog 9 #[ul] w (Qhi m w):=by
 have hrd:=Yb.rd _ _ _ hO
 have IP:=Qb ((Yv m _ w.heap.size w hE hW hrd (F0 _)).mono (O3 hp))
 have WA:=Qb (fun W (hc:Qc [] w W)=>Qay m ul S W hp hW (Yb.keep hc _ _ _ (fun _ _ h=>by cases h) hO) (hE.keep hc))
 have ES:=Qb (fun W=>jY W)
 have RL:=Qb (fun(i:List Int) (ui us:Value) W (hc:Qc [] w W) (ri:Zn W i ui) (rs:Rd W W.heap.size (slots YQ) us)=>QfS (hE.keep hc) i Ud hp hW rs (hrd.cz hc (F0 _) |>.mono hc.size) ri.rd W (B0 _ _))
 have ET:=Qb (fun(e:Xo) W (hc:Qc [] w W) (h0: -9223372036854775808<=e.place/\e.place<=9223372036854775807)=>jJ e.code e.place e.want e.had W h0.1 h0.2 (hE.keep hc).pow (ha.keep hc))
 have FN:=Qb (fun(x:Int) W (hc:Qc [] w W) (h0: -9223372036854775808<=x) (h1:x<=9223372036854775807)=>Ym x W h0 h1 (hE.keep hc).pow)
 have FR:=Qb (fun(i:List Int) (h:xv (Vn Qs m 0) nos (fun _=>true) i)=>Qcq hp h)
 have HP:=Qb hp
 obtain⟨A,cap,rfl,_,_,_⟩:=Qr hrd
 clear hrd hO hE hW ha hp
 go_enter Tryz.func9,Tryz.ntmps9
 go_wp2_with fail
 refine IP.out.mono ?_
 rintro e w1 ⟨rfl,c1⟩
 go_wp2_with fail
 refine(WA.out _ c1).mono ?_
 rintro e w2 ⟨v3,found,i,rfl,hv,c2,hw⟩
 have D2:=Qb (c1.tz c2)
 obtain⟨A3,c3,e3,_⟩:=id hv
 subst e3
 have V2:=Qb hv
 clear hv c1 c2 WA IP
 rcases hw with ⟨rfl,hw⟩|⟨rfl,rfl,hw⟩
 ·obtain⟨k,_,r5,t5⟩:=FR.out _ hw.1
  have dg:∀x∈i,0<=x/\x<=3:=QfQ hw.1
  have sm:=Qdr HP.out hw.1
  have ln:=Qf2 HP.out hw.1
  have HW:=Qb hw
  clear hw FR
  go_wp2_with fail
  refine(ES.out _).mono ?_
  intro e w4 G4
  obtain⟨A4,c4,rfl,n4⟩:=G4.sl
  have D4:=Qb (D2.out.tz n4.chg)
  have V4:=Qb (V2.out.keep n4.chg C0)
  have RL4:=Qb (RL.out i _ _ w4 D4.out V4.out n4.rd)
  obtain⟨q,hq⟩:∃q,q=QM i m 0 ⟨YQ,0⟩:=⟨_,rfl⟩
  rw [<-hq] at RL4 r5 t5
  rw [<-hq] at sm
  have sm: -9223372036854775808<=q.2.place/\q.2.place<=9223372036854775807:=by omega
  have R5:=Qb (show q.2.code=1 by rw [r5])
  have HQ:=Qb hq
  clear n4 D2 V2 RL r5 t5 hq
  go_wp2_with fail
  refine RL4.out.mono ?_
  rintro e w5 ⟨B5,b5,rfl,_,d5⟩
  have D5:=Qb (D4.out.tz d5)
  have V5:=Qb (V4.out.keep d5 C0)
  obtain⟨en,hen⟩:∃en,q.2=en:=⟨_,rfl⟩
  rw [hen] at sm R5 ⊢
  have HN:=Qb hen
  clear d5 D4 V4 RL4 hen
  go_wp2_with fail
  refine ZM fun w6 hw6=>?_
  have d6:Qc [] w5 w6:=by rw [hw6];exact C6
  have D6:=Qb (D5.out.tz d6)
  have V6:=Qb (V5.out.keep d6 C0)
  clear hw6 d6 D5 V5
  refine(ET.out en w6 D6.out sm).mono ?_
  rintro e w7 ⟨rfl,d7⟩
  have D7:=Qb (D6.out.tz d7)
  have V7:=Qb (V6.out.keep d7 C0)
  clear d7 D6 V6
  go_wp2_with fail
  have hsz7:=D7.out.size
  go_loopw [9,34] (fun v z wr=>∃(k:Nat) (A':Option Addr) (cap':Nat),k<=i.length/\z= .int .i64 k/\v= .slice A' k cap'/\Yo w7 wr 9 1 (.slice A' k cap') k (((i.take k).map W5).flatMap Ur)) (fun _ z _=>i.length-(intOf z).toNat)
  case atStart=>exact⟨0,_,0,I3 _,rfl,rfl,S8 w7 _ _ (B0 _ _)⟩
  case round=>
   obtain⟨k,A',cap',hk,rfl,rfl,hh⟩:=hrel
   by_cases hlt:k<i.length
   ·obtain⟨b,off,rfl,q0⟩:=(V7.out.keep hh.chg C0).cell hlt
    have hx:=dg _ (I4 hlt)
    have NK:=Qb (FN.out i[k] wr (D7.out.tz hh.chg) (by omega) (by omega))
    obtain⟨y,hy⟩:∃y,y=W5 i[k]:=⟨_,rfl⟩
    have HY:=Qb hy
    rw [<-hy] at NK
    clear hy hx
    go_wp2_with (first|(go_at_call 36;refine NK.out.mono ?_;rintro e w8 ⟨rfl,c8⟩;have hh8:=hh.later c8)|(at_builtin;refine ZN rfl (.tmp 38) (.tmp 41) _ rfl 9 _ 1 16 Tryz.underlying54 Yx rfl (by omega) hh8 (us:=[.string y]) (dsE:=Ur y) ⟨[],I2 (T8 _),by simp,(B0 _ _).alloc _⟩ rfl w8.heap.size 1 rfl rfl (by intro j u hj;cases j with|zero=>cases hj;go_simp|succ j=>simp at hj) (by intro u hu;simp at hu;subst hu;rfl) (by omega) (by omega) ?_;intro A2 cap2 w9 hA2)|fail)
    go_roundw
    case rel=>exact⟨k+1,A2,cap2,by omega,by go_num,by go_num,by rw [G6 hlt,J2,J0];rw [HY.out] at hA2;simpa using hA2⟩
    case measure=>simp [intOf];omega
   ·obtain rfl:k=i.length:=by omega
    rw [I8] at hh
    have hcg:=hh.chg
    have hn:Rd wr wr.heap.size (WB (i.map W5)) (.slice A' i.length cap'):=by have:=hh.new.rd;unfold WB;rw [J8];exact this
    clear hh
    have dr:=Qb (D7.out.tz hcg)
    obtain⟨E,hE⟩:∃E,E=yl en.code en.place en.want en.had:=⟨_,rfl⟩
    have hes:=Qds en.code en.place en.want en.had sm.1 sm.2
    rw [<-hE] at hes ⊢
    have HE:=Qb hE
    clear hE
    by_cases h0:0<i.length
    ·obtain⟨J,hJ⟩:∃J,J=Zx (i.map W5) ⟨#[32]⟩:=⟨_,rfl⟩
     have hjl:J.size<=8 * 1048576+41943040:=by rw [hJ];exact qm _ _ _ _ (by decide) (by rw [J8];omega) (by have:=Qev i dg;omega)
     have JW:=Qb (fun W (hc:Qc [] wr W)=>WE (i.map W5) ⟨#[32]⟩ _ wr.heap.size W (by rw [J8];omega) (by decide) (by have:=Qev i dg;omega) (hn.cz hc (F0 _)) hc.size)
     rw [<-hJ] at JW
     have e1:(⟨#[32,102,111,114,32]⟩:ByteArray).size=5:=rfl
     obtain⟨x1,hx1⟩:∃x:ByteArray,x=⟨#[32,102,111,114,32]⟩++J:=⟨_,rfl⟩
     obtain⟨x2,hx2⟩:∃x,x=E++x1:=⟨_,rfl⟩
     have z1:=Gw hx1
     have k1:=Jf (P:=Tryz.prog) hx1 (by omega)
     have k2:=Jf (P:=Tryz.prog) hx2 (by omega)
     have HX:Hid (x2=UK en i):=by
      show _=_
      unfold UK
      rw [if_neg (by rintro rfl;simp at h0),hx2,hx1,hJ,HE.out]
     clear hx1 hx2 hJ z1 hn hjl
     go_wp2_with fail
     refine(JW.out _ (B0 _ _)).mono ?_
     rintro e wa ⟨rfl,ca⟩
     go_wp2_with fail
     go_ret
     exact⟨_,rfl,dr.out.tz ca,.inr ⟨i,HW.out,by rw [<-HQ.out,HN.out];exact HX.out,by rw [<-HQ.out,HN.out];exact R5.out⟩⟩
    ·have hi0:i=[]:=I6 (by omega)
     go_wp2_with fail
     go_ret
     exact⟨_,rfl,dr.out,.inr ⟨i,HW.out,by rw [<-HQ.out,HN.out];unfold UK;rw [if_pos hi0];exact HE.out,by rw [<-HQ.out,HN.out];exact R5.out⟩⟩
 ·go_wp2_with fail
  go_ret
  exact⟨_,rfl,D2.out,.inl ⟨rfl,hw⟩⟩
end Go.Proofs.YtjeadhmkghnkkaaGreatDoor
set_option maxRecDepth 100000
set_option maxHeartbeats 16000000
namespace Go.Proofs.YtjeadhmkghnkkaaGreatDoor
open Go.RowKit

def JD:Qa:=⟨-1,0,0,⟨#[]⟩,⟨⟨#[]⟩,⟨#[]⟩,0,⟨#[]⟩⟩,0,[],[]⟩
def Uo:Array Value:= #[.int .i64 (-1),.int .i64 0,.int .i64 0,.string ⟨#[]⟩,.string ⟨#[]⟩,.string ⟨#[]⟩,.int .i64 0,.string ⟨#[]⟩,.int .i64 0,.slice none 0 0,.slice none 0 0]
theorem Qai:∀p:List Qa,p.length<=Qd p
 | []=>I3 _
 |a::p=>by
  have h1:=Qai p
  have h2:=a.size_eq
  rw [Qd,I1]
  omega
theorem Qed (w:World) (B:Nat):∀(j:Nat) (d:QD) (u:Value),(QO JD)[j]?=some d->Uo.toList[j]?=some u->Rd w B d u:=fun j d u hd hu=>by
 rw [Vi] at hd
 unfold Uo at hu
 have hn:Rd w B (.s 0 []) (.slice none 0 0):=by rw [Rd];exact⟨none,0,rfl,F0 _,by unfold maxLen;omega,.inl rfl⟩
 match j,hd,hu with
 |0,hd,hu=>cases hd;cases hu;rw [Rd];rfl
 |1,hd,hu=>cases hd;cases hu;rw [Rd];rfl
 |2,hd,hu=>cases hd;cases hu;rw [Rd];rfl
 |3,hd,hu=>cases hd;cases hu;rw [Rd];rfl
 |4,hd,hu=>cases hd;cases hu;rw [Rd];rfl
 |5,hd,hu=>cases hd;cases hu;rw [Rd];rfl
 |6,hd,hu=>cases hd;cases hu;rw [Rd];rfl
 |7,hd,hu=>cases hd;cases hu;rw [Rd];rfl
 |8,hd,hu=>cases hd;cases hu;rw [Rd];rfl
 |9,hd,hu=>cases hd;cases hu;exact hn
 |10,hd,hu=>cases hd;cases hu;exact hn
 |n+11,hd,_=>simp at hd
theorem QgZ {p:List Qa} (h:Qi p<=26000):Qi (JD::p)<=1048576:=by
 have h1:Qi (JD::p)=1+Xv JD+Qi p:=by unfold Qi Wv;simp only [I9,V8,I1];omega
 have h2:Xv JD<=10:=by decide+kernel
 omega
theorem Qgy (p:List Qa):¬Xn (JD::p):=fun h=>by
 have h1:=(Wh _).1 h.2.2 JD K0
 have h2:=Gt ((Qa.ok_iff JD).1 h1).1
 have h3:JD.op= -1:=rfl
 omega
theorem Yo.oneN (w:World) (e:TypeId) (n:Nat) (cs:Array Value) (hn:cs.size=n) (h:Qc [] w w):Yo w (w.alloc (.cells cs e)) e n (.slice (some ⟨w.heap.size,0,none⟩) 1 1) 1 (cs.toList.map QD.v):=
 ⟨cs.toList,[],⟨by simp [hn],.inr ⟨w.heap.size,1,cs,rfl,h.size,heap_alloc_new w _,F0 _,by simp [maxLen],by simp [hn],by subst hn;simp only [Nat.one_mul];rw [<-U5];exact I8⟩⟩,Qt.plainN _ _,O9,by simp,by simp,h.alloc _⟩
theorem xb {P:Program} {w:World} {ops:Array Oper} {rest:List Oper} {o:Oper} {a:Act} {Q:Exit->Act->World->Prop} (hw:Region.wanted o (yielded ops a.tmps)=true) (s x:Operand) (t:TypeId)
  (ho:o.op= .call {callee:=.builtin .append,args:= #[s,x],argTypes:= #[t,t] })
  {v:Value} (hs:a.eval s=v) {A2:Option Addr} {m c:Nat} (hx:a.eval x= .slice A2 m c)
  {R:Option Addr->Nat->World->Prop} {N:Nat} (hrun:∃A' cap' w',(Builtin.append_ #[t,t] o.type #[v,.slice A2 m c]).run P w= .ok (.slice A' N cap') w'/\R A' cap' w')
  (h:∀A' cap' w',R A' cap' w'->wpList P ops Q rest (a.put o.dst (.slice A' N cap')) w'):wpList P ops Q (o::rest) a w:=by
 obtain⟨A',cap',w',hr,hR⟩:=hrun
 refine wpList_step fun K hK=>?_
 rw [if_pos hw]
 unfold Oper.wp execOp
 simp only [ho,resolve,invoke,builtin,Sem.run_bind,Sem.run_pure,Result.andThen_ok,List.map_toArray,I9,O2,hs,hx,hr]
 exact hK _ _ (h _ _ _ hR)
theorem ud (A:Option Addr) (n cap:Nat) (w:World) (hE:KP w) (ha:Js w) (hb:Kj w w.heap.size A n):
  Calls Tryz.prog 3 #[.slice A n cap] w fun e w'=>e= .returned (.bool true)/\Qc [] w w':=by
 have HE:=Qb hE
 have HA:=Qb ha
 by_cases hn:n<=4096
 case neg=>
  have BG:=Qb (QfO A n cap w hn)
  clear hb hn hE ha
  go_enter Tryz.func3,Tryz.ntmps3
  go_wp2_with fail
  refine BG.out.mono ?_
  rintro e w1 ⟨rfl,rfl⟩
  go_wp2_with fail
  go_ret
  exact⟨rfl,B0 _ _⟩
 case pos=>
  have BG:=Qb (Qgx A n cap w hn)
  have DP:=Qb (jv A n cap w (by omega) hb)
  clear hb hn hE ha
  go_enter Tryz.func3,Tryz.ntmps3
  go_wp2_with fail
  refine BG.out.mono ?_
  rintro e w0 ⟨rfl,hw0⟩
  subst hw0
  go_wp2_with fail
  refine DP.out.mono ?_
  rintro e w1 ⟨p,A1,c1,l,A2,c2,rfl,hok,hW,_,_,S1,S2,h1,_,_,_,_,d1⟩
  have E1:=HE.out.keep d1
  have hW':Qi p<=1048576:=G5 hW (by decide)
  have CL:=Qb (uo p _ S1 w1 hok hW' h1.1 E1 (HA.out.keep d1))
  have IS:=Qb (fun W (hc:Qc [] w1 W)=>Qbi p _ S1 W hok hW' (h1.kz hc).1 (E1.keep hc))
  have CN:=Qb (fun(u:Value) W (hc:Qc [] w1 W) (hr:Rd W W.heap.size (QA (JD::p)) u)=>jz (JD::p) u W (Qgy p) (QgZ hW) hr (E1.keep hc))
  have RP:=Qb h1.rd
  have hsz:p.length<=14:=G5 (Qai p) hok.1
  have D1:=Qb d1
  clear h1 d1 E1 hW hW' hok DP
  go_wp2_with fail
  refine CL.out.mono ?_
  rintro e w2 ⟨s,rfl,d2,hs⟩
  rcases hs with ⟨rfl,hs⟩|⟨i,hi,hs,hc⟩
  ·have hn1:(ByteArray.toList QeN== [115,97,102,101])=true:=by rw [ByteArray.toList_eq];rfl
   have D2:=Qb d2
   clear d2 CL
   go_wp2_with fail
   refine(IS.out _ D2.out).mono ?_
   rintro e w4 ⟨bs,rfl,hbi,d4⟩
   have hbs:=hbi.2 hs
   clear hs
   clear hbi IS
   subst hbs
   have D4:=Qb (D2.out.tz d4)
   clear d4 D2
   obtain⟨up,hp1,hp2,hp3⟩:=(RP.out.cz D4.out (F0 _) |>.mono D4.out.size).raw
   have lp:(p.flatMap QO).length=p.length * 11:=Zs Yg p
   have op:∀u∈up,u.oneCell'=true:=fun u hu=>by
    obtain⟨j,hj,rfl⟩:=M0 hu
    have hj2:j<(p.flatMap QO).length:=by omega
    exact(hp3 j _ _ (F8 hj2) (F8 hj)).oneCell (fun x hx=>yN (l:=p) (by rw [<-hx];exact I4 hj2))
   have R2:=Qb (Zi 24 24 33 _ 11 152 Tryz.underlying24 WJ rfl (by omega) (Yo.oneN w4 33 11 Uo rfl (B0 _ _)) (B0 _ _) A1 p.length c1 up (by omega) (fun hne=>by obtain⟨b,off,e,hb,hc⟩:=hp2 hne;exact⟨b,off,e,fun j u hu=>(World.cell?_alloc_lt _ _ _ (Qk (hc j u hu))).trans (hc j u hu)⟩) op (by omega) (by omega))
   have Q:=Qb (show up.length=(p.flatMap QO).length/\(∀(j:Nat) (d:QD) (u:Value),(p.flatMap QO)[j]?=some d->up[j]?=some u->Rd w4 w4.heap.size d u) from⟨hp1,hp3⟩)
   clear hp1 hp2 hp3 op lp
   unfold Uo at R2
   go_wp2_with (first|(at_builtin;refine xb (by rfl) (.tmp 20) (.tmp 21) _ rfl rfl rfl R2.out ?_;rintro A9 c9 w5 ⟨hA9,_,_⟩)|fail)
   clear R2
   have RB:Hid (Rd w5 w5.heap.size (QA (JD::p)) (.slice A9 (1+p.length) c9)):=Qb (by
    have h9:=hA9
    rw [<-J2] at h9
    have hk:∀(d:QD) (u:Value),Rd w4 w4.heap.size d u->Rd w5 w5.heap.size d u:=fun d u h=>(h.cz hA9.chg (F0 _)).mono hA9.chg.size
    have hbl:(QO JD).length=11:=Yg JD
    have:=h9.reads (ds:=(JD::p).flatMap QO) (by rw [J6,I0,I0,Q.out.1,hbl];rfl) (fun j d u hd hu=>by
     rw [J6,List.getElem?_append,hbl] at hd
     rw [List.getElem?_append] at hu
     change (if j<11 then Uo.toList[j]? else up[j-11]?)=some u at hu
     by_cases hj:j<11
     ·rw [if_pos hj] at hd
      rw [if_pos hj] at hu
      exact Qed w5 w5.heap.size j d u hd hu
     ·rw [if_neg hj] at hd
      rw [if_neg hj] at hu
      exact hk _ _ (Q.out.2 _ d u hd hu))
    have e:1+p.length=p.length+1:=by omega
    unfold QA
    rw [I1, <-e]
    exact this)
   have D5:=Qb (D4.out.tz hA9.chg)
   have C5:=Qb (CN.out _ w5 D5.out RB.out)
   clear hA9 Q RB CN D4
   refine C5.out.mono ?_
   rintro e w6 ⟨rfl,d6⟩
   go_wp2_with fail
   go_ret
   exact⟨rfl,H9 (D1.out.tz (D5.out.tz d6))⟩
  ·have hne:s≠⟨#[115,97,102,101]⟩:=by rw [hs];exact Qan hc i
   have hn1:(ByteArray.toList s== [115,97,102,101])=false:=by
    rw [beq_eq_false_iff_ne]
    intro h
    apply hne
    rw [ByteArray.toList_eq] at h
    cases s with
    |mk d=>
     have h2:d= #[115,97,102,101]:=by have h3:=congrArg List.toArray h;simpa using h3
     rw [h2]
   clear hs hc hne
   have D2:=Qb d2
   clear d2 CL
   go_wp2_with fail
   refine(IS.out _ D2.out).mono ?_
   rintro e w4 ⟨bs,rfl,hbi,d4⟩
   have hbs:bs=false:=by
    cases bs with
    |true=>exact absurd hi.1 (hbi.1 rfl i)
    |false=>rfl
   clear hi
   clear hbi IS
   subst hbs
   have D4:=Qb (D2.out.tz d4)
   clear d4 D2
   obtain⟨up,hp1,hp2,hp3⟩:=(RP.out.cz D4.out (F0 _) |>.mono D4.out.size).raw
   have lp:(p.flatMap QO).length=p.length * 11:=Zs Yg p
   have op:∀u∈up,u.oneCell'=true:=fun u hu=>by
    obtain⟨j,hj,rfl⟩:=M0 hu
    have hj2:j<(p.flatMap QO).length:=by omega
    exact(hp3 j _ _ (F8 hj2) (F8 hj)).oneCell (fun x hx=>yN (l:=p) (by rw [<-hx];exact I4 hj2))
   have R2:=Qb (Zi 24 24 33 _ 11 152 Tryz.underlying24 WJ rfl (by omega) (Yo.oneN w4 33 11 Uo rfl (B0 _ _)) (B0 _ _) A1 p.length c1 up (by omega) (fun hne=>by obtain⟨b,off,e,hb,hc⟩:=hp2 hne;exact⟨b,off,e,fun j u hu=>(World.cell?_alloc_lt _ _ _ (Qk (hc j u hu))).trans (hc j u hu)⟩) op (by omega) (by omega))
   have Q:=Qb (show up.length=(p.flatMap QO).length/\(∀(j:Nat) (d:QD) (u:Value),(p.flatMap QO)[j]?=some d->up[j]?=some u->Rd w4 w4.heap.size d u) from⟨hp1,hp3⟩)
   clear hp1 hp2 hp3 op lp
   unfold Uo at R2
   go_wp2_with (first|(at_builtin;refine xb (by rfl) (.tmp 20) (.tmp 21) _ rfl rfl rfl R2.out ?_;rintro A9 c9 w5 ⟨hA9,_,_⟩)|fail)
   clear R2
   have RB:Hid (Rd w5 w5.heap.size (QA (JD::p)) (.slice A9 (1+p.length) c9)):=Qb (by
    have h9:=hA9
    rw [<-J2] at h9
    have hk:∀(d:QD) (u:Value),Rd w4 w4.heap.size d u->Rd w5 w5.heap.size d u:=fun d u h=>(h.cz hA9.chg (F0 _)).mono hA9.chg.size
    have hbl:(QO JD).length=11:=Yg JD
    have:=h9.reads (ds:=(JD::p).flatMap QO) (by rw [J6,I0,I0,Q.out.1,hbl];rfl) (fun j d u hd hu=>by
     rw [J6,List.getElem?_append,hbl] at hd
     rw [List.getElem?_append] at hu
     change (if j<11 then Uo.toList[j]? else up[j-11]?)=some u at hu
     by_cases hj:j<11
     ·rw [if_pos hj] at hd
      rw [if_pos hj] at hu
      exact Qed w5 w5.heap.size j d u hd hu
     ·rw [if_neg hj] at hd
      rw [if_neg hj] at hu
      exact hk _ _ (Q.out.2 _ d u hd hu))
    have e:1+p.length=p.length+1:=by omega
    unfold QA
    rw [I1, <-e]
    exact this)
   have D5:=Qb (D4.out.tz hA9.chg)
   have C5:=Qb (CN.out _ w5 D5.out RB.out)
   clear hA9 Q RB CN D4
   refine C5.out.mono ?_
   rintro e w6 ⟨rfl,d6⟩
   go_wp2_with fail
   go_ret
   exact⟨rfl,H9 (D1.out.tz (D5.out.tz d6))⟩
end Go.Proofs.YtjeadhmkghnkkaaGreatDoor
set_option maxRecDepth 100000
namespace Go.Proofs.YtjeadhmkghnkkaaGreatDoor
open Go.ChangeShapes Go.WideShapes Go.ChangeAt Go.RowKit

theorem Gn:Tryz.prog.globalNamed "loop.example/g03016/impl.abilityNames" =some 0 :=by kernel_rfl
def uY:List (List UInt8):=[[114,117,110],[107,101,101,112],[116,101,108,108],[104,101,97,114],[115,97,118,101],[104,101,97,108]]
theorem Qdn {W:World} (h:W.var? Tryz.prog "loop.example/g03016/impl.abilityNames" =some (uY.map fun z=>Value.string ⟨z.toArray⟩).toArray):Js W:=by
 have hc:∀k:Fin 6,W.cell? ⟨0,k,none⟩=some (.string (YL k)):=by
  intro k
  rw [World.var?_cell Gn h k]
  match k with
  |⟨0,_⟩|⟨1,_⟩|⟨2,_⟩|⟨3,_⟩|⟨4,_⟩|⟨5,_⟩=>rfl
 exact⟨Qk (hc 0),hc⟩
theorem zY (os:Os) (started:os.Started) (H:Type) (enc:TypeId×Value->H):
  ReturnsInHanded {} Tryz.checked os 3 .any (fun w args=>(Rows.fnCheckLineSpec.pre enc Tryz.prog Tryz.f3 Rows.fnCheckLineRow.domain false w args/\laidMetH Tryz.prog Rows.fnCheckLineRow.laid w)/\sizedMet enc Tryz.prog Tryz.f3 (OpenSpec.ofChange Rows.fnCheckLineSpec) false w args)
   (Rows.fnCheckLineSpec.post enc Tryz.prog Tryz.f3 false true false false):=by
 refine zD (C:=Tryz.checked) (X:=fun w _=>laidMetH Tryz.prog Rows.fnCheckLineRow.laid w) (fun _ _ _ hh h=>h.of_heap hh) Tryz.own started (by kernel_rfl) Tryz.func3
  (ChangeSpec.witness_shaped (enc:=enc) (C:=Tryz.checked) (os:=os) (X:=fun w _=>laidMetH Tryz.prog Rows.fnCheckLineRow.laid w) false (World.laidAll Tryz.prog os Rows.fnCheckLineRow.laid) #[.slice none 0 0] 8 (World.laidAll_os _ _ _)
   (World.shaped_of_ZipB (by kernel_rfl) (by kernel_rfl)) (by kernel_rfl) (by kernel_rfl) (by kernel_rfl)
   (by rw [MakeChecks.laidMetH_plain _ _ _ (by kernel_rfl)];exact laidMet_laidAll _ (by kernel_rfl) (by kernel_rfl))) ?_
 intro W base args ds gs before hval0 hW hX hsh
 have hval:∀(j:Nat) t v,Tryz.f3.params[j]?=some t->args[j]?=some v->Value.okWide Tryz.prog W .any base t v:=hval0
 have hW':=hW
 obtain⟨p,q,hA0,hV,rfl,hfz,hnd⟩:=hW
 have hA:DataW.TrodAll enc Tryz.prog W 0 (fun _=>true) true Tryz.f3.params.toList args.toList ds p:=hA0
 rw [Tryz.params3] at hA hval
 obtain⟨v0,d0,rfl,rfl,h0⟩:=trodAll_one hA
 obtain⟨g1,_,_,_,dg,_,rfl,_⟩:=trodVars_one hV
 obtain⟨l,hfl,rdl⟩:=Vp.arg Qax Tryz.underlying22 (hval 0 22 v0 rfl rfl) h0
 obtain⟨A,cap,rfl,_,_,hb⟩:=QdC rdl
 rw [MakeChecks.laidMetH_plain _ _ _ (by kernel_rfl)] at hX
 have hE:KP W:=QgA hsh hX (.tail _ (.tail _ (.head _))) (.tail _ (.tail _ (.tail _ (.tail _ (.tail _ (.head _))))))
 have hab:Js W:=Qdn (Qar (zs:=uY) (l:=Rows.fnCheckLineRow.laid) Gn (show(Tryz.prog.globals[0]?).map (·.type)=some 165 by kernel_rfl) Tryz.underlying165 Tryz.underlying9 (by kernel_rfl) (by kernel_rfl) hX (.tail _ (.tail _ (.tail _ (.tail _ (.tail _ (.tail _ (.head _))))))))
 refine(ud A _ cap W hE hab hb).mono fun e W' ⟨he,hw⟩=>?_
 subst he
 exact⟨_,rfl,Qcd rfl Tryz.underlying4 Tryz.laidOut (by rw [Tryz.params3];intro t ht;simp at ht;subst ht;exact⟨by kernel_rfl,of_decide_eq_true (by kernel_rfl)⟩)
  (by
   intro n hn g t hg ht
   obtain rfl:n= "loop.example/g03016/impl.abilityNames" :=by simpa [Rows.fnCheckLineSpec] using hn
   obtain rfl:=M1 (Gn.symm.trans hg)
   obtain rfl:=M1 ((show(Tryz.prog.globals[0]?).map (·.type)=some 165 by kernel_rfl).symm.trans ht)
   exact⟨by kernel_rfl,of_decide_eq_true (by kernel_rfl)⟩) hW' rfl hw⟩

theorem checkLine_row_holds:Rows.FnCheckLineSaid:=
 OpenClaim.holds_of_wide 3 Tryz.f3 rfl rfl rfl rfl rfl rfl rfl ⟨rfl,rfl,rfl,rfl,rfl⟩ rfl rfl rfl rfl rfl (by kernel_rfl) Tryz.func3 (by kernel_rfl)
  (of_decide_eq_true (by kernel_rfl)) (by unfold Func.isWrapper;rw [if_neg (of_decide_eq_false (by kernel_rfl))];exact⟨rfl,rfl⟩)
  (fun os started H enc _=>zY os started H enc)

theorem checkLine_holds:Rows.FnCheckLineCardSaid:=
 Claim7.holds_tied_plain_at .later [] [.data,.data,.data,.data,.sentinel,.sentinel,.data,.pinned] true _ true checkLine_row_holds (fun _ h=>by cases h) (by kernel_rfl) (fun _ h=>by cases h) fnCheckLine_row_tie rfl ⟨rfl,rfl⟩ (by kernel_rfl) rfl
  (fun f fn hf hfn=>by
   obtain rfl:f=3:=M1 ((show Tryz.prog.funcNamed "loop.example/g03016/laws.FnCheckLine" =some 3 by kernel_rfl).symm.trans hf) |>.symm
   obtain rfl:fn=Tryz.f3:=(M1 (Tryz.func3.symm.trans hfn)).symm
   exact⟨by kernel_rfl,fun j t ht=>by
    rw [Tryz.params3] at ht
    have hm:t∈ [22]:=by simpa using Array.mem_of_getElem? ht
    have hall:([22].all fun u=>!Tryz.prog.wantsStandIn u)=true:=by kernel_rfl
    exact(show Tryz.prog.wantsStandIn t=false by simpa using g7.1 hall t hm)⟩)
  (by kernel_rfl)
end Go.Proofs.YtjeadhmkghnkkaaGreatDoor
