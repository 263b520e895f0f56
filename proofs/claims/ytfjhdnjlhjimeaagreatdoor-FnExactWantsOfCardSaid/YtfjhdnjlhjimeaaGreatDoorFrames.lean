/- The frame of each law's row. Conditions: as stated. -/
import Derived.Test.YtfjhdnjlhjimeaaGreatDoorNumsAll
import Derived.Test.YtfjhdnjlhjimeaaGreatDoorShSplit
import Derived.ReadAgain
import Derived.ChangeVars
import Derived.LaidMore
import Derived.Lib.LaidTab
import Derived.Lib.LaidU8
import Derived.Handed
import Derived.HandedShaped
import Derived.LaidLaws
namespace Go.Proofs.YtfjhdnjlhjimeaaGreatDoor
open Go.ChangeShapes Go.WideShapes Go.ChangeAt Go.RowKit Go.Deep

theorem Tryz.own:ownKnob Tryz.prog.godebug=none:=by kernel_rfl
theorem Tryz.laidOut:laidOutB Tryz.prog=true:=by kernel_rfl

section
variable {H:Type} {enc:TypeId×Value->H} {P:Program}
theorem Ky (hl:laidOutB P=true) {W W':World} {sp':Nat->Bool} {base:Nat}:∀ {ts:List TypeId} {vs:List Value} {ds:List (DataW H)} {ps:List MemPlace},
  (∀t∈ts,P.readableRec t=true/\t<P.types.size)->DataW.TrodAll enc P W base (fun _=>true) true ts vs ds ps->(∀p∈ps,W.sameAt W' p)->(∀p∈ps,sp' p.block=true)->DataW.TrodAll enc P W' base sp' true ts vs ds ps
 | [],[],[],_,_,h,_,_=>h
 | _::_,_::_,_::_,_,hT,⟨p,q,h1,h2,e⟩,hsame,hs=>
  ⟨p,q,WideElems.Trod_stays hl (hT _ (by simp)).1 (hT _ (by simp)).2 h1 (fun x hx=>hsame x (by rw [e];simp [hx])) (fun x hx=>hs x (by rw [e];simp [hx])),
   Ky hl (fun t ht=>hT t (by simp [ht])) h2 (fun x hx=>hsame x (by rw [e];simp [hx])) (fun x hx=>hs x (by rw [e];simp [hx])),e⟩

theorem QgP {f:Func} {s:ChangeSpec} {W W':World} {args:Array Value} {ds gs:List (DataW H)} {before:List MemPlace} {tb:TypeId} (hvars:s.vars=[]) (hrt:f.resultTypes= #[tb]) (hub:P.underlying tb=some .bool)
  (hl:laidOutB P=true) (hrd:∀t∈f.params.toList,P.readableRec t=true/\t<P.types.size)
  (hW:DataW.Whole enc P f.params.toList s.vars false W args.toList ds gs before) (hs:s.fn H (ds++gs)={results:=[.lit (.bool true)],args:=ds}) (hc:Qc [] W W'):
  s.post enc P f false true false false W args (.bool true) W':=by
 have hb:Below W.heap.size W W':=hc.toBelow
 have hlt:∀p∈before,p.block<W.heap.size:=fun p hp=>hW.lt p hp
 have hW':=hW
 obtain⟨p,q,hA,hV,e,_,hn⟩:=hW
 rw [hvars] at hV
 obtain⟨rfl,rfl⟩:=trodVars_none hV
 rw [List.append_nil] at e
 subst e
 have hres:(s.fn H (ds++ [])).results=[.lit (.bool true)]:=by rw [hs]
 have hargs:(s.fn H (ds++ [])).args=ds:=by rw [hs]
 have hvs:(s.fn H (ds++ [])).vars=[]:=by rw [hs]
 have R:∀(b:Nat) (sp:Nat->Bool) (hd:Bool),DataW.TrodAll enc P W' b sp hd f.resultTypes.toList ((Value.bool true).resultList f.resultTypes.size) (s.fn H (ds++ [])).results []:=by
  intro b sp hd
  rw [hres,hrt]
  exact trodAll_mk1 (shut_bool hub true)
 have A:∀sp:Nat->Bool,(∀x∈before,sp x.block=true)->DataW.TrodAll enc P W' 0 sp true f.params.toList args.toList (s.fn H (ds++ [])).args before:=by
  intro sp hsp
  rw [hargs]
  exact Ky hl hrd hA (fun x hx=>hb.same (hlt x hx)) hsp
 have V:∀sp:Nat->Bool,DataW.TrodVars enc P W' sp s.vars (s.fn H (ds++ [])).vars []:=by
  intro sp
  rw [hvars,hvs]
  rfl
 have hold:∀x∈before,(fun b=>decide (b<W.heap.size)) x.block=true:=fun x hx=>by simpa using hlt x hx
 refine⟨ds,[],before,[],before,[],hW',R _ _ _,A _ hold,V _,World.keptBut_mono (fun p hp=>⟨hp,by simpa using hp⟩) (hb.frame (· ∈before)),fun h=>by cases h⟩
end

section
variable {H:Type} {enc:TypeId×Value->H} {P:Program}
theorem Qaz {W:World} {name:String} {k:IntKind} {zs:List Int} {l:List (String×DataW Unit)} {g:Nat} {t e:TypeId} {n:Nat}
  (hg:P.globalNamed name=some g) (hty:(P.globals[g]?).map (·.type)=some t) (ht:P.underlying t=some (.array n e)) (he:P.underlying e=some (.int k)) (hce:P.cellsOf e=1) (hct:P.cellsOf t=n)
  (h:laidMet P l W) (hm:(name,(Lib.tabData k zs:DataW Unit))∈l):Lib.TabIs P W name k zs:=by
 obtain⟨g',t',cs,fuel,p,hg',ht',hvar,hd⟩:=Lib.laidMet.reads h hm
 obtain rfl:=M1 (hg.symm.trans hg')
 obtain rfl:=M1 (hty.symm.trans ht')
 unfold Lib.TabIs
 rw [hvar, <-Lib.cells_of_tab ht he hce hct hd]
end
end Go.Proofs.YtfjhdnjlhjimeaaGreatDoor
namespace Go.Proofs.YtfjhdnjlhjimeaaGreatDoor
open Go

theorem zD {H:Type} {enc:TypeId×Value->H} {a:Assume} {C:Checked} {os:Os} {f:FuncId} {fn:Func} {s:ChangeSpec} {conds:List PathCond} {apart fresh handsOn again:Bool} {X:World->Array Value->Prop}
  (hX:∀(w w':World) (args:Array Value),w.heap=w'.heap->X w args->X w' args)
  (own:ownKnob C.prog.godebug=none) (started:os.Started) (noInit:C.prog.inits.idxOf? f=none) (hfn:C.prog.funcs[f]?=some fn)
  (witness:∃(w:World) (tape:Tape) (i:Input),w.os=os/\(w.forCall tape i).Shaped C.prog/\i.vars=[] /\Input.okWide C.prog (w.forCall tape i) .any w.heap.size f i/\
   ((s.pre enc C.prog fn conds apart (w.forCall tape i).memory i.args/\X (w.forCall tape i).memory i.args)/\sizedMet enc C.prog fn (OpenSpec.ofChange s) apart (w.forCall tape i).memory i.args)/\a.holds C.prog (lone (Frame.enter C.prog f i.args .normal) [] (w.forCall tape i)))
  (walk:∀(W:World) (base:Nat) (args:Array Value) (ds gs:List (DataW H)) (before:List MemPlace),
   (∀(j:Nat) t v,fn.params[j]?=some t->args[j]?=some v->Value.okWide C.prog W .any base t v)->
   DataW.Whole enc C.prog fn.params.toList s.vars apart W args.toList ds gs before->X W args->W.ShapedOpen C.prog->
   Calls C.prog f args W fun e W'=>∃v,e= .returned v/\s.post enc C.prog fn apart fresh handsOn again W args v W'):
  ReturnsInHanded a C os f .any (fun w args=>(s.pre enc C.prog fn conds apart w args/\X w args)/\sizedMet enc C.prog fn (OpenSpec.ofChange s) apart w args) (s.post enc C.prog fn apart fresh handsOn again):=by
 refine returnsInHanded_of_calls own started noInit witness ?_
 intro w tape i _ hsh _ hok hpre _
 obtain⟨_,_,_,fn',hfn',_,_,_,_,hval⟩:=hok
 obtain rfl:fn'=fn:=M1 (hfn'.symm.trans hfn)
 obtain⟨⟨⟨ds,gs,before,hw,_⟩,hx⟩,_⟩:=hpre
 refine(walk (w.forCall tape i) w.heap.size i.args ds gs before hval (DataW.Whole.of_heap (w':=w.forCall tape i) (by rfl) hw) (hX _ _ _ (by rfl) hx) hsh).mono fun e W' ⟨v,he,hp⟩=>?_
 subst he
 exact ChangeSpec.post_blind hp
end Go.Proofs.YtfjhdnjlhjimeaaGreatDoor
namespace Go.Proofs.YtfjhdnjlhjimeaaGreatDoor
open Go.ChangeShapes Go.WideShapes Go.ChangeAt Go.RowKit

theorem vr:Tryz.prog.globalNamed "strconv.ErrSyntax" =some 5 :=by kernel_rfl
theorem QgA {W:World} {l:List (String×DataW Unit)} {nm:String} {d:DataW Unit} (hsh:W.ShapedOpen Tryz.prog) (h:laidMet Tryz.prog l W)
  (h1:("internal/strconv.uint64pow10",(Lib.tabData .u64 Lib.pow10Tab:DataW Unit))∈l) (h2:("strconv.ErrSyntax",(.iface nm d:DataW Unit))∈l):KP W:=by
 refine⟨zV.of (Qaz qD (show(Tryz.prog.globals[1]?).map (·.type)=some 248 by kernel_rfl) Tryz.underlying248 Tryz.underlying228 (by kernel_rfl) (by kernel_rfl) h h1),?_,Tryz.laysM143.s1_3 W hsh⟩
 obtain⟨g',t',cs,fuel,p,hg',ht',hvar,hd⟩:=Lib.laidMet.reads h h2
 obtain rfl:=M1 (vr.symm.trans hg')
 obtain rfl:=M1 ((show(Tryz.prog.globals[5]?).map (·.type)=some 171 by kernel_rfl).symm.trans ht')
 obtain⟨f1,u,v,e1,_⟩:=iface_of_trod Tryz.underlying171 hd
 refine⟨.iface u v,.inr ⟨u,v,rfl⟩,?_⟩
 rw [World.var?_cell vr hvar 0]
 obtain⟨cs⟩:=cs
 simp only at e1
 subst e1
 rfl
end Go.Proofs.YtfjhdnjlhjimeaaGreatDoor
