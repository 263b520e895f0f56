/- A slice of one's own that grows by append, its elements holding slices of their own. Conditions: as the append law's: at most 2^47 bytes. / append of several plain elements, read from a slice. Conditions: as the append law's: at most 2^47 bytes. / A slice that grows by append beside another that is owned: that one stays. Conditions: as the append law's. -/
import Derived.Test.YtjigcplpkhpgnaaGreatDoorGround
import Derived.Maps.AppendAt
import Derived.Test.YtjigcplpkhpgnaaGreatDoorTypes
namespace Go.Proofs.YtjigcplpkhpgnaaGreatDoor
open Go.RowKit

/-- The slice v of n elements reads as the cells ds; it, and all that is in it, was made since w0. -/
def App (w0 w:World) (e:TypeId) (size:Nat) (v:Value) (n:Nat) (ds:List Dat):Prop:=
 ∃xs S',w.ownsRow w0.heap.size e size v n xs/\OwnL w ds xs S'/\S'.Nodup/\(∀x,x∈S'->w0.heap.size<=x)/\(∀g,v.ownBlock=some g->g∉S')/\Chg [] w0 w

theorem App.chg {w0 w:World} {e:TypeId} {size n:Nat} {v:Value} {ds:List Dat} (h:App w0 w e size v n ds):Chg [] w0 w:=by
 obtain⟨_,_,_,_,_,_,_,h⟩:=h
 exact h
theorem App.nil (w0:World) (e:TypeId) (size:Nat) {w:World} (h:Chg [] w0 w):App w0 w e size (.slice none 0 0) 0 []:=
 ⟨[],[],World.ownsRow_nil _ _ _ _,by rw [OwnL];exact⟨rfl,rfl⟩,List.nodup_nil,by simp,by simp,h⟩
theorem App.empty (w0:World) (e:TypeId) (size:Nat) {w:World} (h:Chg [] w0 w):App w0 (w.alloc (.cells #[] e)) e size (.slice (some ⟨w.heap.size,0,none⟩) 0 0) 0 []:=
 ⟨[],[],World.ownsRow_made w #[] 0 h.size (by simp [maxLen]) (by simp),by rw [OwnL];exact⟨rfl,rfl⟩,List.nodup_nil,by simp,by simp,h.alloc _⟩
theorem App.later {w0 w w':World} {e:TypeId} {size n:Nat} {v:Value} {ds:List Dat} (h:App w0 w e size v n ds) (hc:Chg [] w w'):App w0 w' e size v n ds:=by
 obtain⟨xs,S',h1,h2,h3,h4,h5,h6⟩:=h
 have hg:w.grownBy w' none:=⟨hc.os,hc.tape,hc.output,hc.size,fun k hk _=>hc.block k hk (by simp)⟩
 exact⟨xs,S',h1.kept hg (by cases hv:v.ownBlock<;>simp),OwnL.keep hc ds xs S' (by simp) h2,h3,h4,h5,h6.trans0 hc⟩
theorem App.new {w0 w:World} {e:TypeId} {size n:Nat} {v:Value} {ds:List Dat} (h:App w0 w e size v n ds):New w0 w (.s n ds) v:=by
 obtain⟨xs,S',h1,h2,h3,h4,h5,h6⟩:=h
 have hl:=OwnL.length _ _ _ h2
 rcases h1.2 with ⟨rfl,rfl⟩|⟨g,cap,cur,rfl,hg,hh,hn,hm,hs,ht⟩
 ·have hxs:xs=[]:=List.eq_nil_of_length_eq_zero (by rw [h1.1];simp)
  subst hxs
  have hds:ds=[]:=List.eq_nil_of_length_eq_zero (by simpa using hl.symm)
  subst hds
  exact⟨[],⟨by rw [Own];exact .inl ⟨rfl,rfl,rfl,rfl⟩,List.nodup_nil⟩,by simp,h6⟩
 ·refine⟨g::S',⟨?_,List.nodup_cons.2 ⟨h5 g rfl,h3⟩⟩,fun x hx=>?_,h6⟩
  ·rw [Own]
   exact .inr ⟨g,cap,cur,e,xs,S',rfl,hn,hm,hh,by rw [<-hl,h1.1];exact ht,hl,h2,rfl⟩
  ·rcases List.mem_cons.1 hx with rfl|hx
   ·exact hg
   ·exact h4 x hx
theorem App.form {w0 w:World} {e:TypeId} {size n:Nat} {v:Value} {ds:List Dat} (h:App w0 w e size v n ds):∃A cap,v= .slice A n cap:=by
 obtain⟨xs,S',h1,_⟩:=h
 rcases h1.2 with ⟨rfl,rfl⟩|⟨g,cap,cur,rfl,_⟩
 ·exact⟨none,0,rfl⟩
 ·exact⟨_,cap,rfl⟩

/-- 'out = append(out, x)', x made since the world wr, in which out was last looked at. -/
theorem wpList_app {P:Program} {w:World} {ops:Array Oper} {rest:List Oper} {o:Oper} {a:Act} {Q:Exit->Act->World->Prop} (hgd:o.guard=none) (s x:Operand) (t:TypeId)
  (ho:o.op= .call {callee:=.builtin .append,args:= #[s,x],argTypes:= #[t,t] })
  (e:TypeId) (z:Value) (size bytes:Nat) (ht:P.underlying t=some (.slice e)) (hinfo:(P.info? e).map (fun i=>(i.zero,i.size,i.bytes))=some (some z,size,bytes)) (hzs:z.cells.size=size) (hsz:0<size)
  {w0 wr:World} {v:Value} {n:Nat} {ds dsE:List Dat} {us:List Value} (hA:App w0 wr e size v n ds) (hN:NewL wr w dsE us) (hs:a.eval s=v)
  (g c:Nat) (hx:a.eval x= .slice (some ⟨g,0,none⟩) 1 c) (hl:us.length=size) (hnews:∀j u,us[j]?=some u->w.cell? ⟨g,j,none⟩=some u) (h1:∀u∈us,u.oneCell'=true)
  (h63:n+1<=1048577) (hb:bytes<=65536)
  (h:∀A' cap' w',App w0 w' e size (.slice A' (n+1) cap') (n+1) (ds++dsE)->wpList P ops Q rest (a.put o.dst (.slice A' (n+1) cap')) w'):wpList P ops Q (o::rest) a w:=by
 obtain⟨i,hi,hzz⟩:=Option.map_eq_some_iff.1 hinfo
 simp only [Prod.mk.injEq] at hzz
 obtain⟨hz,hsi,hby⟩:=hzz
 obtain⟨xs,S',o1,o2,o3,o4,o5,o6⟩:=hA
 obtain⟨S2,n1,n2,n3⟩:=hN
 have hg0:wr.grownBy w none:=⟨n3.os,n3.tape,n3.output,n3.size,fun k hk _=>n3.block k hk (by simp)⟩
 have own:=o1.kept hg0 (by cases hv:v.ownBlock<;>simp)
 have hmul:(n+1) * bytes<=1048577 * 65536:=Nat.mul_le_mul h63 hb
 refine wpList_append_own_at w hgd s x t ho w0.heap.size e i z size bytes ht hi hz hsi hby hzs hsz v n xs hs own ⟨g,0,none⟩ 1 c us hx (by rw [hl,Nat.one_mul]) (fun j u hj=>by
  have hadd:(⟨g,0,none⟩:Addr).add j=⟨g,j,none⟩:=by unfold Addr.add;split<;>simp_all
  rw [hadd];exact hnews j u hj) h1 (by unfold maxLen;omega) (by omega) (Nat.le_trans o6.size n3.size) (fun v' w' p1 p2 _ p4=>?_)
 have hown:∀k,v.ownBlock=some k->w0.heap.size<=k/\k<wr.heap.size:=fun k hk=>o1.lt k hk
 have hchg:Chg (match v.ownBlock with|some k=>[k] |none=>[]) w w':=⟨p2.os,p2.tape,p2.output,p2.size,fun k hk hn=>p2.block k hk (fun e=>by rw [<-e] at hn;simp at hn)⟩
 have hdis:∀y,y∈S'++S2->y∉(match v.ownBlock with|some k=>[k] |none=>[]):=by
  intro y hy hyk
  cases hv:v.ownBlock with
  |none=>rw [hv] at hyk;simp at hyk
  |some k=>
   rw [hv] at hyk
   simp at hyk
   subst hyk
   rcases List.mem_append.1 hy with hy|hy
   ·exact o5 y hv hy
   ·have:=n2 y hy;have:=(hown y hv).2;omega
 have hL:OwnL w' (ds++dsE) (xs++us) (S'++S2):=OwnL.keep hchg _ _ _ hdis (OwnL.append (OwnL.keep n3 ds xs S' (by simp) o2) n1.1)
 have hApp:App w0 w' e size v' (n+1) (ds++dsE):=by
  refine⟨xs++us,S'++S2,p1,hL,List.nodup_append.2 ⟨o3,n1.2,fun y hy y' hy' ee=>?_⟩,fun y hy=>?_,fun k hk hkS=>?_,?_⟩
  ·subst ee
   have:=OwnL.lt _ _ _ o2 y hy;have:=n2 y hy';omega
  ·rcases List.mem_append.1 hy with hy|hy
   ·exact o4 y hy
   ·have:=n2 y hy;have:=o6.size;omega
  ·rcases p4 with p4|p4
   ·exact hdis k hkS (by rw [<-p4,hk];simp)
   ·rw [p4] at hk
    injection hk with hk
    subst hk
    rcases List.mem_append.1 hkS with hy|hy
    ·have:=OwnL.lt _ _ _ o2 _ hy;have:=n3.size;omega
    ·have:=n1.lt _ hy;omega
  ·refine(o6.trans0 n3).trans hchg (fun y hy=>?_)
   cases hv:v.ownBlock with
   |none=>rw [hv] at hy;simp at hy
   |some k=>rw [hv] at hy;simp at hy;subst hy;exact .inr (hown _ hv).1
 obtain⟨A',cap',rfl⟩:=hApp.form
 exact h A' cap' w' hApp

theorem App.emptyAt (w0:World) (e:TypeId) (size g:Nat) {w:World} (h:Chg [] w0 w) (hg:g=w.heap.size):App w0 (w.alloc (.cells #[] e)) e size (.slice (some ⟨g,0,none⟩) 0 0) 0 []:=by
 subst hg
 exact App.empty w0 e size h
/-- A slice of plain elements: where its cells stand. -/
theorem Rd.plain {w:World} {B n:Nat} {us:List Value} {u:Value} (h:Rd w B (.s n (us.map Dat.v)) u):∃A cap,u= .slice A n cap/\n<=cap/\cap<=maxLen/\
  (us≠ [] ->∃b off,A=some ⟨b,off,none⟩/\b<B/\∀j x,us[j]?=some x->w.cell? ⟨b,off+j,none⟩=some x):=by
 obtain⟨A,cap,e,h0,h1,hx⟩:=h.at_
 refine⟨A,cap,e,h0,h1,fun hne=>?_⟩
 obtain⟨b,off,e2,hb,hc⟩:=hx (by simpa using hne)
 refine⟨b,off,e2,hb,fun j x hj=>?_⟩
 obtain⟨y,hy,hd⟩:=hc j (.v x) (by simp [hj])
 rw [Rd] at hd
 rw [hy,hd]
theorem OwnL.plainN (w:World):∀us:List Value,OwnL w (us.map Dat.v) us []
 | []=>by simp [OwnL]
 |u::us=>by
  rw [List.map_cons,OwnL]
  exact⟨u,us,[],[],rfl,rfl,by simp [Own],OwnL.plainN w us⟩
theorem run_append_none {P:Program} (w:World) (t ty e:TypeId) (i:TypeInfo) (ht:P.underlying t=some (.slice e)) (hi:P.info? e=some i) (A:Option Addr) (n cap c:Nat) (hn:n<=cap):
  (Builtin.append_ #[t,t] ty #[.slice A n cap,.slice none 0 c]).run P w= .ok (.slice A n cap) w:=by
 cases A<;>simp [Builtin.append_,run_underlying ht,sizeOf,typeInfo,hi,Builtin.lenOf,Builtin.firstCells,hn,storeCells]

/-- The block of a slice of one's own. -/
def ownL (v:Value):List Nat:=match v.ownBlock with|some k=>[k] |none=>[]
/-- 'append(out, x...)', x of m elements made since the world wr, in which out was last looked at. -/
theorem run_appM {P:Program} {w:World} (t ty e:TypeId) (z:Value) (size bytes:Nat) (ht:P.underlying t=some (.slice e)) (hinfo:(P.info? e).map (fun i=>(i.zero,i.size,i.bytes))=some (some z,size,bytes)) (hzs:z.cells.size=size) (hsz:0<size)
  {w0 wr:World} {v:Value} {n:Nat} {ds dsE:List Dat} {us:List Value} (hA:App w0 wr e size v n ds) (hN:NewL wr w dsE us)
  (ad:Addr) (m c:Nat) (hl:us.length=m * size) (hnews:∀j u,us[j]?=some u->w.cell? (ad.add j)=some u) (h1:∀u∈us,u.oneCell'=true)
  (h63:n+m<=1048577) (hb:bytes<=65536):
  ∃A' cap' w',(Builtin.append_ #[t,t] ty #[v,.slice (some ad) m c]).run P w= .ok (.slice A' (n+m) cap') w'/\App w0 w' e size (.slice A' (n+m) cap') (n+m) (ds++dsE)/\Chg (ownL v) w w'/\((Value.slice A' (n+m) cap').ownBlock=v.ownBlock∨(Value.slice A' (n+m) cap').ownBlock=some w.heap.size):=by
 obtain⟨i,hi,hzz⟩:=Option.map_eq_some_iff.1 hinfo
 simp only [Prod.mk.injEq] at hzz
 obtain⟨hz,hsi,hby⟩:=hzz
 obtain⟨xs,S',o1,o2,o3,o4,o5,o6⟩:=hA
 obtain⟨S2,n1,n2,n3⟩:=hN
 have hg0:wr.grownBy w none:=⟨n3.os,n3.tape,n3.output,n3.size,fun k hk _=>n3.block k hk (by simp)⟩
 have own:=o1.kept hg0 (by cases hv:v.ownBlock<;>simp)
 have hmul:(n+m) * bytes<=1048577 * 65536:=Nat.mul_le_mul h63 hb
 obtain⟨v',w',hr,p1,p2,_,p4⟩:=run_append_own_at (P:=P) w w0.heap.size t ty e i z size bytes ht hi hz hsi hby hzs hsz v n xs own ad m c us hl hnews h1 (by unfold maxLen;omega) (by omega) (Nat.le_trans o6.size n3.size)
 have hown:∀k,v.ownBlock=some k->w0.heap.size<=k/\k<wr.heap.size:=fun k hk=>o1.lt k hk
 have hchg:Chg (match v.ownBlock with|some k=>[k] |none=>[]) w w':=⟨p2.os,p2.tape,p2.output,p2.size,fun k hk hn=>p2.block k hk (fun e=>by rw [<-e] at hn;simp at hn)⟩
 have hdis:∀y,y∈S'++S2->y∉(match v.ownBlock with|some k=>[k] |none=>[]):=by
  intro y hy hyk
  cases hv:v.ownBlock with
  |none=>rw [hv] at hyk;simp at hyk
  |some k=>
   rw [hv] at hyk
   simp at hyk
   subst hyk
   rcases List.mem_append.1 hy with hy|hy
   ·exact o5 y hv hy
   ·have:=n2 y hy;have:=(hown y hv).2;omega
 have hL:OwnL w' (ds++dsE) (xs++us) (S'++S2):=OwnL.keep hchg _ _ _ hdis (OwnL.append (OwnL.keep n3 ds xs S' (by simp) o2) n1.1)
 have hApp:App w0 w' e size v' (n+m) (ds++dsE):=by
  refine⟨xs++us,S'++S2,p1,hL,List.nodup_append.2 ⟨o3,n1.2,fun y hy y' hy' ee=>?_⟩,fun y hy=>?_,fun k hk hkS=>?_,?_⟩
  ·subst ee
   have:=OwnL.lt _ _ _ o2 y hy;have:=n2 y hy';omega
  ·rcases List.mem_append.1 hy with hy|hy
   ·exact o4 y hy
   ·have:=n2 y hy;have:=o6.size;omega
  ·rcases p4 with p4|p4
   ·exact hdis k hkS (by rw [<-p4,hk];simp)
   ·rw [p4] at hk
    injection hk with hk
    subst hk
    rcases List.mem_append.1 hkS with hy|hy
    ·have:=OwnL.lt _ _ _ o2 _ hy;have:=n3.size;omega
    ·have:=n1.lt _ hy;omega
  ·refine(o6.trans0 n3).trans hchg (fun y hy=>?_)
   cases hv:v.ownBlock with
   |none=>rw [hv] at hy;simp at hy
   |some k=>rw [hv] at hy;simp at hy;subst hy;exact .inr (hown _ hv).1
 obtain⟨A',cap',rfl⟩:=hApp.form
 exact⟨A',cap',w',hr,hApp,hchg,p4⟩

/-- .. x a slice of m plain elements. -/
theorem run_appN {P:Program} {w:World} (t ty e:TypeId) (z:Value) (size bytes:Nat) (ht:P.underlying t=some (.slice e)) (hinfo:(P.info? e).map (fun i=>(i.zero,i.size,i.bytes))=some (some z,size,bytes)) (hzs:z.cells.size=size) (hsz:0<size)
  {w0 wr:World} {v:Value} {n:Nat} {ds:List Dat} (hA:App w0 wr e size v n ds) (hcw:Chg [] wr w)
  (A2:Option Addr) (m c:Nat) (us:List Value) (hl:us.length=m * size) (hnews:us≠ [] ->∃b off,A2=some ⟨b,off,none⟩/\∀j u,us[j]?=some u->w.cell? ⟨b,off+j,none⟩=some u) (h1:∀u∈us,u.oneCell'=true)
  (h63:n+m<=1048577) (hb:bytes<=65536):
  ∃A' cap' w',(Builtin.append_ #[t,t] ty #[v,.slice A2 m c]).run P w= .ok (.slice A' (n+m) cap') w'/\App w0 w' e size (.slice A' (n+m) cap') (n+m) (ds++us.map Dat.v)/\Chg (ownL v) w w'/\((Value.slice A' (n+m) cap').ownBlock=v.ownBlock∨(Value.slice A' (n+m) cap').ownBlock=some w.heap.size):=by
 cases A2 with
 | none=>
  have hu:us=[]:=by
   by_cases hu:us=[]
   ·exact hu
   ·obtain⟨b,off,e2,_⟩:=hnews hu
    cases e2
  subst hu
  have hm:m=0:=by
   rcases Nat.mul_eq_zero.1 hl.symm with h0|h0
   ·exact h0
   ·omega
  subst hm
  have hAw:=hA.later hcw
  obtain⟨Av,cv,rfl⟩:=hA.form
  have hncap:n<=cv:=by
   obtain⟨xs,S',o1,_⟩:=hA
   rcases o1.2 with ⟨h2,h3⟩|⟨g,cap,cur,h2,_,_,h3,_⟩
   ·cases h2;omega
   ·cases h2;exact h3
  obtain⟨i,hi,_⟩:=Option.map_eq_some_iff.1 hinfo
  exact⟨Av,cv,w,run_append_none (P:=P) w t ty e i ht hi Av n cv c hncap,by simpa using hAw,Chg.refl _ _,.inl rfl⟩
 | some ad=>
  refine run_appM t ty e z size bytes ht hinfo hzs hsz hA (dsE:=us.map Dat.v) (us:=us) ⟨[],⟨OwnL.plainN w us,List.nodup_nil⟩,by simp,hcw⟩ ad m c hl (fun j u hj=>?_) h1 h63 hb
  have hne:us≠ []:=by
   rintro rfl
   simp at hj
  obtain⟨b,off,e2,hc⟩:=hnews hne
  cases e2
  have hadd:(⟨b,off,none⟩:Addr).add j=⟨b,off+j,none⟩:=by unfold Addr.add;split<;>simp_all
  rw [hadd]
  exact hc j u hj
/-- .. at the operation, for the walk. -/
theorem wpList_appN {P:Program} {w:World} {ops:Array Oper} {rest:List Oper} {o:Oper} {a:Act} {Q:Exit->Act->World->Prop} (hgd:o.guard=none) (s x:Operand) (t:TypeId)
  (ho:o.op= .call {callee:=.builtin .append,args:= #[s,x],argTypes:= #[t,t] })
  {v:Value} (hs:a.eval s=v) {A2:Option Addr} {m c:Nat} (hx:a.eval x= .slice A2 m c)
  {R:Option Addr->Nat->World->Prop} {N:Nat} (hrun:∃A' cap' w',(Builtin.append_ #[t,t] o.type #[v,.slice A2 m c]).run P w= .ok (.slice A' N cap') w'/\R A' cap' w')
  (h:∀A' cap' w',R A' cap' w'->wpList P ops Q rest (a.put o.dst (.slice A' N cap')) w'):wpList P ops Q (o::rest) a w:=by
 obtain⟨A',cap',w',hr,hR⟩:=hrun
 refine wpList_plain hgd fun K hK=>?_
 unfold Oper.wp execOp
 simp only [ho,resolve,invoke,builtin,Sem.run_bind,Sem.run_pure,Result.andThen_ok,List.map_toArray,List.map_cons,List.map_nil,hs,hx,hr]
 exact hK _ _ (h _ _ _ hR)
/-- .. in a region that draws its order. -/
theorem step_appN {P:Program} {ops:Array Oper} {o:Oper} {a:Act} {w:World} {K:Act->World->Prop} {Q:Exit->Act->World->Prop} {E:Prop} (hg:o.guard=none) (s x:Operand) (t:TypeId)
  (ho:o.op= .call {callee:=.builtin .append,args:= #[s,x],argTypes:= #[t,t] })
  {v:Value} (hs:a.eval s=v) {A2:Option Addr} {m c:Nat} (hx:a.eval x= .slice A2 m c)
  {R:Option Addr->Nat->World->Prop} {N:Nat} (hrun:∃A' cap' w',(Builtin.append_ #[t,t] o.type #[v,.slice A2 m c]).run P w= .ok (.slice A' N cap') w'/\R A' cap' w')
  (hK:∀A' cap' w',R A' cap' w'->K (a.put o.dst (.slice A' N cap')) w'):
  if Region.wanted o (yielded ops a.tmps)=true then Oper.wp P o a w K Q else E:=by
 have hw:Region.wanted o (yielded ops a.tmps)=true:=by simp [Region.wanted,hg]
 rw [if_pos hw]
 obtain⟨A',cap',w',hr,hR⟩:=hrun
 unfold Oper.wp
 simp [execOp,ho,resolve,invoke,builtin,hs,hx,hr,Result.andThen]
 exact hK _ _ _ hR
/-- .. behind stores into a block of the call's own, made before the slice. -/
theorem App.out {w w0 w2 w3:World} {g:Nat} {e:TypeId} {size n:Nat} {v:Value} {ds:List Dat} (h:App w0 w2 e size v n ds) (h0:Chg [] w w0) (hc:Chg [g] w2 w3) (hg:w.heap.size<=g) (hg0:g<w0.heap.size):App w w3 e size v n ds:=by
 obtain⟨xs,S',h1,h2,h3,h4,h5,h6⟩:=h
 have hlow:=fun k hk=>(h1.lt k hk).1
 have hgr:w2.grownBy w3 (some g):=⟨hc.os,hc.tape,hc.output,hc.size,fun k hk hn=>hc.block k hk (by simp;intro e;exact hn (by rw [e]))⟩
 have h1':w3.ownsRow w0.heap.size e size v n xs:=h1.kept hgr (.inr (fun e'=>by have:=hlow g e';omega))
 have hlo:w3.ownsRow w.heap.size e size v n xs:=⟨h1'.1,h1'.2.imp id (fun⟨g',cap,cur,a,b,r⟩=>⟨g',cap,cur,a,Nat.le_trans h0.size b,r⟩)⟩
 exact⟨xs,S',hlo,OwnL.keep hc ds xs S' (fun x hx=>by simp;rintro rfl;have:=h4 x hx;omega) h2,h3,fun x hx=>Nat.le_trans h0.size (h4 x hx),h5,(h0.trans0 h6).trans hc (by simp;omega)⟩
theorem Has.out {w2 w3 w0:World} {g:Nat} {d:Dat} {u:Value} {S:List Nat} (h:Has w2 d u S) (hS:∀x,x∈S->w0.heap.size<=x) (hc:Chg [g] w2 w3) (hg0:g<w0.heap.size):Has w3 d u S:=
 h.keep hc (fun x hx=>by simp;rintro rfl;have:=hS x hx;omega)
theorem HasL.one {w:World} {d:Dat} {u:Value} {S:List Nat} (h:Has w d u S):HasL w [d] [u] S:=⟨by rw [OwnL];exact⟨u,[],S,[],rfl,by simp,h.1,by rw [OwnL];exact⟨rfl,rfl⟩⟩,h.2⟩
theorem OwnL.plain_nil {w:World}:∀ {us xs:List Value} {S:List Nat},OwnL w (us.map Dat.v) xs S->S=[]
 | [],xs,S,h=>by rw [List.map_nil,OwnL] at h;exact h.2
 |u::us,xs,S,h=>by
  rw [List.map_cons,OwnL] at h
  obtain⟨u',us',S1,S2,rfl,rfl,h1,h2⟩:=h
  rw [Own] at h1
  rw [h1.2,OwnL.plain_nil h2]
  rfl
/-- The blocks of a slice of plain elements that is being built. -/
theorem App.has {w0 w:World} {e:TypeId} {size n:Nat} {v:Value} {us:List Value} (h:App w0 w e size v n (us.map Dat.v)):Has w (.s n (us.map Dat.v)) v (ownL v)/\∀x,x∈ownL v->w0.heap.size<=x:=by
 obtain⟨S,h1,h2,_⟩:=h.new
 have hS:S=ownL v:=by
  rcases h1.cases_ with ⟨rfl,_,_,rfl⟩|⟨g,cap,S',rfl,_,_,rfl,_⟩
  ·rfl
  ·have ho:=h1.1
   rw [Own] at ho
   rcases ho with ⟨h0,_⟩|⟨g',cap',cur,e',us',S'',e1,_,_,_,_,_,hl,e2⟩
   ·simp at h0
   ·have:=OwnL.plain_nil hl
    subst this
    simp only [List.cons.injEq] at e2
    rw [e2.2]
    rfl
 subst hS
 exact⟨h1,h2⟩
/-- The slice v grows; beside it u reads as d, through blocks S that are not v's. -/
def AppK (w0 w:World) (e:TypeId) (size:Nat) (v:Value) (n:Nat) (ds:List Dat) (d:Dat) (u:Value) (S:List Nat):Prop:=
 App w0 w e size v n ds/\Has w d u S/\∀k,v.ownBlock=some k->k∉S
theorem AppK.later {w0 w w':World} {e:TypeId} {size n:Nat} {v:Value} {ds:List Dat} {d:Dat} {u:Value} {S:List Nat} (h:AppK w0 w e size v n ds d u S) (hc:Chg [] w w'):AppK w0 w' e size v n ds d u S:=
 ⟨h.1.later hc,h.2.1.keep0 hc,h.2.2⟩
/-- What is made behind the first world. -/
theorem AppK.start {w0 w w':World} {e:TypeId} {size n:Nat} {v:Value} {ds:List Dat} {d:Dat} {u:Value} (h:App w0 w e size v n ds) (hn:New w w' d u):∃S,AppK w0 w' e size v n ds d u S:=by
 obtain⟨S,h1,h2,h3⟩:=hn
 refine⟨S,h.later h3,h1,fun k hk hkS=>?_⟩
 have:=h2 k hkS
 obtain⟨xs,S',o1,_⟩:=h
 have:=o1.lt k hk
 omega
/-- 'out = append(out, x)', x made since the world wr; what else is owned stays. -/
theorem wpList_appK {P:Program} {w:World} {ops:Array Oper} {rest:List Oper} {o:Oper} {a:Act} {Q:Exit->Act->World->Prop} (hgd:o.guard=none) (s x:Operand) (t:TypeId)
  (ho:o.op= .call {callee:=.builtin .append,args:= #[s,x],argTypes:= #[t,t] })
  (e:TypeId) (z:Value) (size bytes:Nat) (ht:P.underlying t=some (.slice e)) (hinfo:(P.info? e).map (fun i=>(i.zero,i.size,i.bytes))=some (some z,size,bytes)) (hzs:z.cells.size=size) (hsz:0<size)
  {w0 wr:World} {v:Value} {n:Nat} {ds dsE:List Dat} {us:List Value} {dk:Dat} {uk:Value} {Sk:List Nat} (hK:AppK w0 wr e size v n ds dk uk Sk) (hN:NewL wr w dsE us) (hs:a.eval s=v)
  (g c:Nat) (hx:a.eval x= .slice (some ⟨g,0,none⟩) 1 c) (hl:us.length=size) (hnews:∀j u,us[j]?=some u->w.cell? ⟨g,j,none⟩=some u) (h1:∀u∈us,u.oneCell'=true)
  (h63:n+1<=1048577) (hb:bytes<=65536)
  (h:∀A' cap' w',AppK w0 w' e size (.slice A' (n+1) cap') (n+1) (ds++dsE) dk uk Sk->wpList P ops Q rest (a.put o.dst (.slice A' (n+1) cap')) w'):wpList P ops Q (o::rest) a w:=by
 obtain⟨i,hi,hzz⟩:=Option.map_eq_some_iff.1 hinfo
 simp only [Prod.mk.injEq] at hzz
 obtain⟨hz,hsi,hby⟩:=hzz
 obtain⟨⟨xs,S',o1,o2,o3,o4,o5,o6⟩,hk1,hk2⟩:=hK
 obtain⟨S2,n1,n2,n3⟩:=hN
 have hg0:wr.grownBy w none:=⟨n3.os,n3.tape,n3.output,n3.size,fun k hk _=>n3.block k hk (by simp)⟩
 have own:=o1.kept hg0 (by cases hv:v.ownBlock<;>simp)
 have hmul:(n+1) * bytes<=1048577 * 65536:=Nat.mul_le_mul h63 hb
 refine wpList_append_own_at w hgd s x t ho w0.heap.size e i z size bytes ht hi hz hsi hby hzs hsz v n xs hs own ⟨g,0,none⟩ 1 c us hx (by rw [hl,Nat.one_mul]) (fun j u hj=>by
  have hadd:(⟨g,0,none⟩:Addr).add j=⟨g,j,none⟩:=by unfold Addr.add;split<;>simp_all
  rw [hadd];exact hnews j u hj) h1 (by unfold maxLen;omega) (by omega) (Nat.le_trans o6.size n3.size) (fun v' w' p1 p2 _ p4=>?_)
 have hown:∀k,v.ownBlock=some k->w0.heap.size<=k/\k<wr.heap.size:=fun k hk=>o1.lt k hk
 have hchg:Chg (match v.ownBlock with|some k=>[k] |none=>[]) w w':=⟨p2.os,p2.tape,p2.output,p2.size,fun k hk hn=>p2.block k hk (fun e=>by rw [<-e] at hn;simp at hn)⟩
 have hdis:∀y,y∈S'++S2->y∉(match v.ownBlock with|some k=>[k] |none=>[]):=by
  intro y hy hyk
  cases hv:v.ownBlock with
  |none=>rw [hv] at hyk;simp at hyk
  |some k=>
   rw [hv] at hyk
   simp at hyk
   subst hyk
   rcases List.mem_append.1 hy with hy|hy
   ·exact o5 y hv hy
   ·have:=n2 y hy;have:=(hown y hv).2;omega
 have hL:OwnL w' (ds++dsE) (xs++us) (S'++S2):=OwnL.keep hchg _ _ _ hdis (OwnL.append (OwnL.keep n3 ds xs S' (by simp) o2) n1.1)
 have hApp:App w0 w' e size v' (n+1) (ds++dsE):=by
  refine⟨xs++us,S'++S2,p1,hL,List.nodup_append.2 ⟨o3,n1.2,fun y hy y' hy' ee=>?_⟩,fun y hy=>?_,fun k hk hkS=>?_,?_⟩
  ·subst ee
   have:=OwnL.lt _ _ _ o2 y hy;have:=n2 y hy';omega
  ·rcases List.mem_append.1 hy with hy|hy
   ·exact o4 y hy
   ·have:=n2 y hy;have:=o6.size;omega
  ·rcases p4 with p4|p4
   ·exact hdis k hkS (by rw [<-p4,hk];simp)
   ·rw [p4] at hk
    injection hk with hk
    subst hk
    rcases List.mem_append.1 hkS with hy|hy
    ·have:=OwnL.lt _ _ _ o2 _ hy;have:=n3.size;omega
    ·have:=n1.lt _ hy;omega
  ·refine(o6.trans0 n3).trans hchg (fun y hy=>?_)
   cases hv:v.ownBlock with
   |none=>rw [hv] at hy;simp at hy
   |some k=>rw [hv] at hy;simp at hy;subst hy;exact .inr (hown _ hv).1
 have hKK:AppK w0 w' e size v' (n+1) (ds++dsE) dk uk Sk:=by
  refine⟨hApp,(hk1.keep0 n3).keep hchg (fun x hx hx2=>?_),fun k hk hkS=>?_⟩
  ·cases hv:v.ownBlock with
   |none=>rw [hv] at hx2;simp at hx2
   |some k=>
    rw [hv] at hx2
    simp at hx2
    subst hx2
    exact hk2 _ hv hx
  ·rcases p4 with p4|p4
   ·rw [p4] at hk;exact hk2 k hk hkS
   ·rw [p4] at hk
    injection hk with hk
    subst hk
    have:=hk1.lt _ hkS;have:=n3.size;omega
 obtain⟨A',cap',rfl⟩:=hApp.form
 exact h A' cap' w' hKK

end Go.Proofs.YtjigcplpkhpgnaaGreatDoor
