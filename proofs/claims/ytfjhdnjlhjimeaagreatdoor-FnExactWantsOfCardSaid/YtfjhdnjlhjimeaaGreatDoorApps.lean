/- A slice of one's own that grows by append. Conditions: as stated. -/
import Derived.Test.YtfjhdnjlhjimeaaGreatDoorTypes
import Derived.Maps.AppendAt
namespace Go.Proofs.YtfjhdnjlhjimeaaGreatDoor
open Go.RowKit

def Yo (w0 w:World) (e:TypeId) (size:Nat) (v:Value) (n:Nat) (ds:List QD):Prop:=
 ∃xs S',w.ownsRow w0.heap.size e size v n xs/\Qt w ds xs S'/\S'.Nodup/\(∀x,x∈S'->w0.heap.size<=x)/\(∀g,v.ownBlock=some g->g∉S')/\Qc [] w0 w

theorem Yo.chg {w0 w:World} {e:TypeId} {size n:Nat} {v:Value} {ds:List QD} (h:Yo w0 w e size v n ds):Qc [] w0 w:=by
 obtain⟨_,_,_,_,_,_,_,h⟩:=h
 exact h
theorem Yo.nil (w0:World) (e:TypeId) (size:Nat) {w:World} (h:Qc [] w0 w):Yo w0 w e size (.slice none 0 0) 0 []:=
 ⟨[],[],World.ownsRow_nil _ _ _ _,by rw [Qt];exact⟨rfl,rfl⟩,O9,by simp,by simp,h⟩
theorem Yo.empty (w0:World) (e:TypeId) (size:Nat) {w:World} (h:Qc [] w0 w):Yo w0 (w.alloc (.cells #[] e)) e size (.slice (some ⟨w.heap.size,0,none⟩) 0 0) 0 []:=
 ⟨[],[],World.ownsRow_made w #[] 0 h.size (by simp [maxLen]) (by simp),by rw [Qt];exact⟨rfl,rfl⟩,O9,by simp,by simp,h.alloc _⟩
theorem Yo.later {w0 w w':World} {e:TypeId} {size n:Nat} {v:Value} {ds:List QD} (h:Yo w0 w e size v n ds) (hc:Qc [] w w'):Yo w0 w' e size v n ds:=by
 obtain⟨xs,S',h1,h2,h3,h4,h5,h6⟩:=h
 have hg:w.grownBy w' none:=⟨hc.os,hc.tape,hc.output,hc.size,fun k hk _=>hc.block k hk (by simp)⟩
 exact⟨xs,S',h1.kept hg (by cases hv:v.ownBlock<;>simp),Y8 hc ds xs S' (by simp) h2,h3,h4,h5,h6.tz hc⟩
theorem Yo.new {w0 w:World} {e:TypeId} {size n:Nat} {v:Value} {ds:List QD} (h:Yo w0 w e size v n ds):qt w0 w (.s n ds) v:=by
 obtain⟨xs,S',h1,h2,h3,h4,h5,h6⟩:=h
 have hl:=Qt.length _ _ _ h2
 rcases h1.2 with ⟨rfl,rfl⟩|⟨g,cap,cur,rfl,hg,hh,hn,hm,hs,ht⟩
 ·have hxs:xs=[]:=I6 (by rw [h1.1];simp)
  subst hxs
  have hds:ds=[]:=I6 (by simpa using hl.symm)
  subst hds
  exact⟨[],⟨by rw [Yb];exact .inl ⟨rfl,rfl,rfl,rfl⟩,O9⟩,by simp,h6⟩
 ·refine⟨g::S',⟨?_,U6.2 ⟨h5 g rfl,h3⟩⟩,fun x hx=>?_,h6⟩
  ·rw [Yb]
   exact .inr ⟨g,cap,cur,e,xs,S',rfl,hn,hm,hh,by rw [<-hl,h1.1];exact ht,hl,h2,rfl⟩
  ·rcases C7.1 hx with rfl|hx
   ·exact hg
   ·exact h4 x hx
theorem Yo.form {w0 w:World} {e:TypeId} {size n:Nat} {v:Value} {ds:List QD} (h:Yo w0 w e size v n ds):∃A cap,v= .slice A n cap:=by
 obtain⟨xs,S',h1,_⟩:=h
 rcases h1.2 with ⟨rfl,rfl⟩|⟨g,cap,cur,rfl,_⟩
 ·exact⟨none,0,rfl⟩
 ·exact⟨_,cap,rfl⟩

theorem ZN {P:Program} {w:World} {ops:Array Oper} {rest:List Oper} {o:Oper} {a:Act} {Q:Exit->Act->World->Prop} (hgd:o.guard=none) (s x:Operand) (t:TypeId)
  (ho:o.op= .call {callee:=.builtin .append,args:= #[s,x],argTypes:= #[t,t] })
  (e:TypeId) (z:Value) (size bytes:Nat) (ht:P.underlying t=some (.slice e)) (hinfo:(P.info? e).map (fun i=>(i.zero,i.size,i.bytes))=some (some z,size,bytes)) (hzs:z.cells.size=size) (hsz:0<size)
  {w0 wr:World} {v:Value} {n:Nat} {ds dsE:List QD} {us:List Value} (hA:Yo w0 wr e size v n ds) (hN:YW wr w dsE us) (hs:a.eval s=v)
  (g c:Nat) (hx:a.eval x= .slice (some ⟨g,0,none⟩) 1 c) (hl:us.length=size) (hnews:∀j u,us[j]?=some u->w.cell? ⟨g,j,none⟩=some u) (h1:∀u∈us,u.oneCell'=true)
  (h63:n+1<=1048577) (hb:bytes<=65536)
  (h:∀A' cap' w',Yo w0 w' e size (.slice A' (n+1) cap') (n+1) (ds++dsE)->wpList P ops Q rest (a.put o.dst (.slice A' (n+1) cap')) w'):wpList P ops Q (o::rest) a w:=by
 obtain⟨i,hi,hzz⟩:=O0.1 hinfo
 simp only [Prod.mk.injEq] at hzz
 obtain⟨hz,hsi,hby⟩:=hzz
 obtain⟨xs,S',o1,o2,o3,o4,o5,o6⟩:=hA
 obtain⟨S2,n1,n2,n3⟩:=hN
 have hg0:wr.grownBy w none:=⟨n3.os,n3.tape,n3.output,n3.size,fun k hk _=>n3.block k hk (by simp)⟩
 have own:=o1.kept hg0 (by cases hv:v.ownBlock<;>simp)
 have hmul:(n+1) * bytes<=1048577 * 65536:=V9 h63 hb
 refine wpList_append_own_at w hgd s x t ho w0.heap.size e i z size bytes ht hi hz hsi hby hzs hsz v n xs hs own ⟨g,0,none⟩ 1 c us hx (by rw [hl,Nat.one_mul]) (fun j u hj=>by
  have hadd:(⟨g,0,none⟩:Addr).add j=⟨g,j,none⟩:=by unfold Addr.add;split<;>simp_all
  rw [hadd];exact hnews j u hj) h1 (by unfold maxLen;omega) (by omega) (G5 o6.size n3.size) (fun v' w' p1 p2 _ p4=>?_)
 have hown:∀k,v.ownBlock=some k->w0.heap.size<=k/\k<wr.heap.size:=fun k hk=>o1.lt k hk
 have hchg:Qc (match v.ownBlock with|some k=>[k] |none=>[]) w w':=⟨p2.os,p2.tape,p2.output,p2.size,fun k hk hn=>p2.block k hk (fun e=>by rw [<-e] at hn;simp at hn)⟩
 have hdis:∀y,y∈S'++S2->y∉(match v.ownBlock with|some k=>[k] |none=>[]):=by
  intro y hy hyk
  cases hv:v.ownBlock with
  |none=>rw [hv] at hyk;simp at hyk
  |some k=>
   rw [hv] at hyk
   simp at hyk
   subst hyk
   rcases F4.1 hy with hy|hy
   ·exact o5 y hv hy
   ·have:=n2 y hy;have:=(hown y hv).2;omega
 have hL:Qt w' (ds++dsE) (xs++us) (S'++S2):=Y8 hchg _ _ _ hdis (Qt.append (Y8 n3 ds xs S' (by simp) o2) n1.1)
 have hApp:Yo w0 w' e size v' (n+1) (ds++dsE):=by
  refine⟨xs++us,S'++S2,p1,hL,L1.2 ⟨o3,n1.2,fun y hy y' hy' ee=>?_⟩,fun y hy=>?_,fun k hk hkS=>?_,?_⟩
  ·subst ee
   have:=Qt.lt _ _ _ o2 y hy;have:=n2 y hy';omega
  ·rcases F4.1 hy with hy|hy
   ·exact o4 y hy
   ·have:=n2 y hy;have:=o6.size;omega
  ·rcases p4 with p4|p4
   ·exact hdis k hkS (by rw [<-p4,hk];simp)
   ·rw [p4] at hk
    injection hk with hk
    subst hk
    rcases F4.1 hkS with hy|hy
    ·have:=Qt.lt _ _ _ o2 _ hy;have:=n3.size;omega
    ·have:=n1.lt _ hy;omega
  ·refine(o6.tz n3).trans hchg (fun y hy=>?_)
   cases hv:v.ownBlock with
   |none=>rw [hv] at hy;simp at hy
   |some k=>rw [hv] at hy;simp at hy;subst hy;exact .inr (hown _ hv).1
 obtain⟨A',cap',rfl⟩:=hApp.form
 exact h A' cap' w' hApp

theorem Rd.plain {w:World} {B n:Nat} {us:List Value} {u:Value} (h:Rd w B (.s n (us.map QD.v)) u):∃A cap,u= .slice A n cap/\n<=cap/\cap<=maxLen/\
  (us≠ [] ->∃b off,A=some ⟨b,off,none⟩/\b<B/\∀j x,us[j]?=some x->w.cell? ⟨b,off+j,none⟩=some x):=by
 obtain⟨A,cap,e,h0,h1,hx⟩:=h.at_
 refine⟨A,cap,e,h0,h1,fun hne=>?_⟩
 obtain⟨b,off,e2,hb,hc⟩:=hx (by simpa using hne)
 refine⟨b,off,e2,hb,fun j x hj=>?_⟩
 obtain⟨y,hy,hd⟩:=hc j (.v x) (by simp [hj])
 rw [Rd] at hd
 rw [hy,hd]
theorem Qt.plainN (w:World):∀us:List Value,Qt w (us.map QD.v) us []
 | []=>by simp [Qt]
 |u::us=>by
  rw [I9,Qt]
  exact⟨u,us,[],[],rfl,rfl,by simp [Yb],Qt.plainN w us⟩
theorem xt {P:Program} (w:World) (t ty e:TypeId) (i:TypeInfo) (ht:P.underlying t=some (.slice e)) (hi:P.info? e=some i) (A:Option Addr) (n cap c:Nat) (hn:n<=cap):
  (Builtin.append_ #[t,t] ty #[.slice A n cap,.slice none 0 c]).run P w= .ok (.slice A n cap) w:=by
 cases A<;>simp [Builtin.append_,run_underlying ht,sizeOf,typeInfo,hi,Builtin.lenOf,Builtin.firstCells,hn,storeCells]

def Ub (v:Value):List Nat:=match v.ownBlock with|some k=>[k] |none=>[]
theorem zd {P:Program} {w:World} (t ty e:TypeId) (z:Value) (size bytes:Nat) (ht:P.underlying t=some (.slice e)) (hinfo:(P.info? e).map (fun i=>(i.zero,i.size,i.bytes))=some (some z,size,bytes)) (hzs:z.cells.size=size) (hsz:0<size)
  {w0 wr:World} {v:Value} {n:Nat} {ds dsE:List QD} {us:List Value} (hA:Yo w0 wr e size v n ds) (hN:YW wr w dsE us)
  (ad:Addr) (m c:Nat) (hl:us.length=m * size) (hnews:∀j u,us[j]?=some u->w.cell? (ad.add j)=some u) (h1:∀u∈us,u.oneCell'=true)
  (h63:n+m<=1048577) (hb:bytes<=65536):
  ∃A' cap' w',(Builtin.append_ #[t,t] ty #[v,.slice (some ad) m c]).run P w= .ok (.slice A' (n+m) cap') w'/\Yo w0 w' e size (.slice A' (n+m) cap') (n+m) (ds++dsE)/\Qc (Ub v) w w'/\((Value.slice A' (n+m) cap').ownBlock=v.ownBlock∨(Value.slice A' (n+m) cap').ownBlock=some w.heap.size):=by
 obtain⟨i,hi,hzz⟩:=O0.1 hinfo
 simp only [Prod.mk.injEq] at hzz
 obtain⟨hz,hsi,hby⟩:=hzz
 obtain⟨xs,S',o1,o2,o3,o4,o5,o6⟩:=hA
 obtain⟨S2,n1,n2,n3⟩:=hN
 have hg0:wr.grownBy w none:=⟨n3.os,n3.tape,n3.output,n3.size,fun k hk _=>n3.block k hk (by simp)⟩
 have own:=o1.kept hg0 (by cases hv:v.ownBlock<;>simp)
 have hmul:(n+m) * bytes<=1048577 * 65536:=V9 h63 hb
 obtain⟨v',w',hr,p1,p2,_,p4⟩:=run_append_own_at (P:=P) w w0.heap.size t ty e i z size bytes ht hi hz hsi hby hzs hsz v n xs own ad m c us hl hnews h1 (by unfold maxLen;omega) (by omega) (G5 o6.size n3.size)
 have hown:∀k,v.ownBlock=some k->w0.heap.size<=k/\k<wr.heap.size:=fun k hk=>o1.lt k hk
 have hchg:Qc (match v.ownBlock with|some k=>[k] |none=>[]) w w':=⟨p2.os,p2.tape,p2.output,p2.size,fun k hk hn=>p2.block k hk (fun e=>by rw [<-e] at hn;simp at hn)⟩
 have hdis:∀y,y∈S'++S2->y∉(match v.ownBlock with|some k=>[k] |none=>[]):=by
  intro y hy hyk
  cases hv:v.ownBlock with
  |none=>rw [hv] at hyk;simp at hyk
  |some k=>
   rw [hv] at hyk
   simp at hyk
   subst hyk
   rcases F4.1 hy with hy|hy
   ·exact o5 y hv hy
   ·have:=n2 y hy;have:=(hown y hv).2;omega
 have hL:Qt w' (ds++dsE) (xs++us) (S'++S2):=Y8 hchg _ _ _ hdis (Qt.append (Y8 n3 ds xs S' (by simp) o2) n1.1)
 have hApp:Yo w0 w' e size v' (n+m) (ds++dsE):=by
  refine⟨xs++us,S'++S2,p1,hL,L1.2 ⟨o3,n1.2,fun y hy y' hy' ee=>?_⟩,fun y hy=>?_,fun k hk hkS=>?_,?_⟩
  ·subst ee
   have:=Qt.lt _ _ _ o2 y hy;have:=n2 y hy';omega
  ·rcases F4.1 hy with hy|hy
   ·exact o4 y hy
   ·have:=n2 y hy;have:=o6.size;omega
  ·rcases p4 with p4|p4
   ·exact hdis k hkS (by rw [<-p4,hk];simp)
   ·rw [p4] at hk
    injection hk with hk
    subst hk
    rcases F4.1 hkS with hy|hy
    ·have:=Qt.lt _ _ _ o2 _ hy;have:=n3.size;omega
    ·have:=n1.lt _ hy;omega
  ·refine(o6.tz n3).trans hchg (fun y hy=>?_)
   cases hv:v.ownBlock with
   |none=>rw [hv] at hy;simp at hy
   |some k=>rw [hv] at hy;simp at hy;subst hy;exact .inr (hown _ hv).1
 obtain⟨A',cap',rfl⟩:=hApp.form
 exact⟨A',cap',w',hr,hApp,hchg,p4⟩

theorem Zi {P:Program} {w:World} (t ty e:TypeId) (z:Value) (size bytes:Nat) (ht:P.underlying t=some (.slice e)) (hinfo:(P.info? e).map (fun i=>(i.zero,i.size,i.bytes))=some (some z,size,bytes)) (hzs:z.cells.size=size) (hsz:0<size)
  {w0 wr:World} {v:Value} {n:Nat} {ds:List QD} (hA:Yo w0 wr e size v n ds) (hcw:Qc [] wr w)
  (A2:Option Addr) (m c:Nat) (us:List Value) (hl:us.length=m * size) (hnews:us≠ [] ->∃b off,A2=some ⟨b,off,none⟩/\∀j u,us[j]?=some u->w.cell? ⟨b,off+j,none⟩=some u) (h1:∀u∈us,u.oneCell'=true)
  (h63:n+m<=1048577) (hb:bytes<=65536):
  ∃A' cap' w',(Builtin.append_ #[t,t] ty #[v,.slice A2 m c]).run P w= .ok (.slice A' (n+m) cap') w'/\Yo w0 w' e size (.slice A' (n+m) cap') (n+m) (ds++us.map QD.v)/\Qc (Ub v) w w'/\((Value.slice A' (n+m) cap').ownBlock=v.ownBlock∨(Value.slice A' (n+m) cap').ownBlock=some w.heap.size):=by
 cases A2 with
 | none=>
  have hu:us=[]:=by
   by_cases hu:us=[]
   ·exact hu
   ·obtain⟨b,off,e2,_⟩:=hnews hu
    cases e2
  subst hu
  have hm:m=0:=by
   rcases Nat.mul_eq_zero.1 hl.symm with h0|h0
   ·exact h0
   ·omega
  subst hm
  have hAw:=hA.later hcw
  obtain⟨Av,cv,rfl⟩:=hA.form
  have hncap:n<=cv:=by
   obtain⟨xs,S',o1,_⟩:=hA
   rcases o1.2 with ⟨h2,h3⟩|⟨g,cap,cur,h2,_,_,h3,_⟩
   ·cases h2;omega
   ·cases h2;exact h3
  obtain⟨i,hi,_⟩:=O0.1 hinfo
  exact⟨Av,cv,w,xt (P:=P) w t ty e i ht hi Av n cv c hncap,by simpa using hAw,B0 _ _,.inl rfl⟩
 | some ad=>
  refine zd t ty e z size bytes ht hinfo hzs hsz hA (dsE:=us.map QD.v) (us:=us) ⟨[],⟨Qt.plainN w us,O9⟩,by simp,hcw⟩ ad m c hl (fun j u hj=>?_) h1 h63 hb
  have hne:us≠ []:=by
   rintro rfl
   simp at hj
  obtain⟨b,off,e2,hc⟩:=hnews hne
  cases e2
  have hadd:(⟨b,off,none⟩:Addr).add j=⟨b,off+j,none⟩:=by unfold Addr.add;split<;>simp_all
  rw [hadd]
  exact hc j u hj
theorem Vv {P:Program} {w:World} {ops:Array Oper} {rest:List Oper} {o:Oper} {a:Act} {Q:Exit->Act->World->Prop} (hgd:o.guard=none) (s x:Operand) (t:TypeId)
  (ho:o.op= .call {callee:=.builtin .append,args:= #[s,x],argTypes:= #[t,t] })
  {v:Value} (hs:a.eval s=v) {A2:Option Addr} {m c:Nat} (hx:a.eval x= .slice A2 m c)
  {R:Option Addr->Nat->World->Prop} {N:Nat} (hrun:∃A' cap' w',(Builtin.append_ #[t,t] o.type #[v,.slice A2 m c]).run P w= .ok (.slice A' N cap') w'/\R A' cap' w')
  (h:∀A' cap' w',R A' cap' w'->wpList P ops Q rest (a.put o.dst (.slice A' N cap')) w'):wpList P ops Q (o::rest) a w:=by
 obtain⟨A',cap',w',hr,hR⟩:=hrun
 refine wpList_plain hgd fun K hK=>?_
 unfold Oper.wp execOp
 simp only [ho,resolve,invoke,builtin,Sem.run_bind,Sem.run_pure,Result.andThen_ok,List.map_toArray,I9,O2,hs,hx,hr]
 exact hK _ _ (h _ _ _ hR)
theorem Zv {P:Program} {ops:Array Oper} {o:Oper} {a:Act} {w:World} {K:Act->World->Prop} {Q:Exit->Act->World->Prop} {E:Prop} (hg:o.guard=none) (s x:Operand) (t:TypeId)
  (ho:o.op= .call {callee:=.builtin .append,args:= #[s,x],argTypes:= #[t,t] })
  {v:Value} (hs:a.eval s=v) {A2:Option Addr} {m c:Nat} (hx:a.eval x= .slice A2 m c)
  {R:Option Addr->Nat->World->Prop} {N:Nat} (hrun:∃A' cap' w',(Builtin.append_ #[t,t] o.type #[v,.slice A2 m c]).run P w= .ok (.slice A' N cap') w'/\R A' cap' w')
  (hK:∀A' cap' w',R A' cap' w'->K (a.put o.dst (.slice A' N cap')) w'):
  if Region.wanted o (yielded ops a.tmps)=true then Oper.wp P o a w K Q else E:=by
 have hw:Region.wanted o (yielded ops a.tmps)=true:=by simp [Region.wanted,hg]
 rw [if_pos hw]
 obtain⟨A',cap',w',hr,hR⟩:=hrun
 unfold Oper.wp
 simp [execOp,ho,resolve,invoke,builtin,hs,hx,hr,Result.andThen]
 exact hK _ _ _ hR
theorem Yo.out {w w0 w2 w3:World} {g:Nat} {e:TypeId} {size n:Nat} {v:Value} {ds:List QD} (h:Yo w0 w2 e size v n ds) (h0:Qc [] w w0) (hc:Qc [g] w2 w3) (hg:w.heap.size<=g) (hg0:g<w0.heap.size):Yo w w3 e size v n ds:=by
 obtain⟨xs,S',h1,h2,h3,h4,h5,h6⟩:=h
 have hlow:=fun k hk=>(h1.lt k hk).1
 have hgr:w2.grownBy w3 (some g):=⟨hc.os,hc.tape,hc.output,hc.size,fun k hk hn=>hc.block k hk (by simp;intro e;exact hn (by rw [e]))⟩
 have h1':w3.ownsRow w0.heap.size e size v n xs:=h1.kept hgr (.inr (fun e'=>by have:=hlow g e';omega))
 have hlo:w3.ownsRow w.heap.size e size v n xs:=⟨h1'.1,h1'.2.imp id (fun⟨g',cap,cur,a,b,r⟩=>⟨g',cap,cur,a,G5 h0.size b,r⟩)⟩
 exact⟨xs,S',hlo,Y8 hc ds xs S' (fun x hx=>by simp;rintro rfl;have:=h4 x hx;omega) h2,h3,fun x hx=>G5 h0.size (h4 x hx),h5,(h0.tz h6).trans hc (by simp;omega)⟩
theorem Yp.out {w2 w3 w0:World} {g:Nat} {d:QD} {u:Value} {S:List Nat} (h:Yp w2 d u S) (hS:∀x,x∈S->w0.heap.size<=x) (hc:Qc [g] w2 w3) (hg0:g<w0.heap.size):Yp w3 d u S:=
 h.keep hc (fun x hx=>by simp;rintro rfl;have:=hS x hx;omega)
theorem Zm.one {w:World} {d:QD} {u:Value} {S:List Nat} (h:Yp w d u S):Zm w [d] [u] S:=⟨by rw [Qt];exact⟨u,[],S,[],rfl,by simp,h.1,by rw [Qt];exact⟨rfl,rfl⟩⟩,h.2⟩
theorem Qt.plain_nil {w:World}:∀ {us xs:List Value} {S:List Nat},Qt w (us.map QD.v) xs S->S=[]
 | [],xs,S,h=>by rw [O2,Qt] at h;exact h.2
 |u::us,xs,S,h=>by
  rw [I9,Qt] at h
  obtain⟨u',us',S1,S2,rfl,rfl,h1,h2⟩:=h
  rw [Yb] at h1
  rw [h1.2,Qt.plain_nil h2]
  rfl
theorem Yo.has {w0 w:World} {e:TypeId} {size n:Nat} {v:Value} {us:List Value} (h:Yo w0 w e size v n (us.map QD.v)):Yp w (.s n (us.map QD.v)) v (Ub v)/\∀x,x∈Ub v->w0.heap.size<=x:=by
 obtain⟨S,h1,h2,_⟩:=h.new
 have hS:S=Ub v:=by
  rcases h1.cases_ with ⟨rfl,_,_,rfl⟩|⟨g,cap,S',rfl,_,_,rfl,_⟩
  ·rfl
  ·have ho:=h1.1
   rw [Yb] at ho
   rcases ho with ⟨h0,_⟩|⟨g',cap',cur,e',us',S'',e1,_,_,_,_,_,hl,e2⟩
   ·simp at h0
   ·have:=Qt.plain_nil hl
    subst this
    simp only [List.cons.injEq] at e2
    rw [e2.2]
    rfl
 subst hS
 exact⟨h1,h2⟩
def ug (w0 w:World) (e:TypeId) (size:Nat) (v:Value) (n:Nat) (ds:List QD) (d:QD) (u:Value) (S:List Nat):Prop:=
 Yo w0 w e size v n ds/\Yp w d u S/\∀k,v.ownBlock=some k->k∉S
theorem ug.later {w0 w w':World} {e:TypeId} {size n:Nat} {v:Value} {ds:List QD} {d:QD} {u:Value} {S:List Nat} (h:ug w0 w e size v n ds d u S) (hc:Qc [] w w'):ug w0 w' e size v n ds d u S:=
 ⟨h.1.later hc,h.2.1.kz hc,h.2.2⟩
theorem ug.start {w0 w w':World} {e:TypeId} {size n:Nat} {v:Value} {ds:List QD} {d:QD} {u:Value} (h:Yo w0 w e size v n ds) (hn:qt w w' d u):∃S,ug w0 w' e size v n ds d u S:=by
 obtain⟨S,h1,h2,h3⟩:=hn
 refine⟨S,h.later h3,h1,fun k hk hkS=>?_⟩
 have:=h2 k hkS
 obtain⟨xs,S',o1,_⟩:=h
 have:=o1.lt k hk
 omega
theorem Qal {P:Program} {w:World} {ops:Array Oper} {rest:List Oper} {o:Oper} {a:Act} {Q:Exit->Act->World->Prop} (hgd:o.guard=none) (s x:Operand) (t:TypeId)
  (ho:o.op= .call {callee:=.builtin .append,args:= #[s,x],argTypes:= #[t,t] })
  (e:TypeId) (z:Value) (size bytes:Nat) (ht:P.underlying t=some (.slice e)) (hinfo:(P.info? e).map (fun i=>(i.zero,i.size,i.bytes))=some (some z,size,bytes)) (hzs:z.cells.size=size) (hsz:0<size)
  {w0 wr:World} {v:Value} {n:Nat} {ds dsE:List QD} {us:List Value} {dk:QD} {uk:Value} {Sk:List Nat} (hK:ug w0 wr e size v n ds dk uk Sk) (hN:YW wr w dsE us) (hs:a.eval s=v)
  (g c:Nat) (hx:a.eval x= .slice (some ⟨g,0,none⟩) 1 c) (hl:us.length=size) (hnews:∀j u,us[j]?=some u->w.cell? ⟨g,j,none⟩=some u) (h1:∀u∈us,u.oneCell'=true)
  (h63:n+1<=1048577) (hb:bytes<=65536)
  (h:∀A' cap' w',ug w0 w' e size (.slice A' (n+1) cap') (n+1) (ds++dsE) dk uk Sk->wpList P ops Q rest (a.put o.dst (.slice A' (n+1) cap')) w'):wpList P ops Q (o::rest) a w:=by
 obtain⟨i,hi,hzz⟩:=O0.1 hinfo
 simp only [Prod.mk.injEq] at hzz
 obtain⟨hz,hsi,hby⟩:=hzz
 obtain⟨⟨xs,S',o1,o2,o3,o4,o5,o6⟩,hk1,hk2⟩:=hK
 obtain⟨S2,n1,n2,n3⟩:=hN
 have hg0:wr.grownBy w none:=⟨n3.os,n3.tape,n3.output,n3.size,fun k hk _=>n3.block k hk (by simp)⟩
 have own:=o1.kept hg0 (by cases hv:v.ownBlock<;>simp)
 have hmul:(n+1) * bytes<=1048577 * 65536:=V9 h63 hb
 refine wpList_append_own_at w hgd s x t ho w0.heap.size e i z size bytes ht hi hz hsi hby hzs hsz v n xs hs own ⟨g,0,none⟩ 1 c us hx (by rw [hl,Nat.one_mul]) (fun j u hj=>by
  have hadd:(⟨g,0,none⟩:Addr).add j=⟨g,j,none⟩:=by unfold Addr.add;split<;>simp_all
  rw [hadd];exact hnews j u hj) h1 (by unfold maxLen;omega) (by omega) (G5 o6.size n3.size) (fun v' w' p1 p2 _ p4=>?_)
 have hown:∀k,v.ownBlock=some k->w0.heap.size<=k/\k<wr.heap.size:=fun k hk=>o1.lt k hk
 have hchg:Qc (match v.ownBlock with|some k=>[k] |none=>[]) w w':=⟨p2.os,p2.tape,p2.output,p2.size,fun k hk hn=>p2.block k hk (fun e=>by rw [<-e] at hn;simp at hn)⟩
 have hdis:∀y,y∈S'++S2->y∉(match v.ownBlock with|some k=>[k] |none=>[]):=by
  intro y hy hyk
  cases hv:v.ownBlock with
  |none=>rw [hv] at hyk;simp at hyk
  |some k=>
   rw [hv] at hyk
   simp at hyk
   subst hyk
   rcases F4.1 hy with hy|hy
   ·exact o5 y hv hy
   ·have:=n2 y hy;have:=(hown y hv).2;omega
 have hL:Qt w' (ds++dsE) (xs++us) (S'++S2):=Y8 hchg _ _ _ hdis (Qt.append (Y8 n3 ds xs S' (by simp) o2) n1.1)
 have hApp:Yo w0 w' e size v' (n+1) (ds++dsE):=by
  refine⟨xs++us,S'++S2,p1,hL,L1.2 ⟨o3,n1.2,fun y hy y' hy' ee=>?_⟩,fun y hy=>?_,fun k hk hkS=>?_,?_⟩
  ·subst ee
   have:=Qt.lt _ _ _ o2 y hy;have:=n2 y hy';omega
  ·rcases F4.1 hy with hy|hy
   ·exact o4 y hy
   ·have:=n2 y hy;have:=o6.size;omega
  ·rcases p4 with p4|p4
   ·exact hdis k hkS (by rw [<-p4,hk];simp)
   ·rw [p4] at hk
    injection hk with hk
    subst hk
    rcases F4.1 hkS with hy|hy
    ·have:=Qt.lt _ _ _ o2 _ hy;have:=n3.size;omega
    ·have:=n1.lt _ hy;omega
  ·refine(o6.tz n3).trans hchg (fun y hy=>?_)
   cases hv:v.ownBlock with
   |none=>rw [hv] at hy;simp at hy
   |some k=>rw [hv] at hy;simp at hy;subst hy;exact .inr (hown _ hv).1
 have hKK:ug w0 w' e size v' (n+1) (ds++dsE) dk uk Sk:=by
  refine⟨hApp,(hk1.kz n3).keep hchg (fun x hx hx2=>?_),fun k hk hkS=>?_⟩
  ·cases hv:v.ownBlock with
   |none=>rw [hv] at hx2;simp at hx2
   |some k=>
    rw [hv] at hx2
    simp at hx2
    subst hx2
    exact hk2 _ hv hx
  ·rcases p4 with p4|p4
   ·rw [p4] at hk;exact hk2 k hk hkS
   ·rw [p4] at hk
    injection hk with hk
    subst hk
    have:=hk1.lt _ hkS;have:=n3.size;omega
 obtain⟨A',cap',rfl⟩:=hApp.form
 exact h A' cap' w' hKK

theorem xa {P:Program} {w:World} {ops:Array Oper} {rest:List Oper} {o:Oper} {a:Act} {Q:Exit->Act->World->Prop} (hgd:o.guard=none) (s x:Operand) (t:TypeId)
  (ho:o.op= .call {callee:=.builtin .append,args:= #[s,x],argTypes:= #[t,t] })
  (e:TypeId) (z:Value) (size bytes:Nat) (ht:P.underlying t=some (.slice e)) (hinfo:(P.info? e).map (fun i=>(i.zero,i.size,i.bytes))=some (some z,size,bytes)) (hzs:z.cells.size=size) (hsz:0<size)
  {w0 wr:World} {v:Value} {n:Nat} {ds dsE:List QD} {us:List Value} (hA:Yo w0 wr e size v n ds) (hN:YW wr w dsE us) (hs:a.eval s=v)
  (g c:Nat) (hx:a.eval x= .slice (some ⟨g,0,none⟩) 1 c) (hl:us.length=size) (hnews:∀j u,us[j]?=some u->w.cell? ⟨g,j,none⟩=some u) (h1:∀u∈us,u.oneCell'=true)
  (h63:n+1<=1048577) (hb:bytes<=65536)
  (h:∀A' cap' w',Yo w0 w' e size (.slice A' (n+1) cap') (n+1) (ds++dsE)->(w.heap.size<=w'.heap.size/\∀g,wr.heap.size<=g->g<w.heap.size->∀o,w'.cell? ⟨g,o,none⟩=w.cell? ⟨g,o,none⟩)->wpList P ops Q rest (a.put o.dst (.slice A' (n+1) cap')) w'):wpList P ops Q (o::rest) a w:=by
 obtain⟨i,hi,hzz⟩:=O0.1 hinfo
 simp only [Prod.mk.injEq] at hzz
 obtain⟨hz,hsi,hby⟩:=hzz
 obtain⟨xs,S',o1,o2,o3,o4,o5,o6⟩:=hA
 obtain⟨S2,n1,n2,n3⟩:=hN
 have hg0:wr.grownBy w none:=⟨n3.os,n3.tape,n3.output,n3.size,fun k hk _=>n3.block k hk (by simp)⟩
 have own:=o1.kept hg0 (by cases hv:v.ownBlock<;>simp)
 have hmul:(n+1) * bytes<=1048577 * 65536:=V9 h63 hb
 refine wpList_append_own_at w hgd s x t ho w0.heap.size e i z size bytes ht hi hz hsi hby hzs hsz v n xs hs own ⟨g,0,none⟩ 1 c us hx (by rw [hl,Nat.one_mul]) (fun j u hj=>by
  have hadd:(⟨g,0,none⟩:Addr).add j=⟨g,j,none⟩:=by unfold Addr.add;split<;>simp_all
  rw [hadd];exact hnews j u hj) h1 (by unfold maxLen;omega) (by omega) (G5 o6.size n3.size) (fun v' w' p1 p2 _ p4=>?_)
 have hown:∀k,v.ownBlock=some k->w0.heap.size<=k/\k<wr.heap.size:=fun k hk=>o1.lt k hk
 have hchg:Qc (match v.ownBlock with|some k=>[k] |none=>[]) w w':=⟨p2.os,p2.tape,p2.output,p2.size,fun k hk hn=>p2.block k hk (fun e=>by rw [<-e] at hn;simp at hn)⟩
 have hstand:w.heap.size<=w'.heap.size/\∀g,wr.heap.size<=g->g<w.heap.size->∀o,w'.cell? ⟨g,o,none⟩=w.cell? ⟨g,o,none⟩:=⟨hchg.size,fun g hg1 hg2 o=>hchg.cell hg2 (fun hx=>by
  cases hv:v.ownBlock with
  |none=>rw [hv] at hx;simp at hx
  |some k=>rw [hv] at hx;simp at hx;have:=(hown k hv).2;omega)⟩
 have hdis:∀y,y∈S'++S2->y∉(match v.ownBlock with|some k=>[k] |none=>[]):=by
  intro y hy hyk
  cases hv:v.ownBlock with
  |none=>rw [hv] at hyk;simp at hyk
  |some k=>
   rw [hv] at hyk
   simp at hyk
   subst hyk
   rcases F4.1 hy with hy|hy
   ·exact o5 y hv hy
   ·have:=n2 y hy;have:=(hown y hv).2;omega
 have hL:Qt w' (ds++dsE) (xs++us) (S'++S2):=Y8 hchg _ _ _ hdis (Qt.append (Y8 n3 ds xs S' (by simp) o2) n1.1)
 have hApp:Yo w0 w' e size v' (n+1) (ds++dsE):=by
  refine⟨xs++us,S'++S2,p1,hL,L1.2 ⟨o3,n1.2,fun y hy y' hy' ee=>?_⟩,fun y hy=>?_,fun k hk hkS=>?_,?_⟩
  ·subst ee
   have:=Qt.lt _ _ _ o2 y hy;have:=n2 y hy';omega
  ·rcases F4.1 hy with hy|hy
   ·exact o4 y hy
   ·have:=n2 y hy;have:=o6.size;omega
  ·rcases p4 with p4|p4
   ·exact hdis k hkS (by rw [<-p4,hk];simp)
   ·rw [p4] at hk
    injection hk with hk
    subst hk
    rcases F4.1 hkS with hy|hy
    ·have:=Qt.lt _ _ _ o2 _ hy;have:=n3.size;omega
    ·have:=n1.lt _ hy;omega
  ·refine(o6.tz n3).trans hchg (fun y hy=>?_)
   cases hv:v.ownBlock with
   |none=>rw [hv] at hy;simp at hy
   |some k=>rw [hv] at hy;simp at hy;subst hy;exact .inr (hown _ hv).1
 obtain⟨A',cap',rfl⟩:=hApp.form
 exact h A' cap' w' hApp hstand
theorem yY {w w':World} {base:Nat} {e:TypeId} {size n:Nat} {v:Value} {xs:List Value} {T:List Nat} (h:w.ownsRow base e size v n xs) (hc:Qc T w w') (hT:∀x∈T,x<base):w'.ownsRow base e size v n xs:=by
 refine⟨h.1,h.2.imp id ?_⟩
 rintro⟨g,cap,cur,h1,h2,h3,h4⟩
 exact⟨g,cap,cur,h1,h2,(hc.block g (F5.1 h3).1 (fun hx=>by have:=hT g hx;omega)).trans h3,h4⟩
def Jn (T:List Nat) (w w':World) (d:QD) (u:Value):Prop:=∃S,Yp w' d u S/\(∀x,x∈S->w.heap.size<=x)/\Qc T w w'
theorem Jn.chg {T:List Nat} {w w':World} {d:QD} {u:Value} (h:Jn T w w' d u):Qc T w w':=h.elim fun _ x=>x.2.2
theorem VU.chg {T:List Nat} {w w':World} {ds:List QD} {us:List Value} (h:VU T w w' ds us):Qc T w w':=h.elim fun _ x=>x.2.2
theorem qt.newS {T:List Nat} {w w':World} {d:QD} {u:Value} (h:qt w w' d u):Jn T w w' d u:=h.elim fun S x=>⟨S,x.1,x.2.1,x.2.2.mono (by simp)⟩
theorem Jn.later {T:List Nat} {w w' w2:World} {d:QD} {u:Value} (h:Jn T w w' d u) (hc:Qc T w' w2) (hT:∀x∈T,x<w.heap.size):Jn T w w2 d u:=
 h.elim fun S x=>⟨S,x.1.keep hc (fun y hy hyT=>by have:=x.2.1 y hy;have:=hT y hyT;omega),x.2.1,x.2.2.trans hc (fun _ h=>.inl h)⟩
theorem Jn.sooner {T:List Nat} {w0 w w':World} {d:QD} {u:Value} (h:Jn T w w' d u) (hc:Qc T w0 w):Jn T w0 w' d u:=
 h.elim fun S x=>⟨S,x.1,fun y hy=>G5 hc.size (x.2.1 y hy),hc.trans x.2.2 (fun _ h=>.inl h)⟩
theorem VU.later {T:List Nat} {w w' w2:World} {ds:List QD} {us:List Value} (h:VU T w w' ds us) (hc:Qc T w' w2) (hT:∀x∈T,x<w.heap.size):VU T w w2 ds us:=
 h.elim fun S x=>⟨S,x.1.keep hc (fun y hy hyT=>by have:=x.2.1 y hy;have:=hT y hyT;omega),x.2.1,x.2.2.trans hc (fun _ h=>.inl h)⟩
theorem Jn.rd {T:List Nat} {w w':World} {d:QD} {u:Value} (h:Jn T w w' d u):Rd w' w'.heap.size d u:=h.elim fun _ x=>x.1.rd
theorem Jn.sl {T:List Nat} {n:Nat} {cs:List QD} {w w':World} {u:Value} (h:Jn T w w' (.s n cs) u):∃A cap,u= .slice A n cap:=by
 obtain⟨S,h1,_⟩:=h
 rcases h1.cases_ with ⟨rfl,rfl,_⟩|⟨g,cap,S',rfl,_⟩
 ·exact⟨none,0,rfl⟩
 ·exact⟨_,cap,rfl⟩
theorem Jn.elems {T:List Nat} {n:Nat} {cs:List QD} {w w':World} {g cap:Nat} (h:Jn T w w' (.s n cs) (.slice (some ⟨g,0,none⟩) n cap)):
  ∃us,VU T w w' cs us/\us.length=cs.length/\∀j u,us[j]?=some u->w'.cell? ⟨g,j,none⟩=some u:=by
 obtain⟨S,⟨h1,hn⟩,h2,h3⟩:=h
 rw [Yb] at h1
 rcases h1 with ⟨h0,_⟩|⟨g',cap',cur,e,us,S',h1,_,_,hg,h4,h5,hl,rfl⟩
 ·simp at h0
 ·simp only [Value.slice.injEq,O7,Addr.mk.injEq] at h1
  obtain⟨⟨rfl,_⟩,_,rfl⟩:=h1
  refine⟨us,⟨S',⟨hl,(U6.1 hn).2⟩,fun x hx=>h2 x (by simp [hx]),h3⟩,h5,fun j u hj=>?_⟩
  rw [cell_of_row w' g j cur e (0,0) hg]
  rw [<-h4,R8] at hj
  split at hj
  ·simpa using hj
  ·cases hj
theorem Qt.ones {w:World}:∀ {ds:List QD} {us:List Value} {S:List Nat},Qt w ds us S->(∀x,QD.v x∈ds->x.oneCell'=true)->∀u∈us,u.oneCell'=true
 | [],us,S,h,_=>by rw [Qt] at h;rw [h.1];simp
 | d::ds,us,S,h,hd=>by
  rw [Qt] at h
  obtain⟨u,us',S1,S2,rfl,rfl,h1,h2⟩:=h
  intro y hy
  rcases C7.1 hy with rfl|hy
  ·cases d with
   |v x=>rw [Yb] at h1;rw [h1.1];exact hd x (by simp)
   |s n cs=>
    rw [Yb] at h1
    rcases h1 with ⟨rfl,_⟩|⟨g,cap,cur,e,us2,S',rfl,_⟩<;>rfl
  ·exact Qt.ones h2 (fun x hx=>hd x (by simp [hx])) y hy

def W0 (T:List Nat) (w0 w:World) (e:TypeId) (size:Nat) (v:Value) (n:Nat) (ds:List QD):Prop:=
 ∃xs S',w.ownsRow w0.heap.size e size v n xs/\Qt w ds xs S'/\S'.Nodup/\(∀x,x∈S'->w0.heap.size<=x)/\(∀g,v.ownBlock=some g->g∉S')/\Qc T w0 w
section
variable {T:List Nat} {w0 w w':World} {e:TypeId} {size n:Nat} {v:Value} {ds:List QD}
theorem W0.chg (h:W0 T w0 w e size v n ds):Qc T w0 w:=by
 obtain⟨_,_,_,_,_,_,_,h⟩:=h
 exact h
theorem W0.empty (w0:World) (e:TypeId) (size:Nat) {w:World} (h:Qc T w0 w):W0 T w0 (w.alloc (.cells #[] e)) e size (.slice (some ⟨w.heap.size,0,none⟩) 0 0) 0 []:=
 ⟨[],[],World.ownsRow_made w #[] 0 h.size (by simp [maxLen]) (by simp),by rw [Qt];exact⟨rfl,rfl⟩,O9,by simp,by simp,h.alloc _⟩
theorem W0.later (h:W0 T w0 w e size v n ds) (hc:Qc T w w') (hT:∀x∈T,x<w0.heap.size):W0 T w0 w' e size v n ds:=by
 obtain⟨xs,S',h1,h2,h3,h4,h5,h6⟩:=h
 exact⟨xs,S',yY h1 hc hT,Y8 hc ds xs S' (fun x hx hxT=>by have:=h4 x hx;have:=hT x hxT;omega) h2,h3,h4,h5,h6.trans hc (fun _ h=>.inl h)⟩
theorem W0.new (h:W0 T w0 w e size v n ds):Jn T w0 w (.s n ds) v:=by
 obtain⟨xs,S',h1,h2,h3,h4,h5,h6⟩:=h
 have hl:=Qt.length _ _ _ h2
 rcases h1.2 with ⟨rfl,rfl⟩|⟨g,cap,cur,rfl,hg,hh,hn,hm,hs,ht⟩
 ·have hxs:xs=[]:=I6 (by rw [h1.1];simp)
  subst hxs
  have hds:ds=[]:=I6 (by simpa using hl.symm)
  subst hds
  exact⟨[],⟨by rw [Yb];exact .inl ⟨rfl,rfl,rfl,rfl⟩,O9⟩,by simp,h6⟩
 ·refine⟨g::S',⟨?_,U6.2 ⟨h5 g rfl,h3⟩⟩,fun x hx=>?_,h6⟩
  ·rw [Yb]
   exact .inr ⟨g,cap,cur,e,xs,S',rfl,hn,hm,hh,by rw [<-hl,h1.1];exact ht,hl,h2,rfl⟩
  ·rcases C7.1 hx with rfl|hx
   ·exact hg
   ·exact h4 x hx
theorem W0.form (h:W0 T w0 w e size v n ds):∃A cap,v= .slice A n cap:=by
 obtain⟨xs,S',h1,_⟩:=h
 rcases h1.2 with ⟨rfl,rfl⟩|⟨g,cap,cur,rfl,_⟩
 ·exact⟨none,0,rfl⟩
 ·exact⟨_,cap,rfl⟩
end
def Mid (a b:Nat) (w w':World):Prop:=∃S,Qc S w w'/\∀x∈S,a<=x/\x<b
theorem Mid.cell {a b:Nat} {w w':World} (h:Mid a b w w') {g:Nat} (hg:g<a∨b<=g) (hw:g<w.heap.size) (o:Nat):w'.cell? ⟨g,o,none⟩=w.cell? ⟨g,o,none⟩:=by
 obtain⟨S,hc,hS⟩:=h
 exact hc.cell hw (fun hx=>by have:=hS g hx;omega)
theorem Mid.size {a b:Nat} {w w':World} (h:Mid a b w w'):w.heap.size<=w'.heap.size:=h.elim fun _ x=>x.1.size
theorem Qd7 {P:Program} {T:List Nat} {w:World} (t ty e:TypeId) (z:Value) (size bytes:Nat) (ht:P.underlying t=some (.slice e)) (hinfo:(P.info? e).map (fun i=>(i.zero,i.size,i.bytes))=some (some z,size,bytes)) (hzs:z.cells.size=size) (hsz:0<size)
  {w0 wr:World} {v:Value} {n:Nat} {ds dsE:List QD} {us:List Value} (hA:W0 T w0 wr e size v n ds) (hT:∀x∈T,x<w0.heap.size) (hN:VU T wr w dsE us)
  (ad:Addr) (m c:Nat) (hl:us.length=m * size) (hnews:∀j u,us[j]?=some u->w.cell? (ad.add j)=some u) (h1:∀u∈us,u.oneCell'=true)
  (h63:n+m<=1048577) (hb:bytes<=65536):
  ∃A' cap' w',(Builtin.append_ #[t,t] ty #[v,.slice (some ad) m c]).run P w= .ok (.slice A' (n+m) cap') w'/\W0 T w0 w' e size (.slice A' (n+m) cap') (n+m) (ds++dsE)/\Mid w0.heap.size wr.heap.size w w':=by
 obtain⟨i,hi,hzz⟩:=O0.1 hinfo
 simp only [Prod.mk.injEq] at hzz
 obtain⟨hz,hsi,hby⟩:=hzz
 obtain⟨xs,S',o1,o2,o3,o4,o5,o6⟩:=hA
 obtain⟨S2,n1,n2,n3⟩:=hN
 have own:=yY o1 n3 hT
 have hmul:(n+m) * bytes<=1048577 * 65536:=V9 h63 hb
 obtain⟨v',w',hr,p1,p2,_,p4⟩:=run_append_own_at (P:=P) w w0.heap.size t ty e i z size bytes ht hi hz hsi hby hzs hsz v n xs own ad m c us hl hnews h1 (by unfold maxLen;omega) (by omega) (G5 o6.size n3.size)
 have hown:∀k,v.ownBlock=some k->w0.heap.size<=k/\k<wr.heap.size:=fun k hk=>o1.lt k hk
 have hchg:Qc (match v.ownBlock with|some k=>[k] |none=>[]) w w':=⟨p2.os,p2.tape,p2.output,p2.size,fun k hk hn=>p2.block k hk (fun e=>by rw [<-e] at hn;simp at hn)⟩
 have hdis:∀y,y∈S'++S2->y∉(match v.ownBlock with|some k=>[k] |none=>[]):=by
  intro y hy hyk
  cases hv:v.ownBlock with
  |none=>rw [hv] at hyk;simp at hyk
  |some k=>
   rw [hv] at hyk
   simp at hyk
   subst hyk
   rcases F4.1 hy with hy|hy
   ·exact o5 y hv hy
   ·have:=n2 y hy;have:=(hown y hv).2;omega
 have hL:Qt w' (ds++dsE) (xs++us) (S'++S2):=Y8 hchg _ _ _ hdis (Qt.append (Y8 n3 ds xs S' (fun x hx hxT=>by have:=o4 x hx;have:=hT x hxT;omega) o2) n1.1)
 have hmid:∀x∈(match v.ownBlock with|some k=>[k] |none=>[]),w0.heap.size<=x/\x<wr.heap.size:=by
  intro x hx
  cases hv:v.ownBlock with
  |none=>rw [hv] at hx;simp at hx
  |some k=>rw [hv] at hx;simp at hx;subst hx;exact hown _ hv
 have hApp:W0 T w0 w' e size v' (n+m) (ds++dsE):=by
  refine⟨xs++us,S'++S2,p1,hL,L1.2 ⟨o3,n1.2,fun y hy y' hy' ee=>?_⟩,fun y hy=>?_,fun k hk hkS=>?_,?_⟩
  ·subst ee
   have:=Qt.lt _ _ _ o2 y hy;have:=n2 y hy';omega
  ·rcases F4.1 hy with hy|hy
   ·exact o4 y hy
   ·have:=n2 y hy;have:=o6.size;omega
  ·rcases p4 with p4|p4
   ·exact hdis k hkS (by rw [<-p4,hk];simp)
   ·rw [p4] at hk
    injection hk with hk
    subst hk
    rcases F4.1 hkS with hy|hy
    ·have:=Qt.lt _ _ _ o2 _ hy;have:=n3.size;omega
    ·have:=n1.lt _ hy;omega
  ·exact(o6.trans n3 (fun _ h=>.inl h)).trans hchg (fun y hy=>.inr (hmid y hy).1)
 obtain⟨A',cap',rfl⟩:=hApp.form
 exact⟨A',cap',w',hr,hApp,_,hchg,hmid⟩
theorem Vr {P:Program} {T:List Nat} {w:World} {ops:Array Oper} {rest:List Oper} {o:Oper} {a:Act} {Q:Exit->Act->World->Prop} (hgd:o.guard=none) (s x:Operand) (t:TypeId)
  (ho:o.op= .call {callee:=.builtin .append,args:= #[s,x],argTypes:= #[t,t] })
  (e:TypeId) (z:Value) (size bytes:Nat) (ht:P.underlying t=some (.slice e)) (hinfo:(P.info? e).map (fun i=>(i.zero,i.size,i.bytes))=some (some z,size,bytes)) (hzs:z.cells.size=size) (hsz:0<size)
  {w0 wr:World} {v:Value} {n:Nat} {ds dsE:List QD} {us:List Value} (hA:W0 T w0 wr e size v n ds) (hT:∀x∈T,x<w0.heap.size) (hN:VU T wr w dsE us) (hs:a.eval s=v)
  (g m c:Nat) (hx:a.eval x= .slice (some ⟨g,0,none⟩) m c) (hl:us.length=m * size) (hnews:∀j u,us[j]?=some u->w.cell? ⟨g,j,none⟩=some u) (h1:∀u∈us,u.oneCell'=true)
  (h63:n+m<=1048577) (hb:bytes<=65536)
  (h:∀A' cap' w',W0 T w0 w' e size (.slice A' (n+m) cap') (n+m) (ds++dsE)->Mid w0.heap.size wr.heap.size w w'->wpList P ops Q rest (a.put o.dst (.slice A' (n+m) cap')) w'):wpList P ops Q (o::rest) a w:=by
 refine wpList_plain hgd fun K hK=>?_
 obtain⟨A',cap',w',hr,h2,h3⟩:=Qd7 (P:=P) t o.type e z size bytes ht hinfo hzs hsz hA hT hN ⟨g,0,none⟩ m c hl (fun j u hj=>by
  have hadd:(⟨g,0,none⟩:Addr).add j=⟨g,j,none⟩:=by unfold Addr.add;split<;>simp_all
  rw [hadd];exact hnews j u hj) h1 h63 hb
 unfold Oper.wp execOp
 simp only [ho,resolve,invoke,builtin,Sem.run_bind,Sem.run_pure,Result.andThen_ok,List.map_toArray,I9,O2,hs,hx,hr]
 exact hK _ _ (h A' cap' w' h2 h3)
theorem Qt.take {w:World}:∀ {ds:List QD} {us:List Value} {S:List Nat} (m:Nat),Qt w ds us S->∃S',Qt w (ds.take m) (us.take m) S'/\List.Sublist S' S
 | [],us,S,m,h=>by
  rw [Qt] at h
  obtain⟨rfl,rfl⟩:=h
  exact⟨[],by simp [Qt],List.Sublist.refl _⟩
 |d::ds,us,S,0,h=>⟨[],by simp [Qt],List.nil_sublist _⟩
 |d::ds,us,S,m+1,h=>by
  rw [Qt] at h
  obtain⟨u,us1,S1,S2,rfl,rfl,h1,h2⟩:=h
  obtain⟨S3,k1,k2⟩:=Qt.take m h2
  refine⟨S1++S3,?_,List.Sublist.append (List.Sublist.refl _) k2⟩
  rw [Y0,Y0,Qt]
  exact⟨u,us1.take m,S1,S3,rfl,rfl,h1,k1⟩
theorem W0.shrink {T:List Nat} {w0 w:World} {e:TypeId} {size n m cap:Nat} {A:Option Addr} {ds:List QD} (h:W0 T w0 w e size (.slice A n cap) n ds) (hm:m<=n):W0 T w0 w e size (.slice A m cap) m (ds.take (m * size)):=by
 obtain⟨xs,S',h1,h2,h3,h4,h5,h6⟩:=h
 obtain⟨S2,k1,k2⟩:=Qt.take (m * size) h2
 have hmn:m * size<=n * size:=X0 _ hm
 refine⟨xs.take (m * size),S2,⟨by rw [J7,h1.1];exact Nat.min_eq_left hmn,?_⟩,k1,h3.sublist k2,fun x hx=>h4 x (k2.subset hx),fun g hg hx=>h5 g ?_ (k2.subset hx),h6⟩
 ·rcases h1.2 with ⟨e1,rfl⟩|⟨g,cap',cur,e1,b1,b2,b3,b4,b5,b6⟩
  ·simp only [Value.slice.injEq] at e1
   obtain⟨rfl,_,rfl⟩:=e1
   exact .inl ⟨by rw [show m=0 by omega],by omega⟩
  ·simp only [Value.slice.injEq,true_and] at e1
   obtain⟨rfl,rfl⟩:=e1
   exact .inr ⟨g,cap,cur,rfl,b1,b2,by omega,b4,b5,by rw [<-b6,List.take_take,Nat.min_eq_left hmn]⟩
 ·cases A with
  |none=>simp [Value.ownBlock] at hg
  |some a=>exact hg
theorem Jo {α:Type} {F:α->List QD} {c:Nat} (hF:∀a,(F a).length=c):∀(l:List α) (m:Nat),(l.flatMap F).take (m * c)=(l.take m).flatMap F
 | [],m=>by simp
 |a::l,0=>by simp
 |a::l,m+1=>by
  rw [Y0,J6,J6,List.take_append,hF,Y5,Nat.add_sub_cancel,Jo hF l m,U1 (by rw [hF];omega)]
theorem ZM {P:Program} {f:FuncId} {args:Array Value} {w:World} {R:Ending->World->Prop} (h:∀x,x=w->Calls P f args x R):Calls P f args w R:=h w rfl
theorem Qp {P:Program} {c:Code} {Q:Exit->Act->World->Prop} {a:Act} {w:World} (h:∀w5,w5=w->c.wp P Q a w5):c.wp P Q a w:=h w rfl
structure ZU (w:World) (b:Nat) (vs:List Value):Prop where
 lt:b<w.heap.size
 c:∀j v,vs[j]?=some v->w.cell? ⟨b,j,none⟩=some v
 f:∀o,w.frozen? ⟨b,o,none⟩=false
section
variable {w w':World} {b:Nat} {vs:List Value}
theorem ZU.keep {S:List Nat} (H:ZU w b vs) (hc:Qc S w w') (hb:b∉S:=by simp):ZU w' b vs:=
 ⟨F6 H.lt hc.size,fun j v h=>(hc.cell (p:=⟨b,j,none⟩) H.lt hb).trans (H.c j v h),fun o=>(hc.frozen (p:=⟨b,o,none⟩) H.lt hb).trans (H.f o)⟩
theorem ZU.set (H:ZU w b vs) (i:Nat) (u:Value):ZU (w.setCell ⟨b,i,none⟩ u) b (vs.set i u):=by
 refine⟨by simpa [World.setCell] using H.lt,fun j v h=>?_,fun o=>by simpa using H.f o⟩
 rw [O8] at h
 split at h
 ·rename_i e
  subst e
  split at h
  ·rename_i hl
   injection h with h
   subst h
   exact World.cell?_setCell_same _ _ _ (H.c i _ (F8 hl))
  ·cases h
 ·rename_i e
  rw [World.cell?_setCell_other _ _ _ _ (by intro q;injection q with _ q;exact e q)]
  exact H.c j v h
theorem ZU.far (H:ZU w b vs) {g i:Nat} (u:Value) (hg:g≠b):ZU (w.setCell ⟨g,i,none⟩ u) b vs:=
 H.keep (S:=[g]) ((B0 _ _).setCell (.inl (by simp)) u) (by simpa using fun e=>hg e.symm)
theorem ZU.alloc (H:ZU w b vs) (o:Obj):ZU (w.alloc o) b vs:=H.keep (S:=[]) ((B0 _ _).alloc o)
theorem ZU.drewN (H:ZU w b vs) (n:Nat):ZU (w.drewN n) b vs:=H.keep (S:=[]) ((B0 _ _).drewN n)
theorem ZU.drew (H:ZU w b vs):ZU w.drew b vs:=H.keep (S:=[]) (B0 _ _).drew
theorem ZU.new (w:World) (cs:Array Value) (t:TypeId):ZU (w.alloc (.cells cs t)) w.heap.size cs.toList:=
 ⟨by simp,fun j v h=>by rw [World.cell?_alloc_new, <-T6];exact h,fun o=>by go_simp⟩
theorem ZU.o4 {v0 v1 v2 v3:Value} (H:ZU w b [v0,v1,v2,v3]):w.cell? ⟨b,0,none⟩=some v0/\w.cell? ⟨b,1,none⟩=some v1/\w.cell? ⟨b,2,none⟩=some v2/\w.cell? ⟨b,3,none⟩=some v3:=⟨H.c 0 _ rfl,H.c 1 _ rfl,H.c 2 _ rfl,H.c 3 _ rfl⟩
theorem ZU.o11 {v0 v1 v2 v3 v4 v5 v6 v7 v8 v9 v10:Value} (H:ZU w b [v0,v1,v2,v3,v4,v5,v6,v7,v8,v9,v10]):
  w.cell? ⟨b,0,none⟩=some v0/\w.cell? ⟨b,1,none⟩=some v1/\w.cell? ⟨b,2,none⟩=some v2/\w.cell? ⟨b,3,none⟩=some v3/\w.cell? ⟨b,4,none⟩=some v4/\w.cell? ⟨b,5,none⟩=some v5/\w.cell? ⟨b,6,none⟩=some v6/\w.cell? ⟨b,7,none⟩=some v7/\w.cell? ⟨b,8,none⟩=some v8/\w.cell? ⟨b,9,none⟩=some v9/\w.cell? ⟨b,10,none⟩=some v10:=
 ⟨H.c 0 _ rfl,H.c 1 _ rfl,H.c 2 _ rfl,H.c 3 _ rfl,H.c 4 _ rfl,H.c 5 _ rfl,H.c 6 _ rfl,H.c 7 _ rfl,H.c 8 _ rfl,H.c 9 _ rfl,H.c 10 _ rfl⟩
end
theorem S8:type_of% @Yo.nil:=@Yo.nil
theorem L9:type_of% @ZU.new:=@ZU.new
end Go.Proofs.YtfjhdnjlhjimeaaGreatDoor
