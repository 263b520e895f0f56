/- The law of append that tells, too, that what was made since the slice was last seen stands. Conditions: as wpList_app's. -/
import Derived.Test.YtjigcplpkhpgnaaGreatDoorApps
namespace Go.Proofs.YtjigcplpkhpgnaaGreatDoor
open Go.RowKit

theorem wpList_appX {P:Program} {w:World} {ops:Array Oper} {rest:List Oper} {o:Oper} {a:Act} {Q:Exit->Act->World->Prop} (hgd:o.guard=none) (s x:Operand) (t:TypeId)
  (ho:o.op= .call {callee:=.builtin .append,args:= #[s,x],argTypes:= #[t,t] })
  (e:TypeId) (z:Value) (size bytes:Nat) (ht:P.underlying t=some (.slice e)) (hinfo:(P.info? e).map (fun i=>(i.zero,i.size,i.bytes))=some (some z,size,bytes)) (hzs:z.cells.size=size) (hsz:0<size)
  {w0 wr:World} {v:Value} {n:Nat} {ds dsE:List Dat} {us:List Value} (hA:App w0 wr e size v n ds) (hN:NewL wr w dsE us) (hs:a.eval s=v)
  (g c:Nat) (hx:a.eval x= .slice (some ⟨g,0,none⟩) 1 c) (hl:us.length=size) (hnews:∀j u,us[j]?=some u->w.cell? ⟨g,j,none⟩=some u) (h1:∀u∈us,u.oneCell'=true)
  (h63:n+1<=1048577) (hb:bytes<=65536)
  (h:∀A' cap' w',App w0 w' e size (.slice A' (n+1) cap') (n+1) (ds++dsE)->(w.heap.size<=w'.heap.size/\∀g,wr.heap.size<=g->g<w.heap.size->∀o,w'.cell? ⟨g,o,none⟩=w.cell? ⟨g,o,none⟩)->wpList P ops Q rest (a.put o.dst (.slice A' (n+1) cap')) w'):wpList P ops Q (o::rest) a w:=by
 obtain⟨i,hi,hzz⟩:=Option.map_eq_some_iff.1 hinfo
 simp only [Prod.mk.injEq] at hzz
 obtain⟨hz,hsi,hby⟩:=hzz
 obtain⟨xs,S',o1,o2,o3,o4,o5,o6⟩:=hA
 obtain⟨S2,n1,n2,n3⟩:=hN
 have hg0:wr.grownBy w none:=⟨n3.os,n3.tape,n3.output,n3.size,fun k hk _=>n3.block k hk (by simp)⟩
 have own:=o1.kept hg0 (by cases hv:v.ownBlock<;>simp)
 have hmul:(n+1) * bytes<=1048577 * 65536:=Nat.mul_le_mul h63 hb
 refine wpList_append_own_at w hgd s x t ho w0.heap.size e i z size bytes ht hi hz hsi hby hzs hsz v n xs hs own ⟨g,0,none⟩ 1 c us hx (by rw [hl,Nat.one_mul]) (fun j u hj=>by
  have hadd:(⟨g,0,none⟩:Addr).add j=⟨g,j,none⟩:=by unfold Addr.add;split<;>simp_all
  rw [hadd];exact hnews j u hj) h1 (by unfold maxLen;omega) (by omega) (Nat.le_trans o6.size n3.size) (fun v' w' p1 p2 _ p4=>?_)
 have hown:∀k,v.ownBlock=some k->w0.heap.size<=k/\k<wr.heap.size:=fun k hk=>o1.lt k hk
 have hchg:Chg (match v.ownBlock with|some k=>[k] |none=>[]) w w':=⟨p2.os,p2.tape,p2.output,p2.size,fun k hk hn=>p2.block k hk (fun e=>by rw [<-e] at hn;simp at hn)⟩
 have hstand:w.heap.size<=w'.heap.size/\∀g,wr.heap.size<=g->g<w.heap.size->∀o,w'.cell? ⟨g,o,none⟩=w.cell? ⟨g,o,none⟩:=⟨hchg.size,fun g hg1 hg2 o=>hchg.cell hg2 (fun hx=>by
  cases hv:v.ownBlock with
  |none=>rw [hv] at hx;simp at hx
  |some k=>rw [hv] at hx;simp at hx;have:=(hown k hv).2;omega)⟩
 have hdis:∀y,y∈S'++S2->y∉(match v.ownBlock with|some k=>[k] |none=>[]):=by
  intro y hy hyk
  cases hv:v.ownBlock with
  |none=>rw [hv] at hyk;simp at hyk
  |some k=>
   rw [hv] at hyk
   simp at hyk
   subst hyk
   rcases List.mem_append.1 hy with hy|hy
   ·exact o5 y hv hy
   ·have:=n2 y hy;have:=(hown y hv).2;omega
 have hL:OwnL w' (ds++dsE) (xs++us) (S'++S2):=OwnL.keep hchg _ _ _ hdis (OwnL.append (OwnL.keep n3 ds xs S' (by simp) o2) n1.1)
 have hApp:App w0 w' e size v' (n+1) (ds++dsE):=by
  refine⟨xs++us,S'++S2,p1,hL,List.nodup_append.2 ⟨o3,n1.2,fun y hy y' hy' ee=>?_⟩,fun y hy=>?_,fun k hk hkS=>?_,?_⟩
  ·subst ee
   have:=OwnL.lt _ _ _ o2 y hy;have:=n2 y hy';omega
  ·rcases List.mem_append.1 hy with hy|hy
   ·exact o4 y hy
   ·have:=n2 y hy;have:=o6.size;omega
  ·rcases p4 with p4|p4
   ·exact hdis k hkS (by rw [<-p4,hk];simp)
   ·rw [p4] at hk
    injection hk with hk
    subst hk
    rcases List.mem_append.1 hkS with hy|hy
    ·have:=OwnL.lt _ _ _ o2 _ hy;have:=n3.size;omega
    ·have:=n1.lt _ hy;omega
  ·refine(o6.trans0 n3).trans hchg (fun y hy=>?_)
   cases hv:v.ownBlock with
   |none=>rw [hv] at hy;simp at hy
   |some k=>rw [hv] at hy;simp at hy;subst hy;exact .inr (hown _ hv).1
 obtain⟨A',cap',rfl⟩:=hApp.form
 exact h A' cap' w' hApp hstand
end Go.Proofs.YtjigcplpkhpgnaaGreatDoor
