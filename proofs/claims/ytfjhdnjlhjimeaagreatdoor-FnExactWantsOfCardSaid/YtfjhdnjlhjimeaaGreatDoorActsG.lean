/- No action of two kinds. Conditions: as stated. -/
import Derived.Test.YtfjhdnjlhjimeaaGreatDoorCurs
namespace Go.Proofs.YtfjhdnjlhjimeaaGreatDoor
open Go.RowKit

mutual
def Qa.no (p q:Int):Qa->Prop
 | .mk op _ _ _ _ _ A B=>(op≠p/\op≠q)/\zR p q A/\zR p q B
def zR (p q:Int):List Qa->Prop
 | []=>True
 |a::l=>a.no p q/\zR p q l
end
theorem Qa.no_iff (p q:Int) (a:Qa):a.no p q↔(a.op≠p/\a.op≠q)/\zR p q a.A/\zR p q a.B:=by
 cases a;rw [Qa.no];rfl
theorem kF (p q:Int):∀l:List Qa,zR p q l↔ ∀a∈l,a.no p q
 | []=>by simp [zR]
 |a::l=>by rw [zR,kF p q l];simp
def cB:Nat->Nat
 |0=>200
 |d+1=>200+4 * cB d
theorem Un:zR 10 3 []:=by rw [zR];trivial
theorem vD {p q:Int} (l m:List Qa):zR p q (l++m)↔zR p q l/\zR p q m:=by
 simp only [kF,F4]
 exact⟨fun h=>⟨fun a ha=>h a (.inl ha),fun a ha=>h a (.inr ha)⟩,fun h a ha=>ha.elim (h.1 a) (h.2 a)⟩
theorem UC (l m:List Qa):Qi (l++m)=Qi l+Qi m:=by
 unfold Qi Wv
 simp only [I0,J2,List.sum_append]
 omega
theorem zr (a:Qa):Qi [a]=Xv a+1:=by
 unfold Qi Wv
 simp
 omega
theorem jn:Qi []=0:=rfl
theorem Qa8 (op sl ot:Int) (wd m y:ByteArray) (v:Int) (t:ByteArray) (fc:Int):Xv (.mk op sl ot wd ⟨m,y,v,t⟩ fc [] [])=wd.size+xd ⟨m,y,v,t⟩:=by
 rw [Wf]
 rfl
theorem vy (m y:ByteArray) (v:Int) (t:ByteArray):xd ⟨m,y,v,t⟩=m.size+y.size+t.size:=by
 unfold xd
 rfl
def QeI (k N most:Nat) (pl:Bool) (w:World) (e:Ending) (w':World):Prop:=∃(l:List Qa) (A:Option Addr) (cap:Nat),e= .returned (.slice A l.length cap)/\W0 [k] w w' 33 11 (.slice A l.length cap) l.length (l.flatMap QO)/\1<=l.length/\l.length<=most/\Qi l<=N/\(pl=true->zR 10 3 l)/\WN w' k
def QbV (pl:Bool) (a:Qa):Prop:=pl=true->zR 10 3 a.A/\zR 10 3 a.B
def Qfw (pl:Bool) (a:Qa):Prop:=pl=true->a.no 10 3
structure YZ (k:Nat) (wr x:World) (b N:Nat) (Q:Qa->Prop):Prop where
 ex:∃(a:Qa) (A9:Option Addr) (c9:Nat) (A10:Option Addr) (c10:Nat) (S:List Nat),ZU x b [.int .i64 a.op,.int .i64 a.slot,.int .i64 a.other,.string a.word,.string a.call.method,.string a.call.key,.int .i64 a.call.value,.string a.call.text,.int .i64 a.face,.slice A9 a.A.length c9,.slice A10 a.B.length c10] /\Zm x (QO a) [.int .i64 a.op,.int .i64 a.slot,.int .i64 a.other,.string a.word,.string a.call.method,.string a.call.key,.int .i64 a.call.value,.string a.call.text,.int .i64 a.face,.slice A9 a.A.length c9,.slice A10 a.B.length c10] S/\(∀y,y∈S->wr.heap.size<=y)/\b∉S/\Xv a+1<=N/\Q a
 cur:WN x k
 chg:Qc [k] wr x
 lo:wr.heap.size<=b
section
variable {k:Nat} {wr x x':World} {b N M:Nat} {Q:Qa->Prop}
theorem YZ.b_lt (h:YZ k wr x b N Q):b<x.heap.size:=by
 obtain⟨a,_,_,_,_,_,h1,_⟩:=h.ex
 exact h1.lt
theorem YZ.more (h:YZ k wr x b N Q) (hN:N<=M):YZ k wr x b M Q:=by
 obtain⟨⟨a,A9,c9,A10,c10,S,h1,h2,h3,h4,h5,h6⟩,h7,h8,h9⟩:=h
 exact⟨⟨a,A9,c9,A10,c10,S,h1,h2,h3,h4,by omega,h6⟩,h7,h8,h9⟩
theorem YZ.later (h:YZ k wr x b N Q) (hc:Qc [k] x x') (hq:WN x' k) (hk:k<wr.heap.size):YZ k wr x' b N Q:=by
 obtain⟨⟨a,A9,c9,A10,c10,S,h1,h2,h3,h4,h5,h6⟩,h7,h8,h9⟩:=h
 exact⟨⟨a,A9,c9,A10,c10,S,h1.keep hc (by simp;omega),h2.keep hc (fun y hy=>by have:=h3 y hy;simp;omega),h3,h4,h5,h6⟩,hq,h8.trans hc (fun _ h=>.inl h),h9⟩
theorem YZ.same (h:YZ k wr x b N Q) (hc:Qc [] x x'):YZ k wr x' b N Q:=by
 obtain⟨⟨a,A9,c9,A10,c10,S,h1,h2,h3,h4,h5,h6⟩,h7,h8,h9⟩:=h
 exact⟨⟨a,A9,c9,A10,c10,S,h1.keep hc,h2.kz hc,h3,h4,h5,h6⟩,h7.kz hc,h8.tz hc,h9⟩
theorem YZ.raw (h:YZ k wr x b N Q):∃v0 v1 v2 v3 v4 v5 v6 v7 v8 v9 v10,ZU x b [v0,v1,v2,v3,v4,v5,v6,v7,v8,v9,v10]:=by
 obtain⟨a,A9,c9,A10,c10,S,h1,_⟩:=h.ex
 exact⟨_,_,_,_,_,_,_,_,_,_,_,h1⟩
end
theorem zH {a0 a1 a2:Int} {s3 s4 s5:ByteArray} {a6:Int} {s7:ByteArray} {a8:Int} {A9:Option Addr} {n9 c9:Nat} {A10:Option Addr} {n10 c10:Nat}:∀u∈([.int .i64 a0,.int .i64 a1,.int .i64 a2,.string s3,.string s4,.string s5,.int .i64 a6,.string s7,.int .i64 a8,.slice A9 n9 c9,.slice A10 n10 c10]:List Value),u.oneCell'=true:=by
 intro u hu;simp at hu;rcases hu with rfl|rfl|rfl|rfl|rfl|rfl|rfl|rfl|rfl|rfl|rfl<;>rfl
theorem ZU.all11 {w:World} {b:Nat} {v0 v1 v2 v3 v4 v5 v6 v7 v8 v9 v10 u0 u1 u2 u3 u4 u5 u6 u7 u8 u9 u10:Value} (h:ZU w b [v0,v1,v2,v3,v4,v5,v6,v7,v8,v9,v10]):
  ZU (((((((((((w.setCell ⟨b,0,none⟩ u0).setCell ⟨b,1,none⟩ u1).setCell ⟨b,2,none⟩ u2).setCell ⟨b,3,none⟩ u3).setCell ⟨b,4,none⟩ u4).setCell ⟨b,5,none⟩ u5).setCell ⟨b,6,none⟩ u6).setCell ⟨b,7,none⟩ u7).setCell ⟨b,8,none⟩ u8).setCell ⟨b,9,none⟩ u9).setCell ⟨b,10,none⟩ u10) b [u0,u1,u2,u3,u4,u5,u6,u7,u8,u9,u10]:=
 ((((((((((h.set 0 u0).set 1 u1).set 2 u2).set 3 u3).set 4 u4).set 5 u5).set 6 u6).set 7 u7).set 8 u8).set 9 u9).set 10 u10
theorem zp {k b:Nat} {w x x':World} (h:Qc [k] w x) (hb:w.heap.size<=b) (hc:Qc [b] x x'):Qc [k] w x':=h.trans hc (fun y hy=>.inr (by simp at hy;omega))
theorem uG {w:World} {A B:List Qa} {u9 u10:Value} {SA SB:List Nat} {op sl ot:Int} {wd m y:ByteArray} {v:Int} {t:ByteArray} {fc:Int} (hA:Yp w (QA A) u9 SA) (hB:Yp w (QA B) u10 SB) (hd:∀y,y∈SA->y∉SB):
  Zm w (QO (.mk op sl ot wd ⟨m,y,v,t⟩ fc A B)) [.int .i64 op,.int .i64 sl,.int .i64 ot,.string wd,.string m,.string y,.int .i64 v,.string t,.int .i64 fc,u9,u10] (SA++SB):=by
 rw [Vi]
 refine I2 (I2 (I2 (I2 (I2 (I2 (I2 (I2 (I2 ?_))))))))
 have h:=Zm.cons hB (T8 w) (by simp)
 rw [List.append_nil] at h
 exact Zm.cons hA h hd
theorem QcR (w:World):Yp w (QA []) (.slice none 0 0) []:=⟨by unfold QA;rw [Yb];exact .inl ⟨rfl,rfl,rfl,rfl⟩,O9⟩
theorem we {w:World} {A:List Qa} {u9:Value} {SA:List Nat} {op sl ot:Int} {wd m y:ByteArray} {v:Int} {t:ByteArray} {fc:Int} (hA:Yp w (QA A) u9 SA):
  Zm w (QO (.mk op sl ot wd ⟨m,y,v,t⟩ fc A [])) [.int .i64 op,.int .i64 sl,.int .i64 ot,.string wd,.string m,.string y,.int .i64 v,.string t,.int .i64 fc,u9,.slice none 0 0] SA:=by
 have h:=uG (op:=op) (sl:=sl) (ot:=ot) (wd:=wd) (m:=m) (y:=y) (v:=v) (t:=t) (fc:=fc) hA (QcR w) (by simp)
 rwa [List.append_nil] at h
theorem KT (w:World) (op sl ot:Int) (wd m y:ByteArray) (v:Int) (t:ByteArray) (fc:Int):
  Zm w (QO (.mk op sl ot wd ⟨m,y,v,t⟩ fc [] [])) [.int .i64 op,.int .i64 sl,.int .i64 ot,.string wd,.string m,.string y,.int .i64 v,.string t,.int .i64 fc,.slice none 0 0,.slice none 0 0] []:=we (QcR w)
theorem QcB {d:Nat} {A B:List Qa} {op:Int} (hA:Qi A<=2 * cB d) (hB:Qi B<=2 * cB d):Xv (.mk op 0 0 ⟨#[]⟩ ⟨⟨#[]⟩,⟨#[]⟩,0,⟨#[]⟩⟩ 0 A B)+1<=cB (d+1):=by
 rw [Wf]
 show(0:Nat)+0+Qi A+Qi B+1<=200+4 * cB d
 omega
theorem QeM {d:Nat} {A:List Qa} {op:Int} (hA:Qi A<=2 * cB d):Xv (.mk op 0 0 ⟨#[]⟩ ⟨⟨#[]⟩,⟨#[]⟩,0,⟨#[]⟩⟩ 0 A [])+1<=cB (d+1):=QcB hA (by rw [jn];omega)
theorem kr {T:List Nat} {w w':World} {l:List Qa} {us:List Value} (h:VU T w w' (l.flatMap QO) us):∀u∈us,u.oneCell'=true:=by
 obtain⟨S,h1,_⟩:=h
 refine Qt.ones h1.1 (fun x hx=>?_)
 obtain⟨a,_,ha⟩:=Y7.1 hx
 rw [Vi] at ha
 simp [QA] at ha
 rcases ha with rfl|rfl|rfl|rfl|rfl|rfl|rfl|rfl|rfl<;>rfl
theorem jt {b:Nat} {S:List Nat} (h:b∉S):∀x,x∈S->x∉ [b]:=fun x hx hb=>h (by simp at hb;exact hb ▸ hx)
theorem QgY {k lo:Nat} {S:List Nat} (h:∀y,y∈S->lo<=y) (hk:k<lo):∀x,x∈S->x∉ [k]:=fun x hx hb=>by have:=h x hx;simp at hb;omega
theorem WN.mid {w w':World} {a b k:Nat} (H:WN w k) (hM:Mid a b w w') (hk:k<a):WN w' k:=by
 obtain⟨S,hc,hS⟩:=hM
 exact H.keep hc (fun x hx=>by have:=(hS x hx).1;omega)
theorem QgE:∀d,200<=cB d
 |0=>by unfold cB;omega
 |d+1=>by unfold cB;omega
theorem Qec (d:Nat) {op s f:Int}:Xv (.mk op s 0 ⟨#[]⟩ ⟨⟨#[]⟩,⟨#[]⟩,0,⟨#[]⟩⟩ f [] [])+1<=cB d:=by
 have h:=QgE d
 rw [Qa8,vy]
 show 0+(0+0+0)+1<=cB d
 omega
theorem QcL {op s f:Int} (h1:op≠10) (h2:op≠3):(Qa.mk op s 0 ⟨#[]⟩ ⟨⟨#[]⟩,⟨#[]⟩,0,⟨#[]⟩⟩ f [] []).no 10 3:=by
 rw [Qa.no]
 exact⟨⟨h1,h2⟩,Un,Un⟩
end Go.Proofs.YtfjhdnjlhjimeaaGreatDoor
