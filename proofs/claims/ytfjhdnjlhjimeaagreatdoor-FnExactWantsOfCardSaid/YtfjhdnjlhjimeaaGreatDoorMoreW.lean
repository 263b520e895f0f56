/- What the law wants beside the explorer. Conditions: as stated. -/
import Derived.Test.YtfjhdnjlhjimeaaGreatDoorRunsP
import Derived.Test.YtfjhdnjlhjimeaaGreatDoorRegs
set_option maxRecDepth 100000
set_option maxHeartbeats 400000
namespace Go.Proofs.YtfjhdnjlhjimeaaGreatDoor
open Go.RowKit

theorem QlS {α:Type} (F:α->List QD) (Z:List QD) (l:List α):jo F Z l l.length=l.flatMap F:=by simp [jo]
theorem Qk0 {α:Type} {F:α->List QD} {Z:List QD} {c:Nat} (hF:∀a,(F a).length=c) (hZ:Z.length=c) (l:List α) (k:Nat) (hk:k<=l.length):(jo F Z l k).length=l.length * c:=by
 have:(List.replicate (l.length-k) Z).flatten.length=(l.length-k) * c:=by simp [hZ]
 rw [jo,I0,Zs hF,this,J7,Nat.min_eq_left hk, <-Nat.add_mul]
 congr 1
 omega
theorem QlP {α:Type} {F:α->List QD} {Z:List QD} {c:Nat} (hF:∀a,(F a).length=c) (hZ:Z.length=c) (l:List α) (k:Nat) (hk:k<l.length):
  kN (jo F Z l k) (k * c) (F l[k])=jo F Z l (k+1):=by
 have e1:l.length-k=(l.length-(k+1))+1:=by omega
 have e2:((l.take k).flatMap F).length=k * c:=by rw [Zs hF,J7,Nat.min_eq_left (by omega)]
 rw [jo,e1,List.replicate_succ,List.flatten_cons, <-e2,qI _ _ _ _ (by rw [hZ,hF]),jo]
 have e3:l.take (k+1)=l.take k++ [l[k]]:=G6 hk
 rw [e3]
 simp only [J0,J6,List.flatMap_nil,List.append_nil,U2]

theorem qt.fill {α:Type} {w wr wxq:World} {F:α->List QD} {Z:List QD} {c n g cap:Nat} {l:List α} {k:Nat} {us:List Value} (hF:∀a,(F a).length=c) (hZ:Z.length=c)
  (hk:k<l.length) (h:qt w wr (.s n (jo F Z l k)) (.slice (some ⟨g,0,none⟩) n cap)) (hl:YW wr wxq (F l[k]) us):
  qt w (Xc wxq g (k * c) us) (.s n (jo F Z l (k+1))) (.slice (some ⟨g,0,none⟩) n cap):=by
 obtain⟨S,h1,h2,h3⟩:=h
 obtain⟨T,t1,t2,t3⟩:=hl
 have hlen:=Qk0 hF hZ l k (by omega)
 have hmul:(k+1) * c<=l.length * c:=X0 c hk
 rw [Y5] at hmul
 obtain⟨S2,e1,e2,e3,e4⟩:=(h1.kz t3).putRow (j:=k * c) (by rw [hlen,hF];exact hmul) t1 (fun x hx hxS=>by have:=t2 x hx;have:=h1.lt x hxS;omega)
 rw [QlP hF hZ l k hk] at e1
 refine⟨S2,e1,fun x hx=>?_,?_⟩
 ·rcases e2 x hx with h|h
  ·exact h2 x h
  ·have:=t2 x h;have:=h3.size;omega
 ·exact(h3.tz t3).trans e4 (fun x hx=>by simp at hx;subst hx;exact .inr (h2 _ e3))

theorem qt.room {w w':World} {n g cap:Nat} {cs:List QD} (h:qt w w' (.s n cs) (.slice (some ⟨g,0,none⟩) n cap)) {j:Nat} (hj:j<cs.length):
  w'.frozen? ⟨g,j,none⟩=false/\∃x,w'.cell? ⟨g,j,none⟩=some x:=h.elim fun _ x=>x.1.room hj

theorem VU.cons_new {T:List Nat} {w wa w2 wb w':World} {d:QD} {u:Value} {ds:List QD} {us:List Value} (hA:qt wa w2 d u) (hT:∀x,x∈T->x<wa.heap.size) (h1:Qc T w wa) (h2:Qc T w2 wb) (hr:VU T wb w' ds us):
  VU T w w' (d::ds) (u::us):=by
 obtain⟨S,a1,a2,a3⟩:=hA
 obtain⟨U,b1,b2,b3⟩:=hr
 have h4:Qc T w2 w':=h2.trans b3 (fun x hx=>.inl hx)
 refine⟨S++U,Zm.cons (a1.keep h4 (fun x hx hxT=>by have:=a2 x hx;have:=hT x hxT;omega)) b1 (fun x hx hxU=>?_),fun x hx=>?_,(h1.tz a3).trans h4 (fun x hx=>.inl hx)⟩
 ·have:=a1.lt x hx;have:=b2 x hxU;have:=h2.size;omega
 ·rcases F4.1 hx with hx|hx
  ·exact G5 h1.size (a2 x hx)
  ·have:=b2 x hx;have:=h1.size;have:=a3.size;have:=h2.size;omega
theorem QlZ {X row Y:List QD} {c j:Nat} {d:QD} (hX:X.length=c) (hj:j<row.length):(X++(row++Y)).set (c+j) d=X++(row.set j d++Y):=by
 subst hX
 rw [List.set_append_right _ _ (by omega),List.set_append_left _ _ (by omega)]
 simp
theorem QlX {X row Y:List QD} {c j:Nat} (hX:X.length=c) (hj:j<row.length):(X++(row++Y))[c+j]?=row[j]?:=by
 subst hX
 rw [List.getElem?_append_right (by omega),List.getElem?_append_left (by omega)]
 simp

theorem Yp.setAt {w:World} {n g cap c j:Nat} {X row Y:List QD} {S:List Nat} {x:Value} (h:Yp w (.s n (X++(row++Y))) (.slice (some ⟨g,0,none⟩) n cap) S) (hX:X.length=c) (hj:row[j]?=some (.v x)) (y:Value):
  Yp (w.setCell ⟨g,c+j,none⟩ y) (.s n (X++(row.set j (.v y)++Y))) (.slice (some ⟨g,0,none⟩) n cap) S:=by
 have hjl:j<row.length:=by
  rcases Y6 j row.length with h|h
  ·exact h
  ·rw [L2 h] at hj;cases hj
 have:=(h.set_ (j:=c+j) (by rw [QlX hX hjl];exact hj) y).2.2.2
 rwa [QlZ hX hjl] at this
theorem Yp.set0 {w:World} {n g cap c:Nat} {X row Y:List QD} {S:List Nat} {x:Value} (h:Yp w (.s n (X++(row++Y))) (.slice (some ⟨g,0,none⟩) n cap) S) (hX:X.length=c) (hj:row[0]?=some (.v x)) (y:Value):
  Yp (w.setCell ⟨g,c,none⟩ y) (.s n (X++(row.set 0 (.v y)++Y))) (.slice (some ⟨g,0,none⟩) n cap) S:=h.setAt hX hj y
theorem Yp.roomAt {w:World} {n g cap c:Nat} {X row Y:List QD} {S:List Nat} (h:Yp w (.s n (X++(row++Y))) (.slice (some ⟨g,0,none⟩) n cap) S) (hX:X.length=c) (j:Nat) (hj:j<row.length):
  w.frozen? ⟨g,c+j,none⟩=false/\∃x,w.cell? ⟨g,c+j,none⟩=some x:=h.room (by simp;omega)
theorem Yp.subAt {w:World} {n g cap c j:Nat} {X row Y:List QD} {S:List Nat} {d:QD} (h:Yp w (.s n (X++(row++Y))) (.slice (some ⟨g,0,none⟩) n cap) S) (hX:X.length=c) (hj:row[j]?=some d):
  ∃u Sj,w.cell? ⟨g,c+j,none⟩=some u/\Yp w d u Sj/\(∀x,x∈Sj->x∈S)/\
   (∀(w':World) (d':QD),Qc Sj w w'->Yp w' d' u Sj->Yp w' (.s n (X++(row.set j d'++Y))) (.slice (some ⟨g,0,none⟩) n cap) S):=by
 have hjl:j<row.length:=by
  rcases Y6 j row.length with h|h
  ·exact h
  ·rw [L2 h] at hj;cases hj
 obtain⟨u,Sj,h1,_,h3,h4,_,_,h7⟩:=h.at_ (j:=c+j) (by rw [QlX hX hjl];exact hj)
 refine⟨u,Sj,h1,h3,h4,fun w' d' hc hh=>?_⟩
 have:=h7 w' d' hc hh
 rwa [QlZ hX hjl] at this

theorem VU.app_new {T:List Nat} {w wa w2 wb w':World} {ds ds':List QD} {us us':List Value} (hA:YW wa w2 ds us) (hT:∀x,x∈T->x<wa.heap.size) (h1:Qc T w wa) (h2:Qc T w2 wb) (hr:VU T wb w' ds' us'):
  VU T w w' (ds++ds') (us++us'):=by
 obtain⟨S,a1,a2,a3⟩:=hA
 obtain⟨U,b1,b2,b3⟩:=hr
 have h4:Qc T w2 w':=h2.trans b3 (fun x hx=>.inl hx)
 refine⟨S++U,Zm.append (a1.keep h4 (fun x hx hxT=>by have:=a2 x hx;have:=hT x hxT;omega)) b1 (fun x hx hxU=>?_),fun x hx=>?_,(h1.tz a3).trans h4 (fun x hx=>.inl hx)⟩
 ·have:=a1.lt x hx;have:=b2 x hxU;have:=h2.size;omega
 ·rcases F4.1 hx with hx|hx
  ·exact G5 h1.size (a2 x hx)
  ·have:=b2 x hx;have:=h1.size;have:=a3.size;have:=h2.size;omega
theorem Yp.room0 {w:World} {n g cap c:Nat} {X row Y:List QD} {S:List Nat} (h:Yp w (.s n (X++(row++Y))) (.slice (some ⟨g,0,none⟩) n cap) S) (hX:X.length=c) (hj:0<row.length):
  w.frozen? ⟨g,c,none⟩=false/\∃x,w.cell? ⟨g,c,none⟩=some x:=h.roomAt hX 0 hj
theorem Yp.subOf {w:World} {n g cap c j:Nat} {X row Y:List QD} {S:List Nat} {d:QD} {u:Value} (h:Yp w (.s n (X++(row++Y))) (.slice (some ⟨g,0,none⟩) n cap) S) (hX:X.length=c) (hj:row[j]?=some d) (hu:w.cell? ⟨g,c+j,none⟩=some u):
  ∃Sj,Yp w d u Sj/\(∀x,x∈Sj->x∈S)/\
   (∀(w':World) (d':QD),Qc Sj w w'->Yp w' d' u Sj->Yp w' (.s n (X++(row.set j d'++Y))) (.slice (some ⟨g,0,none⟩) n cap) S):=by
 obtain⟨u',Sj,h1,h2,h3,h4⟩:=h.subAt hX hj
 rw [hu] at h1
 cases h1
 exact⟨Sj,h2,h3,h4⟩
theorem Qlk (l:List Int) (u v:Value) (B B':Nat) (w:World) (hr:Rd w B (xE l) u) (hs:Rd w B' (xE l) v) (hB:B<=w.heap.size) (hB':B'<=w.heap.size):
  Calls Tryz.prog 22 #[u,v] w fun e w'=>e= .returned (.bool true)/\Qc [] w w':=by
 obtain⟨A,cap,rfl,h0,h1,hrow⟩:=zl hr
 obtain⟨A',cap',rfl,h0',h1',hrow'⟩:=zl hs
 unfold maxLen at h1 h1'
 clear hr hs
 go_enter Tryz.func22,Tryz.ntmps22
 go_wp2
 go_loopw [5] (fun i wr=>∃k:Nat,k<=l.length/\i= .int .i64 k/\Qc [] w wr) (fun i _=>l.length-(intOf i).toNat)
 case atStart=>exact⟨0,I3 _,rfl,B0 _ _⟩
 case round=>
  obtain⟨k,hk,rfl,hh⟩:=hrel
  by_cases hlt:k<l.length
  ·obtain⟨b,off,rfl,hb,hu⟩:=yi (hrow.cz hh hB) k hlt
   obtain⟨b',off',rfl,hb',hu'⟩:=yi (hrow'.cz hh hB') k hlt
   go_wp2
   go_quiet (fail)
   go_wp2
   go_roundw
   case rel=>exact⟨k+1,by omega,by go_num,hh.drewN _⟩
   case measure=>simp [intOf];omega
  ·obtain rfl:k=l.length:=by omega
   go_wp2
   go_ret
   exact⟨rfl,hh⟩

theorem QjH (l m:List Int) (u v:Value) (B B':Nat) (w:World) (hr:Rd w B (xE l) u) (hs:Rd w B' (xE m) v) (hB:B<=w.heap.size) (hB':B'<=w.heap.size):
  Calls Tryz.prog 126 #[u,v] w fun e w'=>e= .returned (.int .i64 (Wy l m))/\Qc [] w w':=by
 obtain⟨A,cap,rfl,h0,h1,hrow⟩:=zl hr
 obtain⟨A',cap',rfl,h0',h1',hrow'⟩:=zl hs
 unfold maxLen at h1 h1'
 clear hr hs
 by_cases c1:l.length<m.length
 ·go_enter Tryz.func126,Tryz.ntmps126
  go_wp2
  go_ret
  exact⟨VG (by rw [Wy,if_pos c1]),B0 _ _⟩
 ·by_cases c2:m.length<l.length
  ·go_enter Tryz.func126,Tryz.ntmps126
   go_wp2
   go_ret
   exact⟨VG (by rw [Wy,if_neg (by omega),if_pos (by omega)]),B0 _ _⟩
  ·have hc0:Hid (Wy l m=W7 (l.drop 0) (m.drop 0)):=by
    show Wy l m=_
    rw [Wy,if_neg c1,if_neg c2];rfl
   go_enter Tryz.func126,Tryz.ntmps126
   go_wp2
   go_loopw [20] (fun i wr=>∃k:Nat,k<=l.length/\i= .int .i64 k/\Qc [] w wr/\Hid (Wy l m=W7 (l.drop k) (m.drop k))) (fun i _=>l.length-(intOf i).toNat)
   case atStart=>exact⟨0,I3 _,rfl,B0 _ _,hc0⟩
   case round=>
    obtain⟨k,hk,rfl,hh,hq⟩:=hrel
    by_cases hlt:k<l.length
    ·have hlt':k<m.length:=by omega
     obtain⟨b,off,rfl,hb,hu⟩:=yi (hrow.cz hh hB) k hlt
     obtain⟨b',off',rfl,hb',hu'⟩:=yi (hrow'.cz hh hB') k hlt'
     have hq2:=hq.out
     rw [Qc4 l m k hlt hlt'] at hq2
     have HQ:=Qb hq2
     clear hq hq2 hc0
     by_cases d1:l[k] <m[k]
     ·go_wp2
      go_quiet (fail)
      go_wp2
      go_ret
      exact⟨VG (by rw [HQ.out,if_pos d1]),hh.drewN _⟩
     ·by_cases d2:m[k] <l[k]
      ·go_wp2
       go_quiet (fail)
       go_wp2
       go_quiet (fail)
       go_wp2
       go_ret
       exact⟨VG (by rw [HQ.out,if_neg (by omega),if_pos (by omega)]),(hh.drewN _).drewN _⟩
      ·go_wp2
       go_quiet (fail)
       go_wp2
       go_quiet (fail)
       go_wp2
       go_roundw
       case rel=>exact⟨k+1,by omega,by go_num,(hh.drewN _),by rw [HQ.out,if_neg (by omega),if_neg (by omega)];exact Qb rfl⟩
       case measure=>simp [intOf];omega
    ·obtain rfl:k=l.length:=by omega
     go_wp2
     go_ret
     exact⟨VG (by rw [hq.out,QeD]),hh⟩

end Go.Proofs.YtfjhdnjlhjimeaaGreatDoor
namespace Go.Proofs.YtfjhdnjlhjimeaaGreatDoor
open Go.ChangeShapes Go.WideShapes Go.RowKit Go.Deep

theorem RdV.nil (w:World):RdV w [] []:=⟨rfl,fun _ _ h=>by simp at h⟩
theorem RdV.append {w:World} {xs0 bs:List QD} {us vs:List Value} (h:RdV w xs0 us) (h':RdV w bs vs):RdV w (xs0++bs) (us++vs):=by
 refine⟨by simp [h.1,h'.1],fun j d hj=>?_⟩
 by_cases hl:j<xs0.length
 ·rw [List.getElem?_append_left hl] at hj
  obtain⟨u,hu,hd⟩:=h.2 j d hj
  exact⟨u,by rw [List.getElem?_append_left (by rw [h.1];exact hl)];exact hu,hd⟩
 ·rw [List.getElem?_append_right (by omega)] at hj
  obtain⟨u,hu,hd⟩:=h'.2 _ d hj
  exact⟨u,by rw [List.getElem?_append_right (by rw [h.1];omega),h.1];exact hu,hd⟩

def Ql9 (s:ByteArray):List QD:=[.v (.string s)]
theorem Vp.string {P:Program} {N:Nat} {t:TypeId} (ht:P.underlying t=some .string):Vp P N t Ql9:=by
 intro H enc w n cs x _ h
 obtain⟨s,rfl,_,hs⟩:=DataW.trod_string ht h
 exact⟨s,by simp only [Ql9,Jl,Qdq,QgD,and_true];unfold maxLen at hs;omega,RdV.one (by rw [Rd])⟩

theorem Vp.map {α β:Type} {P:Program} {N:Nat} {t:TypeId} {F:α->List QD} {G:β->List QD} (h:Vp P N t F) (g:α->β) (hg:∀a,G (g a)=F a):Vp P N t G:=fun enc w n cs x hn hx=>by
 obtain⟨a,h1,h2⟩:=h enc w n cs x hn hx
 exact⟨g a,by rw [hg];exact h1,by rw [hg];exact h2⟩

def Qk2 {α:Type} (P:Program) (N:Nat) (fs:List Field) (off:Nat) (F:α->List QD):Prop:=
 ∀ {H:Type} (enc:TypeId×Value->H) (w:World) (n:Nat) (cs:List Value),n<=N->(∀f∈fs,∃x,DataW.trod enc P w 0 (fun _=>true) true n f.type ((cs.drop f.offset).take (P.cellsOf f.type))=some x)->cs.length=off+(fs.map fun f=>P.cellsOf f.type).sum->∃a,Jl (F a)/\RdV w (F a) (cs.drop off)

theorem Qk2.nil {P:Program} {N off:Nat}:Qk2 P N [] off (fun _:Unit=>[]):=fun enc w n cs _ _ hl=>⟨(),trivial,by
 rw [List.drop_of_length_le (by simp at hl;omega)];exact RdV.nil w⟩
theorem Qk2.cons {α β:Type} {P:Program} {N off c:Nat} {f:Field} {fs:List Field} {F:α->List QD} {G:β->List QD} (ho:f.offset=off) (hc:P.cellsOf f.type=c) (h:Vp P N f.type F) (h':Qk2 P N fs (off+c) G):
  Qk2 P N (f::fs) off (fun p:α×β=>F p.1++G p.2):=by
 intro H enc w n cs hn hf hl
 obtain⟨x,hx⟩:=hf f (by simp)
 obtain⟨a,a1,a2⟩:=h enc w n _ x hn hx
 simp only [I9,V8] at hl
 obtain⟨b,b1,b2⟩:=h' enc w n cs hn (fun g hg=>hf g (by simp [hg])) (by omega)
 refine⟨(a,b),Qf7.2 ⟨a1,b1⟩,?_⟩
 rw [ho,hc] at a2
 have e:cs.drop off=(cs.drop off).take c++cs.drop (off+c):=by rw [<-List.drop_drop,T7]
 rw [e]
 exact a2.append b2
theorem Vp.struct {α:Type} {P:Program} {N:Nat} {t:TypeId} {fs:Array Field} {F:α->List QD} (ht:P.underlying t=some (.struct fs)) (hc:P.cellsOf t=(fs.toList.map fun f=>P.cellsOf f.type).sum) (h:Qk2 P N fs.toList 0 F):Vp P (N+1) t F:=by
 intro H enc w n cs x hn hx
 obtain⟨xs,m,hm,_,hl,hlen,hf⟩:=DataW.trod_struct ht hx
 have:=h enc w m cs (by omega) (fun f hfm=>by
  obtain⟨i,hi,hfi⟩:=M0 hfm
  have hi':i<fs.size:=by simpa using hi
  have h1:=hf i f (by rw [Array.getElem?_eq_getElem hi'];simpa using hfi)
  rw [F8 (by omega)] at h1
  exact⟨_,h1⟩) (by rw [hl,hc,J3])
 simpa using this

end Go.Proofs.YtfjhdnjlhjimeaaGreatDoor
namespace Go.Proofs.YtfjhdnjlhjimeaaGreatDoor
open Go.RowKit

theorem QlY {a b:ByteArray} (h:a=b):Ending.returned (.string a)= .returned (.string b):=by rw [h]

theorem Qla (k:Int) (w:World) (h:k<=100000000):
  Calls Tryz.prog 55 #[.int .i64 k] w fun e w'=>e= .returned (.string (mt k))/\Qc [] w w':=by
 by_cases h0:k<=0
 ·go_enter Tryz.func55,Tryz.ntmps55
  go_wp2_with fail
  go_ret
  exact⟨QlY (by rw [mt,if_pos h0]),B0 _ _⟩
 ·have hm0:Hid (mt k=⟨#[109]⟩++mtL k.toNat k ⟨#[]⟩):=by show mt k=_;rw [mt,if_neg h0]
  go_enter Tryz.func55,Tryz.ntmps55
  go_wp2_with fail
  go_loopw [0,3] (fun n s wr=>∃(m:Int) (t:ByteArray) (f:Nat),n= .int .i64 m/\s= .string t/\0<=m/\m<=100000000/\Qc [] w wr/\m+t.size<=100000000/\m<=f/\Hid (mt k=⟨#[109]⟩++mtL f m t)) (fun n _ _=>(intOf n).toNat)
  case atStart=>exact⟨k,_,k.toNat,rfl,rfl,by omega,by omega,B0 _ _,by show k+((0:Nat):Int)<=_;omega,by omega,hm0⟩
  case round=>
   obtain⟨m,t,f,rfl,rfl,m0,m1,hc,ht,hf,hq⟩:=hrel
   by_cases hm:0<m
   ·have hce:∀i,i<1->(wr.alloc (.cells #[.int .u8 (48+m % 10)] 5)).cell? ⟨wr.heap.size,0+i,none⟩=some (.int .u8 ([48+m % 10].getD i 0)):=by
     intro i hi
     obtain rfl:i=0:=by omega
     rw [J3,World.cell?_alloc_mark]
     rfl
    have hcv:=run_convert_bytes_arg (P:=Tryz.prog) (wr.alloc (.cells #[.int .u8 (48+m % 10)] 5)) 22 5 Tryz.underlying22 Tryz.underlying5 wr.heap.size 0 1 1 [48+m % 10] rfl hce 9 Tryz.underlying9
    clear hce
    have hsz:(strOfNums [48+m % 10]).size=1:=strOfNums_size _
    obtain⟨d,hd⟩:∃d,d=strOfNums [48+m % 10]:=⟨_,rfl⟩
    rw [<-hd] at hcv hsz
    have HD:=Qb hd
    have hsz1:d.size<=1:=by omega
    have HS:=Qb hsz
    clear hd hsz
    go_wp2_with fail
    go_roundw
    case rel=>
     refine⟨m / 10,d++t,f-1,rfl,rfl,by omega,by omega,hc.alloc _,?_,by omega,?_⟩
     ·rw [M3,HS.out];omega
     ·obtain⟨f',rfl⟩:∃f',f=f'+1:=⟨f-1,by omega⟩
      show mt k=_
      rw [hq.out,mtL,if_pos hm, <-HD.out]
      rfl
    case measure=>simp [intOf];omega
   ·go_wp2_with fail
    go_ret
    refine⟨QlY ?_,hc⟩
    rw [hq.out]
    cases f with
    |zero=>rfl
    |succ f=>rw [mtL,if_neg (by omega)]

def Left (left:Int) (wtq:Nat) (r:Int):Prop:=((wtq:Int)<=left/\r=left-wtq)∨(left<wtq/\r= -1)
def QlG (left:Int) (wtq:Nat) (w:World) (e:Ending) (w':World):Prop:=∃r,e= .returned (.int .i64 r)/\Left left wtq r/\Qc [] w w'
theorem Left.no {left:Int} {wtq:Nat} (h:left<wtq):Left left wtq (-1):=.inr ⟨h,rfl⟩
theorem Left.ok {left:Int} {wtq:Nat} {r:Int} (h:(wtq:Int)<=left) (hr:r=left-wtq):Left left wtq r:=.inl ⟨h,hr⟩
theorem Left.bd {left:Int} {wtq:Nat} {r:Int} (h:Left left wtq r) (h0:0<=left): -1<=r/\r<=left:=by unfold Left at h;omega

theorem QlU {n:Nat} {cs:List QD} (h:Jl [.s n cs]):Jl cs:=by
 simp only [Jl,Qdq] at h
 exact h.1.2

def Qle {α:Type} (M:α->Int->α) (N:α->Nat):List α->Int->List α
 | [],_=>[]
 |a::l,k=>M a k::Qle M N l (k+N a)
section
variable {α:Type} {M:α->Int->α} {N:α->Nat}
theorem Qlj:∀(l:List α) (k:Int),(Qle M N l k).length=l.length
 | [],_=>rfl
 |a::l,k=>by rw [Qle,I1,Qlj l,I1]
theorem Qlx:∀(l m:List α) (k:Int),Qle M N (l++m) k=Qle M N l k++Qle M N m (k+(l.map N).sum)
 | [],m,k=>by simp [Qle]
 |a::l,m,k=>by rw [M2,Qle,Qlx l m,Qle,M2,I9,V8];simp [Int.add_assoc]
variable {F:α->List QD}
theorem QlQ (l:List α) (k:Int) (i:Nat) (h:i<l.length):(Qle M N (l.take i) k++l.drop i).flatMap F=(Qle M N (l.take i) k).flatMap F++(F l[i] ++(l.drop (i+1)).flatMap F):=by
 rw [N6 h,J0,J6]
theorem QlF (l:List α) (k:Int) (i:Nat) (h:i<l.length):(Qle M N (l.take (i+1)) k++l.drop (i+1)).flatMap F=(Qle M N (l.take i) k).flatMap F++(F (M l[i] (k+((l.take i).map N).sum))++(l.drop (i+1)).flatMap F):=by
 rw [G6 h,Qlx,J0,J0];simp [Qle]
theorem Ql3 {c:Nat} (hF:∀a,(F a).length=c) (l:List α) (k:Int) (i:Nat) (h:i<l.length):((Qle M N (l.take i) k).flatMap F).length=i * c:=by
 rw [Zs hF,Qlj,J7,Nat.min_eq_left (by omega)]
end
end Go.Proofs.YtfjhdnjlhjimeaaGreatDoor

set_option maxRecDepth 100000
set_option maxHeartbeats 2000000
namespace Go.Proofs.YtfjhdnjlhjimeaaGreatDoor
open Go.RowKit

theorem Ql7 (a:QL):QgW a=[.v (.string a.method),.v (.string a.key),.v (.int .i64 a.value),.v (.string a.text)]:=rfl
theorem Ql2 (a:QL) (left:Int) (w:World) (h0:0<=left) (hl:left<=1048576) (hf:Jl (QgW a)):
  Calls Tryz.prog 75 #[.agg #[.string a.method,.string a.key,.int .i64 a.value,.string a.text],.int .i64 left] w (QlG left (xd a) w):=by
 simp only [QgW,Qf7] at hf
 obtain⟨f0,f1,f2,f3⟩:=hf
 simp only [Jl,Qdq,QgD,and_true] at f0
 simp only [Jl,Qdq,QgD,and_true] at f1
 simp only [Jl,Qdq,QgD,and_true] at f2
 simp only [Jl,Qdq,QgD,and_true] at f3
 go_enter Tryz.func75,Tryz.ntmps75
 go_wp2_with fail
 all_goals
  go_ret
  exact⟨_,rfl,by(first|exact Left.no (by(try unfold Left at *);(try unfold xd);omega)|exact Left.ok (by(try unfold Left at *);(try unfold xd);omega) (by(try unfold Left at *);(try unfold xd);omega)),(B0 _ _).alloc _⟩

theorem Ql1 (a:QL) (w:World) (_hW:xd a<=1048576):
  Calls Tryz.prog 80 #[.agg #[.string a.method,.string a.key,.int .i64 a.value,.string a.text]] w (fun e w'=>e= .returned (.agg #[.string a.method,.string a.key,.int .i64 a.value,.string a.text])/\YW w w' (QgW a) [.string a.method,.string a.key,.int .i64 a.value,.string a.text]):=by
 go_enter Tryz.func80,Tryz.ntmps80
 go_wp2_with fail
 refine bodyPost_ret (v:=.agg #[.string a.method,.string a.key,.int .i64 a.value,.string a.text]) (by simp only [results,Tryz.results80];go_simp) rfl ⟨rfl,?_⟩
 rw [Ql7]
 repeat refine YW.cons_v ?_
 refine YW.nil ?_
 repeat(first|with_reducible exact B0 _ _|with_reducible refine i6 ?_|with_reducible refine U4 ?_ _|with_reducible refine Q8 ?_ (.inr (by simp;try omega)) _)

theorem Ql5 (a:QL) (w:World):
  Calls Tryz.prog 83 #[.agg #[.string a.method,.string a.key,.int .i64 a.value,.string a.text],.agg #[.string a.method,.string a.key,.int .i64 a.value,.string a.text]] w fun e w'=>e= .returned (.bool true)/\Qc [] w w':=by
 go_enter Tryz.func83,Tryz.ntmps83
 go_wp2_with fail
 go_ret
 exact⟨rfl,((B0 _ _).alloc _).alloc _⟩

theorem Qlo (a:Qa):QO a=[.v (.int .i64 a.op)] ++([.v (.int .i64 a.slot)] ++([.v (.int .i64 a.other)] ++([.v (.string a.word)] ++(QgW a.call++([.v (.int .i64 a.face)] ++([QA a.A] ++ [QA a.B])))))):=by rw [Vi];rfl
mutual
def Qk1:Qa->Nat
 | .mk _ _ _ _ _ _ A B=>9+Qlc A+Qlc B
def Qlc:List Qa->Nat
 | []=>0
 |a::l=>Qk1 a+Qlc l
end
theorem Qld:∀l:List Qa,Qlc l=(l.map Qk1).sum
 | []=>by rw [Qlc];rfl
 |a::l=>by rw [Qlc,Qld l];rfl
def Qk3 (l:List Qa):Nat:=(l.map Qk1).sum
theorem Qlq (a:Qa):Qk1 a=9+Qk3 a.A+Qk3 a.B:=by
 cases a;rw [Qk1,Qld,Qld];rfl
mutual
def Qk6:Qa->Int->Qa
 | .mk _ _ _ _ _ _ A B,k=>.mk (k) (k+1) (k+1+1) (mt (k+1+1+1)) ⟨(mt (k+1+1+1+1)),(mt (k+1+1+1+1+1)),(k+1+1+1+1+1+1),(mt (k+1+1+1+1+1+1+1))⟩ (k+1+1+1+1+1+1+1+1) (Qlh A (k+1+1+1+1+1+1+1+1+1)) (Qlh B (k+1+1+1+1+1+1+1+1+1+Qlc A))
def Qlh:List Qa->Int->List Qa
 | [],_=>[]
 |a::l,k=>Qk6 a k::Qlh l (k+Qk1 a)
end
theorem Qli:∀(l:List Qa) (k:Int),Qlh l k=Qle Qk6 Qk1 l k
 | [],_=>by rw [Qlh];rfl
 |a::l,k=>by rw [Qlh,Qli l];rfl
def Qlf (l:List Qa) (k:Int):List Qa:=Qle Qk6 Qk1 l k
theorem QlW (a:Qa) (k:Int):Qk6 a k= .mk (k) (k+1) (k+1+1) (mt (k+1+1+1)) ⟨(mt (k+1+1+1+1)),(mt (k+1+1+1+1+1)),(k+1+1+1+1+1+1),(mt (k+1+1+1+1+1+1+1))⟩ (k+1+1+1+1+1+1+1+1) (Qlf a.A (k+1+1+1+1+1+1+1+1+1)) (Qlf a.B (k+1+1+1+1+1+1+1+1+1+Qk3 a.A)):=by
 cases a;rw [Qk6,Qli,Qli,Qld];rfl
theorem Ql4 (a:Qa) (k:Int):QO (Qk6 a k)=[.v (.int .i64 (k)),.v (.int .i64 (k+1)),.v (.int .i64 (k+1+1)),.v (.string (mt (k+1+1+1))),.v (.string (mt (k+1+1+1+1))),.v (.string (mt (k+1+1+1+1+1))),.v (.int .i64 (k+1+1+1+1+1+1)),.v (.string (mt (k+1+1+1+1+1+1+1))),.v (.int .i64 (k+1+1+1+1+1+1+1+1)),QA (Qlf a.A (k+1+1+1+1+1+1+1+1+1)),QA (Qlf a.B (k+1+1+1+1+1+1+1+1+1+Qk3 a.A))]:=by rw [QlW,Vi];rfl
def Qk9 (l:List Qa):Prop:=∀(left:Int) (u:Value) (B:Nat) (w:World) (_h0:0<=left) (_hl:left<=1048576) (_hf:Jl [QA l]) (_hr:Rd w B (QA l) u) (_hBw:B<=w.heap.size),Calls Tryz.prog 18 #[u,.int .i64 left] w (QlG left (Qi l) w)
theorem QlL (a:Qa) (hA:Qk9 a.A) (hB:Qk9 a.B) (left:Int) (u9 u10:Value) (B:Nat) (w:World) (h0:0<=left) (hl:left<=1048576) (hf:Jl (QO a)) (r9:Rd w B (QA a.A) u9) (r10:Rd w B (QA a.B) u10) (hBw:B<=w.heap.size):
  Calls Tryz.prog 48 #[.agg #[.int .i64 a.op,.int .i64 a.slot,.int .i64 a.other,.string a.word,.string a.call.method,.string a.call.key,.int .i64 a.call.value,.string a.call.text,.int .i64 a.face,u9,u10],.int .i64 left] w (QlG left (Xv a) w):=by
 rw [Qlo] at hf;simp only [Qf7] at hf
 obtain⟨f0,f1,f2,f3,f4,f5,f6,f7⟩:=hf
 simp only [Jl,Qdq,QgD,and_true] at f0
 simp only [Jl,Qdq,QgD,and_true] at f1
 simp only [Jl,Qdq,QgD,and_true] at f2
 simp only [Jl,Qdq,QgD,and_true] at f3
 have g4:=Qb f4;clear f4
 simp only [Jl,Qdq,QgD,and_true] at f5
 have g6:=Qb f6;clear f6
 have g7qq:=Qb f7;clear f7
 have HA:=Qb hA;have HB:=Qb hB;clear hA hB
 go_enter Tryz.func48,Tryz.ntmps48
 go_wp2_with fail
 all_goals try(go_ret;exact⟨_,rfl,by(first|exact Left.no (by(try unfold Left at *);(try rw [Wf]);omega)|exact Left.ok (by(try unfold Left at *);(try rw [Wf]);omega) (by(try unfold Left at *);(try rw [Wf]);omega)),(B0 _ _).alloc _⟩;done)
 refine(Ql2 a.call _ _ (by omega) (by omega) g4.out).mono ?_;rintro e w1 ⟨r1_,rfl,L1qq,C1⟩
 have D1:Qc [] w w1:=H0 (((B0 _ _).alloc _)) C1
 have bd1:=L1qq.bd (by omega)
 have s1:w.heap.size<w1.heap.size:=by have:=C1.size;simp at this;omega
 obtain⟨y1,_,_⟩:=C1.cells
 go_wp2_with fail
 all_goals try(go_ret;exact⟨_,rfl,by(first|exact Left.no (by(try unfold Left at *);(try rw [Wf]);omega)|exact Left.ok (by(try unfold Left at *);(try rw [Wf]);omega) (by(try unfold Left at *);(try rw [Wf]);omega)),D1⟩;done)
 refine(HA.out _ u9 B _ (by omega) (by omega) g6.out (r9.cz (D1) hBw) (by have:=D1.size;omega)).mono ?_;rintro e w2 ⟨r2_,rfl,L2qq,C2⟩
 have D2:Qc [] w w2:=H0 (D1) C2
 have bd2:=L2qq.bd (by omega)
 have s2:w.heap.size<w2.heap.size:=by have:=C2.size;omega
 obtain⟨y2,_,_⟩:=C2.cells
 go_wp2_with fail
 all_goals try(go_ret;exact⟨_,rfl,by(first|exact Left.no (by(try unfold Left at *);(try rw [Wf]);omega)|exact Left.ok (by(try unfold Left at *);(try rw [Wf]);omega) (by(try unfold Left at *);(try rw [Wf]);omega)),D2⟩;done)
 refine(HB.out _ u10 B _ (by omega) (by omega) g7qq.out (r10.cz (D2) hBw) (by have:=D2.size;omega)).mono ?_;rintro e w3 ⟨r3_,rfl,L3qq,C3⟩
 have D3:Qc [] w w3:=H0 (D2) C3
 have bd3:=L3qq.bd (by omega)
 have s3:w.heap.size<w3.heap.size:=by have:=C3.size;omega
 obtain⟨y3,_,_⟩:=C3.cells
 go_wp2_with fail
 all_goals
  go_ret
  exact⟨_,rfl,by(first|exact Left.no (by(try unfold Left at *);(try rw [Wf]);omega)|exact Left.ok (by(try unfold Left at *);(try rw [Wf]);omega) (by(try unfold Left at *);(try rw [Wf]);omega)),D3⟩

theorem Qlv:∀l,Qk9 l:=by
 refine j4 fun l ih=>?_
 intro left u B w h0 hl hf hr hBw
 have IH:=Qb ih
 clear ih
 obtain⟨A,cap,rfl,h1,h2,hrow⟩:=Qr hr
 unfold maxLen at h2
 have HF:=Qb hf
 clear hr hf
 go_enter Tryz.func18,Tryz.ntmps18
 go_wp2_with fail
 ·go_ret
  exact⟨_,rfl,Left.no (by unfold Qi;omega),B0 _ _⟩
 go_loopw [1,5] (fun r i wr=>∃(k:Nat) (x:Int),k<=l.length/\i= .int .i64 k/\r= .int .i64 x/\Qc [] w wr/\0<=x/\x<=left/\Hid (x=left-l.length-Wv (l.take k))) (fun _ i _=>l.length-(intOf i).toNat)
 case atStart=>exact⟨0,_,I3 _,rfl,rfl,B0 _ _,by omega,by omega,by simp [Wv,Hid]⟩
 case round=>
  obtain⟨k,x,hk,rfl,rfl,hc,hx0,hxl,HX⟩:=hrel
  by_cases hlt:k<l.length
  ·obtain⟨b,off,u9,u10,rfl,hb,q0,q1,q2,q3,q4,q5,q6,q7,q8,q9,q10,r9,r10⟩:=Yh (hrow.cz hc hBw) k hlt
   have hsz:Hid (Wv (l.take (k+1))=Wv (l.take k)+Xv l[k] /\Wv (l.take (k+1))<=Wv l):=⟨Qe8 Xv l k hlt,Qff Xv l (k+1)⟩
   have hfk:=Qb (kS.1 (QlU HF.out) _ (I4 hlt))
   go_wp2_with fail
   refine(QlL l[k] (IH.out _ (I4 hlt)).1 (IH.out _ (I4 hlt)).2 _ u9 u10 B _ (by omega) (by omega) hfk.out r9 r10 (by have:=hc.size;omega)).mono ?_
   rintro e w1 ⟨r1_,rfl,L1qq,C1⟩
   have D1:Qc [] w w1:=hc.tz C1
   have bd1:=L1qq.bd (by omega)
   go_wp2_with fail
   ·go_ret
    refine⟨_,rfl,Left.no ?_,D1⟩
    have:=HX.out;have:=hsz.out
    simp only [Left] at L1qq
    unfold Qi
    omega
   ·go_roundw
    case rel=>
     refine⟨k+1,r1_,by omega,by go_num,rfl,D1,by omega,by omega,?_⟩
     have:=HX.out;have:=hsz.out
     simp only [Left] at L1qq
     show r1_=_
     omega
    case measure=>simp [intOf];omega
  ·go_wp2_with fail
   go_ret
   obtain rfl:k=l.length:=by omega
   have h5:=HX.out
   rw [I8] at h5
   exact⟨_,rfl,Left.ok (by unfold Qi;omega) (by unfold Qi;omega),hc⟩

theorem QlD (l:List Qa) (left:Int) (u:Value) (B:Nat) (w:World) (h0:0<=left) (hl:left<=1048576) (hf:Jl [QA l]) (hr:Rd w B (QA l) u) (hBw:B<=w.heap.size):
  Calls Tryz.prog 18 #[u,.int .i64 left] w (QlG left (Qi l) w):=Qlv l left u B w h0 hl hf hr hBw

def Qk8 (l:List Qa):Prop:=∀(u:Value) (B:Nat) (w:World) (_hl:Qi l<=1048576) (_hr:Rd w B (QA l) u) (_hB:B<=w.heap.size),Calls Tryz.prog 20 #[u] w (KW (QA l) w)
theorem QlK (a:Qa) (hA:Qk8 a.A) (hB:Qk8 a.B) (u9 u10:Value) (B:Nat) (w:World) (hW:Xv a<=1048576) (r9:Rd w B (QA a.A) u9) (r10:Rd w B (QA a.B) u10) (hBw:B<=w.heap.size):
  Calls Tryz.prog 51 #[.agg #[.int .i64 a.op,.int .i64 a.slot,.int .i64 a.other,.string a.word,.string a.call.method,.string a.call.key,.int .i64 a.call.value,.string a.call.text,.int .i64 a.face,u9,u10]] w (fun e w'=>∃A9 cap9 A10 cap10,e= .returned (.agg #[.int .i64 a.op,.int .i64 a.slot,.int .i64 a.other,.string a.word,.string a.call.method,.string a.call.key,.int .i64 a.call.value,.string a.call.text,.int .i64 a.face,.slice A9 a.A.length cap9,.slice A10 a.B.length cap10])/\YW w w' (QO a) [.int .i64 a.op,.int .i64 a.slot,.int .i64 a.other,.string a.word,.string a.call.method,.string a.call.key,.int .i64 a.call.value,.string a.call.text,.int .i64 a.face,.slice A9 a.A.length cap9,.slice A10 a.B.length cap10]):=by
 rw [Wf] at hW
 have HA:=Qb hA;have HB:=Qb hB;clear hA hB
 go_enter Tryz.func51,Tryz.ntmps51
 go_wp2_with fail
 refine(Ql1 a.call _ (by omega) ).mono ?_;rintro e w1 ⟨rfl,n1⟩
 obtain⟨y1,z1,s1⟩:=n1.chg.cells
 have d1:Qc [] w w1:=H0 C6 n1.chg
 have t1:w.heap.size+1+1<w1.heap.size:=by simp at s1;omega
 have t1':w.heap.size+1<w1.heap.size:=by omega
 have t1'':w.heap.size<w1.heap.size:=by omega
 go_wp2_with fail
 refine(HA.out u9 B _ (by omega) (r9.cz (H9 d1) hBw) (by simp;omega)).mono ?_;intro e w2 G2;obtain⟨A9,cap9,rfl,n2⟩:=G2.sl
 obtain⟨y2,z2,s2⟩:=n2.chg.cells
 have d2:Qc [] w w2:=H0 (H9 d1) n2.chg
 have t2:w.heap.size+1+1<w2.heap.size:=by simp at s2;omega
 have t2':w.heap.size+1<w2.heap.size:=by omega
 have t2'':w.heap.size<w2.heap.size:=by omega
 go_wp2_with fail
 refine(HB.out u10 B _ (by omega) (r10.cz (H9 d2) hBw) (by simp;omega)).mono ?_;intro e w3 G3;obtain⟨A10,cap10,rfl,n3⟩:=G3.sl
 obtain⟨y3,z3,s3⟩:=n3.chg.cells
 have d3:Qc [] w w3:=H0 (H9 d2) n3.chg
 have t3:w.heap.size+1+1<w3.heap.size:=by simp at s3;omega
 have t3':w.heap.size+1<w3.heap.size:=by omega
 have t3'':w.heap.size<w3.heap.size:=by omega
 go_wp2_with fail
 refine bodyPost_ret (v:=.agg #[.int .i64 a.op,.int .i64 a.slot,.int .i64 a.other,.string a.word,.string a.call.method,.string a.call.key,.int .i64 a.call.value,.string a.call.text,.int .i64 a.face,.slice A9 a.A.length cap9,.slice A10 a.B.length cap10]) (by simp only [results,Tryz.results51];go_simp) rfl ⟨_,_,_,_,rfl,?_⟩
 rw [Qlo]
 refine VU.start (T:=[w.heap.size+1,w.heap.size+1+1]) ?_ (by intro x hx;simp at hx;omega)
 refine VU.cons_v ?_
 refine VU.cons_v ?_
 refine VU.cons_v ?_
 refine VU.cons_v ?_
 refine VU.app_new n1 (by intro x hx;simp at hx ⊢;omega) C6 (B0 _ _) ?_
 refine VU.cons_v ?_
 refine VU.cons_new n2 (by intro x hx;simp at hx ⊢;omega) C6 (B0 _ _) ?_
 refine VU.cons_new n3 (by intro x hx;simp at hx ⊢;omega) C6 (B0 _ _) ?_
 refine VU.nil ?_
 repeat(first|with_reducible exact B0 _ _|with_reducible refine i6 ?_|with_reducible refine U4 ?_ _|with_reducible refine Q8 ?_ (.inl (by simp)) _)

def Qlr:List QD:=[.v (.int .i64 0),.v (.int .i64 0),.v (.int .i64 0),.v (.string ⟨#[]⟩),.v (.string ⟨#[]⟩),.v (.string ⟨#[]⟩),.v (.int .i64 0),.v (.string ⟨#[]⟩),.v (.int .i64 0),.s 0 [],.s 0 []]
theorem QlM (w:World):Qt w Qlr [.int .i64 0,.int .i64 0,.int .i64 0,.string ⟨#[]⟩,.string ⟨#[]⟩,.string ⟨#[]⟩,.int .i64 0,.string ⟨#[]⟩,.int .i64 0,.slice none 0 0,.slice none 0 0] []:=by
 have h:Zm w Qlr [.int .i64 0,.int .i64 0,.int .i64 0,.string ⟨#[]⟩,.string ⟨#[]⟩,.string ⟨#[]⟩,.int .i64 0,.string ⟨#[]⟩,.int .i64 0,.slice none 0 0,.slice none 0 0] []:=by
  unfold Qlr
  repeat(first|with_reducible exact T8 _|with_reducible refine I2 ?_|with_reducible refine Zm.cons_nil ?_)
 exact h.1
theorem Qlu:∀l,Qk8 l:=by
 refine j4 fun l ih=>?_
 intro u B w hl hr hB
 have IH:=Qb ih
 clear ih
 have hll:l.length<=1048576:=by unfold Qi at hl;omega
 obtain⟨A,cap,rfl,h0,h1,hrow⟩:=Qr hr
 have hmk:=fun W=>qh (P:=Tryz.prog) 24 33 _ 11 152 Tryz.underlying24 WJ .i64 .i64 l.length l.length (F0 _) (by omega) (by omega) W
 unfold maxLen at h1
 clear hr
 go_enter Tryz.func20,Tryz.ntmps20
 go_wp2_with fail
 go_loopw [4] (fun i wr=>∃k:Nat,k<=l.length/\i= .int .i64 k/\qt w wr (.s l.length (jo QO Qlr l k)) (.slice (some ⟨w.heap.size,0,none⟩) l.length l.length)) (fun i _=>l.length-(intOf i).toNat)
 case atStart=>exact⟨0,I3 _,rfl,qt.make w 33 _ 11 rfl (by omega) Qlr QlM QO l l.length rfl (by unfold maxLen;omega)⟩
 case round=>
  obtain⟨k,hk,rfl,hh⟩:=hrel
  by_cases hlt:k<l.length
  ·obtain⟨b,off,u9,u10,rfl,hb,q0,q1,q2,q3,q4,q5,q6,q7,q8,q9,q10,r9,r10⟩:=Yh (hrow.cz hh.chg hB) k hlt
   have hwt:=zi (I4 hlt)
   go_wp2_with fail
   refine(QlK l[k] (IH.out _ (I4 hlt)).1 (IH.out _ (I4 hlt)).2 u9 u10 B _ (by unfold Qi at hl;omega) r9 r10 (by have:=hh.chg.size;omega)).mono ?_;rintro e w1 ⟨A9,cap9,A10,cap10,rfl,n1⟩
   have hset:=hh.fill Yg rfl hlt n1
   have hh1:=hh.later n1.chg
   obtain⟨rm0,x0,rc0⟩:=hh1.room (j:=k * 11) (by rw [Qk0 Yg rfl _ _ hk];omega)
   obtain⟨rm1,x1,rc1⟩:=hh1.room (j:=k * 11+1) (by rw [Qk0 Yg rfl _ _ hk];omega)
   obtain⟨rm2,x2,rc2⟩:=hh1.room (j:=k * 11+2) (by rw [Qk0 Yg rfl _ _ hk];omega)
   obtain⟨rm3,x3,rc3⟩:=hh1.room (j:=k * 11+3) (by rw [Qk0 Yg rfl _ _ hk];omega)
   obtain⟨rm4,x4,rc4⟩:=hh1.room (j:=k * 11+4) (by rw [Qk0 Yg rfl _ _ hk];omega)
   obtain⟨rm5,x5,rc5⟩:=hh1.room (j:=k * 11+5) (by rw [Qk0 Yg rfl _ _ hk];omega)
   obtain⟨rm6,x6q,rc6⟩:=hh1.room (j:=k * 11+6) (by rw [Qk0 Yg rfl _ _ hk];omega)
   obtain⟨rm7,x7,rc7⟩:=hh1.room (j:=k * 11+7) (by rw [Qk0 Yg rfl _ _ hk];omega)
   obtain⟨rm8,x8,rc8⟩:=hh1.room (j:=k * 11+8) (by rw [Qk0 Yg rfl _ _ hk];omega)
   obtain⟨rm9,x9,rc9⟩:=hh1.room (j:=k * 11+9) (by rw [Qk0 Yg rfl _ _ hk];omega)
   obtain⟨rm10,x10,rc10⟩:=hh1.room (j:=k * 11+10) (by rw [Qk0 Yg rfl _ _ hk];omega)
   go_wp2_with fail
   go_roundw
   case rel=>exact⟨k+1,by omega,by go_num,hset⟩
   case measure=>simp [intOf];omega
  ·obtain rfl:k=l.length:=by omega
   rw [QlS] at hh
   go_wp2_with fail
   go_ret
   exact⟨_,rfl,hh⟩

theorem Qk7 (l:List Qa) (u:Value) (B:Nat) (w:World) (hl:Qi l<=1048576) (hr:Rd w B (QA l) u) (hB:B<=w.heap.size):
  Calls Tryz.prog 20 #[u] w (KW (QA l) w):=Qlu l u B w hl hr hB

def Qk5 (l:List Qa):Prop:=∀(u v:Value) (B B':Nat) (w:World) (_hr:Rd w B (QA l) u) (_hs:Rd w B' (QA l) v) (_hB:B<=w.heap.size) (_hB':B'<=w.heap.size),Calls Tryz.prog 23 #[u,v] w fun e w'=>e= .returned (.bool true)/\Qc [] w w'
theorem QlO (a:Qa) (hA:Qk5 a.A) (hB:Qk5 a.B) (u9 u10 v9 v10:Value) (B B':Nat) (w:World) (r9:Rd w B (QA a.A) u9) (r10:Rd w B (QA a.B) u10) (s9:Rd w B' (QA a.A) v9) (s10:Rd w B' (QA a.B) v10) (hBw:B<=w.heap.size) (hBw':B'<=w.heap.size):
  Calls Tryz.prog 54 #[.agg #[.int .i64 a.op,.int .i64 a.slot,.int .i64 a.other,.string a.word,.string a.call.method,.string a.call.key,.int .i64 a.call.value,.string a.call.text,.int .i64 a.face,u9,u10],.agg #[.int .i64 a.op,.int .i64 a.slot,.int .i64 a.other,.string a.word,.string a.call.method,.string a.call.key,.int .i64 a.call.value,.string a.call.text,.int .i64 a.face,v9,v10]] w fun e w'=>e= .returned (.bool true)/\Qc [] w w':=by
 have HA:=Qb hA;have HB:=Qb hB;clear hA hB
 go_enter Tryz.func54,Tryz.ntmps54
 go_wp2_with fail
 refine(Ql5 a.call _).mono ?_;rintro e w1 ⟨rfl,c1⟩
 obtain⟨y1,_,z1⟩:=c1.cells
 have d1:Qc [] w w1:=H0 (((B0 _ _).alloc _).alloc _) c1
 have t1:w.heap.size+1<w1.heap.size:=by simp at z1;omega
 have t1':w.heap.size<w1.heap.size:=by omega
 go_wp2_with fail
 refine(HA.out u9 v9 B B' _ (r9.cz (d1) hBw) (s9.cz (d1) hBw') (by have:=d1.size;omega) (by have:=d1.size;omega)).mono ?_;rintro e w2 ⟨rfl,c2⟩
 obtain⟨y2,_,z2⟩:=c2.cells
 have d2:Qc [] w w2:=H0 (d1) c2
 have t2:w.heap.size+1<w2.heap.size:=by omega
 have t2':w.heap.size<w2.heap.size:=by omega
 go_wp2_with fail
 refine(HB.out u10 v10 B B' _ (r10.cz (d2) hBw) (s10.cz (d2) hBw') (by have:=d2.size;omega) (by have:=d2.size;omega)).mono ?_;rintro e w3 ⟨rfl,c3⟩
 obtain⟨y3,_,z3⟩:=c3.cells
 have d3:Qc [] w w3:=H0 (d2) c3
 have t3:w.heap.size+1<w3.heap.size:=by omega
 have t3':w.heap.size<w3.heap.size:=by omega
 go_wp2_with fail
 go_ret
 exact⟨rfl,d3⟩

theorem Qlp:∀l,Qk5 l:=by
 refine j4 fun l ih=>?_
 intro u v B B' w hr hs hB hB'
 have IH:=Qb ih
 clear ih
 obtain⟨A,cap,rfl,h0,h1,hrow⟩:=Qr hr
 obtain⟨A',cap',rfl,h0',h1',hrow'⟩:=Qr hs
 unfold maxLen at h1 h1'
 clear hr hs
 go_enter Tryz.func23,Tryz.ntmps23
 go_wp2_with fail
 go_loopw [5] (fun i wr=>∃k:Nat,k<=l.length/\i= .int .i64 k/\Qc [] w wr) (fun i _=>l.length-(intOf i).toNat)
 case atStart=>exact⟨0,I3 _,rfl,B0 _ _⟩
 case round=>
  obtain⟨k,hk,rfl,hc⟩:=hrel
  by_cases hlt:k<l.length
  ·obtain⟨b,off,u9,u10,rfl,hb,q0,q1,q2,q3,q4,q5,q6,q7,q8,q9,q10,r9,r10⟩:=Yh (hrow.cz hc hB) k hlt
   obtain⟨b',off',v9,v10,rfl,hb',p0,p1,p2,p3,p4,p5,p6,p7,p8,p9,p10,s9,s10⟩:=Yh (hrow'.cz hc hB') k hlt
   have el:=fun W (hW:Qc [] wr W)=>QlO l[k] (IH.out _ (I4 hlt)).1 (IH.out _ (I4 hlt)).2 u9 u10 v9 v10 B B' W (r9.cz hW (by have:=hc.size;omega)) (r10.cz hW (by have:=hc.size;omega)) (s9.cz hW (by have:=hc.size;omega)) (s10.cz hW (by have:=hc.size;omega)) (by have:=hc.size;have:=hW.size;omega) (by have:=hc.size;have:=hW.size;omega)
   have EL:=Qb el
   clear el
   go_wp2_with fail
   go_still_tail 8,(by kernel_rfl)
   change wpList _ _ _ _ _ wr.drew
   go_wp2_with fail
   refine(EL.out _ ((B0 _ _).drew)).mono ?_;rintro e w1 ⟨rfl,c1⟩
   go_wp2_with fail
   go_roundw
   case rel=>exact⟨k+1,by omega,by go_num,hc.drew.tz c1⟩
   case measure=>simp [intOf];omega
  ·obtain rfl:k=l.length:=by omega
   go_wp2_with fail
   go_ret
   exact⟨rfl,hc⟩

theorem QlC (l:List Qa) (u v:Value) (B B':Nat) (w:World) (hr:Rd w B (QA l) u) (hs:Rd w B' (QA l) v) (hB:B<=w.heap.size) (hB':B'<=w.heap.size):
  Calls Tryz.prog 23 #[u,v] w fun e w'=>e= .returned (.bool true)/\Qc [] w w':=Qlp l u v B B' w hr hs hB hB'

def Qlt (l:List Qa):Prop:=∀(u:Value) (S:List Nat) (k0:Int) (w:World) (_hk0:0<=k0) (_hkb:k0+Qk3 l<=100000000) (_hh:Yp w (QA l) u S),Calls Tryz.prog 24 #[u,.int .i64 k0] w fun e w'=>e= .returned (.int .i64 (k0+Qk3 l))/\Yp w' (QA (Qlf l k0)) u S/\Qc S w w'
theorem Qlm:∀l,Qlt l:=by
 refine j4 fun l ih=>?_
 intro u S k0 w hk0 hkb hh
 have IH:=Qb ih
 clear ih
 obtain⟨A,cap,rfl,h0,h1,_⟩:=hh.rd.at_
 unfold maxLen at h1
 go_enter Tryz.func24,Tryz.ntmps24
 go_wp2_with fail
 go_loopw [1,5] (fun r i wr=>∃(i':Nat) (k:Int),i'<=l.length/\i= .int .i64 i'/\r= .int .i64 k/\0<=k/\k<=100000000/\Hid (k=k0+((l.take i').map Qk1).sum)/\Yp wr (.s l.length ((Qle Qk6 Qk1 (l.take i') k0++l.drop i').flatMap QO)) (.slice A l.length cap) S/\Qc S w wr) (fun _ i _=>l.length-(intOf i).toNat)
 case atStart=>exact⟨0,k0,I3 _,rfl,rfl,hk0,by omega,by simp [Hid],by simp only [T9,Qle,J9,List.drop_zero];exact hh,B0 _ _⟩
 case round=>
  obtain⟨i,k,hi,rfl,rfl,hk1,hk2,hkq,H0qq,hc⟩:=hrel
  by_cases hlt:i<l.length
  ·obtain⟨g,rfl,hgS⟩:=H0qq.own (by omega)
   have hn1:k+Qk1 l[i] <=100000000:=by
    have:=Qe8 Qk1 l i hlt;have:=Qff Qk1 l (i+1);have:=hkq.out;unfold Qk3 at hkb;omega
   rw [Qlq] at hn1
   rw [QlQ l k0 i hlt,Vi] at H0qq
   have hX:=Ql3 (M:=Qk6) (N:=Qk1) Yg l k0 i hlt
   obtain⟨rf0_0,rx0_0,rc0_0⟩:=H0qq.room0 hX (by simp)
   obtain⟨rf0_1,rx0_1,rc0_1⟩:=H0qq.roomAt hX 1 (by simp)
   obtain⟨rf0_2,rx0_2,rc0_2⟩:=H0qq.roomAt hX 2 (by simp)
   have P0:=(((H0qq.set0 hX rfl (.int .i64 (k))).setAt hX (j:=1) rfl (.int .i64 (k+1))).setAt hX (j:=2) rfl (.int .i64 (k+1+1)))
   go_wp2_with fail
   refine(Qla _ _ (by omega)).mono ?_;rintro e w1 ⟨rfl,c1⟩
   have H1:=P0.kz c1
   have D1:Qc S w w1:=H0 (H9 hc) c1
   obtain⟨rf1_3,rx1_3,rc1_3⟩:=H1.roomAt hX 3 (by simp)
   have P1:=(H1.setAt hX (j:=3) rfl (.string (mt (k+1+1+1))))
   go_wp2_with fail
   refine(Qla _ _ (by omega)).mono ?_;rintro e w2 ⟨rfl,c2⟩
   have H2:=P1.kz c2
   have D2:Qc S w w2:=H0 (H9 D1) c2
   obtain⟨rf2_4,rx2_4,rc2_4⟩:=H2.roomAt hX 4 (by simp)
   have P2:=(H2.setAt hX (j:=4) rfl (.string (mt (k+1+1+1+1))))
   go_wp2_with fail
   refine(Qla _ _ (by omega)).mono ?_;rintro e w3 ⟨rfl,c3⟩
   have H3:=P2.kz c3
   have D3:Qc S w w3:=H0 (H9 D2) c3
   obtain⟨rf3_5,rx3_5,rc3_5⟩:=H3.roomAt hX 5 (by simp)
   obtain⟨rf3_6,rx3_6,rc3_6⟩:=H3.roomAt hX 6 (by simp)
   have P3:=((H3.setAt hX (j:=5) rfl (.string (mt (k+1+1+1+1+1)))).setAt hX (j:=6) rfl (.int .i64 (k+1+1+1+1+1+1)))
   go_wp2_with fail
   refine(Qla _ _ (by omega)).mono ?_;rintro e w4 ⟨rfl,c4⟩
   have H4:=P3.kz c4
   have D4:Qc S w w4:=H0 (H9 D3) c4
   obtain⟨rf4_7,rx4_7,rc4_7⟩:=H4.roomAt hX 7 (by simp)
   obtain⟨rf4_8,rx4_8,rc4_8⟩:=H4.roomAt hX 8 (by simp)
   obtain⟨u9,_,q9,_,_,_⟩:=H4.subAt hX (j:=9) rfl
   have P4:=((H4.setAt hX (j:=7) rfl (.string (mt (k+1+1+1+1+1+1+1)))).setAt hX (j:=8) rfl (.int .i64 (k+1+1+1+1+1+1+1+1)))
   go_wp2_with fail
   obtain⟨S4,hs4,hS4,back4⟩:=P4.subOf hX (j:=9) rfl (u:=u9) (by go_simp)
   refine((IH.out _ (I4 hlt)).1 _ _ _ _ (by omega) (by omega) hs4).mono ?_;rintro e w5 ⟨rfl,hm5,c5⟩
   have H5:=back4 _ _ c5 hm5
   have D5:Qc S w w5:=K6 (H9 D4) c5 (fun x hx=>.inl (hS4 x hx))
   obtain⟨u10,_,q10,_,_,_⟩:=H5.subAt hX (j:=10) rfl
   have P5:=H5
   go_wp2_with fail
   obtain⟨S5,hs5,hS5,back5⟩:=P5.subOf hX (j:=10) rfl (u:=u10) (by go_simp)
   refine((IH.out _ (I4 hlt)).2 _ _ _ _ (by omega) (by omega) hs5).mono ?_;rintro e w6 ⟨rfl,hm6,c6⟩
   have H6:=back5 _ _ c6 hm6
   have D6:Qc S w w6:=K6 (H9 D5) c6 (fun x hx=>.inl (hS5 x hx))
   have P6:=H6
   go_wp2_with fail
   go_roundw
   case rel=>
    have e1:((l.take (i+1)).map Qk1).sum=((l.take i).map Qk1).sum+Qk1 l[i]:=Qe8 Qk1 l i hlt
    have e2:=hkq.out
    refine⟨i+1,_,by omega,by go_num,rfl,by omega,by omega,?_,?_,?_⟩
    ·show _=_;have e3:Qk1 l[i]=9+Qk3 l[i].A+Qk3 l[i].B:=Qlq _
     rw [e1,e3];omega
    ·rw [QlF l k0 i hlt, <-e2,Ql4];exact P6
    ·repeat(first|with_reducible exact D6|with_reducible refine i6 ?_|with_reducible refine U4 ?_ _|with_reducible refine Q8 ?_ (.inl hgS) _)
   case measure=>simp [intOf];omega
  ·obtain rfl:i=l.length:=by omega
   go_wp2_with fail
   go_ret
   have h5:=hkq.out
   rw [I8,List.drop_length,List.append_nil] at H0qq
   rw [I8] at h5
   refine⟨VG h5,?_,hc⟩
   show Yp _ (.s (Qle Qk6 Qk1 l k0).length ((Qle Qk6 Qk1 l k0).flatMap QO)) _ _
   rw [Qlj]
   exact H0qq

theorem Qlz (l:List Qa) (u:Value) (S:List Nat) (k0:Int) (w:World) (hk0:0<=k0) (hkb:k0+Qk3 l<=100000000) (hh:Yp w (QA l) u S):
  Calls Tryz.prog 24 #[u,.int .i64 k0] w fun e w'=>e= .returned (.int .i64 (k0+Qk3 l))/\Yp w' (QA (Qlf l k0)) u S/\Qc S w w':=Qlm l u S k0 w hk0 hkb hh

end Go.Proofs.YtfjhdnjlhjimeaaGreatDoor

set_option maxRecDepth 100000
set_option maxHeartbeats 4000000
namespace Go.Proofs.YtfjhdnjlhjimeaaGreatDoor
open Go.RowKit

theorem Qjk (f:Int) (k:Nat) (w:World) (hf:ql f) (hk:k<6):
  Calls Tryz.prog 155 #[.int .i64 f,.int .i64 k] w (QZ (has f k=true) w):=by
 obtain⟨h0,h1⟩:=hf
 obtain rfl|rfl|rfl|rfl|rfl|rfl:k=0∨k=1∨k=2∨k=3∨k=4∨k=5:=by omega
 all_goals
  go_enter Tryz.func155,Tryz.ntmps155
  go_wp2_with fail
  all_goals(go_ret;refine⟨_,rfl,?_,rfl⟩;unfold has;simp)
theorem Qkn (f want:Int) (w:World):
  Calls Tryz.prog 123 #[.int .i64 f,.int .i64 want] w (QZ (ZL f want) w):=by
 go_enter Tryz.func123,Tryz.ntmps123
 go_wp2_with fail
 refine(xw f w).mono ?_
 rintro e w1 ⟨t,rfl,ht,rfl⟩
 have HT:=Qb ht
 clear ht
 cases t
 ·go_wp2_with fail
  go_ret
  refine⟨_,rfl,⟨fun h=>by simp at h,fun h=>?_⟩,rfl⟩
  have:=HT.out.2 h.1;simp at this
 ·go_wp2_with fail
  refine(xw want w1).mono ?_
  rintro e w2 ⟨t,rfl,ht2,rfl⟩
  have HT2:=Qb ht2
  clear ht2
  cases t
  ·go_wp2_with fail
   go_ret
   refine⟨_,rfl,⟨fun h=>by simp at h,fun h=>?_⟩,rfl⟩
   have:=HT2.out.2 h.2.1;simp at this
  ·have hf:=Qb (HT.out.1 (by simp))
   have hw:=Qb (HT2.out.1 (by simp))
   go_wp2_with fail
   go_loopw [5] (fun i wr=>∃k:Nat,k<=6/\i= .int .i64 k/\(∀j,j<k->has want j=true->has f j=true)/\jF w2 wr) (fun i _=>6-(intOf i).toNat)
   case atStart=>exact⟨0,by omega,rfl,fun j h=>absurd h (M4 _),rfl⟩
   case round=>
    obtain⟨k,hk,rfl,HN,rfl⟩:=hrel
    have HN:=Qb HN
    by_cases hlt:k<6
    ·go_wp2_with fail
     refine(Qjk want k _ hw.out hlt).mono ?_
     rintro e w3 ⟨t,rfl,ht3,rfl⟩
     have HT3:=Qb ht3
     clear ht3
     cases t
     ·go_wp2_with fail
      go_roundw
      case rel=>exact⟨k+1,by omega,by go_num,fun j hj hj2=>(I7.1 hj).elim (fun h=>HN.out j h hj2) (fun e=>by subst e;have:=HT3.out.2 hj2;simp at this),rfl⟩
      case measure=>simp [intOf];omega
     ·go_wp2_with fail
      refine(Qjk f k _ hf.out hlt).mono ?_
      rintro e w4 ⟨t,rfl,ht4,rfl⟩
      have HT4:=Qb ht4
      clear ht4
      cases t
      ·go_wp2_with fail
       go_ret
       refine⟨_,rfl,⟨fun h=>by simp at h,fun h=>?_⟩,rfl⟩
       have:=HT4.out.2 (h.2.2 ⟨k,hlt⟩ (HT3.out.1 (by simp)));simp at this
      ·go_wp2_with fail
       go_roundw
       case rel=>exact⟨k+1,by omega,by go_num,fun j hj hj2=>(I7.1 hj).elim (fun h=>HN.out j h hj2) (fun e=>by subst e;exact HT4.out.1 (by simp)),rfl⟩
       case measure=>simp [intOf];omega
    ·obtain rfl:k=6:=by omega
     go_wp2_with fail
     go_ret
     exact⟨_,rfl,⟨fun _=>⟨hf.out,hw.out,fun j hj=>HN.out j j.2 hj⟩,fun _=>rfl⟩,rfl⟩
section
variable {σ τ:Type}
def W3.alt (X Y:W3 σ):W3 σ:=⟨fun s t=>X.reach s t∨Y.reach s t,fun s i w=>X.ask s i w∨Y.ask s i w,fun s=>X.fail s∨Y.fail s⟩
def W3.loop (X:W3 σ):W3 σ:=⟨fun s t=>∃n,n<=3/\(X.pow n).reach s t,(X.pow 3).ask,(X.pow 3).fail⟩
mutual
def Qa.w3 (f:Qa->W3 σ):Qa->W3 σ
 | .mk op slot other word call face A B=>if op=8 then W3.alt (w3L f A) (w3L f B) else if op=9 then W3.loop (w3L f A) else f (.mk op slot other word call face A B)
def w3L (f:Qa->W3 σ):List Qa->W3 σ
 | []=>W3.skip
 |a::l=>W3.seq (a.w3 f) (w3L f l)
end
theorem Qa.w3_eq (f:Qa->W3 σ) (a:Qa):a.w3 f=if a.op=8 then W3.alt (w3L f a.A) (w3L f a.B) else if a.op=9 then W3.loop (w3L f a.A) else f a:=by
 cases a;rw [Qa.w3];rfl

variable {I:σ->Prop} {α:σ->τ} {X X':W3 σ} {Y Y':W3 τ}
theorem Sim.alt (h:Sim I α X Y) (h':Sim I α X' Y'):Sim I α (W3.alt X X') (W3.alt Y Y') where
 keep hs h1:=h1.elim (h.keep hs) (h'.keep hs)
 fwd hs h1:=h1.imp (h.fwd hs) (h'.fwd hs)
 back hs h1:=by
  rcases h1 with h1|h1
  ·obtain⟨t,a,b⟩:=h.back hs h1;exact⟨t,.inl a,b⟩
  ·obtain⟨t,a,b⟩:=h'.back hs h1;exact⟨t,.inr a,b⟩
 ask hs:=or_congr (h.ask hs) (h'.ask hs)
 fail hs:=or_congr (h.fail hs) (h'.fail hs)
theorem Sim.loop (h:Sim I α X Y):Sim I α X.loop Y.loop where
 keep hs h1:=by obtain⟨n,_,h2⟩:=h1;exact(h.pow n).keep hs h2
 fwd hs h1:=by obtain⟨n,hn,h2⟩:=h1;exact⟨n,hn,(h.pow n).fwd hs h2⟩
 back hs h1:=by
  obtain⟨n,hn,h2⟩:=h1
  obtain⟨t,a,b⟩:=(h.pow n).back hs h2
  exact⟨t,⟨n,hn,a⟩,b⟩
 ask hs:=(h.pow 3).ask hs
 fail hs:=(h.pow 3).fail hs
mutual
theorem Qa.sim {f:Qa->W3 σ} {g:Qa->W3 τ} {G:Qa->Prop} (hsim:∀a,G a->a.op≠8->a.op≠9->Sim I α (f a) (g a)):∀a:Qa,a.AllA G->Sim I α (a.w3 f) (a.w3 g)
 | .mk op slot other word call face A B,h=>by
  rw [Qa.w3_eq,Qa.w3_eq]
  rw [Qa.AllA] at h
  by_cases h8:op=8
  ·simp only [Qa.op,Qa.A,Qa.B,h8,if_true]
   exact(Qh2 hsim A h.2.1).alt (Qh2 hsim B h.2.2)
  ·by_cases h9:op=9
   ·simp only [Qa.op,Qa.A,h9,if_true]
    exact(Qh2 hsim A h.2.1).loop
   ·simp only [Qa.op,h8,h9,if_false]
    exact hsim _ h.1 h8 h9
theorem Qh2 {f:Qa->W3 σ} {g:Qa->W3 τ} {G:Qa->Prop} (hsim:∀a,G a->a.op≠8->a.op≠9->Sim I α (f a) (g a)):∀l:List Qa,QgK G l->Sim I α (w3L f l) (w3L g l)
 | [],_=>Sim.skip
 |a::l,h=>by
  rw [QgK] at h
  rw [w3L,w3L]
  exact(Qa.sim hsim a h.1).seq (Qh2 hsim l h.2)
end
end
section
variable {α β:Type}
theorem YY.map_set (f:α->β) (t:YY α) (i:Int) (x:α):(t.set i x).map f=(t.map f).set i (f x):=by unfold YY.set;split<;>(try split)<;>rfl
theorem YY.All.set {P:α->Prop} {t:YY α} (h:t.All P) (i:Int) {x:α} (hx:P x):(t.set i x).All P:=by
 unfold YY.set;split;exact⟨hx,h.2.1,h.2.2⟩;split;exact⟨h.1,hx,h.2.2⟩;exact⟨h.1,h.2.1,hx⟩
end

def Qgs (s:ByteArray):ByteArray:=⟨(s.data.toList.reverse.takeWhile (· !=32)).reverse.toArray⟩
def Qa6 (s:ByteArray):Int:=if 0<QgF s then((Qj (Qgs s)).getD (0,0)).2 else(Qo s).getD 0
def Qid (a:Qa):W3 (YY Kn):=
 if a.op=1 then⟨fun s t=>t=s.set a.slot (.known 0 ((Qo a.word).getD 0)),fun _ _ _=>False,fun _=>False⟩
 else if a.op=5 then⟨fun s t=>t=s.set a.slot .no,fun _ _ _=>False,fun _=>False⟩
 else if a.op=4 then⟨fun s t=>t=s.set a.slot (s.get a.other),fun _ _ _=>False,fun _=>False⟩
 else if a.op=2 then
  ⟨fun s t=>match s.get a.slot with
   | .no=>False
   | .giv _=>t=s.set a.slot (.known 1 ((Qj a.word).getD (0,0)).2)
   | .known l f=>(3<=l/\t=s)∨(l<3/\ZL f (KV a)/\t=s.set a.slot (.known (l+1) ((Qj a.word).getD (0,0)).2)),
    fun s i w=>s.get a.slot= .giv i/\w=KV a,fun s=>∃l f,s.get a.slot= .known l f/\l<3/\¬ZL f (KV a)⟩
 else
  ⟨fun s t=>match s.get a.slot with
   | .no=>False
   | .giv _=>t=s
   | .known _ f=>ZL f (KV a)/\t=s,
    fun s i w=>s.get a.slot= .giv i/\w=KV a,fun s=>∃l f,s.get a.slot= .known l f/\¬ZL f (KV a)⟩
def Qhq.bare (x:Qhq):Prop:=0<x.given/\QgF x.shape=0
def Qhq.empty (x:Qhq):Prop:=x.given=0/\x.shape.size=0
def Qhq.wrap (x:Qhq) (w:ByteArray):Qhq:=⟨x.given,x.shape++(xG++w)⟩
def QdW (a:Qa):W3 (YY Qhq):=
 if a.op=1 then⟨fun s t=>t=s.set a.slot ⟨0,a.word⟩,fun _ _ _=>False,fun _=>False⟩
 else if a.op=5 then⟨fun s t=>t=s.set a.slot ⟨0,⟨#[]⟩⟩,fun _ _ _=>False,fun _=>False⟩
 else if a.op=4 then⟨fun s t=>t=s.set a.slot (s.get a.other),fun _ _ _=>False,fun _=>False⟩
 else if a.op=2 then
  ⟨fun s t=>¬(s.get a.slot).empty/\((3<=QgF (s.get a.slot).shape/\t=s)∨(QgF (s.get a.slot).shape<3/\((s.get a.slot).bare∨ZL (Qa6 (s.get a.slot).shape) (KV a))/\t=s.set a.slot ((s.get a.slot).wrap a.word))),
    fun s i w=>(s.get a.slot).bare/\i+1=(s.get a.slot).given/\w=KV a,
    fun s=>¬(s.get a.slot).empty/\QgF (s.get a.slot).shape<3/\¬(s.get a.slot).bare/\¬ZL (Qa6 (s.get a.slot).shape) (KV a)⟩
 else
  ⟨fun s t=>¬(s.get a.slot).empty/\((s.get a.slot).bare∨ZL (Qa6 (s.get a.slot).shape) (KV a))/\t=s,
    fun s i w=>(s.get a.slot).bare/\i+1=(s.get a.slot).given/\w=KV a,
    fun s=>¬(s.get a.slot).empty/\¬(s.get a.slot).bare/\¬ZL (Qa6 (s.get a.slot).shape) (KV a)⟩
def Qhq.kn (x:Qhq):Kn:=if x.shape.size=0 then(if x.given=0 then .no else .giv (x.given-1)) else .known (QgF x.shape) (Qa6 x.shape)
def Qhq.ok (x:Qhq):Prop:=x.given<=3/\(x.shape.size≠0->(x.given=0∨0<QgF x.shape)/\QgF x.shape<=3)

theorem Qga {s w:ByteArray} (h:(32:UInt8)∉w.data.toList):QgF (s++(xG++w))=QgF s+1:=by
 unfold QgF
 rw [Qdo,List.count_append,List.count_cons_self,List.count_eq_zero.2 h]
theorem Qhu {s w:ByteArray} (h:(32:UInt8)∉w.data.toList):Qgs (s++(xG++w))=w:=by
 unfold Qgs
 rw [Qdo,List.reverse_append,List.reverse_cons,U2,List.takeWhile_append_of_pos (by
  intro x hx
  simp only [bne_iff_ne,ne_eq]
  rintro rfl
  exact h (List.mem_reverse.1 hx))]
 simp
theorem Qht {s w:ByteArray} (h:(32:UInt8)∉w.data.toList):Qa6 (s++(xG++w))=((Qj w).getD (0,0)).2:=by
 unfold Qa6
 rw [Qga h,if_pos (by omega),Qhu h]
theorem QhS (s w:ByteArray):(s++(xG++w)).size≠0:=by
 rw [<-Zl,Qdo];simp

def Qgc (a:Qa):Prop:=ZG a/\a.op≠3/\a.op≠10
theorem QhB {x:Qhq} (h:x.ok):x.bare↔x.shape.size=0/\0<x.given:=by
 unfold Qhq.bare
 constructor
 ·rintro⟨h1,h2⟩
  refine⟨?_,h1⟩
  by_cases hz:x.shape.size=0
  ·exact hz
  ·rcases(h.2 hz).1 with h3|h3<;>omega
 ·rintro⟨h1,h2⟩
  refine⟨h2,?_⟩
  unfold QgF
  have e1:x.shape.data.toList=[]:=I6 (by rw [Zl];exact h1)
  rw [e1]
  rfl
theorem QdX (x:Qhq) (h:x.ok):(x.kn= .no/\x.empty/\¬x.bare)∨(∃i,x.kn= .giv i/\¬x.empty/\x.bare/\i+1=x.given/\QgF x.shape=0)∨(x.kn= .known (QgF x.shape) (Qa6 x.shape)/\¬x.empty/\¬x.bare):=by
 have hb:=QhB h
 unfold Qhq.kn Qhq.empty
 by_cases hz:x.shape.size=0
 ·by_cases hg:x.given=0
  ·exact .inl ⟨by rw [if_pos hz,if_pos hg],⟨hg,hz⟩,fun h1=>by have:=(hb.1 h1).2;omega⟩
  ·have hbb:=hb.2 ⟨hz,by omega⟩
   exact .inr (.inl ⟨x.given-1,by rw [if_pos hz,if_neg hg],fun h1=>hg h1.1,hbb,by omega,hbb.2⟩)
 ·exact .inr (.inr ⟨by rw [if_neg hz],fun h1=>hz h1.2,fun h1=>hz (hb.1 h1).1⟩)
theorem QhO {x:Qhq} (h:x.ok) {w:ByteArray} (hw:(32:UInt8)∉w.data.toList) (hs:QgF x.shape<3):(x.wrap w).ok:=
 ⟨h.1,fun _=>by unfold Qhq.wrap;rw [Qga hw];omega⟩
theorem Qhg (x:Qhq) {w:ByteArray} (hw:(32:UInt8)∉w.data.toList):(x.wrap w).kn= .known (QgF x.shape+1) ((Qj w).getD (0,0)).2:=by
 unfold Qhq.kn Qhq.wrap
 rw [if_neg (QhS _ _),Qga hw,Qht hw]
theorem QhV (a:Qa) (h:Qgc a) (_h8:a.op≠8) (_h9:a.op≠9):Sim (fun s:YY Qhq=>s.All Qhq.ok) (YY.map Qhq.kn) (QdW a) (Qid a):=by
 obtain⟨ha,h3,h10⟩:=h
 have hop:=Gt ha
 unfold QdW Qid
 by_cases h1:a.op=1
 ·simp only [h1,if_true]
  have hk:=QdI ((xQ h1).1 ha).2.1
  have hz:(Qhq.mk 0 a.word).kn= .known 0 ((Qo a.word).getD 0):=by unfold Qhq.kn Qa6;rw [if_neg hk.1,hk.2];rfl
  exact⟨fun hs e=>by rw [e];exact hs.set _ ⟨I3 _,fun _=>⟨.inl rfl,by rw [hk.2];omega⟩⟩,fun hs e=>by rw [e,YY.map_set,hz],fun hs e=>⟨_,rfl,by rw [e,YY.map_set,hz]⟩,fun _=>i7,fun _=>i7⟩
 by_cases h5:a.op=5
 ·simp only [h5,if_true,show ¬(5:Int)=1 by decide,if_false]
  exact⟨fun hs e=>by rw [e];exact hs.set _ ⟨by decide,fun h=>absurd rfl h⟩,fun hs e=>by rw [e,YY.map_set];rfl,fun hs e=>⟨_,rfl,by rw [e,YY.map_set];rfl⟩,fun _=>i7,fun _=>i7⟩
 by_cases h4:a.op=4
 ·simp only [h4,if_true,show ¬(4:Int)=1 by decide,show ¬(4:Int)=5 by decide,if_false]
  exact⟨fun hs e=>by rw [e];exact hs.set _ (hs.get _),fun hs e=>by rw [e,YY.map_set];show _=_;rw [YY.map_get],fun hs e=>⟨_,rfl,by rw [e,YY.map_set];show _=YY.set _ _ (YY.get _ _);rw [YY.map_get]⟩,fun _=>i7,fun _=>i7⟩
 by_cases h2:a.op=2
 ·simp only [h2,if_true,show ¬(2:Int)=1 by decide,show ¬(2:Int)=5 by decide,show ¬(2:Int)=4 by decide,if_false]
  have hw:=(QbG ((xJ h2).1 ha).2.1).2
  refine⟨fun {s t} hs hr=>?_,fun {s t} hs hr=>?_,fun {s t'} hs hr=>?_,fun {s i w} hs=>?_,fun {s} hs=>?_⟩
  ·obtain⟨_,⟨_,rfl⟩|⟨h1,_,rfl⟩⟩:=hr
   ·exact hs
   ·exact hs.set _ (QhO (hs.get _) hw h1)
  ·obtain⟨he,hr⟩:=hr
   simp only [YY.map_get]
   rcases QdX _ (hs.get a.slot) with ⟨e,h1,_⟩|⟨i,e,_,h1,_,h2⟩|⟨e,_,h1⟩
   ·exact absurd h1 he
   ·rw [e]
    rcases hr with ⟨h3,_⟩|⟨_,_,rfl⟩
    ·omega
    ·simp only
     rw [YY.map_set,Qhg _ hw,h2]
   ·rw [e]
    rcases hr with ⟨h3,rfl⟩|⟨h3,h4|h4,rfl⟩
    ·exact .inl ⟨h3,rfl⟩
    ·exact absurd h4 h1
    ·exact .inr ⟨h3,h4,by rw [YY.map_set,Qhg _ hw]⟩
  ·simp only [YY.map_get] at hr
   rcases QdX _ (hs.get a.slot) with ⟨e,h1,_⟩|⟨i,e,h0,h1,_,h2⟩|⟨e,h0,h1⟩
   ·rw [e] at hr
    exact hr.elim
   ·rw [e] at hr
    exact⟨_,⟨h0,.inr ⟨by omega,.inl h1,rfl⟩⟩,by rw [YY.map_set,Qhg _ hw,h2];exact hr.symm⟩
   ·rw [e] at hr
    rcases hr with ⟨h3,rfl⟩|⟨h3,h4,rfl⟩
    ·exact⟨s,⟨h0,.inl ⟨h3,rfl⟩⟩,rfl⟩
    ·exact⟨_,⟨h0,.inr ⟨h3,.inr h4,rfl⟩⟩,by rw [YY.map_set,Qhg _ hw]⟩
  ·simp only [YY.map_get]
   rcases QdX _ (hs.get a.slot) with ⟨e,_,h1⟩|⟨j,e,h0,h1,hj,h2⟩|⟨e,h0,h1⟩
   ·rw [e];exact⟨fun h=>absurd h.1 h1,fun h=>by cases h.1⟩
   ·rw [e]
    exact⟨fun h=>⟨by congr 1;omega,h.2.2⟩,fun h=>⟨h1,by have:=h.1;injection this with q;omega,h.2⟩⟩
   ·rw [e];exact⟨fun h=>absurd h.1 h1,fun h=>by cases h.1⟩
  ·simp only [YY.map_get]
   rcases QdX _ (hs.get a.slot) with ⟨e,h0,h1⟩|⟨j,e,h0,h1,hj,h2⟩|⟨e,h0,h1⟩
   ·rw [e];exact⟨fun h=>absurd h0 h.1,fun⟨_,_,h,_⟩=>by cases h⟩
   ·rw [e];exact⟨fun h=>absurd h1 h.2.2.1,fun⟨_,_,h,_⟩=>by cases h⟩
   ·rw [e];exact⟨fun h=>⟨_,_,rfl,h.2.1,h.2.2.2⟩,fun⟨_,_,h,hl,ho⟩=>by cases h;exact⟨h0,hl,h1,ho⟩⟩
 ·simp only [h1,h5,h4,h2,if_false]
  refine⟨fun {s t} hs hr=>by rw [hr.2.2];exact hs,fun {s t} hs hr=>?_,fun {s t'} hs hr=>?_,fun {s i w} hs=>?_,fun {s} hs=>?_⟩
  ·obtain⟨he,hr,rfl⟩:=hr
   simp only [YY.map_get]
   rcases QdX _ (hs.get a.slot) with ⟨e,h1,_⟩|⟨i,e,_,h1,_,h2⟩|⟨e,_,h1⟩
   ·exact absurd h1 he
   ·rw [e]
    trivial
   ·rw [e]
    exact⟨hr.resolve_left h1,trivial⟩
  ·simp only [YY.map_get] at hr
   rcases QdX _ (hs.get a.slot) with ⟨e,h1,_⟩|⟨i,e,h0,h1,_,h2⟩|⟨e,h0,h1⟩
   ·rw [e] at hr
    exact hr.elim
   ·rw [e] at hr
    exact⟨s,⟨h0,.inl h1,rfl⟩,hr.symm⟩
   ·rw [e] at hr
    exact⟨s,⟨h0,.inr hr.1,rfl⟩,hr.2.symm⟩
  ·simp only [YY.map_get]
   rcases QdX _ (hs.get a.slot) with ⟨e,_,h1⟩|⟨j,e,h0,h1,hj,h2⟩|⟨e,h0,h1⟩
   ·rw [e];exact⟨fun h=>absurd h.1 h1,fun h=>by cases h.1⟩
   ·rw [e]
    exact⟨fun h=>⟨by congr 1;omega,h.2.2⟩,fun h=>⟨h1,by have:=h.1;injection this with q;omega,h.2⟩⟩
   ·rw [e];exact⟨fun h=>absurd h.1 h1,fun h=>by cases h.1⟩
  ·simp only [YY.map_get]
   rcases QdX _ (hs.get a.slot) with ⟨e,h0,h1⟩|⟨j,e,h0,h1,hj,h2⟩|⟨e,h0,h1⟩
   ·rw [e];exact⟨fun h=>absurd h0 h.1,fun⟨_,_,h,_⟩=>by cases h⟩
   ·rw [e];exact⟨fun h=>absurd h1 h.2.1,fun⟨_,_,h,_⟩=>by cases h⟩
   ·rw [e];exact⟨fun h=>⟨_,_,rfl,h.2.2⟩,fun⟨_,_,h,ho⟩=>by cases h;exact⟨h0,h1,ho⟩⟩
variable {X Y:YY ByteArray×Xo->List Int->Prop}
section
variable {X:Rn (YY ByteArray)}
theorem Qi2:∀n {s t u:YY ByteArray} {i j:List Int},X.ok s i u->(X.pow n).ok u j t->(X.pow (n+1)).ok s (i++j) t
 |0,s,t,u,i,j,h,h'=>by
  obtain⟨h1,h2⟩:=(show j=[] /\t=u from h')
  rw [h1,h2]
  exact⟨[],i,s,by simp,⟨rfl,rfl⟩,h⟩
 |n+1,s,t,u,i,j,h,h'=>by
  obtain⟨j1,j2qq,v,rfl,a,b⟩:=h'
  exact⟨i++j1,j2qq,v,by simp,Qi2 n h a,b⟩
theorem Qi4:∀n {s t u:YY ByteArray} {i j:List Int} {e:Xo},X.ok s i u->(X.pow n).bad u j t e->(X.pow (n+1)).bad s (i++j) t e
 |0,s,t,u,i,j,e,h,h'=>h'.elim
 |n+1,s,t,u,i,j,e,h,h'=>by
  rcases h' with a|⟨j1,j2qq,v,rfl,a,b⟩
  ·exact .inl (Qi4 n h a)
  ·exact .inr ⟨i++j1,j2qq,v,by simp,Qi2 n h a,b⟩
theorem QiZ:∀n {s t:YY ByteArray} {i:List Int} {e:Xo},X.bad s i t e->(X.pow (n+1)).bad s i t e
 |0,s,t,i,e,h=>.inr ⟨[],i,s,by simp,⟨rfl,rfl⟩,h⟩
 |n+1,s,t,i,e,h=>.inl (QiZ n h)
end
def QiT (input:List Int) (t:Int) (i:List Int):Prop:=∀(j:Nat) (h:j<i.length),0<=i[j] /\i[j] <=Wn input (t+j)
theorem QiT.nil {input:List Int} {t:Int}:QiT input t []:=fun j h=>by simp at h
theorem QiT.cons {input:List Int} {t n:Int} {i:List Int} (h0:0<=n) (h1:n<=Wn input t) (h:QiT input (t+1) i):QiT input t (n::i)
 |0,_=>⟨h0,by simpa using h1⟩
 |j+1,hj=>by
  have:=h j (by simpa using hj)
  rw [List.getElem_cons_succ]
  have e:t+((j+1:Nat):Int)=t+1+j:=by omega
  rw [e]
  exact this
theorem QiT.app {input:List Int} {t:Int} {i j:List Int} (h:QiT input t i) (h':QiT input (t+i.length) j):QiT input t (i++j):=by
 intro k hk
 rw [I0] at hk
 by_cases hl:k<i.length
 ·rw [Q7 hl];exact h k hl
 ·rw [List.getElem_append_right (by omega)]
  have:=h' (k-i.length) (by omega)
  have e:t+(i.length:Int)+((k-i.length:Nat):Int)=t+k:=by omega
  rw [e] at this
  exact this
def QiS (input:List Int) (X:Rn (YY ByteArray)) (s:ZV) (r:ZV×Xo):Prop:=
 QH r.1.slots/\∃i:List Int,r.1.taken=s.taken+i.length/\QiT input s.taken i/\((r.2=QJ/\X.ok (kw s.slots) i (kw r.1.slots))∨(r.2.code≠0/\X.bad (kw s.slots) i (kw r.1.slots) r.2))
theorem QiS.seq {input:List Int} {X Y:Rn (YY ByteArray)} {s:ZV} {f g:ZV->ZV×Xo} (h:QiS input X s (f s)) (h':(f s).2.code=0->QiS input Y (f s).1 (g (f s).1)):
  QiS input (X.seq Y) s (if(f s).2.code=0 then g (f s).1 else f s):=by
 obtain⟨hs,i,hi,hu,h1⟩:=h
 rcases h1 with ⟨he,h1⟩|⟨hne,h1⟩
 ·have hc:(f s).2.code=0:=by rw [he];rfl
  rw [if_pos hc]
  obtain⟨hs',j,hj,hu',h2⟩:=h' hc
  refine⟨hs',i++j,by rw [hj,hi,I0];omega,hu.app (by rw [<-hi];exact hu'),?_⟩
  rcases h2 with ⟨he2,h2⟩|⟨hne2,h2⟩
  ·exact .inl ⟨he2,i,j,_,rfl,h1,h2⟩
  ·exact .inr ⟨hne2,.inr ⟨i,j,_,rfl,h1,h2⟩⟩
 ·rw [if_neg hne]
  exact⟨hs,i,hi,hu,.inr ⟨hne,.inl h1⟩⟩
theorem QiX {input:List Int} {X:Rn (YY ByteArray)} {f:ZV->ZV×Xo} (h:∀s,QH s.slots->QiS input X s (f s)):∀(n:Nat) (s:ZV),QH s.slots->QiS input (X.pow n) s (Zo n f s)
 |0,s,hs=>⟨hs,[],by simp [Zo],QiT.nil,.inl ⟨rfl,rfl,rfl⟩⟩
 | n+1,s,hs=>by
  rw [Zo]
  obtain⟨hs1,i,hi,hu,h1⟩:=h s hs
  rcases h1 with ⟨he,h1⟩|⟨hne,h1⟩
  ·have hc:(f s).2.code=0:=by rw [he];rfl
   rw [if_pos hc]
   obtain⟨hs',j,hj,hu',h2⟩:=QiX h n (f s).1 hs1
   refine⟨hs',i++j,by rw [hj,hi,I0];omega,hu.app (by rw [<-hi];exact hu'),?_⟩
   rcases h2 with ⟨he2,h2⟩|⟨hne2,h2⟩
   ·exact .inl ⟨he2,Qi2 n h1 h2⟩
   ·exact .inr ⟨hne2,Qi4 n h1 h2⟩
  ·rw [if_neg hne]
   exact⟨hs1,i,hi,hu,.inr ⟨hne,QiZ n h1⟩⟩
theorem QiS.took {input:List Int} {X:Rn (YY ByteArray)} {s:ZV} {r:ZV×Xo} {n:Int} (h0:0<=n) (h1:n<=Wn input s.taken) (h:QiS input X ⟨s.slots,s.taken+1⟩ r):QiS input (X.took n) s r:=by
 obtain⟨hs,i,hi,hu,h2⟩:=h
 refine⟨hs,n::i,by rw [hi,I1];simp only;omega,hu.cons h0 h1,?_⟩
 rcases h2 with ⟨he,h2⟩|⟨hne,h2⟩
 ·exact .inl ⟨he,i,rfl,h2⟩
 ·exact .inr ⟨hne,i,rfl,h2⟩
mutual
theorem Qa.run_ex (input:List Int):∀(a:Qa),a.ok->∀(place:Int) (s:ZV),QH s.slots->QiS input (a.ex Qs place) s (a.run input place s)
 | .mk op slot other word call face A B,h,place,s,hs=>by
  rw [Qa.ok_iff] at h
  obtain⟨ha,hA,hB⟩:=h
  have gA:=fun(p:Int) (s:ZV) (hs:QH s.slots)=>QiV input A hA p s hs
  have gB:=fun(p:Int) (s:ZV) (hs:QH s.slots)=>QiV input B hB p s hs
  have tl:=jL input s.taken
  rw [Qa.ex_eq]
  by_cases h8:(Qa.mk op slot other word call face A B).op=8
  ·rw [if_pos h8,uS h8]
   by_cases hn:Wn input s.taken % 2=1
   ·rw [if_pos hn]
    obtain⟨h1,i,h2,h3,h4⟩:=QiS.took (n:=1) (by omega) (by omega) (gA (place+1) ⟨s.slots,s.taken+1⟩ hs)
    exact⟨h1,i,h2,h3,h4.imp (fun h=>⟨h.1,.inl h.2⟩) (fun h=>⟨h.1,.inl h.2⟩)⟩
   ·rw [if_neg hn]
    obtain⟨h1,i,h2,h3,h4⟩:=QiS.took (n:=0) (by omega) (by omega) (gB (place+1+Qd A) ⟨s.slots,s.taken+1⟩ hs)
    exact⟨h1,i,h2,h3,h4.imp (fun h=>⟨h.1,.inr h.2⟩) (fun h=>⟨h.1,.inr h.2⟩)⟩
  ·by_cases h9:(Qa.mk op slot other word call face A B).op=9
   ·rw [if_neg h8,if_pos h9,uM h9]
    have hn:((Wn input s.taken).toNat:Int)=Wn input s.taken:=by omega
    have h:=QiS.took (n:=((Wn input s.taken).toNat:Int)) (by omega) (by omega) (QiX (gA (place+1)) (Wn input s.taken).toNat ⟨s.slots,s.taken+1⟩ hs)
    obtain⟨h1,i,h2,h3,h4⟩:=h
    exact⟨h1,i,h2,h3,h4.imp (fun h=>⟨h.1,_,by omega,h.2⟩) (fun h=>⟨h.1,_,by omega,h.2⟩)⟩
   ·by_cases h10:(Qa.mk op slot other word call face A B).op=10
    ·rw [if_neg h8,if_neg h9,if_pos h10,qF h10]
     obtain⟨h1,i,h2,h3,h4⟩:=gA (place+1) s hs
     have hA':(Qa.mk op slot other word call face A B).A=A:=rfl
     have hB':(Qa.mk op slot other word call face A B).B=B:=rfl
     rw [hA',hB']
     by_cases hc:(QM input A (place+1) s).2.code=1
     ·rw [if_pos hc]
      have h5:(Vn Qs A (place+1)).bad (kw s.slots) i (kw (QM input A (place+1) s).1.slots) (QM input A (place+1) s).2:=by
       rcases h4 with ⟨he,_⟩|⟨_,h5⟩
       ·rw [he] at hc;cases hc
       ·exact h5
      obtain⟨k1,j,k2,k3,k4⟩:=gB (place+1+Qd A) (QM input A (place+1) s).1 h1
      refine⟨k1,i++j,by rw [k2,h2,I0];omega,h3.app (by rw [<-h2];exact k3),?_⟩
      rcases k4 with ⟨he,k4⟩|⟨hne,k4⟩
      ·exact .inl ⟨he,.inr ⟨i,j,_,_,rfl,h5,hc,k4⟩⟩
      ·exact .inr ⟨hne,.inr ⟨i,j,_,_,rfl,h5,hc,k4⟩⟩
     ·rw [if_neg hc]
      refine⟨h1,i,h2,h3,?_⟩
      rcases h4 with ⟨he,h4⟩|⟨hne,h4⟩
      ·exact .inl ⟨he,.inl h4⟩
      ·exact .inr ⟨hne,.inl ⟨h4,hc⟩⟩
    ·rw [if_neg h8,if_neg h9,if_neg h10,GM h8 h9 h10]
     have h1:=QcE _ ha place h8 h9 h10 s hs
     refine⟨zO ha hs,[],by rw [yM];simp,QiT.nil,?_⟩
     by_cases hc:(ZF (Qa.mk op slot other word call face A B) place s).2.code=0
     ·have he:=Gj _ place s hc
      exact .inl ⟨he,rfl,by rw [h1,he]⟩
     ·exact .inr ⟨hc,rfl,h1,fun e=>hc (by rw [e];rfl)⟩
theorem QiV (input:List Int):∀(l:List Qa),Jm l->∀(place:Int) (s:ZV),QH s.slots->QiS input (Vn Qs l place) s (QM input l place s)
 | [],_,place,s,hs=>⟨hs,[],by simp [QM],QiT.nil,.inl ⟨rfl,rfl,rfl⟩⟩
 |a::l,h,place,s,hs=>by
  rw [Wh] at h
  rw [Vn,QM]
  have h1:=Qa.run_ex input a (h a K0) place s hs
  exact QiS.seq (f:=fun s=>a.run input place s) (g:=fun s=>QM input l (place+a.size) s) h1 (fun _=>QiV input l ((Wh l).2 (fun b hb=>h b (I5 _ hb))) (place+a.size) _ h1.1)
end
section
variable {P:Program} {ops:Array Oper} {Q:Exit->Act->World->Prop}
def Qiy (ops:List Oper) (r:List Nat):Bool:=ops.all fun o=>match o.dst with
 |none=>true
 |some s=>r.contains s
def Qiz (P:Program) (ops:Array Oper) (Q:Exit->Act->World->Prop) (l:List Value) (r:List Nat) (b:Act) (J:(Nat->Bool)->(Nat->Value)->World->Prop) (i:Nat) (o:Oper):Prop:=
 ∀d v w,d i=false->(∀e∈o.after,Region.binds .any e=true->d e.on=true)->J d v w->
  ∀K':Act->World->Prop,Hid (∀x w',J (fun j=>j==i || d j) (KI o.dst x v) w'->K' (Act.put ⟨(Xq l v r).toArray,b.defers⟩ o.dst x) w')->
   if Region.wanted o (yielded ops (Xq l v r).toArray)=true then Oper.wp P o ⟨(Xq l v r).toArray,b.defers⟩ w K' Q else K' (Act.put ⟨(Xq l v r).toArray,b.defers⟩ o.dst undef) w
theorem Qiw {id:Nat} {l:List Value} {b:Act} {w:World} (r:List Nat) (J:(Nat->Bool)->(Nat->Value)->World->Prop) (hm:P.follows .mixedOrders=true)
  (hu:Xq l (fun s=>l.getD s undef) r=l) (hd:Qiy ops.toList r=true) (hl:kT ops=true)
  (h0:J (fun j=>decide (ops.size<=j)) (fun s=>l.getD s undef) w.drew)
  (step:QbO (Qiz P ops Q l r b J) 0 ops.toList)
  (fin:∀v w,J (fun _=>true) v w->Q .normal ⟨(Xq l v r).toArray,b.defers⟩ w):(Code.region id ops true).wp P Q ⟨l.toArray,b.defers⟩ w:=by
 refine wp_region_any hm (Qgo (Inv:=fun d a w=>∃v,a=⟨(Xq l v r).toArray,b.defers⟩/\J d v w) hl (fun i o hi d a w hdi hpre hI K' hK=>?_) (fun a w hI=>?_) ops.size _ _ _ (by simp) (by simp) ⟨fun s=>l.getD s undef,by rw [hu],?_⟩)
 ·obtain⟨v,rfl,hJ⟩:=hI
  have hst:=kt ops.toList 0 i o step (by simpa using hi)
  rw [J3] at hst
  have hin:∀s,o.dst=some s->s∈r:=fun s hs=>by
   have h1:=g7.1 hd o (by rw [<-T6] at hi;exact U0 hi)
   rw [hs] at h1
   simpa using h1
  exact hst d v w hdi hpre hJ K' (Qb fun x w' hx=>hK.out _ _ ⟨_,QfJ (defs:=b) hin,hx⟩)
 ·obtain⟨v,rfl,hJ⟩:=hI
  exact fin v w hJ
 ·have:(fun j=>(Array.replicate ops.size false).getD j true)=fun j=>decide (ops.size<=j):=funext fun j=>by
   by_cases h:j<ops.size
   ·simp [Array.getD,h]
   ·simp [Array.getD,h,show ops.size<=j by omega]
  rw [this]
  exact h0
end
end Go.Proofs.YtfjhdnjlhjimeaaGreatDoor

