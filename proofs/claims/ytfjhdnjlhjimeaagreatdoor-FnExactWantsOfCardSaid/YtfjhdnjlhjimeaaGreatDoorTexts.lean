/- Lists of texts. Conditions: as stated. -/
import Derived.Test.YtfjhdnjlhjimeaaGreatDoorApps
set_option maxRecDepth 100000
set_option maxHeartbeats 2000000
namespace Go.Proofs.YtfjhdnjlhjimeaaGreatDoor
open Go.RowKit

theorem Yo.one (w0:World) (e:TypeId) {w:World} (x:Value) (h:Qc [] w0 w):Yo w0 (w.alloc (.cells #[x] e)) e 1 (.slice (some ⟨w.heap.size,0,none⟩) 1 1) 1 [.v x]:=
 ⟨[x],[],⟨by simp,.inr ⟨w.heap.size,1, #[x],rfl,h.size,heap_alloc_new w _,F0 _,by simp [maxLen],rfl,by simp⟩⟩,(I2 (T8 _)).1,O9,by simp,by simp,h.alloc _⟩
def QP (p:Qe):List ByteArray:=p.core.kind::p.layers.map (·.name)
theorem Qe2 (p:Qe):Qfo (QP p)<=1+wn p:=by
 unfold Qfo Zp QP wn Qfn xO wY
 rw [I1,I9,V8,J8,List.map_map]
 have e:(ByteArray.size ∘ fun x:ZZ=>x.name)=kP:=rfl
 rw [e]
 omega
theorem zE (p:Qe) (u3 u5:Value) (B:Nat) (w:World) (hl:p.layers.length<=1048576) (r5:Rd w B (layers p.layers) u5) (hB:B<=w.heap.size):
  Calls Tryz.prog 198 #[.agg #[.string p.core.kind,.bool p.core.on,.bool p.core.broken,u3,.int .i64 p.core.count,u5]] w (KW (WB (QP p)) w):=by
 obtain⟨A,cap,rfl,h0,h1,hrow⟩:=Xb r5
 unfold maxLen at h1
 clear r5
 go_enter Tryz.func198,Tryz.ntmps198
 go_wp2_with fail
 go_loopw [3,13] (fun v i wr=>∃(k:Nat) (A':Option Addr) (cap':Nat),k<=p.layers.length/\i= .int .i64 k/\v= .slice A' (k+1) cap'/\Yo w wr 9 1 (.slice A' (k+1) cap') (k+1) ((p.core.kind::(p.layers.take k).map (·.name)).flatMap Ur)) (fun _ i _=>p.layers.length-(intOf i).toNat)
 case atStart=>exact⟨0,_,1,I3 _,rfl,rfl,by have:=Yo.one w 9 (.string p.core.kind) ((B0 [] w).alloc (.cells #[.string p.core.kind,.bool p.core.on,.bool p.core.broken,u3,.int .i64 p.core.count,.slice A p.layers.length cap] 97));simpa [Ur] using this⟩
 case round=>
  obtain⟨k,A',cap',hk,rfl,rfl,hh⟩:=hrel
  by_cases hlt:k<p.layers.length
  ·obtain⟨b,off,rfl,hb,q0,q1⟩:=Wg (hrow.cz hh.chg hB) k hlt
   have hsz:=hh.chg.size
   go_wp2_with (at_builtin;refine ZN rfl (.tmp 17) (.tmp 20) _ rfl 9 _ 1 16 Tryz.underlying54 Yx rfl (by omega) hh (us:=[.string p.layers[k].name]) (dsE:=Ur p.layers[k].name) ⟨[],I2 (T8 _),by simp,((B0 _ _).alloc _).alloc _⟩ rfl (wr.heap.size+1) 1 rfl rfl (by intro j u hj;cases j with|zero=>cases hj;go_simp|succ j=>simp at hj) (by intro u hu;simp at hu;subst hu;rfl) (by omega) (by omega) ?_;intro A2 cap2 w2 hA2)
   go_roundw
   case rel=>exact⟨k+1,A2,cap2,by omega,by go_num,by go_num,by rw [G6 hlt,J2, <-M2,J0];simpa using hA2⟩
   case measure=>simp [intOf];omega
  ·obtain rfl:k=p.layers.length:=by omega
   rw [I8] at hh
   go_wp2_with fail
   go_ret
   exact⟨_,rfl,by have:=hh.new;unfold WB QP;rw [I1,J8];exact this⟩
def Zw (c:UInt8):List UInt8->List UInt8->List (List UInt8)
 |cur,[]=>[cur]
 |cur,b::l=>if b=c then cur::Zw c [] l else Zw c (cur++ [b]) l
def Uz (l:List UInt8):ByteArray:=⟨l.toArray⟩
def QG (c:UInt8) (s:ByteArray):List ByteArray:=(Zw c [] s.data.toList).map Uz
theorem GO (c:UInt8):∀(l cur:List UInt8),(Zw c cur l).length<=l.length+1
 | [],cur=>by simp [Zw]
 |b::l,cur=>by
  rw [Zw]
  split
  ·have:=GO c l [];simp;omega
  ·have:=GO c l (cur++ [b]);simp;omega
def cut (s:ByteArray) (a b:Nat):List UInt8:=(s.data.toList.drop a).take (b-a)
theorem Jz (s:ByteArray) (a b:Nat):(s.extract a b).data.toList=cut s a b:=by
 unfold cut
 rw [ByteArray.data_extract,Array.toList_extract,List.extract_eq_take_drop]
theorem Gs (s:ByteArray) (a b:Nat):s.extract a b=Uz (cut s a b):=by
 apply O5
 apply Q2.1
 rw [Jz]
 rfl
theorem Zl (s:ByteArray):s.data.toList.length=s.size:=by rw [U5];rfl
theorem Qf0 {s:ByteArray} {k:Nat} (hk:k<s.size):cut s k (k+1)=[s.data.toList[k]'(by rw [Zl];exact hk)]:=by
 unfold cut
 rw [N6 (by rw [Zl];exact hk),show k+1-k=0+1 by omega,Y0,T9]
theorem Qey {s:ByteArray} {f k:Nat} (hf:f<=k) (hk:k<s.size):cut s f (k+1)=cut s f k++ [s.data.toList[k]'(by rw [Zl];exact hk)]:=by
 have hk':k<s.data.toList.length:=by rw [Zl];exact hk
 unfold cut
 rw [show k+1-f=(k-f)+1 by omega,G6 (by rw [S7];omega)]
 congr 2
 rw [List.getElem_drop]
 congr 1
 omega
theorem jU {s:ByteArray} {k:Nat} (hk:k<s.size):(s.extract k (k+1)).toList=[s.data.toList[k]'(by rw [Zl];exact hk)]:=by
 rw [ByteArray.toList_eq,Jz,Qf0 hk]
theorem QgI {s:ByteArray} {c:UInt8} {f k:Nat} (hk:k<s.size) (hb:((s.extract k (k+1)).toList== [c])=true):Zw c (cut s f k) (s.data.toList.drop k)=cut s f k::Zw c (cut s (k+1) (k+1)) (s.data.toList.drop (k+1)):=by
 rw [jU hk] at hb
 simp at hb
 rw [N6 (by rw [Zl];exact hk),Zw,if_pos (by simpa using hb)]
 simp [cut]
theorem QfN {s:ByteArray} {c:UInt8} {f k:Nat} (hf:f<=k) (hk:k<s.size) (hb:((s.extract k (k+1)).toList== [c])=false):Zw c (cut s f k) (s.data.toList.drop k)=Zw c (cut s f (k+1)) (s.data.toList.drop (k+1)):=by
 rw [jU hk] at hb
 simp at hb
 rw [N6 (by rw [Zl];exact hk),Zw,if_neg (by simpa using hb),Qey hf hk]
theorem Qgl {s:ByteArray} {c:UInt8} {f:Nat}:Zw c (cut s f s.size) (s.data.toList.drop s.size)=[cut s f s.size]:=by
 rw [List.drop_eq_nil_of_le (by rw [Zl];exact F0 _),Zw]
theorem JJ (s:ByteArray) (c:UInt8) (w:World) (hs:s.size<=1048576):
  Calls Tryz.prog 150 #[.string s,.string ⟨#[c]⟩] w (KW (WB (QG c s)) w):=by
 go_enter Tryz.func150,Tryz.ntmps150
 go_wp2_with fail
 go_loopw [5,6,7] (fun v fr i wr=>∃(f k n:Nat) (A':Option Addr) (cap':Nat) (out:List ByteArray),f<=k/\k<=s.size/\n<=f/\fr= .int .i64 f/\i= .int .i64 k/\v= .slice A' n cap'/\out.length=n/\Yo w wr 9 1 (.slice A' n cap') n (out.flatMap Ur)/\Hid (QG c s=out++(Zw c (cut s f k) (s.data.toList.drop k)).map Uz)) (fun _ _ i _=>s.size-(intOf i).toNat)
 case atStart=>exact⟨0,0,0,_,0,[],F0 _,I3 _,F0 _,rfl,rfl,rfl,rfl,Yo.empty w 9 1 (B0 _ _),by simp [Hid,QG,cut]⟩
 case round=>
  obtain⟨f,k,n,A',cap',out,hfk,hk,hnf,rfl,rfl,rfl,hout,hh,HX⟩:=hrel
  by_cases hlt:k<s.size
  ·have i1:(0:Int)<=(k:Int):=by omega
   have i2:(k:Int)+1<=(s.size:Int):=by omega
   have i3:(k:Int)<=(k:Int)+1:=by omega
   have i4:(f:Int)<=(k:Int):=by omega
   have i5:(k:Int)<=(s.size:Int):=by omega
   have HA:=Qb hh
   clear hh
   cases hb:((s.extract k (k+1)).toList== [c])
   ·have HS:=Qb (QfN (f:=f) hfk hlt hb)
    go_wp2_with fail
    go_roundw
    case rel=>exact⟨f,k+1,n,A',cap',out,by omega,by omega,hnf,rfl,by go_num,rfl,hout,HA.out,Qb (by rw [HX.out,HS.out])⟩
    case measure=>simp [intOf];omega
   ·have HS:=Qb (QgI (f:=f) hlt hb)
    go_wp2_with (at_builtin;refine ZN rfl (.tmp 29) (.tmp 34) _ rfl 9 _ 1 16 Tryz.underlying54 Yx rfl (by omega) HA.out (us:=[.string (s.extract f k)]) (dsE:=Ur (s.extract f k)) ⟨[],I2 (T8 _),by simp,(B0 _ _).alloc _⟩ rfl wr.heap.size 1 rfl rfl (by intro j u hj;cases j with|zero=>cases hj;go_simp|succ j=>simp at hj) (by intro u hu;simp at hu;subst hu;rfl) (by omega) (by omega) ?_;intro A2 cap2 w2 hA2)
    go_roundw
    case rel=>exact⟨k+1,k+1,n+1,A2,cap2,out++ [s.extract f k],F0 _,by omega,by omega,by go_num,by go_num,by go_num,by simp [hout],by rw [J0];simpa using hA2,Qb (by rw [HX.out,HS.out,I9, <-Gs];simp)⟩
    case measure=>simp [intOf];omega
  ·obtain rfl:k=s.size:=by omega
   have HA:=Qb hh
   clear hh
   have i4:(f:Int)<=(s.size:Int):=by omega
   have HY:=HX.out
   rw [Qgl,I9,O2, <-Gs] at HY
   have HZ:=Qb HY
   clear HY
   go_wp2_with (at_builtin;refine ZN rfl (.tmp 43) (.tmp 47) _ rfl 9 _ 1 16 Tryz.underlying54 Yx rfl (by omega) HA.out (us:=[.string (s.extract f s.size)]) (dsE:=Ur (s.extract f s.size)) ⟨[],I2 (T8 _),by simp,(B0 _ _).alloc _⟩ rfl wr.heap.size 1 rfl rfl (by intro j u hj;cases j with|zero=>cases hj;go_simp|succ j=>simp at hj) (by intro u hu;simp at hu;subst hu;rfl) (by omega) (by omega) ?_;intro A2 cap2 w2 hA2)
   go_ret
   refine⟨_,rfl,?_⟩
   have:=hA2.new
   rw [HZ.out]
   unfold WB
   rw [I0,J0,hout]
   simpa using this
end Go.Proofs.YtfjhdnjlhjimeaaGreatDoor
