/- Lists of texts. Conditions: as stated. -/
import Derived.Test.YtlnkgcdeljhjcaaGreatDoorApps
set_option maxRecDepth 100000
set_option maxHeartbeats 2000000
namespace Go.Proofs.YtlnkgcdeljhjcaaGreatDoor
open Go.RowKit

theorem XG.one (w0:World) (e:TypeId) {w:World} (x:Value) (h:Qb [] w0 w):XG w0 (w.alloc (.cells #[x] e)) e 1 (.slice (some ⟨w.heap.size,0,none⟩) 1 1) 1 [.v x]:=
 ⟨[x],[],⟨by simp,.inr ⟨w.heap.size,1, #[x],rfl,h.size,heap_alloc_new w _,Nat.le_refl _,by simp [maxLen],rfl,by simp⟩⟩,(Qu.cons_v (Qu.nil _)).1,List.nodup_nil,by simp,by simp,h.alloc _⟩
def QU (p:Qh):List ByteArray:=p.core.kind::p.layers.map (·.name)
theorem QfC (p:Qh):QfS (QU p)<=1+xo p:=by
 unfold QfS ZY QU xo Qfw yK xE
 rw [List.length_cons,List.map_cons,List.sum_cons,List.length_map,List.map_map]
 have e:(ByteArray.size ∘ fun x:ZW=>x.name)=kF:=rfl
 rw [e]
 omega
theorem GX (p:Qh) (u3 u5:Value) (B:Nat) (w:World) (hl:p.layers.length<=1048576) (r5:Rd w B (layers p.layers) u5) (hB:B<=w.heap.size):
  Calls Tryz.prog 54 #[.agg #[.string p.core.kind,.bool p.core.on,.bool p.core.broken,u3,.int .i64 p.core.count,u5]] w (Kl (Ws (QU p)) w):=by
 obtain⟨A,cap,rfl,h0,h1,hrow⟩:=Xa r5
 unfold maxLen at h1
 clear r5
 go_enter Tryz.func54,Tryz.ntmps54
 go_wp2_with fail
 go_loopw [3,13] (fun v i wr=>∃(k:Nat) (A':Option Addr) (cap':Nat),k<=p.layers.length/\i= .int .i64 k/\v= .slice A' (k+1) cap'/\XG w wr 9 1 (.slice A' (k+1) cap') (k+1) ((p.core.kind::(p.layers.take k).map (·.name)).flatMap U5)) (fun _ i _=>p.layers.length-(intOf i).toNat)
 case atStart=>exact⟨0,_,1,Nat.zero_le _,rfl,rfl,by have:=XG.one w 9 (.string p.core.kind) ((Qb.refl [] w).alloc (.cells #[.string p.core.kind,.bool p.core.on,.bool p.core.broken,u3,.int .i64 p.core.count,.slice A p.layers.length cap] 97));simpa [U5] using this⟩
 case round=>
  obtain⟨k,A',cap',hk,rfl,rfl,hh⟩:=hrel
  by_cases hlt:k<p.layers.length
  ·obtain⟨b,off,rfl,hb,q0,q1⟩:=YR (hrow.cz hh.chg hB) k hlt
   have hsz:=hh.chg.size
   go_wp2_with (at_builtin;refine Xm rfl (.tmp 17) (.tmp 20) _ rfl 9 _ 1 16 Tryz.underlying50 Wf rfl (by omega) hh (us:=[.string p.layers[k].name]) (dsE:=U5 p.layers[k].name) ⟨[],Qu.cons_v (Qu.nil _),by simp,((Qb.refl _ _).alloc _).alloc _⟩ rfl (wr.heap.size+1) 1 rfl rfl (by intro j u hj;cases j with|zero=>cases hj;go_simp|succ j=>simp at hj) (by intro u hu;simp at hu;subst hu;rfl) (by omega) (by omega) ?_;intro A2 cap2 w2 hA2)
   go_roundw
   case rel=>exact⟨k+1,A2,cap2,by omega,by go_num,by go_num,by rw [List.take_succ_eq_append_getElem hlt,List.map_append, <-List.cons_append,List.flatMap_append];simpa using hA2⟩
   case measure=>simp [intOf];omega
  ·obtain rfl:k=p.layers.length:=by omega
   rw [List.take_length] at hh
   go_wp2_with fail
   go_ret
   exact⟨_,rfl,by have:=hh.new;unfold Ws QU;rw [List.length_cons,List.length_map];exact this⟩
def Zw (c:UInt8):List UInt8->List UInt8->List (List UInt8)
 |cur,[]=>[cur]
 |cur,b::l=>if b=c then cur::Zw c [] l else Zw c (cur++ [b]) l
def Ub (l:List UInt8):ByteArray:=⟨l.toArray⟩
def QM (c:UInt8) (s:ByteArray):List ByteArray:=(Zw c [] s.data.toList).map Ub
theorem JV (c:UInt8):∀(l cur:List UInt8),(Zw c cur l).length<=l.length+1
 | [],cur=>by simp [Zw]
 |b::l,cur=>by
  rw [Zw]
  split
  ·have:=JV c l [];simp;omega
  ·have:=JV c l (cur++ [b]);simp;omega
def cut (s:ByteArray) (a b:Nat):List UInt8:=(s.data.toList.drop a).take (b-a)
theorem Ks (s:ByteArray) (a b:Nat):(s.extract a b).data.toList=cut s a b:=by
 unfold cut
 rw [ByteArray.data_extract,Array.toList_extract,List.extract_eq_take_drop]
theorem Jh (s:ByteArray) (a b:Nat):s.extract a b=Ub (cut s a b):=by
 apply ByteArray.ext
 apply Array.toList_inj.1
 rw [Ks]
 rfl
theorem Zr (s:ByteArray):s.data.toList.length=s.size:=by rw [Array.length_toList];rfl
theorem QgL {s:ByteArray} {k:Nat} (hk:k<s.size):cut s k (k+1)=[s.data.toList[k]'(by rw [Zr];exact hk)]:=by
 unfold cut
 rw [List.drop_eq_getElem_cons (by rw [Zr];exact hk),show k+1-k=0+1 by omega,List.take_succ_cons,List.take_zero]
theorem QfO {s:ByteArray} {f k:Nat} (hf:f<=k) (hk:k<s.size):cut s f (k+1)=cut s f k++ [s.data.toList[k]'(by rw [Zr];exact hk)]:=by
 have hk':k<s.data.toList.length:=by rw [Zr];exact hk
 unfold cut
 rw [show k+1-f=(k-f)+1 by omega,List.take_succ_eq_append_getElem (by rw [List.length_drop];omega)]
 congr 2
 rw [List.getElem_drop]
 congr 1
 omega
theorem Qbn {s:ByteArray} {k:Nat} (hk:k<s.size):(s.extract k (k+1)).toList=[s.data.toList[k]'(by rw [Zr];exact hk)]:=by
 rw [ByteArray.toList_eq,Ks,QgL hk]
theorem Qg3 {s:ByteArray} {c:UInt8} {f k:Nat} (hk:k<s.size) (hb:((s.extract k (k+1)).toList== [c])=true):Zw c (cut s f k) (s.data.toList.drop k)=cut s f k::Zw c (cut s (k+1) (k+1)) (s.data.toList.drop (k+1)):=by
 rw [Qbn hk] at hb
 simp at hb
 rw [List.drop_eq_getElem_cons (by rw [Zr];exact hk),Zw,if_pos (by simpa using hb)]
 simp [cut]
theorem Qgy {s:ByteArray} {c:UInt8} {f k:Nat} (hf:f<=k) (hk:k<s.size) (hb:((s.extract k (k+1)).toList== [c])=false):Zw c (cut s f k) (s.data.toList.drop k)=Zw c (cut s f (k+1)) (s.data.toList.drop (k+1)):=by
 rw [Qbn hk] at hb
 simp at hb
 rw [List.drop_eq_getElem_cons (by rw [Zr];exact hk),Zw,if_neg (by simpa using hb),QfO hf hk]
theorem Qhq {s:ByteArray} {c:UInt8} {f:Nat}:Zw c (cut s f s.size) (s.data.toList.drop s.size)=[cut s f s.size]:=by
 rw [List.drop_eq_nil_of_le (by rw [Zr];exact Nat.le_refl _),Zw]
theorem KX (s:ByteArray) (c:UInt8) (w:World) (hs:s.size<=1048576):
  Calls Tryz.prog 229 #[.string s,.string ⟨#[c]⟩] w (Kl (Ws (QM c s)) w):=by
 go_enter Tryz.func229,Tryz.ntmps229
 go_wp2_with fail
 go_loopw [5,6,7] (fun v fr i wr=>∃(f k n:Nat) (A':Option Addr) (cap':Nat) (out:List ByteArray),f<=k/\k<=s.size/\n<=f/\fr= .int .i64 f/\i= .int .i64 k/\v= .slice A' n cap'/\out.length=n/\XG w wr 9 1 (.slice A' n cap') n (out.flatMap U5)/\Hid (QM c s=out++(Zw c (cut s f k) (s.data.toList.drop k)).map Ub)) (fun _ _ i _=>s.size-(intOf i).toNat)
 case atStart=>exact⟨0,0,0,_,0,[],Nat.le_refl _,Nat.zero_le _,Nat.le_refl _,rfl,rfl,rfl,rfl,XG.empty w 9 1 (Qb.refl _ _),by simp [Hid,QM,cut]⟩
 case round=>
  obtain⟨f,k,n,A',cap',out,hfk,hk,hnf,rfl,rfl,rfl,hout,hh,HX⟩:=hrel
  by_cases hlt:k<s.size
  ·have i1:(0:Int)<=(k:Int):=by omega
   have i2:(k:Int)+1<=(s.size:Int):=by omega
   have i3:(k:Int)<=(k:Int)+1:=by omega
   have i4:(f:Int)<=(k:Int):=by omega
   have i5:(k:Int)<=(s.size:Int):=by omega
   have HA:=Qd hh
   clear hh
   cases hb:((s.extract k (k+1)).toList== [c])
   ·have HS:=Qd (Qgy (f:=f) hfk hlt hb)
    go_wp2_with fail
    go_roundw
    case rel=>exact⟨f,k+1,n,A',cap',out,by omega,by omega,hnf,rfl,by go_num,rfl,hout,HA.out,Qd (by rw [HX.out,HS.out])⟩
    case measure=>simp [intOf];omega
   ·have HS:=Qd (Qg3 (f:=f) hlt hb)
    go_wp2_with (at_builtin;refine Xm rfl (.tmp 29) (.tmp 34) _ rfl 9 _ 1 16 Tryz.underlying50 Wf rfl (by omega) HA.out (us:=[.string (s.extract f k)]) (dsE:=U5 (s.extract f k)) ⟨[],Qu.cons_v (Qu.nil _),by simp,(Qb.refl _ _).alloc _⟩ rfl wr.heap.size 1 rfl rfl (by intro j u hj;cases j with|zero=>cases hj;go_simp|succ j=>simp at hj) (by intro u hu;simp at hu;subst hu;rfl) (by omega) (by omega) ?_;intro A2 cap2 w2 hA2)
    go_roundw
    case rel=>exact⟨k+1,k+1,n+1,A2,cap2,out++ [s.extract f k],Nat.le_refl _,by omega,by omega,by go_num,by go_num,by go_num,by simp [hout],by rw [List.flatMap_append];simpa using hA2,Qd (by rw [HX.out,HS.out,List.map_cons, <-Jh];simp)⟩
    case measure=>simp [intOf];omega
  ·obtain rfl:k=s.size:=by omega
   have HA:=Qd hh
   clear hh
   have i4:(f:Int)<=(s.size:Int):=by omega
   have HY:=HX.out
   rw [Qhq,List.map_cons,List.map_nil, <-Jh] at HY
   have HZ:=Qd HY
   clear HY
   go_wp2_with (at_builtin;refine Xm rfl (.tmp 43) (.tmp 47) _ rfl 9 _ 1 16 Tryz.underlying50 Wf rfl (by omega) HA.out (us:=[.string (s.extract f s.size)]) (dsE:=U5 (s.extract f s.size)) ⟨[],Qu.cons_v (Qu.nil _),by simp,(Qb.refl _ _).alloc _⟩ rfl wr.heap.size 1 rfl rfl (by intro j u hj;cases j with|zero=>cases hj;go_simp|succ j=>simp at hj) (by intro u hu;simp at hu;subst hu;rfl) (by omega) (by omega) ?_;intro A2 cap2 w2 hA2)
   go_ret
   refine⟨_,rfl,?_⟩
   have:=hA2.new
   rw [HZ.out]
   unfold Ws
   rw [List.length_append,List.flatMap_append,hout]
   simpa using this
end Go.Proofs.YtlnkgcdeljhjcaaGreatDoor
