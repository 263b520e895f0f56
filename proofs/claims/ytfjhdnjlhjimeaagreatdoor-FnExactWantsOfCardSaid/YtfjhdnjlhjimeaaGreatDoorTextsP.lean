/- ParseFace of both packages. Conditions: as stated. -/
import Derived.Test.YtfjhdnjlhjimeaaGreatDoorMoreW
import Derived.Test.YtfjhdnjlhjimeaaGreatDoorIsActs
set_option maxRecDepth 100000
set_option maxHeartbeats 4000000
namespace Go.Proofs.YtfjhdnjlhjimeaaGreatDoor
open Go.RowKit

end Go.Proofs.YtfjhdnjlhjimeaaGreatDoor
set_option maxRecDepth 100000
set_option maxHeartbeats 2000000
namespace Go.Proofs.YtfjhdnjlhjimeaaGreatDoor
open Go.RowKit

def QgS:List ByteArray:=[⟨#[114,117,110]⟩,⟨#[107,101,101,112]⟩,⟨#[116,101,108,108]⟩,⟨#[104,101,97,114]⟩,⟨#[115,97,118,101]⟩,⟨#[104,101,97,108]⟩]
def YL (k:Nat):ByteArray:=QgS.getD k ⟨#[]⟩
def VE (f:Int):Nat->List ByteArray
 |0=>[]
 |k+1=>if has f k=true then VE f k++ [YL k] else VE f k
instance (f:Int):Decidable (ql f):=inferInstanceAs (Decidable (_/\_))
def Gc (f:Int):ByteArray:=if f=0 then⟨#[110,111,110,101]⟩ else if ql f then Zx (VE f 6) ⟨#[43]⟩ else⟨#[]⟩
theorem QbW {f:Int} (h0:f≠0) (h:ql f):Gc f=Zx (VE f 6) ⟨#[43]⟩:=by
 unfold Gc;rw [if_neg h0,if_pos h]
theorem Qca {f:Int} (h:¬ql f):Gc f=⟨#[]⟩:=by
 unfold Gc
 have h0:f≠0:=fun e=>h ⟨by omega,by omega⟩
 rw [if_neg h0,if_neg h]
theorem yz (f:Int):∀k,(VE f k).length<=k
 |0=>F0 _
 |k+1=>by
  rw [VE]
  have:=yz f k
  split
  ·simp;omega
  ·omega
theorem jN (k:Nat):(YL k).size<=4:=by
 unfold YL QgS
 match k with
 |0|1|2|3|4|5=>decide
 |k+6=>simp [ByteArray.size]
theorem kC (f:Int):∀k,Zp (VE f k)<=4 * k
 |0=>F0 _
 |k+1=>by
  rw [VE]
  have:=kC f k
  have:=jN k
  unfold Zp at *
  split
  ·simp;omega
  ·omega
theorem QdN {f:Int} {k:Nat} (h:has f k=true):VE f (k+1)=VE f k++ [YL k]:=by rw [VE,if_pos h]
theorem Qem {f:Int} {k:Nat} (h:has f k=false):VE f (k+1)=VE f k:=by rw [VE,if_neg (by simp [h])]
theorem qm (l:List ByteArray) (sep:ByteArray) (n m:Nat) (hs:sep.size<=8) (hn:l.length<=n) (hW:Zp l<=m):(Zx l sep).size<=8 * n+m:=by
 cases l with
 |nil=>simp [yq,ByteArray.size]
 |cons x r=>
  rw [Ji]
  simp at hn
  have:sep.size * r.length<=8 * n:=V9 hs (by omega)
  omega
theorem Jy (f:Int):(Gc f).size<=100:=by
 unfold Gc
 split
 ·decide
 ·split
  ·exact G5 (qm _ ⟨#[43]⟩ 6 24 (by decide) (yz f 6) (kC f 6)) (by decide)
  ·decide
theorem QfL:∀(f:Fin 64) (k:Fin 6),(bits .and .i64 (((f.1:Nat):Int) / (2 ^ k.1:Nat)) 1==1)=has ((f.1:Nat):Int) k:=by decide+kernel
theorem Qjl (w:World):
  Calls Tryz.prog 206 #[] w fun e w'=>e= .returned (.slice (some ⟨w.heap.size,0,none⟩) 6 6)/\w'=w.alloc (.cells (QgS.map Value.string).toArray 9):=by
 go_enter Tryz.func206,Tryz.ntmps206
 go_wp2_with fail
 go_ret
 exact⟨rfl,rfl⟩
theorem Qje (k:Nat) (w:World) (hk:k<6):
  Calls Tryz.prog 181 #[.int .i64 k] w (Kv (YL k) w):=by
 go_enter Tryz.func181,Tryz.ntmps181
 go_wp2_with fail
 refine(Qjl w).mono ?_
 rintro e w1 ⟨rfl,hw1⟩
 have hc:w1.cell? ⟨w.heap.size,k,none⟩=some (.string (YL k)):=by
  rw [hw1,cell_of_row (w.alloc (.cells (QgS.map Value.string).toArray 9)) w.heap.size k _ 9 (0,0) (heap_alloc_new w _)]
  match k,hk with
  |0,_|1,_|2,_|3,_|4,_|5,_=>rfl
 have c1:Qc [] w w1:=hw1 ▸ (B0 [] w).alloc _
 clear hw1
 go_wp2_with fail
 go_ret
 exact⟨rfl,c1⟩
theorem Qjf (f:Int) (w:World):
  Calls Tryz.prog 148 #[.int .i64 f] w (Kv (Gc f) w):=by
 by_cases hf:ql f
 ·have IF:=Qb (fun W=>(xw f W).mono (QZ.pos hf))
  have HF:=Qb hf
  clear hf
  go_enter Tryz.func148,Tryz.ntmps148
  go_wp2_with fail
  go_loopw [3,4] (fun v i wr=>∃(k:Nat) (A':Option Addr) (cap':Nat),k<=6/\i= .int .i64 k/\v= .slice A' (VE f k).length cap'/\Yo w wr 9 1 (.slice A' (VE f k).length cap') (VE f k).length ((VE f k).flatMap Ur)) (fun _ i _=>6-(intOf i).toNat)
  case atStart=>exact⟨0,_,0,by omega,rfl,rfl,Yo.empty w _ _ (B0 _ _)⟩
  case round=>
   obtain⟨k,A',cap',hk,rfl,rfl,hh⟩:=hrel
   obtain⟨L,hL⟩:∃L,L=VE f k:=⟨_,rfl⟩
   have hlen:=yz f k
   have hlw:=kC f k
   rw [<-hL] at hh hlen hlw
   rw [<-hL]
   have LL:=Qb hL
   clear hL
   by_cases hlt:k<6
   ·cases hb:has f k
    ·have HB:=Qb (Qem hb)
     have L2qq:=fun W=>(Qjk f k W HF.out hlt).mono (QZ.neg (by simp [hb]))
     have L2qq:=Qb L2qq
     clear hb
     go_wp2_with fail
     refine(IF.out _).mono ?_
     rintro e w1 ⟨rfl,rfl⟩
     go_wp2_with fail
     refine(L2qq.out _).mono ?_
     rintro e w1 ⟨rfl,rfl⟩
     go_wp2_with fail
     go_roundw
     case rel=>exact⟨k+1,A',cap',by omega,by go_num,by rw [HB.out, <-LL.out],by rw [HB.out, <-LL.out];exact hh⟩
     case measure=>simp [intOf];omega
    ·have HB:=Qb (QdN hb)
     have L2qq:=fun W=>(Qjk f k W HF.out hlt).mono (QZ.pos hb)
     have L2qq:=Qb L2qq
     clear hb
     go_wp2_with fail
     refine(IF.out _).mono ?_
     rintro e w1 ⟨rfl,rfl⟩
     go_wp2_with fail
     refine(L2qq.out _).mono ?_
     rintro e w1 ⟨rfl,rfl⟩
     go_wp2_with fail
     refine(Qje k _ hlt).mono ?_
     rintro e w2 ⟨rfl,c2⟩
     go_wp2_with (at_builtin;refine ZN rfl (.tmp 17) (.tmp 20) _ rfl 9 _ 1 16 Tryz.underlying54 Yx rfl (by omega) hh (us:=[.string (YL k)]) (dsE:=Ur (YL k)) ⟨[],I2 (T8 _),by simp,c2.alloc _⟩ rfl w2.heap.size 1 rfl rfl (by intro j u hj;cases j with|zero=>cases hj;go_simp|succ j=>simp at hj) (by intro u hu;simp at hu;subst hu;rfl) (by omega) (by omega) ?_;intro A2 cap2 w3 hA2)
     go_roundw
     case rel=>exact⟨k+1,A2,cap2,by omega,by go_num,by rw [HB.out, <-LL.out];simp,by rw [HB.out, <-LL.out,J0];simpa using hA2⟩
     case measure=>simp [intOf];omega
   ·obtain rfl:k=6:=by omega
    have hn:=hh.new
    by_cases h0:f=0
    ·subst h0
     go_wp2_with fail
     go_ret
     exact⟨YC rfl,hh.chg⟩
    ·have hj:=Qb (fun W (hc:Qc [] wr W)=>ze L ⟨#[43]⟩ _ wr.heap.size W (by omega) (by decide) (by omega) (show Rd W wr.heap.size (WB L) _ from hn.rd.cz hc (F0 _)) hc.size)
     have hcg:=hh.chg
     go_wp2_with fail
     refine(hj.out _ (B0 _ _)).mono ?_
     rintro e w1 ⟨rfl,c1⟩
     go_wp2_with fail
     go_ret
     exact⟨YC (by rw [QbW h0 HF.out, <-LL.out]),hcg.tz c1⟩
 ·have IF:=Qb (fun W=>(xw f W).mono (QZ.neg hf))
  have hz:=Qb (Qca hf)
  have h0:f≠0:=fun e=>hf ⟨by omega,by omega⟩
  clear hf
  go_enter Tryz.func148,Tryz.ntmps148
  go_wp2_with fail
  go_loopw [3,4] (fun v i wr=>i= .int .i64 0/\v= .slice (some ⟨w.heap.size,0,none⟩) 0 0/\wr=w.alloc (.cells #[] 9)) (fun _ i _=>0)
  case atStart=>exact⟨rfl,rfl,rfl⟩
  case round=>
   obtain⟨rfl,rfl,hw⟩:=hrel
   have c1:Qc [] w wr:=hw ▸ (B0 [] w).alloc _
   have hrd:Rd wr wr.heap.size (WB []) (.slice (some ⟨w.heap.size,0,none⟩) 0 0):=by
    unfold WB
    rw [Rd]
    exact⟨_,0,rfl,F0 _,by unfold maxLen;omega,.inl rfl⟩
   have hj:=Qb (fun W (hc:Qc [] wr W)=>ze [] ⟨#[43]⟩ _ wr.heap.size W (by simp) (by decide) (by simp [Zp]) (hrd.cz hc (F0 _)) hc.size)
   clear hw hrd
   go_wp2_with fail
   refine(IF.out _).mono ?_
   rintro e w1 ⟨rfl,rfl⟩
   go_wp2_with fail
   refine(hj.out _ (B0 _ _)).mono ?_
   rintro e w1 ⟨rfl,c2⟩
   go_wp2_with fail
   go_ret
   exact⟨YC hz.out.symm,c1.tz c2⟩
def Js (w:World):Prop:= 0 <w.heap.size/\∀k:Fin 6,w.cell? ⟨0,k,none⟩=some (.string (YL k))
theorem Js.keep {w w':World} (h:Js w) (hc:Qc [] w w'):Js w':=
 ⟨F6 h.1 hc.size,fun k=>(hc.cell (p:=⟨0,k,none⟩) h.1 (by simp)).trans (h.2 k)⟩
theorem Ut (f:Int) (w:World) (hg:Js w):
  Calls Tryz.prog 66 #[.int .i64 f] w (Kv (Gc f) w):=by
 by_cases hf:ql f
 ·have IF:=Qb (fun W=>(Wr f W).mono (QZ.pos hf))
  have HF:=Qb hf
  by_cases h0:f=0
  ·subst h0
   clear hf
   go_enter Tryz.func66,Tryz.ntmps66
   go_wp2_with fail
   refine(IF.out _).mono ?_
   rintro e w1 ⟨rfl,rfl⟩
   go_wp2_with fail
   go_ret
   exact⟨YC rfl,B0 _ _⟩
  ·have q0:w.cell? ⟨0,0,none⟩=some (.string (YL 0)):=hg.2 0
   have q1:w.cell? ⟨0,1,none⟩=some (.string (YL 1)):=hg.2 1
   have q2:w.cell? ⟨0,2,none⟩=some (.string (YL 2)):=hg.2 2
   have q3:w.cell? ⟨0,3,none⟩=some (.string (YL 3)):=hg.2 3
   have q4:w.cell? ⟨0,4,none⟩=some (.string (YL 4)):=hg.2 4
   have q5:w.cell? ⟨0,5,none⟩=some (.string (YL 5)):=hg.2 5
   have hz0:(f==0)=false:=by simpa using h0
   clear hf hg
   go_enter Tryz.func66,Tryz.ntmps66
   go_wp2_with fail
   refine(IF.out _).mono ?_
   rintro e w1 ⟨rfl,rfl⟩
   go_wp2_with fail
   go_loopw [3,12] (fun v i wr=>∃(k:Nat) (A':Option Addr) (cap':Nat),k<=6/\i= .int .i64 k/\v= .slice A' (VE f k).length cap'/\Yo w1 wr 9 1 (.slice A' (VE f k).length cap') (VE f k).length ((VE f k).flatMap Ur)) (fun _ i _=>6-(intOf i).toNat)
   case atStart=>exact⟨0,none,0,by omega,rfl,rfl,S8 w1 _ _ (B0 _ _)⟩
   case round=>
    obtain⟨k,A',cap',hk,rfl,rfl,hh⟩:=hrel
    obtain⟨L,hL⟩:∃L,L=VE f k:=⟨_,rfl⟩
    have hlen:=yz f k
    have hlw:=kC f k
    rw [<-hL] at hh hlen hlw
    rw [<-hL]
    have LL:=Qb hL
    clear hL q0 q1 q2 q3 q4 q5
    by_cases hlt:k<6
    ·have hidx:∀W,(Instr.index 165 (.agg #[.string (YL 0),.string (YL 1),.string (YL 2),.string (YL 3),.string (YL 4),.string (YL 5)]) (.int .i64 k)).run Tryz.prog W= .ok (.string (YL k)) W:=by
      obtain rfl|rfl|rfl|rfl|rfl|rfl:k=0∨k=1∨k=2∨k=3∨k=4∨k=5:=by omega
      all_goals exact fun W=>by kernel_rfl
     have hbit:(bits .and .i64 (f / 2 ^ k) 1==1)=has f k:=by
      have h0':=HF.out.1
      have:=QfL ⟨f.toNat,by have:=HF.out;unfold ql at this;omega⟩ ⟨k,hlt⟩
      simpa [Int.toNat_of_nonneg h0'] using this
     cases hb:has f k
     ·rw [hb] at hbit
      have HB:=Qb (Qem hb)
      clear hb
      go_wp2_with fail
      go_roundw
      case rel=>exact⟨k+1,A',cap',by omega,by go_num,by rw [HB.out, <-LL.out],by rw [HB.out, <-LL.out];exact hh⟩
      case measure=>simp [intOf];omega
     ·rw [hb] at hbit
      have HB:=Qb (QdN hb)
      clear hb
      go_wp2_with (at_builtin;refine ZN rfl (.tmp 21) (.tmp 23) _ rfl 9 _ 1 16 Tryz.underlying54 Yx rfl (by omega) hh (us:=[.string (YL k)]) (dsE:=Ur (YL k)) ⟨[],I2 (T8 _),by simp,(B0 _ _).alloc _⟩ rfl wr.heap.size 1 rfl rfl (by intro j u hj;cases j with|zero=>cases hj;go_simp|succ j=>simp at hj) (by intro u hu;simp at hu;subst hu;rfl) (by omega) (by omega) ?_;intro A2 cap2 w3 hA2)
      go_roundw
      case rel=>exact⟨k+1,A2,cap2,by omega,by go_num,by rw [HB.out, <-LL.out];simp,by rw [HB.out, <-LL.out,J0];simpa using hA2⟩
      case measure=>simp [intOf];omega
    ·obtain rfl:k=6:=by omega
     have hn:=hh.new
     have hj:=Qb (fun W (hc:Qc [] wr W)=>WE L ⟨#[43]⟩ _ wr.heap.size W (by omega) (by decide) (by omega) (show Rd W wr.heap.size (WB L) _ from hn.rd.cz hc (F0 _)) hc.size)
     have hcg:=hh.chg
     go_wp2_with fail
     refine(hj.out _ (B0 _ _)).mono ?_
     rintro e w2 ⟨rfl,c1⟩
     go_wp2_with fail
     go_ret
     exact⟨YC (by rw [QbW h0 HF.out, <-LL.out]),hcg.tz c1⟩
 ·have IF:=Qb (fun W=>(Wr f W).mono (QZ.neg hf))
  have hz:=Qb (Qca hf)
  clear hf
  go_enter Tryz.func66,Tryz.ntmps66
  go_wp2_with fail
  refine(IF.out _).mono ?_
  rintro e w1 ⟨rfl,rfl⟩
  go_wp2_with fail
  go_ret
  exact⟨YC hz.out.symm,B0 _ _⟩
end Go.Proofs.YtfjhdnjlhjimeaaGreatDoor
namespace Go.Proofs.YtfjhdnjlhjimeaaGreatDoor
open Go.RowKit

end Go.Proofs.YtfjhdnjlhjimeaaGreatDoor
namespace Go.Proofs.YtfjhdnjlhjimeaaGreatDoor
open Go.RowKit

theorem list_inj {a b:ByteArray} (h:a.data.toList=b.data.toList):a=b:=O5 (Q2.1 h)
def Pl (l:List UInt8):Prop:=59∉l/\125∉l
instance (l:List UInt8):Decidable (Pl l):=inferInstanceAs (Decidable (59∉l/\125∉l))
def Low (l:List UInt8):Prop:=Pl l/\32∉l/\l≠ []
instance (l:List UInt8):Decidable (Low l):=inferInstanceAs (Decidable ((59∉l/\125∉l)/\32∉l/\l≠ []))
end Go.Proofs.YtfjhdnjlhjimeaaGreatDoor
namespace Go.Proofs.YtfjhdnjlhjimeaaGreatDoor
open Go.RowKit

def Qjv (t:ByteArray):Option Int:=((List.range 64).find? (fun k=>decide ((Gc (k:Nat)).data.toList=t.data.toList))).map (fun k=>(k:Int))
theorem Qj4 {t:ByteArray} (h:∀k:Nat,k<64->Gc k≠t):Qjv t=none:=by
 unfold Qjv
 rw [List.find?_eq_none.2 (fun k hk=>by
  simp only [decide_eq_true_eq]
  exact fun e=>h k (List.mem_range.1 hk) (list_inj e))]
 rfl
theorem Qj3 {t:ByteArray} {k:Nat} (hk:k<64) (h:Gc k=t) (hn:∀j:Nat,j<k->Gc j≠t):Qjv t=some (k:Int):=by
 unfold Qjv
 have:(List.range 64).find? (fun k=>decide ((Gc (k:Nat)).data.toList=t.data.toList))=some k:=by
  rw [List.find?_range_eq_some]
  refine⟨by simp [h],by simpa using hk,fun j hj=>?_⟩
  simp only [Bool.not_eq_true',decide_eq_false_iff_not]
  exact fun e=>hn j hj (list_inj e)
 rw [this]
 rfl
theorem Qkp:∀a b:Fin 64,(Gc (a.1:Nat)).data.toList=(Gc (b.1:Nat)).data.toList->a=b:=by decide+kernel
theorem Qko {f:Int} (h:ql f):Qjv (Gc f)=some f:=by
 have h0:0<=f/\f<=63:=h
 obtain⟨k,rfl⟩:∃k:Nat,f=k:=⟨f.toNat,by omega⟩
 refine Qj3 (by omega) rfl (fun j hj e=>?_)
 have:=Qkp ⟨j,by omega⟩ ⟨k,by omega⟩ (by rw [e])
 simp at this
 omega
theorem Qjj {n:Int} (h:ZK n):YI (W5 n)=some n:=qs ⟨h.1,h.2,rfl⟩
end Go.Proofs.YtfjhdnjlhjimeaaGreatDoor
set_option maxRecDepth 100000
set_option maxHeartbeats 4000000
namespace Go.Proofs.YtfjhdnjlhjimeaaGreatDoor
open Go.RowKit

theorem Qka {a b:ByteArray} (h:a≠b):(a.toList==b.toList)=false:=by
 rw [beq_eq_false_iff_ne,ByteArray.toList_eq,ByteArray.toList_eq]
 exact fun e=>h (list_inj e)
theorem Qj7 (s:ByteArray) (w:World):
  Calls Tryz.prog 119 #[.string s] w (WU (Qjv s) w):=by
 have HS:=Qb (fun(k:Nat) (hk:k<64)=>Qj3 (t:=s) hk)
 have HN:=Qb (Qj4 (t:=s))
 go_enter Tryz.func119,Tryz.ntmps119
 go_wp2_with fail
 go_loopw [4] (fun i wr=>∃k:Nat,k<=64/\i= .int .i64 k/\Qc [] w wr/\Hid (∀j:Nat,j<k->Gc j≠s)) (fun i _=>64-(intOf i).toNat)
 case atStart=>exact⟨0,by omega,rfl,B0 _ _,fun j hj=>absurd hj (by omega)⟩
 case round=>
  obtain⟨k,hk,rfl,hc,HJ⟩:=hrel
  by_cases hlt:k<64
  ·have FK:=Qb (fun W=>Qjf k W)
   by_cases ht:Gc k=s
   ·have HO:=Qb (HS.out k hlt ht HJ.out)
    rw [ht] at FK
    clear ht
    go_wp2_with fail
    refine(FK.out _).mono ?_
    rintro e w1 ⟨rfl,c1⟩
    go_wp2_with fail
    go_ret2
    exact j2 HO.out rfl (hc.tz c1)
   ·have hb:=Qka ht
    have HJ2:Hid (∀j:Nat,j<k+1->Gc j≠s):=fun j hj=>by
     rcases Y6 j k with h|h
     ·exact HJ.out j h
     ·obtain rfl:j=k:=by omega
      exact ht
    obtain⟨t,hT⟩:∃t:ByteArray,t=Gc k:=⟨_,rfl⟩
    rw [<-hT] at FK hb
    clear hT ht
    go_wp2_with fail
    refine(FK.out _).mono ?_
    rintro e w1 ⟨rfl,c1⟩
    go_wp2_with fail
    go_roundw
    case rel=>exact⟨k+1,by omega,by go_num,hc.tz c1,HJ2⟩
    case measure=>simp [intOf];omega
  ·obtain rfl:k=64:=by omega
   go_wp2_with fail
   go_ret2
   exact j2 (HN.out HJ.out) rfl hc
end Go.Proofs.YtfjhdnjlhjimeaaGreatDoor
