/- The text of a number. Conditions: as stated. -/
import Derived.Test.YtlnkgcdeljhjcaaGreatDoorNames
import Derived.Test.YtlnkgcdeljhjcaaGreatDoorShItoa
import Derived.Test.YtlnkgcdeljhjcaaGreatDoorShAtoi
import Derived.Lib.ItoaNum
import Derived.Lib.Atoi
import Derived.Lib.AtoiErrMem
set_option maxRecDepth 100000
set_option maxHeartbeats 2000000
namespace Go.Proofs.YtlnkgcdeljhjcaaGreatDoor
open Go.RowKit

def JT (s:ByteArray) (w:World) (e:Ending) (w':World):Prop:=e= .returned (.string s)/\Qb [] w w'
def Uv (n:Int):ByteArray:=⟨(Lib.itoa n).toArray⟩
def U8 (n:Int):ByteArray:=⟨(Lib.decDigits n.toNat).toArray⟩
theorem Qcq {m:Int} (h0:0<=m) (h:m<10):U8 m=strOfNums [48+m % 10]:=by
  unfold U8 strOfNums
  have e:m % 10=m:=by omega
  rw [Lib.decDigits,dif_pos (by omega),e]
  have:(48+m).toNat=48+m.toNat:=by omega
  simp [this]
theorem zz {m:Int} (h:10<=m):U8 m=U8 (m / 10)++strOfNums [48+m % 10]:=by
  unfold U8 strOfNums
  rw [Lib.decDigits,dif_neg (by omega)]
  have h1:(m / 10).toNat=m.toNat / 10:=by omega
  have h2:(48+m % 10).toNat=48+m.toNat % 10:=by omega
  apply ByteArray.ext
  rw [ByteArray.data_append]
  simp [h1,h2]
theorem xb {n:Int} (h:0<=n):Uv n=U8 n:=by
  unfold Uv U8 Lib.itoa
  rw [if_neg (by omega)]
theorem Qbh {n:Int} (h:n<0):Uv n=⟨#[45]⟩++U8 (-n):=by
  unfold Uv U8 Lib.itoa
  rw [if_pos h]
  have:n.natAbs=(-n).toNat:=by omega
  apply ByteArray.ext
  rw [ByteArray.data_append]
  simp [this]
theorem US {m:Int} (h:m<=9223372036854775808):(U8 m).size<=1048576:=by
  have:∀(k:Nat) (m:Int),m.toNat<10 ^ (k+1)->(U8 m).size<=k+1:=by
    intro k
    induction k with
    |zero=>intro m h;unfold U8;rw [Lib.decDigits,dif_pos (by omega)];simp [ByteArray.size]
    | succ k ih=>
      intro m h
      by_cases hm:m.toNat<10
      · unfold U8;rw [Lib.decDigits,dif_pos hm];simp [ByteArray.size]
      · rw [zz (by omega),ByteArray.size_append,strOfNums_size]
        have:=ih (m / 10) (by rw [Nat.pow_succ] at h;omega)
        simp
        omega
  have:=this 19 m (by omega)
  omega
theorem Qhx {n:Int} (h0: -9223372036854775808<=n) (h1:n<=9223372036854775807):(Uv n).size<=1048577:=by
  by_cases h:0<=n
  · rw [xb h];have:=US (m:=n) (by omega);omega
  · rw [Qbh (by omega),ByteArray.size_append]
    have:=US (m:= -n) (by omega)
    have e:(⟨#[45]⟩:ByteArray).size=1:=rfl
    omega
theorem QeT:Uv (-9223372036854775808)=⟨#[45,57,50,50,51,51,55,50,48,51,54,56,53,52,55,55,53,56,48,56]⟩:=by
  unfold Uv Lib.itoa
  simp [Lib.decDigits]
theorem wN {P:Program} {a b x:ByteArray} (hx:x=a++b) (h:a.size+b.size<=9223372036854775807) (W:World):(Op.stringOp .add a b).run P W= .ok (.string x) W:=by
  rw [hx];exact run_string_add_sum _ _ _ h
theorem VN {a b:ByteArray} (h:a=b):Ending.returned (.string a)= .returned (.string b):=by rw [h]
theorem WV (m:Int) (w:World) (h0:0<=m) (h1:m<=9):
    Calls Tryz.prog 248 #[.int .i64 m] w (JT (U8 m) w):=by
  have hce:∀i,i<1->(w.alloc (.cells #[.int .u8 (48+m % 10)] 5)).cell? ⟨w.heap.size,0+i,none⟩=some (.int .u8 ([48+m % 10].getD i 0)):=by
    intro i hi
    obtain rfl:i=0:=by omega
    rw [Nat.zero_add,World.cell?_alloc_mark]
    rfl
  have hcv:=run_convert_bytes_arg (P:=Tryz.prog) (w.alloc (.cells #[.int .u8 (48+m % 10)] 5)) 22 5 Tryz.underlying22 Tryz.underlying5 w.heap.size 0 1 1 [48+m % 10] rfl hce 9 Tryz.underlying9
  have HS:=Qd (Qcq h0 (by omega))
  clear hce
  go_enter Tryz.func248,Tryz.ntmps248
  go_wp2_with fail
  go_ret
  exact⟨VN HS.out.symm,(Qb.refl _ _).alloc _⟩
theorem Vx:∀(f:Nat) (m:Int) (w:World),0<=m->m<=9223372036854775807->m.toNat<=f->
    Calls Tryz.prog 248 #[.int .i64 m] w (JT (U8 m) w):=by
  intro f
  induction f with
  | zero=>
    intro m w h0 h1 hf
    exact WV m w h0 (by omega)
  | succ f ih=>
    intro m w h0 h1 hf
    by_cases hm:m<=9
    · exact WV m w h0 hm
    have hce:∀i,i<1->(w.alloc (.cells #[.int .u8 (48+m % 10)] 5)).cell? ⟨w.heap.size,0+i,none⟩=some (.int .u8 ([48+m % 10].getD i 0)):=by
      intro i hi
      obtain rfl:i=0:=by omega
      rw [Nat.zero_add,World.cell?_alloc_mark]
      rfl
    have hcv:=run_convert_bytes_arg (P:=Tryz.prog) (w.alloc (.cells #[.int .u8 (48+m % 10)] 5)) 22 5 Tryz.underlying22 Tryz.underlying5 w.heap.size 0 1 1 [48+m % 10] rfl hce 9 Tryz.underlying9
    clear hce
    have IH:=Qd (fun W=>ih (m / 10) W (by omega) (by omega) (by omega))
    have HS:=Qd (zz (m:=m) (by omega))
    have hd1:(U8 (m / 10)).size<=1048576:=US (by omega)
    obtain⟨d,hd⟩:∃d,d=strOfNums [48+m % 10]:=⟨_,rfl⟩
    have hsz:(strOfNums [48+m % 10]).size=1:=strOfNums_size _
    rw [<-hd] at hcv hsz
    have HD:=Qd hd
    have hdl:d.size<=1:=by omega
    clear hd hsz ih
    go_enter Tryz.func248,Tryz.ntmps248
    go_wp2_with fail
    refine(IH.out _).mono ?_
    rintro e w1 ⟨rfl,c1⟩
    go_wp2_with fail
    go_ret
    exact⟨VN (by rw [HS.out,HD.out]),Qb.tz ((Qb.refl _ _).alloc _) c1⟩
theorem Wc (n:Int) (w:World) (h0: -9223372036854775808<=n) (h1:n<=9223372036854775807):
    Calls Tryz.prog 248 #[.int .i64 n] w (JT (Uv n) w):=by
  by_cases hn:0<=n
  · rw [xb hn]
    exact Vx n.toNat n w hn h1 (Nat.le_refl _)
  · by_cases hmin:n= -9223372036854775808
    · subst hmin
      go_enter Tryz.func248,Tryz.ntmps248
      go_wp2_with fail
      go_ret
      exact⟨VN QeT.symm,Qb.refl _ _⟩
    · have REC:=Qd (Vx (-n).toNat (-n) w (by omega) (by omega) (Nat.le_refl _))
      have HS:=Qd (Qbh (n:=n) (by omega))
      have hd1:(U8 (-n)).size<=1048576:=US (by omega)
      go_enter Tryz.func248,Tryz.ntmps248
      go_wp2_with fail
      refine REC.out.mono ?_
      rintro e w1 ⟨rfl,c1⟩
      go_wp2_with fail
      go_ret
      exact⟨VN HS.out.symm,c1⟩
def J4:Int->List UInt8->Int
  |v,[]=>v
  |v,b::l=>J4 (10 * v+b.toNat-48) l
theorem uj:∀(l:List UInt8) (v:Int) (b:UInt8),J4 v (l++ [b])=10 * J4 v l+b.toNat-48
  | [],v,b=>rfl
  |a::l,v,b=>by rw [List.cons_append,J4,uj l,J4]
def WY (s:ByteArray) (n:Int):Prop:=0<=n/\n<=999/\Uv n=s
def dg (k:Nat):UInt8:=UInt8.ofNat (48+k)
theorem Y3 {k:Nat} (h:k<=9):(dg k).toNat=48+k:=by
  unfold dg
  rw [UInt8.toNat_ofNat']
  omega
theorem Qg9 {u:Nat} (h:u<=999):Lib.decDigits u=if u<10 then [dg u] else if u<100 then [dg (u / 10),dg (u % 10)] else [dg (u / 100),dg (u / 10 % 10),dg (u % 10)]:=by
  by_cases h1:u<10
  · rw [if_pos h1,Lib.decDigits,dif_pos h1];rfl
  · rw [if_neg h1,Lib.decDigits,dif_neg h1]
    by_cases h2:u<100
    · rw [if_pos h2,Lib.decDigits,dif_pos (by omega)];rfl
    · rw [if_neg h2,Lib.decDigits,dif_neg (by omega),Lib.decDigits,dif_pos (by omega)]
      have e:u / 10 / 10=u / 100:=by omega
      rw [e];rfl
theorem Qfe {n:Int} (h0:0<=n):(Uv n).data.toList=Lib.decDigits n.toNat:=by
  unfold Uv Lib.itoa
  rw [if_neg (by omega)]
theorem Qff {u:Nat} (h:u<=999):J4 0 (Lib.decDigits u)=u:=by
  rw [Qg9 h]
  split
  · rename_i h1
    simp only [J4,Y3 (show u<=9 by omega)]
    omega
  · split
    · simp only [J4,Y3 (show u / 10<=9 by omega),Y3 (show u % 10<=9 by omega)]
      omega
    · simp only [J4,Y3 (show u / 100<=9 by omega),Y3 (show u / 10 % 10<=9 by omega),Y3 (show u % 10<=9 by omega)]
      omega
theorem Qgg {u:Nat} (h:u<=999):1<=(Lib.decDigits u).length/\(Lib.decDigits u).length<=3:=by
  rw [Qg9 h]
  split
  · simp
  · split<;>simp
theorem Qec {u:Nat} (h:u<=999):∀b∈Lib.decDigits u,48<=b.toNat/\b.toNat<=57:=by
  intro b hb
  rw [Qg9 h] at hb
  split at hb
  · simp at hb;subst hb;rw [Y3 (by omega)];omega
  · split at hb
    · simp at hb
      rcases hb with rfl|rfl
      · rw [Y3 (by omega)];omega
      · rw [Y3 (by omega)];omega
    · simp at hb
      rcases hb with rfl|rfl|rfl
      · rw [Y3 (by omega)];omega
      · rw [Y3 (by omega)];omega
      · rw [Y3 (by omega)];omega
theorem WY.list {s:ByteArray} {n:Int} (h:WY s n):s.data.toList=Lib.decDigits n.toNat/\n.toNat<=999:=by
  obtain⟨h0,h1,rfl⟩:=h
  exact⟨Qfe h0,by omega⟩
theorem WY.size {s:ByteArray} {n:Int} (h:WY s n):1<=s.size/\s.size<=3:=by
  have h1:=h.list
  have h2:=Qgg h1.2
  rw [<-h1.1] at h2
  rw [Array.length_toList] at h2
  exact h2
theorem WY.val {s:ByteArray} {n:Int} (h:WY s n):J4 0 s.data.toList=n:=by
  have h1:=h.list
  rw [h1.1,Qff h1.2]
  have:=h.1
  omega
theorem WY.digit {s:ByteArray} {n:Int} (h:WY s n):∀b∈s.data.toList,48<=b.toNat/\b.toNat<=57:=by
  have h1:=h.list
  rw [h1.1]
  exact Qec h1.2
theorem WY.unique {s:ByteArray} {n m:Int} (h:WY s n) (k:WY s m):n=m:=h.val.symm.trans k.val
theorem zD:∀(l:List UInt8) (acc:Nat),(∀b∈l,48<=b.toNat/\b.toNat<=57)->Lib.decFrom acc l=some (J4 acc l).toNat/\0<=J4 acc l
  | [],acc,_=>⟨by simp [Lib.decFrom,J4],by simp [J4]⟩
  | b::l,acc,h=>by
    have hb:=h b (by simp)
    have hd:Lib.digitVal b=some (b.toNat-48):=by unfold Lib.digitVal;rw [if_pos hb]
    have ih:=zD l (acc * 10+(b.toNat-48)) (fun x hx=>h x (by simp [hx]))
    have e:((acc * 10+(b.toNat-48):Nat):Int)=10 * (acc:Int)+b.toNat-48:=by omega
    rw [e] at ih
    rw [Lib.decFrom,hd,J4]
    exact ih
theorem WY.atoi {s:ByteArray} {n:Int} (h:WY s n):Lib.atoi s.data.toList=some n:=by
  have hs:=h.size
  have hd:=h.digit
  have hv:=h.val
  have hl:s.data.toList.length=s.size:=Array.length_toList
  cases hL:s.data.toList with
  |nil=>rw [hL] at hl;simp at hl;omega
  | cons b r=>
    rw [hL] at hd hv
    have hb:=hd b (by simp)
    have hv2:=zD (b::r) 0 hd
    rw [Lib.atoi, if_neg (by intro e;have:b=45:=by simpa using e
                             subst this; simp at hb), if_neg (by intro e;have:b=43:=by simpa using e
                                                                 subst this;simp at hb)]
    unfold Lib.decNat
    rw [List.isEmpty_cons,if_neg (by simp),hv2.1]
    have e0:((0:Nat):Int)=0:=rfl
    rw [e0,hv]
    have:=h.1
    simp;omega
open Classical in
noncomputable def Yv (s:ByteArray):Option Int:=if h:∃n,WY s n then some h.choose else none
theorem Ga {s:ByteArray} {n:Int} (h:WY s n):Yv s=some n:=by
  unfold Yv
  have he:∃n,WY s n:=⟨n,h⟩
  rw [dif_pos he,he.choose_spec.unique h]
theorem WB {s:ByteArray} (h:¬ ∃n,WY s n):Yv s=none:=by
  unfold Yv
  rw [dif_neg h]
theorem QaH {s:ByteArray} {n:Int} (h:Yv s=some n):WY s n:=by
  unfold Yv at h
  split at h
  · rename_i he
    cases h
    exact he.choose_spec
  · cases h
def bd:Nat->Int
  |0=>0
  |1=>300
  |2=>3300
  |3=>33300
  |_=>333300
theorem Qgu {k:Nat} (h:k<4):10 * bd k+255<=bd (k+1)/\0<=bd k/\bd (k+1)<=333300:=by
  match k,h with
  |0,_|1,_|2,_|3,_=>decide
theorem QcC {s:ByteArray} {k:Nat} (h:k<s.size):s.data.toList.take (k+1)=s.data.toList.take k++ [s[k]]:=by
  have hl:k<s.data.toList.length:=by rw [Array.length_toList];exact h
  rw [List.take_succ_eq_append_getElem hl,Array.getElem_toList]
  rfl
theorem Qds {a b:ByteArray} (h:a≠b):(a.toList==b.toList)=false:=by
  rw [beq_eq_false_iff_ne]
  intro e
  rw [ByteArray.toList_eq,ByteArray.toList_eq] at e
  exact h (ByteArray.ext (Array.toList_inj.1 e))
theorem Y6 (x a b:Int) (w:World):
    Calls Tryz.prog 202 #[.int .i64 x,.int .i64 a,.int .i64 b] w (Zm (a<=x/\x<=b) w):=by
  go_enter Tryz.func202,Tryz.ntmps202
  go_wp2_with fail
  all_goals(go_ret;refine⟨_,rfl,?_,rfl⟩;simp;try omega)
theorem JB (s:ByteArray) (w:World) (hs:s.size<=1048576):
    Calls Tryz.prog 230 #[.string s] w (Xv (Yv s) w):=by
  go_enter Tryz.func230,Tryz.ntmps230
  go_wp2_with fail
  go_loopw [4,5] (fun n i wr=>∃(k:Nat) (v:Int),k<=s.size/\k<=4/\n= .int .i64 v/\i= .int .i64 k/\Hid (v=J4 0 (s.data.toList.take k))/\ -bd k<=v/\v<=bd k/\QaP w wr) (fun _ i _=>4-(intOf i).toNat)
  case atStart=>exact⟨0,0,Nat.zero_le _,by omega,rfl,rfl,rfl,by decide,by decide,rfl⟩
  case round=>
    obtain⟨k,v,hk,hk4,rfl,rfl,HV,hv0,hv1,rfl⟩:=hrel
    by_cases hlt:k<s.size/\k<4
    · obtain⟨hl1,hl2⟩:=hlt
      have hbs:=Qgu hl2
      have hby:s[k].toNat<=255:=by have:=s[k].toNat_lt;omega
      go_wp2_with fail
      go_roundw
      case rel=>exact⟨k+1,10 * v+s[k].toNat-48,by omega,by omega,by go_num,by go_num,Qd (by rw [QcC hl1,uj, <-HV.out]),by omega,by omega,rfl⟩
      case measure=>simp [intOf];omega
    · have hbk:bd k<=333300:=by
        match k,hk4 with
        |0,_|1,_|2,_|3,_|4,_=>decide
      by_cases hN:∃n,WY s n
      · obtain⟨n,hn⟩:=hN
        have hsz:=hn.size
        have hz0:((s.size:Int)==0)=false:=beq_eq_false_iff_ne.2 (by omega)
        obtain rfl:k=s.size:=by omega
        have hv:v=n:=by rw [HV.out,List.take_of_length_le (by rw [Array.length_toList];exact Nat.le_refl _)];exact hn.val
        subst hv
        have h0:=hn.1
        have h9:=hn.2.1
        have FN:=Qd (fun W=>Wc v W (by omega) (by omega))
        rw [hn.2.2] at FN
        have HN:=Qd (Ga hn)
        clear hn hv0 hv1 hbk
        go_wp2_with fail
        refine(FN.out _).mono ?_
        rintro e w1 ⟨rfl,c1⟩
        go_wp2_with fail
        go_ret2
        exact Xv.of HN.out rfl c1
      · have HN:=Qd (WB hN)
        by_cases hz:s.size=0
        · have hz0:((s.size:Int)==0)=true:=beq_iff_eq.2 (by omega)
          clear hN
          go_wp2_with fail
          all_goals(go_ret2;exact Xv.of HN.out rfl (Qb.refl _ _))
        · have hz0:((s.size:Int)==0)=false:=beq_eq_false_iff_ne.2 (by omega)
          by_cases hv2:v<0
          · clear hN
            go_wp2_with fail
            all_goals(go_ret2;exact Xv.of HN.out rfl (Qb.refl _ _))
          · by_cases hv3:999<v
            · clear hN
              go_wp2_with fail
              all_goals(go_ret2;exact Xv.of HN.out rfl (Qb.refl _ _))
            · have hne:((Uv v).toList==s.toList)=false:=Qds (fun e=>hN ⟨v,by omega,by omega,e⟩)
              have FN:=Qd (fun W=>Wc v W (by omega) (by omega))
              clear hN
              obtain⟨t,ht⟩:∃t,t=Uv v:=⟨_,rfl⟩
              rw [<-ht] at FN hne
              clear ht
              go_wp2_with fail
              all_goals
                refine(FN.out _).mono ?_
                rintro e w1 ⟨rfl,c1⟩
                go_wp2_with fail
                go_ret2
                exact Xv.of HN.out rfl c1
theorem Qb.grow (w:World) (k:Nat) (os:Array Obj):Qb [] w (Go.Sort.grow (w.drewN k) os):=
  ⟨rfl,rfl,rfl,by simp [Go.Sort.grow,World.drewN],fun i hi _=>by
    simp [Go.Sort.grow,Array.getElem?_append_left hi]⟩
def zH (w:World):Prop:= 1 <w.heap.size/\Lib.TabIs Tryz.prog w "internal/strconv.uint64pow10" .u64 Lib.pow10Tab
theorem GQ:Tryz.prog.globalNamed "internal/strconv.uint64pow10" =some 1 :=by kernel_rfl
theorem zH.keep {w w':World} (h:zH w) (hc:Qb [] w w'):zH w':=by
  refine⟨Nat.lt_of_lt_of_le h.1 hc.size,?_⟩
  have h2:=h.2
  unfold Lib.TabIs World.var? at h2 ⊢
  rw [GQ] at h2 ⊢
  simp only [Option.bind_some] at h2 ⊢
  rw [hc.block _ h.1 (by simp)]
  exact h2
theorem zH.of {w:World} (h:Lib.TabIs Tryz.prog w "internal/strconv.uint64pow10" .u64 Lib.pow10Tab):zH w:=by
  refine⟨?_,h⟩
  unfold Lib.TabIs World.var? at h
  rw [GQ] at h
  simp only [Option.bind_some] at h
  split at h
  · rename_i hh;exact(Array.getElem?_eq_some_iff.1 hh).1
  · cases h
theorem Vw (n:Int) (w:World) (h0: -9223372036854775808<=n) (h1:n<=9223372036854775807) (hp:zH w):
    Calls Tryz.prog 42 #[.int .i64 n] w (JT (Uv n) w):=by
  have IT:=Qd (Tryz.strconv_Itoa n h0 h1 w hp.2)
  go_enter Tryz.func42,Tryz.ntmps42
  go_wp2_with fail
  refine IT.out.mono ?_
  rintro e w1 ⟨rfl,k,os,rfl⟩
  go_wp2_with fail
  go_ret
  exact⟨rfl,Qb.grow _ _ _⟩
theorem Qb.bytesWorld (w:World) (e:TypeId) (t:ByteArray):Qb [] w (Go.Lib.bytesWorld w e t):=Qb.of_below (Lib.bytesWorld_below w e t) []
structure Km (w:World):Prop where
  pow:zH w
  err:∃ev,(ev= .nilIface∨∃te pe,ev= .iface te pe)/\w.cell? ⟨7,0,none⟩=some ev
  max:∃m,w.cell? ⟨2,0,none⟩=some (.int .i64 m)
theorem Km.keep {w w':World} (h:Km w) (hc:Qb [] w w'):Km w':=by
  obtain⟨h1,⟨ev,he,h2⟩,⟨m,h3⟩⟩:=h
  exact⟨h1.keep hc,⟨ev,he,(hc.cell (p:=⟨7,0,none⟩) (Qn h2) (by simp)).trans h2⟩,⟨m,(hc.cell (p:=⟨2,0,none⟩) (Qn h3) (by simp)).trans h3⟩⟩
theorem Wi (s:ByteArray) (w:World) (hs:s.size<=1048576) (he:Km w):
    Calls Tryz.prog 172 #[.string s] w (Xv (Yv s) w):=by
  by_cases hz:1<=s.size/\s.size<=3
  · obtain⟨hz1,hz2⟩:=hz
    cases ha:Lib.atoi s.data.toList with
    | none=>
      have HN:=Qd (WB (s:=s) (fun⟨n,hn⟩=>by have:=hn.atoi;rw [ha] at this;cases this))
      obtain⟨ev,hev,hv⟩:=he.err
      have AT:=Qd (Tryz.strconv_Atoi_err s (by omega) ha ev w hv hev)
      clear he hv hev ha
      go_enter Tryz.func172,Tryz.ntmps172
      go_wp2_with fail
      refine AT.out.mono ?_
      rintro e w1 ⟨N,rfl,_,_,hb⟩
      have c1:=Qb.of_below hb []
      clear hb
      go_wp2_with fail
      go_ret2
      exact Xv.of HN.out rfl c1
    | some n=>
      have AT:=Qd (Tryz.strconv_Atoi s n (by omega) ha w)
      have NU:=Qd (fun W=>XZ n W)
      have hu:∀m,WY s m->m=n:=fun m hm=>by have:=hm.atoi;rw [ha] at this;exact(Option.some.inj this).symm
      clear ha
      by_cases hn:ZM n
      · have FN:=Qd (fun W (hc:Qb [] w W)=>Vw n W (by have:=hn.1;omega) (by have:=hn.2;omega) (he.pow.keep hc))
        have NU:=Qd (fun W=>(NU.out W).mono (Zm.pos hn))
        by_cases ht:Uv n=s
        · have HN:=Qd (Ga (s:=s) (n:=n) ⟨hn.1,hn.2,ht⟩)
          rw [ht] at FN
          clear he hn hu
          go_enter Tryz.func172,Tryz.ntmps172
          go_wp2_with fail
          refine AT.out.mono ?_
          rintro e w1 ⟨rfl,t,hw1⟩
          have c1:Qb [] w w1:=hw1 ▸ Qb.bytesWorld _ _ _
          clear hw1
          go_wp2_with fail
          refine(NU.out _).mono ?_
          rintro e w2 ⟨rfl,rfl⟩
          go_wp2_with fail
          refine(FN.out _ c1).mono ?_
          rintro e w3 ⟨rfl,c3⟩
          go_wp2_with fail
          go_ret2
          exact Xv.of HN.out rfl (c1.tz c3)
        · have HN:=Qd (WB (s:=s) (fun⟨m,hm⟩=>ht (by have:=hu m hm;subst this;exact hm.2.2)))
          have hne:=Qds ht
          obtain⟨x,hx⟩:∃x,x=Uv n:=⟨_,rfl⟩
          rw [<-hx] at FN hne
          clear he hn ht hx hu
          go_enter Tryz.func172,Tryz.ntmps172
          go_wp2_with fail
          refine AT.out.mono ?_
          rintro e w1 ⟨rfl,t,hw1⟩
          have c1:Qb [] w w1:=hw1 ▸ Qb.bytesWorld _ _ _
          clear hw1
          go_wp2_with fail
          refine(NU.out _).mono ?_
          rintro e w2 ⟨rfl,rfl⟩
          go_wp2_with fail
          refine(FN.out _ c1).mono ?_
          rintro e w3 ⟨rfl,c3⟩
          go_wp2_with fail
          go_ret2
          exact Xv.of HN.out rfl (c1.tz c3)
      · have NU:=Qd (fun W=>(NU.out W).mono (Zm.neg hn))
        have HN:=Qd (WB (s:=s) (fun⟨m,hm⟩=>hn (by have:=hu m hm;subst this;exact⟨hm.1,hm.2.1⟩)))
        clear he hn hu
        go_enter Tryz.func172,Tryz.ntmps172
        go_wp2_with fail
        refine AT.out.mono ?_
        rintro e w1 ⟨rfl,t,hw1⟩
        have c1:Qb [] w w1:=hw1 ▸ Qb.bytesWorld _ _ _
        clear hw1
        go_wp2_with fail
        refine(NU.out _).mono ?_
        rintro e w2 ⟨rfl,rfl⟩
        go_wp2_with fail
        go_ret2
        exact Xv.of HN.out rfl c1
  · have HN:=Qd (WB (s:=s) (fun⟨n,hn⟩=>hz hn.size))
    by_cases h0:s.size=0
    · clear hz
      go_enter Tryz.func172,Tryz.ntmps172
      go_wp2_with fail
      all_goals(go_ret2;exact Xv.of HN.out rfl (Qb.refl _ _))
    · have h3:3<s.size:=by omega
      clear hz h0
      go_enter Tryz.func172,Tryz.ntmps172
      go_wp2_with fail
      all_goals(go_ret2;exact Xv.of HN.out rfl (Qb.refl _ _))
end Go.Proofs.YtlnkgcdeljhjcaaGreatDoor
