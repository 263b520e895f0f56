/- The text of a number. Conditions: as stated. -/
import Derived.Test.YtfjhdnjlhjimeaaGreatDoorNames
import Derived.Test.YtfjhdnjlhjimeaaGreatDoorShItoa
import Derived.Test.YtfjhdnjlhjimeaaGreatDoorShAtoi
import Derived.Lib.ItoaNum
import Derived.Lib.Atoi
import Derived.Lib.AtoiErrMem
set_option maxRecDepth 100000
set_option maxHeartbeats 2000000
namespace Go.Proofs.YtfjhdnjlhjimeaaGreatDoor
open Go.RowKit

def Kv (s:ByteArray) (w:World) (e:Ending) (w':World):Prop:=e= .returned (.string s)/\Qc [] w w'
def W5 (n:Int):ByteArray:=⟨(Lib.itoa n).toArray⟩
def KO (n:Int):ByteArray:=⟨(Lib.decDigits n.toNat).toArray⟩
theorem Qb9 {m:Int} (h0:0<=m) (h:m<10):KO m=strOfNums [48+m % 10]:=by
  unfold KO strOfNums
  have e:m % 10=m:=by omega
  rw [Lib.decDigits,dif_pos (by omega),e]
  have:(48+m).toNat=48+m.toNat:=by omega
  simp [this]
theorem yw {m:Int} (h:10<=m):KO m=KO (m / 10)++strOfNums [48+m % 10]:=by
  unfold KO strOfNums
  rw [Lib.decDigits,dif_neg (by omega)]
  have h1:(m / 10).toNat=m.toNat / 10:=by omega
  have h2:(48+m % 10).toNat=48+m.toNat % 10:=by omega
  apply O5
  rw [Q9]
  simp [h1,h2]
theorem vc {n:Int} (h:0<=n):W5 n=KO n:=by
  unfold W5 KO Lib.itoa
  rw [if_neg (by omega)]
theorem j7 {n:Int} (h:n<0):W5 n=⟨#[45]⟩++KO (-n):=by
  unfold W5 KO Lib.itoa
  rw [if_pos h]
  have:n.natAbs=(-n).toNat:=by omega
  apply O5
  rw [Q9]
  simp [this]
theorem Kh {m:Int} (h:m<=9223372036854775808):(KO m).size<=1048576:=by
  have:∀(k:Nat) (m:Int),m.toNat<10 ^ (k+1)->(KO m).size<=k+1:=by
    intro k
    induction k with
    |zero=>intro m h;unfold KO;rw [Lib.decDigits,dif_pos (by omega)];simp [ByteArray.size]
    | succ k ih=>
      intro m h
      by_cases hm:m.toNat<10
      · unfold KO;rw [Lib.decDigits,dif_pos hm];simp [ByteArray.size]
      · rw [yw (by omega),M3,strOfNums_size]
        have:=ih (m / 10) (by rw [Nat.pow_succ] at h;omega)
        simp
        omega
  have:=this 19 m (by omega)
  omega
theorem uE {n:Int} (h0: -9223372036854775808<=n) (h1:n<=9223372036854775807):(W5 n).size<=1048577:=by
  by_cases h:0<=n
  · rw [vc h];have:=Kh (m:=n) (by omega);omega
  · rw [j7 (by omega),M3]
    have:=Kh (m:= -n) (by omega)
    have e:(⟨#[45]⟩:ByteArray).size=1:=rfl
    omega
theorem QeS:W5 (-9223372036854775808)=⟨#[45,57,50,50,51,51,55,50,48,51,54,56,53,52,55,55,53,56,48,56]⟩:=by
  unfold W5 Lib.itoa
  simp [Lib.decDigits]
theorem wZ {P:Program} {a b x:ByteArray} (hx:x=a++b) (h:a.size+b.size<=9223372036854775807) (W:World):(Op.stringOp .add a b).run P W= .ok (.string x) W:=by
  rw [hx];exact run_string_add_sum _ _ _ h
theorem YC {a b:ByteArray} (h:a=b):Ending.returned (.string a)= .returned (.string b):=by rw [h]
theorem Vq (m:Int) (w:World) (h0:0<=m) (h1:m<=9):
    Calls Tryz.prog 121 #[.int .i64 m] w (Kv (KO m) w):=by
  have hce:∀i,i<1->(w.alloc (.cells #[.int .u8 (48+m % 10)] 5)).cell? ⟨w.heap.size,0+i,none⟩=some (.int .u8 ([48+m % 10].getD i 0)):=by
    intro i hi
    obtain rfl:i=0:=by omega
    rw [J3,World.cell?_alloc_mark]
    rfl
  have hcv:=run_convert_bytes_arg (P:=Tryz.prog) (w.alloc (.cells #[.int .u8 (48+m % 10)] 5)) 22 5 Tryz.underlying22 Tryz.underlying5 w.heap.size 0 1 1 [48+m % 10] rfl hce 9 Tryz.underlying9
  have HS:=Qb (Qb9 h0 (by omega))
  clear hce
  go_enter Tryz.func121,Tryz.ntmps121
  go_wp2_with fail
  go_ret
  exact⟨YC HS.out.symm,(B0 _ _).alloc _⟩
theorem VV:∀(f:Nat) (m:Int) (w:World),0<=m->m<=9223372036854775807->m.toNat<=f->
    Calls Tryz.prog 121 #[.int .i64 m] w (Kv (KO m) w):=by
  intro f
  induction f with
  | zero=>
    intro m w h0 h1 hf
    exact Vq m w h0 (by omega)
  | succ f ih=>
    intro m w h0 h1 hf
    by_cases hm:m<=9
    · exact Vq m w h0 hm
    have hce:∀i,i<1->(w.alloc (.cells #[.int .u8 (48+m % 10)] 5)).cell? ⟨w.heap.size,0+i,none⟩=some (.int .u8 ([48+m % 10].getD i 0)):=by
      intro i hi
      obtain rfl:i=0:=by omega
      rw [J3,World.cell?_alloc_mark]
      rfl
    have hcv:=run_convert_bytes_arg (P:=Tryz.prog) (w.alloc (.cells #[.int .u8 (48+m % 10)] 5)) 22 5 Tryz.underlying22 Tryz.underlying5 w.heap.size 0 1 1 [48+m % 10] rfl hce 9 Tryz.underlying9
    clear hce
    have IH:=Qb (fun W=>ih (m / 10) W (by omega) (by omega) (by omega))
    have HS:=Qb (yw (m:=m) (by omega))
    have hd1:(KO (m / 10)).size<=1048576:=Kh (by omega)
    obtain⟨d,hd⟩:∃d,d=strOfNums [48+m % 10]:=⟨_,rfl⟩
    have hsz:(strOfNums [48+m % 10]).size=1:=strOfNums_size _
    rw [<-hd] at hcv hsz
    have HD:=Qb hd
    have hdl:d.size<=1:=by omega
    clear hd hsz ih
    go_enter Tryz.func121,Tryz.ntmps121
    go_wp2_with fail
    refine(IH.out _).mono ?_
    rintro e w1 ⟨rfl,c1⟩
    go_wp2_with fail
    go_ret
    exact⟨YC (by rw [HS.out,HD.out]),H0 ((B0 _ _).alloc _) c1⟩
theorem Wx (n:Int) (w:World) (h0: -9223372036854775808<=n) (h1:n<=9223372036854775807):
    Calls Tryz.prog 121 #[.int .i64 n] w (Kv (W5 n) w):=by
  by_cases hn:0<=n
  · rw [vc hn]
    exact VV n.toNat n w hn h1 (F0 _)
  · by_cases hmin:n= -9223372036854775808
    · subst hmin
      go_enter Tryz.func121,Tryz.ntmps121
      go_wp2_with fail
      go_ret
      exact⟨YC QeS.symm,B0 _ _⟩
    · have REC:=Qb (VV (-n).toNat (-n) w (by omega) (by omega) (F0 _))
      have HS:=Qb (j7 (n:=n) (by omega))
      have hd1:(KO (-n)).size<=1048576:=Kh (by omega)
      go_enter Tryz.func121,Tryz.ntmps121
      go_wp2_with fail
      refine REC.out.mono ?_
      rintro e w1 ⟨rfl,c1⟩
      go_wp2_with fail
      go_ret
      exact⟨YC HS.out.symm,c1⟩
def GZ:Int->List UInt8->Int
  |v,[]=>v
  |v,b::l=>GZ (10 * v+b.toNat-48) l
theorem kh:∀(l:List UInt8) (v:Int) (b:UInt8),GZ v (l++ [b])=10 * GZ v l+b.toNat-48
  | [],v,b=>rfl
  |a::l,v,b=>by rw [M2,GZ,kh l,GZ]
def Vt (s:ByteArray) (n:Int):Prop:=0<=n/\n<=999/\W5 n=s
def dg (k:Nat):UInt8:=UInt8.ofNat (48+k)
theorem Wo {k:Nat} (h:k<=9):(dg k).toNat=48+k:=by
  unfold dg
  rw [UInt8.toNat_ofNat']
  omega
theorem Qgq {u:Nat} (h:u<=999):Lib.decDigits u=if u<10 then [dg u] else if u<100 then [dg (u / 10),dg (u % 10)] else [dg (u / 100),dg (u / 10 % 10),dg (u % 10)]:=by
  by_cases h1:u<10
  · rw [if_pos h1,Lib.decDigits,dif_pos h1];rfl
  · rw [if_neg h1,Lib.decDigits,dif_neg h1]
    by_cases h2:u<100
    · rw [if_pos h2,Lib.decDigits,dif_pos (by omega)];rfl
    · rw [if_neg h2,Lib.decDigits,dif_neg (by omega),Lib.decDigits,dif_pos (by omega)]
      have e:u / 10 / 10=u / 100:=by omega
      rw [e];rfl
theorem Qd4 {n:Int} (h0:0<=n):(W5 n).data.toList=Lib.decDigits n.toNat:=by
  unfold W5 Lib.itoa
  rw [if_neg (by omega)]
theorem Qer {u:Nat} (h:u<=999):GZ 0 (Lib.decDigits u)=u:=by
  rw [Qgq h]
  split
  · rename_i h1
    simp only [GZ,Wo (show u<=9 by omega)]
    omega
  · split
    · simp only [GZ,Wo (show u / 10<=9 by omega),Wo (show u % 10<=9 by omega)]
      omega
    · simp only [GZ,Wo (show u / 100<=9 by omega),Wo (show u / 10 % 10<=9 by omega),Wo (show u % 10<=9 by omega)]
      omega
theorem QfC {u:Nat} (h:u<=999):1<=(Lib.decDigits u).length/\(Lib.decDigits u).length<=3:=by
  rw [Qgq h]
  split
  · simp
  · split<;>simp
theorem Qc0 {u:Nat} (h:u<=999):∀b∈Lib.decDigits u,48<=b.toNat/\b.toNat<=57:=by
  intro b hb
  rw [Qgq h] at hb
  split at hb
  · simp at hb;subst hb;rw [Wo (by omega)];omega
  · split at hb
    · simp at hb
      rcases hb with rfl|rfl
      · rw [Wo (by omega)];omega
      · rw [Wo (by omega)];omega
    · simp at hb
      rcases hb with rfl|rfl|rfl
      · rw [Wo (by omega)];omega
      · rw [Wo (by omega)];omega
      · rw [Wo (by omega)];omega
theorem Vt.list {s:ByteArray} {n:Int} (h:Vt s n):s.data.toList=Lib.decDigits n.toNat/\n.toNat<=999:=by
  obtain⟨h0,h1,rfl⟩:=h
  exact⟨Qd4 h0,by omega⟩
theorem Vt.size {s:ByteArray} {n:Int} (h:Vt s n):1<=s.size/\s.size<=3:=by
  have h1:=h.list
  have h2:=QfC h1.2
  rw [<-h1.1] at h2
  rw [U5] at h2
  exact h2
theorem Vt.val {s:ByteArray} {n:Int} (h:Vt s n):GZ 0 s.data.toList=n:=by
  have h1:=h.list
  rw [h1.1,Qer h1.2]
  have:=h.1
  omega
theorem Vt.digit {s:ByteArray} {n:Int} (h:Vt s n):∀b∈s.data.toList,48<=b.toNat/\b.toNat<=57:=by
  have h1:=h.list
  rw [h1.1]
  exact Qc0 h1.2
theorem Vt.unique {s:ByteArray} {n m:Int} (h:Vt s n) (k:Vt s m):n=m:=h.val.symm.trans k.val
theorem xi:∀(l:List UInt8) (acc:Nat),(∀b∈l,48<=b.toNat/\b.toNat<=57)->Lib.decFrom acc l=some (GZ acc l).toNat/\0<=GZ acc l
  | [],acc,_=>⟨by simp [Lib.decFrom,GZ],by simp [GZ]⟩
  | b::l,acc,h=>by
    have hb:=h b (by simp)
    have hd:Lib.digitVal b=some (b.toNat-48):=by unfold Lib.digitVal;rw [if_pos hb]
    have ih:=xi l (acc * 10+(b.toNat-48)) (fun x hx=>h x (by simp [hx]))
    have e:((acc * 10+(b.toNat-48):Nat):Int)=10 * (acc:Int)+b.toNat-48:=by omega
    rw [e] at ih
    rw [Lib.decFrom,hd,GZ]
    exact ih
theorem Vt.atoi {s:ByteArray} {n:Int} (h:Vt s n):Lib.atoi s.data.toList=some n:=by
  have hs:=h.size
  have hd:=h.digit
  have hv:=h.val
  have hl:s.data.toList.length=s.size:=U5
  cases hL:s.data.toList with
  |nil=>rw [hL] at hl;simp at hl;omega
  | cons b r=>
    rw [hL] at hd hv
    have hb:=hd b (by simp)
    have hv2:=xi (b::r) 0 hd
    rw [Lib.atoi, if_neg (by intro e;have:b=45:=by simpa using e
                             subst this; simp at hb), if_neg (by intro e;have:b=43:=by simpa using e
                                                                 subst this;simp at hb)]
    unfold Lib.decNat
    rw [List.isEmpty_cons,if_neg (by simp),hv2.1]
    have e0:((0:Nat):Int)=0:=rfl
    rw [e0,hv]
    have:=h.1
    simp;omega
open Classical in
noncomputable def YI (s:ByteArray):Option Int:=if h:∃n,Vt s n then some h.choose else none
theorem qs {s:ByteArray} {n:Int} (h:Vt s n):YI s=some n:=by
  unfold YI
  have he:∃n,Vt s n:=⟨n,h⟩
  rw [dif_pos he,he.choose_spec.unique h]
theorem Vc {s:ByteArray} (h:¬ ∃n,Vt s n):YI s=none:=by
  unfold YI
  rw [dif_neg h]
theorem QaO {s:ByteArray} {n:Int} (h:YI s=some n):Vt s n:=by
  unfold YI at h
  split at h
  · rename_i he
    cases h
    exact he.choose_spec
  · cases h
def bd:Nat->Int
  |0=>0
  |1=>300
  |2=>3300
  |3=>33300
  |_=>333300
theorem Qf3 {k:Nat} (h:k<4):10 * bd k+255<=bd (k+1)/\0<=bd k/\bd (k+1)<=333300:=by
  match k,h with
  |0,_|1,_|2,_|3,_=>decide
theorem Qci {s:ByteArray} {k:Nat} (h:k<s.size):s.data.toList.take (k+1)=s.data.toList.take k++ [s[k]]:=by
  have hl:k<s.data.toList.length:=by rw [U5];exact h
  rw [G6 hl,Array.getElem_toList]
  rfl
theorem Qcy {a b:ByteArray} (h:a≠b):(a.toList==b.toList)=false:=by
  rw [beq_eq_false_iff_ne]
  intro e
  rw [ByteArray.toList_eq,ByteArray.toList_eq] at e
  exact h (O5 (Q2.1 e))
theorem Wp (x a b:Int) (w:World):
    Calls Tryz.prog 165 #[.int .i64 x,.int .i64 a,.int .i64 b] w (QZ (a<=x/\x<=b) w):=by
  go_enter Tryz.func165,Tryz.ntmps165
  go_wp2_with fail
  all_goals(go_ret;refine⟨_,rfl,?_,rfl⟩;simp;try omega)
theorem JX (s:ByteArray) (w:World) (hs:s.size<=1048576):
    Calls Tryz.prog 151 #[.string s] w (WU (YI s) w):=by
  go_enter Tryz.func151,Tryz.ntmps151
  go_wp2_with fail
  go_loopw [4,5] (fun n i wr=>∃(k:Nat) (v:Int),k<=s.size/\k<=4/\n= .int .i64 v/\i= .int .i64 k/\Hid (v=GZ 0 (s.data.toList.take k))/\ -bd k<=v/\v<=bd k/\jF w wr) (fun _ i _=>4-(intOf i).toNat)
  case atStart=>exact⟨0,0,I3 _,by omega,rfl,rfl,rfl,by decide,by decide,rfl⟩
  case round=>
    obtain⟨k,v,hk,hk4,rfl,rfl,HV,hv0,hv1,rfl⟩:=hrel
    by_cases hlt:k<s.size/\k<4
    · obtain⟨hl1,hl2⟩:=hlt
      have hbs:=Qf3 hl2
      have hby:s[k].toNat<=255:=by have:=s[k].toNat_lt;omega
      go_wp2_with fail
      go_roundw
      case rel=>exact⟨k+1,10 * v+s[k].toNat-48,by omega,by omega,by go_num,by go_num,Qb (by rw [Qci hl1,kh, <-HV.out]),by omega,by omega,rfl⟩
      case measure=>simp [intOf];omega
    · have hbk:bd k<=333300:=by
        match k,hk4 with
        |0,_|1,_|2,_|3,_|4,_=>decide
      by_cases hN:∃n,Vt s n
      · obtain⟨n,hn⟩:=hN
        have hsz:=hn.size
        have hz0:((s.size:Int)==0)=false:=beq_eq_false_iff_ne.2 (by omega)
        obtain rfl:k=s.size:=by omega
        have hv:v=n:=by rw [HV.out,U1 (by rw [U5];exact F0 _)];exact hn.val
        subst hv
        have h0:=hn.1
        have h9:=hn.2.1
        have FN:=Qb (fun W=>Wx v W (by omega) (by omega))
        rw [hn.2.2] at FN
        have HN:=Qb (qs hn)
        clear hn hv0 hv1 hbk
        go_wp2_with fail
        refine(FN.out _).mono ?_
        rintro e w1 ⟨rfl,c1⟩
        go_wp2_with fail
        go_ret2
        exact j2 HN.out rfl c1
      · have HN:=Qb (Vc hN)
        by_cases hz:s.size=0
        · have hz0:((s.size:Int)==0)=true:=beq_iff_eq.2 (by omega)
          clear hN
          go_wp2_with fail
          all_goals(go_ret2;exact j2 HN.out rfl (B0 _ _))
        · have hz0:((s.size:Int)==0)=false:=beq_eq_false_iff_ne.2 (by omega)
          by_cases hv2:v<0
          · clear hN
            go_wp2_with fail
            all_goals(go_ret2;exact j2 HN.out rfl (B0 _ _))
          · by_cases hv3:999<v
            · clear hN
              go_wp2_with fail
              all_goals(go_ret2;exact j2 HN.out rfl (B0 _ _))
            · have hne:((W5 v).toList==s.toList)=false:=Qcy (fun e=>hN ⟨v,by omega,by omega,e⟩)
              have FN:=Qb (fun W=>Wx v W (by omega) (by omega))
              clear hN
              obtain⟨t,ht⟩:∃t,t=W5 v:=⟨_,rfl⟩
              rw [<-ht] at FN hne
              clear ht
              go_wp2_with fail
              all_goals
                refine(FN.out _).mono ?_
                rintro e w1 ⟨rfl,c1⟩
                go_wp2_with fail
                go_ret2
                exact j2 HN.out rfl c1
theorem Qc.grow (w:World) (k:Nat) (os:Array Obj):Qc [] w (Go.Sort.grow (w.drewN k) os):=
  ⟨rfl,rfl,rfl,by simp [Go.Sort.grow,World.drewN],fun i hi _=>by
    simp [Go.Sort.grow,Array.getElem?_append_left hi]⟩
def zV (w:World):Prop:= 1 <w.heap.size/\Lib.TabIs Tryz.prog w "internal/strconv.uint64pow10" .u64 Lib.pow10Tab
theorem qD:Tryz.prog.globalNamed "internal/strconv.uint64pow10" =some 1 :=by kernel_rfl
theorem zV.keep {w w':World} (h:zV w) (hc:Qc [] w w'):zV w':=by
  refine⟨F6 h.1 hc.size,?_⟩
  have h2:=h.2
  unfold Lib.TabIs World.var? at h2 ⊢
  rw [qD] at h2 ⊢
  simp only [Y9] at h2 ⊢
  rw [hc.block _ h.1 (by simp)]
  exact h2
theorem zV.of {w:World} (h:Lib.TabIs Tryz.prog w "internal/strconv.uint64pow10" .u64 Lib.pow10Tab):zV w:=by
  refine⟨?_,h⟩
  unfold Lib.TabIs World.var? at h
  rw [qD] at h
  simp only [Y9] at h
  split at h
  · rename_i hh;exact(F5.1 hh).1
  · cases h
theorem Ym (n:Int) (w:World) (h0: -9223372036854775808<=n) (h1:n<=9223372036854775807) (hp:zV w):
    Calls Tryz.prog 36 #[.int .i64 n] w (Kv (W5 n) w):=by
  have IT:=Qb (Tryz.strconv_Itoa n h0 h1 w hp.2)
  go_enter Tryz.func36,Tryz.ntmps36
  go_wp2_with fail
  refine IT.out.mono ?_
  rintro e w1 ⟨rfl,k,os,rfl⟩
  go_wp2_with fail
  go_ret
  exact⟨rfl,Qc.grow _ _ _⟩
theorem Qc.bytesWorld (w:World) (e:TypeId) (t:ByteArray):Qc [] w (Go.Lib.bytesWorld w e t):=Qc.of_below (Lib.bytesWorld_below w e t) []
structure KP (w:World):Prop where
  pow:zV w
  err:∃ev,(ev= .nilIface∨∃te pe,ev= .iface te pe)/\w.cell? ⟨5,0,none⟩=some ev
  max:∃m,w.cell? ⟨2,0,none⟩=some (.int .i64 m)
theorem KP.keep {w w':World} (h:KP w) (hc:Qc [] w w'):KP w':=by
  obtain⟨h1,⟨ev,he,h2⟩,⟨m,h3⟩⟩:=h
  exact⟨h1.keep hc,⟨ev,he,(hc.cell (p:=⟨5,0,none⟩) (Qk h2) (by simp)).trans h2⟩,⟨m,(hc.cell (p:=⟨2,0,none⟩) (Qk h3) (by simp)).trans h3⟩⟩
theorem WK (s:ByteArray) (w:World) (hs:s.size<=1048576) (he:KP w):
    Calls Tryz.prog 142 #[.string s] w (WU (YI s) w):=by
  by_cases hz:1<=s.size/\s.size<=3
  · obtain⟨hz1,hz2⟩:=hz
    cases ha:Lib.atoi s.data.toList with
    | none=>
      have HN:=Qb (Vc (s:=s) (fun⟨n,hn⟩=>by have:=hn.atoi;rw [ha] at this;cases this))
      obtain⟨ev,hev,hv⟩:=he.err
      have AT:=Qb (Tryz.strconv_Atoi_err s (by omega) ha ev w hv hev)
      clear he hv hev ha
      go_enter Tryz.func142,Tryz.ntmps142
      go_wp2_with fail
      refine AT.out.mono ?_
      rintro e w1 ⟨N,rfl,_,_,hb⟩
      have c1:=Qc.of_below hb []
      clear hb
      go_wp2_with fail
      go_ret2
      exact j2 HN.out rfl c1
    | some n=>
      have AT:=Qb (Tryz.strconv_Atoi s n (by omega) ha w)
      have NU:=Qb (fun W=>Ye n W)
      have hu:∀m,Vt s m->m=n:=fun m hm=>by have:=hm.atoi;rw [ha] at this;exact(M1 this).symm
      clear ha
      by_cases hn:ZK n
      · have FN:=Qb (fun W (hc:Qc [] w W)=>Ym n W (by have:=hn.1;omega) (by have:=hn.2;omega) (he.pow.keep hc))
        have NU:=Qb (fun W=>(NU.out W).mono (QZ.pos hn))
        by_cases ht:W5 n=s
        · have HN:=Qb (qs (s:=s) (n:=n) ⟨hn.1,hn.2,ht⟩)
          rw [ht] at FN
          clear he hn hu
          go_enter Tryz.func142,Tryz.ntmps142
          go_wp2_with fail
          refine AT.out.mono ?_
          rintro e w1 ⟨rfl,t,hw1⟩
          have c1:Qc [] w w1:=hw1 ▸ Qc.bytesWorld _ _ _
          clear hw1
          go_wp2_with fail
          refine(NU.out _).mono ?_
          rintro e w2 ⟨rfl,rfl⟩
          go_wp2_with fail
          refine(FN.out _ c1).mono ?_
          rintro e w3 ⟨rfl,c3⟩
          go_wp2_with fail
          go_ret2
          exact j2 HN.out rfl (c1.tz c3)
        · have HN:=Qb (Vc (s:=s) (fun⟨m,hm⟩=>ht (by have:=hu m hm;subst this;exact hm.2.2)))
          have hne:=Qcy ht
          obtain⟨x,hx⟩:∃x,x=W5 n:=⟨_,rfl⟩
          rw [<-hx] at FN hne
          clear he hn ht hx hu
          go_enter Tryz.func142,Tryz.ntmps142
          go_wp2_with fail
          refine AT.out.mono ?_
          rintro e w1 ⟨rfl,t,hw1⟩
          have c1:Qc [] w w1:=hw1 ▸ Qc.bytesWorld _ _ _
          clear hw1
          go_wp2_with fail
          refine(NU.out _).mono ?_
          rintro e w2 ⟨rfl,rfl⟩
          go_wp2_with fail
          refine(FN.out _ c1).mono ?_
          rintro e w3 ⟨rfl,c3⟩
          go_wp2_with fail
          go_ret2
          exact j2 HN.out rfl (c1.tz c3)
      · have NU:=Qb (fun W=>(NU.out W).mono (QZ.neg hn))
        have HN:=Qb (Vc (s:=s) (fun⟨m,hm⟩=>hn (by have:=hu m hm;subst this;exact⟨hm.1,hm.2.1⟩)))
        clear he hn hu
        go_enter Tryz.func142,Tryz.ntmps142
        go_wp2_with fail
        refine AT.out.mono ?_
        rintro e w1 ⟨rfl,t,hw1⟩
        have c1:Qc [] w w1:=hw1 ▸ Qc.bytesWorld _ _ _
        clear hw1
        go_wp2_with fail
        refine(NU.out _).mono ?_
        rintro e w2 ⟨rfl,rfl⟩
        go_wp2_with fail
        go_ret2
        exact j2 HN.out rfl c1
  · have HN:=Qb (Vc (s:=s) (fun⟨n,hn⟩=>hz hn.size))
    by_cases h0:s.size=0
    · clear hz
      go_enter Tryz.func142,Tryz.ntmps142
      go_wp2_with fail
      all_goals(go_ret2;exact j2 HN.out rfl (B0 _ _))
    · have h3:3<s.size:=by omega
      clear hz h0
      go_enter Tryz.func142,Tryz.ntmps142
      go_wp2_with fail
      all_goals(go_ret2;exact j2 HN.out rfl (B0 _ _))
end Go.Proofs.YtfjhdnjlhjimeaaGreatDoor
