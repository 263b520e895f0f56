/- The text of a number: FormatNumber of both packages. / Numbers of up to three digits, read from texts, in plain Lean. / ParseNumber and l1In of the reference. / The text of a number in the program: FormatNumber by strconv.Itoa (the shelf's contract). Conditions: the table of powers of ten reads as it is laid. / ParseNumber of the program, by strconv.Atoi (the shelf's contracts). Conditions: the tables and variables of the library stand as they are laid. -/
import Derived.Test.YtdlkbomojjmnlaaGreatDoorGround
import Derived.Lib.ItoaNum
import Derived.Laws.BytesArg
import Derived.Lib.Atoi
import Derived.Test.YtdlkbomojjmnlaaGreatDoorNames
import Derived.Test.YtdlkbomojjmnlaaGreatDoorShItoa
import Derived.Test.YtdlkbomojjmnlaaGreatDoorShAtoi
import Derived.Lib.AtoiErrMem
set_option maxRecDepth 100000
set_option maxHeartbeats 2000000
namespace Go.Proofs.YtdlkbomojjmnlaaGreatDoor
open Go.RowKit

/-- A text; nothing that was there has turned. -/
def StrPost (s:ByteArray) (w:World) (e:Ending) (w':World):Prop:=e= .returned (.string s)/\Chg [] w w'
/-- The text of a number. -/
def numT (n:Int):ByteArray:=⟨(Lib.itoa n).toArray⟩
/-- The digits of a number that is not negative. -/
def digT (n:Int):ByteArray:=⟨(Lib.decDigits n.toNat).toArray⟩
theorem digT_small {m:Int} (h0:0<=m) (h:m<10):digT m=strOfNums [48+m % 10]:=by
  unfold digT strOfNums
  have e:m % 10=m:=by omega
  rw [Lib.decDigits,dif_pos (by omega),e]
  have:(48+m).toNat=48+m.toNat:=by omega
  simp [this]
theorem digT_step {m:Int} (h:10<=m):digT m=digT (m / 10)++strOfNums [48+m % 10]:=by
  unfold digT strOfNums
  rw [Lib.decDigits,dif_neg (by omega)]
  have h1:(m / 10).toNat=m.toNat / 10:=by omega
  have h2:(48+m % 10).toNat=48+m.toNat % 10:=by omega
  apply ByteArray.ext
  rw [ByteArray.data_append]
  simp [h1,h2]
theorem numT_pos {n:Int} (h:0<=n):numT n=digT n:=by
  unfold numT digT Lib.itoa
  rw [if_neg (by omega)]
theorem numT_neg {n:Int} (h:n<0):numT n=⟨#[45]⟩++digT (-n):=by
  unfold numT digT Lib.itoa
  rw [if_pos h]
  have:n.natAbs=(-n).toNat:=by omega
  apply ByteArray.ext
  rw [ByteArray.data_append]
  simp [this]
theorem digT_size20 {m:Int} (h:m<=9223372036854775808):(digT m).size<=1048576:=by
  have:∀(k:Nat) (m:Int),m.toNat<10 ^ (k+1)->(digT m).size<=k+1:=by
    intro k
    induction k with
    |zero=>intro m h;unfold digT;rw [Lib.decDigits,dif_pos (by omega)];simp [ByteArray.size]
    | succ k ih=>
      intro m h
      by_cases hm:m.toNat<10
      · unfold digT;rw [Lib.decDigits,dif_pos hm];simp [ByteArray.size]
      · rw [digT_step (by omega),ByteArray.size_append,strOfNums_size]
        have:=ih (m / 10) (by rw [Nat.pow_succ] at h;omega)
        simp
        omega
  have:=this 19 m (by omega)
  omega
theorem numT_size {n:Int} (h0: -9223372036854775808<=n) (h1:n<=9223372036854775807):(numT n).size<=1048577:=by
  by_cases h:0<=n
  · rw [numT_pos h];have:=digT_size20 (m:=n) (by omega);omega
  · rw [numT_neg (by omega),ByteArray.size_append]
    have:=digT_size20 (m:= -n) (by omega)
    have e:(⟨#[45]⟩:ByteArray).size=1:=rfl
    omega
theorem numT_min:numT (-9223372036854775808)=⟨#[45,57,50,50,51,51,55,50,48,51,54,56,53,52,55,55,53,56,48,56]⟩:=by
  unfold numT Lib.itoa
  simp [Lib.decDigits]
/-- Two texts joined, as a fact for a walk. -/
theorem cat_is {P:Program} {a b x:ByteArray} (hx:x=a++b) (h:a.size+b.size<=9223372036854775807) (W:World):(Op.stringOp .add a b).run P W= .ok (.string x) W:=by
  rw [hx];exact run_string_add_sum _ _ _ h
theorem str_ret {a b:ByteArray} (h:a=b):Ending.returned (.string a)= .returned (.string b):=by rw [h]
theorem formatNumber_spec_small (m:Int) (w:World) (h0:0<=m) (h1:m<=9):
    Calls Tryz.prog 144 #[.int .i64 m] w (StrPost (digT m) w):=by
  have hce:∀i,i<1->(w.alloc (.cells #[.int .u8 (48+m % 10)] 5)).cell? ⟨w.heap.size,0+i,none⟩=some (.int .u8 ([48+m % 10].getD i 0)):=by
    intro i hi
    obtain rfl:i=0:=by omega
    rw [Nat.zero_add,World.cell?_alloc_mark]
    rfl
  have hcv:=run_convert_bytes_arg (P:=Tryz.prog) (w.alloc (.cells #[.int .u8 (48+m % 10)] 5)) 22 5 Tryz.underlying22 Tryz.underlying5 w.heap.size 0 1 1 [48+m % 10] rfl hce 9 Tryz.underlying9
  have HS:=hid (digT_small h0 (by omega))
  clear hce
  go_enter Tryz.func144,Tryz.ntmps144
  go_wp2_with fail
  go_ret
  exact⟨str_ret HS.out.symm,(Chg.refl _ _).alloc _⟩
theorem formatNumber_spec_nat:∀(f:Nat) (m:Int) (w:World),0<=m->m<=9223372036854775807->m.toNat<=f->
    Calls Tryz.prog 144 #[.int .i64 m] w (StrPost (digT m) w):=by
  intro f
  induction f with
  | zero=>
    intro m w h0 h1 hf
    exact formatNumber_spec_small m w h0 (by omega)
  | succ f ih=>
    intro m w h0 h1 hf
    by_cases hm:m<=9
    · exact formatNumber_spec_small m w h0 hm
    have hce:∀i,i<1->(w.alloc (.cells #[.int .u8 (48+m % 10)] 5)).cell? ⟨w.heap.size,0+i,none⟩=some (.int .u8 ([48+m % 10].getD i 0)):=by
      intro i hi
      obtain rfl:i=0:=by omega
      rw [Nat.zero_add,World.cell?_alloc_mark]
      rfl
    have hcv:=run_convert_bytes_arg (P:=Tryz.prog) (w.alloc (.cells #[.int .u8 (48+m % 10)] 5)) 22 5 Tryz.underlying22 Tryz.underlying5 w.heap.size 0 1 1 [48+m % 10] rfl hce 9 Tryz.underlying9
    clear hce
    have IH:=hid (fun W=>ih (m / 10) W (by omega) (by omega) (by omega))
    have HS:=hid (digT_step (m:=m) (by omega))
    have hd1:(digT (m / 10)).size<=1048576:=digT_size20 (by omega)
    obtain⟨d,hd⟩:∃d,d=strOfNums [48+m % 10]:=⟨_,rfl⟩
    have hsz:(strOfNums [48+m % 10]).size=1:=strOfNums_size _
    rw [<-hd] at hcv hsz
    have HD:=hid hd
    have hdl:d.size<=1:=by omega
    clear hd hsz ih
    go_enter Tryz.func144,Tryz.ntmps144
    go_wp2_with fail
    refine(IH.out _).mono ?_
    rintro e w1 ⟨rfl,c1⟩
    go_wp2_with fail
    go_ret
    exact⟨str_ret (by rw [HS.out,HD.out]),Chg.trans0 ((Chg.refl _ _).alloc _) c1⟩
theorem formatNumber_spec_any (n:Int) (w:World) (h0: -9223372036854775808<=n) (h1:n<=9223372036854775807):
    Calls Tryz.prog 144 #[.int .i64 n] w (StrPost (numT n) w):=by
  by_cases hn:0<=n
  · rw [numT_pos hn]
    exact formatNumber_spec_nat n.toNat n w hn h1 (Nat.le_refl _)
  · by_cases hmin:n= -9223372036854775808
    · subst hmin
      go_enter Tryz.func144,Tryz.ntmps144
      go_wp2_with fail
      go_ret
      exact⟨str_ret numT_min.symm,Chg.refl _ _⟩
    · have REC:=hid (formatNumber_spec_nat (-n).toNat (-n) w (by omega) (by omega) (Nat.le_refl _))
      have HS:=hid (numT_neg (n:=n) (by omega))
      have hd1:(digT (-n)).size<=1048576:=digT_size20 (by omega)
      go_enter Tryz.func144,Tryz.ntmps144
      go_wp2_with fail
      refine REC.out.mono ?_
      rintro e w1 ⟨rfl,c1⟩
      go_wp2_with fail
      go_ret
      exact⟨str_ret HS.out.symm,c1⟩
/-- What the bytes of a text are reckoned to, whatever they are. -/
def valL:Int->List UInt8->Int
  |v,[]=>v
  |v,b::l=>valL (10 * v+b.toNat-48) l
theorem valL_snoc:∀(l:List UInt8) (v:Int) (b:UInt8),valL v (l++ [b])=10 * valL v l+b.toNat-48
  | [],v,b=>rfl
  |a::l,v,b=>by rw [List.cons_append,valL,valL_snoc l,valL]
/-- The text is that of the number n, which has at most three digits. -/
def NumOf (s:ByteArray) (n:Int):Prop:=0<=n/\n<=999/\numT n=s
def dg (k:Nat):UInt8:=UInt8.ofNat (48+k)
theorem dg_toNat {k:Nat} (h:k<=9):(dg k).toNat=48+k:=by
  unfold dg
  rw [UInt8.toNat_ofNat']
  omega
theorem dig3 {u:Nat} (h:u<=999):Lib.decDigits u=if u<10 then [dg u] else if u<100 then [dg (u / 10),dg (u % 10)] else [dg (u / 100),dg (u / 10 % 10),dg (u % 10)]:=by
  by_cases h1:u<10
  · rw [if_pos h1,Lib.decDigits,dif_pos h1];rfl
  · rw [if_neg h1,Lib.decDigits,dif_neg h1]
    by_cases h2:u<100
    · rw [if_pos h2,Lib.decDigits,dif_pos (by omega)];rfl
    · rw [if_neg h2,Lib.decDigits,dif_neg (by omega),Lib.decDigits,dif_pos (by omega)]
      have e:u / 10 / 10=u / 100:=by omega
      rw [e];rfl
theorem num_list {n:Int} (h0:0<=n):(numT n).data.toList=Lib.decDigits n.toNat:=by
  unfold numT Lib.itoa
  rw [if_neg (by omega)]
theorem valL_dig {u:Nat} (h:u<=999):valL 0 (Lib.decDigits u)=u:=by
  rw [dig3 h]
  split
  · rename_i h1
    simp only [valL,dg_toNat (show u<=9 by omega)]
    omega
  · split
    · simp only [valL,dg_toNat (show u / 10<=9 by omega),dg_toNat (show u % 10<=9 by omega)]
      omega
    · simp only [valL,dg_toNat (show u / 100<=9 by omega),dg_toNat (show u / 10 % 10<=9 by omega),dg_toNat (show u % 10<=9 by omega)]
      omega
theorem dig_len {u:Nat} (h:u<=999):1<=(Lib.decDigits u).length/\(Lib.decDigits u).length<=3:=by
  rw [dig3 h]
  split
  · simp
  · split<;>simp
theorem dig_digit {u:Nat} (h:u<=999):∀b∈Lib.decDigits u,48<=b.toNat/\b.toNat<=57:=by
  intro b hb
  rw [dig3 h] at hb
  split at hb
  · simp at hb;subst hb;rw [dg_toNat (by omega)];omega
  · split at hb
    · simp at hb
      rcases hb with rfl|rfl
      · rw [dg_toNat (by omega)];omega
      · rw [dg_toNat (by omega)];omega
    · simp at hb
      rcases hb with rfl|rfl|rfl
      · rw [dg_toNat (by omega)];omega
      · rw [dg_toNat (by omega)];omega
      · rw [dg_toNat (by omega)];omega
theorem NumOf.list {s:ByteArray} {n:Int} (h:NumOf s n):s.data.toList=Lib.decDigits n.toNat/\n.toNat<=999:=by
  obtain⟨h0,h1,rfl⟩:=h
  exact⟨num_list h0,by omega⟩
theorem NumOf.size {s:ByteArray} {n:Int} (h:NumOf s n):1<=s.size/\s.size<=3:=by
  have h1:=h.list
  have h2:=dig_len h1.2
  rw [<-h1.1] at h2
  rw [Array.length_toList] at h2
  exact h2
theorem NumOf.val {s:ByteArray} {n:Int} (h:NumOf s n):valL 0 s.data.toList=n:=by
  have h1:=h.list
  rw [h1.1,valL_dig h1.2]
  have:=h.1
  omega
theorem NumOf.digit {s:ByteArray} {n:Int} (h:NumOf s n):∀b∈s.data.toList,48<=b.toNat/\b.toNat<=57:=by
  have h1:=h.list
  rw [h1.1]
  exact dig_digit h1.2
theorem NumOf.unique {s:ByteArray} {n m:Int} (h:NumOf s n) (k:NumOf s m):n=m:=h.val.symm.trans k.val
theorem decFrom_val:∀(l:List UInt8) (acc:Nat),(∀b∈l,48<=b.toNat/\b.toNat<=57)->Lib.decFrom acc l=some (valL acc l).toNat/\0<=valL acc l
  | [],acc,_=>⟨by simp [Lib.decFrom,valL],by simp [valL]⟩
  | b::l,acc,h=>by
    have hb:=h b (by simp)
    have hd:Lib.digitVal b=some (b.toNat-48):=by unfold Lib.digitVal;rw [if_pos hb]
    have ih:=decFrom_val l (acc * 10+(b.toNat-48)) (fun x hx=>h x (by simp [hx]))
    have e:((acc * 10+(b.toNat-48):Nat):Int)=10 * (acc:Int)+b.toNat-48:=by omega
    rw [e] at ih
    rw [Lib.decFrom,hd,valL]
    exact ih
theorem NumOf.atoi {s:ByteArray} {n:Int} (h:NumOf s n):Lib.atoi s.data.toList=some n:=by
  have hs:=h.size
  have hd:=h.digit
  have hv:=h.val
  have hl:s.data.toList.length=s.size:=Array.length_toList
  cases hL:s.data.toList with
  |nil=>rw [hL] at hl;simp at hl;omega
  | cons b r=>
    rw [hL] at hd hv
    have hb:=hd b (by simp)
    have hv2:=decFrom_val (b::r) 0 hd
    rw [Lib.atoi, if_neg (by intro e;have:b=45:=by simpa using e
                             subst this; simp at hb), if_neg (by intro e;have:b=43:=by simpa using e
                                                                 subst this;simp at hb)]
    unfold Lib.decNat
    rw [List.isEmpty_cons,if_neg (by simp),hv2.1]
    have e0:((0:Nat):Int)=0:=rfl
    rw [e0,hv]
    have:=h.1
    simp;omega
open Classical in
/-- The number of a text, if it is that of one of at most three digits. -/
noncomputable def parseNum (s:ByteArray):Option Int:=if h:∃n,NumOf s n then some h.choose else none
theorem parseNum_some {s:ByteArray} {n:Int} (h:NumOf s n):parseNum s=some n:=by
  unfold parseNum
  have he:∃n,NumOf s n:=⟨n,h⟩
  rw [dif_pos he,he.choose_spec.unique h]
theorem parseNum_none {s:ByteArray} (h:¬ ∃n,NumOf s n):parseNum s=none:=by
  unfold parseNum
  rw [dif_neg h]
theorem parseNum_of {s:ByteArray} {n:Int} (h:parseNum s=some n):NumOf s n:=by
  unfold parseNum at h
  split at h
  · rename_i he
    cases h
    exact he.choose_spec
  · cases h
/-- How far the number may have gone behind k bytes. -/
def bd:Nat->Int
  |0=>0
  |1=>300
  |2=>3300
  |3=>33300
  |_=>333300
theorem bd_step {k:Nat} (h:k<4):10 * bd k+255<=bd (k+1)/\0<=bd k/\bd (k+1)<=333300:=by
  match k,h with
  |0,_|1,_|2,_|3,_=>decide
theorem bytes_take {s:ByteArray} {k:Nat} (h:k<s.size):s.data.toList.take (k+1)=s.data.toList.take k++ [s[k]]:=by
  have hl:k<s.data.toList.length:=by rw [Array.length_toList];exact h
  rw [List.take_succ_eq_append_getElem hl,Array.getElem_toList]
  rfl
theorem text_ne {a b:ByteArray} (h:a≠b):(a.toList==b.toList)=false:=by
  rw [beq_eq_false_iff_ne]
  intro e
  rw [ByteArray.toList_eq,ByteArray.toList_eq] at e
  exact h (ByteArray.ext (Array.toList_inj.1 e))
theorem l1In_any (x a b:Int) (w:World):
    Calls Tryz.prog 126 #[.int .i64 x,.int .i64 a,.int .i64 b] w (BoolIs (a<=x/\x<=b) w):=by
  go_enter Tryz.func126,Tryz.ntmps126
  go_wp2_with fail
  all_goals(go_ret;refine⟨_,rfl,?_,rfl⟩;simp;try omega)
theorem parseNumber_spec_any (s:ByteArray) (w:World) (hs:s.size<=1048576):
    Calls Tryz.prog 179 #[.string s] w (OptPost (parseNum s) w):=by
  go_enter Tryz.func179,Tryz.ntmps179
  go_wp2_with fail
  go_loopw [4,5] (fun n i wr=>∃(k:Nat) (v:Int),k<=s.size/\k<=4/\n= .int .i64 v/\i= .int .i64 k/\Hid (v=valL 0 (s.data.toList.take k))/\ -bd k<=v/\v<=bd k/\Still w wr) (fun _ i _=>4-(intOf i).toNat)
  case atStart=>exact⟨0,0,Nat.zero_le _,by omega,rfl,rfl,rfl,by decide,by decide,rfl⟩
  case round=>
    obtain⟨k,v,hk,hk4,rfl,rfl,HV,hv0,hv1,rfl⟩:=hrel
    by_cases hlt:k<s.size/\k<4
    · obtain⟨hl1,hl2⟩:=hlt
      have hbs:=bd_step hl2
      have hby:s[k].toNat<=255:=by have:=s[k].toNat_lt;omega
      go_wp2_with fail
      go_roundw
      case rel=>exact⟨k+1,10 * v+s[k].toNat-48,by omega,by omega,by go_num,by go_num,hid (by rw [bytes_take hl1,valL_snoc, <-HV.out]),by omega,by omega,rfl⟩
      case measure=>simp [intOf];omega
    · have hbk:bd k<=333300:=by
        match k,hk4 with
        |0,_|1,_|2,_|3,_|4,_=>decide
      by_cases hN:∃n,NumOf s n
      · obtain⟨n,hn⟩:=hN
        have hsz:=hn.size
        have hz0:((s.size:Int)==0)=false:=beq_eq_false_iff_ne.2 (by omega)
        obtain rfl:k=s.size:=by omega
        have hv:v=n:=by rw [HV.out,List.take_of_length_le (by rw [Array.length_toList];exact Nat.le_refl _)];exact hn.val
        subst hv
        have h0:=hn.1
        have h9:=hn.2.1
        have FN:=hid (fun W=>formatNumber_spec_any v W (by omega) (by omega))
        rw [hn.2.2] at FN
        have HN:=hid (parseNum_some hn)
        clear hn hv0 hv1 hbk
        go_wp2_with fail
        refine(FN.out _).mono ?_
        rintro e w1 ⟨rfl,c1⟩
        go_wp2_with fail
        go_ret2
        exact OptPost.of HN.out rfl c1
      · have HN:=hid (parseNum_none hN)
        by_cases hz:s.size=0
        · have hz0:((s.size:Int)==0)=true:=beq_iff_eq.2 (by omega)
          clear hN
          go_wp2_with fail
          all_goals(go_ret2;exact OptPost.of HN.out rfl (Chg.refl _ _))
        · have hz0:((s.size:Int)==0)=false:=beq_eq_false_iff_ne.2 (by omega)
          by_cases hv2:v<0
          · clear hN
            go_wp2_with fail
            all_goals(go_ret2;exact OptPost.of HN.out rfl (Chg.refl _ _))
          · by_cases hv3:999<v
            · clear hN
              go_wp2_with fail
              all_goals(go_ret2;exact OptPost.of HN.out rfl (Chg.refl _ _))
            · have hne:((numT v).toList==s.toList)=false:=text_ne (fun e=>hN ⟨v,by omega,by omega,e⟩)
              have FN:=hid (fun W=>formatNumber_spec_any v W (by omega) (by omega))
              clear hN
              obtain⟨t,ht⟩:∃t,t=numT v:=⟨_,rfl⟩
              rw [<-ht] at FN hne
              clear ht
              go_wp2_with fail
              all_goals
                refine(FN.out _).mono ?_
                rintro e w1 ⟨rfl,c1⟩
                go_wp2_with fail
                go_ret2
                exact OptPost.of HN.out rfl c1
theorem Chg.grow (w:World) (k:Nat) (os:Array Obj):Chg [] w (Go.Sort.grow (w.drewN k) os):=
  ⟨rfl,rfl,rfl,by simp [Go.Sort.grow,World.drewN],fun i hi _=>by
    simp [Go.Sort.grow,Array.getElem?_append_left hi]⟩
/-- The table of powers of ten stands in its variable. -/
def PowAt (w:World):Prop:= 5 <w.heap.size/\Lib.TabIs Tryz.prog w "internal/strconv.uint64pow10" .u64 Lib.pow10Tab
theorem pow_global:Tryz.prog.globalNamed "internal/strconv.uint64pow10" =some 5 :=by kernel_rfl
theorem PowAt.keep {w w':World} (h:PowAt w) (hc:Chg [] w w'):PowAt w':=by
  refine⟨Nat.lt_of_lt_of_le h.1 hc.size,?_⟩
  have h2:=h.2
  unfold Lib.TabIs World.var? at h2 ⊢
  rw [pow_global] at h2 ⊢
  simp only [Option.bind_some] at h2 ⊢
  rw [hc.block _ h.1 (by simp)]
  exact h2
theorem PowAt.of {w:World} (h:Lib.TabIs Tryz.prog w "internal/strconv.uint64pow10" .u64 Lib.pow10Tab):PowAt w:=by
  refine⟨?_,h⟩
  unfold Lib.TabIs World.var? at h
  rw [pow_global] at h
  simp only [Option.bind_some] at h
  split at h
  · rename_i hh;exact(Array.getElem?_eq_some_iff.1 hh).1
  · cases h
theorem formatNumber_impl_any (n:Int) (w:World) (h0: -9223372036854775808<=n) (h1:n<=9223372036854775807) (hp:PowAt w):
    Calls Tryz.prog 199 #[.int .i64 n] w (StrPost (numT n) w):=by
  have IT:=hid (Tryz.strconv_Itoa n h0 h1 w hp.2)
  go_enter Tryz.func199,Tryz.ntmps199
  go_wp2_with fail
  refine IT.out.mono ?_
  rintro e w1 ⟨rfl,k,os,rfl⟩
  go_wp2_with fail
  go_ret
  exact⟨rfl,Chg.grow _ _ _⟩
theorem Chg.bytesWorld (w:World) (e:TypeId) (t:ByteArray):Chg [] w (Go.Lib.bytesWorld w e t):=Chg.of_below (Lib.bytesWorld_below w e t) []
/-- What the program's reading leans on: the powers of ten, the variable ErrSyntax, the variable MaxLen. -/
structure Env (w:World):Prop where
  pow:PowAt w
  err:∃ev,(ev= .nilIface∨∃te pe,ev= .iface te pe)/\w.cell? ⟨1,0,none⟩=some ev
  max:∃m,w.cell? ⟨0,0,none⟩=some (.int .i64 m)
theorem Env.keep {w w':World} (h:Env w) (hc:Chg [] w w'):Env w':=by
  obtain⟨h1,⟨ev,he,h2⟩,⟨m,h3⟩⟩:=h
  exact⟨h1.keep hc,⟨ev,he,(hc.cell (p:=⟨1,0,none⟩) (lt_of_cell h2) (by simp)).trans h2⟩,⟨m,(hc.cell (p:=⟨0,0,none⟩) (lt_of_cell h3) (by simp)).trans h3⟩⟩
theorem parseNumber_impl_any (s:ByteArray) (w:World) (hs:s.size<=1048576) (he:Env w):
    Calls Tryz.prog 168 #[.string s] w (OptPost (parseNum s) w):=by
  by_cases hz:1<=s.size/\s.size<=3
  · obtain⟨hz1,hz2⟩:=hz
    cases ha:Lib.atoi s.data.toList with
    | none=>
      have HN:=hid (parseNum_none (s:=s) (fun⟨n,hn⟩=>by have:=hn.atoi;rw [ha] at this;cases this))
      obtain⟨ev,hev,hv⟩:=he.err
      have AT:=hid (Tryz.strconv_Atoi_err s (by omega) ha ev w hv hev)
      clear he hv hev ha
      go_enter Tryz.func168,Tryz.ntmps168
      go_wp2_with fail
      refine AT.out.mono ?_
      rintro e w1 ⟨N,rfl,_,_,hb⟩
      have c1:=Chg.of_below hb []
      clear hb
      go_wp2_with fail
      go_ret2
      exact OptPost.of HN.out rfl c1
    | some n=>
      have AT:=hid (Tryz.strconv_Atoi s n (by omega) ha w)
      have NU:=hid (fun W=>isNumber_any n W)
      have hu:∀m,NumOf s m->m=n:=fun m hm=>by have:=hm.atoi;rw [ha] at this;exact(Option.some.inj this).symm
      clear ha
      by_cases hn:IsNum n
      · have FN:=hid (fun W (hc:Chg [] w W)=>formatNumber_impl_any n W (by have:=hn.1;omega) (by have:=hn.2;omega) (he.pow.keep hc))
        have NU:=hid (fun W=>(NU.out W).mono (BoolIs.pos hn))
        by_cases ht:numT n=s
        · have HN:=hid (parseNum_some (s:=s) (n:=n) ⟨hn.1,hn.2,ht⟩)
          rw [ht] at FN
          clear he hn hu
          go_enter Tryz.func168,Tryz.ntmps168
          go_wp2_with fail
          refine AT.out.mono ?_
          rintro e w1 ⟨rfl,t,hw1⟩
          have c1:Chg [] w w1:=hw1 ▸ Chg.bytesWorld _ _ _
          clear hw1
          go_wp2_with fail
          refine(NU.out _).mono ?_
          rintro e w2 ⟨rfl,rfl⟩
          go_wp2_with fail
          refine(FN.out _ c1).mono ?_
          rintro e w3 ⟨rfl,c3⟩
          go_wp2_with fail
          go_ret2
          exact OptPost.of HN.out rfl (c1.trans0 c3)
        · have HN:=hid (parseNum_none (s:=s) (fun⟨m,hm⟩=>ht (by have:=hu m hm;subst this;exact hm.2.2)))
          have hne:=text_ne ht
          obtain⟨x,hx⟩:∃x,x=numT n:=⟨_,rfl⟩
          rw [<-hx] at FN hne
          clear he hn ht hx hu
          go_enter Tryz.func168,Tryz.ntmps168
          go_wp2_with fail
          refine AT.out.mono ?_
          rintro e w1 ⟨rfl,t,hw1⟩
          have c1:Chg [] w w1:=hw1 ▸ Chg.bytesWorld _ _ _
          clear hw1
          go_wp2_with fail
          refine(NU.out _).mono ?_
          rintro e w2 ⟨rfl,rfl⟩
          go_wp2_with fail
          refine(FN.out _ c1).mono ?_
          rintro e w3 ⟨rfl,c3⟩
          go_wp2_with fail
          go_ret2
          exact OptPost.of HN.out rfl (c1.trans0 c3)
      · have NU:=hid (fun W=>(NU.out W).mono (BoolIs.neg hn))
        have HN:=hid (parseNum_none (s:=s) (fun⟨m,hm⟩=>hn (by have:=hu m hm;subst this;exact⟨hm.1,hm.2.1⟩)))
        clear he hn hu
        go_enter Tryz.func168,Tryz.ntmps168
        go_wp2_with fail
        refine AT.out.mono ?_
        rintro e w1 ⟨rfl,t,hw1⟩
        have c1:Chg [] w w1:=hw1 ▸ Chg.bytesWorld _ _ _
        clear hw1
        go_wp2_with fail
        refine(NU.out _).mono ?_
        rintro e w2 ⟨rfl,rfl⟩
        go_wp2_with fail
        go_ret2
        exact OptPost.of HN.out rfl c1
  · have HN:=hid (parseNum_none (s:=s) (fun⟨n,hn⟩=>hz hn.size))
    by_cases h0:s.size=0
    · clear hz
      go_enter Tryz.func168,Tryz.ntmps168
      go_wp2_with fail
      all_goals(go_ret2;exact OptPost.of HN.out rfl (Chg.refl _ _))
    · have h3:3<s.size:=by omega
      clear hz h0
      go_enter Tryz.func168,Tryz.ntmps168
      go_wp2_with fail
      all_goals(go_ret2;exact OptPost.of HN.out rfl (Chg.refl _ _))
end Go.Proofs.YtdlkbomojjmnlaaGreatDoor
