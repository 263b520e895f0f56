/- one whatever the action. Conditions: as stated. -/
import Derived.Test.YtlnkgcdeljhjcaaGreatDoorOneI
import Derived.Test.YtlnkgcdeljhjcaaGreatDoorIsActP
set_option maxRecDepth 100000
set_option maxHeartbeats 8000000
namespace Go.Proofs.YtlnkgcdeljhjcaaGreatDoor
open Go.RowKit
theorem Qb.any2 {S:List Nat} {w W:World} (h:Qb S w W:=by(repeat(first|(refine Hid.out ?_;with_reducible assumption)|with_reducible exact Qb.refl _ _|with_reducible refine Qb.drew ?_|with_reducible refine Qb.drewN ?_ _|with_reducible refine Qb.alloc ?_ _|with_reducible refine Qb.setCell ?_ (by first|(refine .inl ?_;simp;done)|(refine .inl ?_;assumption)|(refine .inl (List.mem_cons_of_mem _ ?_);assumption)|(refine .inl (List.mem_cons_of_mem _ (Hid.out ?_));assumption)|(refine .inr ?_;simp<;>omega)) _));done):Qb S w W:=h

structure Amb (B:Nat) (input:List Int) (vi:Value) (w:World):Prop where
 env:YE B w
 le:B<=w.heap.size
 inp:Rd w B (yw input) vi
theorem Amb.keep {B:Nat} {input:List Int} {vi:Value} {w w':World} {T:List Nat} (h:Amb B input vi w) (hc:Qb T w w') (hT:∀y,y∈T->B<=y):Amb B input vi w':=
 ⟨h.env.keep hc hT h.le,Nat.le_trans h.le hc.size,h.inp.chg hc h.le hT⟩
def QfJ (m:List Qa):Prop:=∀(ul:Value) (place:Int) (r gs cap:Nat) (vi:Value) (input:List Int) (l:List Qm) (t:Int) (S:List Nat) (w:World) (B:Nat),Kp m->Ql m<=1048576->QN l->RB w r gs cap vi l t S->Rd w B (QH m) ul->Amb B input vi w->(∀y,y∈r::S->B<=y)->0<=place->place+Qe m<=1000->0<=t->t+Q1 m<=1000000->
 Calls Tryz.prog 39 #[.pointer (some ⟨r,0,none⟩),ul,.int .i64 place] w (W8 r gs cap vi (QV input m place ⟨l,t⟩).1.slots (QV input m place ⟨l,t⟩).1.taken (QV input m place ⟨l,t⟩).2 (decide ((QV input m place ⟨l,t⟩).2.code=0)) S w)
theorem xi {s:Qm} (h:Wb s):Uh s:=by
 cases hf:s.full with
 |true=>have:=Ya (h.1 hf);exact⟨this.2.1,this.1,this.2.2⟩
 |false=>rw [Uh,h.2 hf];exact⟨by simp [Zh],by simp [Zh],by simp [Zh]⟩
theorem Qdc (a:Qa) (hA:QfJ a.A) (hB:QfJ a.B) (uA uB:Value) (place:Int) (r gs cap:Nat) (vi:Value) (input:List Int) (l:List Qm) (t:Int) (S:List Nat) (w:World) (B:Nat) (hok:a.ok) (hW:XO a<=1048575) (hs:QN l) (h:RB w r gs cap vi l t S)
  (rA:Rd w B (QH a.A) uA) (rB:Rd w B (QH a.B) uB) (hAm:Amb B input vi w) (hS:∀y,y∈r::S->B<=y) (hp0:0<=place) (hp1:place+a.size<=1000) (ht0:0<=t) (ht1:t+a.cost<=1000000):
  Calls Tryz.prog 68 #[.pointer (some ⟨r,0,none⟩),.agg #[.int .i64 a.op,.int .i64 a.slot,.int .i64 a.other,.string a.word,.string a.call.method,.string a.call.key,.int .i64 a.call.value,.string a.call.text,.int .i64 a.face,uA,uB],.int .i64 place] w (W8 r gs cap vi (a.run input place ⟨l,t⟩).1.slots (a.run input place ⟨l,t⟩).1.taken (a.run input place ⟨l,t⟩).2 (decide ((a.run input place ⟨l,t⟩).2.code=0)) S w):=by
 obtain⟨hact,okA,okB⟩:=a.ok_iff.1 hok
 have hWe:=YT a
 unfold zC at hWe
 have hck:a.call.key.size<=1048576:=by omega
 have hct:a.call.text.size<=1048575:=by omega
 have hwA:Ql a.A<=1048576:=by omega
 have hwB:Ql a.B<=1048576:=by omega
 have hsz:=a.size_eq
 have hcost:=a.cost_eq
 obtain⟨n0,n2⟩:=VE hact
 obtain⟨i,hi0⟩:∃i,i=a.slot.toNat:=⟨_,rfl⟩
 have hsl:a.slot=(i:Int):=by omega
 have hi:i<l.length:=by rw [hs.1];omega
 have hat:slotAt l a.slot=l[i]:=by unfold slotAt;rw [<-hi0,List.getElem?_eq_getElem hi];rfl
 have hso:=hs.2 i hi
 have tk:=QaL input t
 have NU:∀W,Qb [] w W->Calls Tryz.prog 105 #[.pointer (some ⟨r,0,none⟩)] W (fun e w'=>e= .returned (.int .i64 (YX input t))/\RB w' r gs cap vi l (t+1) S/\Qb [r] W w'):=fun W hc=>
  QbX r gs cap vi input l t S W B (h.kz hc) (hAm.keep hc (by simp)).inp ht0 (by omega)
 have PS:∀W,Qb (r::S) w W->Calls Tryz.prog 13 #[uA] W (fun e w'=>e= .returned (.int .i64 (Qe a.A:Int))/\Qb [] W w'):=fun W hc=>
  QT a.A uA B W (by omega) (rA.chg hc hAm.le hS) (Nat.le_trans hAm.le hc.size)
 by_cases h8:a.op=8
 ·rw [uS h8]
  by_cases hodd:YX input t % 2=1
  ·rw [if_pos hodd]
   exact Qgw r gs cap vi l t S w a uA uB i place h hi hsl h8 _ tk.1 tk.2 hodd _ _ _ _ hp0 (by omega) NU (fun W hR hc=>hA uA (place+1) r gs cap vi input l (t+1) S W B okA hwA hs hR (rA.chg hc hAm.le hS) (hAm.keep hc hS) hS (by omega) (by omega) (by omega) (by omega))
  ·rw [if_neg hodd]
   exact Qgq r gs cap vi l t S w a uA uB i place h hi hsl h8 _ tk.1 tk.2 hodd _ _ _ _ hp0 (by omega) NU (Qe a.A:Int) (by omega) (by omega) PS (fun W hR hc=>hB uB (place+1+Qe a.A) r gs cap vi input l (t+1) S W B okB hwB hs hR (rB.chg hc hAm.le hS) (hAm.keep hc hS) hS (by omega) (by omega) (by omega) (by omega))
 by_cases h9:a.op=9
 ·rw [uV h9]
  have hn:((YX input t).toNat:Int)=YX input t:=Int.toNat_of_nonneg tk.1
  rw [<-hn] at NU
  exact Qe3 r gs cap vi l t S w a uA uB i place h hi hsl h9 (YX input t).toNat (Q1 a.A) (by omega) (fun s=>QV input a.A (place+1) s) (fun s hs=>VF _ _ _ _ hs) (fun s=>GA _ _ _ _) QN hs (fun s hs=>yN _ _ okA _ _ hs) hp0 (by omega) NU
   (fun W l' t' S' hR hP h1 h2 hS' hc=>hA uA (place+1) r gs cap vi input l' t' S' W B okA hwA hP hR (rA.chg hc hAm.le hS) (hAm.keep hc hS) (fun y hy=>by
    rcases List.mem_cons.1 hy with rfl|hy
    ·exact hS _ (by simp)
    ·rcases hS' y hy with hx|hx
     ·exact hS y (by simp [hx])
     ·have:=hAm.le;omega) (by omega) (by omega) (by omega) (by omega))
 by_cases h10:a.op=10
 ·rw [GB h10]
  have LA:∀W,RB W r gs cap vi l t S->Qb (r::S) w W->Calls Tryz.prog 39 #[.pointer (some ⟨r,0,none⟩),uA,.int .i64 (place+1)] W (W8 r gs cap vi (QV input a.A (place+1) ⟨l,t⟩).1.slots (QV input a.A (place+1) ⟨l,t⟩).1.taken (QV input a.A (place+1) ⟨l,t⟩).2 (decide ((QV input a.A (place+1) ⟨l,t⟩).2.code=0)) S W):=
   fun W hR hc=>hA uA (place+1) r gs cap vi input l t S W B okA hwA hs hR (rA.chg hc hAm.le hS) (hAm.keep hc hS) hS (by omega) (by omega) (by omega) (by omega)
  have htk:=GA input a.A (place+1) ⟨l,t⟩
  have hs1:=yN input a.A okA (place+1) ⟨l,t⟩ hs
  simp only at htk
  by_cases hc1:(QV input a.A (place+1) ⟨l,t⟩).2.code=1
  ·rw [if_pos hc1]
   exact Qf8 r gs cap vi l t S w a uA uB i place h hi hsl h10 _ _ _ _ hp0 (by omega) LA rfl hc1 _ _ _ _ (Qe a.A:Int) (by omega) (by omega) PS
    (fun W S1 hR hS1 hc=>hB uB (place+1+Qe a.A) r gs cap vi input (QV input a.A (place+1) ⟨l,t⟩).1.slots (QV input a.A (place+1) ⟨l,t⟩).1.taken S1 W B okB hwB hs1 hR (rB.chg hc hAm.le hS) (hAm.keep hc hS) (fun y hy=>by
     rcases List.mem_cons.1 hy with rfl|hy
     ·exact hS _ (by simp)
     ·rcases hS1 y hy with hx|hx
      ·exact hS y (by simp [hx])
      ·have:=hAm.le;omega) (by omega) (by omega) (by omega) (by omega))
  ·rw [if_neg hc1]
   exact QfW r gs cap vi l t S w a uA uB i place h hi hsl h10 _ _ _ _ hp0 (by omega) LA hc1
 rw [JL h8 h9 h10]
 by_cases h1:a.op=1
 ·rw [UB h1, <-hi0]
  exact QfU r gs cap vi l t S w a uA uB i place h hi hsl h1 ((yP h1).1 hact).2.1
 by_cases h5:a.op=5
 ·rw [Uw h5, <-hi0]
  exact Qe4 r gs cap vi l t S w a uA uB i place h hi hsl h5
 by_cases h4:a.op=4
 ·obtain⟨_,⟨m0,m2⟩,_⟩:=(JZ h4).1 hact
  have hj:a.other.toNat<l.length:=by rw [hs.1];omega
  have hat2:slotAt l a.other=l[a.other.toNat]:=by unfold slotAt;rw [List.getElem?_eq_getElem hj];rfl
  rw [UL h4, <-hi0,hat2]
  exact Qf9 r gs cap vi l t S w a uA uB i place h hi hsl h4 a.other.toNat hj (by omega) (xi (hs.2 _ hj))
 have hop:a.op=3∨a.op=2∨a.op=6∨a.op=7:=by have:=qv hact;omega
 by_cases hf:(slotAt l a.slot).full=false
 ·rw [UA h1 h5 h4 hf]
  exact Qea r gs cap vi l t S w a uA uB i place h hi hsl hop (by rw [<-hat];exact hf)
 have hft:l[i].full=true:=by rw [<-hat];simpa using hf
 have hpo:Qp l[i].part:=hso.1 hft
 have WP:∀(l':List Qm) (en:XH) (b:Bool),(∀W,Qb [] w W->Calls Tryz.prog 107 #[.pointer (some ⟨r,0,none⟩),.pointer (some ⟨gs,i * 7,none⟩),.agg #[.int .i64 a.op,.int .i64 a.slot,.int .i64 a.other,.string a.word,.string a.call.method,.string a.call.key,.int .i64 a.call.value,.string a.call.text,.int .i64 a.face,uA,uB],.int .i64 place] W (W8 r gs cap vi l' t en b S W))->
   Calls Tryz.prog 68 #[.pointer (some ⟨r,0,none⟩),.agg #[.int .i64 a.op,.int .i64 a.slot,.int .i64 a.other,.string a.word,.string a.call.method,.string a.call.key,.int .i64 a.call.value,.string a.call.text,.int .i64 a.face,uA,uB],.int .i64 place] w (W8 r gs cap vi l' t en b S w):=fun l' en b hw=>Qfy r gs cap vi l t S w a uA uB i place h hi hsl hop l' en b hft hw
 by_cases hc:(XR a (slotAt l a.slot).part).2.code=1
 ·rw [UD h1 h5 h4 hf hc]
  simp only [hat, <-hi0] at hc ⊢
  rcases hop with ho|ho|ho|ho
  ·rw [JW ho] at hc;simp [Qj] at hc
  ·rw [JO ho] at hc ⊢
   by_cases hn:3<=l[i].part.layers.length
   ·exfalso
    cases hx:Qk a.word with
    |none=>rw [W5 hx] at hc;simp [Qj] at hc
    |some x=>rw [Wl hx hpo hn] at hc;simp [Qj] at hc
   ·exact WP _ _ _ (fun W hW=>yB r gs cap vi l t S W a uA uB i place (h.kz hW) hi hft hpo ho hn hc)
  ·rw [KQ ho] at hc ⊢
   by_cases hof:ZN (Qs l[i].part l[i].part.layers.length) a.face
   ·rw [if_pos hof] at hc;simp [Qj] at hc
   ·rw [if_neg hof]
    have:=xJ hi hft
    simp only [this]
    exact WP _ _ _ (fun W hW=>wP r gs cap vi l t S W a uA uB i place (h.kz hW) hi hft hpo ho hof)
  ·rw [JU ho] at hc ⊢
   exact WP _ _ _ (fun W hW=>yF r gs cap vi l t S W a uA uB i place (h.kz hW) hi hft hpo ho hct hck (hAm.keep hW (by simp)).env.env hc)
 ·rw [UQ h1 h5 h4 hf hc]
  simp only [hat, <-hi0] at hc ⊢
  rcases hop with ho|ho|ho|ho
  ·rw [JW ho]
   exact WP _ _ _ (fun W hW=>yC r gs cap vi l t S W a uA uB i place (h.kz hW) hi hft hpo ho)
  ·rw [JO ho] at hc ⊢
   by_cases hn:3<=l[i].part.layers.length
   ·have hk:Qk a.word≠none:=((yM ho).1 hact).2.1
    obtain⟨x,hx⟩:=Option.ne_none_iff_exists'.1 hk
    rw [Wl hx hpo hn]
    have:=xJ hi hft
    simp only [this]
    exact WP _ _ _ (fun W hW=>GZ r gs cap vi l t S W a uA uB i place (h.kz hW) hi hft hpo ho hn)
   ·exact WP _ _ _ (fun W hW=>vO r gs cap vi l t S W a uA uB i place (h.kz hW) hi hft hpo ho hn hc)
  ·rw [KQ ho]
   have:=xJ hi hft
   simp only [this]
   by_cases hof:ZN (Qs l[i].part l[i].part.layers.length) a.face
   ·exact WP _ _ _ (fun W hW=>jN r gs cap vi l t S W a uA uB i place (h.kz hW) hi hft hpo ho hof)
   ·rw [KQ ho,if_neg hof] at hc;simp [Qj] at hc
  ·rw [JU ho] at hc ⊢
   exact WP _ _ _ (fun W hW=>vK r gs cap vi l t S W a uA uB i place (h.kz hW) hi hft hpo ho hct hck (hAm.keep hW (by simp)).env.env hc)
theorem wv:∀m,QfJ m:=by
 refine Qa.ind fun m ih=>?_
 intro ul place r gs cap vi input l t S w B hok hW hs h rl hAm hS hp0 hp1 ht0 ht1
 obtain⟨A,cp,rfl,h0,h1,hrow⟩:=Qw rl
 unfold maxLen at h1
 have hml:m.length<=1048576:=by unfold Ql at hW;omega
 have hrl:r<w.heap.size:=Qn h.c0
 have lt0:=Qd h.lt
 have hgs0:=Qd h.gs.1
 have hBw:=Qd hAm.le
 have hWk:∀(k:Nat) (hk:k<m.length),XO m[k] <=1048575:=fun k hk=>by
  have h2:=G0 (List.getElem_mem hk)
  have h3:0<m.length:=by omega
  unfold Ql at hW
  omega
 have ON:=Qd (fun(k:Nat) (hk:k<m.length) (uA uB:Value) (pl:Int) (l':List Qm) (t':Int) (S':List Nat) (W:World) (hs':QN l') (hR:RB W r gs cap vi l' t' S') (rA:Rd W B (QH m[k].A) uA) (rB:Rd W B (QH m[k].B) uB) (hAm':Amb B input vi W) (hS':∀y,y∈r::S'->B<=y) (hq0:0<=pl) (hq1:pl+m[k].size<=1000) (hu0:0<=t') (hu1:t'+m[k].cost<=1000000)=>
  Qdc m[k] (ih m[k] (List.getElem_mem hk)).1 (ih m[k] (List.getElem_mem hk)).2 uA uB pl r gs cap vi input l' t' S' W B ((We m).1 hok _ (List.getElem_mem hk)) (hWk k hk) hs' hR rA rB hAm' hS' hq0 hq1 hu0 hu1)
 have SO:=Qd (fun(k:Nat) (place:Int) (s:ZS) (h:QN s.slots)=>yN input (m.take k) ((We _).2 (fun a ha=>(We m).1 hok a (List.mem_of_mem_take ha))) place s h)
 have AM:=Qd hAm
 have HS:=Qd hS
 have S0:=Qd hs
 have H:=Qd h
 have T01:=Qd (And.intro ht0 ht1)
 have hp2:place<=1000:=by omega
 have PP:=Qd hp1
 obtain⟨R,hR⟩:∃R,R=QV input m place ⟨l,t⟩:=⟨_,rfl⟩
 rw [<-hR]
 have HR:=Qd hR
 clear ih hok hW hWk hs h rl hAm hS hp1 ht0 ht1 hR
 go_enter Tryz.func39,Tryz.ntmps39
 go_wp2_with fail
 go_loopw [2,14] (fun p i wr=>∃(k:Nat) (l':List Qm) (t':Int) (S':List Nat) (z:Int),k<=m.length/\i= .int .i64 k/\p= .int .i64 z/\0<=z/\z<=1000/\Hid (z=place+Qe (m.take k))/\Hid (QV input (m.take k) place ⟨l,t⟩=(⟨l',t'⟩,QO))/\Hid (RB wr r gs cap vi l' t' S')/\Hid (∀y,y∈S'->y∈S∨w.heap.size+1<=y)/\Hid (Qb (r::S) w wr)/\w.heap.size+1<=wr.heap.size/\Hid (∀o,wr.cell? ⟨w.heap.size,o,none⟩=(w.alloc (.cells #[.int .i64 0,.int .i64 0,.int .i64 0,.int .i64 0] 32)).cell? ⟨w.heap.size,o,none⟩)/\Hid (∀o,wr.frozen? ⟨w.heap.size,o,none⟩=(w.alloc (.cells #[.int .i64 0,.int .i64 0,.int .i64 0,.int .i64 0] 32)).frozen? ⟨w.heap.size,o,none⟩)) (fun _ i _=>m.length-(intOf i).toNat)
 case atStart=>exact⟨0,l,t,S,place,Nat.zero_le _,rfl,rfl,hp0,hp2,Qd (by simp [Qe]),Qd (by rw [List.take_zero,QV]),Qd (H.out.kz Qb.now),Qd (fun y hy=>.inl hy),Qd (Qb.mono (S:=[]) Qb.now (by simp)),by simp,Qd (fun o=>rfl),Qd (fun o=>rfl)⟩
 case round=>
  obtain⟨k,l',t',S',z,hk,rfl,rfl,hz0,hz1,HZ,HE,HB,HL,HD,hsz,yc,zc⟩:=hrel
  have yc2:=yc.out;have zc2:=zc.out
  clear yc zc
  have u0:w.heap.size<wr.heap.size:=by omega
  have uu:wr.heap.size<wr.heap.size+1:=Nat.lt_succ_self _
  have HS':=Qd (show ∀y,y∈r::S'->B<=y from fun y hy=>by
   rcases List.mem_cons.1 hy with rfl|hy
   ·exact HS.out _ (by simp)
   ·rcases HL.out y hy with hx|hx
    ·exact HS.out y (by simp [hx])
    ·have:=hBw.out;omega)
  have lt1:Hid (∀y,y∈r::S'->y<wr.heap.size/\(y<w.heap.size∨w.heap.size+1<=y)):=Qd (fun y hy=>⟨HB.out.lt y hy,by
   rcases List.mem_cons.1 hy with rfl|h
   ·omega
   ·rcases HL.out y h with h|h
    ·have:=lt0.out y (by simp [h]);omega
    ·omega⟩)
  by_cases hlt:k<m.length
  ·have hlt2:(k:Int)<(m.length:Int):=by omega
   obtain⟨b,off,u9,u10,rfl,hb,q0,q1,q2,q3,q4,q5,q6,q7,q8,q9,q10,r9,r10⟩:=Yc (hrow.chg HD.out hBw.out HS.out) k hlt
   have hbw:b<wr.heap.size:=by have:=hBw.out;omega
   obtain⟨X9,d9,rfl,_,_,_⟩:=Qw r9
   obtain⟨X10,d10,rfl,_,_,_⟩:=Qw r10
   have e1:=WQ m k hlt
   have e2:=qx m (k+1)
   have e3:=m[k].size_eq
   have c1:=xZ m k hlt
   have c2:=Gc m (k+1)
   have tk1:=GA input (m.take k) place ⟨l,t⟩
   rw [HE.out] at tk1
   simp only at tk1
   have hzb:z+m[k].size<=1000:=by have:=HZ.out;have:=PP.out;omega
   have hms:1+(Qe m[k].A:Int)+(Qe m[k].B:Int)<=1000:=by omega
   have ON2:=Qd (fun W (hR:RB W r gs cap vi l' t' S') (hc:Qb [] wr W)=>ON.out k hlt (.slice X9 m[k].A.length d9) (.slice X10 m[k].B.length d10) z l' t' S' W (by have:=SO.out k place ⟨l,t⟩ S0.out;rw [HE.out] at this;exact this) hR (r9.cz hc (by have:=hBw.out;omega)) (r10.cz hc (by have:=hBw.out;omega)) (AM.out.keep (HD.out.tz hc) HS.out) HS'.out hz0 hzb (by have:=T01.out.1;omega) (by have:=T01.out.2;omega))
   have PA:=Qd (fun W (hc:Qb [] wr W)=>QT m[k].A (.slice X9 m[k].A.length d9) B W (by omega) (r9.cz hc (by have:=hBw.out;omega)) (by have:=hBw.out;have:=hc.size;omega))
   have PBB:=Qd (fun W (hc:Qb [] wr W)=>QT m[k].B (.slice X10 m[k].B.length d10) B W (by omega) (r10.cz hc (by have:=hBw.out;omega)) (by have:=hBw.out;have:=hc.size;omega))
   have PA2:=Qd (fun W (hc:Qb (r::S') wr W)=>QT m[k].A (.slice X9 m[k].A.length d9) B W (by omega) (r9.chg hc (by have:=hBw.out;omega) HS'.out) (by have:=hBw.out;have:=hc.size;omega))
   have PB2:=Qd (fun W (hc:Qb (r::S') wr W)=>QT m[k].B (.slice X10 m[k].B.length d10) B W (by omega) (r10.chg hc (by have:=hBw.out;omega) HS'.out) (by have:=hBw.out;have:=hc.size;omega))
   have hmore:=Qd (Qcg input m k hlt place ⟨l,t⟩ (by rw [HE.out];rfl))
   obtain⟨q,hq⟩:∃q,q=m[k].run input z ⟨l',t'⟩:=⟨_,rfl⟩
   rw [<-hq] at ON2
   have hq2:Hid (QV input (m.take (k+1)) place ⟨l,t⟩=q):=Qd (by rw [hmore.out,HE.out,hq,HZ.out])
   have E1:=Qd (show Qe (m.take (k+1))=Qe (m.take k)+(1+Qe m[k].A+Qe m[k].B) from by rw [e1,e3])
   have mA0:(0:Int)<=(Qe m[k].A:Int):=by omega
   have mB0:(0:Int)<=(Qe m[k].B:Int):=by omega
   obtain⟨mA,hmA⟩:∃mA:Int,mA=(Qe m[k].A:Int):=⟨_,rfl⟩
   obtain⟨mB,hmB⟩:∃mB:Int,mB=(Qe m[k].B:Int):=⟨_,rfl⟩
   rw [<-hmA] at PA2 mA0 hms
   rw [<-hmB] at PB2 mB0 hms
   have HMA:=Qd hmA
   have HMB:=Qd hmB
   have wa1:IntKind.i64.wrap (1+mA)=1+mA:=Zc (by omega) (by omega)
   have wa2:IntKind.i64.wrap (1+mA+mB)=1+mA+mB:=Zc (by omega) (by omega)
   have wa3:IntKind.i64.wrap (z+(1+mA+mB))=z+(1+mA+mB):=Zc (by omega) (by omega)
   have hzz:Hid (z+(1+mA+mB)<=1000):=Qd (by omega)
   clear hq e1 e2 e3 c1 c2 tk1 hzb PA PBB hmore hmA hmB r9 r10
   by_cases hc:q.2.code=0
   ·have hd:decide (q.2.code=0)=true:=by simp [hc]
    rw [hd] at ON2
    have HC:=Qd hc
    clear hc hd
    go_wp2_with fail
    refine(ON2.out _ (HB.out.kz Qb.now) Qb.now).mono ?_
    rintro e w2 ⟨S2,rfl,rb2,hS2,c2⟩
    have s2:=c2.size
    have v2:wr.heap.size+1<=w2.heap.size:=by(try simp at s2)<;>omega
    have yc2:=c2.ce w.heap.size (hn:=fun hx=>by have:=lt1.out _ hx;(try simp at this)<;>omega)
    have zc2:=c2.fe w.heap.size (hn:=fun hx=>by have:=lt1.out _ hx;(try simp at this)<;>omega)
    have xc2:w.heap.size<w2.heap.size:=by omega
    have yn2:=c2.ce wr.heap.size (hn:=fun hx=>by have:=lt1.out _ hx;(try simp at this)<;>omega)
    have zn2:=c2.fe wr.heap.size (hn:=fun hx=>by have:=lt1.out _ hx;(try simp at this)<;>omega)
    have xn2:wr.heap.size<w2.heap.size:=by omega
    clear s2
    have lo2:Hid (∀y,y∈S2->y∈S∨w.heap.size+1<=y):=Qd (fun y hy=>by rcases hS2 y hy with h|h;(exact HL.out y h);(exact .inr (by(try simp at h)<;>omega)))
    have D2:Hid (Qb (r::S) w w2):=Qd (Qb.trans (S:=r::S) (Qb.to HD.out) c2 (fun x hx=>by rcases List.mem_cons.1 hx with rfl|h;(exact .inl (by simp));(exact(HL.out x h).imp (fun h=>by simp [h]) (fun h=>by omega))))
    have C2:Hid (Qb (r::S') wr w2):=Qd (Qb.trans (S:=r::S') (Qb.mono (S:=[]) Qb.now (by simp)) c2 (fun x hx=>.inl hx))
    have RB2:=Qd rb2
    have n9:w2.cell? ⟨wr.heap.size,9,none⟩=some (.slice X9 m[k].A.length d9):=(yn2 9).trans (by go_simp)
    have n10:w2.cell? ⟨wr.heap.size,10,none⟩=some (.slice X10 m[k].B.length d10):=(yn2 10).trans (by go_simp)
    clear rb2 hS2 c2
    go_wp2_with fail
    go_region_held3 (fun w'=>w'.cell? ⟨wr.heap.size,9,none⟩=some (.slice X9 m[k].A.length d9)/\w'.cell? ⟨wr.heap.size,10,none⟩=some (.slice X10 m[k].B.length d10)) (((refine⟨?_,?_⟩)<;>(first|(go_keep;done)|(go_simp;done)|(simp [*];done)))) (first|(go_simp;go_at_call 13;(with_reducible refine(PA2.out _ Qb.any2).mono ?_);rintro e w3 ⟨rfl,c3⟩;(have s3:=c3.size);(have v3:w2.heap.size+1<=w3.heap.size:=by(try simp at s3)<;>omega);(have yc3:=c3.ce w.heap.size);(have zc3:=c3.fe w.heap.size);(have xc3:w.heap.size<w3.heap.size:=by omega);(have yn3:=c3.ce wr.heap.size);(have zn3:=c3.fe wr.heap.size);(have xn3:wr.heap.size<w3.heap.size:=by omega);(have xe3:w2.heap.size<w3.heap.size:=by omega);(have C3:Hid (Qb (r::S') wr w3):=Qd (Qb.tz Qb.any2 c3));(have D3:Hid (Qb (r::S) w w3):=Qd (Qb.tz Qb.any2 c3));(have RB3:Hid (RB w3 r gs cap vi q.1.slots q.1.taken S2):=Qd (RB.kz (by first|exact RB4.out.kz Qb.now|exact RB3.out.kz Qb.now|exact RB2.out.kz Qb.now) c3));clear c3 s3;simp only [])|(go_simp;go_at_call 13;(with_reducible refine(PB2.out _ Qb.any2).mono ?_);rintro e w4 ⟨rfl,c4⟩;(have s4:=c4.size);(have v4:w2.heap.size+1<=w4.heap.size:=by(try simp at s4)<;>omega);(have yc4:=c4.ce w.heap.size);(have zc4:=c4.fe w.heap.size);(have xc4:w.heap.size<w4.heap.size:=by omega);(have yn4:=c4.ce wr.heap.size);(have zn4:=c4.fe wr.heap.size);(have xn4:wr.heap.size<w4.heap.size:=by omega);(have xe4:w2.heap.size<w4.heap.size:=by omega);(have C4:Hid (Qb (r::S') wr w4):=Qd (Qb.tz Qb.any2 c4));(have D4:Hid (Qb (r::S) w w4):=Qd (Qb.tz Qb.any2 c4));(have RB4:Hid (RB w4 r gs cap vi q.1.slots q.1.taken S2):=Qd (RB.kz (by first|exact RB4.out.kz Qb.now|exact RB3.out.kz Qb.now|exact RB2.out.kz Qb.now) c4));clear c4 s4;simp only [])|fail)
    all_goals
     go_wp2_with fail
     go_roundw
     case rel=>exact⟨k+1,q.1.slots,q.1.taken,S2,z+(1+mA+mB),by omega,by go_num,rfl,by omega,hzz.out,Qd (by rw [HZ.out,E1.out,HMA.out,HMB.out];omega),Qd (by rw [hq2.out];exact Prod.ext rfl (by have h5:=VF input (m.take (k+1)) place ⟨l,t⟩;rw [hq2.out] at h5;exact h5 HC.out)),Qd (by first|exact RB4.out.kz Qb.now|exact RB3.out.kz Qb.now|exact RB2.out.kz Qb.now),lo2,Qd Qb.any2,by(try simp)<;>omega,Qd (fun o=>by go_simp),Qd (fun o=>by go_simp)⟩
     case measure=>simp [intOf];omega
   ·have hd:decide (q.2.code=0)=false:=by simp [hc]
    rw [hd] at ON2
    have HC:=Qd hc
    clear hc hd
    go_wp2_with fail
    refine(ON2.out _ (HB.out.kz Qb.now) Qb.now).mono ?_
    rintro e w2 ⟨S2,rfl,rb2,hS2,c2⟩
    have s2:=c2.size
    have v2:wr.heap.size+1<=w2.heap.size:=by(try simp at s2)<;>omega
    have yc2:=c2.ce w.heap.size (hn:=fun hx=>by have:=lt1.out _ hx;(try simp at this)<;>omega)
    have zc2:=c2.fe w.heap.size (hn:=fun hx=>by have:=lt1.out _ hx;(try simp at this)<;>omega)
    have xc2:w.heap.size<w2.heap.size:=by omega
    have yn2:=c2.ce wr.heap.size (hn:=fun hx=>by have:=lt1.out _ hx;(try simp at this)<;>omega)
    have zn2:=c2.fe wr.heap.size (hn:=fun hx=>by have:=lt1.out _ hx;(try simp at this)<;>omega)
    have xn2:wr.heap.size<w2.heap.size:=by omega
    clear s2
    have lo2:Hid (∀y,y∈S2->y∈S∨w.heap.size+1<=y):=Qd (fun y hy=>by rcases hS2 y hy with h|h;(exact HL.out y h);(exact .inr (by(try simp at h)<;>omega)))
    have D2:Hid (Qb (r::S) w w2):=Qd (Qb.trans (S:=r::S) (Qb.to HD.out) c2 (fun x hx=>by rcases List.mem_cons.1 hx with rfl|h;(exact .inl (by simp));(exact(HL.out x h).imp (fun h=>by simp [h]) (fun h=>by omega))))
    have C2:Hid (Qb (r::S') wr w2):=Qd (Qb.trans (S:=r::S') (Qb.mono (S:=[]) Qb.now (by simp)) c2 (fun x hx=>.inl hx))
    have RB2:=Qd rb2
    have n9:w2.cell? ⟨wr.heap.size,9,none⟩=some (.slice X9 m[k].A.length d9):=(yn2 9).trans (by go_simp)
    have n10:w2.cell? ⟨wr.heap.size,10,none⟩=some (.slice X10 m[k].B.length d10):=(yn2 10).trans (by go_simp)
    clear rb2 hS2 c2
    go_wp2_with fail
    have hRq:R=q:=by rw [HR.out];have h5:=QdQ input m (k+1) place ⟨l,t⟩;rw [hq2.out] at h5;exact h5 HC.out
    refine bodyPost_ret (v:=.tuple #[.agg #[.int .i64 q.2.code,.int .i64 q.2.place,.int .i64 q.2.want,.int .i64 q.2.had],.bool false]) (by simp only [results,Tryz.results39];go_simp) rfl ?_
    rw [hRq]
    have hd2:decide (q.2.code=0)=false:=decide_eq_false HC.out
    rw [hd2]
    have hgs:=hgs0.out
    exact⟨S2,rfl,RB2.out.keep (T:=[w.heap.size]) Qb.now (by have:=lt0.out r (by simp);simp;omega) (fun y hy=>by rcases lo2.out y hy with h|h;(have:=lt0.out y (by simp [h]);simp;omega);(simp;omega)),fun y hy=>(lo2.out y hy).imp id (fun h=>by omega),(Qb.to D2.out)⟩
  ·obtain rfl:k=m.length:=by omega
   have hRq:R=(⟨l',t'⟩,QO):=by rw [HR.out, <-HE.out,List.take_length]
   go_wp2_with fail
   refine bodyPost_ret (v:=.tuple #[.agg #[.int .i64 0,.int .i64 0,.int .i64 0,.int .i64 0],.bool true]) (by simp only [results,Tryz.results39];go_simp) rfl ?_
   rw [hRq]
   have hgs:=hgs0.out
   exact⟨S',rfl,HB.out.keep (T:=[w.heap.size]) Qb.now (by have:=lt0.out r (by simp);simp;omega) (fun y hy=>by rcases HL.out y hy with h|h;(have:=lt0.out y (by simp [h]);simp;omega);(simp;omega)),fun y hy=>(HL.out y hy).imp id (fun h=>by omega),(Qb.to HD.out)⟩
end Go.Proofs.YtlnkgcdeljhjcaaGreatDoor
