/- one whatever the action. Conditions: as stated. -/
import Derived.Test.YtjeadhmkghnkkaaGreatDoorOneI
import Derived.Test.YtjeadhmkghnkkaaGreatDoorIsActP
set_option maxRecDepth 100000
set_option maxHeartbeats 8000000
namespace Go.Proofs.YtjeadhmkghnkkaaGreatDoor
open Go.RowKit
theorem Qc.any2 {S:List Nat} {w W:World} (h:Qc S w W:=by(repeat(first|(refine Hid.out ?_;with_reducible assumption)|with_reducible exact B0 _ _|with_reducible refine i6 ?_|with_reducible refine a7 ?_ _|with_reducible refine U4 ?_ _|with_reducible refine Q8 ?_ (by first|(refine .inl ?_;simp;done)|(refine .inl ?_;assumption)|(refine .inl (I5 _ ?_);assumption)|(refine .inl (I5 _ (Hid.out ?_));assumption)|(refine .inr ?_;simp<;>omega)) _));done):Qc S w W:=h

structure Amb (B:Nat) (input:List Int) (vi:Value) (w:World):Prop where
 env:YO B w
 le:B<=w.heap.size
 inp:Rd w B (xE input) vi
theorem Amb.keep {B:Nat} {input:List Int} {vi:Value} {w w':World} {T:List Nat} (h:Amb B input vi w) (hc:Qc T w w') (hT:∀y,y∈T->B<=y):Amb B input vi w':=
 ⟨h.env.keep hc hT h.le,G5 h.le hc.size,h.inp.chg hc h.le hT⟩
def QeC (m:List Qa):Prop:=∀(ul:Value) (place:Int) (r gs cap:Nat) (vi:Value) (input:List Int) (l:List Ql) (t:Int) (S:List Nat) (w:World) (B:Nat),Jm m->Qi m<=1048576->QH l->RB w r gs cap vi l t S->Rd w B (QA m) ul->Amb B input vi w->(∀y,y∈r::S->B<=y)->0<=place->place+Qd m<=1000->0<=t->t+QT m<=1000000->
 Calls Tryz.prog 46 #[.pointer (some ⟨r,0,none⟩),ul,.int .i64 place] w (Vy r gs cap vi (QM input m place ⟨l,t⟩).1.slots (QM input m place ⟨l,t⟩).1.taken (QM input m place ⟨l,t⟩).2 (decide ((QM input m place ⟨l,t⟩).2.code=0)) S w)
theorem vG {s:Ql} (h:Ww s):UF s:=by
 cases hf:s.full with
 |true=>have:=Yd (h.1 hf);exact⟨this.2.1,this.1,this.2.2⟩
 |false=>rw [UF,h.2 hf];exact⟨by simp [Zb],by simp [Zb],by simp [Zb]⟩
theorem Qcp (a:Qa) (hA:QeC a.A) (hB:QeC a.B) (uA uB:Value) (place:Int) (r gs cap:Nat) (vi:Value) (input:List Int) (l:List Ql) (t:Int) (S:List Nat) (w:World) (B:Nat) (hok:a.ok) (hW:Xv a<=1048575) (hs:QH l) (h:RB w r gs cap vi l t S)
  (rA:Rd w B (QA a.A) uA) (rB:Rd w B (QA a.B) uB) (hAm:Amb B input vi w) (hS:∀y,y∈r::S->B<=y) (hp0:0<=place) (hp1:place+a.size<=1000) (ht0:0<=t) (ht1:t+a.cost<=1000000):
  Calls Tryz.prog 73 #[.pointer (some ⟨r,0,none⟩),.agg #[.int .i64 a.op,.int .i64 a.slot,.int .i64 a.other,.string a.word,.string a.call.method,.string a.call.key,.int .i64 a.call.value,.string a.call.text,.int .i64 a.face,uA,uB],.int .i64 place] w (Vy r gs cap vi (a.run input place ⟨l,t⟩).1.slots (a.run input place ⟨l,t⟩).1.taken (a.run input place ⟨l,t⟩).2 (decide ((a.run input place ⟨l,t⟩).2.code=0)) S w):=by
 obtain⟨hact,okA,okB⟩:=a.ok_iff.1 hok
 have hWe:=Wf a
 unfold xd at hWe
 have hck:a.call.key.size<=1048576:=by omega
 have hct:a.call.text.size<=1048575:=by omega
 have hwA:Qi a.A<=1048576:=by omega
 have hwB:Qi a.B<=1048576:=by omega
 have hsz:=a.size_eq
 have hcost:=a.cost_eq
 obtain⟨n0,n2⟩:=VZ hact
 obtain⟨i,hi0⟩:∃i,i=a.slot.toNat:=⟨_,rfl⟩
 have hsl:a.slot=(i:Int):=by omega
 have hi:i<l.length:=by rw [hs.1];omega
 have hat:slotAt l a.slot=l[i]:=by unfold slotAt;rw [<-hi0,F8 hi];rfl
 have hso:=hs.2 i hi
 have tk:=jL input t
 have NU:∀W,Qc [] w W->Calls Tryz.prog 111 #[.pointer (some ⟨r,0,none⟩)] W (fun e w'=>e= .returned (.int .i64 (Wn input t))/\RB w' r gs cap vi l (t+1) S/\Qc [r] W w'):=fun W hc=>
  QbY r gs cap vi input l t S W B (h.kz hc) (hAm.keep hc (by simp)).inp ht0 (by omega)
 have PS:∀W,Qc (r::S) w W->Calls Tryz.prog 13 #[uA] W (fun e w'=>e= .returned (.int .i64 (Qd a.A:Int))/\Qc [] W w'):=fun W hc=>
  Zc a.A uA B W (by omega) (rA.chg hc hAm.le hS) (G5 hAm.le hc.size)
 by_cases h8:a.op=8
 ·rw [uS h8]
  by_cases hodd:Wn input t % 2=1
  ·rw [if_pos hodd]
   exact QfV r gs cap vi l t S w a uA uB i place h hi hsl h8 _ tk.1 tk.2 hodd _ _ _ _ hp0 (by omega) NU (fun W hR hc=>hA uA (place+1) r gs cap vi input l (t+1) S W B okA hwA hs hR (rA.chg hc hAm.le hS) (hAm.keep hc hS) hS (by omega) (by omega) (by omega) (by omega))
  ·rw [if_neg hodd]
   exact Qfy r gs cap vi l t S w a uA uB i place h hi hsl h8 _ tk.1 tk.2 hodd _ _ _ _ hp0 (by omega) NU (Qd a.A:Int) (by omega) (by omega) PS (fun W hR hc=>hB uB (place+1+Qd a.A) r gs cap vi input l (t+1) S W B okB hwB hs hR (rB.chg hc hAm.le hS) (hAm.keep hc hS) hS (by omega) (by omega) (by omega) (by omega))
 by_cases h9:a.op=9
 ·rw [uM h9]
  have hn:((Wn input t).toNat:Int)=Wn input t:=Y4 tk.1
  rw [<-hn] at NU
  exact Qfl r gs cap vi l t S w a uA uB i place h hi hsl h9 (Wn input t).toNat (QT a.A) (by omega) (fun s=>QM input a.A (place+1) s) (fun s hs=>Uj _ _ _ _ hs) (fun s=>qE _ _ _ _) QH hs (fun s hs=>xL _ _ okA _ _ hs) hp0 (by omega) NU
   (fun W l' t' S' hR hP h1 h2 hS' hc=>hA uA (place+1) r gs cap vi input l' t' S' W B okA hwA hP hR (rA.chg hc hAm.le hS) (hAm.keep hc hS) (fun y hy=>by
    rcases C7.1 hy with rfl|hy
    ·exact hS _ (by simp)
    ·rcases hS' y hy with hx|hx
     ·exact hS y (by simp [hx])
     ·have:=hAm.le;omega) (by omega) (by omega) (by omega) (by omega))
 by_cases h10:a.op=10
 ·rw [qF h10]
  have LA:∀W,RB W r gs cap vi l t S->Qc (r::S) w W->Calls Tryz.prog 46 #[.pointer (some ⟨r,0,none⟩),uA,.int .i64 (place+1)] W (Vy r gs cap vi (QM input a.A (place+1) ⟨l,t⟩).1.slots (QM input a.A (place+1) ⟨l,t⟩).1.taken (QM input a.A (place+1) ⟨l,t⟩).2 (decide ((QM input a.A (place+1) ⟨l,t⟩).2.code=0)) S W):=
   fun W hR hc=>hA uA (place+1) r gs cap vi input l t S W B okA hwA hs hR (rA.chg hc hAm.le hS) (hAm.keep hc hS) hS (by omega) (by omega) (by omega) (by omega)
  have htk:=qE input a.A (place+1) ⟨l,t⟩
  have hs1:=xL input a.A okA (place+1) ⟨l,t⟩ hs
  simp only at htk
  by_cases hc1:(QM input a.A (place+1) ⟨l,t⟩).2.code=1
  ·rw [if_pos hc1]
   exact Qea r gs cap vi l t S w a uA uB i place h hi hsl h10 _ _ _ _ hp0 (by omega) LA rfl hc1 _ _ _ _ (Qd a.A:Int) (by omega) (by omega) PS
    (fun W S1 hR hS1 hc=>hB uB (place+1+Qd a.A) r gs cap vi input (QM input a.A (place+1) ⟨l,t⟩).1.slots (QM input a.A (place+1) ⟨l,t⟩).1.taken S1 W B okB hwB hs1 hR (rB.chg hc hAm.le hS) (hAm.keep hc hS) (fun y hy=>by
     rcases C7.1 hy with rfl|hy
     ·exact hS _ (by simp)
     ·rcases hS1 y hy with hx|hx
      ·exact hS y (by simp [hx])
      ·have:=hAm.le;omega) (by omega) (by omega) (by omega) (by omega))
  ·rw [if_neg hc1]
   exact QeL r gs cap vi l t S w a uA uB i place h hi hsl h10 _ _ _ _ hp0 (by omega) LA hc1
 rw [GM h8 h9 h10]
 by_cases h1:a.op=1
 ·rw [UW h1, <-hi0]
  exact Qe9 r gs cap vi l t S w a uA uB i place h hi hsl h1 ((xQ h1).1 hact).2.1
 by_cases h5:a.op=5
 ·rw [Kk h5, <-hi0]
  exact Qfb r gs cap vi l t S w a uA uB i place h hi hsl h5
 by_cases h4:a.op=4
 ·obtain⟨_,⟨m0,m2⟩,_⟩:=(GV h4).1 hact
  have hj:a.other.toNat<l.length:=by rw [hs.1];omega
  have hat2:slotAt l a.other=l[a.other.toNat]:=by unfold slotAt;rw [F8 hj];rfl
  rw [UV h4, <-hi0,hat2]
  exact Qfi r gs cap vi l t S w a uA uB i place h hi hsl h4 a.other.toNat hj (by omega) (vG (hs.2 _ hj))
 have hop:a.op=3∨a.op=2∨a.op=6∨a.op=7:=by have:=Gt hact;omega
 by_cases hf:(slotAt l a.slot).full=false
 ·rw [Kg h1 h5 h4 hf]
  exact QdU r gs cap vi l t S w a uA uB i place h hi hsl hop (by rw [<-hat];exact hf)
 have hft:l[i].full=true:=by rw [<-hat];simpa using hf
 have hpo:Qn l[i].part:=hso.1 hft
 have WP:∀(l':List Ql) (en:Xo) (b:Bool),(∀W,Qc [] w W->Calls Tryz.prog 112 #[.pointer (some ⟨r,0,none⟩),.pointer (some ⟨gs,i * 7,none⟩),.agg #[.int .i64 a.op,.int .i64 a.slot,.int .i64 a.other,.string a.word,.string a.call.method,.string a.call.key,.int .i64 a.call.value,.string a.call.text,.int .i64 a.face,uA,uB],.int .i64 place] W (Vy r gs cap vi l' t en b S W))->
   Calls Tryz.prog 73 #[.pointer (some ⟨r,0,none⟩),.agg #[.int .i64 a.op,.int .i64 a.slot,.int .i64 a.other,.string a.word,.string a.call.method,.string a.call.key,.int .i64 a.call.value,.string a.call.text,.int .i64 a.face,uA,uB],.int .i64 place] w (Vy r gs cap vi l' t en b S w):=fun l' en b hw=>Qfq r gs cap vi l t S w a uA uB i place h hi hsl hop l' en b hft hw
 by_cases hc:(XP a (slotAt l a.slot).part).2.code=1
 ·rw [Ka h1 h5 h4 hf hc]
  simp only [hat, <-hi0] at hc ⊢
  rcases hop with ho|ho|ho|ho
  ·rw [GN ho] at hc;simp [Qf] at hc
  ·rw [GT ho] at hc ⊢
   by_cases hn:3<=l[i].part.layers.length
   ·exfalso
    cases hx:Qj a.word with
    |none=>rw [Vm hx] at hc;simp [Qf] at hc
    |some x=>rw [WG hx hpo hn] at hc;simp [Qf] at hc
   ·exact WP _ _ _ (fun W hW=>xo r gs cap vi l t S W a uA uB i place (h.kz hW) hi hft hpo ho hn hc)
  ·rw [Ju ho] at hc ⊢
   by_cases hof:ZL (Qq l[i].part l[i].part.layers.length) a.face
   ·rw [if_pos hof] at hc;simp [Qf] at hc
   ·rw [if_neg hof]
    have:=vH hi hft
    simp only [this]
    exact WP _ _ _ (fun W hW=>vx r gs cap vi l t S W a uA uB i place (h.kz hW) hi hft hpo ho hof)
  ·rw [GW ho] at hc ⊢
   exact WP _ _ _ (fun W hW=>xz r gs cap vi l t S W a uA uB i place (h.kz hW) hi hft hpo ho hct hck (hAm.keep hW (by simp)).env.env hc)
 ·rw [Ks h1 h5 h4 hf hc]
  simp only [hat, <-hi0] at hc ⊢
  rcases hop with ho|ho|ho|ho
  ·rw [GN ho]
   exact WP _ _ _ (fun W hW=>xr r gs cap vi l t S W a uA uB i place (h.kz hW) hi hft hpo ho)
  ·rw [GT ho] at hc ⊢
   by_cases hn:3<=l[i].part.layers.length
   ·have hk:Qj a.word≠none:=((xJ ho).1 hact).2.1
    obtain⟨x,hx⟩:=O6.1 hk
    rw [WG hx hpo hn]
    have:=vH hi hft
    simp only [this]
    exact WP _ _ _ (fun W hW=>zq r gs cap vi l t S W a uA uB i place (h.kz hW) hi hft hpo ho hn)
   ·exact WP _ _ _ (fun W hW=>ua r gs cap vi l t S W a uA uB i place (h.kz hW) hi hft hpo ho hn hc)
  ·rw [Ju ho]
   have:=vH hi hft
   simp only [this]
   by_cases hof:ZL (Qq l[i].part l[i].part.layers.length) a.face
   ·exact WP _ _ _ (fun W hW=>k8 r gs cap vi l t S W a uA uB i place (h.kz hW) hi hft hpo ho hof)
   ·rw [Ju ho,if_neg hof] at hc;simp [Qf] at hc
  ·rw [GW ho] at hc ⊢
   exact WP _ _ _ (fun W hW=>vQ r gs cap vi l t S W a uA uB i place (h.kz hW) hi hft hpo ho hct hck (hAm.keep hW (by simp)).env.env hc)
theorem wF:∀m,QeC m:=by
 refine j4 fun m ih=>?_
 intro ul place r gs cap vi input l t S w B hok hW hs h rl hAm hS hp0 hp1 ht0 ht1
 obtain⟨A,cp,rfl,h0,h1,hrow⟩:=Qr rl
 unfold maxLen at h1
 have hml:m.length<=1048576:=by unfold Qi at hW;omega
 have hrl:r<w.heap.size:=Qk h.c0
 have lt0:=Qb h.lt
 have hgs0:=Qb h.gs.1
 have hBw:=Qb hAm.le
 have hWk:∀(k:Nat) (hk:k<m.length),Xv m[k] <=1048575:=fun k hk=>by
  have h2:=zi (I4 hk)
  have h3:0<m.length:=by omega
  unfold Qi at hW
  omega
 have ON:=Qb (fun(k:Nat) (hk:k<m.length) (uA uB:Value) (pl:Int) (l':List Ql) (t':Int) (S':List Nat) (W:World) (hs':QH l') (hR:RB W r gs cap vi l' t' S') (rA:Rd W B (QA m[k].A) uA) (rB:Rd W B (QA m[k].B) uB) (hAm':Amb B input vi W) (hS':∀y,y∈r::S'->B<=y) (hq0:0<=pl) (hq1:pl+m[k].size<=1000) (hu0:0<=t') (hu1:t'+m[k].cost<=1000000)=>
  Qcp m[k] (ih m[k] (I4 hk)).1 (ih m[k] (I4 hk)).2 uA uB pl r gs cap vi input l' t' S' W B ((Wh m).1 hok _ (I4 hk)) (hWk k hk) hs' hR rA rB hAm' hS' hq0 hq1 hu0 hu1)
 have SO:=Qb (fun(k:Nat) (place:Int) (s:ZV) (h:QH s.slots)=>xL input (m.take k) ((Wh _).2 (fun a ha=>(Wh m).1 hok a (List.mem_of_mem_take ha))) place s h)
 have AM:=Qb hAm
 have HS:=Qb hS
 have S0:=Qb hs
 have H:=Qb h
 have T01:=Qb (And.intro ht0 ht1)
 have hp2:place<=1000:=by omega
 have PP:=Qb hp1
 obtain⟨R,hR⟩:∃R,R=QM input m place ⟨l,t⟩:=⟨_,rfl⟩
 rw [<-hR]
 have HR:=Qb hR
 clear ih hok hW hWk hs h rl hAm hS hp1 ht0 ht1 hR
 go_enter Tryz.func46,Tryz.ntmps46
 go_wp2_with fail
 go_loopw [2,14] (fun p i wr=>∃(k:Nat) (l':List Ql) (t':Int) (S':List Nat) (z:Int),k<=m.length/\i= .int .i64 k/\p= .int .i64 z/\0<=z/\z<=1000/\Hid (z=place+Qd (m.take k))/\Hid (QM input (m.take k) place ⟨l,t⟩=(⟨l',t'⟩,QJ))/\Hid (RB wr r gs cap vi l' t' S')/\Hid (∀y,y∈S'->y∈S∨w.heap.size+1<=y)/\Hid (Qc (r::S) w wr)/\w.heap.size+1<=wr.heap.size/\Hid (∀o,wr.cell? ⟨w.heap.size,o,none⟩=(w.alloc (.cells #[.int .i64 0,.int .i64 0,.int .i64 0,.int .i64 0] 38)).cell? ⟨w.heap.size,o,none⟩)/\Hid (∀o,wr.frozen? ⟨w.heap.size,o,none⟩=(w.alloc (.cells #[.int .i64 0,.int .i64 0,.int .i64 0,.int .i64 0] 38)).frozen? ⟨w.heap.size,o,none⟩)) (fun _ i _=>m.length-(intOf i).toNat)
 case atStart=>exact⟨0,l,t,S,place,I3 _,rfl,rfl,hp0,hp2,Qb (by simp [Qd]),Qb (by rw [T9,QM]),Qb (H.out.kz C6),Qb (fun y hy=>.inl hy),Qb (j6 (S:=[]) C6 (by simp)),by simp,Qb (fun o=>rfl),Qb (fun o=>rfl)⟩
 case round=>
  obtain⟨k,l',t',S',z,hk,rfl,rfl,hz0,hz1,HZ,HE,HB,HL,HD,hsz,yc,zc⟩:=hrel
  have yc2:=yc.out;have zc2:=zc.out
  clear yc zc
  have u0:w.heap.size<wr.heap.size:=by omega
  have uu:wr.heap.size<wr.heap.size+1:=L4 _
  have HS':=Qb (show ∀y,y∈r::S'->B<=y from fun y hy=>by
   rcases C7.1 hy with rfl|hy
   ·exact HS.out _ (by simp)
   ·rcases HL.out y hy with hx|hx
    ·exact HS.out y (by simp [hx])
    ·have:=hBw.out;omega)
  have lt1:Hid (∀y,y∈r::S'->y<wr.heap.size/\(y<w.heap.size∨w.heap.size+1<=y)):=Qb (fun y hy=>⟨HB.out.lt y hy,by
   rcases C7.1 hy with rfl|h
   ·omega
   ·rcases HL.out y h with h|h
    ·have:=lt0.out y (by simp [h]);omega
    ·omega⟩)
  by_cases hlt:k<m.length
  ·have hlt2:(k:Int)<(m.length:Int):=by omega
   obtain⟨b,off,u9,u10,rfl,hb,q0,q1,q2,q3,q4,q5,q6,q7,q8,q9,q10,r9,r10⟩:=Yh (hrow.chg HD.out hBw.out HS.out) k hlt
   have hbw:b<wr.heap.size:=by have:=hBw.out;omega
   obtain⟨X9,d9,rfl,_,_,_⟩:=Qr r9
   obtain⟨X10,d10,rfl,_,_,_⟩:=Qr r10
   have e1:=Vj m k hlt
   have e2:=zz m (k+1)
   have e3:=m[k].size_eq
   have c1:=vk m k hlt
   have c2:=qe m (k+1)
   have tk1:=qE input (m.take k) place ⟨l,t⟩
   rw [HE.out] at tk1
   simp only at tk1
   have hzb:z+m[k].size<=1000:=by have:=HZ.out;have:=PP.out;omega
   have hms:1+(Qd m[k].A:Int)+(Qd m[k].B:Int)<=1000:=by omega
   have ON2:=Qb (fun W (hR:RB W r gs cap vi l' t' S') (hc:Qc [] wr W)=>ON.out k hlt (.slice X9 m[k].A.length d9) (.slice X10 m[k].B.length d10) z l' t' S' W (by have:=SO.out k place ⟨l,t⟩ S0.out;rw [HE.out] at this;exact this) hR (r9.cz hc (by have:=hBw.out;omega)) (r10.cz hc (by have:=hBw.out;omega)) (AM.out.keep (HD.out.tz hc) HS.out) HS'.out hz0 hzb (by have:=T01.out.1;omega) (by have:=T01.out.2;omega))
   have PA:=Qb (fun W (hc:Qc [] wr W)=>Zc m[k].A (.slice X9 m[k].A.length d9) B W (by omega) (r9.cz hc (by have:=hBw.out;omega)) (by have:=hBw.out;have:=hc.size;omega))
   have PBB:=Qb (fun W (hc:Qc [] wr W)=>Zc m[k].B (.slice X10 m[k].B.length d10) B W (by omega) (r10.cz hc (by have:=hBw.out;omega)) (by have:=hBw.out;have:=hc.size;omega))
   have PA2:=Qb (fun W (hc:Qc (r::S') wr W)=>Zc m[k].A (.slice X9 m[k].A.length d9) B W (by omega) (r9.chg hc (by have:=hBw.out;omega) HS'.out) (by have:=hBw.out;have:=hc.size;omega))
   have PB2:=Qb (fun W (hc:Qc (r::S') wr W)=>Zc m[k].B (.slice X10 m[k].B.length d10) B W (by omega) (r10.chg hc (by have:=hBw.out;omega) HS'.out) (by have:=hBw.out;have:=hc.size;omega))
   have hmore:=Qb (Qb5 input m k hlt place ⟨l,t⟩ (by rw [HE.out];rfl))
   obtain⟨q,hq⟩:∃q,q=m[k].run input z ⟨l',t'⟩:=⟨_,rfl⟩
   rw [<-hq] at ON2
   have hq2:Hid (QM input (m.take (k+1)) place ⟨l,t⟩=q):=Qb (by rw [hmore.out,HE.out,hq,HZ.out])
   have E1:=Qb (show Qd (m.take (k+1))=Qd (m.take k)+(1+Qd m[k].A+Qd m[k].B) from by rw [e1,e3])
   have mA0:(0:Int)<=(Qd m[k].A:Int):=by omega
   have mB0:(0:Int)<=(Qd m[k].B:Int):=by omega
   obtain⟨mA,hmA⟩:∃mA:Int,mA=(Qd m[k].A:Int):=⟨_,rfl⟩
   obtain⟨mB,hmB⟩:∃mB:Int,mB=(Qd m[k].B:Int):=⟨_,rfl⟩
   rw [<-hmA] at PA2 mA0 hms
   rw [<-hmB] at PB2 mB0 hms
   have HMA:=Qb hmA
   have HMB:=Qb hmB
   have wa1:IntKind.i64.wrap (1+mA)=1+mA:=Zd (by omega) (by omega)
   have wa2:IntKind.i64.wrap (1+mA+mB)=1+mA+mB:=Zd (by omega) (by omega)
   have wa3:IntKind.i64.wrap (z+(1+mA+mB))=z+(1+mA+mB):=Zd (by omega) (by omega)
   have hzz:Hid (z+(1+mA+mB)<=1000):=Qb (by omega)
   clear hq e1 e2 e3 c1 c2 tk1 hzb PA PBB hmore hmA hmB r9 r10
   by_cases hc:q.2.code=0
   ·have hd:decide (q.2.code=0)=true:=by simp [hc]
    rw [hd] at ON2
    have HC:=Qb hc
    clear hc hd
    go_wp2_with fail
    refine(ON2.out _ (HB.out.kz C6) C6).mono ?_
    rintro e w2 ⟨S2,rfl,rb2,hS2,c2⟩
    have s2:=c2.size
    have v2:wr.heap.size+1<=w2.heap.size:=by(try simp at s2)<;>omega
    have yc2:=c2.ce w.heap.size (hn:=fun hx=>by have:=lt1.out _ hx;(try simp at this)<;>omega)
    have zc2:=c2.fe w.heap.size (hn:=fun hx=>by have:=lt1.out _ hx;(try simp at this)<;>omega)
    have xc2:w.heap.size<w2.heap.size:=by omega
    have yn2:=c2.ce wr.heap.size (hn:=fun hx=>by have:=lt1.out _ hx;(try simp at this)<;>omega)
    have zn2:=c2.fe wr.heap.size (hn:=fun hx=>by have:=lt1.out _ hx;(try simp at this)<;>omega)
    have xn2:wr.heap.size<w2.heap.size:=by omega
    clear s2
    have lo2:Hid (∀y,y∈S2->y∈S∨w.heap.size+1<=y):=Qb (fun y hy=>by rcases hS2 y hy with h|h;(exact HL.out y h);(exact .inr (by(try simp at h)<;>omega)))
    have D2:Hid (Qc (r::S) w w2):=Qb (K6 (S:=r::S) (H9 HD.out) c2 (fun x hx=>by rcases C7.1 hx with rfl|h;(exact .inl (by simp));(exact(HL.out x h).imp (fun h=>by simp [h]) (fun h=>by omega))))
    have C2:Hid (Qc (r::S') wr w2):=Qb (K6 (S:=r::S') (j6 (S:=[]) C6 (by simp)) c2 (fun x hx=>.inl hx))
    have RB2:=Qb rb2
    have n9:w2.cell? ⟨wr.heap.size,9,none⟩=some (.slice X9 m[k].A.length d9):=(yn2 9).trans (by go_simp)
    have n10:w2.cell? ⟨wr.heap.size,10,none⟩=some (.slice X10 m[k].B.length d10):=(yn2 10).trans (by go_simp)
    clear rb2 hS2 c2
    go_wp2_with fail
    go_region_held3 (fun w'=>w'.cell? ⟨wr.heap.size,9,none⟩=some (.slice X9 m[k].A.length d9)/\w'.cell? ⟨wr.heap.size,10,none⟩=some (.slice X10 m[k].B.length d10)) (((refine⟨?_,?_⟩)<;>(first|(go_keep;done)|(go_simp;done)|(simp [*];done)))) (first|(go_simp;go_at_call 13;(with_reducible refine(PA2.out _ Qc.any2).mono ?_);rintro e w3 ⟨rfl,c3⟩;(have s3:=c3.size);(have v3:w2.heap.size+1<=w3.heap.size:=by(try simp at s3)<;>omega);(have yc3:=c3.ce w.heap.size);(have zc3:=c3.fe w.heap.size);(have xc3:w.heap.size<w3.heap.size:=by omega);(have yn3:=c3.ce wr.heap.size);(have zn3:=c3.fe wr.heap.size);(have xn3:wr.heap.size<w3.heap.size:=by omega);(have xe3:w2.heap.size<w3.heap.size:=by omega);(have C3:Hid (Qc (r::S') wr w3):=Qb (H0 Qc.any2 c3));(have D3:Hid (Qc (r::S) w w3):=Qb (H0 Qc.any2 c3));(have RB3:Hid (RB w3 r gs cap vi q.1.slots q.1.taken S2):=Qb (RB.kz (by first|exact RB4.out.kz C6|exact RB3.out.kz C6|exact RB2.out.kz C6) c3));clear c3 s3;simp only [])|(go_simp;go_at_call 13;(with_reducible refine(PB2.out _ Qc.any2).mono ?_);rintro e w4 ⟨rfl,c4⟩;(have s4:=c4.size);(have v4:w2.heap.size+1<=w4.heap.size:=by(try simp at s4)<;>omega);(have yc4:=c4.ce w.heap.size);(have zc4:=c4.fe w.heap.size);(have xc4:w.heap.size<w4.heap.size:=by omega);(have yn4:=c4.ce wr.heap.size);(have zn4:=c4.fe wr.heap.size);(have xn4:wr.heap.size<w4.heap.size:=by omega);(have xe4:w2.heap.size<w4.heap.size:=by omega);(have C4:Hid (Qc (r::S') wr w4):=Qb (H0 Qc.any2 c4));(have D4:Hid (Qc (r::S) w w4):=Qb (H0 Qc.any2 c4));(have RB4:Hid (RB w4 r gs cap vi q.1.slots q.1.taken S2):=Qb (RB.kz (by first|exact RB4.out.kz C6|exact RB3.out.kz C6|exact RB2.out.kz C6) c4));clear c4 s4;simp only [])|fail)
    all_goals
     go_wp2_with fail
     go_roundw
     case rel=>exact⟨k+1,q.1.slots,q.1.taken,S2,z+(1+mA+mB),by omega,by go_num,rfl,by omega,hzz.out,Qb (by rw [HZ.out,E1.out,HMA.out,HMB.out];omega),Qb (by rw [hq2.out];exact Prod.ext rfl (by have h5:=Uj input (m.take (k+1)) place ⟨l,t⟩;rw [hq2.out] at h5;exact h5 HC.out)),Qb (by first|exact RB4.out.kz C6|exact RB3.out.kz C6|exact RB2.out.kz C6),lo2,Qb Qc.any2,by(try simp)<;>omega,Qb (fun o=>by go_simp),Qb (fun o=>by go_simp)⟩
     case measure=>simp [intOf];omega
   ·have hd:decide (q.2.code=0)=false:=by simp [hc]
    rw [hd] at ON2
    have HC:=Qb hc
    clear hc hd
    go_wp2_with fail
    refine(ON2.out _ (HB.out.kz C6) C6).mono ?_
    rintro e w2 ⟨S2,rfl,rb2,hS2,c2⟩
    have s2:=c2.size
    have v2:wr.heap.size+1<=w2.heap.size:=by(try simp at s2)<;>omega
    have yc2:=c2.ce w.heap.size (hn:=fun hx=>by have:=lt1.out _ hx;(try simp at this)<;>omega)
    have zc2:=c2.fe w.heap.size (hn:=fun hx=>by have:=lt1.out _ hx;(try simp at this)<;>omega)
    have xc2:w.heap.size<w2.heap.size:=by omega
    have yn2:=c2.ce wr.heap.size (hn:=fun hx=>by have:=lt1.out _ hx;(try simp at this)<;>omega)
    have zn2:=c2.fe wr.heap.size (hn:=fun hx=>by have:=lt1.out _ hx;(try simp at this)<;>omega)
    have xn2:wr.heap.size<w2.heap.size:=by omega
    clear s2
    have lo2:Hid (∀y,y∈S2->y∈S∨w.heap.size+1<=y):=Qb (fun y hy=>by rcases hS2 y hy with h|h;(exact HL.out y h);(exact .inr (by(try simp at h)<;>omega)))
    have D2:Hid (Qc (r::S) w w2):=Qb (K6 (S:=r::S) (H9 HD.out) c2 (fun x hx=>by rcases C7.1 hx with rfl|h;(exact .inl (by simp));(exact(HL.out x h).imp (fun h=>by simp [h]) (fun h=>by omega))))
    have C2:Hid (Qc (r::S') wr w2):=Qb (K6 (S:=r::S') (j6 (S:=[]) C6 (by simp)) c2 (fun x hx=>.inl hx))
    have RB2:=Qb rb2
    have n9:w2.cell? ⟨wr.heap.size,9,none⟩=some (.slice X9 m[k].A.length d9):=(yn2 9).trans (by go_simp)
    have n10:w2.cell? ⟨wr.heap.size,10,none⟩=some (.slice X10 m[k].B.length d10):=(yn2 10).trans (by go_simp)
    clear rb2 hS2 c2
    go_wp2_with fail
    have hRq:R=q:=by rw [HR.out];have h5:=Qdb input m (k+1) place ⟨l,t⟩;rw [hq2.out] at h5;exact h5 HC.out
    refine bodyPost_ret (v:=.tuple #[.agg #[.int .i64 q.2.code,.int .i64 q.2.place,.int .i64 q.2.want,.int .i64 q.2.had],.bool false]) (by simp only [results,Tryz.results46];go_simp) rfl ?_
    rw [hRq]
    have hd2:decide (q.2.code=0)=false:=decide_eq_false HC.out
    rw [hd2]
    have hgs:=hgs0.out
    exact⟨S2,rfl,RB2.out.keep (T:=[w.heap.size]) C6 (by have:=lt0.out r (by simp);simp;omega) (fun y hy=>by rcases lo2.out y hy with h|h;(have:=lt0.out y (by simp [h]);simp;omega);(simp;omega)),fun y hy=>(lo2.out y hy).imp id (fun h=>by omega),(H9 D2.out)⟩
  ·obtain rfl:k=m.length:=by omega
   have hRq:R=(⟨l',t'⟩,QJ):=by rw [HR.out, <-HE.out,I8]
   go_wp2_with fail
   refine bodyPost_ret (v:=.tuple #[.agg #[.int .i64 0,.int .i64 0,.int .i64 0,.int .i64 0],.bool true]) (by simp only [results,Tryz.results46];go_simp) rfl ?_
   rw [hRq]
   have hgs:=hgs0.out
   exact⟨S',rfl,HB.out.keep (T:=[w.heap.size]) C6 (by have:=lt0.out r (by simp);simp;omega) (fun y hy=>by rcases HL.out y hy with h|h;(have:=lt0.out y (by simp [h]);simp;omega);(simp;omega)),fun y hy=>(HL.out y hy).imp id (fun h=>by omega),(H9 HD.out)⟩
end Go.Proofs.YtjeadhmkghnkkaaGreatDoor
