/- l8Block, l8Part whatever the action, and l8Do, of the reference. Conditions: none. Written by a program. -/
import Derived.Test.YtjigcplpkhpgnaaGreatDoorPartS
import Derived.Test.YtjigcplpkhpgnaaGreatDoorBlockS
import Derived.Test.YtjigcplpkhpgnaaGreatDoorListI
set_option maxRecDepth 100000
set_option maxHeartbeats 8000000
namespace Go.Proofs.YtjigcplpkhpgnaaGreatDoor
open Go.RowKit
/-- A datum that stands, whatever is done to the blocks S. -/
def Stays (w:World) (S:List Nat) (d:Dat) (u:Value):Prop:=∀W,Chg S w W->Rd W W.heap.size d u
theorem Stays.later {w w':World} {S S':List Nat} {d:Dat} {u:Value} (h:Stays w S d u) (hc:Chg S w w') (hS:∀y,y∈S'->y∈S∨w.heap.size<=y):Stays w' S' d u:=fun W hW=>h W (hc.trans hW hS)
theorem Stays.of {w:World} {S T:List Nat} {d:Dat} {u:Value} (h:Has w d u T) (hd:∀y,y∈T->y∉S):Stays w S d u:=fun _ hW=>(h.keep hW hd).rd
def DoC (m:List ActionT):Prop:=∀(ul:Value) (place:Int) (gs cap:Nat) (Ai:Option Addr) (ni ci:Nat) (input:List Int) (l:List SlotT) (t:Int) (S:List Nat) (w:World) (B:Nat),okL m->actionsW m<=1048576->SlotsOk l->SB w gs cap l S->Rd w B (actions m) ul->B<=w.heap.size->Stays w S (ints input) (.slice Ai ni ci)->(∀y,y∈S->B<=y)->0<=place->place+sizeL m<=1000->0<=t->t+costL m<=1000000->
 Calls Tryz.prog 24 #[.agg #[.slice (some ⟨gs,0,none⟩) 3 cap,.slice Ai ni ci,.int .i64 t,.int .i64 0,.int .i64 0,.int .i64 0,.int .i64 0],ul,.int .i64 place] w (RunE gs cap (.slice Ai ni ci) (runL input m place ⟨l,t⟩).1.slots (runL input m place ⟨l,t⟩).1.taken (runL input m place ⟨l,t⟩).2 S w)
theorem wrapOf_1 {p:PartT} {name:ByteArray} (hp:PartOk p) (h:(wrapOf p name).2.code=1):(wrapOf p name).1=p:=by
 cases hx:layerOf name with
 |none=>rw [wrapOf_none hx]
 |some x=>
  by_cases h2:3<=p.layers.length
  ·rw [wrapOf_full hx hp h2]
  by_cases h3:Offer (faceAt p p.layers.length) x.1
  ·rw [wrapOf_done hx hp h2 h3] at h;simp [repOf] at h
  ·rw [wrapOf_lacks hx hp h2 h3]
theorem callPartT_1 {p:PartT} {x:CallT} (hp:PartOk p) (h:(callPartT p x).2.code=1):(callPartT p x).1=p:=by
 rcases callPartT_cases p x hp with k|k|k
 ·exact k.1
 ·exact k.1
 ·rw [k.1] at h;exact absurd h (thr_code _ _ _)
theorem block_any (a:ActionT) (hA:DoC a.A) (hB:DoC a.B) (uA uB:Value) (place:Int) (gs cap:Nat) (Ai:Option Addr) (ni ci:Nat) (input:List Int) (l:List SlotT) (t:Int) (S:List Nat) (w:World) (B:Nat) (hok:a.ok) (hW:actionW a<=1048576) (hs:SlotsOk l) (h:SB w gs cap l S) (hop:a.op=8∨a.op=9∨a.op=10)
  (rA:Rd w B (actions a.A) uA) (rB:Rd w B (actions a.B) uB) (hBw:B<=w.heap.size) (rI:Stays w S (ints input) (.slice Ai ni ci)) (hS:∀y,y∈S->B<=y) (hp0:0<=place) (hp1:place+a.size<=1000) (ht0:0<=t) (ht1:t+a.cost<=1000000):
  Calls Tryz.prog 48 #[.agg #[.slice (some ⟨gs,0,none⟩) 3 cap,.slice Ai ni ci,.int .i64 t,.int .i64 0,.int .i64 0,.int .i64 0,.int .i64 0],.agg #[.int .i64 a.op,.int .i64 a.slot,.int .i64 a.other,.string a.word,.string a.call.method,.string a.call.key,.int .i64 a.call.value,.string a.call.text,.int .i64 a.face,uA,uB],.int .i64 place] w (RunE gs cap (.slice Ai ni ci) (a.run input place ⟨l,t⟩).1.slots (a.run input place ⟨l,t⟩).1.taken (a.run input place ⟨l,t⟩).2 S w):=by
 obtain⟨hact,okA,okB⟩:=a.ok_iff.1 hok
 have hWe:=actionW_eq a
 have hwA:actionsW a.A<=1048576:=by omega
 have hwB:actionsW a.B<=1048576:=by omega
 have hsz:=a.size_eq
 have hcost:=a.cost_eq
 have tk:=takeN_le input t
 have TK:∀W,Chg [] w W->Calls Tryz.prog 72 #[.agg #[.slice (some ⟨gs,0,none⟩) 3 cap,.slice Ai ni ci,.int .i64 t,.int .i64 0,.int .i64 0,.int .i64 0,.int .i64 0]] W (fun e w'=>e= .returned (.tuple #[.agg #[.slice (some ⟨gs,0,none⟩) 3 cap,.slice Ai ni ci,.int .i64 (t+1),.int .i64 0,.int .i64 0,.int .i64 0,.int .i64 0],.int .i64 (takeN input t)])/\Chg [] W w'):=fun W hc=>l8Take_any gs cap (.slice Ai ni ci) input t okEnd W W.heap.size (Nat.le_refl _) (rI W (hc.mono (by simp))) ht0 (by omega)
 have PS:∀W,Chg S w W->Calls Tryz.prog 43 #[uA] W (fun e w'=>e= .returned (.int .i64 (sizeL a.A:Int))/\Chg [] W w'):=fun W hc=>
  planSize_spec_any a.A uA B W (by omega) (rA.chg hc hBw hS) (Nat.le_trans hBw hc.size)
 rcases hop with h8|h9|h10
 ·rw [run_8 h8]
  by_cases hodd:takeN input t % 2=1
  ·rw [if_pos hodd]
   exact l8Block_ifA gs cap Ai ni ci l t S w a uA uB place h h8 _ tk.1 tk.2 hodd _ _ _ hp0 (by omega) TK (fun W hR hc=>hA uA (place+1) gs cap Ai ni ci input l (t+1) S W B okA hwA hs hR (rA.chg hc hBw hS) (Nat.le_trans hBw hc.size) (rI.later hc (fun y hy=>.inl hy)) hS (by omega) (by omega) (by omega) (by omega))
  ·rw [if_neg hodd]
   exact l8Block_ifB gs cap Ai ni ci l t S w a uA uB place h h8 _ tk.1 tk.2 hodd _ _ _ hp0 (by omega) TK (sizeL a.A:Int) (by omega) (by omega) PS (fun W hR hc=>hB uB (place+1+sizeL a.A) gs cap Ai ni ci input l (t+1) S W B okB hwB hs hR (rB.chg hc hBw hS) (Nat.le_trans hBw hc.size) (rI.later hc (fun y hy=>.inl hy)) hS (by omega) (by omega) (by omega) (by omega))
 ·rw [run_9 h9]
  have hn:((takeN input t).toNat:Int)=takeN input t:=Int.toNat_of_nonneg tk.1
  rw [<-hn] at TK
  exact l8Block_loop gs cap Ai ni ci l t S w a uA uB place h h9 (takeN input t).toNat (costL a.A) (by omega) (fun s=>runL input a.A (place+1) s) (fun s hs=>runL_okEnd _ _ _ _ hs) (fun s=>runL_taken _ _ _ _) SlotsOk hs (fun s hs=>runL_ok _ _ okA _ _ hs) hp0 (by omega) TK
   (fun W l' t' S' hR hP h1 h2 hS' hc=>hA uA (place+1) gs cap Ai ni ci input l' t' S' W B okA hwA hP hR (rA.chg hc hBw hS) (Nat.le_trans hBw hc.size) (rI.later hc hS') (fun y hy=>by
    rcases hS' y hy with hx|hx
    ·exact hS y hx
    ·omega) (by omega) (by omega) (by omega) (by omega))
 ·rw [run_10 h10]
  have LA:∀W,SB W gs cap l S->Chg S w W->Calls Tryz.prog 24 #[.agg #[.slice (some ⟨gs,0,none⟩) 3 cap,.slice Ai ni ci,.int .i64 t,.int .i64 0,.int .i64 0,.int .i64 0,.int .i64 0],uA,.int .i64 (place+1)] W (RunE gs cap (.slice Ai ni ci) (runL input a.A (place+1) ⟨l,t⟩).1.slots (runL input a.A (place+1) ⟨l,t⟩).1.taken (runL input a.A (place+1) ⟨l,t⟩).2 S W):=
   fun W hR hc=>hA uA (place+1) gs cap Ai ni ci input l t S W B okA hwA hs hR (rA.chg hc hBw hS) (Nat.le_trans hBw hc.size) (rI.later hc (fun y hy=>.inl hy)) hS (by omega) (by omega) (by omega) (by omega)
  have htk:=runL_taken input a.A (place+1) ⟨l,t⟩
  have hs1:=runL_ok input a.A okA (place+1) ⟨l,t⟩ hs
  simp only at htk
  by_cases hc1:(runL input a.A (place+1) ⟨l,t⟩).2.code=1
  ·rw [if_pos hc1]
   exact l8Block_try1 gs cap Ai ni ci l t S w a uA uB place h h10 _ _ _ hp0 (by omega) LA hc1 _ _ _ (sizeL a.A:Int) (by omega) (by omega) PS
    (fun W S1 hR hS1 hc=>hB uB (place+1+sizeL a.A) gs cap Ai ni ci input (runL input a.A (place+1) ⟨l,t⟩).1.slots (runL input a.A (place+1) ⟨l,t⟩).1.taken S1 W B okB hwB hs1 hR (rB.chg hc hBw hS) (Nat.le_trans hBw hc.size) (rI.later hc hS1) (fun y hy=>by
     rcases hS1 y hy with hx|hx
     ·exact hS y hx
     ·omega) (by omega) (by omega) (by omega) (by omega))
  ·rw [if_neg hc1]
   exact l8Block_try0 gs cap Ai ni ci l t S w a uA uB place h h10 _ _ _ hp0 (by omega) LA hc1
theorem part_any (a:ActionT) (uA uB:Value) (place:Int) (gs cap:Nat) (Ai:Option Addr) (ni ci:Nat) (l:List SlotT) (t:Int) (S:List Nat) (w:World) (hact:ActOk a) (hck:a.call.key.size<=1048576) (hct:a.call.text.size<=1048575) (hs:SlotsOk l) (h:SB w gs cap l S) (hop:a.op=3∨a.op=2∨a.op=6∨a.op=7):
  Calls Tryz.prog 49 #[.agg #[.slice (some ⟨gs,0,none⟩) 3 cap,.slice Ai ni ci,.int .i64 t,.int .i64 0,.int .i64 0,.int .i64 0,.int .i64 0],.agg #[.int .i64 a.op,.int .i64 a.slot,.int .i64 a.other,.string a.word,.string a.call.method,.string a.call.key,.int .i64 a.call.value,.string a.call.text,.int .i64 a.face,uA,uB],.int .i64 place] w (RunE gs cap (.slice Ai ni ci) (stepT a place ⟨l,t⟩).1.slots (stepT a place ⟨l,t⟩).1.taken (stepT a place ⟨l,t⟩).2 S w):=by
 obtain⟨n0,n2⟩:=actOk_slot hact
 obtain⟨i,hi0⟩:∃i,i=a.slot.toNat:=⟨_,rfl⟩
 have hsl:a.slot=(i:Int):=by omega
 have hi:i<l.length:=by rw [hs.1];omega
 have hat:slotAt l a.slot=l[i]:=by unfold slotAt;rw [<-hi0,List.getElem?_eq_getElem hi];rfl
 have hso:=hs.2 i hi
 have sm:=slot_small hso
 have h1:a.op≠1:=by omega
 have h5:a.op≠5:=by omega
 have h4:a.op≠4:=by omega
 by_cases hf:(slotAt l a.slot).full=false
 ·rw [stepT_e h1 h5 h4 hf]
  rw [hat] at hf
  rcases hop with ho|ho|ho|ho
  ·exact l8Part_unwrapE gs cap Ai ni ci l t S w a uA uB i place h hi hsl ho sm hf
  ·exact l8Part_wrapE gs cap Ai ni ci l t S w a uA uB i place h hi hsl ho sm hf
  ·by_cases hof:Offer (faceAt l[i].part l[i].part.layers.length) a.face
   ·exact l8Part_askE gs cap Ai ni ci l t S w a uA uB i place h hi hsl ho sm hf hof
   ·exact l8Part_askNoE gs cap Ai ni ci l t S w a uA uB i place h hi hsl ho sm hf hof
  ·exact l8Part_callE gs cap Ai ni ci l t S w a uA uB i place h hi hsl ho sm hf hct hck
 have hft:l[i].full=true:=by rw [<-hat];simpa using hf
 have hpo:PartOk l[i].part:=hso.1 hft
 by_cases hc:(withT a (slotAt l a.slot).part).2.code=1
 ·rw [stepT_f h1 h5 h4 hf hc]
  simp only [hat, <-hi0] at hc ⊢
  rcases hop with ho|ho|ho|ho
  ·rw [withT_3 ho] at hc;simp [repOf] at hc
  ·rw [withT_2 ho] at hc ⊢
   rw [wrapOf_1 hpo hc,set_same hi hft]
   exact l8Part_wrapNo gs cap Ai ni ci l t S w a uA uB i place h hi hsl ho sm hft hc
  ·rw [withT_6 ho] at hc ⊢
   by_cases hof:Offer (faceAt l[i].part l[i].part.layers.length) a.face
   ·rw [if_pos hof] at hc;simp [repOf] at hc
   ·rw [if_neg hof]
    have:=set_same hi hft
    simp only [this]
    exact l8Part_askNo gs cap Ai ni ci l t S w a uA uB i place h hi hsl ho sm hft hof
  ·rw [withT_7 ho] at hc ⊢
   rw [callPartT_1 hpo hc,set_same hi hft]
   exact l8Part_callNo gs cap Ai ni ci l t S w a uA uB i place h hi hsl ho sm hft hct hck hc
 ·rw [stepT_g h1 h5 h4 hf hc]
  simp only [hat, <-hi0] at hc ⊢
  rcases hop with ho|ho|ho|ho
  ·rw [withT_3 ho]
   exact l8Part_unwrap gs cap Ai ni ci l t S w a uA uB i place h hi hsl ho sm hft
  ·rw [withT_2 ho] at hc ⊢
   exact l8Part_wrap gs cap Ai ni ci l t S w a uA uB i place h hi hsl ho sm hft hc
  ·rw [withT_6 ho]
   have:=set_same hi hft
   simp only [this]
   by_cases hof:Offer (faceAt l[i].part l[i].part.layers.length) a.face
   ·exact l8Part_ask gs cap Ai ni ci l t S w a uA uB i place h hi hsl ho sm hft hof
   ·rw [withT_6 ho,if_neg hof] at hc;simp [repOf] at hc
  ·rw [withT_7 ho] at hc ⊢
   exact l8Part_call gs cap Ai ni ci l t S w a uA uB i place h hi hsl ho sm hft hct hck hc
theorem do_any:∀m,DoC m:=by
 refine ActionT.ind fun m ih=>?_
 intro ul place gs cap Ai ni ci input l t S w B hok hW hs h rl hB hin hS hp0 hp1 ht0 ht1
 obtain⟨A,cp,rfl,h0,h1,hrow⟩:=actions_row rl
 unfold maxLen at h1
 have hml:m.length<=1048576:=by unfold actionsW at hW;omega
 have lt0:=hid h.lt
 have hgs0:=hid h.gs.1
 have hcap1:=h.gs.2.1
 have hcap2:=h.gs.2.2
 unfold maxLen at hcap2
 have hBw:=hid hB
 have hWk:∀(k:Nat) (hk:k<m.length),actionW m[k] <=1048575:=fun k hk=>by
  have h2:=actionsW_mem (List.getElem_mem hk)
  have h3:0<m.length:=by omega
  unfold actionsW at hW
  omega
 have BLK:=hid (fun(k:Nat) (hk:k<m.length) (hop:m[k].op=8∨m[k].op=9∨m[k].op=10) (uA uB:Value) (pl:Int) (l':List SlotT) (t':Int) (S':List Nat) (W:World) (hs':SlotsOk l') (hR:SB W gs cap l' S') (rA:Rd W B (actions m[k].A) uA) (rB:Rd W B (actions m[k].B) uB) (hB':B<=W.heap.size) (rI:Stays W S' (ints input) (.slice Ai ni ci)) (hS':∀y,y∈S'->B<=y) (hq0:0<=pl) (hq1:pl+m[k].size<=1000) (hu0:0<=t') (hu1:t'+m[k].cost<=1000000)=>
  block_any m[k] (ih m[k] (List.getElem_mem hk)).1 (ih m[k] (List.getElem_mem hk)).2 uA uB pl gs cap Ai ni ci input l' t' S' W B ((okL_iff m).1 hok _ (List.getElem_mem hk)) (Nat.le_trans (hWk k hk) (by omega)) hs' hR hop rA rB hB' rI hS' hq0 hq1 hu0 hu1)
 have PRT:=hid (fun(k:Nat) (hk:k<m.length) (hop:m[k].op=3∨m[k].op=2∨m[k].op=6∨m[k].op=7) (uA uB:Value) (pl:Int) (l':List SlotT) (t':Int) (S':List Nat) (W:World) (hs':SlotsOk l') (hR:SB W gs cap l' S')=>
  part_any m[k] uA uB pl gs cap Ai ni ci l' t' S' W (m[k].ok_iff.1 ((okL_iff m).1 hok _ (List.getElem_mem hk))).1 (by have h1:=hWk k hk;have h2:=actionW_eq m[k];unfold callW at h2;omega) (by have h1:=hWk k hk;have h2:=actionW_eq m[k];unfold callW at h2;omega) hs' hR hop)
 have ACT:=hid (fun(k:Nat) (hk:k<m.length)=>(m[k].ok_iff.1 ((okL_iff m).1 hok _ (List.getElem_mem hk))).1)
 have SO:=hid (fun(k:Nat) (place:Int) (s:RunT) (h:SlotsOk s.slots)=>runL_ok input (m.take k) ((okL_iff _).2 (fun a ha=>(okL_iff m).1 hok a (List.mem_of_mem_take ha))) place s h)
 have RI:=hid hin
 have HS:=hid hS
 have S0:=hid hs
 have H:=hid h
 have T01:=hid (And.intro ht0 ht1)
 have hp2:place<=1000:=by omega
 have PP:=hid hp1
 obtain⟨R,hR⟩:∃R,R=runL input m place ⟨l,t⟩:=⟨_,rfl⟩
 rw [<-hR]
 have HR:=hid hR
 clear ih hok hW hWk hs h rl hin hS hp1 ht0 ht1 hR
 go_enter Tryz.func24,Tryz.ntmps24
 go_wp2_with fail
 go_loopw [2,13] (fun p i wr=>∃(k:Nat) (l':List SlotT) (t':Int) (en':EndT) (S':List Nat) (z:Int),k<=m.length/\i= .int .i64 k/\p= .int .i64 z/\0<=z/\z<=1000/\Hid (z=place+sizeL (m.take k))/\Hid ((en'=okEnd/\runL input (m.take k) place ⟨l,t⟩=(⟨l',t'⟩,okEnd))∨(¬en'.code=0/\R=(⟨l',t'⟩,en')))/\Hid (SB wr gs cap l' S')/\Hid (∀y,y∈S'->y∈S∨w.heap.size+2<=y)/\Hid (Chg S w wr)/\w.heap.size+2<=wr.heap.size/\Hid (Box7 wr (w.heap.size) (.slice (some ⟨gs,0,none⟩) 3 cap) (.slice Ai ni ci) (.int .i64 t') (.int .i64 en'.code) (.int .i64 en'.place) (.int .i64 en'.want) (.int .i64 en'.had))/\Hid (Box7 wr (w.heap.size+1) (.slice none 0 0) (.slice none 0 0) (.int .i64 0) (.int .i64 0) (.int .i64 0) (.int .i64 0) (.int .i64 0))) (fun _ i _=>m.length-(intOf i).toNat)
 case atStart=>exact⟨0,l,t,okEnd,S,place,Nat.zero_le _,rfl,rfl,hp0,hp2,hid (by simp [sizeL]),hid (.inl ⟨rfl,by rw [List.take_zero,runL]⟩),hid (H.out.keep0 Chg.now),hid (fun y hy=>.inl hy),hid (Chg.mono (S:=[]) Chg.now (by simp)),by simp,hid ⟨by(try unfold okEnd);go_simp,by(try unfold okEnd);go_simp,by(try unfold okEnd);go_simp,by(try unfold okEnd);go_simp,by(try unfold okEnd);go_simp,by(try unfold okEnd);go_simp,by(try unfold okEnd);go_simp,fun o ho=>by(try unfold okEnd);go_simp⟩,hid ⟨by go_simp,by go_simp,by go_simp,by go_simp,by go_simp,by go_simp,by go_simp,fun o ho=>by go_simp⟩⟩
 case round=>
  obtain⟨k,l',t',en',S',z,hk,rfl,rfl,hz0,hz1,HZ,HE,HB,HL,HD,hsz,HX,HO⟩:=hrel
  obtain⟨b0,b1,b2,b3,b4,b5,b6,bf⟩:=HX.out
  have bf0:=bf 0 (by omega);have bf1:=bf 1 (by omega);have bf2:=bf 2 (by omega);have bf3:=bf 3 (by omega);have bf4:=bf 4 (by omega);have bf5:=bf 5 (by omega);have bf6:=bf 6 (by omega)
  obtain⟨d0,d1,d2,d3,d4,d5,d6,df⟩:=HO.out
  have df0:=df 0 (by omega);have df1:=df 1 (by omega);have df2:=df 2 (by omega);have df3:=df 3 (by omega);have df4:=df 4 (by omega);have df5:=df 5 (by omega);have df6:=df 6 (by omega)
  clear HX HO
  have u0:w.heap.size<wr.heap.size:=by omega
  have u1:w.heap.size+1<wr.heap.size:=by omega
  have uu:wr.heap.size<wr.heap.size+1:=Nat.lt_succ_self _
  have HS':=hid (show ∀y,y∈S'->B<=y from fun y hy=>by
   rcases HL.out y hy with hx|hx
   ·exact HS.out y hx
   ·have:=hBw.out;omega)
  have lt1:Hid (∀y,y∈S'->y<wr.heap.size/\(y<w.heap.size∨w.heap.size+2<=y)):=hid (fun y hy=>⟨HB.out.lt y hy,by
   rcases HL.out y hy with h|h
   ·have:=lt0.out y h;omega
   ·omega⟩)
  have hgs1:=hid HB.out.gs.1
  by_cases hlt:k<m.length
  ·have hlt2:(k:Int)<(m.length:Int):=by omega
   obtain⟨b,off,u9,u10,rfl,hb,q0,q1,q2,q3,q4,q5,q6,q7,q8,q9,q10,r9,r10⟩:=actions_cells (hrow.chg HD.out hBw.out HS.out) k hlt
   have hbw:b<wr.heap.size:=by have:=hBw.out;omega
   obtain⟨X9,d9,rfl,_,_,_⟩:=actions_row r9
   obtain⟨X10,d10,rfl,_,_,_⟩:=actions_row r10
   rcases HE.out with ⟨he,hR1⟩|⟨he,hR1⟩
   ·subst he
    simp only [okEnd] at b3 b4 b5 b6
    have e1:=sizeL_take m k hlt
    have e2:=sizeL_le m (k+1)
    have e3:=m[k].size_eq
    have c1:=costL_take m k hlt
    have c2:=costL_take_le m (k+1)
    have tk1:=runL_taken input (m.take k) place ⟨l,t⟩
    rw [hR1] at tk1
    simp only at tk1
    have hzb:z+m[k].size<=1000:=by have:=HZ.out;have:=PP.out;omega
    have hms:1+(sizeL m[k].A:Int)+(sizeL m[k].B:Int)<=1000:=by omega
    have SOK:=hid (show SlotsOk l' from by have:=SO.out k place ⟨l,t⟩ S0.out;rw [hR1] at this;exact this)
    have TB:=hid (show 0<=t'/\t'+m[k].cost<=1000000/\z+m[k].size<=1000 from⟨by have:=T01.out.1;omega,by have:=T01.out.2;omega,hzb⟩)
    have HS2:=hid (show ∀y,y∈w.heap.size::S'->B<=y from fun y hy=>by
     rcases List.mem_cons.1 hy with rfl|hy
     ·exact hBw.out
     ·exact HS'.out y hy)
    have PA2:=hid (fun W (hc:Chg (w.heap.size::S') wr W)=>planSize_spec_any m[k].A (.slice X9 m[k].A.length d9) B W (by omega) (r9.chg hc (by have:=hBw.out;omega) HS2.out) (by have:=hBw.out;have:=hc.size;omega))
    have PB2:=hid (fun W (hc:Chg (w.heap.size::S') wr W)=>planSize_spec_any m[k].B (.slice X10 m[k].B.length d10) B W (by omega) (r10.chg hc (by have:=hBw.out;omega) HS2.out) (by have:=hBw.out;have:=hc.size;omega))
    have hmore:=hid (runL_more1 input m k hlt place ⟨l,t⟩ (by rw [hR1];rfl))
    have hq2:Hid (runL input (m.take (k+1)) place ⟨l,t⟩=m[k].run input z ⟨l',t'⟩):=hid (by rw [hmore.out,hR1,HZ.out])
    have HACT:=hid (ACT.out k hlt)
    have E1:=hid (show sizeL (m.take (k+1))=sizeL (m.take k)+(1+sizeL m[k].A+sizeL m[k].B) from by rw [e1,e3])
    have mA0:(0:Int)<=(sizeL m[k].A:Int):=by omega
    have mB0:(0:Int)<=(sizeL m[k].B:Int):=by omega
    obtain⟨mA,hmA⟩:∃mA:Int,mA=(sizeL m[k].A:Int):=⟨_,rfl⟩
    obtain⟨mB,hmB⟩:∃mB:Int,mB=(sizeL m[k].B:Int):=⟨_,rfl⟩
    rw [<-hmA] at PA2 mA0 hms
    rw [<-hmB] at PB2 mB0 hms
    have HMA:=hid hmA
    have HMB:=hid hmB
    have wz1:IntKind.i64.wrap (z+1)=z+1:=wr_id (by omega) (by omega)
    have wz2:IntKind.i64.wrap (z+1+mA)=z+1+mA:=wr_id (by omega) (by omega)
    have wz3:IntKind.i64.wrap (z+1+mA+mB)=z+1+mA+mB:=wr_id (by omega) (by omega)
    have hzz:Hid (z+1+mA+mB<=1000):=hid (by have:=HMA.out;have:=HMB.out;omega)
    have R9:=hid r9
    have R10:=hid r10
    have HR1:=hid hR1
    clear e1 e2 e3 c1 c2 tk1 hzb hmore hmA hmB r9 r10 hR1 HE SO ACT
    have hop:=actOk_op HACT.out
    have hsn:=actOk_slot HACT.out
    obtain⟨i,hi0⟩:∃i,i=m[k].slot.toNat:=⟨_,rfl⟩
    have hsl:m[k].slot=(i:Int):=by have:=hsn.1;omega
    have i3:i<3:=by have:=hsn.2;omega
    have j0:(0:Int)<=(i:Int):=by omega
    have j1:(i:Int)<3:=by omega
    have hil:i<l'.length:=by rw [HB.out.hl];exact i3
    obtain⟨Y3,y3,Y5,y5,s0,s1,s2,s3,s4,s5,s6,r4,r6,hfr,hgl⟩:=HB.out.hs.slotAt HB.out.hl i3 hil
    have z0:=hfr 0 (by omega);have z1:=hfr 1 (by omega);have z2:=hfr 2 (by omega);have z3:=hfr 3 (by omega);have z4:=hfr 4 (by omega);have z5:=hfr 5 (by omega);have z6:=hfr 6 (by omega)
    rw [Nat.add_zero] at z0
    have g0:gs<w.heap.size:=lt0.out _ hgs0.out
    have g01:gs<w.heap.size+1:=by omega
    have g1:gs<wr.heap.size+1:=by omega
    have g2:gs<wr.heap.size+1+1:=by omega
    clear r4 r6 hfr
    rcases(show m[k].op=1∨m[k].op=4∨m[k].op=5∨(m[k].op=8∨m[k].op=9∨m[k].op=10)∨(m[k].op=3∨m[k].op=2∨m[k].op=6∨m[k].op=7) by omega) with ho|ho|ho|hob|hob
    case' inl=>
     rw [hsl] at q1
     have o1:(m[k].op==1)=true:=by rw [ho];rfl
     have o4:(m[k].op==4)=false:=by rw [ho];rfl
     have o5:(m[k].op==5)=false:=by rw [ho];rfl
     have o8:(m[k].op==8)=false:=by rw [ho];rfl
     have o9:(m[k].op==9)=false:=by rw [ho];rfl
     have o10:(m[k].op==10)=false:=by rw [ho];rfl
     have hkk:=((actOk_1 ho).1 HACT.out).2.1
     obtain⟨f,hf⟩:=Option.ne_none_iff_exists'.1 hkk
     have NP:=hid (fun W=>newPart_spec_some_any m[k].word hf W)
     obtain⟨l2,hl2⟩:∃l2,l2=l'.set i ⟨true,newPart m[k].word⟩:=⟨_,rfl⟩
     obtain⟨t2,ht2⟩:∃t2,t2=t':=⟨_,rfl⟩
     obtain⟨en2,hen2⟩:∃en2,en2=okEnd:=⟨_,rfl⟩
     have RUN2:Hid ((en2=okEnd/\runL input (m.take (k+1)) place ⟨l,t⟩=(⟨l2,t2⟩,okEnd))∨(¬en2.code=0/\R=(⟨l2,t2⟩,en2))):=hid (.inl ⟨hen2,by rw [hq2.out,run_s (by omega) (by omega) (by omega),stepT_1 ho, <-hi0,hl2,ht2]⟩)
     clear hkk hf ho hop hsn hsl hi0
     go_wp2_with fail
     refine(NP.out _).mono ?_
     rintro e w2 ⟨rfl,c2⟩
     have s2:=c2.size
     have v2:wr.heap.size+1<=w2.heap.size:=by(try simp at s2)<;>omega
     obtain⟨yr2,zr2,xr2,yo2,zo2,xo2, -⟩:=c2.low 2 (w.heap.size) (fun x hx=>by simp at hx)
     have yn2:=c2.ce wr.heap.size
     have zn2:=c2.fe wr.heap.size
     have xn2:wr.heap.size<w2.heap.size:=by omega
     have ys2:=c2.ce gs
     have zs2:=c2.fe gs
     have xs2:gs<w2.heap.size:=by omega
     clear s2
     have SBw2:=hid ((HB.out.keep0 Chg.now).keep0 c2)
     have C2:Hid (Chg (w.heap.size::S') wr w2):=hid (Chg.trans0 (Chg.mono (S:=[]) Chg.now (by simp)) c2)
     clear c2
     go_wp2_with fail
     refine wp_name ?_
     intro w5 hw5
     obtain⟨S2,sb5,hS2⟩:∃S2,SB w5 gs cap l2 S2/\(∀y,y∈S2->y∈S'∨wr.heap.size<=y):=by
      rw [hw5]
      rw [hl2]
      have G:=fun W (hW:Chg [] w2 W)=>SBw2.out.putG (S1:=[]) i3 hW (by simp) (HasL.cons_v (HasL.cons_v (HasL.cons_v (HasL.cons_v (HasL.cons_nil (HasL.cons_v (HasL.cons_nil (HasL.nil W))))))):HasL W (slotF ⟨true,newPart m[k].word⟩) [.bool true,.string m[k].word,.bool false,.bool false,.slice none 0 0,.int .i64 0,.slice none 0 0] []) (by simp)
      obtain⟨S2,h1,h2⟩:=G w2 (Chg.refl _ _)
      exact⟨S2,h1.keep0 Chg.now,fun y hy=>(h2 y hy).imp id (by simp)⟩
     have C5:Hid (Chg (w.heap.size::S') wr w5):=hid (by rw [hw5];exact(Chg.to C2.out))
     have D5:Hid (Chg S w w5):=hid (Chg.trans HD.out C5.out (fun x hx=>by rcases List.mem_cons.1 hx with rfl|hx;exact .inr (Nat.le_refl _);exact(HL.out x hx).imp id (fun h=>by omega)))
     have s5:=C5.out.size
     have n9:w5.cell? ⟨wr.heap.size,9,none⟩=some (.slice X9 m[k].A.length d9):=by rw [hw5];go_simp
     have n10:w5.cell? ⟨wr.heap.size,10,none⟩=some (.slice X10 m[k].B.length d10):=by rw [hw5];go_simp
     have xn5:wr.heap.size<w5.heap.size:=lt_of_cell n9
     have xr5:w.heap.size<w5.heap.size:=by omega
     have xo5:w.heap.size+1<w5.heap.size:=by omega
     have BX5:Box7 w5 (w.heap.size) (.slice (some ⟨gs,0,none⟩) 3 cap) (.slice Ai ni ci) (.int .i64 t2) (.int .i64 en2.code) (.int .i64 en2.place) (.int .i64 en2.want) (.int .i64 en2.had):=by rw [hw5,ht2,hen2];unfold okEnd;exact⟨by go_simp,by go_simp,by go_simp,by go_simp,by go_simp,by go_simp,by go_simp,fun o ho=>by first|(go_simp;done)|(simp only [World.frozen?_setCell];exact(zr2 o).trans (bf o ho))⟩
     have BO5:Box7 w5 (w.heap.size+1) (.slice none 0 0) (.slice none 0 0) (.int .i64 0) (.int .i64 0) (.int .i64 0) (.int .i64 0) (.int .i64 0):=by rw [hw5];exact⟨by go_simp,by go_simp,by go_simp,by go_simp,by go_simp,by go_simp,by go_simp,fun o ho=>by first|(go_simp;done)|(simp only [World.frozen?_setCell];exact(zo2 o).trans (df o ho))⟩
     clear hw5
     obtain⟨p0,p1,p2,p3,p4,p5,p6,pf⟩:=BX5
     have pf0:=pf 0 (by omega);have pf1:=pf 1 (by omega);have pf2:=pf 2 (by omega);have pf3:=pf 3 (by omega);have pf4:=pf 4 (by omega);have pf5:=pf 5 (by omega);have pf6:=pf 6 (by omega)
     obtain⟨r0,r1,r2,r3,r4,r5,r6,rf⟩:=BO5
     have rf0:=rf 0 (by omega);have rf1:=rf 1 (by omega);have rf2:=rf 2 (by omega);have rf3:=rf 3 (by omega);have rf4:=rf 4 (by omega);have rf5:=rf 5 (by omega);have rf6:=rf 6 (by omega)
     have SB5:=hid sb5
     have lo2:Hid (∀y,y∈S2->y∈S∨w.heap.size+2<=y):=hid (fun y hy=>by rcases hS2 y hy with h|h;exact HL.out y h;exact .inr (by omega))
     have hgs2:=hgs1
     clear sb5 hS2
    case' inr.inl=>
     rw [hsl] at q1
     have o1:(m[k].op==1)=false:=by rw [ho];rfl
     have o4:(m[k].op==4)=true:=by rw [ho];rfl
     have o5:(m[k].op==5)=false:=by rw [ho];rfl
     have o8:(m[k].op==8)=false:=by rw [ho];rfl
     have o9:(m[k].op==9)=false:=by rw [ho];rfl
     have o10:(m[k].op==10)=false:=by rw [ho];rfl
     obtain⟨_,⟨mo0,mo2⟩,_⟩:=(actOk_4 ho).1 HACT.out
     obtain⟨j,hj0⟩:∃j,j=m[k].other.toNat:=⟨_,rfl⟩
     have hjo:m[k].other=(j:Int):=by omega
     have j3:j<3:=by omega
     have k0:(0:Int)<=(j:Int):=by omega
     have k1:(j:Int)<3:=by omega
     have hjl:j<l'.length:=by rw [HB.out.hl];exact j3
     have hat2:slotAt l' m[k].other=l'[j]:=by unfold slotAt;rw [<-hj0,List.getElem?_eq_getElem hjl];rfl
     rw [hjo] at q2
     obtain⟨l2,hl2⟩:∃l2,l2=l'.set i l'[j]:=⟨_,rfl⟩
     obtain⟨t2,ht2⟩:∃t2,t2=t':=⟨_,rfl⟩
     obtain⟨en2,hen2⟩:∃en2,en2=okEnd:=⟨_,rfl⟩
     have RUN2:Hid ((en2=okEnd/\runL input (m.take (k+1)) place ⟨l,t⟩=(⟨l2,t2⟩,okEnd))∨(¬en2.code=0/\R=(⟨l2,t2⟩,en2))):=hid (.inl ⟨hen2,by rw [hq2.out,run_s (by omega) (by omega) (by omega),stepT_4 ho, <-hi0,hat2,hl2,ht2]⟩)
     obtain⟨sm2,sm1,sm3⟩:=slot_small (SOK.out.2 j hjl)
     obtain⟨E3,e3,E5,e5,y0,y1,y2,y3',y4,y5',y6,v4,v6,_,_⟩:=HB.out.hs.slotAt HB.out.hl j3 hjl
     obtain⟨sl,hsl0⟩:∃sl,sl=l'[j]:=⟨_,rfl⟩
     rw [<-hsl0] at y0 y1 y2 y3' y4 y5' y6 v4 v6 sm1 sm2 sm3 hl2
     have CP:=hid (fun W (hW:Chg [] wr W)=>l4Copy_any sl.part _ _ wr.heap.size W sm1 sm2 (v4.chg0 hW (Nat.le_refl _)) (v6.chg0 hW (Nat.le_refl _)) hW.size)
     clear ho hop hsn hsl hi0 hat2 hjo mo0 mo2 hj0 sm1 sm2 sm3 v4 v6 hsl0
     go_wp2_with fail
     refine wp_region_till (S:=(fun W=>W.cell? ⟨w.heap.size,0,none⟩=some (.slice (some ⟨gs,0,none⟩) 3 cap)/\W.cell? ⟨wr.heap.size,1,none⟩=some (.int .i64 (i:Int))/\W.cell? ⟨wr.heap.size,2,none⟩=some (.int .i64 (j:Int))/\W.cell? ⟨gs,j * 7,none⟩=some (.bool sl.full)/\W.cell? ⟨gs,j * 7+1,none⟩=some (.string sl.part.core.kind)/\W.cell? ⟨gs,j * 7+2,none⟩=some (.bool sl.part.core.on)/\W.cell? ⟨gs,j * 7+3,none⟩=some (.bool sl.part.core.broken)/\W.cell? ⟨gs,j * 7+4,none⟩=some (.slice E3 sl.part.core.cells.length e3)/\W.cell? ⟨gs,j * 7+5,none⟩=some (.int .i64 sl.part.core.count)/\W.cell? ⟨gs,j * 7+6,none⟩=some (.slice E5 sl.part.layers.length e5))) (by kernel_rfl) ?_
     refine wpTill.with_ ?_ (fun hS0=>?_)
     ·(refine⟨?_,?_,?_,?_,?_,?_,?_,?_,?_,?_⟩)<;>go_simp
     refine wpTill.tk 0 1 hS0 (h:=?_)
     refine wpTill.tk 1 20 hS0 (h:=?_)
     refine wpTill.tk 2 3 hS0 (h:=?_)
     refine wpTill.tk 3 20 hS0 (h:=?_)
     refine wpTill.tk 4 5 hS0 (h:=?_)
     refine wpTill.tk 5 8 hS0 (h:=?_)
     refine wpTill.tk 6 7 hS0 (h:=?_)
     refine wpTill.tk 7 8 hS0 (h:=?_)
     refine wpTill.tk 8 9 hS0 (h:=?_)
     refine wpTill.tk 9 10 hS0 (h:=?_)
     refine wpTill.tk 10 19 hS0 (h:=?_)
     refine wpTill.tk 11 12 hS0 (h:=?_)
     refine wpTill.tk 12 15 hS0 (h:=?_)
     refine wpTill.tk 13 14 hS0 (h:=?_)
     refine wpTill.tk 14 15 hS0 (h:=?_)
     refine wpTill.tk 15 16 hS0 (h:=?_)
     refine wpTill.tk 16 17 hS0 (h:=?_)
     refine wpTill.tk 17 18 hS0 (h:=?_)
     refine wpTill.on 18 (h:=fun K hK=>?_)
     go_simp
     go_at_call 46
     refine(CP.out _ Chg.now).mono ?_
     rintro e w2 ⟨P3,f3,P5,f5,rfl,n1⟩
     obtain⟨T3,T5,own1,lo30,lo50,c2⟩:=n1.own
     have s2:=c2.size
     have v2:wr.heap.size+1<=w2.heap.size:=by(try simp at s2)<;>omega
     obtain⟨yr2,zr2,xr2,yo2,zo2,xo2, -⟩:=c2.low 2 (w.heap.size) (fun x hx=>by simp at hx)
     have yn2:=c2.ce wr.heap.size
     have zn2:=c2.fe wr.heap.size
     have xn2:wr.heap.size<w2.heap.size:=by omega
     have ys2:=c2.ce gs
     have zs2:=c2.fe gs
     have xs2:gs<w2.heap.size:=by omega
     have m0:=(c2.cell (p:=⟨w.heap.size,0,none⟩) (by first|omega|(simp;done)|(simp;omega)) (by simp)).trans hS0.1
     have m1:=(c2.cell (p:=⟨wr.heap.size,1,none⟩) (by first|omega|(simp;done)|(simp;omega)) (by simp)).trans hS0.2.1
     have m2:=(c2.cell (p:=⟨wr.heap.size,2,none⟩) (by first|omega|(simp;done)|(simp;omega)) (by simp)).trans hS0.2.2.1
     have m3:=(c2.cell (p:=⟨gs,j * 7,none⟩) (by first|omega|(simp;done)|(simp;omega)) (by simp)).trans hS0.2.2.2.1
     have m4:=(c2.cell (p:=⟨gs,j * 7+1,none⟩) (by first|omega|(simp;done)|(simp;omega)) (by simp)).trans hS0.2.2.2.2.1
     have m5:=(c2.cell (p:=⟨gs,j * 7+2,none⟩) (by first|omega|(simp;done)|(simp;omega)) (by simp)).trans hS0.2.2.2.2.2.1
     have m6:=(c2.cell (p:=⟨gs,j * 7+3,none⟩) (by first|omega|(simp;done)|(simp;omega)) (by simp)).trans hS0.2.2.2.2.2.2.1
     have m7:=(c2.cell (p:=⟨gs,j * 7+4,none⟩) (by first|omega|(simp;done)|(simp;omega)) (by simp)).trans hS0.2.2.2.2.2.2.2.1
     have m8:=(c2.cell (p:=⟨gs,j * 7+5,none⟩) (by first|omega|(simp;done)|(simp;omega)) (by simp)).trans hS0.2.2.2.2.2.2.2.2.1
     have m9:=(c2.cell (p:=⟨gs,j * 7+6,none⟩) (by first|omega|(simp;done)|(simp;omega)) (by simp)).trans hS0.2.2.2.2.2.2.2.2.2
     have lo1:Hid (∀y,y∈T3++T5->wr.heap.size+1<=y/\y<w2.heap.size):=hid (fun y hy=>by rcases List.mem_append.1 hy with h|h;(exact⟨by have:=lo30 y h;(try simp at this)<;>omega,own1.h3.lt y h⟩);(exact⟨by have:=lo50 y h;(try simp at this)<;>omega,own1.h5.lt y h⟩))
     have SBw2:=hid ((HB.out.keep0 Chg.now).keep0 c2)
     have C2:Hid (Chg (w.heap.size::S') wr w2):=hid (Chg.trans0 (Chg.mono (S:=[]) Chg.now (by simp)) c2)
     have OW1:=hid own1
     clear own1 lo30 lo50 n1 c2 s2
     simp only []
     refine tillK hK (⟨m0,m1,m2,m3,m4,m5,m6,m7,m8,m9⟩) (fun hS1=>?_)
     clear hK K
     refine wpTill.tk 19 20 hS1 (h:=?_)
     refine wpTill.tk 20 21 hS1 (h:=?_)
     refine wpTill.on 21 (h:=fun K hK=>?_)
     go_simp
     refine tillE hK ?_
     clear hK K
     refine wpTill.done (by kernel_rfl) ?_ _
     go_wp2_with fail
     refine wp_name ?_
     intro w5 hw5
     obtain⟨S2,sb5,hS2⟩:∃S2,SB w5 gs cap l2 S2/\(∀y,y∈S2->y∈S'∨wr.heap.size<=y):=by
      rw [hw5]
      rw [hl2]
      have hx:HasL w2 (slotF sl) [.bool sl.full,.string sl.part.core.kind,.bool sl.part.core.on,.bool sl.part.core.broken,.slice P3 sl.part.core.cells.length f3,.int .i64 sl.part.core.count,.slice P5 sl.part.layers.length f5] (T3++T5):=by
       unfold slotF;rw [partF_eq]
       exact HasL.cons_v (HasL.cons_v (HasL.cons_v (HasL.cons_v (HasL.append (HasL.one OW1.out.h3) (HasL.cons_v (x:=.int .i64 sl.part.core.count) (HasL.one OW1.out.h5)) OW1.out.ds))))
      have G:=fun W (hW:Chg [] w2 W)=>SBw2.out.putG i3 hW (by simp) (hx.keep0 hW) (fun y hy hy2=>by have:=lo1.out y hy;have:=lt1.out y hy2;omega)
      obtain⟨S2,h1,h2⟩:=G w2 (Chg.refl _ _)
      exact⟨S2,h1.keep0 Chg.now,fun y hy=>(h2 y hy).imp id (fun h=>by have:=lo1.out y h;omega)⟩
     have C5:Hid (Chg (w.heap.size::S') wr w5):=hid (by rw [hw5];exact(Chg.to C2.out))
     have D5:Hid (Chg S w w5):=hid (Chg.trans HD.out C5.out (fun x hx=>by rcases List.mem_cons.1 hx with rfl|hx;exact .inr (Nat.le_refl _);exact(HL.out x hx).imp id (fun h=>by omega)))
     have s5:=C5.out.size
     have n9:w5.cell? ⟨wr.heap.size,9,none⟩=some (.slice X9 m[k].A.length d9):=by rw [hw5];go_simp
     have n10:w5.cell? ⟨wr.heap.size,10,none⟩=some (.slice X10 m[k].B.length d10):=by rw [hw5];go_simp
     have xn5:wr.heap.size<w5.heap.size:=lt_of_cell n9
     have xr5:w.heap.size<w5.heap.size:=by omega
     have xo5:w.heap.size+1<w5.heap.size:=by omega
     have BX5:Box7 w5 (w.heap.size) (.slice (some ⟨gs,0,none⟩) 3 cap) (.slice Ai ni ci) (.int .i64 t2) (.int .i64 en2.code) (.int .i64 en2.place) (.int .i64 en2.want) (.int .i64 en2.had):=by rw [hw5,ht2,hen2];unfold okEnd;exact⟨by go_simp,by go_simp,by go_simp,by go_simp,by go_simp,by go_simp,by go_simp,fun o ho=>by first|(go_simp;done)|(simp only [World.frozen?_setCell];exact(zr2 o).trans (bf o ho))⟩
     have BO5:Box7 w5 (w.heap.size+1) (.slice none 0 0) (.slice none 0 0) (.int .i64 0) (.int .i64 0) (.int .i64 0) (.int .i64 0) (.int .i64 0):=by rw [hw5];exact⟨by go_simp,by go_simp,by go_simp,by go_simp,by go_simp,by go_simp,by go_simp,fun o ho=>by first|(go_simp;done)|(simp only [World.frozen?_setCell];exact(zo2 o).trans (df o ho))⟩
     clear hw5
     obtain⟨p0,p1,p2,p3,p4,p5,p6,pf⟩:=BX5
     have pf0:=pf 0 (by omega);have pf1:=pf 1 (by omega);have pf2:=pf 2 (by omega);have pf3:=pf 3 (by omega);have pf4:=pf 4 (by omega);have pf5:=pf 5 (by omega);have pf6:=pf 6 (by omega)
     obtain⟨r0,r1,r2,r3,r4,r5,r6,rf⟩:=BO5
     have rf0:=rf 0 (by omega);have rf1:=rf 1 (by omega);have rf2:=rf 2 (by omega);have rf3:=rf 3 (by omega);have rf4:=rf 4 (by omega);have rf5:=rf 5 (by omega);have rf6:=rf 6 (by omega)
     have SB5:=hid sb5
     have lo2:Hid (∀y,y∈S2->y∈S∨w.heap.size+2<=y):=hid (fun y hy=>by rcases hS2 y hy with h|h;exact HL.out y h;exact .inr (by omega))
     have hgs2:=hgs1
     clear sb5 hS2
    case' inr.inr.inl=>
     rw [hsl] at q1
     have o1:(m[k].op==1)=false:=by rw [ho];rfl
     have o4:(m[k].op==4)=false:=by rw [ho];rfl
     have o5:(m[k].op==5)=true:=by rw [ho];rfl
     have o8:(m[k].op==8)=false:=by rw [ho];rfl
     have o9:(m[k].op==9)=false:=by rw [ho];rfl
     have o10:(m[k].op==10)=false:=by rw [ho];rfl
     obtain⟨l2,hl2⟩:∃l2,l2=l'.set i zeroSlot:=⟨_,rfl⟩
     obtain⟨t2,ht2⟩:∃t2,t2=t':=⟨_,rfl⟩
     obtain⟨en2,hen2⟩:∃en2,en2=okEnd:=⟨_,rfl⟩
     have RUN2:Hid ((en2=okEnd/\runL input (m.take (k+1)) place ⟨l,t⟩=(⟨l2,t2⟩,okEnd))∨(¬en2.code=0/\R=(⟨l2,t2⟩,en2))):=hid (.inl ⟨hen2,by rw [hq2.out,run_s (by omega) (by omega) (by omega),stepT_5 ho, <-hi0,hl2,ht2]⟩)
     clear ho hop hsn hsl hi0
     go_wp2_with fail
     refine wp_name ?_
     intro w5 hw5
     obtain⟨S2,sb5,hS2⟩:∃S2,SB w5 gs cap l2 S2/\(∀y,y∈S2->y∈S'∨wr.heap.size<=y):=by
      rw [hw5]
      rw [hl2]
      have G:=fun W (hW:Chg [] wr W)=>HB.out.putG (S1:=[]) i3 hW (by simp) (HasL.cons_v (HasL.cons_v (HasL.cons_v (HasL.cons_v (HasL.cons_nil (HasL.cons_v (HasL.cons_nil (HasL.nil W))))))):HasL W (slotF zeroSlot) [.bool false,.string ⟨#[]⟩,.bool false,.bool false,.slice none 0 0,.int .i64 0,.slice none 0 0] []) (by simp)
      obtain⟨S2,h1,h2⟩:=G wr (Chg.refl _ _)
      exact⟨S2,h1.keep0 ((Chg.refl _ _).alloc _),fun y hy=>(h2 y hy).imp id (by simp)⟩
     have C5:Hid (Chg (w.heap.size::S') wr w5):=hid (by rw [hw5];exact Chg.now)
     have D5:Hid (Chg S w w5):=hid (Chg.trans HD.out C5.out (fun x hx=>by rcases List.mem_cons.1 hx with rfl|hx;exact .inr (Nat.le_refl _);exact(HL.out x hx).imp id (fun h=>by omega)))
     have s5:=C5.out.size
     have n9:w5.cell? ⟨wr.heap.size,9,none⟩=some (.slice X9 m[k].A.length d9):=by rw [hw5];go_simp
     have n10:w5.cell? ⟨wr.heap.size,10,none⟩=some (.slice X10 m[k].B.length d10):=by rw [hw5];go_simp
     have xn5:wr.heap.size<w5.heap.size:=lt_of_cell n9
     have xr5:w.heap.size<w5.heap.size:=by omega
     have xo5:w.heap.size+1<w5.heap.size:=by omega
     have BX5:Box7 w5 (w.heap.size) (.slice (some ⟨gs,0,none⟩) 3 cap) (.slice Ai ni ci) (.int .i64 t2) (.int .i64 en2.code) (.int .i64 en2.place) (.int .i64 en2.want) (.int .i64 en2.had):=by rw [hw5,ht2,hen2];unfold okEnd;exact⟨by go_simp,by go_simp,by go_simp,by go_simp,by go_simp,by go_simp,by go_simp,fun o ho=>by first|(go_simp;done)|(simp only [World.frozen?_setCell];exact bf o ho)⟩
     have BO5:Box7 w5 (w.heap.size+1) (.slice none 0 0) (.slice none 0 0) (.int .i64 0) (.int .i64 0) (.int .i64 0) (.int .i64 0) (.int .i64 0):=by rw [hw5];exact⟨by go_simp,by go_simp,by go_simp,by go_simp,by go_simp,by go_simp,by go_simp,fun o ho=>by first|(go_simp;done)|(simp only [World.frozen?_setCell];exact df o ho)⟩
     clear hw5
     obtain⟨p0,p1,p2,p3,p4,p5,p6,pf⟩:=BX5
     have pf0:=pf 0 (by omega);have pf1:=pf 1 (by omega);have pf2:=pf 2 (by omega);have pf3:=pf 3 (by omega);have pf4:=pf 4 (by omega);have pf5:=pf 5 (by omega);have pf6:=pf 6 (by omega)
     obtain⟨r0,r1,r2,r3,r4,r5,r6,rf⟩:=BO5
     have rf0:=rf 0 (by omega);have rf1:=rf 1 (by omega);have rf2:=rf 2 (by omega);have rf3:=rf 3 (by omega);have rf4:=rf 4 (by omega);have rf5:=rf 5 (by omega);have rf6:=rf 6 (by omega)
     have SB5:=hid sb5
     have lo2:Hid (∀y,y∈S2->y∈S∨w.heap.size+2<=y):=hid (fun y hy=>by rcases hS2 y hy with h|h;exact HL.out y h;exact .inr (by omega))
     have hgs2:=hgs1
     clear sb5 hS2
    case' inr.inr.inr.inl=>
     have o1:(m[k].op==1)=false:=by rw [beq_eq_false_iff_ne];omega
     have o4:(m[k].op==4)=false:=by rw [beq_eq_false_iff_ne];omega
     have o5:(m[k].op==5)=false:=by rw [beq_eq_false_iff_ne];omega
     have hob0:=hob
     rcases hob with ho|ho|ho
     case' inl=>
      have o8:(m[k].op==8)=true:=by rw [ho];rfl
      have o9:(m[k].op==9)=false:=by rw [ho];rfl
      have o10:(m[k].op==10)=false:=by rw [ho];rfl
     case' inr.inl=>
      have o8:(m[k].op==8)=false:=by rw [ho];rfl
      have o9:(m[k].op==9)=true:=by rw [ho];rfl
      have o10:(m[k].op==10)=false:=by rw [ho];rfl
     case' inr.inr=>
      have o8:(m[k].op==8)=false:=by rw [ho];rfl
      have o9:(m[k].op==9)=false:=by rw [ho];rfl
      have o10:(m[k].op==10)=true:=by rw [ho];rfl
     all_goals
      clear ho
      have hob:=hob0
      clear hob0
      obtain⟨l2,hl2⟩:∃l2,l2=(m[k].run input z ⟨l',t'⟩).1.slots:=⟨_,rfl⟩
      obtain⟨t2,ht2⟩:∃t2,t2=(m[k].run input z ⟨l',t'⟩).1.taken:=⟨_,rfl⟩
      obtain⟨en2,hen2⟩:∃en2,en2=(m[k].run input z ⟨l',t'⟩).2:=⟨_,rfl⟩
      have hqq:m[k].run input z ⟨l',t'⟩=(⟨l2,t2⟩,en2):=by rw [hl2,ht2,hen2]
      have RUN2:Hid ((en2=okEnd/\runL input (m.take (k+1)) place ⟨l,t⟩=(⟨l2,t2⟩,okEnd))∨(¬en2.code=0/\R=(⟨l2,t2⟩,en2))):=hid (by
       rw [hqq] at hq2
       by_cases hc:en2.code=0
       ·have h5:=runL_okEnd input (m.take (k+1)) place ⟨l,t⟩
        rw [hq2.out] at h5
        have h6:en2=okEnd:=h5 hc
        exact .inl ⟨h6,by rw [hq2.out,h6]⟩
       ·have h5:=runL_stop input m (k+1) place ⟨l,t⟩
        rw [hq2.out] at h5
        exact .inr ⟨hc,by rw [HR.out];exact h5 hc⟩)
      have CL:=hid (fun W (hR:SB W gs cap l' S') (hc:Chg [] wr W)=>BLK.out k hlt hob (.slice X9 m[k].A.length d9) (.slice X10 m[k].B.length d10) z l' t' S' W SOK.out hR (R9.out.chg0 hc (by have:=hBw.out;omega)) (R10.out.chg0 hc (by have:=hBw.out;omega)) (by have:=hBw.out;have:=hc.size;omega) (RI.out.later (HD.out.trans0 hc) (fun y hy=>(HL.out y hy).imp id (fun h=>by omega))) HS'.out hz0 TB.out.2.2 TB.out.1 TB.out.2.1)
      rw [<-hl2, <-ht2, <-hen2] at CL
      clear hqq hl2 ht2 hen2 hob hop hsn hsl hi0
      go_wp2_with fail
      refine(CL.out _ (HB.out.keep0 Chg.now) Chg.now).mono ?_
      rintro e w2 ⟨S2,rfl,sb2,hS2,c2⟩
      have s2:=c2.size
      have v2:wr.heap.size+1<=w2.heap.size:=by(try simp at s2)<;>omega
      obtain⟨yr2,zr2,xr2,yo2,zo2,xo2, -⟩:=c2.low 2 (w.heap.size) (fun x hx=>by have:=lt1.out _ hx;(try simp at this)<;>omega)
      have yn2:=c2.ce wr.heap.size (hn:=fun hx=>by have:=lt1.out _ hx;(try simp at this)<;>omega)
      have zn2:=c2.fe wr.heap.size (hn:=fun hx=>by have:=lt1.out _ hx;(try simp at this)<;>omega)
      have xn2:wr.heap.size<w2.heap.size:=by omega
      clear s2
      have hS20:Hid (∀y,y∈S2->y∈S'∨wr.heap.size+1<=y):=hid (fun y hy=>(hS2 y hy).imp id (fun h=>by(try simp at h)<;>omega))
      have C2:Hid (Chg (w.heap.size::S') wr w2):=hid (Chg.trans (S:=w.heap.size::S') (Chg.mono (S:=[]) Chg.now (by simp)) c2 (fun x hx=>.inl (by simp [hx])))
      have lt2:Hid (∀y,y∈S2->y<w.heap.size∨w.heap.size+2<=y):=hid (fun y hy=>by rcases hS20.out y hy with h|h;(have:=lt1.out y h;omega);exact .inr (by omega))
      have SB2:=hid sb2
      clear sb2 hS2 c2
      go_wp2_with fail
      refine wp_name ?_
      intro w5 hw5
      obtain⟨S2,sb5,hS2⟩:∃S2,SB w5 gs cap l2 S2/\(∀y,y∈S2->y∈S'∨wr.heap.size<=y):=by
       rw [hw5]
       exact⟨S2,SB2.out.keep (T:=[w.heap.size]) Chg.now (fun y hy=>by have:=lt2.out y hy;simp;omega),fun y hy=>(hS20.out y hy).imp id (fun h=>by omega)⟩
      have C5:Hid (Chg (w.heap.size::S') wr w5):=hid (by rw [hw5];exact(Chg.to C2.out))
      have D5:Hid (Chg S w w5):=hid (Chg.trans HD.out C5.out (fun x hx=>by rcases List.mem_cons.1 hx with rfl|hx;exact .inr (Nat.le_refl _);exact(HL.out x hx).imp id (fun h=>by omega)))
      have s5:=C5.out.size
      have n9:w5.cell? ⟨wr.heap.size,9,none⟩=some (.slice X9 m[k].A.length d9):=by rw [hw5];go_simp
      have n10:w5.cell? ⟨wr.heap.size,10,none⟩=some (.slice X10 m[k].B.length d10):=by rw [hw5];go_simp
      have xn5:wr.heap.size<w5.heap.size:=lt_of_cell n9
      have xr5:w.heap.size<w5.heap.size:=by omega
      have xo5:w.heap.size+1<w5.heap.size:=by omega
      have BX5:Box7 w5 (w.heap.size) (.slice (some ⟨gs,0,none⟩) 3 cap) (.slice Ai ni ci) (.int .i64 t2) (.int .i64 en2.code) (.int .i64 en2.place) (.int .i64 en2.want) (.int .i64 en2.had):=by rw [hw5];exact⟨by go_simp,by go_simp,by go_simp,by go_simp,by go_simp,by go_simp,by go_simp,fun o ho=>by first|(go_simp;done)|(simp only [World.frozen?_setCell];exact(zr2 o).trans (bf o ho))⟩
      have BO5:Box7 w5 (w.heap.size+1) (.slice none 0 0) (.slice none 0 0) (.int .i64 0) (.int .i64 0) (.int .i64 0) (.int .i64 0) (.int .i64 0):=by rw [hw5];exact⟨by go_simp,by go_simp,by go_simp,by go_simp,by go_simp,by go_simp,by go_simp,fun o ho=>by first|(go_simp;done)|(simp only [World.frozen?_setCell];exact(zo2 o).trans (df o ho))⟩
      clear hw5
      obtain⟨p0,p1,p2,p3,p4,p5,p6,pf⟩:=BX5
      have pf0:=pf 0 (by omega);have pf1:=pf 1 (by omega);have pf2:=pf 2 (by omega);have pf3:=pf 3 (by omega);have pf4:=pf 4 (by omega);have pf5:=pf 5 (by omega);have pf6:=pf 6 (by omega)
      obtain⟨r0,r1,r2,r3,r4,r5,r6,rf⟩:=BO5
      have rf0:=rf 0 (by omega);have rf1:=rf 1 (by omega);have rf2:=rf 2 (by omega);have rf3:=rf 3 (by omega);have rf4:=rf 4 (by omega);have rf5:=rf 5 (by omega);have rf6:=rf 6 (by omega)
      have SB5:=hid sb5
      have lo2:Hid (∀y,y∈S2->y∈S∨w.heap.size+2<=y):=hid (fun y hy=>by rcases hS2 y hy with h|h;exact HL.out y h;exact .inr (by omega))
      have hgs2:=hgs1
      clear sb5 hS2
    case' inr.inr.inr.inr=>
     have o1:(m[k].op==1)=false:=by rw [beq_eq_false_iff_ne];omega
     have o4:(m[k].op==4)=false:=by rw [beq_eq_false_iff_ne];omega
     have o5:(m[k].op==5)=false:=by rw [beq_eq_false_iff_ne];omega
     have o8:(m[k].op==8)=false:=by rw [beq_eq_false_iff_ne];omega
     have o9:(m[k].op==9)=false:=by rw [beq_eq_false_iff_ne];omega
     have o10:(m[k].op==10)=false:=by rw [beq_eq_false_iff_ne];omega
     obtain⟨l2,hl2⟩:∃l2,l2=(stepT m[k] z ⟨l',t'⟩).1.slots:=⟨_,rfl⟩
     obtain⟨t2,ht2⟩:∃t2,t2=(stepT m[k] z ⟨l',t'⟩).1.taken:=⟨_,rfl⟩
     obtain⟨en2,hen2⟩:∃en2,en2=(stepT m[k] z ⟨l',t'⟩).2:=⟨_,rfl⟩
     have hqq:m[k].run input z ⟨l',t'⟩=(⟨l2,t2⟩,en2):=by rw [hl2,ht2,hen2];exact run_s (by omega) (by omega) (by omega)
     have RUN2:Hid ((en2=okEnd/\runL input (m.take (k+1)) place ⟨l,t⟩=(⟨l2,t2⟩,okEnd))∨(¬en2.code=0/\R=(⟨l2,t2⟩,en2))):=hid (by
      rw [hqq] at hq2
      by_cases hc:en2.code=0
      ·have h5:=runL_okEnd input (m.take (k+1)) place ⟨l,t⟩
       rw [hq2.out] at h5
       have h6:en2=okEnd:=h5 hc
       exact .inl ⟨h6,by rw [hq2.out,h6]⟩
      ·have h5:=runL_stop input m (k+1) place ⟨l,t⟩
       rw [hq2.out] at h5
       exact .inr ⟨hc,by rw [HR.out];exact h5 hc⟩)
     have CL:=hid (fun W (hR:SB W gs cap l' S') (hc:Chg [] wr W)=>PRT.out k hlt hob (.slice X9 m[k].A.length d9) (.slice X10 m[k].B.length d10) z l' t' S' W SOK.out hR)
     rw [<-hl2, <-ht2, <-hen2] at CL
     clear hqq hl2 ht2 hen2 hob hop hsn hsl hi0
     go_wp2_with fail
     refine(CL.out _ (HB.out.keep0 Chg.now) Chg.now).mono ?_
     rintro e w2 ⟨S2,rfl,sb2,hS2,c2⟩
     have s2:=c2.size
     have v2:wr.heap.size+1<=w2.heap.size:=by(try simp at s2)<;>omega
     obtain⟨yr2,zr2,xr2,yo2,zo2,xo2, -⟩:=c2.low 2 (w.heap.size) (fun x hx=>by have:=lt1.out _ hx;(try simp at this)<;>omega)
     have yn2:=c2.ce wr.heap.size (hn:=fun hx=>by have:=lt1.out _ hx;(try simp at this)<;>omega)
     have zn2:=c2.fe wr.heap.size (hn:=fun hx=>by have:=lt1.out _ hx;(try simp at this)<;>omega)
     have xn2:wr.heap.size<w2.heap.size:=by omega
     clear s2
     have hS20:Hid (∀y,y∈S2->y∈S'∨wr.heap.size+1<=y):=hid (fun y hy=>(hS2 y hy).imp id (fun h=>by(try simp at h)<;>omega))
     have C2:Hid (Chg (w.heap.size::S') wr w2):=hid (Chg.trans (S:=w.heap.size::S') (Chg.mono (S:=[]) Chg.now (by simp)) c2 (fun x hx=>.inl (by simp [hx])))
     have lt2:Hid (∀y,y∈S2->y<w.heap.size∨w.heap.size+2<=y):=hid (fun y hy=>by rcases hS20.out y hy with h|h;(have:=lt1.out y h;omega);exact .inr (by omega))
     have SB2:=hid sb2
     clear sb2 hS2 c2
     go_wp2_with fail
     refine wp_name ?_
     intro w5 hw5
     obtain⟨S2,sb5,hS2⟩:∃S2,SB w5 gs cap l2 S2/\(∀y,y∈S2->y∈S'∨wr.heap.size<=y):=by
      rw [hw5]
      exact⟨S2,SB2.out.keep (T:=[w.heap.size]) Chg.now (fun y hy=>by have:=lt2.out y hy;simp;omega),fun y hy=>(hS20.out y hy).imp id (fun h=>by omega)⟩
     have C5:Hid (Chg (w.heap.size::S') wr w5):=hid (by rw [hw5];exact(Chg.to C2.out))
     have D5:Hid (Chg S w w5):=hid (Chg.trans HD.out C5.out (fun x hx=>by rcases List.mem_cons.1 hx with rfl|hx;exact .inr (Nat.le_refl _);exact(HL.out x hx).imp id (fun h=>by omega)))
     have s5:=C5.out.size
     have n9:w5.cell? ⟨wr.heap.size,9,none⟩=some (.slice X9 m[k].A.length d9):=by rw [hw5];go_simp
     have n10:w5.cell? ⟨wr.heap.size,10,none⟩=some (.slice X10 m[k].B.length d10):=by rw [hw5];go_simp
     have xn5:wr.heap.size<w5.heap.size:=lt_of_cell n9
     have xr5:w.heap.size<w5.heap.size:=by omega
     have xo5:w.heap.size+1<w5.heap.size:=by omega
     have BX5:Box7 w5 (w.heap.size) (.slice (some ⟨gs,0,none⟩) 3 cap) (.slice Ai ni ci) (.int .i64 t2) (.int .i64 en2.code) (.int .i64 en2.place) (.int .i64 en2.want) (.int .i64 en2.had):=by rw [hw5];exact⟨by go_simp,by go_simp,by go_simp,by go_simp,by go_simp,by go_simp,by go_simp,fun o ho=>by first|(go_simp;done)|(simp only [World.frozen?_setCell];exact(zr2 o).trans (bf o ho))⟩
     have BO5:Box7 w5 (w.heap.size+1) (.slice none 0 0) (.slice none 0 0) (.int .i64 0) (.int .i64 0) (.int .i64 0) (.int .i64 0) (.int .i64 0):=by rw [hw5];exact⟨by go_simp,by go_simp,by go_simp,by go_simp,by go_simp,by go_simp,by go_simp,fun o ho=>by first|(go_simp;done)|(simp only [World.frozen?_setCell];exact(zo2 o).trans (df o ho))⟩
     clear hw5
     obtain⟨p0,p1,p2,p3,p4,p5,p6,pf⟩:=BX5
     have pf0:=pf 0 (by omega);have pf1:=pf 1 (by omega);have pf2:=pf 2 (by omega);have pf3:=pf 3 (by omega);have pf4:=pf 4 (by omega);have pf5:=pf 5 (by omega);have pf6:=pf 6 (by omega)
     obtain⟨r0,r1,r2,r3,r4,r5,r6,rf⟩:=BO5
     have rf0:=rf 0 (by omega);have rf1:=rf 1 (by omega);have rf2:=rf 2 (by omega);have rf3:=rf 3 (by omega);have rf4:=rf 4 (by omega);have rf5:=rf 5 (by omega);have rf6:=rf 6 (by omega)
     have SB5:=hid sb5
     have lo2:Hid (∀y,y∈S2->y∈S∨w.heap.size+2<=y):=hid (fun y hy=>by rcases hS2 y hy with h|h;exact HL.out y h;exact .inr (by omega))
     have hgs2:=hgs1
     clear sb5 hS2
    all_goals
     go_region_held3 (fun w'=>w'.cell? ⟨wr.heap.size,9,none⟩=some (.slice X9 m[k].A.length d9)/\w'.cell? ⟨wr.heap.size,10,none⟩=some (.slice X10 m[k].B.length d10)) (((refine⟨?_,?_⟩)<;>(first|(go_keep;done)|(go_simp;done)|(simp [*];done)))) (first|(go_simp;go_at_call 43;(with_reducible refine(PA2.out _ Chg.any).mono ?_);rintro e w8 ⟨rfl,c8⟩;(have s8:=c8.size);(have v8:w5.heap.size<=w8.heap.size:=by(try simp at s8)<;>omega);(obtain⟨yr8,zr8,xr8,yo8,zo8,xo8, -⟩:=c8.low 2 (w.heap.size) (fun x hx=>by simp at hx));(have yn8:=c8.ce wr.heap.size);(have zn8:=c8.fe wr.heap.size);(have xn8:wr.heap.size<w8.heap.size:=by omega);(have C8:Hid (Chg (w.heap.size::S') wr w8):=hid (Chg.trans0 Chg.any c8));(have D8:Hid (Chg S w w8):=hid (Chg.trans0 Chg.any c8));(have SB8:Hid (SB w8 gs cap l2 S2):=hid (SB.keep0 (by first|exact SB9.out.keep0 Chg.now|exact SB8.out.keep0 Chg.now|exact SB5.out.keep0 Chg.now) c8));clear c8 s8;simp only [])|(go_simp;go_at_call 43;(with_reducible refine(PB2.out _ Chg.any).mono ?_);rintro e w9 ⟨rfl,c9⟩;(have s9:=c9.size);(have v9:w5.heap.size<=w9.heap.size:=by(try simp at s9)<;>omega);(obtain⟨yr9,zr9,xr9,yo9,zo9,xo9, -⟩:=c9.low 2 (w.heap.size) (fun x hx=>by simp at hx));(have yn9:=c9.ce wr.heap.size);(have zn9:=c9.fe wr.heap.size);(have xn9:wr.heap.size<w9.heap.size:=by omega);(have C9:Hid (Chg (w.heap.size::S') wr w9):=hid (Chg.trans0 Chg.any c9));(have D9:Hid (Chg S w w9):=hid (Chg.trans0 Chg.any c9));(have SB9:Hid (SB w9 gs cap l2 S2):=hid (SB.keep0 (by first|exact SB9.out.keep0 Chg.now|exact SB8.out.keep0 Chg.now|exact SB5.out.keep0 Chg.now) c9));clear c9 s9;simp only [])|fail)
     all_goals
      go_wp2_with fail
      go_roundw
      case rel=>exact⟨k+1,l2,t2,en2,S2,z+1+mA+mB,by omega,by go_num,rfl,by omega,hzz.out,hid (by rw [HZ.out,E1.out,HMA.out,HMB.out];omega),hid RUN2.out,hid (by first|exact SB9.out.keep0 Chg.now|exact SB8.out.keep0 Chg.now),lo2,hid Chg.any,by(try simp)<;>omega,hid ⟨by go_simp,by go_simp,by go_simp,by go_simp,by go_simp,by go_simp,by go_simp,fun o ho=>by first|(go_simp;done)|(simp only [World.frozen?_setCell];simp [*];done)⟩,hid ⟨by go_simp,by go_simp,by go_simp,by go_simp,by go_simp,by go_simp,by go_simp,fun o ho=>by first|(go_simp;done)|(simp only [World.frozen?_setCell];simp [*];done)⟩⟩
      case measure=>simp [intOf];omega
   ·have hc0:(en'.code !=0)=true:=by simp [he]
    have HRQ:Hid (R=(⟨l',t'⟩,en')):=hid (hR1)
    try clear hP1
    clear hR1
    go_wp2_with fail
    refine bodyPost_ret (v:=.agg #[.slice (some ⟨gs,0,none⟩) 3 cap,.slice Ai ni ci,.int .i64 t',.int .i64 en'.code,.int .i64 en'.place,.int .i64 en'.want,.int .i64 en'.had]) (by simp only [results,Tryz.results24];go_simp) rfl ?_
    rw [HRQ.out]
    exact⟨S',rfl,HB.out.keep (T:=[w.heap.size+1]) Chg.now (fun y hy=>by have:=lt1.out y hy;simp;omega),fun y hy=>(HL.out y hy).imp id (fun h=>by omega),(Chg.to HD.out)⟩
  ·obtain rfl:k=m.length:=by omega
   rcases HE.out with ⟨he,hR1⟩|⟨he,hR1⟩
   ·subst he
    simp only [okEnd] at b3 b4 b5 b6
    have HRQ:Hid (R=(⟨l',t'⟩,okEnd)):=hid (by rw [HR.out, <-hR1,List.take_length])
    try clear hP1
    clear hR1
    go_wp2_with fail
    refine bodyPost_ret (v:=.agg #[.slice (some ⟨gs,0,none⟩) 3 cap,.slice Ai ni ci,.int .i64 t',.int .i64 0,.int .i64 0,.int .i64 0,.int .i64 0]) (by simp only [results,Tryz.results24];go_simp) rfl ?_
    rw [HRQ.out]
    exact⟨S',rfl,HB.out.keep (T:=[w.heap.size+1]) Chg.now (fun y hy=>by have:=lt1.out y hy;simp;omega),fun y hy=>(HL.out y hy).imp id (fun h=>by omega),(Chg.to HD.out)⟩
   ·have HRQ:Hid (R=(⟨l',t'⟩,en')):=hid (hR1)
    try clear hP1
    clear hR1
    go_wp2_with fail
    refine bodyPost_ret (v:=.agg #[.slice (some ⟨gs,0,none⟩) 3 cap,.slice Ai ni ci,.int .i64 t',.int .i64 en'.code,.int .i64 en'.place,.int .i64 en'.want,.int .i64 en'.had]) (by simp only [results,Tryz.results24];go_simp) rfl ?_
    rw [HRQ.out]
    exact⟨S',rfl,HB.out.keep (T:=[w.heap.size+1]) Chg.now (fun y hy=>by have:=lt1.out y hy;simp;omega),fun y hy=>(HL.out y hy).imp id (fun h=>by omega),(Chg.to HD.out)⟩
end Go.Proofs.YtjigcplpkhpgnaaGreatDoor
