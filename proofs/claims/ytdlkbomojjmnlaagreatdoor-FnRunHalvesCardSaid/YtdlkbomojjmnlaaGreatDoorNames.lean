/- SameCore, SamePart, SameSlots, of the reference and of the program: they tell whether the data are the same. Written by a program. / Names and numbers: IsName of both packages, isNumber. / Tables of names: KindFace, layerFaces, l4Row, LayerNeeds of both packages. / Faces: IsFace, Offers of both packages, l2Has. / IsCells of both packages. Written by a program. -/
import Derived.Test.YtdlkbomojjmnlaaGreatDoorTypes
import Derived.Deep.RegionHeld3
set_option maxRecDepth 100000
set_option maxHeartbeats 4000000
namespace Go.Proofs.YtdlkbomojjmnlaaGreatDoor
open Go.RowKit

def BoolPost (p:Prop) (w:World) (e:Ending) (w':World):Prop:=∃t:Bool,e= .returned (.bool t)/\(t=true↔p)/\Chg [] w w'
theorem str_ext {a b:ByteArray} (h:a.toList=b.toList):a=b:=by
 rw [ByteArray.toList_eq,ByteArray.toList_eq] at h
 exact ByteArray.ext (Array.toList_inj.1 h)
theorem cell_ext {c d:CellT} (h1:(!(c.key.toList==d.key.toList))=false) (h2:(!(c.value==d.value))=false):c=d:=by
 cases c;cases d
 simp at h1 h2
 simp [str_ext h1,h2]
theorem neq_cell (c d:CellT) (W:World):(binOp .neq 188 (.agg #[.string c.key,.int .i64 c.value]) (.agg #[.string d.key,.int .i64 d.value])).run Tryz.prog W= .ok (.bool (!(c.key.toList==d.key.toList&&c.value==d.value))) W:=by
 have h:∀n:Nat,(Op.equalIn (n+2) 188 (.agg #[.string c.key,.int .i64 c.value]) (.agg #[.string d.key,.int .i64 d.value])).run Tryz.prog W= .ok (c.key.toList==d.key.toList&&c.value==d.value) W:=fun n=>by
  rw [run_equalIn_struct W (n+1) 188 _ _ (by simp only [Program.fieldsOf,Tryz.underlying188]) (by kernel_rfl)]
  simp [go_sem,Program.fieldsOf,Tryz.underlying188]
  by_cases h1:c.key.toList=d.key.toList<;>by_cases h2:c.value=d.value<;>simp [h1,h2]
 simp only [binOp]
 simp [Op.equal,Op.maxDepth,h 9998]
theorem layer_ext {c d:LayerT} (h1:(!(c.name.toList==d.name.toList))=false) (h2:(!(c.count==d.count))=false):c=d:=by
 cases c;cases d
 simp at h1 h2
 simp [str_ext h1,h2]
theorem neq_layer (c d:LayerT) (W:World):(binOp .neq 91 (.agg #[.string c.name,.int .i64 c.count]) (.agg #[.string d.name,.int .i64 d.count])).run Tryz.prog W= .ok (.bool (!(c.name.toList==d.name.toList&&c.count==d.count))) W:=by
 have h:∀n:Nat,(Op.equalIn (n+2) 91 (.agg #[.string c.name,.int .i64 c.count]) (.agg #[.string d.name,.int .i64 d.count])).run Tryz.prog W= .ok (c.name.toList==d.name.toList&&c.count==d.count) W:=fun n=>by
  rw [run_equalIn_struct W (n+1) 91 _ _ (by simp only [Program.fieldsOf,Tryz.underlying91]) (by kernel_rfl)]
  simp [go_sem,Program.fieldsOf,Tryz.underlying91]
  by_cases h1:c.name.toList=d.name.toList<;>by_cases h2:c.count=d.count<;>simp [h1,h2]
 simp only [binOp]
 simp [Op.equal,Op.maxDepth,h 9998]
theorem slot_ext {c d:SlotT} (h1:c.full=d.full) (h2:c.part=d.part):c=d:=by
 cases c;cases d
 simp only [SlotT.mk.injEq]
 exact⟨h1,h2⟩
theorem take_next {α:Type} {l m:List α} {k:Nat} (h:l.take k=m.take k) (hl:k<l.length) (hm:k<m.length) (e:l[k]=m[k]):l.take (k+1)=m.take (k+1):=by
 rw [List.take_succ_eq_append_getElem hl,List.take_succ_eq_append_getElem hm,h,e]

theorem sameCore_impl_any (a b:CoreT) (u3 v3:Value) (B B':Nat) (w:World) (r3:Rd w B (cells a.cells) u3) (s3:Rd w B' (cells b.cells) v3) (hB:B<=w.heap.size) (hB':B'<=w.heap.size):
  Calls Tryz.prog 83 #[.agg #[.string a.kind,.bool a.on,.bool a.broken,u3,.int .i64 a.count],.agg #[.string b.kind,.bool b.on,.bool b.broken,v3,.int .i64 b.count]] w (BoolPost (a=b) w):=by
 obtain⟨A,cap,rfl,h0,h1,hrow⟩:=cells_row r3
 obtain⟨A',cap',rfl,h0',h1',hrow'⟩:=cells_row s3
 unfold maxLen at h1 h1'
 by_cases hl:a.cells.length=b.cells.length
 ·have hlB:((a.cells.length:Int) !=b.cells.length)=false:=by simp;omega
  have HL:=hid hl
  clear hl
  go_enter Tryz.func83,Tryz.ntmps83
  go_wp2_with fail
  all_goals try(go_ret;refine⟨false,rfl,⟨(fun h=>by cases h),(fun h=>?_)⟩,((Chg.refl _ _).alloc _).alloc _⟩;first|exact absurd (congrArg (fun c:CoreT=>c.kind.toList) h) (by assumption)|exact absurd (congrArg CoreT.on h) (by assumption)|exact absurd (congrArg CoreT.broken h) (by assumption)|exact absurd (congrArg CoreT.count h) (by assumption))
  rename_i hk ho hbr hco K aK
  have HK:=hid hk;have HO:=hid ho;have HBR:=hid hbr;have HCO:=hid hco
  clear hk ho hbr hco
  go_loopw [44] (fun i wr=>∃(k:Nat),k<=a.cells.length/\i= .int .i64 k/\wr.cell? ⟨w.heap.size,3,none⟩=some (.slice A a.cells.length cap)/\wr.cell? ⟨w.heap.size+1,3,none⟩=some (.slice A' b.cells.length cap')/\Chg [] w wr/\Hid (a.cells.take k=b.cells.take k)) (fun i _=>a.cells.length-(intOf i).toNat)
  case atStart=>exact⟨0,Nat.zero_le _,rfl,by go_simp,by go_simp,((Chg.refl _ _).alloc _).alloc _,by simp [Hid]⟩
  case round=>
   obtain⟨k,hk',rfl,z1,z2,hc,hq⟩:=hrel
   by_cases hlt:k<a.cells.length
   ·have hlt':k<b.cells.length:=by have:=HL.out;omega
    obtain⟨b1,off1,rfl,hb1,q0,q1⟩:=cells_cells (hrow.chg0 hc hB) k hlt
    obtain⟨b2,off2,rfl,hb2,p0,p1⟩:=cells_cells (hrow'.chg0 hc hB') k hlt'
    have hne:=fun W=>neq_cell a.cells[k] b.cells[k] W
    go_wp2_with fail
    go_quiet (fail)
    clear hne
    go_wp2_with fail
    ·go_ret
     have hd:= ‹((!(a.cells[k].key.toList==b.cells[k].key.toList))=true∨(!(a.cells[k].value==b.cells[k].value))=true)›
     exact⟨false,rfl,⟨(fun h=>by cases h),(fun h=>by subst h;rcases hd with h1|h1<;>simp at h1)⟩,hc.drewN _⟩
    ·have hd:= ‹((!(a.cells[k].key.toList==b.cells[k].key.toList))=false/\(!(a.cells[k].value==b.cells[k].value))=false)›
     have he:=cell_ext hd.1 hd.2
     have HE:=hid he
     clear he
     go_roundw
     case rel=>exact⟨k+1,by omega,by go_num,z1,z2,hc.drewN _,take_next hq.out hlt hlt' HE.out⟩
     case measure=>simp [intOf];omega
   ·obtain rfl:k=a.cells.length:=by omega
    go_wp2_with fail
    go_ret
    refine⟨true,rfl,⟨fun _=>?_,fun _=>rfl⟩,hc⟩
    have h1:=hq.out
    rw [List.take_length,HL.out,List.take_length] at h1
    cases a;cases b
    simp only [CoreT.mk.injEq]
    exact⟨str_ext HK.out,HO.out,HBR.out,h1,HCO.out⟩
 ·have hlB:((a.cells.length:Int) !=b.cells.length)=true:=by simp;omega
  go_enter Tryz.func83,Tryz.ntmps83
  go_wp2_with fail
  all_goals(go_ret;exact⟨false,rfl,⟨(fun h=>by cases h),(fun h=>absurd (congrArg (fun c:CoreT=>c.cells.length) h) hl)⟩,((Chg.refl _ _).alloc _).alloc _⟩)
theorem samePart_impl_any (a b:PartT) (u3 u5 v3 v5:Value) (B B':Nat) (w:World) (r3:Rd w B (cells a.core.cells) u3) (r5:Rd w B (layers a.layers) u5) (s3:Rd w B' (cells b.core.cells) v3) (s5:Rd w B' (layers b.layers) v5) (hB:B<=w.heap.size) (hB':B'<=w.heap.size):
  Calls Tryz.prog 50 #[.agg #[.string a.core.kind,.bool a.core.on,.bool a.core.broken,u3,.int .i64 a.core.count,u5],.agg #[.string b.core.kind,.bool b.core.on,.bool b.core.broken,v3,.int .i64 b.core.count,v5]] w (BoolPost (a=b) w):=by
 obtain⟨A,cap,rfl,h0,h1,hrow⟩:=layers_row r5
 obtain⟨A',cap',rfl,h0',h1',hrow'⟩:=layers_row s5
 obtain⟨A3,cap3,rfl,_,_,_⟩:=cells_row r3
 obtain⟨A3',cap3',rfl,_,_,_⟩:=cells_row s3
 unfold maxLen at h1 h1'
 go_enter Tryz.func50,Tryz.ntmps50
 go_wp2_with fail
 refine(sameCore_impl_any a.core b.core _ _ B B' _ (r3.chg0 (((Chg.refl _ _).alloc _).alloc _) hB) (s3.chg0 (((Chg.refl _ _).alloc _).alloc _) hB') (by simp;omega) (by simp;omega)).mono ?_;rintro e w1 ⟨t,rfl,ht,c1⟩
 obtain⟨y1,_,z1⟩:=c1.cells
 have d1:Chg [] w w1:=Chg.trans0 (((Chg.refl _ _).alloc _).alloc _) c1
 have t1:w.heap.size+1<w1.heap.size:=by simp at z1;omega
 have t1':w.heap.size<w1.heap.size:=by omega
 have k1:w1.cell? ⟨w.heap.size,5,none⟩=some (.slice A a.layers.length cap):=(y1 w.heap.size 5 (by simp;omega)).trans (by go_simp)
 have k2:w1.cell? ⟨w.heap.size+1,5,none⟩=some (.slice A' b.layers.length cap'):=(y1 (w.heap.size+1) 5 (by simp)).trans (by go_simp)
 clear y1 z1 c1
 cases t
 ·have hne:¬a.core=b.core:=fun h=>by have:=ht.2 h;cases this
  have HN:=hid hne
  clear hne ht
  go_wp2_with fail
  go_ret
  exact⟨false,rfl,⟨(fun h=>by cases h),(fun h=>absurd (congrArg PartT.core h) HN.out)⟩,d1⟩
 ·have hco:=hid (ht.1 rfl)
  clear ht
  by_cases hl:a.layers.length=b.layers.length
  ·have hlB:((a.layers.length:Int) !=b.layers.length)=false:=by simp;omega
   have HL:=hid hl
   clear hl
   go_wp2_with fail
   go_loopw [24] (fun i wr=>∃(k:Nat),k<=a.layers.length/\i= .int .i64 k/\wr.cell? ⟨w.heap.size,5,none⟩=some (.slice A a.layers.length cap)/\wr.cell? ⟨w.heap.size+1,5,none⟩=some (.slice A' b.layers.length cap')/\Chg [] w wr/\Hid (a.layers.take k=b.layers.take k)) (fun i _=>a.layers.length-(intOf i).toNat)
   case atStart=>exact⟨0,Nat.zero_le _,rfl,k1,k2,d1,by simp [Hid]⟩
   case round=>
    clear k1 k2
    obtain⟨k,hk',rfl,z1,z2,hc,hq⟩:=hrel
    by_cases hlt:k<a.layers.length
    ·have hlt':k<b.layers.length:=by have:=HL.out;omega
     obtain⟨b1,off1,rfl,hb1,q0,q1⟩:=layers_cells (hrow.chg0 hc hB) k hlt
     obtain⟨b2,off2,rfl,hb2,p0,p1⟩:=layers_cells (hrow'.chg0 hc hB') k hlt'
     have hne:=fun W=>neq_layer a.layers[k] b.layers[k] W
     go_wp2_with fail
     go_quiet (fail)
     clear hne
     go_wp2_with fail
     ·go_ret
      have hd:= ‹((!(a.layers[k].name.toList==b.layers[k].name.toList))=true∨(!(a.layers[k].count==b.layers[k].count))=true)›
      exact⟨false,rfl,⟨(fun h=>by cases h),(fun h=>by subst h;rcases hd with h1|h1<;>simp at h1)⟩,hc.drewN _⟩
     ·have hd:= ‹((!(a.layers[k].name.toList==b.layers[k].name.toList))=false/\(!(a.layers[k].count==b.layers[k].count))=false)›
      have he:=layer_ext hd.1 hd.2
      have HE:=hid he
      clear he
      go_roundw
      case rel=>exact⟨k+1,by omega,by go_num,z1,z2,hc.drewN _,take_next hq.out hlt hlt' HE.out⟩
      case measure=>simp [intOf];omega
    ·obtain rfl:k=a.layers.length:=by omega
     go_wp2_with fail
     go_ret
     refine⟨true,rfl,⟨fun _=>?_,fun _=>rfl⟩,hc⟩
     have h1:=hq.out
     rw [List.take_length,HL.out,List.take_length] at h1
     have h2:=hco.out
     cases a;cases b
     simp only [PartT.mk.injEq]
     exact⟨h2,h1⟩
  ·have hlB:((a.layers.length:Int) !=b.layers.length)=true:=by simp;omega
   go_wp2_with fail
   go_ret
   exact⟨false,rfl,⟨(fun h=>by cases h),(fun h=>absurd (congrArg (fun c:PartT=>c.layers.length) h) hl)⟩,d1⟩
theorem sameSlots_impl_any (l m:List SlotT) (u v:Value) (B B':Nat) (w:World) (hr:Rd w B (slots l) u) (hs:Rd w B' (slots m) v) (hB:B<=w.heap.size) (hB':B'<=w.heap.size):
  Calls Tryz.prog 14 #[u,v] w (BoolPost (l=m) w):=by
 obtain⟨A,cap,rfl,h0,h1,hrow⟩:=slots_row hr
 obtain⟨A',cap',rfl,h0',h1',hrow'⟩:=slots_row hs
 unfold maxLen at h1 h1'
 clear hr hs
 by_cases hl:l.length=m.length
 ·have hlB:((l.length:Int) !=m.length)=false:=by simp;omega
  have HL:=hid hl
  clear hl
  go_enter Tryz.func14,Tryz.ntmps14
  go_wp2_with fail
  go_loopw [13] (fun i wr=>∃(k:Nat),k<=l.length/\i= .int .i64 k/\Chg [] w wr/\Hid (l.take k=m.take k)) (fun i _=>l.length-(intOf i).toNat)
  case atStart=>exact⟨0,Nat.zero_le _,rfl,Chg.refl _ _,by simp [Hid]⟩
  case round=>
   obtain⟨k,hk',rfl,hc,hq⟩:=hrel
   by_cases hlt:k<l.length
   ·have hlt':k<m.length:=by have:=HL.out;omega
    obtain⟨b,off,u4,u6,rfl,hb,q0,q1,q2,q3,q4,q5,q6,r4,r6⟩:=slots_cells (hrow.chg0 hc hB) k hlt
    obtain⟨b',off',v4,v6,rfl,hb',p0,p1,p2,p3,p4,p5,p6,s4,s6⟩:=slots_cells (hrow'.chg0 hc hB') k hlt'
    obtain⟨A4,cap4,rfl,_,_,_⟩:=cells_row r4
    obtain⟨A6,cap6,rfl,_,_,_⟩:=layers_row r6
    obtain⟨B4,dap4,rfl,_,_,_⟩:=cells_row s4
    obtain⟨B6,dap6,rfl,_,_,_⟩:=layers_row s6
    by_cases hf:l[k].full=m[k].full
    ·have hfB:(l[k].full !=m[k].full)=false:=by rw [hf];simp
     have hfC:(l[k].full==m[k].full)=true:=by rw [hf];simp
     have HF:=hid hf
     clear hf
     have zz:B<=wr.heap.size/\B'<=wr.heap.size:=by have:=hc.size;omega
     have hbb:b<wr.heap.size/\b'<wr.heap.size:=by omega
     have pt:=fun W (hW:Chg [] wr W)=>samePart_impl_any l[k].part m[k].part _ _ _ _ B B' W (r4.chg0 hW zz.1) (r6.chg0 hW zz.1) (s4.chg0 hW zz.2) (s6.chg0 hW zz.2) (by have:=hW.size;omega) (by have:=hW.size;omega)
     have PT:=hid pt
     clear pt
     go_wp2_with fail
     go_region_held3 (fun w'=>w'.cell? ⟨b,off+k * 7,none⟩=some (.bool l[k].full)/\w'.cell? ⟨b,off+k * 7+1,none⟩=some (.string l[k].part.core.kind)/\w'.cell? ⟨b,off+k * 7+2,none⟩=some (.bool l[k].part.core.on)/\w'.cell? ⟨b,off+k * 7+3,none⟩=some (.bool l[k].part.core.broken)/\w'.cell? ⟨b,off+k * 7+4,none⟩=some (.slice A4 l[k].part.core.cells.length cap4)/\w'.cell? ⟨b,off+k * 7+5,none⟩=some (.int .i64 l[k].part.core.count)/\w'.cell? ⟨b,off+k * 7+6,none⟩=some (.slice A6 l[k].part.layers.length cap6)/\w'.cell? ⟨b',off'+k * 7,none⟩=some (.bool m[k].full)/\w'.cell? ⟨b',off'+k * 7+1,none⟩=some (.string m[k].part.core.kind)/\w'.cell? ⟨b',off'+k * 7+2,none⟩=some (.bool m[k].part.core.on)/\w'.cell? ⟨b',off'+k * 7+3,none⟩=some (.bool m[k].part.core.broken)/\w'.cell? ⟨b',off'+k * 7+4,none⟩=some (.slice B4 m[k].part.core.cells.length dap4)/\w'.cell? ⟨b',off'+k * 7+5,none⟩=some (.int .i64 m[k].part.core.count)/\w'.cell? ⟨b',off'+k * 7+6,none⟩=some (.slice B6 m[k].part.layers.length dap6)/\Chg [] wr w') (first|exact⟨q0,q1,q2,q3,q4,q5,q6,p0,p1,p2,p3,p4,p5,p6,(Chg.refl _ _).drew⟩|exact⟨(c1.cell (p:=⟨b,off+k * 7,none⟩) hbb.1 (by simp)).trans q0,(c1.cell (p:=⟨b,off+k * 7+1,none⟩) hbb.1 (by simp)).trans q1,(c1.cell (p:=⟨b,off+k * 7+2,none⟩) hbb.1 (by simp)).trans q2,(c1.cell (p:=⟨b,off+k * 7+3,none⟩) hbb.1 (by simp)).trans q3,(c1.cell (p:=⟨b,off+k * 7+4,none⟩) hbb.1 (by simp)).trans q4,(c1.cell (p:=⟨b,off+k * 7+5,none⟩) hbb.1 (by simp)).trans q5,(c1.cell (p:=⟨b,off+k * 7+6,none⟩) hbb.1 (by simp)).trans q6,(c1.cell (p:=⟨b',off'+k * 7,none⟩) hbb.2 (by simp)).trans p0,(c1.cell (p:=⟨b',off'+k * 7+1,none⟩) hbb.2 (by simp)).trans p1,(c1.cell (p:=⟨b',off'+k * 7+2,none⟩) hbb.2 (by simp)).trans p2,(c1.cell (p:=⟨b',off'+k * 7+3,none⟩) hbb.2 (by simp)).trans p3,(c1.cell (p:=⟨b',off'+k * 7+4,none⟩) hbb.2 (by simp)).trans p4,(c1.cell (p:=⟨b',off'+k * 7+5,none⟩) hbb.2 (by simp)).trans p5,(c1.cell (p:=⟨b',off'+k * 7+6,none⟩) hbb.2 (by simp)).trans p6,(Chg.refl _ _).drew.trans0 c1⟩) ((go_at_call 50;refine(PT.out _ ((Chg.refl _ _).drew)).mono ?_;rintro e w1 ⟨t,rfl,ht,c1⟩))
     have E:Chg [] wr w1:=(Chg.refl _ _).drew.trans0 c1
     have HT:=hid ht
     clear ht
     cases t
     ·go_wp2_with fail
      go_ret
      exact⟨false,rfl,⟨(fun h=>by cases h),(fun h=>by subst h;have:=HT.out.2 rfl;cases this)⟩,hc.trans0 E⟩
     ·go_wp2_with fail
      go_roundw
      case rel=>exact⟨k+1,by omega,by go_num,hc.trans0 E,take_next hq.out hlt hlt' (slot_ext HF.out (HT.out.1 rfl))⟩
      case measure=>simp [intOf];omega
    ·have hfB:(l[k].full !=m[k].full)=true:=by cases h1:l[k].full<;>cases h2:m[k].full<;>simp_all
     have hfC:(l[k].full==m[k].full)=false:=by cases h1:l[k].full<;>cases h2:m[k].full<;>simp_all
     have HF:=hid hf
     clear hf
     go_wp2_with fail
     go_quiet (fail)
     go_wp2_with fail
     go_ret
     exact⟨false,rfl,⟨(fun h=>by cases h),(fun h=>absurd (by subst h;rfl) HF.out)⟩,hc.drewN _⟩
   ·obtain rfl:k=l.length:=by omega
    go_wp2_with fail
    go_ret
    refine⟨true,rfl,⟨fun _=>?_,fun _=>rfl⟩,hc⟩
    have h1:=hq.out
    rwa [List.take_length,HL.out,List.take_length] at h1
 ·have hlB:((l.length:Int) !=m.length)=true:=by simp;omega
  go_enter Tryz.func14,Tryz.ntmps14
  go_wp2_with fail
  go_ret
  exact⟨false,rfl,⟨(fun h=>by cases h),(fun h=>absurd (congrArg List.length h) hl)⟩,Chg.refl _ _⟩
/-- The world stands as it was. -/
def Still (w wr:World):Prop:=wr=w
/-- A bool that tells p; the world stands as it is. -/
def BoolIs (p:Prop) (w:World) (e:Ending) (w':World):Prop:=∃t:Bool,e= .returned (.bool t)/\(t=true↔p)/\w'=w
theorem BoolIs.pos {p:Prop} {w:World} (h:p) (e:Ending) (w':World) (hb:BoolIs p w e w'):e= .returned (.bool true)/\w'=w:=by
 obtain⟨t,rfl,ht,c⟩:=hb
 obtain rfl:t=true:=ht.2 h
 exact⟨rfl,c⟩
theorem BoolIs.neg {p:Prop} {w:World} (h:¬p) (e:Ending) (w':World) (hb:BoolIs p w e w'):e= .returned (.bool false)/\w'=w:=by
 obtain⟨t,rfl,ht,c⟩:=hb
 cases t
 ·exact⟨rfl,c⟩
 ·exact absurd (ht.1 rfl) h
theorem BoolPost.pos {p:Prop} {w:World} (h:p) (e:Ending) (w':World) (hb:BoolPost p w e w'):e= .returned (.bool true)/\Chg [] w w':=by
 obtain⟨t,rfl,ht,c⟩:=hb
 obtain rfl:t=true:=ht.2 h
 exact⟨rfl,c⟩
theorem BoolPost.neg {p:Prop} {w:World} (h:¬p) (e:Ending) (w':World) (hb:BoolPost p w e w'):e= .returned (.bool false)/\Chg [] w w':=by
 obtain⟨t,rfl,ht,c⟩:=hb
 cases t
 ·exact⟨rfl,c⟩
 ·exact absurd (ht.1 rfl) h
theorem BoolIs.chg {p:Prop} {w:World} (e:Ending) (w':World) (hb:BoolIs p w e w'):BoolPost p w e w':=by
 obtain⟨t,rfl,ht,rfl⟩:=hb
 exact⟨t,rfl,ht,Chg.refl _ _⟩
/-- May byte b stand in place i of a name? -/
def nmByte (i:Nat) (b:UInt8):Prop:=(97<=b.toNat/\b.toNat<=122)∨(0<i/\48<=b.toNat/\b.toNat<=57)
/-- A name. -/
def IsNm (s:ByteArray):Prop:=1<=s.size/\s.size<=8/\∀(i:Nat) (h:i<s.size),nmByte i s[i]
/-- A number of the program. -/
def IsNum (n:Int):Prop:=0<=n/\n<=999

theorem l1Letter_any (b:UInt8) (first:Bool) (w:World):
  Calls Tryz.prog 222 #[.int .u8 b.toNat,.bool first] w (BoolIs ((97<=b.toNat/\b.toNat<=122)∨(first=false/\48<=b.toNat/\b.toNat<=57)) w):=by
 go_enter Tryz.func222,Tryz.ntmps222
 go_wp2_with fail
 all_goals(go_ret;refine⟨_,rfl,?_,rfl⟩;simp;try omega)
theorem isNumber_any (n:Int) (w:World):
  Calls Tryz.prog 87 #[.int .i64 n] w (BoolIs (IsNum n) w):=by
 go_enter Tryz.func87,Tryz.ntmps87
 go_wp2_with fail
 all_goals(go_ret;refine⟨_,rfl,?_,rfl⟩;unfold IsNum;simp;try omega)
theorem isName_spec_any (s:ByteArray) (w:World) (hs:s.size<=1048576):
  Calls Tryz.prog 202 #[.string s] w (BoolIs (IsNm s) w):=by
 go_enter Tryz.func202,Tryz.ntmps202
 go_wp2_with fail
 go_loopw [3] (fun i wr=>∃k:Nat,k<=s.size/\i= .int .i64 k/\(∀(j:Nat) (h:j<s.size),j<k->nmByte j s[j])/\Still w wr) (fun i _=>s.size-(intOf i).toNat)
 case atStart=>exact⟨0,Nat.zero_le _,rfl,fun j h h0=>absurd h0 (Nat.not_lt_zero _),rfl⟩
 case round=>
  obtain⟨k,hk,rfl,HN,rfl⟩:=hrel
  have HN:=hid HN
  by_cases hlt:k<s.size
  ·go_wp2_with fail
   refine(l1Letter_any s[k] ((k:Int)==0) wr).mono ?_
   rintro e w1 ⟨t,rfl,ht,rfl⟩
   have hb:t=true↔nmByte k s[k]:=by
    rw [ht];unfold nmByte
    rw [beq_eq_false_iff_ne]
    omega
   have HT:=hid hb
   clear ht hb
   cases t
   ·go_wp2_with fail
    go_ret
    refine⟨_,rfl,⟨fun h=>by simp at h,fun h=>?_⟩,rfl⟩
    have:=HT.out.2 (h.2.2 k hlt)
    simp at this
   ·go_wp2_with fail
    go_roundw
    case rel=>exact⟨k+1,by omega,by go_num,fun j h hj=>(Nat.lt_succ_iff_lt_or_eq.1 hj).elim (HN.out j h) (fun e=>by subst e;exact HT.out.1 (by simp)),rfl⟩
    case measure=>simp [intOf];omega
  ·obtain rfl:k=s.size:=by omega
   go_wp2_with fail
   all_goals(go_ret;refine⟨_,rfl,?_,rfl⟩;have hall:∀(i:Nat) (h:i<s.size),nmByte i s[i]:=fun i h=>HN.out i h h;unfold IsNm;simp [hall];try omega)
theorem isName_impl_any (s:ByteArray) (w:World) (hs:s.size<=1048576):
  Calls Tryz.prog 170 #[.string s] w (BoolIs (IsNm s) w):=by
 go_enter Tryz.func170,Tryz.ntmps170
 go_wp2_with fail
 ·go_ret
  refine⟨_,rfl,⟨fun h=>by simp at h,fun h=>?_⟩,rfl⟩
  have h0:0<s.size:=by assumption
  have:=h.1;have:=h.2.1;have:=h.2.2 0 h0;unfold nmByte at this;omega
 ·go_loopw [3] (fun i wr=>∃k:Nat,k<=s.size/\i= .int .i64 k/\(∀(j:Nat) (h:j<s.size),j<k->nmByte j s[j])/\Still w wr) (fun i _=>s.size-(intOf i).toNat)
  case atStart=>exact⟨0,Nat.zero_le _,rfl,fun j h h0=>absurd h0 (Nat.not_lt_zero _),rfl⟩
  case round=>
   obtain⟨k,hk,rfl,HN,rfl⟩:=hrel
   have HN:=hid HN
   by_cases hlt:k<s.size
   ·have hk0:k=0->97<=s[k].toNat/\s[k].toNat<=122:=fun e=>by subst e;omega
    go_wp2_with fail
    all_goals first
     | (go_roundw
        case rel=>exact⟨k+1,by omega,by go_num,fun j h hj=>(Nat.lt_succ_iff_lt_or_eq.1 hj).elim (HN.out j h) (fun e=>by subst e;unfold nmByte;omega),rfl⟩
        case measure=>simp [intOf];omega)
     | (go_ret
        refine⟨_,rfl,⟨fun h=>by simp at h,fun h=>?_⟩,rfl⟩
        have:=h.2.2 k hlt;unfold nmByte at this;omega)
   ·obtain rfl:k=s.size:=by omega
    go_wp2_with fail
    go_ret
    refine⟨_,rfl,⟨fun _=>⟨by omega,by omega,fun i h=>HN.out i h h⟩,fun _=>rfl⟩,rfl⟩
 all_goals
  go_ret
  refine⟨_,rfl,⟨fun h=>by simp at h,fun h=>?_⟩,rfl⟩
  have:=h.1;have:=h.2.1
  first
   |omega
   |(have:=h.2.2 0 (by omega);unfold nmByte at this;omega)
/-- What a table of names tells. -/
def look {α:Type} (s:List UInt8):List (List UInt8×α)->Option α
 | []=>none
 |(n,x)::r=>if s=n then some x else look s r
def kinds:List (List UInt8×Int):=[([115,116,111,110,101],0),([108,97,109,112],1),([115,104,101,108,102],2),([109,101,116,101,114],5),([100,114,97,119,101,114],3),([104,111,114,110],9),([118,97,117,108,116],19),([114,111,98,111,116],63)]
def kindOf (s:ByteArray):Option Int:=look s.toList kinds
def layerTab:List (List UInt8×(Int×Int)):=[([112,108,97,105,110],(0,0)),([114,117,110,115],(1,1)),([107,101,101,112,115],(2,2)),([99,111,117,110,116,115],(2,6)),([108,97,122,121],(3,3)),([114,101,97,100,115],(2,2)),([104,101,97,114,115],(1,9)),([104,101,97,108,115],(1,33)),([116,119,105,99,101],(4,4))]
def layerOf (s:ByteArray):Option (Int×Int):=look s.toList layerTab
/-- A number, and whether there is one; the world stands as it is. -/
def OptIs (o:Option Int) (w:World) (e:Ending) (w':World):Prop:=e= .returned (.tuple #[.int .i64 (o.getD 0),.bool o.isSome])/\w'=w
def Opt2Is (o:Option (Int×Int)) (w:World) (e:Ending) (w':World):Prop:=e= .returned (.tuple #[.int .i64 (o.getD (0,0)).1,.int .i64 (o.getD (0,0)).2,.bool o.isSome])/\w'=w
/-- A number, and whether there is one. -/
def OptPost (o:Option Int) (w:World) (e:Ending) (w':World):Prop:=e= .returned (.tuple #[.int .i64 (o.getD 0),.bool o.isSome])/\Chg [] w w'
/-- Two numbers, and whether there are any. -/
def Opt2Post (o:Option (Int×Int)) (w:World) (e:Ending) (w':World):Prop:=e= .returned (.tuple #[.int .i64 (o.getD (0,0)).1,.int .i64 (o.getD (0,0)).2,.bool o.isSome])/\Chg [] w w'
theorem OptPost.of {f o:Option Int} {w w':World} {e:Ending} (h:f=o) (he:e= .returned (.tuple #[.int .i64 (o.getD 0),.bool o.isSome])) (hc:Chg [] w w'):OptPost f w e w':=by subst h;exact⟨he,hc⟩
theorem Opt2Post.of {f o:Option (Int×Int)} {w w':World} {e:Ending} (h:f=o) (he:e= .returned (.tuple #[.int .i64 (o.getD (0,0)).1,.int .i64 (o.getD (0,0)).2,.bool o.isSome])) (hc:Chg [] w w'):Opt2Post f w e w':=by subst h;exact⟨he,hc⟩
theorem OptIs.of {f o:Option Int} {w w':World} {e:Ending} (h:f=o) (he:e= .returned (.tuple #[.int .i64 (o.getD 0),.bool o.isSome])) (hc:w'=w):OptIs f w e w':=by subst h;exact⟨he,hc⟩
theorem Opt2Is.of {f o:Option (Int×Int)} {w w':World} {e:Ending} (h:f=o) (he:e= .returned (.tuple #[.int .i64 (o.getD (0,0)).1,.int .i64 (o.getD (0,0)).2,.bool o.isSome])) (hc:w'=w):Opt2Is f w e w':=by subst h;exact⟨he,hc⟩
theorem look_hit {α:Type} {s n:List UInt8} {x:α} {r:List (List UInt8×α)} (h:(s==n)=true):look s ((n,x)::r)=some x:=if_pos (by simpa using h)
theorem look_miss {α:Type} {s n:List UInt8} {x:α} {r:List (List UInt8×α)} (h:(s==n)=false):look s ((n,x)::r)=look s r:=if_neg (by simpa using h)
theorem look_nil {α:Type} {s:List UInt8}:look s ([]:List (List UInt8×α))=none:=rfl
theorem layerOf_hit {s:ByteArray} {l:List UInt8} {x:Int×Int} (h:look l layerTab=some x) (hs:(s.toList==l)=true):layerOf s=some x:=by
 rw [layerOf,beq_iff_eq.1 hs,h]
theorem look_at {α:Type} {s:List UInt8}:∀ {l:List (List UInt8×α)} {k:Nat} {x:List UInt8×α},l[k]?=some x->(∀j y,j<k->l[j]?=some y->s≠y.1)->s=x.1->look s l=some x.2
 | [],k,x,h,_,_=>by simp at h
 |y::l,0,x,h,_,e=>by simp at h;subst h;rw [look,if_pos e]
 |y::l,k+1,x,h,hn,e=>by
  rw [look,if_neg (hn 0 y (by omega) rfl)]
  exact look_at (k:=k) (by simpa using h) (fun j z hj hz=>hn (j+1) z (by omega) (by simpa using hz)) e
theorem look_none {α:Type} {s:List UInt8}:∀ {l:List (List UInt8×α)},(∀j y,j<l.length->l[j]?=some y->s≠y.1)->look s l=none
 | [],_=>rfl
 |y::l,h=>by
  rw [look,if_neg (h 0 y (by simp) rfl)]
  exact look_none (fun j z hj hz=>h (j+1) z (by simpa using hj) (by simpa using hz))
theorem cell_lit (w:World) (vs:Array Value) (e:TypeId) {k:Nat} {v:Value} (h:vs[k]?=some v):(w.alloc (.cells vs e)).cell? ⟨w.heap.size,k,none⟩=some v:=by
 rw [cell_of_row (w.alloc (.cells vs e)) w.heap.size k vs e (0,0) (heap_alloc_new w _)]
 exact h

theorem kindFace_impl_any (s:ByteArray) (w:World):
  Calls Tryz.prog 89 #[.string s] w (OptIs (kindOf s) w):=by
 go_enter Tryz.func89,Tryz.ntmps89
 go_wp2_with fail
 ·go_ret2
  exact OptIs.of (o:=some 0) (by unfold kindOf kinds;repeat(first|exact look_hit (by assumption)|refine Eq.trans (look_miss (by assumption)) ?_|exact look_nil)) rfl rfl
 ·go_ret2
  exact OptIs.of (o:=some 1) (by unfold kindOf kinds;repeat(first|exact look_hit (by assumption)|refine Eq.trans (look_miss (by assumption)) ?_|exact look_nil)) rfl rfl
 ·go_ret2
  exact OptIs.of (o:=some 2) (by unfold kindOf kinds;repeat(first|exact look_hit (by assumption)|refine Eq.trans (look_miss (by assumption)) ?_|exact look_nil)) rfl rfl
 ·go_ret2
  exact OptIs.of (o:=some 5) (by unfold kindOf kinds;repeat(first|exact look_hit (by assumption)|refine Eq.trans (look_miss (by assumption)) ?_|exact look_nil)) rfl rfl
 ·go_ret2
  exact OptIs.of (o:=some 3) (by unfold kindOf kinds;repeat(first|exact look_hit (by assumption)|refine Eq.trans (look_miss (by assumption)) ?_|exact look_nil)) rfl rfl
 ·go_ret2
  exact OptIs.of (o:=some 9) (by unfold kindOf kinds;repeat(first|exact look_hit (by assumption)|refine Eq.trans (look_miss (by assumption)) ?_|exact look_nil)) rfl rfl
 ·go_ret2
  exact OptIs.of (o:=some 19) (by unfold kindOf kinds;repeat(first|exact look_hit (by assumption)|refine Eq.trans (look_miss (by assumption)) ?_|exact look_nil)) rfl rfl
 ·go_ret2
  exact OptIs.of (o:=some 63) (by unfold kindOf kinds;repeat(first|exact look_hit (by assumption)|refine Eq.trans (look_miss (by assumption)) ?_|exact look_nil)) rfl rfl
 ·go_ret2
  exact OptIs.of (o:=none) (by unfold kindOf kinds;repeat(first|exact look_hit (by assumption)|refine Eq.trans (look_miss (by assumption)) ?_|exact look_nil)) rfl rfl
theorem layerFaces_impl_any (s:ByteArray) (w:World):
  Calls Tryz.prog 86 #[.string s] w (Opt2Is (layerOf s) w):=by
 go_enter Tryz.func86,Tryz.ntmps86
 go_wp2_with fail
 all_goals
  go_ret3
  first
   | (exfalso
      have h1:(s.toList== [107,101,101,112,115])=true:=by assumption
      have h2:(s.toList== [107,101,101,112,115])=false:=by assumption
      rw [h1] at h2
      cases h2)
   |exact Opt2Is.of (o:=some (0,0)) (layerOf_hit (l:=[112,108,97,105,110]) rfl (by assumption)) rfl rfl
   |exact Opt2Is.of (o:=some (1,1)) (layerOf_hit (l:=[114,117,110,115]) rfl (by assumption)) rfl rfl
   |exact Opt2Is.of (o:=some (2,2)) (layerOf_hit (l:=[107,101,101,112,115]) rfl (by assumption)) rfl rfl
   |exact Opt2Is.of (o:=some (2,6)) (layerOf_hit (l:=[99,111,117,110,116,115]) rfl (by assumption)) rfl rfl
   |exact Opt2Is.of (o:=some (3,3)) (layerOf_hit (l:=[108,97,122,121]) rfl (by assumption)) rfl rfl
   |exact Opt2Is.of (o:=some (2,2)) (layerOf_hit (l:=[114,101,97,100,115]) rfl (by assumption)) rfl rfl
   |exact Opt2Is.of (o:=some (1,9)) (layerOf_hit (l:=[104,101,97,114,115]) rfl (by assumption)) rfl rfl
   |exact Opt2Is.of (o:=some (1,33)) (layerOf_hit (l:=[104,101,97,108,115]) rfl (by assumption)) rfl rfl
   |exact Opt2Is.of (o:=some (4,4)) (layerOf_hit (l:=[116,119,105,99,101]) rfl (by assumption)) rfl rfl
   |exact Opt2Is.of (o:=none) (by unfold layerOf layerTab;repeat(first|refine Eq.trans (look_miss (by assumption)) ?_|exact look_nil)) rfl rfl
/-- A block that holds the names of a table. -/
def NamesAt {α:Type} (w:World) (g:Nat) (l:List (List UInt8×α)):Prop:=∀j y,l[j]?=some y->w.cell? ⟨g,j,none⟩=some (.string ⟨y.1.toArray⟩)
theorem namesAt_kinds (w:World) (e:TypeId):NamesAt (w.alloc (.cells (kinds.map fun y=>Value.string ⟨y.1.toArray⟩).toArray e)) w.heap.size kinds:=by
 intro j y hj
 exact cell_lit _ _ _ (by simp [hj])
theorem namesAt_layers (w:World) (e:TypeId):NamesAt (w.alloc (.cells (layerTab.map fun y=>Value.string ⟨y.1.toArray⟩).toArray e)) w.heap.size layerTab:=by
 intro j y hj
 exact cell_lit _ _ _ (by simp [hj])
theorem kindFace_spec_any (s:ByteArray) (w:World):
  Calls Tryz.prog 112 #[.string s] w (OptPost (kindOf s) w):=by
 go_enter Tryz.func112,Tryz.ntmps112
 go_wp2_with fail
 go_loopw [8] (fun i wr=>∃k:Nat,k<=8/\i= .int .i64 k/\(∀j y,j<k->kinds[j]?=some y->s.toList≠y.1)/\Chg [] w wr/\w.heap.size<wr.heap.size/\NamesAt wr w.heap.size kinds) (fun i _=>8-(intOf i).toNat)
 case atStart=>exact⟨0,by omega,rfl,fun j y h=>absurd h (Nat.not_lt_zero _),(Chg.refl _ _).alloc _,by simp,namesAt_kinds w _⟩
 case round=>
  obtain⟨k,hk,rfl,HN,hc,hg,HA⟩:=hrel
  have HN:=hid HN
  have HA:=hid HA
  by_cases hlt:k<8
  ·obtain⟨y,hy⟩:∃y,kinds[k]?=some y:=⟨kinds[k]'hlt,List.getElem?_eq_getElem hlt⟩
   have hcell:=HA.out k y hy
   have HY:=hid hy
   clear hy
   go_wp2_with fail
   ·go_ret2
    apply OptPost.of
    case h=>exact look_at HY.out HN.out (beq_iff_eq.1 (by assumption)).symm
    case he=>
     have hy:=HY.out
     match k,hlt,hy with
     |0,_,hy|1,_,hy|2,_,hy|3,_,hy|4,_,hy|5,_,hy|6,_,hy|7,_,hy=>cases hy;rfl
    case hc=>exact hc.alloc _
   ·go_roundw
    case rel=>exact⟨k+1,by omega,by go_num,fun j z hj hz=>(Nat.lt_succ_iff_lt_or_eq.1 hj).elim (fun h=>HN.out j z h hz) (fun e=>by subst e;have:=HY.out;rw [hz] at this;cases this;exact fun e=>by simp_all),hc,hg,HA.out⟩
    case measure=>simp [intOf];omega
  ·obtain rfl:k=8:=by omega
   go_wp2_with fail
   go_ret2
   exact OptPost.of (look_none (fun j y hj hy=>HN.out j y (by simpa [kinds] using hj) hy)) rfl hc
theorem l4Row_any (s:ByteArray) (w:World):
  Calls Tryz.prog 116 #[.string s] w (Opt2Post (layerOf s) w):=by
 go_enter Tryz.func116,Tryz.ntmps116
 go_wp2_with fail
 go_loopw [11] (fun i wr=>∃k:Nat,k<=9/\i= .int .i64 k/\(∀j y,j<k->layerTab[j]?=some y->s.toList≠y.1)/\Chg [] w wr/\w.heap.size<wr.heap.size/\NamesAt wr w.heap.size layerTab) (fun i _=>9-(intOf i).toNat)
 case atStart=>exact⟨0,by omega,rfl,fun j y h=>absurd h (Nat.not_lt_zero _),(Chg.refl _ _).alloc _,by simp,namesAt_layers w _⟩
 case round=>
  obtain⟨k,hk,rfl,HN,hc,hg,HA⟩:=hrel
  have HN:=hid HN
  have HA:=hid HA
  by_cases hlt:k<9
  ·obtain⟨y,hy⟩:∃y,layerTab[k]?=some y:=⟨layerTab[k]'hlt,List.getElem?_eq_getElem hlt⟩
   have hcell:=HA.out k y hy
   have HY:=hid hy
   clear hy
   go_wp2_with fail
   ·go_region
    all_goals(try go_wp2)
    all_goals
     go_ret3
     apply Opt2Post.of
     case h=>exact look_at HY.out HN.out (beq_iff_eq.1 (by assumption)).symm
     case he=>
      have hy:=HY.out
      match k,hlt,hy with
      |0,_,hy|1,_,hy|2,_,hy|3,_,hy|4,_,hy|5,_,hy|6,_,hy|7,_,hy|8,_,hy=>cases hy;rfl
     case hc=>first|exact((hc.drew.alloc _).alloc _)|exact((hc.alloc _).alloc _).drew|exact((hc.alloc _).drew.alloc _)
   ·go_roundw
    case rel=>exact⟨k+1,by omega,by go_num,fun j z hj hz=>(Nat.lt_succ_iff_lt_or_eq.1 hj).elim (fun h=>HN.out j z h hz) (fun e=>by subst e;have:=HY.out;rw [hz] at this;cases this;exact fun e=>by simp_all),hc,hg,HA.out⟩
    case measure=>simp [intOf];omega
  ·obtain rfl:k=9:=by omega
   go_wp2_with fail
   go_ret3
   exact Opt2Post.of (look_none (fun j y hj hy=>HN.out j y (by simpa [layerTab] using hj) hy)) rfl hc
theorem layerNeeds_spec_any (s:ByteArray) (w:World):
  Calls Tryz.prog 120 #[.string s] w (OptPost ((layerOf s).map (·.1)) w):=by
 go_enter Tryz.func120,Tryz.ntmps120
 go_wp2_with fail
 refine(l4Row_any s w).mono ?_
 rintro e w1 ⟨rfl,c1⟩
 go_wp2_with fail
 go_ret2
 refine⟨?_,c1⟩
 cases layerOf s<;>rfl
def IsF (f:Int):Prop:=0<=f/\f<=63
/-- Is ability k in face f? -/
def has (f:Int) (k:Nat):Bool:=f / (2 ^ k:Nat) % 2==1
def Offer (f want:Int):Prop:=IsF f/\IsF want/\∀k:Fin 6,has want k=true->has f k=true
instance (f want:Int):Decidable (Offer f want):=inferInstanceAs (Decidable ((_/\_)/\(_/\_)/\_))

theorem offer_bits:∀f g:Fin 64,(bits .andNot .i64 ((g.1:Nat):Int) ((f.1:Nat):Int)==0)=decide (∀k:Fin 6,has ((g.1:Nat):Int) k=true->has ((f.1:Nat):Int) k=true):=by decide+kernel

theorem isFace_spec_any (f:Int) (w:World):
  Calls Tryz.prog 128 #[.int .i64 f] w (BoolIs (IsF f) w):=by
 go_enter Tryz.func128,Tryz.ntmps128
 go_wp2_with fail
 all_goals(go_ret;refine⟨_,rfl,?_,rfl⟩;unfold IsF;simp;try omega)
theorem isFace_impl_any (f:Int) (w:World):
  Calls Tryz.prog 55 #[.int .i64 f] w (BoolIs (IsF f) w):=by
 go_enter Tryz.func55,Tryz.ntmps55
 go_wp2_with fail
 all_goals(go_ret;refine⟨_,rfl,?_,rfl⟩;unfold IsF;simp;try omega)
theorem l2Has_any (f:Int) (k:Nat) (w:World) (hf:IsF f) (hk:k<6):
  Calls Tryz.prog 113 #[.int .i64 f,.int .i64 k] w (BoolIs (has f k=true) w):=by
 obtain⟨h0,h1⟩:=hf
 obtain rfl|rfl|rfl|rfl|rfl|rfl:k=0∨k=1∨k=2∨k=3∨k=4∨k=5:=by omega
 all_goals
  go_enter Tryz.func113,Tryz.ntmps113
  go_wp2_with fail
  all_goals(go_ret;refine⟨_,rfl,?_,rfl⟩;unfold has;simp)
theorem offers_impl_any (f want:Int) (w:World):
  Calls Tryz.prog 20 #[.int .i64 f,.int .i64 want] w (BoolIs (Offer f want) w):=by
 go_enter Tryz.func20,Tryz.ntmps20
 go_wp2_with fail
 refine(isFace_impl_any f w).mono ?_
 rintro e w1 ⟨t,rfl,ht,rfl⟩
 have HT:=hid ht
 clear ht
 cases t
 ·go_wp2_with fail
  go_ret
  refine⟨_,rfl,⟨fun h=>by simp at h,fun h=>?_⟩,rfl⟩
  have:=HT.out.2 h.1;simp at this
 ·go_wp2_with fail
  refine(isFace_impl_any want w1).mono ?_
  rintro e w2 ⟨t,rfl,ht2,rfl⟩
  have HT2:=hid ht2
  clear ht2
  cases t
  ·go_wp2_with fail
   go_ret
   refine⟨_,rfl,⟨fun h=>by simp at h,fun h=>?_⟩,rfl⟩
   have:=HT2.out.2 h.2.1;simp at this
  ·obtain⟨f0,f1⟩:=HT.out.1 (by simp)
   obtain⟨g0,g1⟩:=HT2.out.1 (by simp)
   go_wp2_with fail
   go_ret
   refine⟨_,rfl,?_,rfl⟩
   have:=offer_bits ⟨f.toNat,by omega⟩ ⟨want.toNat,by omega⟩
   simp only [Int.toNat_of_nonneg f0,Int.toNat_of_nonneg g0] at this
   rw [this]
   unfold Offer IsF
   simp only [decide_eq_true_eq]
   exact⟨fun h=>⟨⟨f0,f1⟩,⟨g0,g1⟩,h⟩,fun h=>h.2.2⟩
theorem offers_spec_any (f want:Int) (w:World):
  Calls Tryz.prog 118 #[.int .i64 f,.int .i64 want] w (BoolIs (Offer f want) w):=by
 go_enter Tryz.func118,Tryz.ntmps118
 go_wp2_with fail
 refine(isFace_spec_any f w).mono ?_
 rintro e w1 ⟨t,rfl,ht,rfl⟩
 have HT:=hid ht
 clear ht
 cases t
 ·go_wp2_with fail
  go_ret
  refine⟨_,rfl,⟨fun h=>by simp at h,fun h=>?_⟩,rfl⟩
  have:=HT.out.2 h.1;simp at this
 ·go_wp2_with fail
  refine(isFace_spec_any want w1).mono ?_
  rintro e w2 ⟨t,rfl,ht2,rfl⟩
  have HT2:=hid ht2
  clear ht2
  cases t
  ·go_wp2_with fail
   go_ret
   refine⟨_,rfl,⟨fun h=>by simp at h,fun h=>?_⟩,rfl⟩
   have:=HT2.out.2 h.2.1;simp at this
  ·have hf:=hid (HT.out.1 (by simp))
   have hw:=hid (HT2.out.1 (by simp))
   go_wp2_with fail
   go_loopw [5] (fun i wr=>∃k:Nat,k<=6/\i= .int .i64 k/\(∀j,j<k->has want j=true->has f j=true)/\Still w2 wr) (fun i _=>6-(intOf i).toNat)
   case atStart=>exact⟨0,by omega,rfl,fun j h=>absurd h (Nat.not_lt_zero _),rfl⟩
   case round=>
    obtain⟨k,hk,rfl,HN,rfl⟩:=hrel
    have HN:=hid HN
    by_cases hlt:k<6
    ·go_wp2_with fail
     refine(l2Has_any want k _ hw.out hlt).mono ?_
     rintro e w3 ⟨t,rfl,ht3,rfl⟩
     have HT3:=hid ht3
     clear ht3
     cases t
     ·go_wp2_with fail
      go_roundw
      case rel=>exact⟨k+1,by omega,by go_num,fun j hj hj2=>(Nat.lt_succ_iff_lt_or_eq.1 hj).elim (fun h=>HN.out j h hj2) (fun e=>by subst e;have:=HT3.out.2 hj2;simp at this),rfl⟩
      case measure=>simp [intOf];omega
     ·go_wp2_with fail
      refine(l2Has_any f k _ hf.out hlt).mono ?_
      rintro e w4 ⟨t,rfl,ht4,rfl⟩
      have HT4:=hid ht4
      clear ht4
      cases t
      ·go_wp2_with fail
       go_ret
       refine⟨_,rfl,⟨fun h=>by simp at h,fun h=>?_⟩,rfl⟩
       have:=HT4.out.2 (h.2.2 ⟨k,hlt⟩ (HT3.out.1 (by simp)));simp at this
      ·go_wp2_with fail
       go_roundw
       case rel=>exact⟨k+1,by omega,by go_num,fun j hj hj2=>(Nat.lt_succ_iff_lt_or_eq.1 hj).elim (fun h=>HN.out j h hj2) (fun e=>by subst e;exact HT4.out.1 (by simp)),rfl⟩
       case measure=>simp [intOf];omega
    ·obtain rfl:k=6:=by omega
     go_wp2_with fail
     go_ret
     exact⟨_,rfl,⟨fun _=>⟨hf.out,hw.out,fun j hj=>HN.out j j.2 hj⟩,fun _=>rfl⟩,rfl⟩
/-- What is asked of cell k of a list. -/
def CellAt (l:List CellT) (k:Nat) (h:k<l.length):Prop:=IsNm l[k].key/\IsNum l[k].value/\(0<k->Op.bytesLess (l[k-1]'(by omega)).key.toList l[k].key.toList=true)
def CellsOk (l:List CellT):Prop:=l.length<=4/\∀(k:Nat) (h:k<l.length),CellAt l k h
theorem geq_string (a b:ByteArray) (W:World):(binOp .geq 9 (.string a) (.string b)).run Tryz.prog W= .ok (.bool (!Op.bytesLess a.toList b.toList)) W:=by
 simp [binOp,go_sem,Op.stringOp]
theorem isCells_impl_any (l:List CellT) (u:Value) (B:Nat) (w:World) (r:Rd w B (cells l) u) (hB:B<=w.heap.size) (hl:l.length<=1048576) (hs:∀c∈l,c.key.size<=1048576):
  Calls Tryz.prog 133 #[u] w (BoolPost (CellsOk l) w):=by
 obtain⟨A,cap,rfl,h0,h1,hrow⟩:=cells_row r
 unfold maxLen at h1
 clear r
 go_enter Tryz.func133,Tryz.ntmps133
 go_wp2_with fail
 ·go_ret
  refine⟨_,rfl,⟨fun h=>by simp at h,fun h=>?_⟩,Chg.refl _ _⟩
  have:=h.1;omega
 ·have hl4:l.length<=4:=by omega
  go_loopw [10] (fun i wr=>∃k:Nat,k<=l.length/\i= .int .i64 k/\(∀(j:Nat) (h:j<l.length),j<k->CellAt l j h)/\Chg [] w wr) (fun i _=>l.length-(intOf i).toNat)
  case atStart=>exact⟨0,Nat.zero_le _,rfl,fun j h h0=>absurd h0 (Nat.not_lt_zero _),Chg.refl _ _⟩
  case round=>
   obtain⟨k,hk,rfl,HN,hc⟩:=hrel
   have HN:=hid HN
   by_cases hlt:k<l.length
   ·obtain⟨b,off,rfl,hb,q0,q1⟩:=cells_cells (hrow.chg0 hc hB) k hlt
    have hsz:=hc.size
    have hbw:b<wr.heap.size:=by omega
    have hnm:=fun W=>isName_impl_any l[k].key W (hs _ (List.getElem_mem hlt))
    by_cases n1:IsNm l[k].key
    ·have NM:=hid (fun W=>(hnm W).mono (BoolIs.pos n1))
     clear hnm
     have hnu:=fun W=>isNumber_any l[k].value W
     by_cases n2:IsNum l[k].value
     ·have NU:=hid (fun W=>(hnu W).mono (BoolIs.pos n2))
      clear hnu
      by_cases hk0:k=0
      ·have CA:Hid (CellAt l k hlt):=hid ⟨n1,n2,fun h=>absurd hk0 (by omega)⟩
       subst hk0
       simp only [Nat.zero_mul,Nat.add_zero] at q0 q1
       clear n1 n2
       go_wp2_with fail
       go_quiet (first|(go_at_call 170;exact Calls.quiet_of_same (NM.out _))|(go_at_call 87;exact Calls.quiet_of_same (NU.out _))|fail)
       go_wp2_with fail
       go_roundw
       case rel=>exact⟨0+1,by omega,by go_num,fun j h hj=>(Nat.lt_succ_iff_lt_or_eq.1 hj).elim (HN.out j h) (fun e=>by subst e;exact CA.out),hc.trans0 (((Chg.refl _ _).alloc _).drewN _)⟩
       case measure=>simp [intOf];omega
      ·have hkB:0<k:=by omega
       have hkD:decide (0<k)=true:=by simp;omega
       have hk1:(0:Int)<(k:Int):=by omega
       obtain⟨b',off',e',hb',p0,p1⟩:=cells_cells (hrow.chg0 hc hB) (k-1) (by omega)
       cases e'
       have hgeq:=geq_string (l[k-1]'(by omega)).key l[k].key
       have hkN:((k:Int) -1).toNat=k-1:=by omega
       have hi0:(0:Int)<=(k:Int) -1:=by omega
       have hi1:(k:Int) -1<(l.length:Int):=by omega
       have hiw:IntKind.i64.wrap ((k:Int) -1)=(k:Int) -1:=by simp [IntKind.wrap,IntKind.bits,IntKind.signed];omega
       by_cases n3:Op.bytesLess (l[k-1]'(by omega)).key.toList l[k].key.toList=true
       ·have CA:Hid (CellAt l k hlt):=hid ⟨n1,n2,fun _=>n3⟩
        clear n1 n2
        go_wp2_with fail
        go_quiet (first|(go_at_call 170;exact Calls.quiet_of_same (NM.out _))|(go_at_call 87;exact Calls.quiet_of_same (NU.out _))|fail)
        go_wp2_with fail
        go_roundw
        case rel=>exact⟨k+1,by omega,by go_num,fun j h hj=>(Nat.lt_succ_iff_lt_or_eq.1 hj).elim (HN.out j h) (fun e=>by subst e;exact CA.out),hc.trans0 (((Chg.refl _ _).alloc _).drewN _)⟩
        case measure=>simp [intOf];omega
       ·have CA:Hid (¬CellAt l k hlt):=hid (fun h=>n3 (h.2.2 (by omega)))
        clear n1 n2
        go_wp2_with fail
        go_quiet (first|(go_at_call 170;exact Calls.quiet_of_same (NM.out _))|(go_at_call 87;exact Calls.quiet_of_same (NU.out _))|fail)
        go_wp2_with fail
        go_ret
        refine⟨_,rfl,⟨fun h=>by simp at h,fun h=>?_⟩,hc.trans0 (((Chg.refl _ _).alloc _).drewN _)⟩
        exact(CA.out (h.2 k hlt)).elim
     ·have CA:Hid (¬CellAt l k hlt):=hid (fun h=>n2 h.2.1)
      have NU:=hid (fun W=>(hnu W).mono (BoolIs.neg n2))
      clear hnu n1 n2
      go_wp2_with fail
      go_quiet (first|(go_at_call 170;exact Calls.quiet_of_same (NM.out _))|(go_at_call 87;exact Calls.quiet_of_same (NU.out _))|fail)
      go_wp2_with fail
      go_ret
      refine⟨_,rfl,⟨fun h=>by simp at h,fun h=>?_⟩,hc.trans0 (((Chg.refl _ _).alloc _).drewN _)⟩
      exact(CA.out (h.2 k hlt)).elim
    ·have CA:Hid (¬CellAt l k hlt):=hid (fun h=>n1 h.1)
     have NM:=hid (fun W=>(hnm W).mono (BoolIs.neg n1))
     clear hnm n1
     go_wp2_with fail
     go_quiet (first|(go_at_call 170;exact Calls.quiet_of_same (NM.out _))|fail)
     go_wp2_with fail
     go_ret
     refine⟨_,rfl,⟨fun h=>by simp at h,fun h=>?_⟩,hc.trans0 (((Chg.refl _ _).alloc _).drewN _)⟩
     exact(CA.out (h.2 k hlt)).elim
   ·obtain rfl:k=l.length:=by omega
    go_wp2_with fail
    go_ret
    refine⟨_,rfl,⟨fun _=>⟨by omega,fun i h=>HN.out i h h⟩,fun _=>rfl⟩,hc⟩
theorem isCells_spec_any (l:List CellT) (u:Value) (B:Nat) (w:World) (r:Rd w B (cells l) u) (hB:B<=w.heap.size) (hl:l.length<=1048576) (hs:∀c∈l,c.key.size<=1048576):
  Calls Tryz.prog 195 #[u] w (BoolPost (CellsOk l) w):=by
 obtain⟨A,cap,rfl,h0,h1,hrow⟩:=cells_row r
 unfold maxLen at h1
 clear r
 go_enter Tryz.func195,Tryz.ntmps195
 go_wp2_with fail
 go_loopw [7] (fun i wr=>∃k:Nat,k<=l.length/\i= .int .i64 k/\(∀(j:Nat) (h:j<l.length),j<k->CellAt l j h)/\Chg [] w wr) (fun i _=>l.length-(intOf i).toNat)
 case atStart=>exact⟨0,Nat.zero_le _,rfl,fun j h h0=>absurd h0 (Nat.not_lt_zero _),Chg.refl _ _⟩
 case round=>
  obtain⟨k,hk,rfl,HN,hc⟩:=hrel
  have HN:=hid HN
  by_cases hlt:k<l.length
  ·obtain⟨b,off,rfl,hb,q0,q1⟩:=cells_cells (hrow.chg0 hc hB) k hlt
   have hsz:=hc.size
   have hbw:b<wr.heap.size:=by omega
   have hnm:=fun W=>isName_spec_any l[k].key W (hs _ (List.getElem_mem hlt))
   by_cases n1:IsNm l[k].key
   ·have NM:=hid (fun W=>(hnm W).mono (BoolIs.pos n1))
    clear hnm
    by_cases n2:IsNum l[k].value
    ·have v1:0<=l[k].value:=n2.1
     have v2:l[k].value<=999:=n2.2
     have v3:decide (l[k].value<0)=false:=by simp;omega
     have v4:decide (999<l[k].value)=false:=by simp;omega
     by_cases hk0:k=0
     ·have CA:Hid (CellAt l k hlt):=hid ⟨n1,n2,fun h=>absurd hk0 (by omega)⟩
      subst hk0
      simp only [Nat.zero_mul,Nat.add_zero] at q0 q1
      clear n1 n2
      go_wp2_with fail
      go_quiet (first|(go_at_call 202;exact Calls.quiet_of_same (NM.out _))|fail)
      go_wp2_with fail
      go_roundw
      case rel=>exact⟨0+1,by omega,by go_num,fun j h hj=>(Nat.lt_succ_iff_lt_or_eq.1 hj).elim (HN.out j h) (fun e=>by subst e;exact CA.out),hc.trans0 (((Chg.refl _ _).alloc _).drewN _)⟩
      case measure=>simp [intOf];omega
     ·have hkB:0<k:=by omega
      have hkD:decide (0<k)=true:=by simp;omega
      have hk1:(0:Int)<(k:Int):=by omega
      obtain⟨b',off',e',hb',p0,p1⟩:=cells_cells (hrow.chg0 hc hB) (k-1) (by omega)
      cases e'
      have hgeq:=geq_string (l[k-1]'(by omega)).key l[k].key
      have hkN:((k:Int) -1).toNat=k-1:=by omega
      have hi0:(0:Int)<=(k:Int) -1:=by omega
      have hi1:(k:Int) -1<(l.length:Int):=by omega
      have hiw:IntKind.i64.wrap ((k:Int) -1)=(k:Int) -1:=by simp [IntKind.wrap,IntKind.bits,IntKind.signed];omega
      by_cases n3:Op.bytesLess (l[k-1]'(by omega)).key.toList l[k].key.toList=true
      ·have CA:Hid (CellAt l k hlt):=hid ⟨n1,n2,fun _=>n3⟩
       clear n1 n2
       go_wp2_with fail
       go_quiet (first|(go_at_call 202;exact Calls.quiet_of_same (NM.out _))|fail)
       go_wp2_with fail
       go_roundw
       case rel=>exact⟨k+1,by omega,by go_num,fun j h hj=>(Nat.lt_succ_iff_lt_or_eq.1 hj).elim (HN.out j h) (fun e=>by subst e;exact CA.out),hc.trans0 (((Chg.refl _ _).alloc _).drewN _)⟩
       case measure=>simp [intOf];omega
      ·have CA:Hid (¬CellAt l k hlt):=hid (fun h=>n3 (h.2.2 (by omega)))
       clear n1 n2
       go_wp2_with fail
       go_quiet (first|(go_at_call 202;exact Calls.quiet_of_same (NM.out _))|fail)
       go_wp2_with fail
       go_ret
       refine⟨_,rfl,⟨fun h=>by simp at h,fun h=>?_⟩,hc.trans0 (((Chg.refl _ _).alloc _).drewN _)⟩
       exact(CA.out (h.2 k hlt)).elim
    ·have CA:Hid (¬CellAt l k hlt):=hid (fun h=>n2 h.2.1)
     by_cases v1:l[k].value<0
     ·have v2:decide (l[k].value<0)=true:=by simp;omega
      clear n1 n2
      go_wp2_with fail
      go_quiet (first|(go_at_call 202;exact Calls.quiet_of_same (NM.out _))|fail)
      go_wp2_with fail
      go_ret
      refine⟨_,rfl,⟨fun h=>by simp at h,fun h=>?_⟩,hc.trans0 (((Chg.refl _ _).alloc _).drewN _)⟩
      exact(CA.out (h.2 k hlt)).elim
     ·have v2:999<l[k].value:=by unfold IsNum at n2;omega
      have v3:0<=l[k].value:=by omega
      have v4:decide (l[k].value<0)=false:=by simp;omega
      have v5:decide (999<l[k].value)=true:=by simp;omega
      clear n1 n2 v1
      go_wp2_with fail
      go_quiet (first|(go_at_call 202;exact Calls.quiet_of_same (NM.out _))|fail)
      go_wp2_with fail
      go_ret
      refine⟨_,rfl,⟨fun h=>by simp at h,fun h=>?_⟩,hc.trans0 (((Chg.refl _ _).alloc _).drewN _)⟩
      exact(CA.out (h.2 k hlt)).elim
   ·have CA:Hid (¬CellAt l k hlt):=hid (fun h=>n1 h.1)
    have NM:=hid (fun W=>(hnm W).mono (BoolIs.neg n1))
    clear hnm n1
    go_wp2_with fail
    go_quiet (first|(go_at_call 202;exact Calls.quiet_of_same (NM.out _))|fail)
    go_wp2_with fail
    go_ret
    refine⟨_,rfl,⟨fun h=>by simp at h,fun h=>?_⟩,hc.trans0 (((Chg.refl _ _).alloc _).drewN _)⟩
    exact(CA.out (h.2 k hlt)).elim
  ·obtain rfl:k=l.length:=by omega
   go_wp2_with fail
   go_ret
   refine⟨_,rfl,⟨fun h=>⟨by simp at h;omega,fun i h=>HN.out i h h⟩,fun h=>by have:=h.1;simp;omega⟩,hc⟩
end Go.Proofs.YtdlkbomojjmnlaaGreatDoor
