/- SameCore, SamePart, SameSlots, of the reference and of the program: they tell whether the data are the same. Written by a program. -/
import Derived.Test.YtjigcplpkhpgnaaGreatDoorTypes
import Derived.Deep.RegionHeld3
set_option maxRecDepth 100000
set_option maxHeartbeats 2000000
namespace Go.Proofs.YtjigcplpkhpgnaaGreatDoor
open Go.RowKit

def BoolPost (p:Prop) (w:World) (e:Ending) (w':World):Prop:=∃t:Bool,e= .returned (.bool t)/\(t=true↔p)/\Chg [] w w'
theorem str_ext {a b:ByteArray} (h:a.toList=b.toList):a=b:=by
 rw [ByteArray.toList_eq,ByteArray.toList_eq] at h
 exact ByteArray.ext (Array.toList_inj.1 h)
theorem cell_ext {c d:CellT} (h1:(!(c.key.toList==d.key.toList))=false) (h2:(!(c.value==d.value))=false):c=d:=by
 cases c;cases d
 simp at h1 h2
 simp [str_ext h1,h2]
theorem neq_cell (c d:CellT) (W:World):(binOp .neq 102 (.agg #[.string c.key,.int .i64 c.value]) (.agg #[.string d.key,.int .i64 d.value])).run Tryz.prog W= .ok (.bool (!(c.key.toList==d.key.toList&&c.value==d.value))) W:=by
 have h:∀n:Nat,(Op.equalIn (n+2) 102 (.agg #[.string c.key,.int .i64 c.value]) (.agg #[.string d.key,.int .i64 d.value])).run Tryz.prog W= .ok (c.key.toList==d.key.toList&&c.value==d.value) W:=fun n=>by
  rw [run_equalIn_struct W (n+1) 102 _ _ (by simp only [Program.fieldsOf,Tryz.underlying102]) (by kernel_rfl)]
  simp [go_sem,Program.fieldsOf,Tryz.underlying102]
  by_cases h1:c.key.toList=d.key.toList<;>by_cases h2:c.value=d.value<;>simp [h1,h2]
 simp only [binOp]
 simp [Op.equal,Op.maxDepth,h 9998]
theorem layer_ext {c d:LayerT} (h1:(!(c.name.toList==d.name.toList))=false) (h2:(!(c.count==d.count))=false):c=d:=by
 cases c;cases d
 simp at h1 h2
 simp [str_ext h1,h2]
theorem neq_layer (c d:LayerT) (W:World):(binOp .neq 104 (.agg #[.string c.name,.int .i64 c.count]) (.agg #[.string d.name,.int .i64 d.count])).run Tryz.prog W= .ok (.bool (!(c.name.toList==d.name.toList&&c.count==d.count))) W:=by
 have h:∀n:Nat,(Op.equalIn (n+2) 104 (.agg #[.string c.name,.int .i64 c.count]) (.agg #[.string d.name,.int .i64 d.count])).run Tryz.prog W= .ok (c.name.toList==d.name.toList&&c.count==d.count) W:=fun n=>by
  rw [run_equalIn_struct W (n+1) 104 _ _ (by simp only [Program.fieldsOf,Tryz.underlying104]) (by kernel_rfl)]
  simp [go_sem,Program.fieldsOf,Tryz.underlying104]
  by_cases h1:c.name.toList=d.name.toList<;>by_cases h2:c.count=d.count<;>simp [h1,h2]
 simp only [binOp]
 simp [Op.equal,Op.maxDepth,h 9998]
theorem take_next {α:Type} {l m:List α} {k:Nat} (h:l.take k=m.take k) (hl:k<l.length) (hm:k<m.length) (e:l[k]=m[k]):l.take (k+1)=m.take (k+1):=by
 rw [List.take_succ_eq_append_getElem hl,List.take_succ_eq_append_getElem hm,h,e]

theorem sameCore_spec_any (a b:CoreT) (u3 v3:Value) (B B':Nat) (w:World) (r3:Rd w B (cells a.cells) u3) (s3:Rd w B' (cells b.cells) v3) (hB:B<=w.heap.size) (hB':B'<=w.heap.size):
  Calls Tryz.prog 67 #[.agg #[.string a.kind,.bool a.on,.bool a.broken,u3,.int .i64 a.count],.agg #[.string b.kind,.bool b.on,.bool b.broken,v3,.int .i64 b.count]] w (BoolPost (a=b) w):=by
 obtain⟨A,cap,rfl,h0,h1,hrow⟩:=cells_row r3
 obtain⟨A',cap',rfl,h0',h1',hrow'⟩:=cells_row s3
 unfold maxLen at h1 h1'
 by_cases hl:a.cells.length=b.cells.length
 ·have hlB:((a.cells.length:Int) !=b.cells.length)=false:=by simp;omega
  have HL:=hid hl
  clear hl
  go_enter Tryz.func67,Tryz.ntmps67
  go_wp2_with fail
  all_goals try(go_ret;refine⟨false,rfl,⟨(fun h=>by cases h),(fun h=>?_)⟩,((Chg.refl _ _).alloc _).alloc _⟩;first|exact absurd (congrArg (fun c:CoreT=>c.kind.toList) h) (by assumption)|exact absurd (congrArg CoreT.on h) (by assumption)|exact absurd (congrArg CoreT.broken h) (by assumption)|exact absurd (congrArg CoreT.count h) (by assumption))
  rename_i hk ho hbr hco K aK
  have HK:=hid hk;have HO:=hid ho;have HBR:=hid hbr;have HCO:=hid hco
  clear hk ho hbr hco
  go_loopw [44] (fun i wr=>∃(k:Nat),k<=a.cells.length/\i= .int .i64 k/\wr.cell? ⟨w.heap.size,3,none⟩=some (.slice A a.cells.length cap)/\wr.cell? ⟨w.heap.size+1,3,none⟩=some (.slice A' b.cells.length cap')/\Chg [] w wr/\Hid (a.cells.take k=b.cells.take k)) (fun i _=>a.cells.length-(intOf i).toNat)
  case atStart=>exact⟨0,Nat.zero_le _,rfl,by go_simp,by go_simp,((Chg.refl _ _).alloc _).alloc _,by simp [Hid]⟩
  case round=>
   obtain⟨k,hk',rfl,z1,z2,hc,hq⟩:=hrel
   by_cases hlt:k<a.cells.length
   ·have hlt':k<b.cells.length:=by have:=HL.out;omega
    obtain⟨b1,off1,rfl,hb1,q0,q1⟩:=cells_cells (hrow.chg0 hc hB) k hlt
    obtain⟨b2,off2,rfl,hb2,p0,p1⟩:=cells_cells (hrow'.chg0 hc hB') k hlt'
    have hne:=fun W=>neq_cell a.cells[k] b.cells[k] W
    go_wp2_with fail
    go_quiet (fail)
    clear hne
    go_wp2_with fail
    ·go_ret
     have hd:= ‹((!(a.cells[k].key.toList==b.cells[k].key.toList))=true∨(!(a.cells[k].value==b.cells[k].value))=true)›
     exact⟨false,rfl,⟨(fun h=>by cases h),(fun h=>by subst h;rcases hd with h1|h1<;>simp at h1)⟩,hc.drewN _⟩
    ·have hd:= ‹((!(a.cells[k].key.toList==b.cells[k].key.toList))=false/\(!(a.cells[k].value==b.cells[k].value))=false)›
     have he:=cell_ext hd.1 hd.2
     have HE:=hid he
     clear he
     go_roundw
     case rel=>exact⟨k+1,by omega,by go_num,z1,z2,hc.drewN _,take_next hq.out hlt hlt' HE.out⟩
     case measure=>simp [intOf];omega
   ·obtain rfl:k=a.cells.length:=by omega
    go_wp2_with fail
    go_ret
    refine⟨true,rfl,⟨fun _=>?_,fun _=>rfl⟩,hc⟩
    have h1:=hq.out
    rw [List.take_length,HL.out,List.take_length] at h1
    cases a;cases b
    simp only [CoreT.mk.injEq]
    exact⟨str_ext HK.out,HO.out,HBR.out,h1,HCO.out⟩
 ·have hlB:((a.cells.length:Int) !=b.cells.length)=true:=by simp;omega
  go_enter Tryz.func67,Tryz.ntmps67
  go_wp2_with fail
  all_goals(go_ret;exact⟨false,rfl,⟨(fun h=>by cases h),(fun h=>absurd (congrArg (fun c:CoreT=>c.cells.length) h) hl)⟩,((Chg.refl _ _).alloc _).alloc _⟩)
theorem sameCore_impl_any (a b:CoreT) (u3 v3:Value) (B B':Nat) (w:World) (r3:Rd w B (cells a.cells) u3) (s3:Rd w B' (cells b.cells) v3) (hB:B<=w.heap.size) (hB':B'<=w.heap.size):
  Calls Tryz.prog 84 #[.agg #[.string a.kind,.bool a.on,.bool a.broken,u3,.int .i64 a.count],.agg #[.string b.kind,.bool b.on,.bool b.broken,v3,.int .i64 b.count]] w (BoolPost (a=b) w):=by
 obtain⟨A,cap,rfl,h0,h1,hrow⟩:=cells_row r3
 obtain⟨A',cap',rfl,h0',h1',hrow'⟩:=cells_row s3
 unfold maxLen at h1 h1'
 by_cases hl:a.cells.length=b.cells.length
 ·have hlB:((a.cells.length:Int) !=b.cells.length)=false:=by simp;omega
  have HL:=hid hl
  clear hl
  go_enter Tryz.func84,Tryz.ntmps84
  go_wp2_with fail
  all_goals try(go_ret;refine⟨false,rfl,⟨(fun h=>by cases h),(fun h=>?_)⟩,((Chg.refl _ _).alloc _).alloc _⟩;first|exact absurd (congrArg (fun c:CoreT=>c.kind.toList) h) (by assumption)|exact absurd (congrArg CoreT.on h) (by assumption)|exact absurd (congrArg CoreT.broken h) (by assumption)|exact absurd (congrArg CoreT.count h) (by assumption))
  rename_i hk ho hbr hco K aK
  have HK:=hid hk;have HO:=hid ho;have HBR:=hid hbr;have HCO:=hid hco
  clear hk ho hbr hco
  go_loopw [44] (fun i wr=>∃(k:Nat),k<=a.cells.length/\i= .int .i64 k/\wr.cell? ⟨w.heap.size,3,none⟩=some (.slice A a.cells.length cap)/\wr.cell? ⟨w.heap.size+1,3,none⟩=some (.slice A' b.cells.length cap')/\Chg [] w wr/\Hid (a.cells.take k=b.cells.take k)) (fun i _=>a.cells.length-(intOf i).toNat)
  case atStart=>exact⟨0,Nat.zero_le _,rfl,by go_simp,by go_simp,((Chg.refl _ _).alloc _).alloc _,by simp [Hid]⟩
  case round=>
   obtain⟨k,hk',rfl,z1,z2,hc,hq⟩:=hrel
   by_cases hlt:k<a.cells.length
   ·have hlt':k<b.cells.length:=by have:=HL.out;omega
    obtain⟨b1,off1,rfl,hb1,q0,q1⟩:=cells_cells (hrow.chg0 hc hB) k hlt
    obtain⟨b2,off2,rfl,hb2,p0,p1⟩:=cells_cells (hrow'.chg0 hc hB') k hlt'
    have hne:=fun W=>neq_cell a.cells[k] b.cells[k] W
    go_wp2_with fail
    go_quiet (fail)
    clear hne
    go_wp2_with fail
    ·go_ret
     have hd:= ‹((!(a.cells[k].key.toList==b.cells[k].key.toList))=true∨(!(a.cells[k].value==b.cells[k].value))=true)›
     exact⟨false,rfl,⟨(fun h=>by cases h),(fun h=>by subst h;rcases hd with h1|h1<;>simp at h1)⟩,hc.drewN _⟩
    ·have hd:= ‹((!(a.cells[k].key.toList==b.cells[k].key.toList))=false/\(!(a.cells[k].value==b.cells[k].value))=false)›
     have he:=cell_ext hd.1 hd.2
     have HE:=hid he
     clear he
     go_roundw
     case rel=>exact⟨k+1,by omega,by go_num,z1,z2,hc.drewN _,take_next hq.out hlt hlt' HE.out⟩
     case measure=>simp [intOf];omega
   ·obtain rfl:k=a.cells.length:=by omega
    go_wp2_with fail
    go_ret
    refine⟨true,rfl,⟨fun _=>?_,fun _=>rfl⟩,hc⟩
    have h1:=hq.out
    rw [List.take_length,HL.out,List.take_length] at h1
    cases a;cases b
    simp only [CoreT.mk.injEq]
    exact⟨str_ext HK.out,HO.out,HBR.out,h1,HCO.out⟩
 ·have hlB:((a.cells.length:Int) !=b.cells.length)=true:=by simp;omega
  go_enter Tryz.func84,Tryz.ntmps84
  go_wp2_with fail
  all_goals(go_ret;exact⟨false,rfl,⟨(fun h=>by cases h),(fun h=>absurd (congrArg (fun c:CoreT=>c.cells.length) h) hl)⟩,((Chg.refl _ _).alloc _).alloc _⟩)
theorem samePart_spec_any (a b:PartT) (u3 u5 v3 v5:Value) (B B':Nat) (w:World) (r3:Rd w B (cells a.core.cells) u3) (r5:Rd w B (layers a.layers) u5) (s3:Rd w B' (cells b.core.cells) v3) (s5:Rd w B' (layers b.layers) v5) (hB:B<=w.heap.size) (hB':B'<=w.heap.size):
  Calls Tryz.prog 42 #[.agg #[.string a.core.kind,.bool a.core.on,.bool a.core.broken,u3,.int .i64 a.core.count,u5],.agg #[.string b.core.kind,.bool b.core.on,.bool b.core.broken,v3,.int .i64 b.core.count,v5]] w (BoolPost (a=b) w):=by
 obtain⟨A,cap,rfl,h0,h1,hrow⟩:=layers_row r5
 obtain⟨A',cap',rfl,h0',h1',hrow'⟩:=layers_row s5
 obtain⟨A3,cap3,rfl,_,_,_⟩:=cells_row r3
 obtain⟨A3',cap3',rfl,_,_,_⟩:=cells_row s3
 unfold maxLen at h1 h1'
 go_enter Tryz.func42,Tryz.ntmps42
 go_wp2_with fail
 refine(sameCore_spec_any a.core b.core _ _ B B' _ (r3.chg0 (((Chg.refl _ _).alloc _).alloc _) hB) (s3.chg0 (((Chg.refl _ _).alloc _).alloc _) hB') (by simp;omega) (by simp;omega)).mono ?_;rintro e w1 ⟨t,rfl,ht,c1⟩
 obtain⟨y1,_,z1⟩:=c1.cells
 have d1:Chg [] w w1:=Chg.trans0 (((Chg.refl _ _).alloc _).alloc _) c1
 have t1:w.heap.size+1<w1.heap.size:=by simp at z1;omega
 have t1':w.heap.size<w1.heap.size:=by omega
 have k1:w1.cell? ⟨w.heap.size,5,none⟩=some (.slice A a.layers.length cap):=(y1 w.heap.size 5 (by simp;omega)).trans (by go_simp)
 have k2:w1.cell? ⟨w.heap.size+1,5,none⟩=some (.slice A' b.layers.length cap'):=(y1 (w.heap.size+1) 5 (by simp)).trans (by go_simp)
 clear y1 z1 c1
 cases t
 ·have hne:¬a.core=b.core:=fun h=>by have:=ht.2 h;cases this
  have HN:=hid hne
  clear hne ht
  go_wp2_with fail
  go_ret
  exact⟨false,rfl,⟨(fun h=>by cases h),(fun h=>absurd (congrArg PartT.core h) HN.out)⟩,d1⟩
 ·have hco:=hid (ht.1 rfl)
  clear ht
  by_cases hl:a.layers.length=b.layers.length
  ·have hlB:((a.layers.length:Int) !=b.layers.length)=false:=by simp;omega
   have HL:=hid hl
   clear hl
   go_wp2_with fail
   go_loopw [24] (fun i wr=>∃(k:Nat),k<=a.layers.length/\i= .int .i64 k/\wr.cell? ⟨w.heap.size,5,none⟩=some (.slice A a.layers.length cap)/\wr.cell? ⟨w.heap.size+1,5,none⟩=some (.slice A' b.layers.length cap')/\Chg [] w wr/\Hid (a.layers.take k=b.layers.take k)) (fun i _=>a.layers.length-(intOf i).toNat)
   case atStart=>exact⟨0,Nat.zero_le _,rfl,k1,k2,d1,by simp [Hid]⟩
   case round=>
    clear k1 k2
    obtain⟨k,hk',rfl,z1,z2,hc,hq⟩:=hrel
    by_cases hlt:k<a.layers.length
    ·have hlt':k<b.layers.length:=by have:=HL.out;omega
     obtain⟨b1,off1,rfl,hb1,q0,q1⟩:=layers_cells (hrow.chg0 hc hB) k hlt
     obtain⟨b2,off2,rfl,hb2,p0,p1⟩:=layers_cells (hrow'.chg0 hc hB') k hlt'
     have hne:=fun W=>neq_layer a.layers[k] b.layers[k] W
     go_wp2_with fail
     go_quiet (fail)
     clear hne
     go_wp2_with fail
     ·go_ret
      have hd:= ‹((!(a.layers[k].name.toList==b.layers[k].name.toList))=true∨(!(a.layers[k].count==b.layers[k].count))=true)›
      exact⟨false,rfl,⟨(fun h=>by cases h),(fun h=>by subst h;rcases hd with h1|h1<;>simp at h1)⟩,hc.drewN _⟩
     ·have hd:= ‹((!(a.layers[k].name.toList==b.layers[k].name.toList))=false/\(!(a.layers[k].count==b.layers[k].count))=false)›
      have he:=layer_ext hd.1 hd.2
      have HE:=hid he
      clear he
      go_roundw
      case rel=>exact⟨k+1,by omega,by go_num,z1,z2,hc.drewN _,take_next hq.out hlt hlt' HE.out⟩
      case measure=>simp [intOf];omega
    ·obtain rfl:k=a.layers.length:=by omega
     go_wp2_with fail
     go_ret
     refine⟨true,rfl,⟨fun _=>?_,fun _=>rfl⟩,hc⟩
     have h1:=hq.out
     rw [List.take_length,HL.out,List.take_length] at h1
     have h2:=hco.out
     cases a;cases b
     simp only [PartT.mk.injEq]
     exact⟨h2,h1⟩
  ·have hlB:((a.layers.length:Int) !=b.layers.length)=true:=by simp;omega
   go_wp2_with fail
   go_ret
   exact⟨false,rfl,⟨(fun h=>by cases h),(fun h=>absurd (congrArg (fun c:PartT=>c.layers.length) h) hl)⟩,d1⟩
theorem samePart_impl_any (a b:PartT) (u3 u5 v3 v5:Value) (B B':Nat) (w:World) (r3:Rd w B (cells a.core.cells) u3) (r5:Rd w B (layers a.layers) u5) (s3:Rd w B' (cells b.core.cells) v3) (s5:Rd w B' (layers b.layers) v5) (hB:B<=w.heap.size) (hB':B'<=w.heap.size):
  Calls Tryz.prog 53 #[.agg #[.string a.core.kind,.bool a.core.on,.bool a.core.broken,u3,.int .i64 a.core.count,u5],.agg #[.string b.core.kind,.bool b.core.on,.bool b.core.broken,v3,.int .i64 b.core.count,v5]] w (BoolPost (a=b) w):=by
 obtain⟨A,cap,rfl,h0,h1,hrow⟩:=layers_row r5
 obtain⟨A',cap',rfl,h0',h1',hrow'⟩:=layers_row s5
 obtain⟨A3,cap3,rfl,_,_,_⟩:=cells_row r3
 obtain⟨A3',cap3',rfl,_,_,_⟩:=cells_row s3
 unfold maxLen at h1 h1'
 go_enter Tryz.func53,Tryz.ntmps53
 go_wp2_with fail
 refine(sameCore_impl_any a.core b.core _ _ B B' _ (r3.chg0 (((Chg.refl _ _).alloc _).alloc _) hB) (s3.chg0 (((Chg.refl _ _).alloc _).alloc _) hB') (by simp;omega) (by simp;omega)).mono ?_;rintro e w1 ⟨t,rfl,ht,c1⟩
 obtain⟨y1,_,z1⟩:=c1.cells
 have d1:Chg [] w w1:=Chg.trans0 (((Chg.refl _ _).alloc _).alloc _) c1
 have t1:w.heap.size+1<w1.heap.size:=by simp at z1;omega
 have t1':w.heap.size<w1.heap.size:=by omega
 have k1:w1.cell? ⟨w.heap.size,5,none⟩=some (.slice A a.layers.length cap):=(y1 w.heap.size 5 (by simp;omega)).trans (by go_simp)
 have k2:w1.cell? ⟨w.heap.size+1,5,none⟩=some (.slice A' b.layers.length cap'):=(y1 (w.heap.size+1) 5 (by simp)).trans (by go_simp)
 clear y1 z1 c1
 cases t
 ·have hne:¬a.core=b.core:=fun h=>by have:=ht.2 h;cases this
  have HN:=hid hne
  clear hne ht
  go_wp2_with fail
  go_ret
  exact⟨false,rfl,⟨(fun h=>by cases h),(fun h=>absurd (congrArg PartT.core h) HN.out)⟩,d1⟩
 ·have hco:=hid (ht.1 rfl)
  clear ht
  by_cases hl:a.layers.length=b.layers.length
  ·have hlB:((a.layers.length:Int) !=b.layers.length)=false:=by simp;omega
   have HL:=hid hl
   clear hl
   go_wp2_with fail
   go_loopw [24] (fun i wr=>∃(k:Nat),k<=a.layers.length/\i= .int .i64 k/\wr.cell? ⟨w.heap.size,5,none⟩=some (.slice A a.layers.length cap)/\wr.cell? ⟨w.heap.size+1,5,none⟩=some (.slice A' b.layers.length cap')/\Chg [] w wr/\Hid (a.layers.take k=b.layers.take k)) (fun i _=>a.layers.length-(intOf i).toNat)
   case atStart=>exact⟨0,Nat.zero_le _,rfl,k1,k2,d1,by simp [Hid]⟩
   case round=>
    clear k1 k2
    obtain⟨k,hk',rfl,z1,z2,hc,hq⟩:=hrel
    by_cases hlt:k<a.layers.length
    ·have hlt':k<b.layers.length:=by have:=HL.out;omega
     obtain⟨b1,off1,rfl,hb1,q0,q1⟩:=layers_cells (hrow.chg0 hc hB) k hlt
     obtain⟨b2,off2,rfl,hb2,p0,p1⟩:=layers_cells (hrow'.chg0 hc hB') k hlt'
     have hne:=fun W=>neq_layer a.layers[k] b.layers[k] W
     go_wp2_with fail
     go_quiet (fail)
     clear hne
     go_wp2_with fail
     ·go_ret
      have hd:= ‹((!(a.layers[k].name.toList==b.layers[k].name.toList))=true∨(!(a.layers[k].count==b.layers[k].count))=true)›
      exact⟨false,rfl,⟨(fun h=>by cases h),(fun h=>by subst h;rcases hd with h1|h1<;>simp at h1)⟩,hc.drewN _⟩
     ·have hd:= ‹((!(a.layers[k].name.toList==b.layers[k].name.toList))=false/\(!(a.layers[k].count==b.layers[k].count))=false)›
      have he:=layer_ext hd.1 hd.2
      have HE:=hid he
      clear he
      go_roundw
      case rel=>exact⟨k+1,by omega,by go_num,z1,z2,hc.drewN _,take_next hq.out hlt hlt' HE.out⟩
      case measure=>simp [intOf];omega
    ·obtain rfl:k=a.layers.length:=by omega
     go_wp2_with fail
     go_ret
     refine⟨true,rfl,⟨fun _=>?_,fun _=>rfl⟩,hc⟩
     have h1:=hq.out
     rw [List.take_length,HL.out,List.take_length] at h1
     have h2:=hco.out
     cases a;cases b
     simp only [PartT.mk.injEq]
     exact⟨h2,h1⟩
  ·have hlB:((a.layers.length:Int) !=b.layers.length)=true:=by simp;omega
   go_wp2_with fail
   go_ret
   exact⟨false,rfl,⟨(fun h=>by cases h),(fun h=>absurd (congrArg (fun c:PartT=>c.layers.length) h) hl)⟩,d1⟩
end Go.Proofs.YtjigcplpkhpgnaaGreatDoor
