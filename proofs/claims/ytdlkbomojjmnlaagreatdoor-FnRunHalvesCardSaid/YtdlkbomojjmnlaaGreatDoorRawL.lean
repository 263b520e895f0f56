/- Lists that are appended as they stand: the raw cells of what is read, and what is read behind an append of them. Conditions: none. -/
import Derived.Test.YtdlkbomojjmnlaaGreatDoorApps
import Derived.Test.YtdlkbomojjmnlaaGreatDoorTypesA
import Derived.Test.YtdlkbomojjmnlaaGreatDoorCurs
namespace Go.Proofs.YtdlkbomojjmnlaaGreatDoor
open Go.RowKit

/-- The raw cells of data in a row. -/
theorem RdL.raw {w:World} {B b:Nat}:∀ {ds:List Dat} {off:Nat},RdL w B ds b off->∃us:List Value,us.length=ds.length/\(∀(j:Nat) (u:Value),us[j]?=some u->w.cell? ⟨b,off+j,none⟩=some u)/\∀(j:Nat) (d:Dat) (u:Value),ds[j]?=some d->us[j]?=some u->Rd w B d u
  | [],off,_=>⟨[],rfl,fun j u h=>by simp at h,fun j d u h=>by simp at h⟩
  | d::ds,off,h=>by
    rw [RdL] at h
    obtain⟨⟨u,hu,hd⟩,hr⟩:=h
    obtain⟨us,h1,h2,h3⟩:=RdL.raw hr
    refine⟨u::us,by simp [h1],fun j x hx=>?_,fun j e x he hx=>?_⟩
    · match j,hx with
      |0,hx=>simp at hx;subst hx;exact hu
      |j+1,hx=>have:=h2 j x (by simpa using hx);rwa [Nat.add_assoc,Nat.add_comm 1 j] at this
    · match j,he,hx with
      |0,he,hx=>simp at he hx;subst he hx;exact hd
      |j+1,he,hx=>exact h3 j e x (by simpa using he) (by simpa using hx)
/-- .. of a slice. -/
theorem Rd.raw {w:World} {B n cap:Nat} {ds:List Dat} {A:Option Addr} (h:Rd w B (.s n ds) (.slice A n cap)):∃us:List Value,us.length=ds.length/\(us≠ [] ->∃b off,A=some ⟨b,off,none⟩/\b<B/\∀(j:Nat) (u:Value),us[j]?=some u->w.cell? ⟨b,off+j,none⟩=some u)/\∀(j:Nat) (d:Dat) (u:Value),ds[j]?=some d->us[j]?=some u->Rd w B d u:=by
  rw [Rd] at h
  obtain⟨A',cap',e,_,_,h⟩:=h
  simp only [Value.slice.injEq] at e
  obtain⟨rfl, -,rfl⟩:=e
  rcases h with rfl|⟨b,off,rfl,hb,hl⟩
  · exact⟨[],rfl,fun h=>absurd rfl h,fun j d u h=>by simp at h⟩
  · obtain⟨us,h1,h2,h3⟩:=hl.raw
    exact⟨us,h1,fun _=>⟨b,off,rfl,hb,h2⟩,h3⟩
theorem Rd.oneCell {w:World} {B:Nat} {d:Dat} {u:Value} (h:Rd w B d u) (hv:∀x,d= .v x->x.oneCell'=true):u.oneCell'=true:=by
  cases d with
  |v x=>rw [Rd] at h;rw [h];exact hv x rfl
  | s n cs=>
    rw [Rd] at h
    obtain⟨A,cap,rfl,_⟩:=h
    rfl
/-- A slice whose raw cells read as data reads as these data. -/
theorem App.reads {w0 w:World} {e:TypeId} {size n:Nat} {v:Value} {us:List Value} {ds:List Dat} (h:App w0 w e size v n (us.map Dat.v)) (hl:us.length=ds.length) (hr:∀(j:Nat) (d:Dat) (u:Value),ds[j]?=some d->us[j]?=some u->Rd w w.heap.size d u):Rd w w.heap.size (.s n ds) v:=by
  have h1:=h.new.rd
  rw [Rd] at h1 ⊢
  obtain⟨A,cap,e1,h2,h3,h4⟩:=h1
  refine⟨A,cap,e1,h2,h3,?_⟩
  rcases h4 with h4|⟨b,off,e2,hb,hL⟩
  · refine .inl (List.eq_nil_of_length_eq_zero ?_)
    rw [<-hl, <-List.length_map (f:=Dat.v),h4]
    rfl
  · refine .inr ⟨b,off,e2,hb,RdL_iff.2 fun j d hd=>?_⟩
    have hj:j<us.length:=by rw [hl];exact(List.getElem?_eq_some_iff.1 hd).1
    obtain⟨u,hu,hd2⟩:=RdL_iff.1 hL j (.v us[j]) (by simp [hj])
    rw [Rd] at hd2
    subst hd2
    exact⟨_,hu,hr j d _ hd (List.getElem?_eq_getElem hj)⟩
theorem action_ones {l:List ActionT} {x:Value} (h:Dat.v x∈l.flatMap actionF):x.oneCell'=true:=by
  obtain⟨a,_,ha⟩:=List.mem_flatMap.1 h
  rw [actionF_eq] at ha
  simp only [List.mem_cons,List.not_mem_nil,or_false] at ha
  unfold actions at ha
  simp only [Dat.v.injEq,reduceCtorEq,or_false] at ha
  rcases ha with rfl|rfl|rfl|rfl|rfl|rfl|rfl|rfl|rfl<;>rfl
/-- Bytes, one by one. -/
theorem bytes_raw {w:World} {B:Nat} {A:Option Addr} {n:Nat} (h:BytesAt w B A n):∃us:List Value,us.length=n/\(us≠ [] ->∃b off,A=some ⟨b,off,none⟩/\∀(j:Nat) (u:Value),us[j]?=some u->w.cell? ⟨b,off+j,none⟩=some u)/\∀u∈us,∃z:Int,u= .int .u8 z/\0<=z/\z<=255:=by
  have hz:∀j,∃z:Int,j<n->(∃b off,A=some ⟨b,off,none⟩/\w.cell? ⟨b,off+j,none⟩=some (.int .u8 z))/\0<=z/\z<=255:=fun j=>by
    by_cases hj:j<n
    · obtain⟨b,off,z,e,_,hc,h0,h1⟩:=h j hj
      exact⟨z,fun _=>⟨⟨b,off,e,hc⟩,h0,h1⟩⟩
    · exact⟨0,fun h=>absurd h hj⟩
  let f:=fun j=>Classical.choose (hz j)
  have hf:∀j,j<n->(∃b off,A=some ⟨b,off,none⟩/\w.cell? ⟨b,off+j,none⟩=some (.int .u8 (f j)))/\0<=f j/\f j<=255:=fun j hj=>Classical.choose_spec (hz j) hj
  refine⟨(List.range n).map fun j=>.int .u8 (f j),by simp,fun hne=>?_,fun u hu=>?_⟩
  · have h0:0<n:=by
      rcases Nat.eq_zero_or_pos n with h|h
      · subst h;simp at hne
      · exact h
    obtain⟨b,off,e,_⟩:=(hf 0 h0).1
    refine⟨b,off,e,fun j u hu=>?_⟩
    have hj:j<n:=by have:=(List.getElem?_eq_some_iff.1 hu).1;simpa using this
    obtain⟨b',off',e',hc⟩:=(hf j hj).1
    cases e.symm.trans e'
    rw [List.getElem?_map,List.getElem?_range hj] at hu
    cases hu
    exact hc
  · obtain⟨j,hj,rfl⟩:=List.mem_map.1 hu
    exact⟨f j,rfl,(hf j (List.mem_range.1 hj)).2⟩
end Go.Proofs.YtdlkbomojjmnlaaGreatDoor
