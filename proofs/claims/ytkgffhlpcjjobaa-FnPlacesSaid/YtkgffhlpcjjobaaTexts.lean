/- Lists of texts: the walks of copy, equality, mark and held. / RecipeOf of both packages: the names of a part's kind and of its layers. Written by a program. / SplitAt of the reference, at a separator of one byte. / strings.Split at one byte, in the shelf's words, gives the pieces between the bytes. -/
import Derived.Test.YtkgffhlpcjjobaaGround
import Derived.Deep.RegionHeld3
import Derived.StillTailTactics
import Derived.Test.YtkgffhlpcjjobaaTypes
import Derived.Test.YtkgffhlpcjjobaaApps
import Derived.Lib.Split
import Derived.Lib.SplitLaws
namespace Go.Proofs.Ytkgffhlpcjjobaa
open Go.RowKit

def strN (_ : ByteArray) : Nat := 1
def strM (_ : ByteArray) (k : Int) : ByteArray := mt k
def strsN (l : List ByteArray) : Nat := (l.map strN).sum
def strsM (l : List ByteArray) (k : Int) : List ByteArray := mapK strM strN l k
theorem strsN_length (l : List ByteArray) : strsN l = l.length := by
  induction l with
  | nil => rfl
  | cons a l ih =>
    unfold strsN at ih ⊢
    rw [List.map_cons, List.sum_cons, ih, List.length_cons]
    show 1 + _ = _
    omega
theorem ret_text {k : IntKind} {a b : Int} (h : a = b) : Ending.returned (.int k a) = .returned (.int k b) := by rw [h]
theorem strC_eq (s : ByteArray) : strC s = [.v (.string s)] := rfl

end Go.Proofs.Ytkgffhlpcjjobaa
namespace Go.Proofs.Ytkgffhlpcjjobaa
open Go.RowKit

theorem App.one (w0 : World) (e : TypeId) {w : World} (x : Value) (h : Chg [] w0 w) : App w0 (w.alloc (.cells #[x] e)) e 1 (.slice (some ⟨w.heap.size, 0, none⟩) 1 1) 1 [.v x] :=
  ⟨[x], [], ⟨by simp, .inr ⟨w.heap.size, 1, #[x], rfl, h.size, heap_alloc_new w _, Nat.le_refl _, by simp [maxLen], rfl, by simp⟩⟩, (HasL.cons_v (HasL.nil _)).1, List.nodup_nil, by simp, by simp, h.alloc _⟩
/-- The recipe of a part. -/
def recipe (p : PartT) : List ByteArray := p.core.kind :: p.layers.map (·.name)
theorem recipe_W (p : PartT) : strsW (recipe p) ≤ 1 + partW p := by
  unfold strsW strsW1 recipe partW coreW layersW layersW1
  rw [List.length_cons, List.map_cons, List.sum_cons, List.length_map, List.map_map]
  have e : (ByteArray.size ∘ fun x : LayerT => x.name) = layerW := rfl
  rw [e]
  omega
end Go.Proofs.Ytkgffhlpcjjobaa
namespace Go.Proofs.Ytkgffhlpcjjobaa
open Go.RowKit

/-- The pieces between the bytes c; cur stands ahead of the first. -/
def spAux (c : UInt8) : List UInt8 → List UInt8 → List (List UInt8)
  | cur, [] => [cur]
  | cur, b :: l => if b = c then cur :: spAux c [] l else spAux c (cur ++ [b]) l
def bytesOf (l : List UInt8) : ByteArray := ⟨l.toArray⟩
def splitS (c : UInt8) (s : ByteArray) : List ByteArray := (spAux c [] s.data.toList).map bytesOf
theorem spAux_len (c : UInt8) : ∀ (l cur : List UInt8), (spAux c cur l).length ≤ l.length + 1
  | [], cur => by simp [spAux]
  | b :: l, cur => by
    rw [spAux]
    split
    · have := spAux_len c l []; simp; omega
    · have := spAux_len c l (cur ++ [b]); simp; omega
/-- Bytes from a to b. -/
def cut (s : ByteArray) (a b : Nat) : List UInt8 := (s.data.toList.drop a).take (b - a)
theorem extract_list (s : ByteArray) (a b : Nat) : (s.extract a b).data.toList = cut s a b := by
  unfold cut
  rw [ByteArray.data_extract, Array.toList_extract, List.extract_eq_take_drop]
theorem extract_cut (s : ByteArray) (a b : Nat) : s.extract a b = bytesOf (cut s a b) := by
  apply ByteArray.ext
  apply Array.toList_inj.1
  rw [extract_list]
  rfl
theorem size_list (s : ByteArray) : s.data.toList.length = s.size := by rw [Array.length_toList]; rfl
theorem cut_one {s : ByteArray} {k : Nat} (hk : k < s.size) : cut s k (k + 1) = [s.data.toList[k]'(by rw [size_list]; exact hk)] := by
  unfold cut
  rw [List.drop_eq_getElem_cons (by rw [size_list]; exact hk), show k + 1 - k = 0 + 1 by omega, List.take_succ_cons, List.take_zero]
theorem cut_next {s : ByteArray} {f k : Nat} (hf : f ≤ k) (hk : k < s.size) : cut s f (k + 1) = cut s f k ++ [s.data.toList[k]'(by rw [size_list]; exact hk)] := by
  have hk' : k < s.data.toList.length := by rw [size_list]; exact hk
  unfold cut
  rw [show k + 1 - f = (k - f) + 1 by omega, List.take_succ_eq_append_getElem (by rw [List.length_drop]; omega)]
  congr 2
  rw [List.getElem_drop]
  congr 1
  omega
theorem one_byte {s : ByteArray} {k : Nat} (hk : k < s.size) : (s.extract k (k + 1)).toList = [s.data.toList[k]'(by rw [size_list]; exact hk)] := by
  rw [ByteArray.toList_eq, extract_list, cut_one hk]
theorem sp_hit {s : ByteArray} {c : UInt8} {f k : Nat} (hk : k < s.size) (hb : ((s.extract k (k + 1)).toList == [c]) = true) : spAux c (cut s f k) (s.data.toList.drop k) = cut s f k :: spAux c (cut s (k + 1) (k + 1)) (s.data.toList.drop (k + 1)) := by
  rw [one_byte hk] at hb
  simp at hb
  rw [List.drop_eq_getElem_cons (by rw [size_list]; exact hk), spAux, if_pos (by simpa using hb)]
  simp [cut]
theorem sp_miss {s : ByteArray} {c : UInt8} {f k : Nat} (hf : f ≤ k) (hk : k < s.size) (hb : ((s.extract k (k + 1)).toList == [c]) = false) : spAux c (cut s f k) (s.data.toList.drop k) = spAux c (cut s f (k + 1)) (s.data.toList.drop (k + 1)) := by
  rw [one_byte hk] at hb
  simp at hb
  rw [List.drop_eq_getElem_cons (by rw [size_list]; exact hk), spAux, if_neg (by simpa using hb), cut_next hf hk]
theorem sp_end {s : ByteArray} {c : UInt8} {f : Nat} : spAux c (cut s f s.size) (s.data.toList.drop s.size) = [cut s f s.size] := by
  rw [List.drop_eq_nil_of_le (by rw [size_list]; exact Nat.le_refl _), spAux]
set_option maxRecDepth 100000 in
set_option maxHeartbeats 1000000 in
theorem splitAt_one_any (s : ByteArray) (c : UInt8) (w : World) (hs : s.size ≤ 1048576) :
    Calls Try.prog 46 #[.string s, .string ⟨#[c]⟩] w (Gives (strs (splitS c s)) w) := by
  go_enter Try.func46, Try.ntmps46
  go_wp2_with fail
  go_loopw [5, 6, 7] (fun v fr i wr => ∃ (f k n : Nat) (A' : Option Addr) (cap' : Nat) (out : List ByteArray), f ≤ k ∧ k ≤ s.size ∧ n ≤ f ∧ fr = .int .i64 f ∧ i = .int .i64 k ∧ v = .slice A' n cap' ∧ out.length = n ∧ App w wr 9 1 (.slice A' n cap') n (out.flatMap strC) ∧ Hid (splitS c s = out ++ (spAux c (cut s f k) (s.data.toList.drop k)).map bytesOf)) (fun _ _ i _ => s.size - (intOf i).toNat)
  case atStart => exact ⟨0, 0, 0, _, 0, [], Nat.le_refl _, Nat.zero_le _, Nat.le_refl _, rfl, rfl, rfl, rfl, App.empty w 9 1 (Chg.refl _ _), by simp [Hid, splitS, cut]⟩
  case round =>
    obtain ⟨f, k, n, A', cap', out, hfk, hk, hnf, rfl, rfl, rfl, hout, hh, HX⟩ := hrel
    by_cases hlt : k < s.size
    · have i1 : (0 : Int) ≤ (k : Int) := by omega
      have i2 : (k : Int) + 1 ≤ (s.size : Int) := by omega
      have i3 : (k : Int) ≤ (k : Int) + 1 := by omega
      have i4 : (f : Int) ≤ (k : Int) := by omega
      have i5 : (k : Int) ≤ (s.size : Int) := by omega
      have HA := Lib.hid hh
      clear hh
      cases hb : ((s.extract k (k + 1)).toList == [c])
      · have HS := Lib.hid (sp_miss (f := f) hfk hlt hb)
        go_wp2_with fail
        go_roundw
        case rel => exact ⟨f, k + 1, n, A', cap', out, by omega, by omega, hnf, rfl, by go_num, rfl, hout, HA.out, Lib.hid (by rw [HX.out, HS.out])⟩
        case measure => simp [intOf]; omega
      · have HS := Lib.hid (sp_hit (f := f) hlt hb)
        go_wp2_with (at_builtin; refine wpList_app rfl (.tmp 29) (.tmp 34) _ rfl 9 _ 1 16 Try.underlying52 string_info rfl (by omega) HA.out (us := [.string (s.extract f k)]) (dsE := strC (s.extract f k)) ⟨[], HasL.cons_v (HasL.nil _), by simp, (Chg.refl _ _).alloc _⟩ rfl wr.heap.size 1 rfl rfl (by intro j u hj; cases j with | zero => cases hj; go_simp | succ j => simp at hj) (by intro u hu; simp at hu; subst hu; rfl) (by omega) (by omega) ?_; intro A2 cap2 w2 hA2)
        go_roundw
        case rel => exact ⟨k + 1, k + 1, n + 1, A2, cap2, out ++ [s.extract f k], Nat.le_refl _, by omega, by omega, by go_num, by go_num, by go_num, by simp [hout], by rw [List.flatMap_append]; simpa using hA2, Lib.hid (by rw [HX.out, HS.out, List.map_cons, ← extract_cut]; simp)⟩
        case measure => simp [intOf]; omega
    · obtain rfl : k = s.size := by omega
      have HA := Lib.hid hh
      clear hh
      have i4 : (f : Int) ≤ (s.size : Int) := by omega
      have HY := HX.out
      rw [sp_end, List.map_cons, List.map_nil, ← extract_cut] at HY
      have HZ := Lib.hid HY
      clear HY
      go_wp2_with (at_builtin; refine wpList_app rfl (.tmp 43) (.tmp 47) _ rfl 9 _ 1 16 Try.underlying52 string_info rfl (by omega) HA.out (us := [.string (s.extract f s.size)]) (dsE := strC (s.extract f s.size)) ⟨[], HasL.cons_v (HasL.nil _), by simp, (Chg.refl _ _).alloc _⟩ rfl wr.heap.size 1 rfl rfl (by intro j u hj; cases j with | zero => cases hj; go_simp | succ j => simp at hj) (by intro u hu; simp at hu; subst hu; rfl) (by omega) (by omega) ?_; intro A2 cap2 w2 hA2)
      go_ret
      refine ⟨_, rfl, ?_⟩
      have := hA2.new
      rw [HZ.out]
      unfold strs
      rw [List.length_append, List.flatMap_append, hout]
      simpa using this
end Go.Proofs.Ytkgffhlpcjjobaa
namespace Go.Proofs.Ytkgffhlpcjjobaa
open Go.RowKit

theorem index_sp (c : UInt8) : ∀ (l cur : List UInt8), (Lib.index l [c] = -1 → spAux c cur l = [cur ++ l]) ∧ ∀ i : Nat, Lib.index l [c] = i → spAux c cur l = (cur ++ l.take i) :: spAux c [] (l.drop (i + 1))
  | [], cur => by
    have h0 : Lib.index [] [c] = -1 := rfl
    refine ⟨fun _ => by simp [spAux], fun i hi => ?_⟩
    rw [h0] at hi
    omega
  | b :: l, cur => by
    by_cases hb : b = c
    · subst hb
      have h0 : Lib.index (b :: l) [b] = 0 := by unfold Lib.index; rw [if_pos (by simp)]
      refine ⟨fun h => by rw [h0] at h; omega, fun i hi => ?_⟩
      rw [h0] at hi
      obtain rfl : i = 0 := by omega
      rw [spAux, if_pos rfl]
      simp
    · have hp : ([c].isPrefixOf (b :: l)) = false := by
        show (c == b && List.isPrefixOf [] l) = false
        rw [beq_eq_false_iff_ne.2 (fun e => hb e.symm)]
        rfl
      have ih := index_sp c l (cur ++ [b])
      have hs : spAux c cur (b :: l) = spAux c (cur ++ [b]) l := by rw [spAux, if_neg hb]
      by_cases hm : Lib.index l [c] = -1
      · have h0 : Lib.index (b :: l) [c] = -1 := by unfold Lib.index; rw [hp, hm]; rfl
        refine ⟨fun _ => by rw [hs, ih.1 hm]; simp, fun i hi => ?_⟩
        rw [h0] at hi
        omega
      · have h0 : Lib.index (b :: l) [c] = Lib.index l [c] + 1 := by
          conv => lhs; unfold Lib.index
          rw [hp]
          simp [hm]
        have hge := Lib.index_ge l [c]
        refine ⟨fun h => by omega, fun i hi => ?_⟩
        obtain ⟨j, hj⟩ : ∃ j : Nat, Lib.index l [c] = j := ⟨(Lib.index l [c]).toNat, by omega⟩
        obtain rfl : i = j + 1 := by omega
        rw [hs, ih.2 j hj]
        simp
theorem bytes_list (s : ByteArray) : bytesOf s.data.toList = s := by
  apply ByteArray.ext
  simp [bytesOf]
theorem splitB_one (c : UInt8) : ∀ (k : Nat) (s : ByteArray), Lib.countB s ⟨#[c]⟩ = k → Lib.splitB ⟨#[c]⟩ 0 k s = splitS c s := by
  intro k
  induction k with
  | zero =>
    intro s hk
    rw [Lib.splitB_zero]
    rcases Lib.indexB_cases s ⟨#[c]⟩ with h | ⟨i, h, _⟩
    · have := (index_sp c s.data.toList []).1 h
      unfold splitS
      rw [this]
      simp [bytes_list]
    · have := Lib.countB_hit s ⟨#[c]⟩ i (by simp [ByteArray.size]) h
      omega
  | succ k ih =>
    intro s hk
    rcases Lib.indexB_cases s ⟨#[c]⟩ with h | ⟨i, h, _⟩
    · have := Lib.countB_miss s ⟨#[c]⟩ h
      omega
    · have hc := Lib.countB_hit s ⟨#[c]⟩ i (by simp [ByteArray.size]) h
      have hsz : (⟨#[c]⟩ : ByteArray).size = 1 := rfl
      rw [hsz] at hc
      rw [Lib.splitB_hit _ _ _ _ i h, hsz, ih _ (by omega)]
      have := (index_sp c s.data.toList []).2 i h
      unfold splitS
      rw [this, List.map_cons]
      congr 1
      · rw [Nat.add_zero, extract_cut]
        simp [cut]
      · rw [extract_list]
        unfold cut
        congr 2
        rw [List.take_of_length_le]
        rw [List.length_drop, size_list]
        exact Nat.le_refl _
end Go.Proofs.Ytkgffhlpcjjobaa
