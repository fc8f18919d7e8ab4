/- Contracts of layer 8: names sorted. Conditions: as each states. -/
import Derived.Test.YtjohjlhjeommiaaSort
import Derived.Test.YtjohjlhjeommiaaFacts
import Derived.Test.Ytjohjlhjeommiaa08y
import Derived.Shelf.Sort.Plain
import Derived.Shelf.Slices.In.SortNone
import Derived.Sort.KeysCollected
namespace Go.Bd
open Go.Proofs Go.Sort
set_option linter.unusedVariables false
set_option maxRecDepth 20000

def keyN (x : ByteArray) : List UInt8 := x.data.toList
def sortN (ns : List ByteArray) : List ByteArray := ((ns.map keyN).mergeSort fun x y => decide (x ≤ y)).map fun l => ⟨l.toArray⟩
theorem sortN_length (ns : List ByteArray) : (sortN ns).length = ns.length := by
  unfold sortN
  rw [List.length_map, List.length_mergeSort, List.length_map]
theorem sort_c {F : Env} {w : World} {Ls : List Blks} {A : Option Addr} {c : Nat} {ns : List ByteArray} {L : Blks} (hm : Mem F w (L :: Ls)) (ho : OwnS 9 1 A ns.length c (ns.map Value.string) L) (hn : ns.length < 4611686018427387904) :
    Calls Try.prog 45 #[.slice A ns.length c] w (Ret fun v w' => ∃ L', OwnS 9 1 A ns.length c ((sortN ns).map Value.string) L' ∧ Mem F w' (L' :: Ls)) := by
  rcases ho.2 with ⟨rfl, h0, rfl, rfl⟩ | ⟨g, cur, rfl, rfl, h1, h2, h3, h4⟩
  · have hns : ns = [] := List.eq_nil_of_length_eq_zero h0
    subst hns
    refine (Any.slices_Sort_string_none Try.lays190 none 0 w).mono ?_
    rintro e w' ⟨rfl, rfl⟩
    have h0 : sortN [] = [] := by
      unfold sortN
      rw [List.map_nil, List.mergeSort_nil, List.map_nil]
    rw [h0]
    exact ⟨_, rfl, [], OwnS.nil _ _, hm⟩
  · have hstr : ∀ x : ByteArray, Value.string x = encStr (keyN x) := fun x => by
      show Value.string x = Value.string ⟨x.data.toList.toArray⟩
      rw [Array.toArray_toList]
    have hmap : ∀ l : List ByteArray, l.map Value.string = (l.map keyN).map encStr := fun l => by
      rw [List.map_map]
      exact List.map_congr_left fun x _ => hstr x
    have hlen : (ns.map keyN).length = ns.length := List.length_map _
    have ho' : OwnS 9 1 (some ⟨g, 0, none⟩) ns.length c ((ns.map keyN).map encStr) [(g, .cells cur 9 (0, 0))] := by
      rw [← hmap]
      exact ho
    have hlt : g < w.heap.size := (Array.getElem?_eq_some_iff.1 (hm.at_ 0 0 rfl)).1
    have hc := Any.slices_Sort_string Try.lays190 g 0 c (ns.map keyN) w (own_holds hm ho') hlt (by rw [hlen]; exact hn)
    rw [hlen] at hc
    refine hc.mono ?_
    rintro e w' ⟨rfl, q, os, rfl⟩
    obtain ⟨L', h5, h6⟩ := sorted_own (n := q) (os := os) (ys := (ns.map keyN).mergeSort fun x y => decide (x ≤ y)) hm ho' (List.length_mergeSort _)
    refine ⟨_, rfl, L', ?_, h6⟩
    have : (sortN ns).map Value.string = ((ns.map keyN).mergeSort fun x y => decide (x ≤ y)).map encStr := by
      unfold sortN
      rw [List.map_map]
      rfl
    rw [this]
    exact h5
theorem sortN_perm {a b : List ByteArray} (h : a.Perm b) : sortN a = sortN b := by
  unfold sortN
  rw [show (a.map keyN).mergeSort (fun x y => decide (x ≤ y)) = (b.map keyN).mergeSort (fun x y => decide (x ≤ y)) from mergeSort_of_perm (h.map keyN)]
end Go.Bd
