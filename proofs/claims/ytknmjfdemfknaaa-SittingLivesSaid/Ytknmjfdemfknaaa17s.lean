/- Contracts of layer 17: numbers sorted. Conditions: as each states. -/
import Derived.Test.YtknmjfdemfknaaaSort
import Derived.Test.YtknmjfdemfknaaaFacts
import Derived.Test.Ytknmjfdemfknaaa17y
import Derived.Shelf.SortG.Plain
import Derived.Shelf.SortG.SortNone
namespace Go.Bd
open Go.Proofs Go.Sort
set_option linter.unusedVariables false
set_option maxRecDepth 20000

abbrev longs (l : List Int) : List Value := l.map (Value.int .i64)
def sortI (ns : List Int) : List Int := ns.mergeSort fun x y => decide (x ≤ y)
theorem sortI_length (ns : List Int) : (sortI ns).length = ns.length := List.length_mergeSort _
theorem sort_c {F : Env} {w : World} {Ls : List Blks} {A : Option Addr} {c : Nat} {ns : List Int} {L : Blks} (hm : Mem F w (L :: Ls)) (ho : OwnS 2 1 A ns.length c (longs ns) L) (hn : ns.length < 4611686018427387904) :
    Calls Try.prog 24 #[.slice A ns.length c] w (Ret fun v w' => ∃ L', OwnS 2 1 A ns.length c (longs (sortI ns)) L' ∧ Mem F w' (L' :: Ls)) := by
  rcases ho.2 with ⟨rfl, h0, rfl, rfl⟩ | ⟨g, cur, rfl, rfl, h1, h2, h3, h4⟩
  · have hns : ns = [] := List.eq_nil_of_length_eq_zero h0
    subst hns
    refine (AnyG.slices_Sort_int_none Try.laysG53 none 0 w).mono ?_
    rintro e w' ⟨rfl, rfl⟩
    have h0 : sortI [] = [] := by
      unfold sortI
      rw [List.mergeSort_nil]
    rw [h0]
    exact ⟨_, rfl, [], OwnS.nil _ _, hm⟩
  · have hlt : g < w.heap.size := (Array.getElem?_eq_some_iff.1 (hm.at_ 0 0 rfl)).1
    refine (AnyG.slices_Sort_int Try.laysG53 g 0 c ns w (own_holds hm ho) hlt hn).mono ?_
    rintro e w' ⟨rfl, q, os, rfl⟩
    obtain ⟨L', h5, h6⟩ := sorted_own (n := q) (os := os) (ys := sortI ns) hm ho (sortI_length ns)
    exact ⟨_, rfl, L', h5, h6⟩
theorem sortI_sorted (l : List Int) : (sortI l).Pairwise (· ≤ ·) := by
  have h := List.pairwise_mergeSort (le := fun x y : Int => decide (x ≤ y)) (fun a b c h1 h2 => by simp only [decide_eq_true_eq] at *; omega) (fun a b => by simp only [Bool.or_eq_true, decide_eq_true_eq]; omega) l
  exact h.imp fun h => of_decide_eq_true h
theorem sortI_is {l r : List Int} (hp : l.Perm r) (hr : r.Pairwise (· ≤ ·)) : sortI l = r :=
  List.Perm.eq_of_pairwise (le := (· ≤ ·)) (fun a b _ _ h1 h2 => Int.le_antisymm h1 h2) (sortI_sorted l) hr ((List.mergeSort_perm l _).trans hp)
theorem sortI_perm {a b : List Int} (h : a.Perm b) : sortI a = sortI b := sortI_is (h.trans (List.mergeSort_perm b _).symm) (sortI_sorted b)
end Go.Bd
