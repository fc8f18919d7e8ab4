/- Contracts of layer 23: configs held against each other, and what is too great. Conditions: as each states. -/
import Derived.Test.Ytjnplhmhkindpaa23b
namespace Go.Bd
open Go.Proofs
set_option linter.unusedVariables false
set_option maxRecDepth 20000

theorem fields_member (m m' : Mb) (fs : Array Field) (h : Try.prog.underlying 64 = some (.struct fs)) : fieldsEq Try.prog m.cells.toArray m'.cells.toArray fs.toList = some (decide (m = m')) := by
  rw [Try.underlying64] at h
  cases h
  have e : decide (m = m') = (decide (m.id = m'.id) && (decide (m.role = m'.role) && (decide (m.weight = m'.weight) && (decide (m.group = m'.group) && true)))) := by
    cases m; cases m'
    simp only [Mb.mk.injEq, Bool.and_true]
    rw [Bool.eq_iff_iff]
    simp only [decide_eq_true_eq, Bool.and_eq_true]
  rw [e]
  have h3 := Try.underlying3
  have h63 := Try.underlying62
  simp [fieldsEq, simpleEq, Mb.cells, h3, h63]

theorem same_at {α : Type} {xs ys : List α} {k : Nat} {x y : α} (hx : xs[k]? = some x) (hy : ys[k]? = some y) (h : xs.take k = ys.take k) (e : x = y) : xs.take (k + 1) = ys.take (k + 1) := by
  rw [List.take_add_one, List.take_add_one, h, hx, hy, e]

theorem get_of {α : Type} {xs : List α} {k : Nat} (h : k < xs.length) : ∃ x, xs[k]? = some x ∧ x ∈ xs := ⟨xs[k], List.getElem?_eq_getElem h, List.getElem_mem h⟩

theorem sum_le {es : List En} {k : Nat} {e : En} (h : es[k]? = some e) : ((es.take (k + 1)).map En.n).sum = ((es.take k).map En.n).sum + e.n := by
  rw [List.take_add_one, h]
  simp

end Go.Bd
