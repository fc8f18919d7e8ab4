/- What the library's sort leaves, as memory of one's own. Conditions: none; nothing here speaks of one program. -/
import Derived.Test.YtnakbhpgcngofaaQue
import Derived.Sort.Grow
import Derived.Sort.EncStr
namespace Go.Bd
open Go.Sort
set_option linter.unusedVariables false

theorem grow_at {w : World} {os : Array Obj} {b : Nat} {o : Obj} (h : w.heap[b]? = some o) : (grow w os).heap[b]? = some o := by
  have hlt := (Array.getElem?_eq_some_iff.1 h).1
  show (w.heap ++ os)[b]? = some o
  rw [Array.getElem?_append_left hlt, h]
theorem putRow_other {α : Type} [Inhabited α] {enc : α → Value} {w : World} {g off b : Nat} {d : Array α} (h : b ≠ g) : (putRow enc w g off d).heap[b]? = w.heap[b]? := by
  show (w.heap.modify g _)[b]? = _
  rw [Array.getElem?_modify, if_neg (Ne.symm h)]
theorem putRow_at {α : Type} [Inhabited α] {enc : α → Value} {w : World} {g off : Nat} {d : Array α} {cur : Array Value} {T : TypeId} {fr : Nat × Nat} (h : w.heap[g]? = some (.cells cur T fr)) : (putRow enc w g off d).heap[g]? = some (.cells (putCells enc off d cur) T fr) := by
  show (w.heap.modify g _)[g]? = _
  rw [Array.getElem?_modify, if_pos rfl, h]
  rfl
theorem putCells_take {α : Type} [Inhabited α] {enc : α → Value} {d : Array α} {cur : Array Value} (h : d.size ≤ cur.size) : (putCells enc 0 d cur).size = cur.size ∧ (putCells enc 0 d cur).toList.take d.size = d.toList.map enc := by
  refine ⟨by unfold putCells; rw [Array.size_mapIdx], ?_⟩
  apply List.ext_getElem?
  intro k
  rw [List.getElem?_take, List.getElem?_map]
  by_cases hk : k < d.size
  · rw [if_pos hk, Array.getElem?_toList, Array.getElem?_toList, Array.getElem?_eq_getElem hk]
    unfold putCells
    rw [Array.getElem?_mapIdx, Array.getElem?_eq_getElem (by omega), Option.map_some, if_pos ⟨by omega, by omega⟩, Nat.sub_zero, getElem!_pos d k hk]
    rfl
  · rw [if_neg hk, Array.getElem?_toList, Array.getElem?_eq_none (by omega)]
    rfl
theorem sorted_mem {α : Type} [Inhabited α] {enc : α → Value} {F : Env} {w : World} {Ls : List Blks} {g n off : Nat} {cur : Array Value} {T : TypeId} {d : Array α} {os : Array Obj} (hm : Mem F w ([(g, .cells cur T (0, 0))] :: Ls)) :
    Mem F (grow (putRow enc (Sort.ahead w n) g off d) os) ([(g, .cells (putCells enc off d cur) T (0, 0))] :: Ls) := by
  have hg := hm.at_ 0 0 rfl
  have hnd := hm.nodup
  simp only [List.flatten_cons, List.cons_append, List.nil_append, List.map_cons, List.nodup_cons] at hnd
  have hother : ∀ b o, b ≠ g → w.heap[b]? = some o → (grow (putRow enc (Sort.ahead w n) g off d) os).heap[b]? = some o := fun b o hb h => grow_at (by
    rw [putRow_other hb]
    exact h)
  refine ⟨hm.os, hm.tape, hm.output, fun b o e => ?_, fun p hp => ?_, fun p hp => ?_, ?_⟩
  · have hbg : b ≠ g := fun e' => by
      have := hm.sep (g, .cells cur T (0, 0)) (by simp)
      rw [← e', e] at this
      cases this
    exact hother b o hbg (hm.fix b o e)
  · simp only [List.flatten_cons, List.cons_append, List.nil_append, List.mem_cons] at hp
    rcases hp with rfl | hp
    · exact grow_at (putRow_at hg)
    · refine hother p.1 p.2 (fun e => hnd.1 (e ▸ List.mem_map.2 ⟨p, hp, rfl⟩)) (hm.own p ?_)
      simp only [List.flatten_cons, List.cons_append, List.nil_append, List.mem_cons]
      exact .inr hp
  · simp only [List.flatten_cons, List.cons_append, List.nil_append, List.mem_cons] at hp
    rcases hp with rfl | hp
    · exact hm.sep (g, .cells cur T (0, 0)) (by simp)
    · exact hm.sep p (by
        simp only [List.flatten_cons, List.cons_append, List.nil_append, List.mem_cons]
        exact .inr hp)
  · simp only [List.flatten_cons, List.cons_append, List.nil_append, List.map_cons, List.nodup_cons]
    exact hnd
/-- Behind the sort of a slice of one's own: the elements as they are now. -/
theorem sorted_own {α : Type} [Inhabited α] {enc : α → Value} {F : Env} {w : World} {Ls : List Blks} {g n k c : Nat} {cur : Array Value} {T : TypeId} {xs ys : List α} {os : Array Obj} (hm : Mem F w ([(g, .cells cur T (0, 0))] :: Ls))
    (ho : OwnS T 1 (some ⟨g, 0, none⟩) k c (xs.map enc) [(g, .cells cur T (0, 0))]) (hl : ys.length = xs.length) :
    ∃ L', OwnS T 1 (some ⟨g, 0, none⟩) k c (ys.map enc) L' ∧ Mem F (grow (putRow enc (Sort.ahead w n) g 0 ys.toArray) os) (L' :: Ls) := by
  refine ⟨_, ?_, sorted_mem hm⟩
  have hk : xs.length = k := by have := ho.1; rwa [List.length_map, Nat.mul_one] at this
  rcases ho.2 with ⟨h0, _⟩ | ⟨g', cur', e1, e2, h1, h2, h3, h4⟩
  · cases h0
  · simp only [Option.some.injEq, Addr.mk.injEq] at e1
    obtain ⟨rfl, _⟩ := e1
    simp only [List.cons.injEq, Prod.mk.injEq, Obj.cells.injEq] at e2
    obtain rfl := e2.1.2.1
    have hp := putCells_take (enc := enc) (d := ys.toArray) (cur := cur) (by
      rw [List.size_toArray]
      omega)
    refine ⟨by rw [List.length_map, hl, hk, Nat.mul_one], .inr ⟨g, _, rfl, rfl, h1, h2, hp.1.trans h3, ?_⟩⟩
    have h5 := hp.2
    rw [List.size_toArray, hl, hk] at h5
    rw [Nat.mul_one]
    exact h5
theorem own_holds {α : Type} [Inhabited α] {enc : α → Value} {F : Env} {w : World} {Ls : List Blks} {g k c : Nat} {cur : Array Value} {T : TypeId} {xs : List α} (hm : Mem F w ([(g, .cells cur T (0, 0))] :: Ls))
    (ho : OwnS T 1 (some ⟨g, 0, none⟩) k c (xs.map enc) [(g, .cells cur T (0, 0))]) : Holds enc w g 0 xs.toArray := by
  have hk : xs.length = k := by have := ho.1; rwa [List.length_map, Nat.mul_one] at this
  have hg := hm.at_ 0 0 rfl
  rcases ho.2 with ⟨h0, _⟩ | ⟨g', cur', e1, e2, h1, h2, h3, h4⟩
  · cases h0
  · simp only [Option.some.injEq, Addr.mk.injEq] at e1
    obtain ⟨rfl, _⟩ := e1
    simp only [List.cons.injEq, Prod.mk.injEq, Obj.cells.injEq] at e2
    obtain rfl := e2.1.2.1
    intro j hj
    rw [List.size_toArray] at hj
    constructor
    · rw [cell_of_row w g (0 + j) cur T (0, 0) hg, Nat.zero_add, ← Array.getElem?_toList]
      have h5 : (cur.toList.take (k * 1))[j]? = (xs.map enc)[j]? := by rw [h4]
      rw [List.getElem?_take, if_pos (by omega), List.getElem?_map, List.getElem?_eq_getElem hj] at h5
      rw [h5, getElem!_pos xs.toArray j (by rwa [List.size_toArray])]
      rfl
    · show w.frozen? ⟨g, 0 + j, none⟩ = false
      simp [World.frozen?, hg]
end Go.Bd
