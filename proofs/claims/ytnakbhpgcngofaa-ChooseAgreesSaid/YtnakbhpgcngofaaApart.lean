/- Slices that lie apart, each with an array of its own: stored into, grown one by one, and by many at once. Conditions: none; nothing here speaks of one program. -/
import Derived.Test.YtnakbhpgcngofaaQue
namespace Go.Bd
set_option linter.unusedVariables false

/-- Cells of the first n marks. -/
def mm (m : Nat → List Value) (n : Nat) : List Value := (List.range n).flatMap m
theorem mm_succ (m : Nat → List Value) (n : Nat) : mm m (n + 1) = mm m n ++ m n := by simp [mm, List.range_succ]
theorem mm_len {m : Nat → List Value} {s : Nat} (hm : ∀ i, (m i).length = s) : ∀ n, (mm m n).length = n * s
  | 0 => by simp [mm]
  | n + 1 => by rw [mm_succ, List.length_append, mm_len hm n, hm, Nat.add_mul, Nat.one_mul]
theorem mm_at {m : Nat → List Value} {s : Nat} (hm : ∀ i, (m i).length = s) {n i j : Nat} (hi : i < n) (hj : j < s) : (mm m n)[i * s + j]? = (m i)[j]? := by
  induction n with
  | zero => omega
  | succ n ih =>
    rw [mm_succ]
    by_cases h : i < n
    · have hlt : i * s + j < (mm m n).length := by
        rw [mm_len hm]
        have : (i + 1) * s ≤ n * s := Nat.mul_le_mul_right s h
        rw [Nat.add_mul] at this
        omega
      rw [List.getElem?_append_left hlt]
      exact ih h
    · obtain rfl : i = n := by omega
      rw [List.getElem?_append_right (by rw [mm_len hm]; omega), mm_len hm, Nat.add_sub_cancel_left]
theorem mm_take {m : Nat → List Value} {s : Nat} (hm : ∀ i, (m i).length = s) (n q : Nat) : (mm m (n + q)).take (n * s) = mm m n := by
  induction q with
  | zero => rw [Nat.add_zero, ← mm_len hm n, List.take_length]
  | succ q ih =>
    rw [← Nat.add_assoc, mm_succ, List.take_append_of_le_length, ih]
    rw [mm_len hm, Nat.add_mul]
    omega
theorem mm_one {m : Nat → List Value} (h : ∀ i, ∀ u ∈ m i, u.oneCell' = true) (n : Nat) : ∀ u ∈ mm m n, u.oneCell' = true := by
  intro u hu
  obtain ⟨i, _, hi⟩ := List.mem_flatMap.1 hu
  exact h i u hi

theorem OwnS.cut {e : TypeId} {s n q c : Nat} {A : Option Addr} {xs : List Value} {L : Blks} (h : OwnS e s A (n + q) c xs L) : OwnS e s A n c (xs.take (n * s)) L := by
  refine ⟨?_, ?_⟩
  · rw [List.length_take, h.1, Nat.add_mul]
    omega
  · rcases h.2 with ⟨h1, h2, h3, h4⟩ | ⟨g, cur, h1, h2, h3, h4, h5, h6⟩
    · exact .inl ⟨h1, by omega, h3, h4⟩
    · refine .inr ⟨g, cur, h1, h2, by omega, h4, h5, ?_⟩
      rw [← h6, List.take_take, Nat.add_mul, Nat.min_eq_left (by omega)]
/-- One element stored. -/
theorem OwnS.store {e : TypeId} {s n c g : Nat} {cur : Array Value} {xs vs : List Value} (h : OwnS e s (some ⟨g, 0, none⟩) n c xs [(g, .cells cur e (0, 0))]) {i : Nat} (hi : i < n) (hv : vs.length = s) :
    OwnS e s (some ⟨g, 0, none⟩) n c (xs.take (i * s) ++ vs ++ xs.drop ((i + 1) * s)) [(g, .cells (lay cur (i * s) vs) e (0, 0))] := by
  have hx := h.1
  have hle : (i + 1) * s ≤ n * s := Nat.mul_le_mul_right s hi
  have hie : (i + 1) * s = i * s + s := by rw [Nat.add_mul, Nat.one_mul]
  rcases h.2 with ⟨h1, _⟩ | ⟨g', cur', h1, h2, h3, h4, h5, h6⟩
  · cases h1
  · simp only [Option.some.injEq, Addr.mk.injEq] at h1
    obtain rfl := h1.1
    simp only [List.cons.injEq, Prod.mk.injEq, Obj.cells.injEq] at h2
    obtain rfl := h2.1.2.1
    have hnc : n * s ≤ c * s := Nat.mul_le_mul_right s h3
    refine ⟨?_, .inr ⟨g, _, rfl, rfl, h3, h4, by rw [lay_size]; exact h5, ?_⟩⟩
    · rw [List.length_append, List.length_append, List.length_take, List.length_drop, hv, hx]
      omega
    · rw [lay_take (by omega), ← h6]
      have hl0 : cur.toList.length = cur.size := Array.length_toList
      rw [hv, ← hie]
      apply List.ext_getElem?
      intro k
      rw [List.getElem?_take]
      have l1 : (cur.toList.take (i * s)).length = i * s := by rw [List.length_take]; omega
      have l2 : ((cur.toList.take (n * s)).take (i * s)).length = i * s := by rw [List.length_take, List.length_take]; omega
      by_cases hk : k < n * s
      · rw [if_pos hk]
        have hlt : ∀ (l : List Value), (cur.toList.take (i * s) ++ vs ++ cur.toList.drop ((i + 1) * s))[k]? = if k < i * s then (cur.toList.take (i * s))[k]? else if k < i * s + s then vs[k - i * s]? else (cur.toList.drop ((i + 1) * s))[k - (i * s + s)]? := fun l => by
          rw [List.getElem?_append, List.getElem?_append, List.length_append, l1, hv]
          by_cases h7 : k < i * s
          · rw [if_pos (by omega), if_pos h7, if_pos h7]
          · by_cases h8 : k < i * s + s
            · rw [if_pos h8, if_neg h7, if_neg h7, if_pos h8]
            · rw [if_neg h8, if_neg h7, if_neg h8]
        rw [hlt [], List.getElem?_append, List.getElem?_append, List.length_append, l2, hv]
        by_cases h7 : k < i * s
        · rw [if_pos h7, if_pos (by omega), if_pos h7, List.take_take, Nat.min_eq_left (by omega)]
        · by_cases h8 : k < i * s + s
          · rw [if_neg h7, if_pos h8, if_pos h8, if_neg h7]
          · rw [if_neg h7, if_neg h8, if_neg h8, List.getElem?_drop, List.getElem?_drop, List.getElem?_take, if_pos (by omega)]
      · rw [if_neg hk]
        symm
        rw [List.getElem?_eq_none]
        rw [List.length_append, List.length_append, l2, List.length_drop, List.length_take, hv]
        omega
/-- How far marks were stored. -/
theorem OwnS.marked {e : TypeId} {s n c g : Nat} {cur : Array Value} {m : Nat → List Value} (hm : ∀ i, (m i).length = s) {i : Nat} (hi : i < n) {xs : List Value}
    (h : OwnS e s (some ⟨g, 0, none⟩) n c xs [(g, .cells cur e (0, 0))]) (hx : xs.take (i * s) = mm m i) :
    ∃ xs', OwnS e s (some ⟨g, 0, none⟩) n c xs' [(g, .cells (lay cur (i * s) (m i)) e (0, 0))] ∧ xs'.take ((i + 1) * s) = mm m (i + 1) := by
  refine ⟨_, h.store hi (hm i), ?_⟩
  rw [hx, ← mm_succ, List.take_append_of_le_length (by rw [mm_len hm]; omega), ← mm_len hm (i + 1), List.take_length]

/-! #### Grown, and the old one kept -/
theorem run_appendK {P : Program} {F : Env} {w : World} {Ls : List Blks} {t ty' e : TypeId} {i : TypeInfo} {z : Value} {s bytes : Nat} (ht : P.underlying t = some (.slice e)) (hi : P.info? e = some i) (hz : i.zero = some z)
    (hsz : i.size = s) (hby : i.bytes = bytes) (hzs : z.cells.size = s) (hs : 0 < s) {A : Option Addr} {n c : Nat} {xs : List Value} {L : Blks} (ho : OwnS e s A n c xs L) (hm : Mem F w (L :: Ls))
    {B : Option Addr} {m d : Nat} {news : List Value} (hr : Row (fun b => w.heap[b]?) B (m * s) news) (h1 : ∀ u ∈ news, u.oneCell' = true) (hroom : c < n + m) (h63 : n + m ≤ maxLen) (hbytes : (n + m) * bytes ≤ 140737488355328) :
    ∃ A' c' w' L', (Builtin.append_ #[t, t] ty' #[.slice A n c, .slice B m d]).run P w = .ok (.slice A' (n + m) c') w' ∧ OwnS e s A' (n + m) c' (xs ++ news) L' ∧ Mem F w' (L' :: L :: Ls) := by
  rcases ho.2 with ⟨rfl, rfl, rfl, rfl⟩ | ⟨g, cur, rfl, rfl, hnc, hcm, hcs, htake⟩
  · have hx : xs = [] := List.eq_nil_of_length_eq_zero (by simpa using ho.1)
    subst hx
    obtain ⟨A', c', w', L', h2, h3, h4⟩ := run_append (P := P) (ty' := ty') ht hi hz hsz hby hzs hs (OwnS.nil e s) hm (d := d) hr h1 h63 hbytes
    exact ⟨A', c', w', L', h2, h3, h4.nil_.swap⟩
  · have hlen : news.length = m * s := hr.1
    have hx : ∀ j u, xs[j]? = some u → w.cell? ((⟨g, 0, none⟩ : Addr).add j) = some u := (ho.row (H := fun b => w.heap[b]?) (fun p hp => hm.own p (by simp only [List.flatten_cons, List.mem_append]; exact .inl hp))).cells
    cases B with
    | none =>
      have hm0 : m = 0 := by
        rcases Nat.eq_zero_or_pos m with h0 | h0
        · exact h0
        · obtain ⟨b, off', blk, T, fr, e', _⟩ := hr.get (Nat.mul_pos h0 hs)
          cases e'
      omega
    | some a =>
      subst hsz
      have hg := run_append_grow (P := P) w t ty' e i z ht hi hz ⟨g, 0, none⟩ n c xs ho.1 hx a m d news hlen hr.cells (by omega) (by unfold maxLen at h63; omega) (growslice_fits (by omega) (by rw [hby]; exact hbytes))
      refine ⟨_, _, _, [(w.heap.size, _)], hg, ⟨by rw [List.length_append, ho.1, hlen, ← Nat.add_mul], .inr ⟨w.heap.size, _, rfl, rfl, grownCap_ge w (n + m) c e, grownCap_le_maxLen w (n + m) c e h63, ?_, ?_⟩⟩, hm.drew.alloc _⟩
      · have hge := grownCap_ge w (n + m) c e
        simp only [Array.size_append, List.size_toArray, size_zeroCells, hzs, ho.1, hlen, ← Nat.add_mul]
        rw [show n + m + (grownCap w (n + m) c e - (n + m)) = grownCap w (n + m) c e by omega]
      · simp only [Array.toList_append, List.append_assoc]
        rw [← List.append_assoc, Nat.add_mul, ← ho.1, ← hlen, ← List.length_append]
        exact List.take_left
section
variable {P : Program} {n : Nat} {ops : Array Oper} {rest : List Oper} {N : Fr → World → Prop} {f : Fr} {w : World} {F : Env} {Ls : List Blks}
  {dst : Option Tmp} {ty : TypeId} {pos : String} {after : Array Edge} {gd : Option (Nat × Bool)}
theorem VR.appendK {t e : TypeId} {i : TypeInfo} {z : Value} {s bytes : Nat} {x y : Operand} (ht : P.underlying t = some (.slice e)) (hi : P.info? e = some i) (hz : i.zero = some z)
    (hsz : i.size = s) (hby : i.bytes = bytes) (hzs : z.cells.size = s) (hs : Nat.blt 0 s = true) {A : Option Addr} {m c : Nat} {xs : List Value} {L : Blks} {B : Option Addr} {q d : Nat} {news : List Value}
    (hg : gd = none) (hd : dstOk n dst = true) (hx : f.ev x = .slice A m c) (hy : f.ev y = .slice B q d)
    (hm : Mem F w (L :: Ls)) (ho : OwnS e s A m c xs L) (hr : Row (fun b => w.heap[b]?) B (q * s) news) (h1 : ∀ u ∈ news, u.oneCell' = true) {len : Nat} (hlen : m + q = len) (hroom : c < len) (h63 : len ≤ maxLen ∧ len * bytes ≤ 140737488355328)
    (h : ∀ A' c' w' L', OwnS e s A' len c' (xs ++ news) L' → Mem F w' (L' :: L :: Ls) → VR P n ops rest N (f.putO dst (.slice A' len c')) w') :
    VR P n ops (⟨dst, .call { callee := .builtin .append, args := #[x, y], argTypes := #[t, t] }, ty, pos, after, gd⟩ :: rest) N f w := by
  subst hlen
  obtain ⟨A', c', w', L', hrun, h6, h7⟩ := run_appendK (P := P) (ty' := ty) ht hi hz hsz hby hzs (Nat.blt_eq.mp hs) ho hm (d := d) hr h1 hroom h63.1 h63.2
  refine VR.val hg hd ?_ (h A' c' w' L' h6 h7)
  rw [BigFrame.execOp_builtin]
  simp [BigFrame.builtin_append, hx, hy, hrun]
end

/-! #### Many of them -/
/-- A slice. -/
structure Sl where
  A : Option Addr
  n : Nat
  c : Nat
def Sl.cells (x : Sl) : List Value := [.slice x.A x.n x.c]
theorem Sl.len (x : Sl) : x.cells.length = 1 := rfl
abbrev slcells (l : List Sl) : List Value := l.flatMap Sl.cells
theorem slcell_at {l : List Sl} {i : Nat} {b : Sl} (h : l[i]? = some b) : (slcells l)[i]? = some (.slice b.A b.n b.c) := by
  have := flat_at Sl.len h (j := 0) (by decide)
  rw [Nat.mul_one, Nat.add_zero] at this
  exact this
theorem slcells_one (l : List Sl) : ∀ u ∈ slcells l, u.oneCell' = true := by
  intro u hu
  obtain ⟨m, _, hm⟩ := List.mem_flatMap.1 hu
  simp only [Sl.cells, List.mem_cons, List.not_mem_nil, or_false] at hm
  subst hm
  rfl
def All (its : List Sl) (Ms : List Blks) (Φ : Nat → Sl → Blks → Prop) : Prop := Ms.length = its.length ∧ ∀ k it L, its[k]? = some it → Ms[k]? = some L → Φ k it L
theorem All.get {its : List Sl} {Ms : List Blks} {Φ : Nat → Sl → Blks → Prop} (h : All its Ms Φ) {k : Nat} {it : Sl} (hk : its[k]? = some it) : ∃ L, Ms[k]? = some L ∧ Φ k it L := by
  have hlt := (List.getElem?_eq_some_iff.1 hk).1
  have : Ms[k]? = some (Ms[k]'(by rw [h.1]; exact hlt)) := List.getElem?_eq_getElem _
  exact ⟨_, this, h.2 k it _ hk this⟩
theorem All.set {its : List Sl} {Ms : List Blks} {Φ Ψ : Nat → Sl → Blks → Prop} (h : All its Ms Φ) {k : Nat} {it : Sl} (hk : its[k]? = some it) {L : Blks} (hL : Ψ k it L) (hΨ : ∀ j x M, j ≠ k → its[j]? = some x → Φ j x M → Ψ j x M) : All its (Ms.set k L) Ψ := by
  refine ⟨by rw [List.length_set]; exact h.1, fun j x M hj hM => ?_⟩
  have hlt := (List.getElem?_eq_some_iff.1 hk).1
  by_cases e : j = k
  · subst e
    rw [List.getElem?_set_self (by rw [h.1]; exact hlt)] at hM
    obtain rfl := Option.some.inj hM
    rw [hk] at hj
    obtain rfl := Option.some.inj hj
    exact hL
  · rw [List.getElem?_set_ne (Ne.symm e)] at hM
    exact hΨ j x M e hj (h.2 j x M hj hM)
theorem All.imp {its : List Sl} {Ms : List Blks} {Φ Ψ : Nat → Sl → Blks → Prop} (h : All its Ms Φ) (hΨ : ∀ j x M, its[j]? = some x → Φ j x M → Ψ j x M) : All its Ms Ψ := ⟨h.1, fun j x M hj hM => hΨ j x M hj (h.2 j x M hj hM)⟩

theorem flat_erase {Ms : List Blks} {k : Nat} {L : Blks} (h : Ms[k]? = some L) : Ms.flatten.Perm (L ++ (Ms.eraseIdx k).flatten) := by
  induction Ms generalizing k with
  | nil => simp at h
  | cons A r ih =>
    cases k with
    | zero => simp at h; subst h; simp
    | succ k =>
      have := ih (by simpa using h)
      simp only [List.eraseIdx_cons_succ, List.flatten_cons]
      refine ((List.Perm.refl A).append this).trans ?_
      simp only [← List.append_assoc]
      exact (List.perm_append_comm).append_right _
theorem flat_set {Ms : List Blks} {k : Nat} {L : Blks} (h : k < Ms.length) : (Ms.set k L).flatten.Perm (L ++ (Ms.eraseIdx k).flatten) := by
  have h1 := flat_erase (Ms := Ms.set k L) (k := k) (L := L) (List.getElem?_set_self h)
  rwa [List.eraseIdx_set_eq] at h1
theorem Mem.take_k {F : Env} {w : World} {Ms R : List Blks} {k : Nat} {L : Blks} (h : Mem F w (Ms ++ R)) (hk : Ms[k]? = some L) : Mem F w (L :: (Ms.eraseIdx k ++ R)) := h.permF (by
  simp only [List.flatten_cons, List.flatten_append]
  rw [← List.append_assoc]
  exact (flat_erase hk).append_right _)
theorem Mem.put_k {F : Env} {w : World} {Ms R : List Blks} {k : Nat} {L : Blks} (h : Mem F w (L :: (Ms.eraseIdx k ++ R))) (hk : k < Ms.length) : Mem F w (Ms.set k L ++ R) := h.permF (by
  simp only [List.flatten_cons, List.flatten_append]
  rw [← List.append_assoc]
  exact (flat_set hk).symm.append_right _)
theorem Mem.plus_k {F : Env} {w : World} {Ms R : List Blks} (h : Mem F w (Ms ++ R)) {k : Nat} {L : Blks} (hk : Ms[k]? = some L) : ∀ p ∈ L, (F.plus (Ms ++ R)).heap p.1 = some p.2 :=
  h.plus_mem (List.mem_append_left _ (List.mem_of_getElem? hk))
end Go.Bd
