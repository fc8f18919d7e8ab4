/- A slice of one's own that begins anywhere in its array (a queue), and append onto it. Conditions: none; nothing here speaks of one program. -/
import Derived.Test.YtjnplhmhkindpaaAgg
namespace Go.Bd
set_option linter.unusedVariables false

/-- '.slice A n c' holds the cells xs, and its array, of which it may be a part, is one's own. -/
def OwnO (e : TypeId) (s : Nat) (A : Option Addr) (n c : Nat) (xs : List Value) (L : Blks) : Prop :=
  xs.length = n * s ∧ ((A = none ∧ n = 0 ∧ c = 0 ∧ L = []) ∨ ∃ g off cur, A = some ⟨g, off, none⟩ ∧ L = [(g, .cells cur e (0, 0))] ∧ n ≤ c ∧ c ≤ maxLen ∧ off + c * s ≤ cur.size ∧ (cur.toList.drop off).take (n * s) = xs)
theorem OwnO.nil (e : TypeId) (s : Nat) : OwnO e s none 0 0 [] [] := ⟨by simp, .inl ⟨rfl, rfl, rfl, rfl⟩⟩
theorem OwnS.toO {e : TypeId} {s : Nat} {A : Option Addr} {n c : Nat} {xs : List Value} {L : Blks} (h : OwnS e s A n c xs L) : OwnO e s A n c xs L := by
  refine ⟨h.1, ?_⟩
  rcases h.2 with h0 | ⟨g, cur, h1, h2, h3, h4, h5, h6⟩
  · exact .inl h0
  · exact .inr ⟨g, 0, cur, h1, h2, h3, h4, by omega, by simpa using h6⟩
theorem OwnO.le {e : TypeId} {s : Nat} {A : Option Addr} {n c : Nat} {xs : List Value} {L : Blks} (h : OwnO e s A n c xs L) : n ≤ c ∧ c ≤ maxLen := by
  rcases h.2 with ⟨_, rfl, rfl, _⟩ | ⟨g, off, cur, rfl, rfl, hn, hc, _⟩
  · exact ⟨Nat.le_refl _, Nat.zero_le _⟩
  · exact ⟨hn, hc⟩
theorem OwnO.row {e : TypeId} {s : Nat} {A : Option Addr} {n c : Nat} {xs : List Value} {L : Blks} (h : OwnO e s A n c xs L) {H : Nat → Option Obj} (hH : ∀ p ∈ L, H p.1 = some p.2) : Row H A (n * s) xs := by
  refine ⟨h.1, ?_⟩
  rcases h.2 with ⟨_, rfl, _, _⟩ | ⟨g, off, cur, rfl, rfl, hn, _, hs, ht⟩
  · exact .inl (by simp)
  · refine .inr ⟨g, off, cur, e, (0, 0), rfl, hH _ (.head _), fun i hi => ?_⟩
    rw [← ht, List.getElem?_take, if_pos hi, List.getElem?_drop]
    simp
/-- The rest from the first element on: 'x[1:]' and the like. -/
theorem OwnO.drop {e : TypeId} {s : Nat} {A : Option Addr} {n c : Nat} {xs : List Value} {L : Blks} (h : OwnO e s A n c xs L) {l : Nat} (hl : l ≤ n) :
    ∃ A', (if c = l then A else A.map (·.add (l * s))) = A' ∧ OwnO e s A' (n - l) (c - l) (xs.drop (l * s)) L := by
  refine ⟨_, rfl, by rw [List.length_drop, h.1, Nat.sub_mul], ?_⟩
  rcases h.2 with ⟨rfl, rfl, rfl, rfl⟩ | ⟨g, off, cur, rfl, rfl, hn, hc, hs, ht⟩
  · exact .inl ⟨by split <;> rfl, by omega, by omega, rfl⟩
  · right
    have hcl : c = l + (c - l) := by omega
    have hle : l * s + (c - l) * s = c * s := by rw [← Nat.add_mul]; congr 1; omega
    by_cases e1 : c = l
    · rw [if_pos e1]
      refine ⟨g, off, cur, rfl, rfl, by omega, by omega, by omega, ?_⟩
      have hz : (n - l) * s = 0 := by rw [show n - l = 0 by omega, Nat.zero_mul]
      rw [hz, List.take_zero, ← ht]
      rw [List.drop_eq_nil_of_le]
      rw [List.length_take]
      have : n * s ≤ l * s := Nat.mul_le_mul_right _ (by omega)
      omega
    · rw [if_neg e1]
      refine ⟨g, off + l * s, cur, by simp [add_lit'], rfl, by omega, by omega, by omega, ?_⟩
      rw [← ht, List.drop_take, List.drop_drop, Nat.sub_mul]

theorem lay_take {vs : List Value} {cs : Array Value} {i : Nat} (h : i + vs.length ≤ cs.size) : (lay cs i vs).toList = cs.toList.take i ++ vs ++ cs.toList.drop (i + vs.length) := by
  apply List.ext_getElem?
  intro k
  have hmin : (cs.toList.take i).length = i := by
    rw [List.length_take, show cs.toList.length = cs.size from Array.length_toList]
    omega
  rw [Array.getElem?_toList, lay_at vs cs i k h, List.getElem?_append, List.getElem?_append, List.length_append, hmin, List.getElem?_take, List.getElem?_drop]
  by_cases h1 : k < i
  · rw [if_neg (by omega), if_pos (by omega), if_pos h1, if_pos h1, Array.getElem?_toList]
  · by_cases h2 : k < i + vs.length
    · rw [if_pos (by omega), if_pos h2, if_neg h1]
    · rw [if_neg (by omega), if_neg h2, Array.getElem?_toList]
      congr 1
      omega

theorem run_appendO {P : Program} {F : Env} {w : World} {Ls : List Blks} {t ty' e : TypeId} {i : TypeInfo} {z : Value} {s bytes : Nat} (ht : P.underlying t = some (.slice e)) (hi : P.info? e = some i) (hz : i.zero = some z)
    (hsz : i.size = s) (hby : i.bytes = bytes) (hzs : z.cells.size = s) (hs : 0 < s) {A : Option Addr} {n c : Nat} {xs : List Value} {L : Blks} (ho : OwnO e s A n c xs L) (hm : Mem F w (L :: Ls))
    {B : Option Addr} {m d : Nat} {news : List Value} (hr : Row (fun b => w.heap[b]?) B (m * s) news) (h1 : ∀ u ∈ news, u.oneCell' = true) (h63 : n + m ≤ maxLen) (hbytes : (n + m) * bytes ≤ 140737488355328) :
    ∃ A' c' w' L', (Builtin.append_ #[t, t] ty' #[.slice A n c, .slice B m d]).run P w = .ok (.slice A' (n + m) c') w' ∧ OwnO e s A' (n + m) c' (xs ++ news) L' ∧ Mem F w' (L' :: Ls) := by
  rcases ho.2 with ⟨rfl, rfl, rfl, rfl⟩ | ⟨g, off, cur, rfl, rfl, hnc, hcm, hcs, htake⟩
  · have hx : xs = [] := List.eq_nil_of_length_eq_zero (by simpa using ho.1)
    subst hx
    obtain ⟨A', c', w', L', h2, h3, h4⟩ := run_append (P := P) (ty' := ty') ht hi hz hsz hby hzs hs (OwnS.nil e s) hm (d := d) hr h1 h63 hbytes
    exact ⟨A', c', w', L', h2, h3.toO, h4⟩
  · have hsrc : ∃ (news' : List Value), (Builtin.firstCells i.size m (.slice B m d)).run P w = .ok news'.toArray w ∧ news' = news := by
      refine ⟨news, ?_, rfl⟩
      subst hsz
      cases B with
      | none =>
        have hm0 : m = 0 := by
          rcases Nat.eq_zero_or_pos m with h0 | h0
          · exact h0
          · obtain ⟨b, off', blk, T, fr, e', _⟩ := hr.get (Nat.mul_pos h0 hs)
            cases e'
        subst hm0
        have hn : news = [] := List.eq_nil_of_length_eq_zero (by simpa using hr.1)
        subst hn
        simp [Builtin.firstCells]
      | some a => exact run_firstCells_some (P := P) w i.size m a m d news hr.1 hr.cells
    obtain ⟨_, hfc, rfl⟩ := hsrc
    rename_i news'
    have hlen : news'.length = m * s := hr.1
    have hsum : n * s + m * s = (n + m) * s := by rw [Nat.add_mul]
    by_cases hroom : n + m ≤ c
    · have hle : (n + m) * s ≤ c * s := Nat.mul_le_mul_right _ hroom
      obtain ⟨w', hst, hu⟩ := run_storeCells_at (P := P) (b := g) (T := e) (off := off + n * s) news' 0 cur w (hm.at_ 0 0 rfl) (by omega) h1
      refine ⟨some ⟨g, off, none⟩, c, w', [(g, .cells (lay cur (off + n * s) news') e (0, 0))], ?_, ⟨by rw [List.length_append, ho.1, hlen, hsum], .inr ⟨g, off, _, rfl, rfl, hroom, hcm, by rw [lay_size]; exact hcs, ?_⟩⟩, ?_⟩
      · subst hsz
        simp [Builtin.append_, run_underlying ht, sizeOf, typeInfo, hi, Builtin.lenOf, hroom, hfc, add_lit', hst]
      · rw [lay_take (by omega)]
        have hl0 : cur.toList.length = cur.size := Array.length_toList
        have hd : (cur.toList.take (off + n * s) ++ news' ++ cur.toList.drop (off + n * s + news'.length)).drop off = xs ++ (news' ++ cur.toList.drop (off + n * s + news'.length)) := by
          rw [List.append_assoc, List.drop_append_of_le_length (by rw [List.length_take]; omega), List.drop_take, ← htake]
          congr 2
          omega
        rw [hd, ← hsum, List.take_append, ho.1, Nat.add_sub_cancel_left, List.take_of_length_le (by rw [ho.1]; omega), ← hlen, List.take_left]
      · exact hm.upd (by simpa using hu) 0 0 rfl
    · have hx : ∀ j u, xs[j]? = some u → w.cell? ((⟨g, off, none⟩ : Addr).add j) = some u := (ho.row (H := fun b => w.heap[b]?) (fun p hp => hm.own p (by simp only [List.flatten_cons, List.mem_append]; exact .inl hp))).cells
      cases B with
      | none =>
        have hm0 : m = 0 := by
          rcases Nat.eq_zero_or_pos m with h0 | h0
          · exact h0
          · obtain ⟨b, off', blk, T, fr, e', _⟩ := hr.get (Nat.mul_pos h0 hs)
            cases e'
        omega
      | some a =>
        subst hsz
        have hg := run_append_grow (P := P) w t ty' e i z ht hi hz ⟨g, off, none⟩ n c xs ho.1 hx a m d news' hlen hr.cells (by omega) (by unfold maxLen at h63; omega) (growslice_fits (by omega) (by rw [hby]; exact hbytes))
        refine ⟨_, _, _, [(w.heap.size, _)], hg, ⟨by rw [List.length_append, ho.1, hlen, hsum], .inr ⟨w.heap.size, 0, _, rfl, rfl, grownCap_ge w (n + m) c e, grownCap_le_maxLen w (n + m) c e h63, ?_, ?_⟩⟩, (hm.pop.drew).alloc _⟩
        · have hge := grownCap_ge w (n + m) c e
          simp only [Array.size_append, List.size_toArray, size_zeroCells, hzs, ho.1, hlen, ← Nat.add_mul]
          rw [show n + m + (grownCap w (n + m) c e - (n + m)) = grownCap w (n + m) c e by omega]
          omega
        · simp only [Array.toList_append, List.append_assoc, List.drop_zero]
          rw [← List.append_assoc, ← hsum, ← ho.1, ← hlen, ← List.length_append]
          exact List.take_left

section
variable {P : Program} {n : Nat} {ops : Array Oper} {rest : List Oper} {N : Fr → World → Prop} {f : Fr} {w : World} {F : Env} {Ls : List Blks} {k : Nat} {C : World → Prop} {louds : List Nat}
  {dst : Option Tmp} {ty : TypeId} {pos : String} {after : Array Edge} {g : Option (Nat × Bool)}
theorem VR.appendO {t e : TypeId} {i : TypeInfo} {z : Value} {s bytes : Nat} {x y : Operand} (ht : P.underlying t = some (.slice e)) (hi : P.info? e = some i) (hz : i.zero = some z)
    (hsz : i.size = s) (hby : i.bytes = bytes) (hzs : z.cells.size = s) (hs : Nat.blt 0 s = true) {A : Option Addr} {m c : Nat} {xs : List Value} {L : Blks} {B : Option Addr} {q d : Nat} {news : List Value}
    (hg : g = none) (hd : dstOk n dst = true) (hx : f.ev x = .slice A m c) (hy : f.ev y = .slice B q d)
    (hm : Mem F w (L :: Ls)) (ho : OwnO e s A m c xs L) (hr : Row (fun b => w.heap[b]?) B (q * s) news) (h1 : ∀ u ∈ news, u.oneCell' = true) {len : Nat} (hlen : m + q = len) (h63 : len ≤ maxLen ∧ len * bytes ≤ 140737488355328)
    (h : ∀ A' c' w' L', OwnO e s A' len c' (xs ++ news) L' → Mem F w' (L' :: Ls) → VR P n ops rest N (f.putO dst (.slice A' len c')) w') :
    VR P n ops (⟨dst, .call { callee := .builtin .append, args := #[x, y], argTypes := #[t, t] }, ty, pos, after, g⟩ :: rest) N f w := by
  subst hlen
  obtain ⟨A', c', w', L', hrun, h6, h7⟩ := run_appendO (P := P) (ty' := ty) ht hi hz hsz hby hzs (Nat.blt_eq.mp hs) ho hm (d := d) hr h1 h63.1 h63.2
  refine VR.val hg hd ?_ (h A' c' w' L' h6 h7)
  rw [BigFrame.execOp_builtin]
  simp [BigFrame.builtin_append, hx, hy, hrun]
theorem VL.appendO {t e : TypeId} {i : TypeInfo} {z : Value} {s bytes : Nat} {x y : Operand} (ht : P.underlying t = some (.slice e)) (hi : P.info? e = some i) (hz : i.zero = some z)
    (hsz : i.size = s) (hby : i.bytes = bytes) (hzs : z.cells.size = s) (hs : Nat.blt 0 s = true) {A : Option Addr} {m c : Nat} {xs : List Value} {L : Blks} {B : Option Addr} {q d : Nat} {news : List Value}
    (hld : louds.contains k = true) (hg : g = none) (hd : dstOk n dst = true) (hx : f.ev x = .slice A m c) (hy : f.ev y = .slice B q d)
    (hm : Mem F w (L :: Ls)) (ho : OwnO e s A m c xs L) (hr : Row (fun b => w.heap[b]?) B (q * s) news) (h1 : ∀ u ∈ news, u.oneCell' = true) {len : Nat} (hlen : m + q = len) (h63 : len ≤ maxLen ∧ len * bytes ≤ 140737488355328)
    (hC : ∀ A' c' w' L', OwnO e s A' len c' (xs ++ news) L' → Mem F w' (L' :: Ls) → C w')
    (h : ∀ A' c' w' L', OwnO e s A' len c' (xs ++ news) L' → Mem F w' (L' :: Ls) → VL P n ops C louds N rest (k + 1) (f.putO dst (.slice A' len c')) w') :
    VL P n ops C louds N (⟨dst, .call { callee := .builtin .append, args := #[x, y], argTypes := #[t, t] }, ty, pos, after, g⟩ :: rest) k f w := by
  subst hlen
  obtain ⟨A', c', w', L', hrun, h6, h7⟩ := run_appendO (P := P) (ty' := ty) ht hi hz hsz hby hzs (Nat.blt_eq.mp hs) ho hm (d := d) hr h1 h63.1 h63.2
  refine VL.val hld hg hd ?_ (hC A' c' w' L' h6 h7) (h A' c' w' L' h6 h7)
  rw [BigFrame.execOp_builtin]
  simp [BigFrame.builtin_append, hx, hy, hrun]
theorem VDT.appendO {o : Nat} {done : List Nat} {t e : TypeId} {inf : TypeInfo} {z : Value} {s bytes : Nat} {x y : Operand} (ht : P.underlying t = some (.slice e)) (hin : P.info? e = some inf) (hz : inf.zero = some z)
    (hsz : inf.size = s) (hby : inf.bytes = bytes) (hzs : z.cells.size = s) (hs : Nat.blt 0 s = true) {A : Option Addr} {m c : Nat} {xs : List Value} {L : Blks} {B : Option Addr} {q d : Nat} {news : List Value}
    (hi : ops[o]? = some ⟨dst, .call { callee := .builtin .append, args := #[x, y], argTypes := #[t, t] }, ty, pos, after, g⟩) (hg : g = none) (hd : dstOk n dst = true) (hx : f.ev x = .slice A m c) (hy : f.ev y = .slice B q d)
    (hm : Mem F w (L :: Ls)) (ho : OwnO e s A m c xs L) (hr : Row (fun b => w.heap[b]?) B (q * s) news) (h1 : ∀ u ∈ news, u.oneCell' = true) {len : Nat} (hlen : m + q = len) (h63 : len ≤ maxLen ∧ len * bytes ≤ 140737488355328)
    (hC : ∀ A' c' w' L', OwnO e s A' len c' (xs ++ news) L' → Mem F w' (L' :: Ls) → C w')
    (h : ∀ A' c' w' L', OwnO e s A' len c' (xs ++ news) L' → Mem F w' (L' :: Ls) → VD P n ops C louds N (o :: done) (f.putO dst (.slice A' len c')) w') :
    VDT P n ops C louds N done o f w := by
  subst hlen
  obtain ⟨A', c', w', L', hrun, h6, h7⟩ := run_appendO (P := P) (ty' := ty) ht hin hz hsz hby hzs (Nat.blt_eq.mp hs) ho hm (d := d) hr h1 h63.1 h63.2
  refine VDT.val hi hg hd ?_ (hC A' c' w' L' h6 h7) (h A' c' w' L' h6 h7)
  rw [BigFrame.execOp_builtin]
  simp [BigFrame.builtin_append, hx, hy, hrun]
end

/-! #### Append that has room -/
theorem run_appendI {P : Program} {F : Env} {w : World} {Ls : List Blks} {t ty' e : TypeId} {i : TypeInfo} {s : Nat} (ht : P.underlying t = some (.slice e)) (hi : P.info? e = some i)
    (hsz : i.size = s) (hs : 0 < s) {g n c : Nat} {cur : Array Value} {xs : List Value} (ho : OwnS e s (some ⟨g, 0, none⟩) n c xs [(g, .cells cur e (0, 0))]) (hm : Mem F w ([(g, .cells cur e (0, 0))] :: Ls))
    {B : Option Addr} {m d : Nat} {news : List Value} (hr : Row (fun b => w.heap[b]?) B (m * s) news) (h1 : ∀ u ∈ news, u.oneCell' = true) (hroom : n + m ≤ c) :
    ∃ w', (Builtin.append_ #[t, t] ty' #[.slice (some ⟨g, 0, none⟩) n c, .slice B m d]).run P w = .ok (.slice (some ⟨g, 0, none⟩) (n + m) c) w' ∧ OwnS e s (some ⟨g, 0, none⟩) (n + m) c (xs ++ news) [(g, .cells (lay cur (n * s) news) e (0, 0))] ∧
      Mem F w' ([(g, .cells (lay cur (n * s) news) e (0, 0))] :: Ls) := by
  rcases ho.2 with ⟨h0, _⟩ | ⟨g', cur', e1, e2, hnc, hcm, hcs, htake⟩
  · cases h0
  · simp only [Option.some.injEq, Addr.mk.injEq] at e1
    obtain rfl := e1.1
    simp only [List.cons.injEq, Prod.mk.injEq, Obj.cells.injEq] at e2
    obtain rfl := e2.1.2.1
    have hfc : (Builtin.firstCells i.size m (.slice B m d)).run P w = .ok news.toArray w := by
      subst hsz
      cases B with
      | none =>
        have hm0 : m = 0 := by
          rcases Nat.eq_zero_or_pos m with h0 | h0
          · exact h0
          · obtain ⟨b, off', blk, T, fr, e', _⟩ := hr.get (Nat.mul_pos h0 hs)
            cases e'
        subst hm0
        have hn : news = [] := List.eq_nil_of_length_eq_zero (by simpa using hr.1)
        subst hn
        simp [Builtin.firstCells]
      | some a => exact run_firstCells_some (P := P) w i.size m a m d news hr.1 hr.cells
    have hlen : news.length = m * s := hr.1
    have hsum : n * s + m * s = (n + m) * s := by rw [Nat.add_mul]
    have hle : (n + m) * s ≤ c * s := Nat.mul_le_mul_right _ hroom
    obtain ⟨w', hst, hu⟩ := run_storeCells_at (P := P) (b := g) (T := e) (off := n * s) news 0 cur w (hm.at_ 0 0 rfl) (by omega) h1
    refine ⟨w', ?_, ⟨by rw [List.length_append, ho.1, hlen, hsum], .inr ⟨g, _, rfl, rfl, hroom, hcm, by rw [lay_size]; exact hcs, ?_⟩⟩, ?_⟩
    · subst hsz
      simp [Builtin.append_, run_underlying ht, sizeOf, typeInfo, hi, Builtin.lenOf, hroom, hfc, add_lit', hst]
    · rw [lay_take (by omega), List.append_assoc]
      have hl0 : cur.toList.length = cur.size := Array.length_toList
      have hx : xs.length = n * s := ho.1
      have e1 : cur.toList.take (n * s) = xs := htake
      rw [e1, ← List.append_assoc]
      rw [← hsum, ← hx, ← hlen, ← List.length_append]
      exact List.take_left
    · exact hm.upd (by simpa using hu) 0 0 rfl
section
variable {P : Program} {n : Nat} {ops : Array Oper} {rest : List Oper} {N : Fr → World → Prop} {f : Fr} {w : World} {F : Env} {Ls : List Blks}
  {dst : Option Tmp} {ty : TypeId} {pos : String} {after : Array Edge} {gd : Option (Nat × Bool)}
theorem VR.appendI {t e : TypeId} {i : TypeInfo} {s : Nat} {x y : Operand} (ht : P.underlying t = some (.slice e)) (hi : P.info? e = some i)
    (hsz : i.size = s) (hs : Nat.blt 0 s = true) {g m c : Nat} {cur : Array Value} {xs : List Value} {B : Option Addr} {q d : Nat} {news : List Value}
    (hg : gd = none) (hd : dstOk n dst = true) (hx : f.ev x = .slice (some ⟨g, 0, none⟩) m c) (hy : f.ev y = .slice B q d)
    (hm : Mem F w ([(g, .cells cur e (0, 0))] :: Ls)) (ho : OwnS e s (some ⟨g, 0, none⟩) m c xs [(g, .cells cur e (0, 0))]) (hr : Row (fun b => w.heap[b]?) B (q * s) news) (h1 : ∀ u ∈ news, u.oneCell' = true) {len : Nat} (hlen : m + q = len) (hroom : len ≤ c)
    (h : ∀ cur' w', OwnS e s (some ⟨g, 0, none⟩) len c (xs ++ news) [(g, .cells cur' e (0, 0))] → Mem F w' ([(g, .cells cur' e (0, 0))] :: Ls) → VR P n ops rest N (f.putO dst (.slice (some ⟨g, 0, none⟩) len c)) w') :
    VR P n ops (⟨dst, .call { callee := .builtin .append, args := #[x, y], argTypes := #[t, t] }, ty, pos, after, gd⟩ :: rest) N f w := by
  subst hlen
  obtain ⟨w', hrun, h6, h7⟩ := run_appendI (P := P) (ty' := ty) ht hi hsz (Nat.blt_eq.mp hs) ho hm (d := d) hr h1 hroom
  refine VR.val hg hd ?_ (h _ w' h6 h7)
  rw [BigFrame.execOp_builtin]
  simp [BigFrame.builtin_append, hx, hy, hrun]
end


/-- With more that counts as fixed. -/
theorem Mem.leC {F : Env} {w : World} {A : Blks} {Ls : List Blks} (h : Mem F w (A :: Ls)) : (F.plus Ls).le (F.plus (A :: Ls)) := fun b o e => by
  have h1 : Mem (F.plus Ls) w [A] := (show Mem F w ([A] ++ Ls) from h).focus
  have ho := h1.fix b o e
  show (match blk (A :: Ls).flatten b with | some o => some o | none => F.heap b) = some o
  cases hb : blk (A :: Ls).flatten b with
  | some x =>
    have := h.own _ (mem_of_blk hb)
    rw [← ho, this]
  | none =>
    have e' : (match blk Ls.flatten b with | some o => some o | none => F.heap b) = some o := e
    cases hb2 : blk Ls.flatten b with
    | none => rw [hb2] at e'; exact e'
    | some y =>
      have hy : (b, y) ∈ (A :: Ls).flatten := by
        rw [List.flatten_cons]
        exact List.mem_append_right _ (mem_of_blk hb2)
      rw [blk_of_mem h.nodup hy] at hb
      cases hb
theorem Kept.one {F : Env} {w : World} {Ls : List Blks} {L : Blks} (h : Mem F w Ls) (i : Nat) (hL : Ls[i]? = some L) : Kept F [L] w :=
  ⟨Ls.eraseIdx i, (h.pull i hL).permF (by
    simp only [List.flatten_cons, List.flatten_append, List.flatten_nil, List.append_nil]
    exact List.perm_append_comm)⟩

/-! #### The lowest bit -/
theorem and_one (x : Int) : IntKind.i64.wrap ((BitVec.ofInt 64 x &&& BitVec.ofInt 64 1).toNat : Int) = x % 2 := by
  have e : (BitVec.ofInt 64 x &&& BitVec.ofInt 64 1).toNat = (x % 2).toNat := by
    rw [BitVec.toNat_and, BitVec.toNat_ofInt]
    have h1 : (BitVec.ofInt 64 1).toNat = 1 := by decide
    rw [h1, Nat.and_one_is_mod]
    omega
  rw [e, IntWalk.i64_in _ (by omega)]
  omega
section
variable {P : Program} {f : Fr} {dst : Option Tmp} {ty : TypeId} {pos : String} {after : Array Edge} {g : Option (Nat × Bool)}
theorem p_and1 {tx t' : TypeId} {x : Operand} {a : Int} (hx : f.ev x = .int .i64 a) : Pure P f ⟨dst, .binOp .and tx x (.const (.int .i64 1)) t', ty, pos, after, g⟩ (.int .i64 (a % 2)) := by
  have h := p_bin (P := P) (f := f) (dst := dst) (ty := ty) (pos := pos) (after := after) (g := g) (tx := tx) (t' := t') (op := .and) (x := x) (y := .const (.int .i64 1)) (v := .int .i64 (a % 2)) hx rfl fun w => by
    have h0 : (binOp .and tx (.int .i64 a) (.int .i64 1)).run P w = (Op.intBits .and .i64 a 1).run P w := by simp [binOp]
    have h1 : (Op.intBits .and .i64 a 1).run P w = .ok (.int .i64 (IntKind.i64.wrap ((BitVec.ofInt 64 a &&& BitVec.ofInt 64 1).toNat : Int))) w := rfl
    rw [h0, h1, and_one]
  exact h
end

section
variable {P : Program} {f : Fr} {dst : Option Tmp} {ty : TypeId} {pos : String} {after : Array Edge} {g : Option (Nat × Bool)}
theorem p_and1E {tx t' : TypeId} {x : Operand} {a r : Int} (hx : f.ev x = .int .i64 a) (hr : a % 2 = r) : Pure P f ⟨dst, .binOp .and tx x (.const (.int .i64 1)) t', ty, pos, after, g⟩ (.int .i64 r) := by
  subst hr
  exact p_and1 hx
theorem p_rem64E {tx t' : TypeId} {x y : Operand} {a b r : Int} (hx : f.ev x = .int .i64 a) (hy : f.ev y = .int .i64 b) (h0 : 0 ≤ a) (h : b ≠ 0) (hr : a % b = r) :
    Pure P f ⟨dst, .binOp .rem tx x y t', ty, pos, after, g⟩ (.int .i64 r) := by
  subst hr
  exact p_rem64 hx hy h0 h
end
section
variable {P : Program} {f : Fr} {dst : Option Tmp} {ty : TypeId} {pos : String} {after : Array Edge} {g : Option (Nat × Bool)}
theorem p_shrE {tx t' : TypeId} {x y : Operand} {k k' : IntKind} {a b r : Int} (hx : f.ev x = .int k a) (hy : f.ev y = .int k' b) (h0 : 0 ≤ b) (hr : a.fdiv (2 ^ (min b.toNat k.bits)) = r) :
    Pure P f ⟨dst, .binOp .shr tx x y t', ty, pos, after, g⟩ (.int k r) := by
  subst hr
  exact p_shr hx hy h0
end
theorem Mem.plus_i {F : Env} {w : World} {Ls : List Blks} (h : Mem F w Ls) (i : Nat) {L : Blks} (hL : Ls[i]? = some L) : ∀ p ∈ L, (F.plus Ls).heap p.1 = some p.2 := h.plus_mem (List.mem_of_getElem? hL)
theorem ints_at {xs : List Int} {i : Nat} {x : Int} (h : xs[i]? = some x) : (xs.map (Value.int .i64))[i]? = some (.int .i64 x) := by
  rw [List.getElem?_map, h]
  rfl
end Go.Bd
