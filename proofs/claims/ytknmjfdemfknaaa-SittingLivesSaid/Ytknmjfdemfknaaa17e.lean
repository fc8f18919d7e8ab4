/- Layer 17, plain law: what two arrays tell of a book. Conditions: as each states. -/
import Derived.Test.Ytknmjfdemfknaaa17d
namespace Go.Bd
open Go.Proofs
set_option linter.unusedVariables false
set_option maxRecDepth 20000

/-! ### Arrays of ten numbers -/
abbrev ten (H : Nat → Int) : Array Value := (longs ((List.range 10).map H)).toArray
def upd (H : Nat → Int) (s : Nat) (v : Int) : Nat → Int := fun k => if k = s then v else H k
theorem ten_at {H : Nat → Int} {s : Nat} (h : s < 10) : (ten H)[0 + s]? = some (.int .i64 (H s)) := by
  rw [Nat.zero_add, List.getElem?_toArray]
  unfold longs
  rw [List.getElem?_map, List.getElem?_map, List.getElem?_range h]
  rfl
theorem ten_set {H : Nat → Int} {s : Nat} {v : Int} (h : s < 10) : lay (ten H) (0 + s) (Value.int .i64 v).cells.toList = ten (upd H s v) := by
  show (ten H).setIfInBounds (0 + s) (.int .i64 v) = _
  rw [Nat.zero_add]
  apply Array.ext_getElem?
  intro k
  rw [Array.getElem?_setIfInBounds, List.getElem?_toArray, List.getElem?_toArray, List.size_toArray]
  unfold longs
  rw [List.getElem?_map, List.getElem?_map, List.getElem?_map, List.getElem?_map, List.length_map, List.length_map, List.length_range]
  by_cases hk : k < 10
  · rw [List.getElem?_range hk]
    by_cases e : s = k
    · subst e
      rw [if_pos rfl, if_pos h]
      show _ = some (Value.int .i64 (if s = s then v else H s))
      rw [if_pos rfl]
    · rw [if_neg e]
      show _ = some (Value.int .i64 (if k = s then v else H k))
      rw [if_neg (Ne.symm e)]
      rfl
  · rw [if_neg (by omega), List.getElem?_eq_none (by rw [List.length_range]; omega)]
    rfl
theorem ten_size (H : Nat → Int) : (ten H).size = 10 := by
  rw [List.size_toArray, List.length_map, List.length_map, List.length_range]

theorem mem_putS {fs : List Sa} {x f : Sa} : f ∈ putS fs x ↔ f = x ∨ (f ∈ fs ∧ f.1 ≠ x.1) := by
  unfold putS
  cases h : inS fs x.1 with
  | none =>
    have hno : ∀ f ∈ fs, f.1 ≠ x.1 := fun f hf e => by
      unfold inS at h
      rw [List.find?_eq_none] at h
      exact h f hf (decide_eq_true e)
    show f ∈ fs ++ [x] ↔ _
    rw [List.mem_append, List.mem_singleton]
    constructor
    · rintro (h1 | h1)
      · exact .inr ⟨h1, hno f h1⟩
      · exact .inl h1
    · rintro (h1 | h1)
      · exact .inr h1
      · exact .inl h1.1
  | some y =>
    show f ∈ fs.map _ ↔ _
    obtain ⟨h1, h2⟩ := inS_some h
    rw [List.mem_map]
    constructor
    · rintro ⟨g, hg, rfl⟩
      split
      · exact .inl rfl
      · exact .inr ⟨hg, by assumption⟩
    · rintro (rfl | ⟨hf, hne⟩)
      · exact ⟨y, h1, if_pos h2⟩
      · exact ⟨f, hf, if_neg hne⟩
theorem inS_iff {fs : List Sa} {s : Int} : (inS fs s).isSome = true ↔ ∃ f ∈ fs, f.1 = s := by
  constructor
  · intro h
    obtain ⟨x, hx⟩ := Option.isSome_iff_exists.1 h
    exact ⟨x, inS_some hx⟩
  · rintro ⟨f, hf, rfl⟩
    cases h : inS fs f.1 with
    | some _ => rfl
    | none =>
      unfold inS at h
      rw [List.find?_eq_none] at h
      exact absurd (decide_eq_true rfl) (h f hf)

/-- What the arrays tell of the book. -/
structure Fair (b : Ba) (H T : Nat → Int) (now : Int) : Prop where
  time : b.now = now
  each : ∀ f ∈ b.fs, ∃ s : Nat, f.1 = s ∧ 1 ≤ s ∧ s ≤ 9 ∧ f.2.1 = T s ∧ 1 ≤ T s ∧ f.2.2 = endOf (H s) (T s)
  there : ∀ s : Nat, 1 ≤ s → s ≤ 9 → 1 ≤ T s → ∃ f ∈ b.fs, f.1 = s
  heard : ∀ s : Nat, s < 10 → 0 ≤ H s ∧ H s ≤ now ∧ 0 ≤ T s ∧ T s ≤ 40
theorem Fair.new : Fair ⟨0, []⟩ (fun _ => 0) (fun _ => 0) 0 :=
  ⟨rfl, fun f hf => (List.not_mem_nil hf).elim, fun s _ _ h => by have h : (1 : Int) ≤ 0 := h; omega, fun s _ => ⟨Int.le_refl _, Int.le_refl _, Int.le_refl _, by decide⟩⟩
theorem upd_at (H : Nat → Int) (s : Nat) (v : Int) : upd H s v s = v := if_pos rfl
theorem upd_ne (H : Nat → Int) {s k : Nat} (v : Int) (h : k ≠ s) : upd H s v k = H k := if_neg h
theorem Fair.add {b : Ba} {H T : Nat → Int} {now t : Int} {s : Nat} (h : Fair b H T now) (hn : 0 ≤ now) (hs : 1 ≤ s ∧ s ≤ 9) (ht : 1 ≤ t ∧ t ≤ 40) :
    ∃ b', addB b s t = (0, b') ∧ Fair b' (upd H s now) (upd T s t) now := by
  refine ⟨⟨b.now, putS b.fs (s, t, endOf b.now t)⟩, by unfold addB; rw [if_neg (by omega)], h.time, fun f hf => ?_, fun k hk1 hk2 hT => ?_, fun k hk => ?_⟩
  · rcases mem_putS.1 hf with rfl | ⟨hf, hne⟩
    · refine ⟨s, rfl, hs.1, hs.2, (upd_at T s t).symm, by rw [upd_at]; exact ht.1, ?_⟩
      rw [upd_at, upd_at]
      show endOf b.now t = _
      rw [h.time]
    · obtain ⟨k, hk, hk1, hk2, e1, e2, e3⟩ := h.each f hf
      have hks : k ≠ s := fun e => hne (by rw [hk, e])
      exact ⟨k, hk, hk1, hk2, by rw [upd_ne T t hks]; exact e1, by rw [upd_ne T t hks]; exact e2, by rw [upd_ne T t hks, upd_ne H now hks]; exact e3⟩
  · by_cases e : k = s
    · subst e
      exact ⟨_, mem_putS.2 (.inl rfl), rfl⟩
    · rw [upd_ne T t e] at hT
      obtain ⟨f, hf, hfk⟩ := h.there k hk1 hk2 hT
      exact ⟨f, mem_putS.2 (.inr ⟨hf, by rw [hfk]; show (k : Int) ≠ s; omega⟩), hfk⟩
  · have h1 := h.heard k hk
    by_cases e : k = s
    · subst e
      rw [upd_at, upd_at]
      omega
    · rw [upd_ne T t e, upd_ne H now e]
      exact h1
theorem Fair.has {b : Ba} {H T : Nat → Int} {now : Int} {s : Nat} (h : Fair b H T now) (hs : 1 ≤ s ∧ s ≤ 9) : (inS b.fs s).isSome = decide (0 < T s) := by
  have h1 := inS_iff (fs := b.fs) (s := s)
  by_cases ht : 0 < T s
  · rw [decide_eq_true ht]
    exact h1.2 (h.there s hs.1 hs.2 (by omega))
  · rw [decide_eq_false ht]
    cases hx : (inS b.fs s).isSome with
    | false => rfl
    | true =>
      obtain ⟨f, hf, hfs⟩ := h1.1 hx
      obtain ⟨k, hk, _, _, _, e2, _⟩ := h.each f hf
      obtain rfl : k = s := by omega
      omega
theorem Fair.touch {b : Ba} {H T : Nat → Int} {now : Int} {s : Nat} (h : Fair b H T now) (hn : 0 ≤ now) (hs : 1 ≤ s ∧ s ≤ 9) :
    ∃ b', touchB b s = (decide (0 < T s), b') ∧ Fair b' (upd H s now) T now := by
  have hhas := h.has hs
  have hheard : ∀ k : Nat, k < 10 → 0 ≤ upd H s now k ∧ upd H s now k ≤ now ∧ 0 ≤ T k ∧ T k ≤ 40 := fun k hk => by
    have h1 := h.heard k hk
    by_cases e : k = s
    · subst e
      rw [upd_at]
      omega
    · rw [upd_ne H now e]
      exact h1
  unfold touchB
  cases hx : inS b.fs s with
  | none =>
    rw [hx] at hhas
    refine ⟨b, by rw [← hhas]; rfl, h.time, fun f hf => ?_, h.there, hheard⟩
    obtain ⟨k, hk, hk1, hk2, e1, e2, e3⟩ := h.each f hf
    have hks : k ≠ s := fun e => by
      subst e
      have h2 := of_decide_eq_false hhas.symm
      omega
    exact ⟨k, hk, hk1, hk2, e1, e2, by rw [upd_ne H now hks]; exact e3⟩
  | some x =>
    rw [hx] at hhas
    obtain ⟨hx1, hx2⟩ := inS_some hx
    obtain ⟨kx, hkx, _, _, ex1, ex2, _⟩ := h.each x hx1
    obtain rfl : kx = s := by omega
    refine ⟨⟨b.now, putS b.fs (kx, x.2.1, endOf b.now x.2.1)⟩, by rw [← hhas]; rfl, h.time, fun f hf => ?_, fun k hk1 hk2 hT => ?_, hheard⟩
    · rcases mem_putS.1 hf with rfl | ⟨hf, hne⟩
      · refine ⟨kx, rfl, hs.1, hs.2, ex1, ex2, ?_⟩
        rw [upd_at]
        show endOf b.now x.2.1 = _
        rw [h.time, ex1]
      · obtain ⟨k, hk, hk1, hk2, e1, e2, e3⟩ := h.each f hf
        have hks : k ≠ kx := fun e => hne (by rw [hk, e])
        exact ⟨k, hk, hk1, hk2, e1, e2, by rw [upd_ne H now hks]; exact e3⟩
    · by_cases e : k = kx
      · subst e
        exact ⟨_, mem_putS.2 (.inl rfl), rfl⟩
      · obtain ⟨f, hf, hfk⟩ := h.there k hk1 hk2 hT
        exact ⟨f, mem_putS.2 (.inr ⟨hf, by rw [hfk]; show (k : Int) ≠ kx; omega⟩), hfk⟩
/-- Some sessions gone: the ones that are left, with their timeouts. -/
theorem Fair.less {b b' : Ba} {H T T' : Nat → Int} {now now' : Int} {p : Int → Bool} (h : Fair b H T now) (hn : b'.now = now') (hle : now ≤ now')
    (hfs : ∀ f, f ∈ b'.fs ↔ f ∈ b.fs ∧ p f.1 = false) (hT : ∀ s : Nat, s < 10 → (∃ f ∈ b.fs, f.1 = s) → T' s = if p s = true then 0 else T s) (hT0 : ∀ s : Nat, s < 10 → T' s = T s ∨ T' s = 0) : Fair b' H T' now' := by
  refine ⟨hn, fun f hf => ?_, fun k hk1 hk2 ht => ?_, fun k hk => ?_⟩
  · obtain ⟨hf1, hp⟩ := (hfs f).1 hf
    obtain ⟨k, hk, hk1, hk2, e1, e2, e3⟩ := h.each f hf1
    have h1 := hT k (by omega) ⟨f, hf1, hk⟩
    rw [← hk, hp, if_neg (by decide)] at h1
    exact ⟨k, hk, hk1, hk2, by rw [h1]; exact e1, by rw [h1]; exact e2, by rw [h1]; exact e3⟩
  · have h0 := hT0 k (by omega)
    obtain ⟨f, hf, hfk⟩ := h.there k hk1 hk2 (by omega)
    have h1 := hT k (by omega) ⟨f, hf, hfk⟩
    refine ⟨f, (hfs f).2 ⟨hf, ?_⟩, hfk⟩
    cases hp : p f.1 with
    | false => rfl
    | true =>
      rw [← hfk, hp, if_pos rfl] at h1
      omega
  · have h1 := h.heard k hk
    have h0 := hT0 k hk
    omega
theorem Fair.remove {b : Ba} {H T : Nat → Int} {now : Int} {s : Nat} (h : Fair b H T now) (hs : 1 ≤ s ∧ s ≤ 9) :
    ∃ b', removeB b s = (decide (0 < T s), b') ∧ Fair b' H (upd T s 0) now := by
  have hhas := h.has hs
  have hT0 : ∀ k : Nat, k < 10 → upd T s 0 k = T k ∨ upd T s 0 k = 0 := fun k _ => by
    unfold upd
    split
    · exact .inr rfl
    · exact .inl rfl
  unfold removeB
  cases hx : inS b.fs s with
  | none =>
    rw [hx] at hhas
    refine ⟨b, by rw [← hhas]; rfl, h.less (p := fun _ => false) h.time (Int.le_refl _) (fun f => by simp) (fun k hk ⟨f, hf, hfk⟩ => ?_) hT0⟩
    have hks : k ≠ s := fun e => by
      subst e
      obtain ⟨k', hk', _, _, _, e2, _⟩ := h.each f hf
      obtain rfl : k' = k := by omega
      have h2 := of_decide_eq_false hhas.symm
      omega
    rw [if_neg (by decide)]
    exact upd_ne T 0 hks
  | some x =>
    rw [hx] at hhas
    refine ⟨⟨b.now, delS b.fs s⟩, by rw [← hhas]; rfl, h.less (p := fun k => decide (k = (s : Int))) h.time (Int.le_refl _) (fun f => ?_) (fun k hk _ => ?_) hT0⟩
    · show f ∈ b.fs.filter _ ↔ _
      rw [List.mem_filter]
      simp
    · unfold upd
      by_cases e : k = s
      · rw [if_pos e, if_pos (decide_eq_true (by omega))]
      · rw [if_neg e, if_neg (by rw [decide_eq_true_eq]; omega)]
theorem end_le (h t : Int) : h + t ≤ endOf h t ∧ endOf h t ≤ h + t + 3 := by
  unfold endOf
  omega
/-- Whom a tick tells: sessions that are in the book, and whose timeouts have gone by. -/
theorem Fair.told {b : Ba} {H T : Nat → Int} {now t : Int} (h : Fair b H T now) (ht : t ≤ 1152921504606846976) (hle : now ≤ t) {g : Int} (hg : g ∈ goneB b t) : ∃ s : Nat, g = s ∧ 1 ≤ s ∧ s ≤ 9 ∧ 1 ≤ T s ∧ H s + T s ≤ t := by
  unfold goneB at hg
  obtain ⟨f, hf, rfl⟩ := List.mem_map.1 hg
  obtain ⟨hf1, hf2⟩ := List.mem_filter.1 hf
  obtain ⟨s, hs, h1, h2, e1, e2, e3⟩ := h.each f hf1
  have h3 := of_decide_eq_true hf2
  have h4 := end_le (H s) (T s)
  have h5 : nowOf b.now t = t := by
    unfold nowOf
    rw [if_pos ht, h.time]
    omega
  rw [h5] at h3
  exact ⟨s, hs, h1, h2, e2, by omega⟩
theorem Fair.tick {b : Ba} {H T T' : Nat → Int} {now t : Int} (h : Fair b H T now) (hap : Apart b.fs) (ht : t ≤ 1152921504606846976) (hle : now ≤ t) (hT : ∀ s, s < 10 → T' s = if (s : Int) ∈ goneB b t then 0 else T s) :
    Fair (tickB b t) H T' t ∧ ∀ s : Nat, 1 ≤ s → s ≤ 9 → 1 ≤ T' s → t < H s + T' s + 3 := by
  have h5 : nowOf b.now t = t := by
    unfold nowOf
    rw [if_pos ht, h.time]
    omega
  have hgone : ∀ f ∈ b.fs, (f.1 ∈ goneB b t ↔ f.2.2 ≤ t) := fun f hf => by
    rw [gone_out hap, List.mem_filter, over_of hap hf, h5]
    constructor
    · exact fun ⟨_, h⟩ => of_decide_eq_true h
    · exact fun h => ⟨List.mem_map.2 ⟨f, hf, rfl⟩, decide_eq_true h⟩
  have hF : Fair (tickB b t) H T' t := by
    refine h.less (p := fun s => decide (s ∈ goneB b t)) h5 hle (fun f => ?_) (fun s hs _ => ?_) (fun s hs => ?_)
    · show f ∈ b.fs.filter _ ↔ _
      rw [List.mem_filter, h5]
      constructor
      · exact fun ⟨h1, h2⟩ => ⟨h1, decide_eq_false fun h3 => of_decide_eq_true h2 ((hgone f h1).1 h3)⟩
      · exact fun ⟨h1, h2⟩ => ⟨h1, decide_eq_true fun h3 => of_decide_eq_false h2 ((hgone f h1).2 h3)⟩
    · rw [hT s hs]
      by_cases e : (s : Int) ∈ goneB b t
      · rw [if_pos e, if_pos (decide_eq_true e)]
      · rw [if_neg e, if_neg (by simpa using e)]
    · rw [hT s hs]
      split
      · exact .inr rfl
      · exact .inl rfl
  refine ⟨hF, fun s h1 h2 h3 => ?_⟩
  obtain ⟨f, hf, hfs⟩ := hF.there s h1 h2 h3
  obtain ⟨k, hk, _, _, _, _, e3⟩ := hF.each f hf
  obtain rfl : k = s := by omega
  have h4 := of_decide_eq_true (List.mem_filter.1 hf).2
  rw [h5] at h4
  have h6 := end_le (H k) (T' k)
  omega
section
variable {P : Program} {f : Fr} {dst : Option Tmp} {ty : TypeId} {pos : String} {after : Array Edge} {g : Option (Nat × Bool)}
/-- Bits of both: some number. -/
theorem p_and64 {tx t' : TypeId} {x y : Operand} {a b : Int} (hx : f.ev x = .int .i64 a) (hy : f.ev y = .int .i64 b) :
    Pure P f ⟨dst, .binOp .and tx x y t', ty, pos, after, g⟩ (.int .i64 (IntKind.i64.wrap ((BitVec.ofInt 64 a &&& BitVec.ofInt 64 b).toNat : Int))) :=
  p_bin hx hy fun w => by
    have h0 : (binOp .and tx (.int .i64 a) (.int .i64 b)).run P w = (Op.intBits .and .i64 a b).run P w := by simp [binOp]
    rw [h0]
    rfl
end
/-- Timeouts when some sessions are gone. -/
def less (T : Nat → Int) (l : List Int) : Nat → Int := fun s => if (s : Int) ∈ l then 0 else T s
theorem less_nil (T : Nat → Int) : less T [] = T := funext fun s => if_neg List.not_mem_nil
theorem less_one {T : Nat → Int} {l : List Int} {s : Nat} : upd (less T l) s 0 = less T (l ++ [(s : Int)]) := funext fun k => by
  unfold upd less
  by_cases e : k = s
  · subst e
    rw [if_pos rfl, if_pos (List.mem_append_right _ (List.mem_singleton.2 rfl))]
  · rw [if_neg e]
    by_cases h : (k : Int) ∈ l
    · rw [if_pos h, if_pos (List.mem_append_left _ h)]
    · rw [if_neg h, if_neg (by
        rw [List.mem_append, List.mem_singleton]
        rintro (h1 | h1)
        · exact h h1
        · exact e (by omega))]
theorem add_len {b b' : Ba} {s t c : Int} (h : addB b s t = (c, b')) : b'.fs.length ≤ b.fs.length + 1 := by
  have := addB_len b s t
  rw [h] at this
  exact this
theorem touch_len {b b' : Ba} {s : Int} {q : Bool} (h : touchB b s = (q, b')) : b'.fs.length ≤ b.fs.length + 1 := by
  unfold touchB at h
  split at h
  · obtain rfl := (Prod.mk.inj h).2
    exact putS_len _ _
  · obtain rfl := (Prod.mk.inj h).2
    exact Nat.le_succ _
theorem remove_len {b b' : Ba} {s : Int} {q : Bool} (h : removeB b s = (q, b')) : b'.fs.length ≤ b.fs.length + 1 := by
  unfold removeB at h
  split at h
  · obtain rfl := (Prod.mk.inj h).2
    exact Nat.le_succ_of_le (List.length_filter_le _ _)
  · obtain rfl := (Prod.mk.inj h).2
    exact Nat.le_succ _
theorem step_len {B B' : Bk} {b' : Ba} {i : Nat} (he : B'.abs = b') (h : b'.fs.length ≤ B.abs.fs.length + 1) (hl : B.fs.length ≤ i) : B'.fs.length ≤ i + 1 := by
  have h1 := fs_len he
  have h3 : B.abs.fs.length = B.fs.length := List.length_map _
  omega
end Go.Bd
