/- A memory of blocks that are known whole: what stays fixed ('Env'), what is owned ('Mem'), how both go on over new blocks, stores and calls; rows of cells that are read. Conditions: none; nothing here speaks of one program. -/
import Derived.Test.YtjnplhmhkindpaaVc
namespace Go.Bd
set_option linter.unusedVariables false

/-! ### Worlds that differ in one block -/
structure Upd (w w' : World) (b : Nat) (o : Obj) : Prop where
  os : w'.os = w.os
  tape : w'.tape = w.tape
  output : w'.output = w.output
  at_ : w'.heap[b]? = some o
  else_ : ∀ k, k ≠ b → w'.heap[k]? = w.heap[k]?

theorem Upd.alloc (w : World) (o : Obj) : Upd w (w.alloc o) w.heap.size o :=
  ⟨rfl, rfl, rfl, heap_alloc_new w o, fun k hk => by
    show (w.heap.push o)[k]? = _
    rw [Array.getElem?_push, if_neg hk]⟩

theorem Upd.setRow {w : World} {g : Nat} {old cs : Array Value} {t : TypeId} {fr : Nat × Nat} (hg : w.heap[g]? = some (.cells old t fr)) : Upd w (w.setRow g cs) g (.cells cs t fr) :=
  ⟨rfl, rfl, rfl, setRow_heap w g old cs t fr hg, fun k hk => setRow_other w g k cs hk⟩

theorem Upd.drew {w w' : World} {b : Nat} {o : Obj} (h : Upd w.drew w' b o) : Upd w w' b o := ⟨h.os, h.tape, h.output, h.at_, h.else_⟩

/-! ### What stays fixed, what is owned -/
structure Env where
  os : Os
  tape : Nat → Question → Nat
  output : Array (Nat × ByteArray)
  heap : Nat → Option Obj

def Env.of (w : World) : Env := ⟨w.os, w.tape, w.output, fun b => w.heap[b]?⟩

abbrev Blks := List (Nat × Obj)

structure Mem (F : Env) (w : World) (Ls : List Blks) : Prop where
  os : w.os = F.os
  tape : w.tape = F.tape
  output : w.output = F.output
  fix : ∀ b o, F.heap b = some o → w.heap[b]? = some o
  own : ∀ p ∈ Ls.flatten, w.heap[p.1]? = some p.2
  sep : ∀ p ∈ Ls.flatten, F.heap p.1 = none
  nodup : (Ls.flatten.map Prod.fst).Nodup

theorem Mem.of (w : World) : Mem (Env.of w) w [] :=
  ⟨rfl, rfl, rfl, fun _ _ h => h, fun _ h => by simp at h, fun _ h => by simp at h, by simp⟩

section
variable {F : Env} {w w' : World} {Ls : List Blks}

theorem Mem.drew (h : Mem F w Ls) : Mem F w.drew Ls := ⟨h.os, h.tape, h.output, h.fix, h.own, h.sep, h.nodup⟩
theorem Mem.drewN (h : Mem F w Ls) (k : Nat) : Mem F (w.drewN k) Ls := ⟨h.os, h.tape, h.output, h.fix, h.own, h.sep, h.nodup⟩
/-- A world with the same heap and streams. -/
theorem Mem.same (h : Mem F w Ls) (h1 : w'.os = w.os) (h2 : w'.tape = w.tape) (h3 : w'.output = w.output) (h4 : w'.heap = w.heap) : Mem F w' Ls :=
  ⟨h1.trans h.os, h2.trans h.tape, h3.trans h.output, fun b o e => by rw [h4]; exact h.fix b o e, fun p e => by rw [h4]; exact h.own p e, h.sep, h.nodup⟩

theorem Mem.flat {Ls' : List Blks} (h : Mem F w Ls) (e : Ls.flatten = Ls'.flatten) : Mem F w Ls' :=
  ⟨h.os, h.tape, h.output, h.fix, by rw [← e]; exact h.own, by rw [← e]; exact h.sep, by rw [← e]; exact h.nodup⟩
theorem Mem.permF {Ls' : List Blks} (h : Mem F w Ls) (e : Ls.flatten.Perm Ls'.flatten) : Mem F w Ls' :=
  ⟨h.os, h.tape, h.output, h.fix, fun p hp => h.own p (e.mem_iff.2 hp), fun p hp => h.sep p (e.mem_iff.2 hp), (e.map _).nodup_iff.1 h.nodup⟩
theorem Mem.subF {Ls' : List Blks} (h : Mem F w Ls) (e : Ls'.flatten.Sublist Ls.flatten) : Mem F w Ls' :=
  ⟨h.os, h.tape, h.output, h.fix, fun p hp => h.own p (e.subset hp), fun p hp => h.sep p (e.subset hp), h.nodup.sublist (e.map _)⟩

theorem Mem.drop (h : Mem F w Ls) (L : Blks) (Ms : List Blks) (e : Ls = L :: Ms) : Mem F w Ms := by
  subst e
  exact h.subF (by simp)
theorem Mem.pop {L : Blks} (h : Mem F w (L :: Ls)) : Mem F w Ls := h.drop L Ls rfl
theorem Mem.none_ (h : Mem F w Ls) : Mem F w [] := h.subF (by simp)
theorem Mem.swap {A B : Blks} (h : Mem F w (A :: B :: Ls)) : Mem F w (B :: A :: Ls) :=
  h.permF (by simp only [List.flatten_cons, ← List.append_assoc]; exact (List.perm_append_comm).append_right _)
/-- The i-th one to the front. -/
theorem Mem.pull (h : Mem F w Ls) (i : Nat) {L : Blks} (hL : Ls[i]? = some L) : Mem F w (L :: Ls.eraseIdx i) := by
  refine h.permF ?_
  clear h
  induction Ls generalizing i with
  | nil => simp at hL
  | cons A r ih =>
    cases i with
    | zero => simp at hL; subst hL; simp
    | succ i =>
      have := ih i (by simpa using hL)
      simp only [List.eraseIdx_cons_succ, List.flatten_cons] at this ⊢
      refine ((List.Perm.refl A).append this).trans ?_
      simp only [← List.append_assoc]
      exact (List.perm_append_comm).append_right _
theorem Mem.nil_ (h : Mem F w Ls) : Mem F w ([] :: Ls) := h.flat (by simp)

theorem Mem.at_ (h : Mem F w Ls) (i j : Nat) {b : Nat} {o : Obj} (e : (Ls[i]?).bind (·[j]?) = some (b, o)) : w.heap[b]? = some o := by
  cases hL : Ls[i]? with
  | none => rw [hL] at e; cases e
  | some L =>
    rw [hL] at e
    exact h.own (b, o) (List.mem_flatten.2 ⟨L, List.mem_of_getElem? hL, List.mem_of_getElem? e⟩)

def bset : Blks → Nat → Obj → Blks
  | [], _, _ => []
  | p :: r, 0, o => (p.1, o) :: r
  | p :: r, j + 1, o => p :: bset r j o
def mset : List Blks → Nat → Nat → Obj → List Blks
  | [], _, _, _ => []
  | L :: r, 0, j, o => bset L j o :: r
  | L :: r, i + 1, j, o => L :: mset r i j o

theorem bset_keys : ∀ (L : Blks) (j : Nat) (o : Obj), (bset L j o).map Prod.fst = L.map Prod.fst
  | [], _, _ => rfl
  | p :: r, 0, o => rfl
  | p :: r, j + 1, o => by simp [bset, bset_keys r j o]
theorem mset_keys : ∀ (Ls : List Blks) (i j : Nat) (o : Obj), (mset Ls i j o).flatten.map Prod.fst = Ls.flatten.map Prod.fst
  | [], _, _, _ => rfl
  | L :: r, 0, j, o => by simp [mset, bset_keys]
  | L :: r, i + 1, j, o => by
    have := mset_keys r i j o
    simp only [mset, List.flatten_cons, List.map_append, this]
theorem bset_mem {b : Nat} {o o0 : Obj} {p : Nat × Obj} : ∀ (L : Blks) (j : Nat), (L.map Prod.fst).Nodup → L[j]? = some (b, o0) → p ∈ bset L j o → p = (b, o) ∨ (p ∈ L ∧ p.1 ≠ b)
  | [], j, _, h, _ => by simp at h
  | q :: r, 0, hn, h, hp => by
    simp only [List.getElem?_cons_zero, Option.some.injEq] at h
    subst h
    simp only [bset, List.mem_cons] at hp
    rcases hp with rfl | hp
    · exact .inl rfl
    · refine .inr ⟨.tail _ hp, fun e => ?_⟩
      rw [List.map_cons, List.nodup_cons] at hn
      exact hn.1 (e ▸ List.mem_map.2 ⟨p, hp, rfl⟩)
  | q :: r, j + 1, hn, h, hp => by
    simp only [List.getElem?_cons_succ] at h
    rw [List.map_cons, List.nodup_cons] at hn
    simp only [bset, List.mem_cons] at hp
    rcases hp with rfl | hp
    · exact .inr ⟨.head _, fun e => hn.1 (e ▸ List.mem_map.2 ⟨_, List.mem_of_getElem? h, rfl⟩)⟩
    · rcases bset_mem r j hn.2 h hp with e | ⟨h1, h2⟩
      · exact .inl e
      · exact .inr ⟨.tail _ h1, h2⟩
theorem mset_mem {b : Nat} {o o0 : Obj} {p : Nat × Obj} : ∀ (Ls : List Blks) (i j : Nat), (Ls.flatten.map Prod.fst).Nodup → (Ls[i]?).bind (·[j]?) = some (b, o0) → p ∈ (mset Ls i j o).flatten →
    p = (b, o) ∨ (p ∈ Ls.flatten ∧ p.1 ≠ b)
  | [], i, j, _, h, _ => by simp at h
  | L :: r, 0, j, hn, h, hp => by
    simp only [List.getElem?_cons_zero, Option.bind_some] at h
    simp only [mset, List.flatten_cons, List.mem_append] at hp
    simp only [List.flatten_cons, List.map_append, List.nodup_append] at hn
    rcases hp with hp | hp
    · rcases bset_mem L j hn.1 h hp with e | ⟨h1, h2⟩
      · exact .inl e
      · exact .inr ⟨by simp [h1], h2⟩
    · refine .inr ⟨by simp only [List.flatten_cons, List.mem_append]; exact .inr hp, fun e => ?_⟩
      exact hn.2.2 b (List.mem_map.2 ⟨_, List.mem_of_getElem? h, rfl⟩) p.1 (List.mem_map.2 ⟨p, hp, rfl⟩) e.symm
  | L :: r, i + 1, j, hn, h, hp => by
    simp only [List.getElem?_cons_succ] at h
    simp only [mset, List.flatten_cons, List.mem_append] at hp
    simp only [List.flatten_cons, List.map_append, List.nodup_append] at hn
    rcases hp with hp | hp
    · refine .inr ⟨by simp [hp], fun e => ?_⟩
      have hb : b ∈ r.flatten.map Prod.fst := by
        cases hL : r[i]? with
        | none => rw [hL] at h; cases h
        | some M =>
          rw [hL] at h
          exact List.mem_map.2 ⟨(b, o0), List.mem_flatten.2 ⟨M, List.mem_of_getElem? hL, List.mem_of_getElem? h⟩, rfl⟩
      exact hn.2.2 p.1 (List.mem_map.2 ⟨p, hp, rfl⟩) b hb e
    · rcases mset_mem r i j hn.2.1 h hp with e | ⟨h1, h2⟩
      · exact .inl e
      · exact .inr ⟨by simp only [List.flatten_cons, List.mem_append]; exact .inr h1, h2⟩

/-- A store into an owned block. -/
theorem Mem.upd (h : Mem F w Ls) {b : Nat} {o : Obj} (hu : Upd w w' b o) (i j : Nat) {o0 : Obj} (e : (Ls[i]?).bind (·[j]?) = some (b, o0)) : Mem F w' (mset Ls i j o) := by
  have hb : (b, o0) ∈ Ls.flatten := by
    cases hL : Ls[i]? with
    | none => rw [hL] at e; cases e
    | some M => rw [hL] at e; exact List.mem_flatten.2 ⟨M, List.mem_of_getElem? hL, List.mem_of_getElem? e⟩
  have hnone := h.sep _ hb
  refine ⟨hu.os.trans h.os, hu.tape.trans h.tape, hu.output.trans h.output, fun k x hk => ?_, fun p hp => ?_, fun p hp => ?_, by rw [mset_keys]; exact h.nodup⟩
  · rw [hu.else_ k (fun e' => by subst e'; rw [hnone] at hk; cases hk)]
    exact h.fix k x hk
  · rcases mset_mem Ls i j h.nodup e hp with rfl | ⟨h1, h2⟩
    · exact hu.at_
    · rw [hu.else_ _ h2]; exact h.own p h1
  · rcases mset_mem Ls i j h.nodup e hp with rfl | ⟨h1, h2⟩
    · exact hnone
    · exact h.sep p h1

/-- A new block. -/
theorem Mem.new (h : Mem F w Ls) {b : Nat} {o : Obj} (hu : Upd w w' b o) (hb : w.heap[b]? = none) : Mem F w' ([(b, o)] :: Ls) := by
  have hF : F.heap b = none := by
    cases hx : F.heap b with
    | none => rfl
    | some x => rw [h.fix b x hx] at hb; cases hb
  have hne : ∀ p ∈ Ls.flatten, p.1 ≠ b := fun p hp e => by
    have := h.own p hp
    rw [e, hb] at this
    cases this
  refine ⟨hu.os.trans h.os, hu.tape.trans h.tape, hu.output.trans h.output, fun k x hk => ?_, fun p hp => ?_, fun p hp => ?_, ?_⟩
  · rw [hu.else_ k (fun e => by subst e; rw [hF] at hk; cases hk)]
    exact h.fix k x hk
  · simp only [List.flatten_cons, List.mem_append, List.mem_singleton] at hp
    rcases hp with rfl | hp
    · exact hu.at_
    · rw [hu.else_ _ (hne p hp)]; exact h.own p hp
  · simp only [List.flatten_cons, List.mem_append, List.mem_singleton] at hp
    rcases hp with rfl | hp
    · exact hF
    · exact h.sep p hp
  · simp only [List.flatten_cons, List.map_cons, List.cons_append, List.nil_append, List.nodup_cons]
    refine ⟨fun hm => ?_, h.nodup⟩
    obtain ⟨p, hp, e⟩ := List.mem_map.1 hm
    exact hne p hp e

theorem size_none (w : World) : w.heap[w.heap.size]? = none := by simp
theorem Mem.alloc (h : Mem F w Ls) (o : Obj) : Mem F (w.alloc o) ([(w.heap.size, o)] :: Ls) := h.new (Upd.alloc w o) (size_none w)

/-! ### Part of what is owned, and the rest as if it were fixed -/
def blk : Blks → Nat → Option Obj
  | [], _ => none
  | p :: r, b => if p.1 = b then some p.2 else blk r b

theorem blk_of_mem {b : Nat} {o : Obj} : ∀ {L : Blks}, (L.map Prod.fst).Nodup → (b, o) ∈ L → blk L b = some o
  | [], _, h => by simp at h
  | p :: r, hn, h => by
    rw [List.map_cons, List.nodup_cons] at hn
    unfold blk
    rcases List.mem_cons.1 h with rfl | h
    · simp
    · rw [if_neg (fun e : p.1 = b => hn.1 (by rw [e]; exact List.mem_map.2 ⟨_, h, rfl⟩))]
      exact blk_of_mem hn.2 h
theorem mem_of_blk {b : Nat} {o : Obj} : ∀ {L : Blks}, blk L b = some o → (b, o) ∈ L
  | [], h => by simp [blk] at h
  | p :: r, h => by
    unfold blk at h
    split at h
    · rename_i e
      cases h
      subst e
      exact .head _
    · exact .tail _ (mem_of_blk h)

def Env.plus (F : Env) (Ls : List Blks) : Env :=
  { F with heap := fun b => match blk Ls.flatten b with | some o => some o | none => F.heap b }

def Env.le (F G : Env) : Prop := ∀ b o, F.heap b = some o → G.heap b = some o
theorem Env.le_refl (F : Env) : F.le F := fun _ _ h => h
theorem Env.le_trans {F G K : Env} (h : F.le G) (h' : G.le K) : F.le K := fun b o e => h' b o (h b o e)
theorem Mem.le_of (h : Mem F w Ls) : F.le (Env.of w) := fun b o e => h.fix b o e
theorem Mem.le (h : Mem F w Ls) : F.le (F.plus Ls) := fun b o e => by
  unfold Env.plus
  show (match blk Ls.flatten b with | some o => some o | none => F.heap b) = some o
  cases hb : blk Ls.flatten b with
  | none => exact e
  | some x =>
    have := h.sep _ (mem_of_blk hb)
    rw [show F.heap b = none from this] at e
    cases e
theorem Mem.leR {As Bs : List Blks} (h : Mem F w (As ++ Bs)) : F.le (F.plus Bs) := (h.subF (by simp) : Mem F w Bs).le
theorem Mem.plus_at (h : Mem F w Ls) (i j : Nat) {b : Nat} {o : Obj} (e : (Ls[i]?).bind (·[j]?) = some (b, o)) : (F.plus Ls).heap b = some o := by
  have hb : (b, o) ∈ Ls.flatten := by
    cases hL : Ls[i]? with
    | none => rw [hL] at e; cases e
    | some M => rw [hL] at e; exact List.mem_flatten.2 ⟨M, List.mem_of_getElem? hL, List.mem_of_getElem? e⟩
  show (match blk Ls.flatten b with | some o => some o | none => F.heap b) = some o
  rw [blk_of_mem h.nodup hb]

theorem Mem.plus_mem (h : Mem F w Ls) {L : Blks} (hL : L ∈ Ls) : ∀ p ∈ L, (F.plus Ls).heap p.1 = some p.2 := fun p hp => by
  show (match blk Ls.flatten p.1 with | some o => some o | none => F.heap p.1) = some p.2
  rw [blk_of_mem (o := p.2) h.nodup (List.mem_flatten.2 ⟨L, hL, hp⟩)]

/-- The front part is kept as owned; the rest counts as fixed. -/
theorem Mem.focus {As Bs : List Blks} (h : Mem F w (As ++ Bs)) : Mem (F.plus Bs) w As := by
  have hn := h.nodup
  simp only [List.flatten_append, List.map_append, List.nodup_append] at hn
  refine ⟨h.os, h.tape, h.output, fun b o e => ?_, fun p hp => h.own p (by simp only [List.flatten_append, List.mem_append]; exact .inl hp), fun p hp => ?_, hn.1⟩
  · have e' : (match blk Bs.flatten b with | some o => some o | none => F.heap b) = some o := e
    cases hb : blk Bs.flatten b with
    | none => rw [hb] at e'; exact h.fix b o e'
    | some x =>
      rw [hb] at e'
      cases e'
      exact h.own (b, o) (by simp only [List.flatten_append, List.mem_append]; exact .inr (mem_of_blk hb))
  · show (match blk Bs.flatten p.1 with | some o => some o | none => F.heap p.1) = none
    cases hb : blk Bs.flatten p.1 with
    | none => exact h.sep p (by simp only [List.flatten_append, List.mem_append]; exact .inl hp)
    | some x => exact (hn.2.2 p.1 (List.mem_map.2 ⟨p, hp, rfl⟩) p.1 (List.mem_map.2 ⟨_, mem_of_blk hb, rfl⟩) rfl).elim
/-- Back again, behind a call. -/
theorem Mem.unfocus {As Bs As' : List Blks} (h : Mem F w (As ++ Bs)) (h' : Mem (F.plus Bs) w' As') : Mem F w' (As' ++ Bs) := by
  have hB : Mem F w Bs := h.subF (by simp)
  have key : ∀ p ∈ As'.flatten, p.1 ∉ Bs.flatten.map Prod.fst ∧ F.heap p.1 = none := fun p hp => by
    have e : (match blk Bs.flatten p.1 with | some o => some o | none => F.heap p.1) = none := h'.sep p hp
    cases hb : blk Bs.flatten p.1 with
    | some x => rw [hb] at e; cases e
    | none =>
      rw [hb] at e
      refine ⟨fun hm => ?_, e⟩
      obtain ⟨q, hq, eq⟩ := List.mem_map.1 hm
      rw [← eq, blk_of_mem (o := q.2) hB.nodup hq] at hb
      cases hb
  refine ⟨h'.os, h'.tape, h'.output, fun b o e => h'.fix b o (hB.le b o e), fun p hp => ?_, fun p hp => ?_, ?_⟩
  · rcases List.mem_append.1 (by simpa only [List.flatten_append] using hp) with hp | hp
    · exact h'.own p hp
    · refine h'.fix p.1 p.2 ?_
      show (match blk Bs.flatten p.1 with | some o => some o | none => F.heap p.1) = some p.2
      rw [blk_of_mem (o := p.2) hB.nodup hp]
  · rcases List.mem_append.1 (by simpa only [List.flatten_append] using hp) with hp | hp
    · exact (key p hp).2
    · exact hB.sep p hp
  · simp only [List.flatten_append, List.map_append, List.nodup_append]
    refine ⟨h'.nodup, hB.nodup, fun x hx y hy e => ?_⟩
    subst e
    obtain ⟨p, hp, rfl⟩ := List.mem_map.1 hx
    exact (key p hp).1 hy

/-- All that is owned counts as fixed (for a call that only reads, or makes memory). -/
theorem Mem.all (h : Mem F w Ls) : Mem (F.plus Ls) w [] := (show Mem F w ([] ++ Ls) from h).focus
theorem Mem.back {As' : List Blks} (h : Mem F w Ls) (h' : Mem (F.plus Ls) w' As') : Mem F w' (As' ++ Ls) := (show Mem F w ([] ++ Ls) from h).unfocus h'
theorem Mem.back0 (h : Mem F w Ls) (h' : Mem (F.plus Ls) w' []) : Mem F w' Ls := h.back h'
end

/-- A class of worlds for a region that draws: what is fixed, and these blocks, are there; more may be. -/
def Kept (F : Env) (Ls : List Blks) (w : World) : Prop := ∃ M, Mem F w (M ++ Ls)
theorem Kept.of {F : Env} {w : World} {Ls M : List Blks} (h : Mem F w (M ++ Ls)) : Kept F Ls w := ⟨M, h⟩
theorem Kept.here0 {F : Env} {w : World} {Ls : List Blks} (h : Mem F w Ls) : Kept F Ls w := ⟨[], h⟩
theorem Kept.here1 {F : Env} {w : World} {Ls : List Blks} {A : Blks} (h : Mem F w (A :: Ls)) : Kept F Ls w := ⟨[A], h⟩
theorem Kept.here2 {F : Env} {w : World} {Ls : List Blks} {A B : Blks} (h : Mem F w (A :: B :: Ls)) : Kept F Ls w := ⟨[A, B], h⟩
theorem Kept.here3 {F : Env} {w : World} {Ls : List Blks} {A B D : Blks} (h : Mem F w (A :: B :: D :: Ls)) : Kept F Ls w := ⟨[A, B, D], h⟩
theorem Kept.of0 {F : Env} {w : World} {Ls : List Blks} (h : Mem F w Ls) : Kept F [] w := ⟨Ls, by simpa using h⟩
theorem Kept.fix {F : Env} {w : World} {Ls : List Blks} (h : Kept F Ls w) (b : Nat) (o : Obj) (e : F.heap b = some o) : w.heap[b]? = some o :=
  let ⟨_, h'⟩ := h; h'.fix b o e
theorem Kept.at_ {F : Env} {w : World} {Ls : List Blks} (h : Kept F Ls w) (i j : Nat) {b : Nat} {o : Obj} (e : (Ls[i]?).bind (·[j]?) = some (b, o)) : w.heap[b]? = some o :=
  let ⟨_, h'⟩ := h; (h'.subF (by simp) : Mem F w Ls).at_ i j e

/-- What the whole statement wants of memory in the end. -/
theorem Mem.below {w w' : World} {Ls : List Blks} (h : Mem (Env.of w) w' Ls) : RowKit.Below w.heap.size w w' := by
  refine ⟨h.os, h.tape, h.output, ?_, fun k hk => ?_⟩
  · rcases Nat.lt_or_ge w'.heap.size w.heap.size with hlt | hge
    · have h1 := h.fix w'.heap.size w.heap[w'.heap.size] (by show w.heap[w'.heap.size]? = _; exact Array.getElem?_eq_getElem hlt)
      simp at h1
    · exact hge
  · have h1 := h.fix k w.heap[k] (by show w.heap[k]? = _; exact Array.getElem?_eq_getElem hk)
    rw [h1, Array.getElem?_eq_getElem hk]

/-! ### Rows of cells that are read -/
def Row (h : Nat → Option Obj) (A : Option Addr) (m : Nat) (cs : List Value) : Prop :=
  cs.length = m ∧ (m = 0 ∨ ∃ b off blk T fr, A = some ⟨b, off, none⟩ ∧ h b = some (.cells blk T fr) ∧ ∀ i, i < m → blk[off + i]? = cs[i]?)

section
variable {H H' : Nat → Option Obj} {A : Option Addr} {m : Nat} {cs : List Value}
theorem Row.mono (h : Row H A m cs) (hle : ∀ b o, H b = some o → H' b = some o) : Row H' A m cs := by
  refine ⟨h.1, h.2.imp id ?_⟩
  rintro ⟨b, off, blk, T, fr, e, hb, hc⟩
  exact ⟨b, off, blk, T, fr, e, hle b _ hb, hc⟩
theorem Row.le {F G : Env} (h : Row F.heap A m cs) (hle : F.le G) : Row G.heap A m cs := h.mono hle
theorem Row.get (h : Row H A m cs) (hm : 0 < m) : ∃ b off blk T fr, A = some ⟨b, off, none⟩ ∧ H b = some (.cells blk T fr) ∧ ∀ i, i < m → blk[off + i]? = cs[i]? :=
  h.2.resolve_left (by omega)
theorem Row.nil (A : Option Addr) : Row H A 0 [] := ⟨rfl, .inl rfl⟩
theorem Row.lit {b : Nat} {T : TypeId} {fr : Nat × Nat} {cs : List Value} (h : H b = some (.cells cs.toArray T fr)) : Row H (some ⟨b, 0, none⟩) cs.length cs :=
  ⟨rfl, .inr ⟨b, 0, _, T, fr, rfl, h, fun i _ => by simp⟩⟩
theorem Row.take (h : Row H A m cs) {k : Nat} (hk : k ≤ m) : Row H A k (cs.take k) := by
  refine ⟨by rw [List.length_take, h.1]; omega, ?_⟩
  rcases Nat.eq_zero_or_pos k with h0 | h0
  · exact .inl h0
  · obtain ⟨b, off, blk, T, fr, e, hb, hc⟩ := h.get (by omega)
    exact .inr ⟨b, off, blk, T, fr, e, hb, fun i hi => by rw [hc i (by omega), List.getElem?_take, if_pos hi]⟩
theorem Row.front {α : Type} {f : α → Value} {xs ys : List α} {n : Nat} (h : Row H A m ((xs ++ ys).map f)) (hl : xs.length = n) (hn : n ≤ m) : Row H A n (xs.map f) := by
  have := h.take hn
  rwa [List.map_append, List.take_left' (by simpa using hl)] at this
theorem Row.len (h : Row H A m cs) : cs.length = m := h.1
end

/-- A row of numbers of one kind, one cell each. -/
theorem int_at {blk : Array Value} {off n k : Nat} {K : IntKind} {xs : List Int} (hc : ∀ i, i < n → blk[off + i]? = (xs.map (Value.int K))[i]?) (hl : (xs.map (Value.int K)).length = n) (hk : k < n) :
    blk[off + k]? = some (.int K (xs.getD k 0)) := by
  have hl' : k < xs.length := by rw [List.length_map] at hl; omega
  rw [hc k hk, List.getElem?_map, List.getD_eq_getElem?_getD, List.getElem?_eq_getElem hl']
  rfl

/-- The numbers that an int of 64 bits holds. -/
def I64 (n : Int) : Prop := -9223372036854775808 ≤ n ∧ n ≤ 9223372036854775807

end Go.Bd
