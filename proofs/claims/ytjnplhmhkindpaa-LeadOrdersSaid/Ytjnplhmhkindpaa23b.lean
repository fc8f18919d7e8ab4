/- Contracts of layer 23: what binds. Conditions: as each states. -/
import Derived.Test.Ytjnplhmhkindpaa23a
namespace Go.Bd
open Go.Proofs
set_option linter.unusedVariables false

/-- A config as it lies: its version, and the slice of its members. -/
structure En where
  ver : Int
  A : Option Addr
  n : Nat
  c : Nat
  ms : List Mb
def En.cells (e : En) : List Value := [.int .i64 e.ver, .slice e.A e.n e.c]
theorem En.len (e : En) : e.cells.length = 2 := rfl
def En.abs (e : En) : Int × List Mb := (e.ver, e.ms)
def EnOk (H : Nat → Option Obj) (e : En) : Prop := MRow H e.A e.n e.ms ∧ e.n ≤ e.c ∧ e.c ≤ maxLen
theorem EnOk.mono {H K : Nat → Option Obj} {e : En} (h : EnOk H e) (hle : ∀ b o, H b = some o → K b = some o) : EnOk K e := ⟨h.1.mono hle, h.2⟩
abbrev ecells (es : List En) : List Value := es.flatMap En.cells
/-- A row of configs that can be read. -/
structure ERow (H : Nat → Option Obj) (A : Option Addr) (n : Nat) (es : List En) : Prop where
  row : Row H A (n * 2) (ecells es)
  each : ∀ e ∈ es, EnOk H e
theorem ERow.len {H : Nat → Option Obj} {A : Option Addr} {n : Nat} {es : List En} (h : ERow H A n es) : es.length = n := Row.count En.len (by decide) h.row
theorem ERow.mono {H K : Nat → Option Obj} {A : Option Addr} {n : Nat} {es : List En} (h : ERow H A n es) (hle : ∀ b o, H b = some o → K b = some o) : ERow K A n es :=
  ⟨h.row.mono hle, fun e he => (h.each e he).mono hle⟩
theorem ERow.le {F G : Env} {A : Option Addr} {n : Nat} {es : List En} (h : ERow F.heap A n es) (hle : F.le G) : ERow G.heap A n es := h.mono hle
theorem ecells_one (es : List En) : ∀ u ∈ ecells es, u.oneCell' = true := by
  intro u hu
  obtain ⟨m, _, hm⟩ := List.mem_flatMap.1 hu
  simp only [En.cells, List.mem_cons, List.not_mem_nil, or_false] at hm
  rcases hm with rfl | rfl <;> rfl

/-- Configs with members in memory of their own: the blocks, one for each. -/
inductive Owns : List En → List Blks → Prop
  | nil : Owns [] []
  | snoc {es bs e L} : Owns es bs → OwnS 64 4 e.A e.n e.c (mcells e.ms) L → Owns (es ++ [e]) (bs ++ [L])
theorem Owns.each {es : List En} {bs : List Blks} (h : Owns es bs) {H : Nat → Option Obj} (hH : ∀ L ∈ bs, ∀ p ∈ L, H p.1 = some p.2) : ∀ e ∈ es, EnOk H e := by
  induction h with
  | nil => intro e he; simp at he
  | snoc h ho ih =>
    intro e he
    rcases List.mem_append.1 he with he | he
    · exact ih (fun L hL => hH L (by simp [hL])) e he
    · simp only [List.mem_singleton] at he
      subst he
      exact ⟨ho.row (hH _ (by simp)), ho.le⟩

/-- From which one on the configs bind. -/
def fromOf (es : List (Int × List Mb)) (committed : Int) : Nat :=
  match es.getLast? with
  | some e => if e.1 ≤ committed then es.length - 1 else es.length - 2
  | none => 0

theorem last_at {α : Type} {es : List α} (h : 0 < es.length) : ∃ e, es[es.length - 1]? = some e ∧ es.getLast? = some e := by
  refine ⟨es[es.length - 1], List.getElem?_eq_getElem (by omega), ?_⟩
  rw [List.getLast?_eq_getElem?, List.getElem?_eq_getElem (by omega)]

end Go.Bd
