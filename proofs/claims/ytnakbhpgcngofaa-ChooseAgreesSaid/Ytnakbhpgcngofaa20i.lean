/- Seven choosers as they lie; servers as arguments. Conditions: as each states. -/
import Derived.Test.Ytnakbhpgcngofaa20g
import Derived.Test.Ytnakbhpgcngofaa20v
namespace Go.Bd
open Go.Proofs Go.ChangeShapes Go.WideShapes
set_option linter.unusedVariables false
set_option maxRecDepth 20000

structure Cx where
  g : Nat
  m : Nat
  C : Ch
def Cx.bl (x : Cx) : List Blks := [[(x.g, x.C.obj x.m)], [(x.m, x.C.map)]]
abbrev blks (cs : List Cx) : List Blks := cs.flatMap Cx.bl
theorem perm_out' {α : Type} {l : List α} {i : Nat} {x : α} (h : l[i]? = some x) : l.Perm (x :: l.eraseIdx i) := by
  induction l generalizing i with
  | nil => simp at h
  | cons a r ih =>
    cases i with
    | zero =>
      obtain rfl := Option.some.inj (show some a = some x from h)
      exact List.Perm.refl _
    | succ j => exact ((ih (i := j) h).cons a).trans (List.Perm.swap x a _)
theorem erase_set {α : Type} : ∀ {l : List α} {i : Nat} {x : α}, (l.set i x).eraseIdx i = l.eraseIdx i
  | [], _, _ => rfl
  | a :: r, 0, x => rfl
  | a :: r, i + 1, x => by
    show a :: (r.set i x).eraseIdx i = a :: r.eraseIdx i
    rw [erase_set]
theorem blks_flat (cs : List Cx) : (blks cs).flatten = cs.flatMap fun x => x.bl.flatten := by
  induction cs with
  | nil => rfl
  | cons x r ih =>
    rw [blks, List.flatMap_cons, List.flatten_append, List.flatMap_cons]
    exact congrArg _ ih
section
variable {F : Env} {w : World} {Ls : List Blks} {cs : List Cx} {i : Nat} {x : Cx}
theorem blks_pull (hm : Mem F w (blks cs ++ Ls)) (h : cs[i]? = some x) : Mem F w ([(x.g, x.C.obj x.m)] :: [(x.m, x.C.map)] :: (blks (cs.eraseIdx i) ++ Ls)) := by
  refine hm.permF ?_
  have h1 := (perm_out' h).flatMap_right fun x : Cx => x.bl.flatten
  rw [List.flatMap_cons] at h1
  rw [List.flatten_append, blks_flat]
  refine (h1.append_right _).trans ?_
  rw [List.flatten_cons, List.flatten_cons, List.flatten_append, blks_flat]
  simp [Cx.bl]
theorem blks_push (h : cs[i]? = some x) {x' : Cx} (hm : Mem F w ([(x'.g, x'.C.obj x'.m)] :: [(x'.m, x'.C.map)] :: (blks (cs.eraseIdx i) ++ Ls))) : Mem F w (blks (cs.set i x') ++ Ls) := by
  refine hm.permF ?_
  have hlt := (List.getElem?_eq_some_iff.1 h).1
  have h1 := (perm_out' (l := cs.set i x') (i := i) (x := x') (by rw [List.getElem?_set, if_pos rfl, if_pos hlt])).flatMap_right fun x : Cx => x.bl.flatten
  rw [List.flatMap_cons, erase_set] at h1
  rw [List.flatten_append, blks_flat]
  refine List.Perm.trans ?_ (h1.symm.append_right _)
  rw [List.flatten_cons, List.flatten_cons, List.flatten_append, blks_flat]
  simp [Cx.bl]
theorem blks_at (hm : Mem F w (blks cs ++ Ls)) (h : cs[i]? = some x) : (F.plus (blks cs ++ Ls)).heap x.g = some (x.C.obj x.m) :=
  hm.plus_mem (L := [(x.g, x.C.obj x.m)]) (List.mem_append_left _ (List.mem_flatMap.2 ⟨x, List.mem_of_getElem? h, .head _⟩)) _ (.head _)
theorem blks_snoc {y : Cx} (hm : Mem F w ([(y.g, y.C.obj y.m)] :: [(y.m, y.C.map)] :: (blks cs ++ Ls))) : Mem F w (blks (cs ++ [y]) ++ Ls) := by
  refine hm.permF ?_
  rw [List.flatten_cons, List.flatten_cons, List.flatten_append, List.flatten_append, blks_flat, blks_flat, List.flatMap_append]
  have := (List.perm_append_comm (l₁ := y.bl.flatten) (l₂ := cs.flatMap fun x => x.bl.flatten)).append_right Ls.flatten
  refine List.Perm.trans ?_ (this.trans ?_)
  · simp [Cx.bl]
  · simp
end
structure Seven (H : Nat → Option Obj) (gs : List Nat) (cs : List Cx) (S : Nat → Ca) : Prop where
  len : cs.length = 7
  gs_ : cs.map Cx.g = gs
  each : ∀ i x, cs[i]? = some x → ChOk H x.C ∧ x.C.abs = S i
theorem Seven.get {H : Nat → Option Obj} {gs : List Nat} {cs : List Cx} {S : Nat → Ca} (h : Seven H gs cs S) {i : Nat} (hi : i < 7) : ∃ x, cs[i]? = some x ∧ gs[i]? = some x.g ∧ ChOk H x.C ∧ x.C.abs = S i := by
  have hl := h.len
  obtain ⟨x, hx, _⟩ := get_of (xs := cs) (k := i) (by omega)
  obtain ⟨h1, h2⟩ := h.each i x hx
  refine ⟨x, hx, ?_, h1, h2⟩
  rw [← h.gs_, List.getElem?_map, hx]
  rfl
theorem Seven.set {H : Nat → Option Obj} {gs : List Nat} {cs : List Cx} {S : Nat → Ca} (h : Seven H gs cs S) {t : Nat} {x x' : Cx} (hx : cs[t]? = some x) (hg : x'.g = x.g) (hC : ChOk H x'.C) {S' : Nat → Ca} (hab : x'.C.abs = S' t) (hS : ∀ i, i ≠ t → S' i = S i) : Seven H gs (cs.set t x') S' := by
  refine ⟨by rw [List.length_set]; exact h.len, ?_, fun i y hy => ?_⟩
  · rw [← h.gs_]
    apply List.ext_getElem?
    intro j
    rw [List.getElem?_map, List.getElem?_map, List.getElem?_set]
    by_cases e : t = j
    · subst e
      rw [if_pos rfl, if_pos (List.getElem?_eq_some_iff.1 hx).1, hx]
      exact congrArg some hg
    · rw [if_neg e]
  · rw [List.getElem?_set] at hy
    by_cases e : t = i
    · subst e
      rw [if_pos rfl, if_pos (List.getElem?_eq_some_iff.1 hx).1] at hy
      obtain rfl := Option.some.inj hy
      exact ⟨hC, hab⟩
    · rw [if_neg e] at hy
      obtain ⟨h1, h2⟩ := h.each i y hy
      exact ⟨h1, by rw [hS i (fun h => e h.symm)]; exact h2⟩

/-! ### Servers -/
structure Sv where
  e : Int
  z : Int
  r : Int
def Sv.cells (s : Sv) : List Value := [.int .i64 s.e, .int .i64 s.z, .int .i64 s.r]
theorem Sv.len (s : Sv) : s.cells.length = 3 := rfl
theorem svs_one (l : List Sv) : ∀ u ∈ l.flatMap Sv.cells, u.oneCell' = true := by
  intro u hu
  obtain ⟨m, _, hm⟩ := List.mem_flatMap.1 hu
  simp only [Sv.cells, List.mem_cons, List.not_mem_nil, or_false] at hm
  rcases hm with rfl | rfl | rfl <;> rfl
structure SvAt (cur : Array Value) (l : List Sv) : Prop where
  size : l.length * 3 ≤ cur.size
  at_ : ∀ k s, l[k]? = some s → ∀ j, j < 3 → cur[0 + k * 3 + j]? = s.cells[j]?
theorem SvAt.set {cur : Array Value} {l : List Sv} (h : SvAt cur l) {k : Nat} (hk : k < l.length) (s : Sv) : SvAt (lay cur (0 + k * 3) s.cells) (l.set k s) := by
  have hs := h.size
  have hl := s.len
  refine ⟨by rw [lay_size, List.length_set]; exact hs, fun q x hx j hj => ?_⟩
  rw [lay_at _ _ _ _ (by omega)]
  rw [List.getElem?_set] at hx
  by_cases e : k = q
  · subst e
    rw [if_pos rfl, if_pos hk] at hx
    obtain rfl := Option.some.inj hx
    rw [if_pos (by omega)]
    exact congrArg (fun i => s.cells[i]?) (by omega)
  · rw [if_neg e] at hx
    rw [if_neg (by omega)]
    exact h.at_ q x hx j hj
section
variable {H : Type} {enc : TypeId × Value → H} {W : World}
theorem cells_Sv : Try.prog.cellsOf 74 = 3 := by kernel_rfl
theorem bytes_Sv : Try.prog.bytesOf 74 = 24 := by kernel_rfl
theorem open_server (n : Nat) (cs : List Value) (y : DataW H × List MemPlace) (h : DataW.trod enc Try.prog W 0 (fun _ => true) true n 74 cs = some y) (hw : Light Try.prog 74 y.1) : ∃ m : Sv, cs = m.cells ∧ True := by
  obtain ⟨xs, k, _, rfl, hl, hxl, hf⟩ := DataW.trod_struct Try.underlying74 h
  rw [cells_Sv] at hl
  match cs, hl with
  | [a, b, c], _ =>
    match xs, hxl with
    | [x0, x1, x2], _ =>
      have h0 : DataW.trod enc Try.prog W 0 (fun _ => true) true k 3 (([a, b, c].drop 0).take (Try.prog.cellsOf 3)) = some x0 := hf 0 _ rfl
      have h1 : DataW.trod enc Try.prog W 0 (fun _ => true) true k 3 (([a, b, c].drop 1).take (Try.prog.cellsOf 3)) = some x1 := hf 1 _ rfl
      have h2 : DataW.trod enc Try.prog W 0 (fun _ => true) true k 3 (([a, b, c].drop 2).take (Try.prog.cellsOf 3)) = some x2 := hf 2 _ rfl
      obtain ⟨n0, e0, _⟩ := DataW.trod_int (x := x0) Try.underlying3 h0
      obtain ⟨n1, e1, _⟩ := DataW.trod_int (x := x1) Try.underlying3 h1
      obtain ⟨n2, e2, _⟩ := DataW.trod_int (x := x2) Try.underlying3 h2
      simp only [cells_i, List.drop_zero, List.drop_succ_cons, List.take_succ_cons, List.take_zero, List.cons.injEq, and_true] at e0 e1 e2
      subst e0 e1 e2
      exact ⟨⟨n0, n1, n2⟩, rfl, trivial⟩
theorem open_servers {v : Value} {d : DataW H} {ps : List MemPlace} {r : Reach} {base : Nat} (hv : Value.okWide Try.prog W r base 69 v) (h : DataW.Trod enc Try.prog W 0 (fun _ => true) true 69 v d ps) (hw : Light Try.prog 69 d) :
    ∃ (A : Option Addr) (n c : Nat) (sv : List Sv), v = .slice A n c ∧ n ≤ c ∧ c ≤ maxLen ∧ c * 24 ≤ reachBytes ∧ Row (Env.of W).heap A (n * 3) (sv.flatMap Sv.cells) ∧ sv.length = n := by
  obtain ⟨a0, len0, cap0, rfl⟩ := okWide_slice Try.underlying69 hv
  obtain ⟨fuel, hf⟩ := h
  obtain ⟨A, n, c, es, h1, h2, h3, h4, h5, _, h7⟩ := open_rows (cells := Sv.cells) (Q := fun _ => True) Try.underlying69 cells_Sv (by decide) Sv.len open_server hf hw
  rw [bytes_Sv] at h4
  simp [Value.cells] at h1
  obtain ⟨rfl, rfl, rfl⟩ := h1
  exact ⟨a0, len0, cap0, es, rfl, h2, h3, h4, h5, h7⟩
end
end Go.Bd
