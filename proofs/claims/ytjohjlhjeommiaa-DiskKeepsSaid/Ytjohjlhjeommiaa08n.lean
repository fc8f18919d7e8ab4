/- Layer 8: rows as arguments, names of one's own, disks with rows in them. Conditions: as each states. -/
import Derived.Test.Ytjohjlhjeommiaa08m
import Derived.Test.YtjohjlhjeommiaaOpen
import Derived.Laws.BytesArg
namespace Go.Bd
open Go.Proofs Go.ChangeShapes Go.WideShapes
set_option linter.unusedVariables false
set_option linter.unusedSimpArgs false
set_option maxRecDepth 20000
theorem cel5 : Try.prog.cellsOf 5 = 1 := by kernel_rfl
theorem op5 {H : Type} {enc : TypeId × Value → H} {W : World} (n : Nat) (cs : List Value) (y : DataW H × List MemPlace) (h : DataW.trod enc Try.prog W 0 (fun _ => true) true n 5 cs = some y) (hw : Light Try.prog 5 y.1) : ∃ (a : _), cs = [.int .u8 a] ∧ (Lit.int .u8 a).wf = true := by
  obtain ⟨n0, e0, _, h0⟩ := DataW.trod_int (x := y) Try.underlying5 h
  exact ⟨n0, e0, h0⟩
theorem arg5 {H : Type} {enc : TypeId × Value → H} {W : World} {v : Value} {d : DataW H} {ps : List MemPlace} {r : Reach} {base : Nat} (hv : Value.okWide Try.prog W r base 5 v) (h : DataW.Trod enc Try.prog W 0 (fun _ => true) true 5 v d ps) (hw : Light Try.prog 5 d) : ∃ (a : _), v = .int .u8 a ∧ (Lit.int .u8 a).wf = true := by
  obtain ⟨_, rfl, _⟩ := open_int Try.underlying5 hv h
  obtain ⟨fuel, hf⟩ := h
  obtain ⟨a, e0, q0⟩ := op5 _ _ _ hf hw
  simp [Value.cells] at e0
  subst e0
  exact ⟨_, rfl, q0⟩
theorem cel22 : Try.prog.cellsOf 22 = 1 := by kernel_rfl
theorem op22 {H : Type} {enc : TypeId × Value → H} {W : World} (n : Nat) (cs : List Value) (y : DataW H × List MemPlace) (h : DataW.trod enc Try.prog W 0 (fun _ => true) true n 22 cs = some y) (hw : Light Try.prog 22 y.1) : ∃ (A : _) (n : _) (c : _) (xs : List Int), cs = [.slice A n c] ∧ n ≤ c ∧ c ≤ maxLen ∧ c * 1 ≤ reachBytes ∧ Row (Env.of W).heap A n (xs.map (Value.int .u8)) ∧ (∀ x ∈ xs, (Lit.int .u8 x).wf = true) := by
  obtain ⟨A0, n0, c0, xs, h1, h2, h3, h4, h5, h6, _⟩ := open_rows (cells := fun x : Int => [Value.int .u8 x]) (Q := fun x => (Lit.int .u8 x).wf = true) Try.underlying22 cel5 (by decide) (fun _ => rfl) op5 h hw
  rw [show Try.prog.bytesOf 5 = 1 by kernel_rfl] at h4
  rw [Nat.mul_one, show (xs.flatMap fun x : Int => [Value.int .u8 x]) = xs.map (Value.int .u8) from flat_one1 _ xs] at h5
  exact ⟨A0, n0, c0, xs, h1, h2, h3, h4, h5, h6⟩
theorem arg22 {H : Type} {enc : TypeId × Value → H} {W : World} {v : Value} {d : DataW H} {ps : List MemPlace} {r : Reach} {base : Nat} (hv : Value.okWide Try.prog W r base 22 v) (h : DataW.Trod enc Try.prog W 0 (fun _ => true) true 22 v d ps) (hw : Light Try.prog 22 d) : ∃ (A : _) (n : _) (c : _) (xs : List Int), v = .slice A n c ∧ n ≤ c ∧ c ≤ maxLen ∧ c * 1 ≤ reachBytes ∧ Row (Env.of W).heap A n (xs.map (Value.int .u8)) ∧ (∀ x ∈ xs, (Lit.int .u8 x).wf = true) := by
  obtain ⟨_, _, _, rfl⟩ := okWide_slice Try.underlying22 hv
  obtain ⟨fuel, hf⟩ := h
  obtain ⟨A, n, c, xs, e0, q0, q1, q2, q3, q4⟩ := op22 _ _ _ hf hw
  simp [Value.cells] at e0
  obtain ⟨rfl, rfl, rfl⟩ := e0
  exact ⟨_, _, _, xs, rfl, q0, q1, q2, q3, q4⟩
theorem cel3 : Try.prog.cellsOf 3 = 1 := by kernel_rfl
theorem op3 {H : Type} {enc : TypeId × Value → H} {W : World} (n : Nat) (cs : List Value) (y : DataW H × List MemPlace) (h : DataW.trod enc Try.prog W 0 (fun _ => true) true n 3 cs = some y) (hw : Light Try.prog 3 y.1) : ∃ (a : _), cs = [.int .i64 a] ∧ (Lit.int .i64 a).wf = true := by
  obtain ⟨n0, e0, _, h0⟩ := DataW.trod_int (x := y) Try.underlying3 h
  exact ⟨n0, e0, h0⟩
theorem arg3 {H : Type} {enc : TypeId × Value → H} {W : World} {v : Value} {d : DataW H} {ps : List MemPlace} {r : Reach} {base : Nat} (hv : Value.okWide Try.prog W r base 3 v) (h : DataW.Trod enc Try.prog W 0 (fun _ => true) true 3 v d ps) (hw : Light Try.prog 3 d) : ∃ (a : _), v = .int .i64 a ∧ (Lit.int .i64 a).wf = true := by
  obtain ⟨_, rfl, _⟩ := open_int Try.underlying3 hv h
  obtain ⟨fuel, hf⟩ := h
  obtain ⟨a, e0, q0⟩ := op3 _ _ _ hf hw
  simp [Value.cells] at e0
  subst e0
  exact ⟨_, rfl, q0⟩
theorem cel9 : Try.prog.cellsOf 9 = 1 := by kernel_rfl
theorem op9 {H : Type} {enc : TypeId × Value → H} {W : World} (n : Nat) (cs : List Value) (y : DataW H × List MemPlace) (h : DataW.trod enc Try.prog W 0 (fun _ => true) true n 9 cs = some y) (hw : Light Try.prog 9 y.1) : ∃ (a : _), cs = [.string a] ∧ a.size ≤ maxLen := by
  obtain ⟨n0, e0, _, h0⟩ := DataW.trod_string (x := y) Try.underlying9 h
  exact ⟨n0, e0, h0⟩
theorem cel55 : Try.prog.cellsOf 55 = 5 := by kernel_rfl
theorem op55 {H : Type} {enc : TypeId × Value → H} {W : World} (n : Nat) (cs : List Value) (y : DataW H × List MemPlace) (h : DataW.trod enc Try.prog W 0 (fun _ => true) true n 55 cs = some y) (hw : Light Try.prog 55 y.1) : ∃ (a_0 : _) (a_1 : _) (a_2 : _) (A_3 : _) (n_3 : _) (c_3 : _) (xs_3 : List Int) (a_4 : _), cs = [.int .i64 a_0, .string a_1, .string a_2, .slice A_3 n_3 c_3, .int .i64 a_4] ∧ (Lit.int .i64 a_0).wf = true ∧ a_1.size ≤ maxLen ∧ a_2.size ≤ maxLen ∧ n_3 ≤ c_3 ∧ c_3 ≤ maxLen ∧ c_3 * 1 ≤ reachBytes ∧ Row (Env.of W).heap A_3 n_3 (xs_3.map (Value.int .u8)) ∧ (∀ x ∈ xs_3, (Lit.int .u8 x).wf = true) ∧ (Lit.int .i64 a_4).wf = true := by
  obtain ⟨xs, k, _, rfl, hl, hxl, hf⟩ := DataW.trod_struct Try.underlying55 h
  replace hw := Light.struct Try.underlying55 hw
  rw [cel55] at hl
  match cs, hl with
  | [z0, z1, z2, z3, z4], _ =>
    match xs, hxl with
    | [x0, x1, x2, x3, x4], _ =>
      have h0 : DataW.trod enc Try.prog W 0 (fun _ => true) true k 3 (([z0, z1, z2, z3, z4].drop 0).take (Try.prog.cellsOf 3)) = some x0 := hf 0 _ rfl
      rw [cel3] at h0
      obtain ⟨a_0, e0, q0_0⟩ := op3 _ _ _ h0 hw.cons.1
      simp only [List.drop_zero, List.drop_succ_cons, List.take_succ_cons, List.take_zero, List.cons.injEq, and_true] at e0
      have h1 : DataW.trod enc Try.prog W 0 (fun _ => true) true k 9 (([z0, z1, z2, z3, z4].drop 1).take (Try.prog.cellsOf 9)) = some x1 := hf 1 _ rfl
      rw [cel9] at h1
      obtain ⟨a_1, e1, q1_0⟩ := op9 _ _ _ h1 hw.cons.2.cons.1
      simp only [List.drop_zero, List.drop_succ_cons, List.take_succ_cons, List.take_zero, List.cons.injEq, and_true] at e1
      have h2 : DataW.trod enc Try.prog W 0 (fun _ => true) true k 9 (([z0, z1, z2, z3, z4].drop 2).take (Try.prog.cellsOf 9)) = some x2 := hf 2 _ rfl
      rw [cel9] at h2
      obtain ⟨a_2, e2, q2_0⟩ := op9 _ _ _ h2 hw.cons.2.cons.2.cons.1
      simp only [List.drop_zero, List.drop_succ_cons, List.take_succ_cons, List.take_zero, List.cons.injEq, and_true] at e2
      have h3 : DataW.trod enc Try.prog W 0 (fun _ => true) true k 22 (([z0, z1, z2, z3, z4].drop 3).take (Try.prog.cellsOf 22)) = some x3 := hf 3 _ rfl
      rw [cel22] at h3
      obtain ⟨A_3, n_3, c_3, xs_3, e3, q3_0, q3_1, q3_2, q3_3, q3_4⟩ := op22 _ _ _ h3 hw.cons.2.cons.2.cons.2.cons.1
      simp only [List.drop_zero, List.drop_succ_cons, List.take_succ_cons, List.take_zero, List.cons.injEq, and_true] at e3
      have h4 : DataW.trod enc Try.prog W 0 (fun _ => true) true k 3 (([z0, z1, z2, z3, z4].drop 4).take (Try.prog.cellsOf 3)) = some x4 := hf 4 _ rfl
      rw [cel3] at h4
      obtain ⟨a_4, e4, q4_0⟩ := op3 _ _ _ h4 hw.cons.2.cons.2.cons.2.cons.2.cons.1
      simp only [List.drop_zero, List.drop_succ_cons, List.take_succ_cons, List.take_zero, List.cons.injEq, and_true] at e4
      obtain rfl := e0
      obtain rfl := e1
      obtain rfl := e2
      obtain rfl := e3
      obtain rfl := e4
      exact ⟨a_0, a_1, a_2, A_3, n_3, c_3, xs_3, a_4, rfl, q0_0, q1_0, q2_0, q3_0, q3_1, q3_2, q3_3, q3_4, q4_0⟩
theorem arg55 {H : Type} {enc : TypeId × Value → H} {W : World} {v : Value} {d : DataW H} {ps : List MemPlace} {r : Reach} {base : Nat} (hv : Value.okWide Try.prog W r base 55 v) (h : DataW.Trod enc Try.prog W 0 (fun _ => true) true 55 v d ps) (hw : Light Try.prog 55 d) : ∃ (a_0 : _) (a_1 : _) (a_2 : _) (A_3 : _) (n_3 : _) (c_3 : _) (xs_3 : List Int) (a_4 : _), v = .agg #[.int .i64 a_0, .string a_1, .string a_2, .slice A_3 n_3 c_3, .int .i64 a_4] ∧ (Lit.int .i64 a_0).wf = true ∧ a_1.size ≤ maxLen ∧ a_2.size ≤ maxLen ∧ n_3 ≤ c_3 ∧ c_3 ≤ maxLen ∧ c_3 * 1 ≤ reachBytes ∧ Row (Env.of W).heap A_3 n_3 (xs_3.map (Value.int .u8)) ∧ (∀ x ∈ xs_3, (Lit.int .u8 x).wf = true) ∧ (Lit.int .i64 a_4).wf = true := by
  obtain ⟨cs, rfl, _⟩ := okWide_struct Try.underlying55 hv
  obtain ⟨fuel, hf⟩ := h
  obtain ⟨a_0, a_1, a_2, A_3, n_3, c_3, xs_3, a_4, e0, q0, q1, q2, q3, q4, q5, q6, q7, q8⟩ := op55 _ _ _ hf hw
  obtain rfl : cs = #[.int .i64 a_0, .string a_1, .string a_2, .slice A_3 n_3 c_3, .int .i64 a_4] := by
    cases cs
    exact congrArg _ e0
  exact ⟨a_0, a_1, a_2, A_3, n_3, c_3, xs_3, a_4, rfl, q0, q1, q2, q3, q4, q5, q6, q7, q8⟩

section
variable {P : Program} {f : Fr} {dst : Option Tmp} {ty : TypeId} {pos : String} {after : Array Edge} {gd : Option (Nat × Bool)} {w : World}
/-- Bytes as a text. -/
theorem r_convB {src dst' e : TypeId} {x : Operand} {b n c : Nat} {xs : List Int} (hs : P.underlying src = some (.slice e)) (he : P.underlying e = some (.int .u8)) (hd : P.underlying dst' = some .string)
    (hx : f.ev x = .slice (some ⟨b, 0, none⟩) n c) (hr : Row (fun b => w.heap[b]?) (some ⟨b, 0, none⟩) n (bytes xs)) {s : ByteArray} (hsx : strOfNums xs = s) :
    (execOp f.ev ⟨dst, .convert src dst' x, ty, pos, after, gd⟩).run P w = .ok (.value (.string s)) w := by
  have hl : xs.length = n := BRow.len hr
  have h := run_convert_bytes_arg (P := P) w src e hs he b 0 n c xs hl (fun i hi => by
    have h1 := Row.cells hr i (.int .u8 (xs.getD i 0)) (by
      rw [byte_at (x := xs.getD i 0) (by rw [List.getD_eq_getElem?_getD, List.getElem?_eq_getElem (by omega)]; rfl)])
    rwa [add_lit'] at h1) dst' hd
  rw [hsx] at h
  simp [execOp, hx, h]
end

/-! ### Rows -/
structure Rw where
  A : Option Addr
  n : Nat
  c : Nat
  l : List Int
def Rw.cells (x : Rw) : List Value := [.slice x.A x.n x.c]
theorem Rw.len (x : Rw) : x.cells.length = 1 := rfl
def RwOk (H : Nat → Option Obj) (x : Rw) : Prop := BRow H x.A x.n x.l ∧ x.n ≤ x.c ∧ x.n ≤ 140737488355328
theorem open_rw {H : Type} {enc : TypeId × Value → H} {W : World} (n : Nat) (cs : List Value) (y : DataW H × List MemPlace) (h : DataW.trod enc Try.prog W 0 (fun _ => true) true n 22 cs = some y) (hw : Light Try.prog 22 y.1) :
    ∃ x : Rw, cs = x.cells ∧ RwOk (Env.of W).heap x := by
  obtain ⟨A, k, c, xs, rfl, h1, _, h2, h3, _⟩ := op22 _ _ _ h hw
  unfold reachBytes at h2
  exact ⟨⟨A, k, c, xs⟩, rfl, h3, h1, by show k ≤ _; omega⟩
abbrev rwcells (xs : List Rw) : List Value := xs.flatMap Rw.cells
theorem rw_at {xs : List Rw} {i : Nat} {x : Rw} (h : xs[i]? = some x) : (rwcells xs)[i]? = some (.slice x.A x.n x.c) := by
  have := flat_at Rw.len (j := 0) h (by decide)
  rwa [Nat.mul_one, Nat.add_zero] at this
def rowAt (xs : List Rw) (i : Nat) : List Int := ((xs[i]?).map Rw.l).getD []
theorem rowAt_of {xs : List Rw} {i : Nat} {x : Rw} (h : xs[i]? = some x) : rowAt xs i = x.l := by
  unfold rowAt
  rw [h]
  rfl

/-! ### Names, and disks with rows under them -/
def nm (i : Nat) : ByteArray := strOfNums [102, IntKind.u8.wrap (97 + (i : Int))]
theorem nm_ok {i : Nat} (h : i < 20) : nameOk (nm i) = true ∧ (nm i).size ≤ 2 := by
  have h1 : (List.range 20).all (fun i => nameOk (nm i) && decide ((nm i).size ≤ 2)) = true := by kernel_rfl
  have h2 := List.all_eq_true.1 h1 i (List.mem_range.2 h)
  rw [Bool.and_eq_true] at h2
  exact ⟨h2.1, of_decide_eq_true h2.2⟩
theorem nm_inj {i j : Nat} (hi : i < 20) (hj : j < 20) (h : nm i = nm j) : i = j := by
  have h1 : (List.range 20).all (fun i => (List.range 20).all fun j => decide (i = j) || !decide (nm i = nm j)) = true := by kernel_rfl
  have h2 := List.all_eq_true.1 (List.all_eq_true.1 h1 i (List.mem_range.2 hi)) j (List.mem_range.2 hj)
  rw [Bool.or_eq_true] at h2
  rcases h2 with h2 | h2
  · exact of_decide_eq_true h2
  · rw [decide_eq_true h] at h2
    cases h2
theorem nm_le {i j : Nat} (hj : j < 20) (h : i < j) : keyN (nm i) ≤ keyN (nm j) := by
  have h1 : (List.range 20).all (fun j => (List.range j).all fun i => decide (keyN (nm i) ≤ keyN (nm j))) = true := by kernel_rfl
  exact of_decide_eq_true (List.all_eq_true.1 (List.all_eq_true.1 h1 j (List.mem_range.2 hj)) i (List.mem_range.2 h))
theorem names_sorted {n : Nat} (hn : n ≤ 20) : sortN ((List.range n).map nm) = (List.range n).map nm := by
  unfold sortN
  rw [List.mergeSort_of_pairwise]
  · rw [List.map_map]
    conv => rhs; rw [← List.map_id ((List.range n).map nm)]
    apply List.map_congr_left
    intro x _
    show (⟨x.data.toList.toArray⟩ : ByteArray) = x
    rw [Array.toArray_toList]
  · rw [List.map_map, List.pairwise_map]
    refine (List.pairwise_lt_range (n := n)).imp_of_mem fun {a b} ha hb hab => ?_
    exact decide_eq_true (nm_le (by have := List.mem_range.1 hb; omega) hab)
def dk (n : Nat) (f : Nat → Fa) : Da := ⟨1073741824, (List.range n).map f⟩
theorem dk_congr {n : Nat} {f g : Nat → Fa} (h : ∀ j, j < n → f j = g j) : dk n f = dk n g :=
  congrArg (Da.mk 1073741824) (List.map_congr_left fun j hj => h j (List.mem_range.1 hj))
/-- The names of its own, no row longer than some thousand. -/
def Nice (n : Nat) (f : Nat → Fa) : Prop := n ≤ 20 ∧ ∀ j, j < n → (f j).1 = nm j ∧ (f j).2.1.length ≤ 4000
theorem Nice.apart {n : Nat} {f : Nat → Fa} (h : Nice n f) : Apart (dk n f).fs := by
  show ((List.range n).map f).Pairwise _
  rw [List.pairwise_map]
  refine (List.pairwise_lt_range (n := n)).imp_of_mem fun {a b} ha hb hab => ?_
  have ha' := List.mem_range.1 ha
  have hb' := List.mem_range.1 hb
  have hn := h.1
  intro e
  rw [(h.2 a ha').1, (h.2 b hb').1] at e
  have := nm_inj (by omega) (by omega) e
  omega
theorem Nice.in_ {n i : Nat} {f : Nat → Fa} (h : Nice n f) (hi : i < n) : inA (dk n f).fs (nm i) = some (f i) := by
  have h1 : (dk n f).fs[i]? = some (f i) := by
    show ((List.range n).map f)[i]? = _
    rw [List.getElem?_map, List.getElem?_range hi]
    rfl
  have := inA_at h.apart h1
  rwa [(h.2 i hi).1] at this
theorem Nice.upd {n i : Nat} {f : Nat → Fa} (h : Nice n f) (hi : i < n) (u : Fa → Fa) : updA (dk n f).fs (nm i) u = (List.range n).map fun j => if j = i then u (f j) else f j := by
  have hn := h.1
  unfold updA
  show ((List.range n).map f).map _ = _
  rw [List.map_map]
  apply List.map_congr_left
  intro j hj
  have hj' := List.mem_range.1 hj
  show (if (f j).1 = nm i then u (f j) else f j) = _
  rw [(h.2 j hj').1]
  by_cases e : j = i
  · rw [if_pos (by rw [e]), if_pos e]
  · rw [if_neg (fun e' => e (nm_inj (by omega) (by omega) e')), if_neg e]
theorem Nice.sum {n : Nat} {f : Nat → Fa} (h : Nice n f) : sumL (dk n f).fs ≤ 4000 * n := by
  have : ∀ k, k ≤ n → sumL ((List.range k).map f) ≤ 4000 * k := by
    intro k
    induction k with
    | zero => intro _; exact Int.le_refl 0
    | succ k ih =>
      intro hk
      have h1 := ih (by omega)
      have h2 := (h.2 k (by omega)).2
      rw [List.range_succ, List.map_append, sumL_app]
      have h3 : sumL [f k] = ((f k).2.1.length : Int) + 0 := rfl
      rw [List.map_singleton, h3]
      omega
  exact this n (Nat.le_refl _)
theorem Nice.new {n : Nat} {f : Nat → Fa} {b : List Int} (h : Nice n f) (hn : n < 20) (hb : b.length ≤ 2000) : appD (dk n f) (nm n) b = (0, dk (n + 1) fun j => if j = n then (nm n, b, 0) else f j) := by
  have hs := h.sum
  have hno : inA (dk n f).fs (nm n) = none := inA_none fun x hx e => by
    obtain ⟨j, hj, rfl⟩ := List.mem_map.1 hx
    have hj' := List.mem_range.1 hj
    rw [(h.2 j hj').1] at e
    have := nm_inj (by omega) (by omega) e
    omega
  unfold appD
  rw [if_pos (nm_ok hn).1, hno]
  show (if 4194304 < b.length then _ else if (1073741824 : Int) - sumL (dk n f).fs < b.length then _ else _) = _
  rw [if_neg (by omega), if_neg (by omega)]
  refine congrArg (Prod.mk (0 : Int)) (congrArg (Da.mk 1073741824) ?_)
  show (List.range n).map f ++ [(nm n, b, 0)] = (List.range (n + 1)).map _
  rw [List.range_succ, List.map_append, List.map_singleton, if_pos rfl]
  refine congrArg (· ++ _) (List.map_congr_left fun j hj => ?_)
  have hj' := List.mem_range.1 hj
  rw [if_neg (by omega)]
theorem Nice.old {n i : Nat} {f : Nat → Fa} {b : List Int} (h : Nice n f) (hi : i < n) (hb : b.length ≤ 2000) : appD (dk n f) (nm i) b = (0, dk n fun j => if j = i then ((f j).1, (f j).2.1 ++ b, (f j).2.2) else f j) := by
  have hs := h.sum
  have hn := h.1
  have hl := (h.2 i hi).2
  unfold appD
  rw [if_pos (nm_ok (by omega)).1, h.in_ hi]
  show (if 4194304 < (f i).2.1.length + b.length then _ else if (1073741824 : Int) - sumL (dk n f).fs < b.length then _ else _) = _
  rw [if_neg (by omega), if_neg (by omega), h.upd hi]
  rfl
theorem Nice.sync {n i : Nat} {f : Nat → Fa} (h : Nice n f) (hi : i < n) : syncD (dk n f) (nm i) = (0, dk n fun j => if j = i then ((f j).1, (f j).2.1, ((f j).2.1.length : Int)) else f j) := by
  unfold syncD
  rw [h.in_ hi]
  show ((0 : Int), Da.mk _ (updA (dk n f).fs (nm i) _)) = _
  rw [h.upd hi]
  rfl
theorem Nice.read {n i : Nat} {f : Nat → Fa} (h : Nice n f) (hi : i < n) : readA (dk n f) (nm i) = (0, (f i).2.1) := by
  unfold readA
  rw [h.in_ hi]
theorem Nice.names {n : Nat} {f : Nat → Fa} (h : Nice n f) : sortN ((dk n f).fs.map (·.1)) = (List.range n).map nm := by
  rw [← names_sorted h.1]
  congr 1
  show ((List.range n).map f).map _ = _
  rw [List.map_map]
  exact List.map_congr_left fun j hj => (h.2 j (List.mem_range.1 hj)).1
theorem crash_dk (n : Nat) (f : Nat → Fa) (keep : Int) : crashD (dk n f) keep = dk n fun j => cutF (keepN keep (f j)) (f j) := by
  unfold crashD dk
  rw [List.map_map]
  rfl
/-- How many bytes there are, one row after the other. -/
theorem sum_one (n : Nat) (f : Nat → Fa) : sumL (dk (n + 1) f).fs = sumL (dk n f).fs + (f n).2.1.length := by
  show sumL ((List.range (n + 1)).map f) = sumL ((List.range n).map f) + _
  rw [List.range_succ, List.map_append, sumL_app]
  show _ + (((f n).2.1.length : Int) + 0) = _
  omega
theorem copyB_c {F : Env} {w : World} {Ls : List Blks} {A : Option Addr} {n c : Nat} {l : List Int} (hm : Mem F w Ls) (hn : n ≤ 140737488355328) (hr : BRow F.heap A n l) :
    Calls Try.prog 32 #[.slice A n c] w (Ret fun v w' => ∃ A' c' L, v = .slice A' n c' ∧ OwnS 5 1 A' n c' (bytes l) L ∧ Mem F w' (L :: Ls)) := by
  have hrow : Row F.heap A (n * 1) (bytes l) := by rw [Nat.mul_one]; exact hr
  refine Calls.of_vc Try.func32 rfl Try.ntmps32 rfl ?_
  repeat (first | refine VC.seq ?_ | refine VC.block ?_ | refine VC.skip ?_)
  refine VC.region ?_
  refine VR.pure rfl rfl (p_assignL rfl) ?_
  refine VR.nil ?_
  repeat (first | refine VC.seq ?_ | refine VC.block ?_ | refine VC.skip ?_)
  refine VC.region ?_
  refine VR.pure rfl rfl (p_assignL rfl) ?_
  refine VR.nil ?_
  repeat (first | refine VC.seq ?_ | refine VC.block ?_ | refine VC.skip ?_)
  refine VC.region ?_
  refine VR.pure rfl rfl (p_moveL rfl) ?_
  refine VR.pure rfl rfl (p_moveL rfl) ?_
  replace hm := hm.nil_
  refine VR.append (s := 1) (bytes := 1) Try.underlying22 inf5 rfl rfl rfl rfl rfl rfl rfl rfl rfl hm (OwnS.nil _ _) (hrow.mono hm.fix) (bytes_one l) (Nat.zero_add n) ⟨by unfold maxLen; omega, by omega⟩ ?_
  intro A' c' w L' ho' hm
  refine VR.pure rfl rfl (p_assignL rfl) ?_
  refine VR.nil ?_
  repeat (first | refine VC.seq ?_ | refine VC.block ?_ | refine VC.skip ?_)
  refine VC.ret ⟨_, ResOf.r1 (v := .slice _ _ _) rfl rfl, ?_⟩
  exact ⟨A', c', L', rfl, ho', hm⟩
end Go.Bd
