/- Layer 17: steps as arguments; what a tick tells and leaves. Conditions: as each states. -/
import Derived.Test.Ytknmjfdemfknaaa17c
import Derived.Test.YtknmjfdemfknaaaOpen
namespace Go.Bd
open Go.Proofs Go.ChangeShapes Go.WideShapes
set_option linter.unusedVariables false
set_option maxRecDepth 20000
theorem cel3 : Try.prog.cellsOf 3 = 1 := by kernel_rfl
theorem op3 {H : Type} {enc : TypeId × Value → H} {W : World} (n : Nat) (cs : List Value) (y : DataW H × List MemPlace) (h : DataW.trod enc Try.prog W 0 (fun _ => true) true n 3 cs = some y) (hw : Light Try.prog 3 y.1) : ∃ (a : _), cs = [.int .i64 a] ∧ (Lit.int .i64 a).wf = true := by
  obtain ⟨n0, e0, _, h0⟩ := DataW.trod_int (x := y) Try.underlying3 h
  exact ⟨n0, e0, h0⟩
theorem arg3 {H : Type} {enc : TypeId × Value → H} {W : World} {v : Value} {d : DataW H} {ps : List MemPlace} {r : Reach} {base : Nat} (hv : Value.okWide Try.prog W r base 3 v) (h : DataW.Trod enc Try.prog W 0 (fun _ => true) true 3 v d ps) (hw : Light Try.prog 3 d) : ∃ (a : _), v = .int .i64 a ∧ (Lit.int .i64 a).wf = true := by
  obtain ⟨_, rfl, _⟩ := open_int Try.underlying3 hv h
  obtain ⟨fuel, hf⟩ := h
  obtain ⟨a, e0, q0⟩ := op3 _ _ _ hf hw
  simp [Value.cells] at e0
  subst e0
  exact ⟨_, rfl, q0⟩
theorem cel2 : Try.prog.cellsOf 2 = 1 := by kernel_rfl
theorem op2 {H : Type} {enc : TypeId × Value → H} {W : World} (n : Nat) (cs : List Value) (y : DataW H × List MemPlace) (h : DataW.trod enc Try.prog W 0 (fun _ => true) true n 2 cs = some y) (hw : Light Try.prog 2 y.1) : ∃ (a : _), cs = [.int .i64 a] ∧ (Lit.int .i64 a).wf = true := by
  obtain ⟨n0, e0, _, h0⟩ := DataW.trod_int (x := y) Try.underlying2 h
  exact ⟨n0, e0, h0⟩
theorem arg2 {H : Type} {enc : TypeId × Value → H} {W : World} {v : Value} {d : DataW H} {ps : List MemPlace} {r : Reach} {base : Nat} (hv : Value.okWide Try.prog W r base 2 v) (h : DataW.Trod enc Try.prog W 0 (fun _ => true) true 2 v d ps) (hw : Light Try.prog 2 d) : ∃ (a : _), v = .int .i64 a ∧ (Lit.int .i64 a).wf = true := by
  obtain ⟨_, rfl, _⟩ := open_int Try.underlying2 hv h
  obtain ⟨fuel, hf⟩ := h
  obtain ⟨a, e0, q0⟩ := op2 _ _ _ hf hw
  simp [Value.cells] at e0
  subst e0
  exact ⟨_, rfl, q0⟩
theorem cel29 : Try.prog.cellsOf 29 = 4 := by kernel_rfl
theorem op29 {H : Type} {enc : TypeId × Value → H} {W : World} (n : Nat) (cs : List Value) (y : DataW H × List MemPlace) (h : DataW.trod enc Try.prog W 0 (fun _ => true) true n 29 cs = some y) (hw : Light Try.prog 29 y.1) : ∃ (a_0 : _) (a_1 : _) (a_2 : _) (a_3 : _), cs = [.int .i64 a_0, .int .i64 a_1, .int .i64 a_2, .int .i64 a_3] ∧ (Lit.int .i64 a_0).wf = true ∧ (Lit.int .i64 a_1).wf = true ∧ (Lit.int .i64 a_2).wf = true ∧ (Lit.int .i64 a_3).wf = true := by
  obtain ⟨xs, k, _, rfl, hl, hxl, hf⟩ := DataW.trod_struct Try.underlying29 h
  replace hw := Light.struct Try.underlying29 hw
  rw [cel29] at hl
  match cs, hl with
  | [z0, z1, z2, z3], _ =>
    match xs, hxl with
    | [x0, x1, x2, x3], _ =>
      have h0 : DataW.trod enc Try.prog W 0 (fun _ => true) true k 3 (([z0, z1, z2, z3].drop 0).take (Try.prog.cellsOf 3)) = some x0 := hf 0 _ rfl
      rw [cel3] at h0
      obtain ⟨a_0, e0, q0_0⟩ := op3 _ _ _ h0 hw.cons.1
      simp only [List.drop_zero, List.drop_succ_cons, List.take_succ_cons, List.take_zero, List.cons.injEq, and_true] at e0
      have h1 : DataW.trod enc Try.prog W 0 (fun _ => true) true k 2 (([z0, z1, z2, z3].drop 1).take (Try.prog.cellsOf 2)) = some x1 := hf 1 _ rfl
      rw [cel2] at h1
      obtain ⟨a_1, e1, q1_0⟩ := op2 _ _ _ h1 hw.cons.2.cons.1
      simp only [List.drop_zero, List.drop_succ_cons, List.take_succ_cons, List.take_zero, List.cons.injEq, and_true] at e1
      have h2 : DataW.trod enc Try.prog W 0 (fun _ => true) true k 3 (([z0, z1, z2, z3].drop 2).take (Try.prog.cellsOf 3)) = some x2 := hf 2 _ rfl
      rw [cel3] at h2
      obtain ⟨a_2, e2, q2_0⟩ := op3 _ _ _ h2 hw.cons.2.cons.2.cons.1
      simp only [List.drop_zero, List.drop_succ_cons, List.take_succ_cons, List.take_zero, List.cons.injEq, and_true] at e2
      have h3 : DataW.trod enc Try.prog W 0 (fun _ => true) true k 2 (([z0, z1, z2, z3].drop 3).take (Try.prog.cellsOf 2)) = some x3 := hf 3 _ rfl
      rw [cel2] at h3
      obtain ⟨a_3, e3, q3_0⟩ := op2 _ _ _ h3 hw.cons.2.cons.2.cons.2.cons.1
      simp only [List.drop_zero, List.drop_succ_cons, List.take_succ_cons, List.take_zero, List.cons.injEq, and_true] at e3
      obtain rfl := e0
      obtain rfl := e1
      obtain rfl := e2
      obtain rfl := e3
      exact ⟨a_0, a_1, a_2, a_3, rfl, q0_0, q1_0, q2_0, q3_0⟩
theorem arg29 {H : Type} {enc : TypeId × Value → H} {W : World} {v : Value} {d : DataW H} {ps : List MemPlace} {r : Reach} {base : Nat} (hv : Value.okWide Try.prog W r base 29 v) (h : DataW.Trod enc Try.prog W 0 (fun _ => true) true 29 v d ps) (hw : Light Try.prog 29 d) : ∃ (a_0 : _) (a_1 : _) (a_2 : _) (a_3 : _), v = .agg #[.int .i64 a_0, .int .i64 a_1, .int .i64 a_2, .int .i64 a_3] ∧ (Lit.int .i64 a_0).wf = true ∧ (Lit.int .i64 a_1).wf = true ∧ (Lit.int .i64 a_2).wf = true ∧ (Lit.int .i64 a_3).wf = true := by
  obtain ⟨cs, rfl, _⟩ := okWide_struct Try.underlying29 hv
  obtain ⟨fuel, hf⟩ := h
  obtain ⟨a_0, a_1, a_2, a_3, e0, q0, q1, q2, q3⟩ := op29 _ _ _ hf hw
  obtain rfl : cs = #[.int .i64 a_0, .int .i64 a_1, .int .i64 a_2, .int .i64 a_3] := by
    cases cs
    exact congrArg _ e0
  exact ⟨a_0, a_1, a_2, a_3, rfl, q0, q1, q2, q3⟩

/-- One step of a book's life. -/
structure Dd where
  op : Int
  s : Int
  t : Int
  now : Int
def Dd.cells (x : Dd) : List Value := [.int .i64 x.op, .int .i64 x.s, .int .i64 x.t, .int .i64 x.now]
theorem Dd.len (x : Dd) : x.cells.length = 4 := rfl
theorem open_do {H : Type} {enc : TypeId × Value → H} {W : World} (n : Nat) (cs : List Value) (y : DataW H × List MemPlace) (h : DataW.trod enc Try.prog W 0 (fun _ => true) true n 29 cs = some y) (hw : Light Try.prog 29 y.1) :
    ∃ x : Dd, cs = x.cells ∧ True := by
  obtain ⟨a, b, d, e, rfl, _⟩ := op29 _ _ _ h hw
  exact ⟨⟨a, b, d, e⟩, rfl, trivial⟩
theorem Row.heads {X : Type} {g : X → List Value} {s : Nat} (hg : ∀ x, (g x).length = s) {H : Nat → Option Obj} {A : Option Addr} {n k : Nat} {xs : List X} (h : Row H A (n * s) (xs.flatMap g)) (hl : xs.length = n) (hk : k ≤ n) : Row H A (k * s) ((xs.take k).flatMap g) := by
  have h1 := h.take (k := k * s) (Nat.mul_le_mul_right s hk)
  have h2 : (xs.flatMap g).take (k * s) = (xs.take k).flatMap g := by
    conv => lhs; rw [← List.take_append_drop k xs]
    rw [List.flatMap_append, List.take_left' (by rw [flat_len hg, List.length_take]; rw [Nat.min_eq_left (by omega)])]
  rwa [h2] at h1

/-! ### What a tick tells, out of all -/
def names (b : Ba) : List Int := b.fs.map (·.1)
theorem putS_len (fs : List Sa) (x : Sa) : (putS fs x).length ≤ fs.length + 1 := by
  unfold putS
  split
  · rw [List.length_map]
    omega
  · rw [List.length_append]
    exact Nat.le_refl _
theorem addB_len (b : Ba) (s t : Int) : (addB b s t).2.fs.length ≤ b.fs.length + 1 := by
  unfold addB
  split
  · exact Nat.le_succ _
  · exact putS_len _ _
theorem tickB_len (b : Ba) (t : Int) : (tickB b t).fs.length ≤ b.fs.length := List.length_filter_le _ _
theorem sortI_lt {l : List Int} (h : l.Nodup) : (sortI l).Pairwise (· < ·) := by
  have h1 := sortI_sorted l
  have h2 : (sortI l).Pairwise (· ≠ ·) := ((List.mergeSort_perm l _).nodup_iff.2 h : (sortI l).Nodup)
  exact (h1.and h2).imp fun ⟨a, b⟩ => by omega
theorem names_nodup {b : Ba} (h : Apart b.fs) : (names b).Nodup := List.pairwise_map.2 h
theorem filter_sorted {l : List Int} {p : Int → Bool} : sortI (l.filter p) = (sortI l).filter p :=
  sortI_is ((List.mergeSort_perm l _).symm.filter p) ((sortI_sorted l).sublist List.filter_sublist)
/-- Which sessions a tick tells. -/
def over (b : Ba) (t : Int) (s : Int) : Bool := match inS b.fs s with
  | some x => decide (x.2.2 ≤ nowOf b.now t)
  | none => false
theorem over_of {b : Ba} (h : Apart b.fs) {t : Int} {f : Sa} (hf : f ∈ b.fs) : over b t f.1 = decide (f.2.2 ≤ nowOf b.now t) := by
  obtain ⟨i, hi, rfl⟩ := List.mem_iff_getElem.1 hf
  unfold over
  rw [inS_at h (List.getElem?_eq_getElem hi)]
theorem gone_out {b : Ba} (h : Apart b.fs) (t : Int) : goneB b t = (names b).filter (over b t) := by
  unfold goneB names
  rw [List.filter_map]
  congr 1
  apply List.filter_congr
  intro f hf
  exact (over_of h hf).symm
theorem left_out {b : Ba} (h : Apart b.fs) (t : Int) : names (tickB b t) = (names b).filter (fun s => !over b t s) := by
  unfold names
  rw [List.filter_map]
  show ((b.fs.filter _).map _) = _
  congr 1
  apply List.filter_congr
  intro f hf
  show decide (¬ f.2.2 ≤ nowOf b.now t) = !over b t f.1
  rw [over_of h hf, decide_not]
theorem filter_at {p : Int → Bool} {W : List Int} {i : Nat} {x : Int} (h : W[i]? = some x) (hp : p x = true) :
    (W.filter p)[((W.take i).filter p).length]? = some x ∧ ((W.take (i + 1)).filter p).length = ((W.take i).filter p).length + 1 := by
  obtain ⟨hi, hx⟩ := List.getElem?_eq_some_iff.1 h
  constructor
  · have e : W = W.take i ++ x :: W.drop (i + 1) := by
      rw [← hx, List.getElem_cons_drop, List.take_append_drop]
    conv => lhs; rw [e]
    rw [List.filter_append, List.filter_cons_of_pos hp, List.take_append_of_le_length (by rw [List.length_take]; omega), List.take_of_length_le (l := W.take i) (by rw [List.length_take]; omega), List.getElem?_append_right (Nat.le_refl _), Nat.sub_self]
    rfl
  · rw [List.take_add_one, h, List.filter_append, List.length_append]
    show _ + (List.filter p [x]).length = _
    rw [List.filter_cons_of_pos hp]
    rfl
theorem filter_no {p : Int → Bool} {W : List Int} {i : Nat} {x : Int} (h : W[i]? = some x) (hp : p x = false) : ((W.take (i + 1)).filter p).length = ((W.take i).filter p).length := by
  rw [List.take_add_one, h, List.filter_append, List.length_append]
  show _ + (List.filter p [x]).length = _
  rw [List.filter_cons_of_neg (by rw [hp]; exact Bool.false_ne_true)]
  rfl
theorem filter_two (p : Int → Bool) : ∀ W : List Int, (W.filter p).length + (W.filter fun s => !p s).length = W.length
  | [] => rfl
  | x :: r => by
    have ih := filter_two p r
    cases h : p x
    · rw [List.filter_cons_of_neg (by rw [h]; exact Bool.false_ne_true), List.filter_cons_of_pos (by rw [h]; rfl), List.length_cons, List.length_cons]
      omega
    · rw [List.filter_cons_of_pos h, List.filter_cons_of_neg (by rw [h]; exact Bool.false_ne_true), List.length_cons, List.length_cons]
      omega
theorem back_none {b : Ba} {t u : Int} (ht : t ≤ 1152921504606846976) : goneB (tickB b t) (min t u) = [] ∧ tickB (tickB b t) (min t u) = tickB b t := by
  have hn : nowOf (nowOf b.now t) (min t u) = nowOf b.now t := by
    unfold nowOf
    rw [if_pos ht]
    split <;> omega
  have h1 : ∀ f ∈ (tickB b t).fs, ¬ f.2.2 ≤ nowOf b.now t := fun f hf => of_decide_eq_true (List.mem_filter.1 hf).2
  unfold goneB
  constructor
  · rw [show (tickB b t).now = nowOf b.now t from rfl, hn, List.filter_eq_nil_iff.2 (fun f hf => by simpa using h1 f hf)]
    rfl
  · show Ba.mk (nowOf (nowOf b.now t) (min t u)) _ = _
    rw [hn]
    show Ba.mk _ ((tickB b t).fs.filter _) = tickB b t
    rw [show (tickB b t).now = nowOf b.now t from rfl, hn, List.filter_eq_self.2 (fun f hf => decide_eq_true (h1 f hf))]
    rfl
end Go.Bd
