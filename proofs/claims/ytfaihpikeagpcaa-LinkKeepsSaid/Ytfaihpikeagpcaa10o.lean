/- Arguments of layer 10 opened: packets. Conditions: none. -/
import Derived.Test.YtfaihpikeagpcaaOpen
import Derived.Test.YtfaihpikeagpcaaFacts
namespace Go.Bd
open Go.Proofs Go.ChangeShapes Go.WideShapes
set_option linter.unusedVariables false
set_option linter.unusedSimpArgs false
set_option maxRecDepth 20000
theorem cel3 : Try.prog.cellsOf 3 = 1 := by kernel_rfl
theorem op3 {H : Type} {enc : TypeId × Value → H} {W : World} (n : Nat) (cs : List Value) (y : DataW H × List MemPlace) (h : DataW.trod enc Try.prog W 0 (fun _ => true) true n 3 cs = some y) (hw : Light Try.prog 3 y.1) : ∃ (a : _), cs = [.int .i64 a] ∧ (Lit.int .i64 a).wf = true := by
  obtain ⟨n0, e0, _, h0⟩ := DataW.trod_int (x := y) Try.underlying3 h
  exact ⟨n0, e0, h0⟩
theorem arg3 {H : Type} {enc : TypeId × Value → H} {W : World} {v : Value} {d : DataW H} {ps : List MemPlace} {r : Reach} {base : Nat} (hv : Value.okWide Try.prog W r base 3 v) (h : DataW.Trod enc Try.prog W 0 (fun _ => true) true 3 v d ps) (hw : Light Try.prog 3 d) : ∃ (a : _), v = .int .i64 a ∧ (Lit.int .i64 a).wf = true := by
  obtain ⟨_, rfl, _⟩ := open_int Try.underlying3 hv h
  obtain ⟨fuel, hf⟩ := h
  obtain ⟨a, e0, q0⟩ := op3 _ _ _ hf hw
  simp [Value.cells] at e0
  subst e0
  exact ⟨_, rfl, q0⟩
theorem cel5 : Try.prog.cellsOf 5 = 1 := by kernel_rfl
theorem op5 {H : Type} {enc : TypeId × Value → H} {W : World} (n : Nat) (cs : List Value) (y : DataW H × List MemPlace) (h : DataW.trod enc Try.prog W 0 (fun _ => true) true n 5 cs = some y) (hw : Light Try.prog 5 y.1) : ∃ (a : _), cs = [.int .u8 a] ∧ (Lit.int .u8 a).wf = true := by
  obtain ⟨n0, e0, _, h0⟩ := DataW.trod_int (x := y) Try.underlying5 h
  exact ⟨n0, e0, h0⟩
theorem arg5 {H : Type} {enc : TypeId × Value → H} {W : World} {v : Value} {d : DataW H} {ps : List MemPlace} {r : Reach} {base : Nat} (hv : Value.okWide Try.prog W r base 5 v) (h : DataW.Trod enc Try.prog W 0 (fun _ => true) true 5 v d ps) (hw : Light Try.prog 5 d) : ∃ (a : _), v = .int .u8 a ∧ (Lit.int .u8 a).wf = true := by
  obtain ⟨_, rfl, _⟩ := open_int Try.underlying5 hv h
  obtain ⟨fuel, hf⟩ := h
  obtain ⟨a, e0, q0⟩ := op5 _ _ _ hf hw
  simp [Value.cells] at e0
  subst e0
  exact ⟨_, rfl, q0⟩
theorem cel22 : Try.prog.cellsOf 22 = 1 := by kernel_rfl
theorem op22 {H : Type} {enc : TypeId × Value → H} {W : World} (n : Nat) (cs : List Value) (y : DataW H × List MemPlace) (h : DataW.trod enc Try.prog W 0 (fun _ => true) true n 22 cs = some y) (hw : Light Try.prog 22 y.1) : ∃ (A : _) (n : _) (c : _) (xs : List Int), cs = [.slice A n c] ∧ n ≤ c ∧ c ≤ maxLen ∧ c * 1 ≤ reachBytes ∧ Row (Env.of W).heap A n (xs.map (Value.int .u8)) ∧ (∀ x ∈ xs, (Lit.int .u8 x).wf = true) := by
  obtain ⟨A0, n0, c0, xs, h1, h2, h3, h4, h5, h6, _⟩ := open_rows (cells := fun x : Int => [Value.int .u8 x]) (Q := fun x => (Lit.int .u8 x).wf = true) Try.underlying22 cel5 (by decide) (fun _ => rfl) op5 h hw
  rw [show Try.prog.bytesOf 5 = 1 by kernel_rfl] at h4
  rw [Nat.mul_one, show (xs.flatMap fun x : Int => [Value.int .u8 x]) = xs.map (Value.int .u8) from flat_one1 _ xs] at h5
  exact ⟨A0, n0, c0, xs, h1, h2, h3, h4, h5, h6⟩
theorem arg22 {H : Type} {enc : TypeId × Value → H} {W : World} {v : Value} {d : DataW H} {ps : List MemPlace} {r : Reach} {base : Nat} (hv : Value.okWide Try.prog W r base 22 v) (h : DataW.Trod enc Try.prog W 0 (fun _ => true) true 22 v d ps) (hw : Light Try.prog 22 d) : ∃ (A : _) (n : _) (c : _) (xs : List Int), v = .slice A n c ∧ n ≤ c ∧ c ≤ maxLen ∧ c * 1 ≤ reachBytes ∧ Row (Env.of W).heap A n (xs.map (Value.int .u8)) ∧ (∀ x ∈ xs, (Lit.int .u8 x).wf = true) := by
  obtain ⟨_, _, _, rfl⟩ := okWide_slice Try.underlying22 hv
  obtain ⟨fuel, hf⟩ := h
  obtain ⟨A, n, c, xs, e0, q0, q1, q2, q3, q4⟩ := op22 _ _ _ hf hw
  simp [Value.cells] at e0
  obtain ⟨rfl, rfl, rfl⟩ := e0
  exact ⟨_, _, _, xs, rfl, q0, q1, q2, q3, q4⟩
theorem cel24 : Try.prog.cellsOf 24 = 5 := by kernel_rfl
theorem op24 {H : Type} {enc : TypeId × Value → H} {W : World} (n : Nat) (cs : List Value) (y : DataW H × List MemPlace) (h : DataW.trod enc Try.prog W 0 (fun _ => true) true n 24 cs = some y) (hw : Light Try.prog 24 y.1) : ∃ (a_0 : _) (a_1 : _) (a_2 : _) (a_3 : _) (A_4 : _) (n_4 : _) (c_4 : _) (xs_4 : List Int), cs = [.int .i64 a_0, .int .i64 a_1, .int .i64 a_2, .int .i64 a_3, .slice A_4 n_4 c_4] ∧ (Lit.int .i64 a_0).wf = true ∧ (Lit.int .i64 a_1).wf = true ∧ (Lit.int .i64 a_2).wf = true ∧ (Lit.int .i64 a_3).wf = true ∧ n_4 ≤ c_4 ∧ c_4 ≤ maxLen ∧ c_4 * 1 ≤ reachBytes ∧ Row (Env.of W).heap A_4 n_4 (xs_4.map (Value.int .u8)) ∧ (∀ x ∈ xs_4, (Lit.int .u8 x).wf = true) := by
  obtain ⟨xs, k, _, rfl, hl, hxl, hf⟩ := DataW.trod_struct Try.underlying24 h
  replace hw := Light.struct Try.underlying24 hw
  rw [cel24] at hl
  match cs, hl with
  | [z0, z1, z2, z3, z4], _ =>
    match xs, hxl with
    | [x0, x1, x2, x3, x4], _ =>
      have h0 : DataW.trod enc Try.prog W 0 (fun _ => true) true k 3 (([z0, z1, z2, z3, z4].drop 0).take (Try.prog.cellsOf 3)) = some x0 := hf 0 _ rfl
      rw [cel3] at h0
      obtain ⟨a_0, e0, q0_0⟩ := op3 _ _ _ h0 hw.cons.1
      simp only [List.drop_zero, List.drop_succ_cons, List.take_succ_cons, List.take_zero, List.cons.injEq, and_true] at e0
      have h1 : DataW.trod enc Try.prog W 0 (fun _ => true) true k 3 (([z0, z1, z2, z3, z4].drop 1).take (Try.prog.cellsOf 3)) = some x1 := hf 1 _ rfl
      rw [cel3] at h1
      obtain ⟨a_1, e1, q1_0⟩ := op3 _ _ _ h1 hw.cons.2.cons.1
      simp only [List.drop_zero, List.drop_succ_cons, List.take_succ_cons, List.take_zero, List.cons.injEq, and_true] at e1
      have h2 : DataW.trod enc Try.prog W 0 (fun _ => true) true k 3 (([z0, z1, z2, z3, z4].drop 2).take (Try.prog.cellsOf 3)) = some x2 := hf 2 _ rfl
      rw [cel3] at h2
      obtain ⟨a_2, e2, q2_0⟩ := op3 _ _ _ h2 hw.cons.2.cons.2.cons.1
      simp only [List.drop_zero, List.drop_succ_cons, List.take_succ_cons, List.take_zero, List.cons.injEq, and_true] at e2
      have h3 : DataW.trod enc Try.prog W 0 (fun _ => true) true k 3 (([z0, z1, z2, z3, z4].drop 3).take (Try.prog.cellsOf 3)) = some x3 := hf 3 _ rfl
      rw [cel3] at h3
      obtain ⟨a_3, e3, q3_0⟩ := op3 _ _ _ h3 hw.cons.2.cons.2.cons.2.cons.1
      simp only [List.drop_zero, List.drop_succ_cons, List.take_succ_cons, List.take_zero, List.cons.injEq, and_true] at e3
      have h4 : DataW.trod enc Try.prog W 0 (fun _ => true) true k 22 (([z0, z1, z2, z3, z4].drop 4).take (Try.prog.cellsOf 22)) = some x4 := hf 4 _ rfl
      rw [cel22] at h4
      obtain ⟨A_4, n_4, c_4, xs_4, e4, q4_0, q4_1, q4_2, q4_3, q4_4⟩ := op22 _ _ _ h4 hw.cons.2.cons.2.cons.2.cons.2.cons.1
      simp only [List.drop_zero, List.drop_succ_cons, List.take_succ_cons, List.take_zero, List.cons.injEq, and_true] at e4
      obtain rfl := e0
      obtain rfl := e1
      obtain rfl := e2
      obtain rfl := e3
      obtain rfl := e4
      exact ⟨a_0, a_1, a_2, a_3, A_4, n_4, c_4, xs_4, rfl, q0_0, q1_0, q2_0, q3_0, q4_0, q4_1, q4_2, q4_3, q4_4⟩
theorem arg24 {H : Type} {enc : TypeId × Value → H} {W : World} {v : Value} {d : DataW H} {ps : List MemPlace} {r : Reach} {base : Nat} (hv : Value.okWide Try.prog W r base 24 v) (h : DataW.Trod enc Try.prog W 0 (fun _ => true) true 24 v d ps) (hw : Light Try.prog 24 d) : ∃ (a_0 : _) (a_1 : _) (a_2 : _) (a_3 : _) (A_4 : _) (n_4 : _) (c_4 : _) (xs_4 : List Int), v = .agg #[.int .i64 a_0, .int .i64 a_1, .int .i64 a_2, .int .i64 a_3, .slice A_4 n_4 c_4] ∧ (Lit.int .i64 a_0).wf = true ∧ (Lit.int .i64 a_1).wf = true ∧ (Lit.int .i64 a_2).wf = true ∧ (Lit.int .i64 a_3).wf = true ∧ n_4 ≤ c_4 ∧ c_4 ≤ maxLen ∧ c_4 * 1 ≤ reachBytes ∧ Row (Env.of W).heap A_4 n_4 (xs_4.map (Value.int .u8)) ∧ (∀ x ∈ xs_4, (Lit.int .u8 x).wf = true) := by
  obtain ⟨cs, rfl, _⟩ := okWide_struct Try.underlying24 hv
  obtain ⟨fuel, hf⟩ := h
  obtain ⟨a_0, a_1, a_2, a_3, A_4, n_4, c_4, xs_4, e0, q0, q1, q2, q3, q4, q5, q6, q7, q8⟩ := op24 _ _ _ hf hw
  obtain rfl : cs = #[.int .i64 a_0, .int .i64 a_1, .int .i64 a_2, .int .i64 a_3, .slice A_4 n_4 c_4] := by
    cases cs
    exact congrArg _ e0
  exact ⟨a_0, a_1, a_2, a_3, A_4, n_4, c_4, xs_4, rfl, q0, q1, q2, q3, q4, q5, q6, q7, q8⟩
theorem cel60 : Try.prog.cellsOf 60 = 8 := by kernel_rfl
theorem op60 {H : Type} {enc : TypeId × Value → H} {W : World} (n : Nat) (cs : List Value) (y : DataW H × List MemPlace) (h : DataW.trod enc Try.prog W 0 (fun _ => true) true n 60 cs = some y) (hw : Light Try.prog 60 y.1) : ∃ (a_0 : _) (A_1 : _) (n_1 : _) (c_1 : _) (xs_1 : List Int) (a_2_0 : _) (a_2_1 : _) (a_2_2 : _) (a_2_3 : _) (A_2_4 : _) (n_2_4 : _) (c_2_4 : _) (xs_2_4 : List Int) (a_3 : _), cs = [.int .i64 a_0, .slice A_1 n_1 c_1, .int .i64 a_2_0, .int .i64 a_2_1, .int .i64 a_2_2, .int .i64 a_2_3, .slice A_2_4 n_2_4 c_2_4, .int .i64 a_3] ∧ (Lit.int .i64 a_0).wf = true ∧ n_1 ≤ c_1 ∧ c_1 ≤ maxLen ∧ c_1 * 1 ≤ reachBytes ∧ Row (Env.of W).heap A_1 n_1 (xs_1.map (Value.int .u8)) ∧ (∀ x ∈ xs_1, (Lit.int .u8 x).wf = true) ∧ (Lit.int .i64 a_2_0).wf = true ∧ (Lit.int .i64 a_2_1).wf = true ∧ (Lit.int .i64 a_2_2).wf = true ∧ (Lit.int .i64 a_2_3).wf = true ∧ n_2_4 ≤ c_2_4 ∧ c_2_4 ≤ maxLen ∧ c_2_4 * 1 ≤ reachBytes ∧ Row (Env.of W).heap A_2_4 n_2_4 (xs_2_4.map (Value.int .u8)) ∧ (∀ x ∈ xs_2_4, (Lit.int .u8 x).wf = true) ∧ (Lit.int .i64 a_3).wf = true := by
  obtain ⟨xs, k, _, rfl, hl, hxl, hf⟩ := DataW.trod_struct Try.underlying60 h
  replace hw := Light.struct Try.underlying60 hw
  rw [cel60] at hl
  match cs, hl with
  | [z0, z1, z2, z3, z4, z5, z6, z7], _ =>
    match xs, hxl with
    | [x0, x1, x2, x3], _ =>
      have h0 : DataW.trod enc Try.prog W 0 (fun _ => true) true k 3 (([z0, z1, z2, z3, z4, z5, z6, z7].drop 0).take (Try.prog.cellsOf 3)) = some x0 := hf 0 _ rfl
      rw [cel3] at h0
      obtain ⟨a_0, e0, q0_0⟩ := op3 _ _ _ h0 hw.cons.1
      simp only [List.drop_zero, List.drop_succ_cons, List.take_succ_cons, List.take_zero, List.cons.injEq, and_true] at e0
      have h1 : DataW.trod enc Try.prog W 0 (fun _ => true) true k 22 (([z0, z1, z2, z3, z4, z5, z6, z7].drop 1).take (Try.prog.cellsOf 22)) = some x1 := hf 1 _ rfl
      rw [cel22] at h1
      obtain ⟨A_1, n_1, c_1, xs_1, e1, q1_0, q1_1, q1_2, q1_3, q1_4⟩ := op22 _ _ _ h1 hw.cons.2.cons.1
      simp only [List.drop_zero, List.drop_succ_cons, List.take_succ_cons, List.take_zero, List.cons.injEq, and_true] at e1
      have h2 : DataW.trod enc Try.prog W 0 (fun _ => true) true k 24 (([z0, z1, z2, z3, z4, z5, z6, z7].drop 2).take (Try.prog.cellsOf 24)) = some x2 := hf 2 _ rfl
      rw [cel24] at h2
      obtain ⟨a_2_0, a_2_1, a_2_2, a_2_3, A_2_4, n_2_4, c_2_4, xs_2_4, e2, q2_0, q2_1, q2_2, q2_3, q2_4, q2_5, q2_6, q2_7, q2_8⟩ := op24 _ _ _ h2 hw.cons.2.cons.2.cons.1
      simp only [List.drop_zero, List.drop_succ_cons, List.take_succ_cons, List.take_zero, List.cons.injEq, and_true] at e2
      have h3 : DataW.trod enc Try.prog W 0 (fun _ => true) true k 3 (([z0, z1, z2, z3, z4, z5, z6, z7].drop 7).take (Try.prog.cellsOf 3)) = some x3 := hf 3 _ rfl
      rw [cel3] at h3
      obtain ⟨a_3, e3, q3_0⟩ := op3 _ _ _ h3 hw.cons.2.cons.2.cons.2.cons.1
      simp only [List.drop_zero, List.drop_succ_cons, List.take_succ_cons, List.take_zero, List.cons.injEq, and_true] at e3
      obtain rfl := e0
      obtain rfl := e1
      obtain ⟨rfl, rfl, rfl, rfl, rfl⟩ := e2
      obtain rfl := e3
      exact ⟨a_0, A_1, n_1, c_1, xs_1, a_2_0, a_2_1, a_2_2, a_2_3, A_2_4, n_2_4, c_2_4, xs_2_4, a_3, rfl, q0_0, q1_0, q1_1, q1_2, q1_3, q1_4, q2_0, q2_1, q2_2, q2_3, q2_4, q2_5, q2_6, q2_7, q2_8, q3_0⟩
theorem arg60 {H : Type} {enc : TypeId × Value → H} {W : World} {v : Value} {d : DataW H} {ps : List MemPlace} {r : Reach} {base : Nat} (hv : Value.okWide Try.prog W r base 60 v) (h : DataW.Trod enc Try.prog W 0 (fun _ => true) true 60 v d ps) (hw : Light Try.prog 60 d) : ∃ (a_0 : _) (A_1 : _) (n_1 : _) (c_1 : _) (xs_1 : List Int) (a_2_0 : _) (a_2_1 : _) (a_2_2 : _) (a_2_3 : _) (A_2_4 : _) (n_2_4 : _) (c_2_4 : _) (xs_2_4 : List Int) (a_3 : _), v = .agg #[.int .i64 a_0, .slice A_1 n_1 c_1, .int .i64 a_2_0, .int .i64 a_2_1, .int .i64 a_2_2, .int .i64 a_2_3, .slice A_2_4 n_2_4 c_2_4, .int .i64 a_3] ∧ (Lit.int .i64 a_0).wf = true ∧ n_1 ≤ c_1 ∧ c_1 ≤ maxLen ∧ c_1 * 1 ≤ reachBytes ∧ Row (Env.of W).heap A_1 n_1 (xs_1.map (Value.int .u8)) ∧ (∀ x ∈ xs_1, (Lit.int .u8 x).wf = true) ∧ (Lit.int .i64 a_2_0).wf = true ∧ (Lit.int .i64 a_2_1).wf = true ∧ (Lit.int .i64 a_2_2).wf = true ∧ (Lit.int .i64 a_2_3).wf = true ∧ n_2_4 ≤ c_2_4 ∧ c_2_4 ≤ maxLen ∧ c_2_4 * 1 ≤ reachBytes ∧ Row (Env.of W).heap A_2_4 n_2_4 (xs_2_4.map (Value.int .u8)) ∧ (∀ x ∈ xs_2_4, (Lit.int .u8 x).wf = true) ∧ (Lit.int .i64 a_3).wf = true := by
  obtain ⟨cs, rfl, _⟩ := okWide_struct Try.underlying60 hv
  obtain ⟨fuel, hf⟩ := h
  obtain ⟨a_0, A_1, n_1, c_1, xs_1, a_2_0, a_2_1, a_2_2, a_2_3, A_2_4, n_2_4, c_2_4, xs_2_4, a_3, e0, q0, q1, q2, q3, q4, q5, q6, q7, q8, q9, q10, q11, q12, q13, q14, q15⟩ := op60 _ _ _ hf hw
  obtain rfl : cs = #[.int .i64 a_0, .slice A_1 n_1 c_1, .int .i64 a_2_0, .int .i64 a_2_1, .int .i64 a_2_2, .int .i64 a_2_3, .slice A_2_4 n_2_4 c_2_4, .int .i64 a_3] := by
    cases cs
    exact congrArg _ e0
  exact ⟨a_0, A_1, n_1, c_1, xs_1, a_2_0, a_2_1, a_2_2, a_2_3, A_2_4, n_2_4, c_2_4, xs_2_4, a_3, rfl, q0, q1, q2, q3, q4, q5, q6, q7, q8, q9, q10, q11, q12, q13, q14, q15⟩
end Go.Bd
