/- Arguments of layer 23 opened: members, configs, rows of configs. Conditions: as each states. -/
import Derived.Test.Ytjnplhmhkindpaa23b
import Derived.Test.YtjnplhmhkindpaaOpen
namespace Go.Bd
open Go.Proofs Go.ChangeShapes Go.WideShapes
set_option linter.unusedVariables false
set_option maxRecDepth 20000

section
variable {H : Type} {enc : TypeId × Value → H} {W : World}
theorem cells_Mb : Try.prog.cellsOf 64 = 4 := by kernel_rfl
theorem cells_En : Try.prog.cellsOf 54 = 2 := by kernel_rfl
theorem bytes_Mb : Try.prog.bytesOf 64 = 32 := by kernel_rfl
theorem bytes_En : Try.prog.bytesOf 54 = 32 := by kernel_rfl
theorem cells_i : Try.prog.cellsOf 3 = 1 := by kernel_rfl
theorem cells_z : Try.prog.cellsOf 22 = 1 := by kernel_rfl
theorem cells_r : Try.prog.cellsOf 62 = 1 := by kernel_rfl
theorem cells_l : Try.prog.cellsOf 40 = 1 := by kernel_rfl

theorem open_member (n : Nat) (cs : List Value) (y : DataW H × List MemPlace) (h : DataW.trod enc Try.prog W 0 (fun _ => true) true n 64 cs = some y) (hw : Light Try.prog 64 y.1) : ∃ m : Mb, cs = m.cells ∧ True := by
  obtain ⟨xs, k, _, rfl, hl, hxl, hf⟩ := DataW.trod_struct Try.underlying64 h
  rw [cells_Mb] at hl
  match cs, hl with
  | [a, b, c, d], _ =>
    match xs, hxl with
    | [x0, x1, x2, x3], _ =>
      have h0 : DataW.trod enc Try.prog W 0 (fun _ => true) true k 3 (([a, b, c, d].drop 0).take (Try.prog.cellsOf 3)) = some x0 := hf 0 _ rfl
      have h1 : DataW.trod enc Try.prog W 0 (fun _ => true) true k 62 (([a, b, c, d].drop 1).take (Try.prog.cellsOf 62)) = some x1 := hf 1 _ rfl
      have h2 : DataW.trod enc Try.prog W 0 (fun _ => true) true k 3 (([a, b, c, d].drop 2).take (Try.prog.cellsOf 3)) = some x2 := hf 2 _ rfl
      have h3 : DataW.trod enc Try.prog W 0 (fun _ => true) true k 3 (([a, b, c, d].drop 3).take (Try.prog.cellsOf 3)) = some x3 := hf 3 _ rfl
      obtain ⟨n0, e0, _⟩ := DataW.trod_int (x := x0) Try.underlying3 h0
      obtain ⟨n1, e1, _⟩ := DataW.trod_int (x := x1) Try.underlying62 h1
      obtain ⟨n2, e2, _⟩ := DataW.trod_int (x := x2) Try.underlying3 h2
      obtain ⟨n3, e3, _⟩ := DataW.trod_int (x := x3) Try.underlying3 h3
      simp only [cells_i, cells_r, List.drop_zero, List.drop_succ_cons, List.take_succ_cons, List.take_zero, List.cons.injEq, and_true] at e0 e1 e2 e3
      subst e0 e1 e2 e3
      exact ⟨⟨n0, n1, n2, n3⟩, rfl, trivial⟩

theorem open_members {fuel : Nat} {cs : List Value} {y : DataW H × List MemPlace} (h : DataW.trod enc Try.prog W 0 (fun _ => true) true fuel 40 cs = some y) (hw : Light Try.prog 40 y.1) :
    ∃ A n c ms, cs = [.slice A n c] ∧ n ≤ c ∧ c ≤ maxLen ∧ c * 32 ≤ reachBytes ∧ MRow (Env.of W).heap A n ms := by
  obtain ⟨A, n, c, ms, h1, h2, h3, h4, h5, _, _⟩ := open_rows (cells := Mb.cells) (Q := fun _ => True) Try.underlying40 cells_Mb (by decide) Mb.len open_member h hw
  rw [bytes_Mb] at h4
  exact ⟨A, n, c, ms, h1, h2, h3, h4, h5⟩

theorem open_ens (n : Nat) (cs : List Value) (y : DataW H × List MemPlace) (h : DataW.trod enc Try.prog W 0 (fun _ => true) true n 54 cs = some y) (hw : Light Try.prog 54 y.1) :
    ∃ e : En, cs = e.cells ∧ EnOk (Env.of W).heap e ∧ e.c * 32 ≤ reachBytes := by
  obtain ⟨xs, k, _, rfl, hl, hxl, hf⟩ := DataW.trod_struct Try.underlying54 h
  replace hw := Light.struct Try.underlying54 hw
  rw [cells_En] at hl
  match cs, hl with
  | [a, b], _ =>
    match xs, hxl with
    | [x0, x1], _ =>
      have h0 : DataW.trod enc Try.prog W 0 (fun _ => true) true k 22 (([a, b].drop 0).take (Try.prog.cellsOf 22)) = some x0 := hf 0 _ rfl
      have h1 : DataW.trod enc Try.prog W 0 (fun _ => true) true k 40 (([a, b].drop 1).take (Try.prog.cellsOf 40)) = some x1 := hf 1 _ rfl
      obtain ⟨n0, e0, _⟩ := DataW.trod_int (x := x0) Try.underlying22 h0
      obtain ⟨A, n, c, ms, e1, h2, h3, h4, h5⟩ := open_members (y := x1) h1 hw.cons.2.cons.1
      simp only [cells_z, cells_l, List.drop_zero, List.drop_succ_cons, List.take_succ_cons, List.take_zero, List.cons.injEq, and_true] at e0 e1
      subst e0 e1
      exact ⟨⟨n0, A, n, c, ms⟩, rfl, ⟨h5, h2, h3⟩, h4⟩

theorem open_enss {v : Value} {d : DataW H} {ps : List MemPlace} {r : Reach} {base : Nat} (hv : Value.okWide Try.prog W r base 23 v) (h : DataW.Trod enc Try.prog W 0 (fun _ => true) true 23 v d ps) (hw : Light Try.prog 23 d) :
    ∃ A n c es, v = .slice A n c ∧ n ≤ c ∧ c ≤ maxLen ∧ c * 32 ≤ reachBytes ∧ ERow (Env.of W).heap A n es ∧ ∀ e ∈ es, e.c * 32 ≤ reachBytes := by
  obtain ⟨a0, len0, cap0, rfl⟩ := okWide_slice Try.underlying23 hv
  obtain ⟨fuel, hf⟩ := h
  obtain ⟨A, n, c, es, h1, h2, h3, h4, h5, h6, _⟩ := open_rows (cells := En.cells) (Q := fun e => EnOk (Env.of W).heap e ∧ e.c * 32 ≤ reachBytes) Try.underlying23 cells_En (by decide) En.len open_ens hf hw
  rw [bytes_En] at h4
  simp [Value.cells] at h1
  obtain ⟨rfl, rfl, rfl⟩ := h1
  exact ⟨a0, len0, cap0, es, rfl, h2, h3, h4, ⟨h5, fun e he => (h6 e he).1⟩, fun e he => (h6 e he).2⟩
end
end Go.Bd
