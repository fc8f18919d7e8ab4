/- Arguments of layer 22 opened: calls. Conditions: as each states. -/
import Derived.Test.Ytinddgigjecofaa22r
import Derived.Test.Ytinddgigjecofaa22o
namespace Go.Bd
open Go.Proofs Go.ChangeShapes Go.WideShapes
set_option linter.unusedVariables false
set_option maxRecDepth 20000

section
variable {H : Type} {enc : TypeId × Value → H} {W : World}
theorem cells_Ak : Try.prog.cellsOf 31 = 15 := by kernel_rfl
theorem bytes_Ak : Try.prog.bytesOf 31 = 168 := by kernel_rfl
theorem cells_ak : Try.prog.cellsOf 26 = 1 := by kernel_rfl
theorem cells_ws : Try.prog.cellsOf 28 = 1 := by kernel_rfl
theorem cells_i64 : Try.prog.cellsOf 2 = 1 := by kernel_rfl
theorem cells_u8 : Try.prog.cellsOf 5 = 1 := by kernel_rfl
theorem cells_st : Try.prog.cellsOf 9 = 1 := by kernel_rfl
theorem cells_bo : Try.prog.cellsOf 4 = 1 := by kernel_rfl
theorem cells_bs : Try.prog.cellsOf 27 = 1 := by kernel_rfl
theorem cells_as : Try.prog.cellsOf 29 = 1 := by kernel_rfl
theorem bytes_u8 : Try.prog.bytesOf 5 = 1 := by kernel_rfl

theorem open_byte (n : Nat) (cs : List Value) (y : DataW H × List MemPlace) (h : DataW.trod enc Try.prog W 0 (fun _ => true) true n 5 cs = some y) (hw : Light Try.prog 5 y.1) : ∃ x : Int, cs = [.int .u8 x] ∧ True := by
  obtain ⟨x, rfl, _⟩ := DataW.trod_int Try.underlying5 h
  exact ⟨x, rfl, trivial⟩
theorem open_bytes {fuel : Nat} {cs : List Value} {y : DataW H × List MemPlace} (h : DataW.trod enc Try.prog W 0 (fun _ => true) true fuel 27 cs = some y) (hw : Light Try.prog 27 y.1) :
    ∃ A n c l, cs = [.slice A n c] ∧ n ≤ c ∧ c ≤ reachBytes ∧ BRow (Env.of W).heap A n l := by
  obtain ⟨A, n, c, l, h1, h2, h3, h4, h5, _, _⟩ := open_rows (cells := fun x : Int => [Value.int .u8 x]) (Q := fun _ => True) Try.underlying27 cells_u8 (by decide) (fun _ => rfl) open_byte h hw
  rw [bytes_u8, Nat.mul_one] at h4
  rw [Nat.mul_one, flat_one1] at h5
  exact ⟨A, n, c, l, h1, h2, h4, h5⟩
set_option maxHeartbeats 4000000 in
theorem open_ask : ∀ (n : Nat) (cs : List Value) (y : DataW H × List MemPlace), DataW.trod enc Try.prog W 0 (fun _ => true) true n 31 cs = some y → Light Try.prog 31 y.1 → ∃ a : Ak, cs = a.cells ∧ Tree (Env.of W).heap n a
  | 0, cs, y, h, hw => by
    obtain ⟨xs, k, hk, _⟩ := DataW.trod_struct Try.underlying31 h
    omega
  | k + 1, cs, y, h, hw => by
    obtain ⟨xs, k', hk, rfl, hl, hxl, hf⟩ := DataW.trod_struct Try.underlying31 h
    obtain rfl : k = k' := by omega
    replace hw := Light.struct Try.underlying31 hw
    rw [cells_Ak] at hl
    match cs, hl with
    | [v0, v1, v2, v3, v4, v5, v6, v7, v8, v9, v10, v11, v12, v13, v14], _ =>
      match xs, hxl with
      | [x0, x1, x2, x3, x4, x5, x6, x7, x8, x9, x10, x11, x12, x13, x14], _ =>
        have h0 : DataW.trod enc Try.prog W 0 (fun _ => true) true k 26 (([v0, v1, v2, v3, v4, v5, v6, v7, v8, v9, v10, v11, v12, v13, v14].drop 0).take (Try.prog.cellsOf 26)) = some x0 := hf 0 _ rfl
        rw [cells_ak] at h0
        change DataW.trod enc Try.prog W 0 (fun _ => true) true k 26 [v0] = some x0 at h0
        have h1 : DataW.trod enc Try.prog W 0 (fun _ => true) true k 3 (([v0, v1, v2, v3, v4, v5, v6, v7, v8, v9, v10, v11, v12, v13, v14].drop 1).take (Try.prog.cellsOf 3)) = some x1 := hf 1 _ rfl
        rw [cells_i] at h1
        change DataW.trod enc Try.prog W 0 (fun _ => true) true k 3 [v1] = some x1 at h1
        have h2 : DataW.trod enc Try.prog W 0 (fun _ => true) true k 2 (([v0, v1, v2, v3, v4, v5, v6, v7, v8, v9, v10, v11, v12, v13, v14].drop 2).take (Try.prog.cellsOf 2)) = some x2 := hf 2 _ rfl
        rw [cells_i64] at h2
        change DataW.trod enc Try.prog W 0 (fun _ => true) true k 2 [v2] = some x2 at h2
        have h3 : DataW.trod enc Try.prog W 0 (fun _ => true) true k 3 (([v0, v1, v2, v3, v4, v5, v6, v7, v8, v9, v10, v11, v12, v13, v14].drop 3).take (Try.prog.cellsOf 3)) = some x3 := hf 3 _ rfl
        rw [cells_i] at h3
        change DataW.trod enc Try.prog W 0 (fun _ => true) true k 3 [v3] = some x3 at h3
        have h4 : DataW.trod enc Try.prog W 0 (fun _ => true) true k 9 (([v0, v1, v2, v3, v4, v5, v6, v7, v8, v9, v10, v11, v12, v13, v14].drop 4).take (Try.prog.cellsOf 9)) = some x4 := hf 4 _ rfl
        rw [cells_st] at h4
        change DataW.trod enc Try.prog W 0 (fun _ => true) true k 9 [v4] = some x4 at h4
        have h5 : DataW.trod enc Try.prog W 0 (fun _ => true) true k 27 (([v0, v1, v2, v3, v4, v5, v6, v7, v8, v9, v10, v11, v12, v13, v14].drop 5).take (Try.prog.cellsOf 27)) = some x5 := hf 5 _ rfl
        rw [cells_bs] at h5
        change DataW.trod enc Try.prog W 0 (fun _ => true) true k 27 [v5] = some x5 at h5
        have h6 : DataW.trod enc Try.prog W 0 (fun _ => true) true k 3 (([v0, v1, v2, v3, v4, v5, v6, v7, v8, v9, v10, v11, v12, v13, v14].drop 6).take (Try.prog.cellsOf 3)) = some x6 := hf 6 _ rfl
        rw [cells_i] at h6
        change DataW.trod enc Try.prog W 0 (fun _ => true) true k 3 [v6] = some x6 at h6
        have h7 : DataW.trod enc Try.prog W 0 (fun _ => true) true k 3 (([v0, v1, v2, v3, v4, v5, v6, v7, v8, v9, v10, v11, v12, v13, v14].drop 7).take (Try.prog.cellsOf 3)) = some x7 := hf 7 _ rfl
        rw [cells_i] at h7
        change DataW.trod enc Try.prog W 0 (fun _ => true) true k 3 [v7] = some x7 at h7
        have h8 : DataW.trod enc Try.prog W 0 (fun _ => true) true k 4 (([v0, v1, v2, v3, v4, v5, v6, v7, v8, v9, v10, v11, v12, v13, v14].drop 8).take (Try.prog.cellsOf 4)) = some x8 := hf 8 _ rfl
        rw [cells_bo] at h8
        change DataW.trod enc Try.prog W 0 (fun _ => true) true k 4 [v8] = some x8 at h8
        have h9 : DataW.trod enc Try.prog W 0 (fun _ => true) true k 28 (([v0, v1, v2, v3, v4, v5, v6, v7, v8, v9, v10, v11, v12, v13, v14].drop 9).take (Try.prog.cellsOf 28)) = some x9 := hf 9 _ rfl
        rw [cells_ws] at h9
        change DataW.trod enc Try.prog W 0 (fun _ => true) true k 28 [v9] = some x9 at h9
        have h10 : DataW.trod enc Try.prog W 0 (fun _ => true) true k 22 (([v0, v1, v2, v3, v4, v5, v6, v7, v8, v9, v10, v11, v12, v13, v14].drop 10).take (Try.prog.cellsOf 22)) = some x10 := hf 10 _ rfl
        rw [cells_z] at h10
        change DataW.trod enc Try.prog W 0 (fun _ => true) true k 22 [v10] = some x10 at h10
        have h11 : DataW.trod enc Try.prog W 0 (fun _ => true) true k 3 (([v0, v1, v2, v3, v4, v5, v6, v7, v8, v9, v10, v11, v12, v13, v14].drop 11).take (Try.prog.cellsOf 3)) = some x11 := hf 11 _ rfl
        rw [cells_i] at h11
        change DataW.trod enc Try.prog W 0 (fun _ => true) true k 3 [v11] = some x11 at h11
        have h12 : DataW.trod enc Try.prog W 0 (fun _ => true) true k 22 (([v0, v1, v2, v3, v4, v5, v6, v7, v8, v9, v10, v11, v12, v13, v14].drop 12).take (Try.prog.cellsOf 22)) = some x12 := hf 12 _ rfl
        rw [cells_z] at h12
        change DataW.trod enc Try.prog W 0 (fun _ => true) true k 22 [v12] = some x12 at h12
        have h13 : DataW.trod enc Try.prog W 0 (fun _ => true) true k 23 (([v0, v1, v2, v3, v4, v5, v6, v7, v8, v9, v10, v11, v12, v13, v14].drop 13).take (Try.prog.cellsOf 23)) = some x13 := hf 13 _ rfl
        rw [cells_l] at h13
        change DataW.trod enc Try.prog W 0 (fun _ => true) true k 23 [v13] = some x13 at h13
        have h14 : DataW.trod enc Try.prog W 0 (fun _ => true) true k 29 (([v0, v1, v2, v3, v4, v5, v6, v7, v8, v9, v10, v11, v12, v13, v14].drop 14).take (Try.prog.cellsOf 29)) = some x14 := hf 14 _ rfl
        rw [cells_as] at h14
        change DataW.trod enc Try.prog W 0 (fun _ => true) true k 29 [v14] = some x14 at h14
        obtain ⟨n0, e0, _⟩ := DataW.trod_int (x := x0) Try.underlying26 h0
        obtain ⟨n1, e1, _⟩ := DataW.trod_int (x := x1) Try.underlying3 h1
        obtain ⟨n2, e2, _⟩ := DataW.trod_int (x := x2) Try.underlying2 h2
        obtain ⟨n3, e3, _⟩ := DataW.trod_int (x := x3) Try.underlying3 h3
        obtain ⟨n4, e4, _⟩ := DataW.trod_string (x := x4) Try.underlying9 h4
        obtain ⟨bA, bn, bc, bl, e5, b1, b2, b3⟩ := open_bytes (y := x5) h5 (hw.cons.2.cons.2.cons.2.cons.2.cons.2.cons.1)
        obtain ⟨n6, e6, _⟩ := DataW.trod_int (x := x6) Try.underlying3 h6
        obtain ⟨n7, e7, _⟩ := DataW.trod_int (x := x7) Try.underlying3 h7
        obtain ⟨n8, e8, _⟩ := DataW.trod_bool (x := x8) Try.underlying4 h8
        obtain ⟨n9, e9, _⟩ := DataW.trod_int (x := x9) Try.underlying28 h9
        obtain ⟨n10, e10, _⟩ := DataW.trod_int (x := x10) Try.underlying22 h10
        obtain ⟨n11, e11, _⟩ := DataW.trod_int (x := x11) Try.underlying3 h11
        obtain ⟨n12, e12, _⟩ := DataW.trod_int (x := x12) Try.underlying22 h12
        obtain ⟨mA, mn, mc, ml, e13, m1, m2, m3, m4⟩ := open_members (y := x13) h13 (hw.cons.2.cons.2.cons.2.cons.2.cons.2.cons.2.cons.2.cons.2.cons.2.cons.2.cons.2.cons.2.cons.2.cons.1)
        obtain ⟨pA, pn, pc, ps, e14, p1, p2, p3, p4, p5, _⟩ := open_rows_lt (s := 15) (cells := Ak.cells) (Q := Tree (Env.of W).heap k) (y := x14) Try.underlying29 cells_Ak (by decide) Ak.len (fun m hm cs y h hw => open_ask k cs y (DataW.trod_le (Nat.le_of_lt hm) h) hw) h14 (hw.cons.2.cons.2.cons.2.cons.2.cons.2.cons.2.cons.2.cons.2.cons.2.cons.2.cons.2.cons.2.cons.2.cons.2.cons.1)
        simp only [List.cons.injEq, and_true] at e0 e1 e2 e3 e4 e5 e6 e7 e8 e9 e10 e11 e12 e13 e14
        subst e0 e1 e2 e3 e4 e5 e6 e7 e8 e9 e10 e11 e12 e13 e14
        rw [bytes_Ak] at p3
        unfold reachBytes at b2 m3 p3
        exact ⟨.mk ⟨⟨n0, n1, n2, n3, n4, bn, bl, n6, n7, n8, n9, n10, n11, n12, mn, ml, pn⟩, bA, bc, mA, mc, pA, pc⟩ ps, rfl, ⟨by show bn ≤ _; omega, by show mn * 32 ≤ _; omega, by show pn * 168 ≤ _; omega⟩, b3, m4, p4, p5⟩
theorem open_ask1 {v : Value} {d : DataW H} {qs : List MemPlace} {r : Reach} {base : Nat} (hv : Value.okWide Try.prog W r base 31 v) (h : DataW.Trod enc Try.prog W 0 (fun _ => true) true 31 v d qs) (hw : Light Try.prog 31 d) :
    ∃ (k : Nat) (a : Ak), v = .agg a.h.arr ∧ Tree (Env.of W).heap k a := by
  obtain ⟨cs, rfl, _⟩ := okWide_struct Try.underlying31 hv
  obtain ⟨fuel, hf⟩ := h
  obtain ⟨a, h1, h2⟩ := open_ask fuel _ _ hf hw
  have h3 : cs.toList = a.h.arr.toList := h1
  exact ⟨fuel, a, congrArg Value.agg (Array.toList_inj.1 h3), h2⟩
theorem open_ens1 {v : Value} {d : DataW H} {qs : List MemPlace} {r : Reach} {base : Nat} (hv : Value.okWide Try.prog W r base 25 v) (h : DataW.Trod enc Try.prog W 0 (fun _ => true) true 25 v d qs) (hw : Light Try.prog 25 d) :
    ∃ e : En, v = .agg #[.int .i64 e.ver, .slice e.A e.n e.c] ∧ EnOk (Env.of W).heap e ∧ e.c * 32 ≤ reachBytes := by
  obtain ⟨cs, rfl, _⟩ := okWide_struct Try.underlying25 hv
  obtain ⟨fuel, hf⟩ := h
  obtain ⟨e, h1, h2⟩ := open_ens fuel _ _ hf hw
  have h3 : cs.toList = (#[.int .i64 e.ver, .slice e.A e.n e.c] : Array Value).toList := h1
  exact ⟨e, congrArg Value.agg (Array.toList_inj.1 h3), h2⟩
end
end Go.Bd
