/- The operations one by one, over frames that are functions and blocks that are known whole. Conditions: none; nothing here speaks of one program. -/
import Derived.Test.YtjnplhmhkindpaaMem
namespace Go.Bd
set_option linter.unusedVariables false

section
variable {P : Program} {f : Fr} {dst : Option Tmp} {ty : TypeId} {pos : String} {after : Array Edge} {g : Option (Nat × Bool)}

theorem p_move {x : Operand} : Pure P f ⟨dst, .move x, ty, pos, after, g⟩ (f.ev x) := fun _ => rfl
theorem p_assign {x : Operand} : Pure P f ⟨dst, .assign x, ty, pos, after, g⟩ (f.ev x) := fun _ => rfl
theorem p_moveI {x : Operand} {k : IntKind} {a : Int} (hx : f.ev x = .int k a) : Pure P f ⟨dst, .move x, ty, pos, after, g⟩ (.int k a) := fun w => by simp [execOp, hx]
theorem p_assignI {x : Operand} {k : IntKind} {a : Int} (hx : f.ev x = .int k a) : Pure P f ⟨dst, .assign x, ty, pos, after, g⟩ (.int k a) := fun w => by simp [execOp, hx]
theorem p_moveB {x : Operand} {b : Bool} (hx : f.ev x = .bool b) : Pure P f ⟨dst, .move x, ty, pos, after, g⟩ (.bool b) := fun w => by simp [execOp, hx]
theorem p_assignB {x : Operand} {b : Bool} (hx : f.ev x = .bool b) : Pure P f ⟨dst, .assign x, ty, pos, after, g⟩ (.bool b) := fun w => by simp [execOp, hx]
theorem p_moveZ {x : Operand} {s : ByteArray} (hx : f.ev x = .string s) : Pure P f ⟨dst, .move x, ty, pos, after, g⟩ (.string s) := fun w => by simp [execOp, hx]
theorem p_assignZ {x : Operand} {s : ByteArray} (hx : f.ev x = .string s) : Pure P f ⟨dst, .assign x, ty, pos, after, g⟩ (.string s) := fun w => by simp [execOp, hx]
theorem p_moveP {x : Operand} {p : Option Addr} (hx : f.ev x = .pointer p) : Pure P f ⟨dst, .move x, ty, pos, after, g⟩ (.pointer p) := fun w => by simp [execOp, hx]
theorem p_assignP {x : Operand} {p : Option Addr} (hx : f.ev x = .pointer p) : Pure P f ⟨dst, .assign x, ty, pos, after, g⟩ (.pointer p) := fun w => by simp [execOp, hx]
theorem p_moveL {x : Operand} {A : Option Addr} {n c : Nat} (hx : f.ev x = .slice A n c) : Pure P f ⟨dst, .move x, ty, pos, after, g⟩ (.slice A n c) := fun w => by simp [execOp, hx]
theorem p_assignL {x : Operand} {A : Option Addr} {n c : Nat} (hx : f.ev x = .slice A n c) : Pure P f ⟨dst, .assign x, ty, pos, after, g⟩ (.slice A n c) := fun w => by simp [execOp, hx]
theorem p_moveM {x : Operand} {m : Option Nat} (hx : f.ev x = .map m) : Pure P f ⟨dst, .move x, ty, pos, after, g⟩ (.map m) := fun w => by simp [execOp, hx]
theorem p_assignM {x : Operand} {m : Option Nat} (hx : f.ev x = .map m) : Pure P f ⟨dst, .assign x, ty, pos, after, g⟩ (.map m) := fun w => by simp [execOp, hx]
theorem p_moveG {x : Operand} {cs : Array Value} (hx : f.ev x = .agg cs) : Pure P f ⟨dst, .move x, ty, pos, after, g⟩ (.agg cs) := fun w => by simp [execOp, hx]
theorem p_assignG {x : Operand} {cs : Array Value} (hx : f.ev x = .agg cs) : Pure P f ⟨dst, .assign x, ty, pos, after, g⟩ (.agg cs) := fun w => by simp [execOp, hx]
theorem p_moveF {x : Operand} {fn : Fn} {a b : Array Value} (hx : f.ev x = .func fn a b) : Pure P f ⟨dst, .move x, ty, pos, after, g⟩ (.func fn a b) := fun w => by simp [execOp, hx]
theorem p_assignF {x : Operand} {fn : Fn} {a b : Array Value} (hx : f.ev x = .func fn a b) : Pure P f ⟨dst, .assign x, ty, pos, after, g⟩ (.func fn a b) := fun w => by simp [execOp, hx]
theorem p_moveT {x : Operand} {vs : Array Value} (hx : f.ev x = .tuple vs) : Pure P f ⟨dst, .move x, ty, pos, after, g⟩ (.tuple vs) := fun w => by simp [execOp, hx]
theorem p_assignT {x : Operand} {vs : Array Value} (hx : f.ev x = .tuple vs) : Pure P f ⟨dst, .assign x, ty, pos, after, g⟩ (.tuple vs) := fun w => by simp [execOp, hx]
theorem p_pickT {c a b : Operand} {v : Bool} (hc : f.ev c = .bool true) (ha : f.ev a = .bool v) : Pure P f ⟨dst, .pick c a b, ty, pos, after, g⟩ (.bool v) := fun w => by
  simp [execOp, hc, asBool, ha]
theorem p_pickF {c a b : Operand} {v : Bool} (hc : f.ev c = .bool false) (hb : f.ev b = .bool v) : Pure P f ⟨dst, .pick c a b, ty, pos, after, g⟩ (.bool v) := fun w => by
  simp [execOp, hc, asBool, hb]

/-! #### Numbers -/
theorem p_bin {op : BinOp} {tx t' : TypeId} {x y : Operand} {k : IntKind} {a b : Int} {v : Value} (hx : f.ev x = .int k a) (hy : f.ev y = .int k b)
    (hr : ∀ w, (binOp op tx (.int k a) (.int k b)).run P w = .ok v w) : Pure P f ⟨dst, .binOp op tx x y t', ty, pos, after, g⟩ v := fun w => by
  have he : (eqGuard op tx x y (.int k a) (.int k b)).run P w = .ok () w := by
    cases op <;> simp [eqGuard]
  simp [execOp, hx, hy, he, hr]

theorem p_add {tx t' : TypeId} {x y : Operand} {k : IntKind} {a b : Int} (hx : f.ev x = .int k a) (hy : f.ev y = .int k b) :
    Pure P f ⟨dst, .binOp .add tx x y t', ty, pos, after, g⟩ (.int k (k.wrap (a + b))) := p_bin hx hy fun w => by simp [binOp, Op.intArith]
theorem p_sub {tx t' : TypeId} {x y : Operand} {k : IntKind} {a b : Int} (hx : f.ev x = .int k a) (hy : f.ev y = .int k b) :
    Pure P f ⟨dst, .binOp .sub tx x y t', ty, pos, after, g⟩ (.int k (k.wrap (a - b))) := p_bin hx hy fun w => by simp [binOp, Op.intArith]
theorem p_mul {tx t' : TypeId} {x y : Operand} {k : IntKind} {a b : Int} (hx : f.ev x = .int k a) (hy : f.ev y = .int k b) :
    Pure P f ⟨dst, .binOp .mul tx x y t', ty, pos, after, g⟩ (.int k (k.wrap (a * b))) := p_bin hx hy fun w => by simp [binOp, Op.intArith]
theorem p_add64 {tx t' : TypeId} {x y : Operand} {a b : Int} (hx : f.ev x = .int .i64 a) (hy : f.ev y = .int .i64 b) (hb : -9223372036854775808 ≤ a + b ∧ a + b ≤ 9223372036854775807) :
    Pure P f ⟨dst, .binOp .add tx x y t', ty, pos, after, g⟩ (.int .i64 (a + b)) := by
  have := p_add (P := P) (dst := dst) (tx := tx) (t' := t') (ty := ty) (pos := pos) (after := after) (g := g) hx hy
  rwa [IntWalk.i64_in _ hb] at this
theorem p_sub64 {tx t' : TypeId} {x y : Operand} {a b : Int} (hx : f.ev x = .int .i64 a) (hy : f.ev y = .int .i64 b) (hb : -9223372036854775808 ≤ a - b ∧ a - b ≤ 9223372036854775807) :
    Pure P f ⟨dst, .binOp .sub tx x y t', ty, pos, after, g⟩ (.int .i64 (a - b)) := by
  have := p_sub (P := P) (dst := dst) (tx := tx) (t' := t') (ty := ty) (pos := pos) (after := after) (g := g) hx hy
  rwa [IntWalk.i64_in _ hb] at this
theorem p_mul64 {tx t' : TypeId} {x y : Operand} {a b : Int} (hx : f.ev x = .int .i64 a) (hy : f.ev y = .int .i64 b) (hb : -9223372036854775808 ≤ a * b ∧ a * b ≤ 9223372036854775807) :
    Pure P f ⟨dst, .binOp .mul tx x y t', ty, pos, after, g⟩ (.int .i64 (a * b)) := by
  have := p_mul (P := P) (dst := dst) (tx := tx) (t' := t') (ty := ty) (pos := pos) (after := after) (g := g) hx hy
  rwa [IntWalk.i64_in _ hb] at this
theorem p_add64E {tx t' : TypeId} {x y : Operand} {a b r : Int} (hx : f.ev x = .int .i64 a) (hy : f.ev y = .int .i64 b) (he : a + b = r) (hb : -9223372036854775808 ≤ r ∧ r ≤ 9223372036854775807) :
    Pure P f ⟨dst, .binOp .add tx x y t', ty, pos, after, g⟩ (.int .i64 r) := by
  subst he
  exact p_add64 hx hy hb
theorem p_sub64E {tx t' : TypeId} {x y : Operand} {a b r : Int} (hx : f.ev x = .int .i64 a) (hy : f.ev y = .int .i64 b) (he : a - b = r) (hb : -9223372036854775808 ≤ r ∧ r ≤ 9223372036854775807) :
    Pure P f ⟨dst, .binOp .sub tx x y t', ty, pos, after, g⟩ (.int .i64 r) := by
  subst he
  exact p_sub64 hx hy hb
theorem p_mul64E {tx t' : TypeId} {x y : Operand} {a b r : Int} (hx : f.ev x = .int .i64 a) (hy : f.ev y = .int .i64 b) (he : a * b = r) (hb : -9223372036854775808 ≤ r ∧ r ≤ 9223372036854775807) :
    Pure P f ⟨dst, .binOp .mul tx x y t', ty, pos, after, g⟩ (.int .i64 r) := by
  subst he
  exact p_mul64 hx hy hb
theorem p_quo {tx t' : TypeId} {x y : Operand} {k : IntKind} {a b : Int} (hx : f.ev x = .int k a) (hy : f.ev y = .int k b) (h0 : b ≠ 0) :
    Pure P f ⟨dst, .binOp .quo tx x y t', ty, pos, after, g⟩ (.int k (k.wrap (a.tdiv b))) := p_bin hx hy fun w => by simp [binOp, Op.intDiv, h0]
theorem p_rem {tx t' : TypeId} {x y : Operand} {k : IntKind} {a b : Int} (hx : f.ev x = .int k a) (hy : f.ev y = .int k b) (h0 : b ≠ 0) :
    Pure P f ⟨dst, .binOp .rem tx x y t', ty, pos, after, g⟩ (.int k (a.tmod b)) := p_bin hx hy fun w => by simp [binOp, Op.intDiv, h0]
theorem p_quo64 {tx t' : TypeId} {x y : Operand} {a b : Int} (hx : f.ev x = .int .i64 a) (hy : f.ev y = .int .i64 b) (h : 0 ≤ a ∧ a ≤ 9223372036854775807 ∧ 1 ≤ b) :
    Pure P f ⟨dst, .binOp .quo tx x y t', ty, pos, after, g⟩ (.int .i64 (a / b)) := by
  have := p_quo (P := P) (dst := dst) (tx := tx) (t' := t') (ty := ty) (pos := pos) (after := after) (g := g) hx hy (by omega)
  rwa [IntWalk.i64_quo _ _ h] at this
theorem p_rem64 {tx t' : TypeId} {x y : Operand} {a b : Int} (hx : f.ev x = .int .i64 a) (hy : f.ev y = .int .i64 b) (h0 : 0 ≤ a) (h : b ≠ 0) :
    Pure P f ⟨dst, .binOp .rem tx x y t', ty, pos, after, g⟩ (.int .i64 (a % b)) := by
  have := p_rem (P := P) (dst := dst) (tx := tx) (t' := t') (ty := ty) (pos := pos) (after := after) (g := g) hx hy h
  rwa [IntWalk.rem_in _ _ h0] at this
theorem p_lt {tx t' : TypeId} {x y : Operand} {k : IntKind} {a b : Int} (hx : f.ev x = .int k a) (hy : f.ev y = .int k b) :
    Pure P f ⟨dst, .binOp .lss tx x y t', ty, pos, after, g⟩ (.bool (decide (a < b))) := p_bin hx hy fun w => by simp [binOp, Op.intCmp]
theorem p_le {tx t' : TypeId} {x y : Operand} {k : IntKind} {a b : Int} (hx : f.ev x = .int k a) (hy : f.ev y = .int k b) :
    Pure P f ⟨dst, .binOp .leq tx x y t', ty, pos, after, g⟩ (.bool (decide (a ≤ b))) := p_bin hx hy fun w => by simp [binOp, Op.intCmp]
theorem p_gt {tx t' : TypeId} {x y : Operand} {k : IntKind} {a b : Int} (hx : f.ev x = .int k a) (hy : f.ev y = .int k b) :
    Pure P f ⟨dst, .binOp .gtr tx x y t', ty, pos, after, g⟩ (.bool (decide (b < a))) := p_bin hx hy fun w => by simp [binOp, Op.intCmp]
theorem p_ge {tx t' : TypeId} {x y : Operand} {k : IntKind} {a b : Int} (hx : f.ev x = .int k a) (hy : f.ev y = .int k b) :
    Pure P f ⟨dst, .binOp .geq tx x y t', ty, pos, after, g⟩ (.bool (decide (b ≤ a))) := p_bin hx hy fun w => by simp [binOp, Op.intCmp]
theorem p_eq {tx t' : TypeId} {x y : Operand} {k : IntKind} {a b : Int} (hx : f.ev x = .int k a) (hy : f.ev y = .int k b) :
    Pure P f ⟨dst, .binOp .eql tx x y t', ty, pos, after, g⟩ (.bool (decide (a = b))) := p_bin hx hy fun w => by
  have : (a == b) = decide (a = b) := rfl
  simp [binOp, Op.intCmp, this]
theorem p_ne {tx t' : TypeId} {x y : Operand} {k : IntKind} {a b : Int} (hx : f.ev x = .int k a) (hy : f.ev y = .int k b) :
    Pure P f ⟨dst, .binOp .neq tx x y t', ty, pos, after, g⟩ (.bool (decide (a ≠ b))) := p_bin hx hy fun w => by
  have : (a != b) = decide (a ≠ b) := by
    rw [bne, show (a == b) = decide (a = b) from rfl]; simp
  simp [binOp, Op.intCmp, this]
theorem p_not {tx : TypeId} {x : Operand} {b : Bool} (hx : f.ev x = .bool b) : Pure P f ⟨dst, .unOp .not tx x, ty, pos, after, g⟩ (.bool !b) := fun w => by
  simp [execOp, hx, Op.unary]
theorem p_notD {tx : TypeId} {x : Operand} {p : Prop} [Decidable p] (hx : f.ev x = .bool (decide p)) : Pure P f ⟨dst, .unOp .not tx x, ty, pos, after, g⟩ (.bool (decide (¬ p))) := fun w => by
  simp [execOp, hx, Op.unary]
theorem p_neg {tx : TypeId} {x : Operand} {k : IntKind} {a : Int} (hx : f.ev x = .int k a) : Pure P f ⟨dst, .unOp .neg tx x, ty, pos, after, g⟩ (.int k (k.wrap (0 - a))) := fun w => by
  simp [execOp, hx, Op.unary, Op.intArith]
theorem p_conv {ts td : TypeId} {x : Operand} {k k' : IntKind} {a : Int} {d : TypeDesc} (hs : P.underlying ts = some d) (hd : P.underlying td = some (.int k')) (hx : f.ev x = .int k a) :
    Pure P f ⟨dst, .convert ts td x, ty, pos, after, g⟩ (.int k' (k'.wrap a)) := fun w => by
  simp [execOp, hx, convert, run_underlying hs, run_underlying hd, Conv.intToInt]
theorem p_conv64 {ts td : TypeId} {x : Operand} {k : IntKind} {a : Int} {d : TypeDesc} (hs : P.underlying ts = some d) (hd : P.underlying td = some (.int .i64)) (hx : f.ev x = .int k a)
    (hb : -9223372036854775808 ≤ a ∧ a ≤ 9223372036854775807) : Pure P f ⟨dst, .convert ts td x, ty, pos, after, g⟩ (.int .i64 a) := by
  have := p_conv (P := P) (dst := dst) (ty := ty) (pos := pos) (after := after) (g := g) hs hd hx
  rwa [IntWalk.i64_in _ hb] at this

/-! #### Slices -/
theorem p_len {t e : TypeId} {x : Operand} {A : Option Addr} {n c : Nat} (ht : P.underlying t = some (.slice e)) (hx : f.ev x = .slice A n c) :
    Pure P f ⟨dst, .call { callee := .builtin .len, args := #[x], argTypes := #[t] }, ty, pos, after, g⟩ (.int .i64 n) := fun w => by
  rw [BigFrame.execOp_builtin]
  simp [BigFrame.builtin_len, Builtin.len_, hx, run_underlying ht, goInt]

theorem add_lit' (b off k : Nat) : (⟨b, off, none⟩ : Addr).add k = ⟨b, off + k, none⟩ := by
  unfold Addr.add
  split
  · rename_i h; subst h; rfl
  · rfl

theorem p_idx {t e : TypeId} {x i : Operand} {b off n c s : Nat} {k : IntKind} {j : Int} (ht : P.underlying t = some (.slice e)) (hs : ∀ w, (sizeOf e).run P w = .ok s w)
    (hx : f.ev x = .slice (some ⟨b, off, none⟩) n c) (hi : f.ev i = .int k j) (h0 : 0 ≤ j ∧ j < n) :
    Pure P f ⟨dst, .indexAddr t x i, ty, pos, after, g⟩ (.pointer (some ⟨b, off + j.toNat * s, none⟩)) := fun w => by
  simp [execOp, hx, hi, Instr.indexAt, asIntOf, run_underlying ht, h0, hs, add_lit']
/-- The index a natural number's term, the elements of one cell. -/
theorem p_idx1 {t e : TypeId} {x i : Operand} {b off n c : Nat} {k : IntKind} {j : Nat} (ht : P.underlying t = some (.slice e)) (hs : ∀ w, (sizeOf e).run P w = .ok 1 w)
    (hx : f.ev x = .slice (some ⟨b, off, none⟩) n c) (hi : f.ev i = .int k (j : Int)) (h0 : j < n) :
    Pure P f ⟨dst, .indexAddr t x i, ty, pos, after, g⟩ (.pointer (some ⟨b, off + j, none⟩)) := by
  have := p_idx (P := P) (dst := dst) (ty := ty) (pos := pos) (after := after) (g := g) ht hs hx hi ⟨by omega, by omega⟩
  simpa using this
theorem p_idxN {t e : TypeId} {x i : Operand} {b off n c s : Nat} {k : IntKind} {j : Nat} (ht : P.underlying t = some (.slice e)) (hs : ∀ w, (sizeOf e).run P w = .ok s w)
    (hx : f.ev x = .slice (some ⟨b, off, none⟩) n c) (hi : f.ev i = .int k (j : Int)) (h0 : j < n) :
    Pure P f ⟨dst, .indexAddr t x i, ty, pos, after, g⟩ (.pointer (some ⟨b, off + j * s, none⟩)) := by
  have := p_idx (P := P) (dst := dst) (ty := ty) (pos := pos) (after := after) (g := g) ht hs hx hi ⟨by omega, by omega⟩
  simpa using this
end

/-! #### Memory -/
section
variable {P : Program} {f : Fr} {dst : Option Tmp} {ty : TypeId} {pos : String} {after : Array Edge} {g : Option (Nat × Bool)} {w : World}

theorem r_load {t : TypeId} {x : Operand} {b off : Nat} {cs : Array Value} {T : TypeId} {fr : Nat × Nat} {v : Value} (ha : ∀ w, (isAgg t).run P w = .ok false w)
    (hx : f.ev x = .pointer (some ⟨b, off, none⟩)) (hb : w.heap[b]? = some (.cells cs T fr)) (hv : cs[off]? = some v) :
    (execOp f.ev ⟨dst, .load t x, ty, pos, after, g⟩).run P w = .ok (.value v) w := by
  have hc : w.cell? ⟨b, off, none⟩ = some v := by rw [cell_of_row w b off cs T fr hb, hv]
  simp [execOp, hx, Instr.loadAt, Instr.sureAddr, loadVar, ha, hc]
end

/-! #### Calls of Go functions -/
section
variable {P : Program} {f : Fr} {dst : Option Tmp} {ty : TypeId} {pos : String} {after : Array Edge} {gd : Option (Nat × Bool)} {w : World} {g : FuncId} {ats : Array TypeId}
theorem r_callN {xs : Array Operand} {vs : Array Value} (hc : ∀ args w, (callFunc g args).run P w = .ok (.enter g args) w) (hx : xs.map f.ev = vs) :
    (execOp f.ev ⟨dst, .call { callee := .value (.func g), args := xs, argTypes := ats }, ty, pos, after, gd⟩).run P w = .ok (.enter g vs) w := by
  have h := hc (xs.map f.ev) w
  rw [hx] at h
  simp [execOp, resolve, Fr.ev, Deferred.ofValue, invoke, hx, h]
theorem r_call0 (hc : ∀ args w, (callFunc g args).run P w = .ok (.enter g args) w)  :
    (execOp f.ev ⟨dst, .call { callee := .value (.func g), args := #[], argTypes := ats }, ty, pos, after, gd⟩).run P w = .ok (.enter g #[]) w :=
  r_callN hc (by simp)
theorem r_call1 {x0 : Operand} {v0 : Value} (hc : ∀ args w, (callFunc g args).run P w = .ok (.enter g args) w) (h0 : f.ev x0 = v0) :
    (execOp f.ev ⟨dst, .call { callee := .value (.func g), args := #[x0], argTypes := ats }, ty, pos, after, gd⟩).run P w = .ok (.enter g #[v0]) w :=
  r_callN hc (by simp [h0])
theorem r_call2 {x0 x1 : Operand} {v0 v1 : Value} (hc : ∀ args w, (callFunc g args).run P w = .ok (.enter g args) w) (h0 : f.ev x0 = v0) (h1 : f.ev x1 = v1) :
    (execOp f.ev ⟨dst, .call { callee := .value (.func g), args := #[x0, x1], argTypes := ats }, ty, pos, after, gd⟩).run P w = .ok (.enter g #[v0, v1]) w :=
  r_callN hc (by simp [h0, h1])
theorem r_call3 {x0 x1 x2 : Operand} {v0 v1 v2 : Value} (hc : ∀ args w, (callFunc g args).run P w = .ok (.enter g args) w) (h0 : f.ev x0 = v0) (h1 : f.ev x1 = v1) (h2 : f.ev x2 = v2) :
    (execOp f.ev ⟨dst, .call { callee := .value (.func g), args := #[x0, x1, x2], argTypes := ats }, ty, pos, after, gd⟩).run P w = .ok (.enter g #[v0, v1, v2]) w :=
  r_callN hc (by simp [h0, h1, h2])
theorem r_call4 {x0 x1 x2 x3 : Operand} {v0 v1 v2 v3 : Value} (hc : ∀ args w, (callFunc g args).run P w = .ok (.enter g args) w) (h0 : f.ev x0 = v0) (h1 : f.ev x1 = v1) (h2 : f.ev x2 = v2) (h3 : f.ev x3 = v3) :
    (execOp f.ev ⟨dst, .call { callee := .value (.func g), args := #[x0, x1, x2, x3], argTypes := ats }, ty, pos, after, gd⟩).run P w = .ok (.enter g #[v0, v1, v2, v3]) w :=
  r_callN hc (by simp [h0, h1, h2, h3])
theorem r_call5 {x0 x1 x2 x3 x4 : Operand} {v0 v1 v2 v3 v4 : Value} (hc : ∀ args w, (callFunc g args).run P w = .ok (.enter g args) w) (h0 : f.ev x0 = v0) (h1 : f.ev x1 = v1) (h2 : f.ev x2 = v2) (h3 : f.ev x3 = v3) (h4 : f.ev x4 = v4) :
    (execOp f.ev ⟨dst, .call { callee := .value (.func g), args := #[x0, x1, x2, x3, x4], argTypes := ats }, ty, pos, after, gd⟩).run P w = .ok (.enter g #[v0, v1, v2, v3, v4]) w :=
  r_callN hc (by simp [h0, h1, h2, h3, h4])
theorem r_call6 {x0 x1 x2 x3 x4 x5 : Operand} {v0 v1 v2 v3 v4 v5 : Value} (hc : ∀ args w, (callFunc g args).run P w = .ok (.enter g args) w) (h0 : f.ev x0 = v0) (h1 : f.ev x1 = v1) (h2 : f.ev x2 = v2) (h3 : f.ev x3 = v3) (h4 : f.ev x4 = v4) (h5 : f.ev x5 = v5) :
    (execOp f.ev ⟨dst, .call { callee := .value (.func g), args := #[x0, x1, x2, x3, x4, x5], argTypes := ats }, ty, pos, after, gd⟩).run P w = .ok (.enter g #[v0, v1, v2, v3, v4, v5]) w :=
  r_callN hc (by simp [h0, h1, h2, h3, h4, h5])
theorem r_call7 {x0 x1 x2 x3 x4 x5 x6 : Operand} {v0 v1 v2 v3 v4 v5 v6 : Value} (hc : ∀ args w, (callFunc g args).run P w = .ok (.enter g args) w) (h0 : f.ev x0 = v0) (h1 : f.ev x1 = v1) (h2 : f.ev x2 = v2) (h3 : f.ev x3 = v3) (h4 : f.ev x4 = v4) (h5 : f.ev x5 = v5) (h6 : f.ev x6 = v6) :
    (execOp f.ev ⟨dst, .call { callee := .value (.func g), args := #[x0, x1, x2, x3, x4, x5, x6], argTypes := ats }, ty, pos, after, gd⟩).run P w = .ok (.enter g #[v0, v1, v2, v3, v4, v5, v6]) w :=
  r_callN hc (by simp [h0, h1, h2, h3, h4, h5, h6])
theorem r_call8 {x0 x1 x2 x3 x4 x5 x6 x7 : Operand} {v0 v1 v2 v3 v4 v5 v6 v7 : Value} (hc : ∀ args w, (callFunc g args).run P w = .ok (.enter g args) w) (h0 : f.ev x0 = v0) (h1 : f.ev x1 = v1) (h2 : f.ev x2 = v2) (h3 : f.ev x3 = v3) (h4 : f.ev x4 = v4) (h5 : f.ev x5 = v5) (h6 : f.ev x6 = v6) (h7 : f.ev x7 = v7) :
    (execOp f.ev ⟨dst, .call { callee := .value (.func g), args := #[x0, x1, x2, x3, x4, x5, x6, x7], argTypes := ats }, ty, pos, after, gd⟩).run P w = .ok (.enter g #[v0, v1, v2, v3, v4, v5, v6, v7]) w :=
  r_callN hc (by simp [h0, h1, h2, h3, h4, h5, h6, h7])
theorem r_call9 {x0 x1 x2 x3 x4 x5 x6 x7 x8 : Operand} {v0 v1 v2 v3 v4 v5 v6 v7 v8 : Value} (hc : ∀ args w, (callFunc g args).run P w = .ok (.enter g args) w) (h0 : f.ev x0 = v0) (h1 : f.ev x1 = v1) (h2 : f.ev x2 = v2) (h3 : f.ev x3 = v3) (h4 : f.ev x4 = v4) (h5 : f.ev x5 = v5) (h6 : f.ev x6 = v6) (h7 : f.ev x7 = v7) (h8 : f.ev x8 = v8) :
    (execOp f.ev ⟨dst, .call { callee := .value (.func g), args := #[x0, x1, x2, x3, x4, x5, x6, x7, x8], argTypes := ats }, ty, pos, after, gd⟩).run P w = .ok (.enter g #[v0, v1, v2, v3, v4, v5, v6, v7, v8]) w :=
  r_callN hc (by simp [h0, h1, h2, h3, h4, h5, h6, h7, h8])
end

end Go.Bd
