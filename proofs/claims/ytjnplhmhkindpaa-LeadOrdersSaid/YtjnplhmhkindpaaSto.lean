/- Stores into blocks of one's own, loads of aggregates, fields, elements of arrays, shifts, and what is owned turned into what is fixed. Conditions: none; nothing here speaks of one program. -/
import Derived.Test.YtjnplhmhkindpaaNew
namespace Go.Bd
set_option linter.unusedVariables false

/-! ### Cells put over others, from a place on -/
def lay (cs : Array Value) : Nat → List Value → Array Value
  | _, [] => cs
  | i, v :: r => lay (cs.setIfInBounds i v) (i + 1) r
theorem lay_size : ∀ (vs : List Value) (cs : Array Value) (i : Nat), (lay cs i vs).size = cs.size
  | [], _, _ => rfl
  | v :: r, cs, i => by unfold lay; rw [lay_size r]; simp
theorem lay_at : ∀ (vs : List Value) (cs : Array Value) (i k : Nat), i + vs.length ≤ cs.size → (lay cs i vs)[k]? = if i ≤ k ∧ k < i + vs.length then vs[k - i]? else cs[k]?
  | [], cs, i, k, _ => by
    rw [if_neg (by simp only [List.length_nil]; omega)]
    rfl
  | v :: r, cs, i, k, h => by
    simp only [List.length_cons] at h ⊢
    unfold lay
    rw [lay_at r _ (i + 1) k (by simp; omega), Array.getElem?_setIfInBounds]
    by_cases h1 : k = i
    · subst h1
      rw [if_neg (by omega), if_pos rfl, if_pos (by omega), if_pos (by omega), Nat.sub_self]
      rfl
    · by_cases h2 : i + 1 ≤ k ∧ k < i + 1 + r.length
      · rw [if_pos h2, if_pos (by omega), show k - i = (k - (i + 1)) + 1 by omega]
        rfl
      · rw [if_neg h2, if_neg (fun e => h1 e.symm), if_neg (by omega)]

section
variable {P : Program}
theorem run_storeCells_at {b : Nat} {T : TypeId} {off : Nat} : ∀ (vs : List Value) (k : Nat) (cs : Array Value) (w : World), w.heap[b]? = some (.cells cs T (0, 0)) → off + k + vs.length ≤ cs.size → (∀ v ∈ vs, v.oneCell' = true) →
    ∃ w', (storeCells ⟨b, off, none⟩ vs k).run P w = .ok () w' ∧ Upd w w' b (.cells (lay cs (off + k) vs) T (0, 0))
  | [], k, cs, w, hb, _, _ => ⟨w, rfl, rfl, rfl, rfl, hb, fun _ _ => rfl⟩
  | v :: rest, k, cs, w, hb, hl, h1 => by
    simp only [List.length_cons] at hl
    have hi : off + k < cs.size := by omega
    have hcell : w.cell? ⟨b, off + k, none⟩ = some cs[off + k] := by simp [World.cell?, hb, hi]
    have hfro : w.frozen? ⟨b, off + k, none⟩ = false := by simp [World.frozen?, hb]
    have hst : (store ((⟨b, off, none⟩ : Addr).add k) v).run P w = .ok () (w.setRow b (cs.setIfInBounds (off + k) v)) := by
      rw [add_lit', run_store P w _ v _ (h1 v (by simp)), hcell]
      simp [hfro, setCell_eq_setRow w b (off + k) cs T (0, 0) v hb]
    have hu : Upd w (w.setRow b (cs.setIfInBounds (off + k) v)) b (.cells (cs.setIfInBounds (off + k) v) T (0, 0)) := Upd.setRow hb
    obtain ⟨w', hr, hu'⟩ := run_storeCells_at (off := off) rest (k + 1) _ _ hu.at_ (by simp; omega) (fun x hx => h1 x (by simp [hx]))
    refine ⟨w', ?_, hu'.os.trans hu.os, hu'.tape.trans hu.tape, hu'.output.trans hu.output, ?_, fun j hj => (hu'.else_ j hj).trans (hu.else_ j hj)⟩
    · simp only [storeCells, Sem.run_bind, hst, Result.andThen_ok]
      exact hr
    · have := hu'.at_
      rw [show off + (k + 1) = off + k + 1 by omega] at this
      exact this

theorem run_storeAt {t : TypeId} {s b off : Nat} {cs : Array Value} {T : TypeId} {v : Value} {w : World} (hs : ∀ w, (sizeOf t).run P w = .ok s w) (hb : w.heap[b]? = some (.cells cs T (0, 0)))
    (hl : v.cells.toList.length = s) (hin : off + s ≤ cs.size) (h1 : v.cells.toList.all (·.oneCell') = true) :
    ∃ w', (Instr.storeAt t (.pointer (some ⟨b, off, none⟩)) v).run P w = .ok () w' ∧ Upd w w' b (.cells (lay cs off v.cells.toList) T (0, 0)) := by
  obtain ⟨w', hr, hu⟩ := run_storeCells_at (P := P) (b := b) (T := T) (off := off) v.cells.toList 0 cs w hb (by omega) (fun x hx => List.all_eq_true.1 h1 x hx)
  refine ⟨w', ?_, by simpa using hu⟩
  have hsz : v.cells.size = s := by simpa using hl
  simp [Instr.storeAt, Instr.sureAddr, storeVar, hs, hsz, hr]
end

section
variable {P : Program} {n : Nat} {ops : Array Oper} {rest : List Oper} {N : Fr → World → Prop} {f : Fr} {w : World} {F : Env} {Ls : List Blks} {k : Nat} {C : World → Prop} {louds : List Nat}
  {dst : Option Tmp} {ty : TypeId} {pos : String} {after : Array Edge} {g : Option (Nat × Bool)}
/-- A store into a block of one's own: the j-th of the i-th ones. -/
theorem VR.storeG {t : TypeId} {x y : Operand} {s b off : Nat} {cs cs' : Array Value} {T : TypeId} {v : Value} (hs : ∀ w, (sizeOf t).run P w = .ok s w)
    (hw : Region.wanted (⟨none, .store t x y, ty, pos, after, g⟩ : Oper) (fyield ops f) = true) (hx : f.ev x = .pointer (some ⟨b, off, none⟩)) (hy : f.ev y = v) (hl : v.cells.toList.length = s) (h1 : v.cells.toList.all (·.oneCell') = true)
    (hm : Mem F w Ls) (i j : Nat) (e : (Ls[i]?).bind (·[j]?) = some (b, .cells cs T (0, 0))) (hin : off + s ≤ cs.size) (hc : lay cs off v.cells.toList = cs')
    (h : ∀ w', Mem F w' (mset Ls i j (.cells cs' T (0, 0))) → VR P n ops rest N f w') :
    VR P n ops (⟨none, .store t x y, ty, pos, after, g⟩ :: rest) N f w := by
  subst hc
  obtain ⟨w', hr, hu⟩ := run_storeAt (P := P) (off := off) (v := v) hs (hm.at_ i j e) hl hin h1
  refine VR.skipG hw rfl ?_ (h w' (hm.upd hu i j e))
  simp [execOp, hx, hy, hr]
theorem VR.store {t : TypeId} {x y : Operand} {s b off : Nat} {cs cs' : Array Value} {T : TypeId} {v : Value} (hs : ∀ w, (sizeOf t).run P w = .ok s w)
    (hg : g = none) (hx : f.ev x = .pointer (some ⟨b, off, none⟩)) (hy : f.ev y = v) (hl : v.cells.toList.length = s) (h1 : v.cells.toList.all (·.oneCell') = true)
    (hm : Mem F w Ls) (i j : Nat) (e : (Ls[i]?).bind (·[j]?) = some (b, .cells cs T (0, 0))) (hin : off + s ≤ cs.size) (hc : lay cs off v.cells.toList = cs')
    (h : ∀ w', Mem F w' (mset Ls i j (.cells cs' T (0, 0))) → VR P n ops rest N f w') :
    VR P n ops (⟨none, .store t x y, ty, pos, after, g⟩ :: rest) N f w :=
  VR.storeG hs (wanted_none (by exact hg) _) hx hy hl h1 hm i j e hin hc h
theorem VL.storeG {t : TypeId} {x y : Operand} {s b off : Nat} {cs cs' : Array Value} {T : TypeId} {v : Value} (hs : ∀ w, (sizeOf t).run P w = .ok s w) (hld : louds.contains k = true)
    (hw : Region.wanted (⟨none, .store t x y, ty, pos, after, g⟩ : Oper) (fyield ops f) = true) (hx : f.ev x = .pointer (some ⟨b, off, none⟩)) (hy : f.ev y = v) (hl : v.cells.toList.length = s) (h1 : v.cells.toList.all (·.oneCell') = true)
    (hm : Mem F w Ls) (i j : Nat) (e : (Ls[i]?).bind (·[j]?) = some (b, .cells cs T (0, 0))) (hin : off + s ≤ cs.size) (hc : lay cs off v.cells.toList = cs')
    (hC : ∀ w', Mem F w' (mset Ls i j (.cells cs' T (0, 0))) → C w')
    (h : ∀ w', Mem F w' (mset Ls i j (.cells cs' T (0, 0))) → VL P n ops C louds N rest (k + 1) f w') :
    VL P n ops C louds N (⟨none, .store t x y, ty, pos, after, g⟩ :: rest) k f w := by
  subst hc
  obtain ⟨w', hr, hu⟩ := run_storeAt (P := P) (off := off) (v := v) hs (hm.at_ i j e) hl hin h1
  refine VL.skipG hld hw rfl ?_ (hC w' (hm.upd hu i j e)) (h w' (hm.upd hu i j e))
  simp [execOp, hx, hy, hr]
theorem VL.store {t : TypeId} {x y : Operand} {s b off : Nat} {cs cs' : Array Value} {T : TypeId} {v : Value} (hs : ∀ w, (sizeOf t).run P w = .ok s w) (hld : louds.contains k = true)
    (hg : g = none) (hx : f.ev x = .pointer (some ⟨b, off, none⟩)) (hy : f.ev y = v) (hl : v.cells.toList.length = s) (h1 : v.cells.toList.all (·.oneCell') = true)
    (hm : Mem F w Ls) (i j : Nat) (e : (Ls[i]?).bind (·[j]?) = some (b, .cells cs T (0, 0))) (hin : off + s ≤ cs.size) (hc : lay cs off v.cells.toList = cs')
    (hC : ∀ w', Mem F w' (mset Ls i j (.cells cs' T (0, 0))) → C w')
    (h : ∀ w', Mem F w' (mset Ls i j (.cells cs' T (0, 0))) → VL P n ops C louds N rest (k + 1) f w') :
    VL P n ops C louds N (⟨none, .store t x y, ty, pos, after, g⟩ :: rest) k f w :=
  VL.storeG hs hld (wanted_none (by exact hg) _) hx hy hl h1 hm i j e hin hc hC h

theorem VL.append {t e : TypeId} {i : TypeInfo} {z : Value} {s bytes : Nat} {x y : Operand} (ht : P.underlying t = some (.slice e)) (hi : P.info? e = some i) (hz : i.zero = some z)
    (hsz : i.size = s) (hby : i.bytes = bytes) (hzs : z.cells.size = s) (hs : Nat.blt 0 s = true) {A : Option Addr} {m c : Nat} {xs : List Value} {L : Blks} {B : Option Addr} {q d : Nat} {news : List Value}
    (hld : louds.contains k = true) (hg : g = none) (hd : dstOk n dst = true) (hx : f.ev x = .slice A m c) (hy : f.ev y = .slice B q d)
    (hm : Mem F w (L :: Ls)) (ho : OwnS e s A m c xs L) (hr : Row (fun b => w.heap[b]?) B (q * s) news) (h1 : ∀ u ∈ news, u.oneCell' = true) {len : Nat} (hlen : m + q = len) (h63 : len ≤ maxLen ∧ len * bytes ≤ 140737488355328)
    (hC : ∀ A' c' w' L', OwnS e s A' len c' (xs ++ news) L' → Mem F w' (L' :: Ls) → C w')
    (h : ∀ A' c' w' L', OwnS e s A' len c' (xs ++ news) L' → Mem F w' (L' :: Ls) → VL P n ops C louds N rest (k + 1) (f.putO dst (.slice A' len c')) w') :
    VL P n ops C louds N (⟨dst, .call { callee := .builtin .append, args := #[x, y], argTypes := #[t, t] }, ty, pos, after, g⟩ :: rest) k f w := by
  subst hlen
  obtain ⟨A', c', w', L', hrun, h6, h7⟩ := run_append (P := P) (ty' := ty) ht hi hz hsz hby hzs (Nat.blt_eq.mp hs) ho hm (d := d) hr h1 h63.1 h63.2
  refine VL.val hld hg hd ?_ (hC A' c' w' L' h6 h7) (h A' c' w' L' h6 h7)
  rw [BigFrame.execOp_builtin]
  simp [BigFrame.builtin_append, hx, hy, hrun]
end

/-! ### Aggregates, fields, elements of arrays -/
section
variable {P : Program} {f : Fr} {dst : Option Tmp} {ty : TypeId} {pos : String} {after : Array Edge} {g : Option (Nat × Bool)} {w : World}
theorem run_loadVarAgg {t : TypeId} {b off s : Nat} {cs : Array Value} {T : TypeId} {fr : Nat × Nat} {vs : List Value} (ha : ∀ w, (isAgg t).run P w = .ok true w) (hs : ∀ w, (sizeOf t).run P w = .ok s w)
    (hb : w.heap[b]? = some (.cells cs T fr)) (hl : vs.length = s) (hv : ∀ i, i < s → cs[off + i]? = vs[i]?) : (loadVar t ⟨b, off, none⟩).run P w = .ok (.agg vs.toArray) w := by
  subst hl
  have hr := run_loadCells_list (P := P) (w := w) ⟨b, off, none⟩ vs (fun j v hj => by
    have hj' : j < vs.length := (List.getElem?_eq_some_iff.1 hj).1
    rw [add_lit', cell_of_row w b (off + j) cs T fr hb, hv j hj', hj])
  simp [loadVar, ha, hs, hr]
theorem r_loadAgg {t : TypeId} {x : Operand} {b off s : Nat} {cs : Array Value} {T : TypeId} {fr : Nat × Nat} {vs : List Value} (ha : ∀ w, (isAgg t).run P w = .ok true w) (hs : ∀ w, (sizeOf t).run P w = .ok s w)
    (hx : f.ev x = .pointer (some ⟨b, off, none⟩)) (hb : w.heap[b]? = some (.cells cs T fr)) (hl : vs.length = s) (hv : ∀ i, i < s → cs[off + i]? = vs[i]?) :
    (execOp f.ev ⟨dst, .load t x, ty, pos, after, g⟩).run P w = .ok (.value (.agg vs.toArray)) w := by
  simp [execOp, hx, Instr.loadAt, Instr.sureAddr, run_loadVarAgg ha hs hb hl hv]
/-- The cells of a block that is known outright. -/
theorem agg_at {cs : Array Value} {off s : Nat} {vs : List Value} (h : (cs.toList.drop off).take s = vs) : ∀ i, i < s → cs[off + i]? = vs[i]? := by
  intro i hi
  subst h
  rw [List.getElem?_take, if_pos hi, List.getElem?_drop, Array.getElem?_toList]
theorem p_field {t : TypeId} {x : Operand} {b off i s : Nat} {fs : Array Field} {fd : Field} {fo : Nat} (ht : P.underlying t = some (.struct fs)) (hf : fs[i]? = some fd) (hs : ∀ w, (sizeOf fd.type).run P w = .ok s w) (h0 : Nat.beq s 0 = false) (ho : fd.offset = fo)
    (hx : f.ev x = .pointer (some ⟨b, off, none⟩)) : Pure P f ⟨dst, .fieldAddr t x i, ty, pos, after, g⟩ (.pointer (some ⟨b, off + fo, none⟩)) := fun w => by
  subst ho
  have hne : ¬ s = 0 := fun e => by rw [e] at h0; cases h0
  simp [execOp, hx, Instr.fieldAt, run_underlying ht, hf, Instr.sureAddr, fieldPlace, hs, hne, add_lit']
theorem p_fieldO {t : TypeId} {x : Operand} {cs : Array Value} {i : Nat} {v : Value} {fs : Array Field} {fd : Field} (ht : P.underlying t = some (.struct fs)) (hf : fs[i]? = some fd) (ha : ∀ w, (isAgg fd.type).run P w = .ok false w)
    (hx : f.ev x = .agg cs) (hv : cs[fd.offset]? = some v) : Pure P f ⟨dst, .field t x i, ty, pos, after, g⟩ v := fun w => by
  simp [execOp, hx, Instr.field, run_underlying ht, hf, asAgg, part, ha, hv]
theorem p_fieldA {t : TypeId} {x : Operand} {cs : Array Value} {i s : Nat} {vs : Array Value} {fs : Array Field} {fd : Field} (ht : P.underlying t = some (.struct fs)) (hf : fs[i]? = some fd) (ha : ∀ w, (isAgg fd.type).run P w = .ok true w)
    (hs : ∀ w, (sizeOf fd.type).run P w = .ok s w) (hx : f.ev x = .agg cs) (hv : cs.extract fd.offset (fd.offset + s) = vs) : Pure P f ⟨dst, .field t x i, ty, pos, after, g⟩ (.agg vs) := fun w => by
  simp [execOp, hx, Instr.field, run_underlying ht, hf, asAgg, part, ha, hs, hv]
theorem p_nilCheck {x : Operand} {a : Addr} (hx : f.ev x = .pointer (some a)) : Pure P f ⟨dst, .nilCheck x, ty, pos, after, g⟩ (.pointer (some a)) := fun w => by
  simp [execOp, hx]
theorem p_nilCheckF {x : Operand} {h : FuncId} {a b : Array Value} (hx : f.ev x = .func (.func h) a b) : Pure P f ⟨dst, .nilCheck x, ty, pos, after, g⟩ (.func (.func h) a b) := fun w => by
  simp [execOp, hx]
/-- An element of an array, by its address. -/
theorem p_idxA {t e : TypeId} {x i : Operand} {b off n s : Nat} {k : IntKind} {j : Nat} (ht : P.underlying t = some (.array n e)) (hs : ∀ w, (sizeOf e).run P w = .ok s w)
    (hx : f.ev x = .pointer (some ⟨b, off, none⟩)) (hi : f.ev i = .int k (j : Int)) (h0 : j < n) :
    Pure P f ⟨dst, .indexAddr t x i, ty, pos, after, g⟩ (.pointer (some ⟨b, off + j * s, none⟩)) := fun w => by
  have h1 : (0 : Int) ≤ (j : Int) ∧ (j : Int) < n := by omega
  simp [execOp, hx, hi, Instr.indexAt, asIntOf, run_underlying ht, Instr.sureAddr, hs, add_lit', h0]
theorem p_idxA1 {t e : TypeId} {x i : Operand} {b off n : Nat} {k : IntKind} {j : Nat} (ht : P.underlying t = some (.array n e)) (hs : ∀ w, (sizeOf e).run P w = .ok 1 w)
    (hx : f.ev x = .pointer (some ⟨b, off, none⟩)) (hi : f.ev i = .int k (j : Int)) (h0 : j < n) :
    Pure P f ⟨dst, .indexAddr t x i, ty, pos, after, g⟩ (.pointer (some ⟨b, off + j, none⟩)) := by
  have := p_idxA (P := P) (dst := dst) (ty := ty) (pos := pos) (after := after) (g := g) ht hs hx hi h0
  simpa using this
/-! #### Shifts, and slices cut at both ends -/
theorem p_shl {tx t' : TypeId} {x y : Operand} {k k' : IntKind} {a b : Int} (hx : f.ev x = .int k a) (hy : f.ev y = .int k' b) (h0 : 0 ≤ b) :
    Pure P f ⟨dst, .binOp .shl tx x y t', ty, pos, after, g⟩ (.int k (k.wrap (a * 2 ^ (min b.toNat k.bits)))) := fun w => by
  have h1 : ¬ b < 0 := by omega
  have he : (eqGuard .shl tx x y (.int k a) (.int k' b)).run P w = .ok () w := by simp [eqGuard]
  simp [execOp, hx, hy, he, binOp, Op.shift, h1]
theorem p_shr {tx t' : TypeId} {x y : Operand} {k k' : IntKind} {a b : Int} (hx : f.ev x = .int k a) (hy : f.ev y = .int k' b) (h0 : 0 ≤ b) :
    Pure P f ⟨dst, .binOp .shr tx x y t', ty, pos, after, g⟩ (.int k (a.fdiv (2 ^ (min b.toNat k.bits)))) := fun w => by
  have h1 : ¬ b < 0 := by omega
  have he : (eqGuard .shr tx x y (.int k a) (.int k' b)).run P w = .ok () w := by simp [eqGuard]
  simp [execOp, hx, hy, he, binOp, Op.shift, h1]
theorem p_shl64 {tx t' : TypeId} {x y : Operand} {k' : IntKind} {a p : Int} {c : Nat} (hx : f.ev x = .int .i64 a) (hy : f.ev y = .int k' (c : Int)) (hp : (2 : Int) ^ (min c 64) = p) (hb : -9223372036854775808 ≤ a * p ∧ a * p ≤ 9223372036854775807) :
    Pure P f ⟨dst, .binOp .shl tx x y t', ty, pos, after, g⟩ (.int .i64 (a * p)) := by
  have := p_shl (P := P) (dst := dst) (tx := tx) (t' := t') (ty := ty) (pos := pos) (after := after) (g := g) hx hy (by omega)
  rw [show min (c : Int).toNat IntKind.i64.bits = min c 64 from rfl, hp, IntWalk.i64_in _ hb] at this
  exact this
/-- 'x[l:h]' -/
theorem p_sliceLH {t e : TypeId} {s : Nat} {x lo hi : Operand} {A : Option Addr} {n c : Nat} {k k' : IntKind} {l h : Int} (ht : P.underlying t = some (.slice e)) (hs : ∀ w, (sizeOf e).run P w = .ok s w)
    (hx : f.ev x = .slice A n c) (hl : f.ev lo = .int k l) (hh : f.ev hi = .int k' h) (h0 : 0 ≤ l ∧ l ≤ h ∧ h ≤ c) :
    Pure P f ⟨dst, .slice t x (some lo) (some hi) none, ty, pos, after, g⟩ (.slice (if c = l.toNat then A else A.map (·.add (l.toNat * s))) (h.toNat - l.toNat) (c - l.toNat)) := fun w => by
  have h1 : 0 ≤ h ∧ h ≤ c := by omega
  have h2 : 0 ≤ l ∧ l ≤ max h 0 := by omega
  simp [execOp, hx, hl, hh, Instr.sliceAt, Instr.slice, run_underlying ht, Instr.sliceBounds, Instr.sliceBound, asIntOf, h1, h2, hs]
theorem p_sliceA {t e : TypeId} {s : Nat} {x : Operand} {A : Option Addr} {n c : Nat} (ht : P.underlying t = some (.slice e)) (hs : ∀ w, (sizeOf e).run P w = .ok s w)
    (hx : f.ev x = .slice A n c) (h0 : True) :
    Pure P f ⟨dst, .slice t x none none none, ty, pos, after, g⟩ (.slice A n c) := fun w => by
  have hz : A.map (·.add 0) = A := by cases A <;> simp [Addr.add]
  simp [execOp, hx, Instr.sliceAt, Instr.slice, run_underlying ht, Instr.sliceBounds, hs, hz]
end

theorem Row.drop {H : Nat → Option Obj} {A : Option Addr} {m : Nat} {cs : List Value} (h : Row H A m cs) {k c : Nat} (hk : k ≤ m) (hmc : m ≤ c) : Row H (if c = k then A else A.map (·.add k)) (m - k) (cs.drop k) := by
  refine ⟨by rw [List.length_drop, h.1], ?_⟩
  rcases Nat.eq_zero_or_pos (m - k) with h0 | h0
  · exact .inl h0
  · obtain ⟨b, off, blk, T, fr, rfl, hb, hc⟩ := h.get (by omega)
    rw [if_neg (by omega)]
    refine .inr ⟨b, off + k, blk, T, fr, by simp [add_lit'], hb, fun i hi => ?_⟩
    rw [List.getElem?_drop, ← hc (k + i) (by omega), Nat.add_assoc]
/-- A part of a row: 'x[l:h]'. -/
theorem Row.part {H : Nat → Option Obj} {A : Option Addr} {m : Nat} {cs : List Value} (h : Row H A m cs) {l q c : Nat} (hk : l + q ≤ m) (hmc : m ≤ c) : Row H (if c = l then A else A.map (·.add l)) q ((cs.drop l).take q) := by
  have := (h.drop (k := l) (by omega) hmc).take (k := q) (by omega)
  exact this

section
variable {P : Program} {f : Fr} {dst : Option Tmp} {ty : TypeId} {pos : String} {after : Array Edge} {g : Option (Nat × Bool)}
/-- 'x[l:]', 'x[l:h]' with the outcome named. -/
theorem p_sliceLE {t e : TypeId} {s : Nat} {x lo : Operand} {A A' : Option Addr} {n c n' c' : Nat} {k : IntKind} {l : Nat} (ht : P.underlying t = some (.slice e)) (hs : ∀ w, (sizeOf e).run P w = .ok s w)
    (hx : f.ev x = .slice A n c) (hl : f.ev lo = .int k (l : Int)) (h0 : l ≤ n) (hA : (if c = l then A else A.map (·.add (l * s))) = A') (hn : n - l = n') (hc : c - l = c') :
    Pure P f ⟨dst, .slice t x (some lo) none none, ty, pos, after, g⟩ (.slice A' n' c') := by
  subst hA hn hc
  exact p_sliceL ht hs hx hl (by omega)
theorem p_sliceLHE {t e : TypeId} {s : Nat} {x lo hi : Operand} {A A' : Option Addr} {n c n' c' : Nat} {k k' : IntKind} {l h : Nat} (ht : P.underlying t = some (.slice e)) (hs : ∀ w, (sizeOf e).run P w = .ok s w)
    (hx : f.ev x = .slice A n c) (hl : f.ev lo = .int k (l : Int)) (hh : f.ev hi = .int k' (h : Int)) (h0 : l ≤ h ∧ h ≤ c) (hA : (if c = l then A else A.map (·.add (l * s))) = A') (hn : h - l = n') (hc : c - l = c') :
    Pure P f ⟨dst, .slice t x (some lo) (some hi) none, ty, pos, after, g⟩ (.slice A' n' c') := by
  subst hA hn hc
  exact p_sliceLH ht hs hx hl hh (by omega)
end
section
variable {P : Program} {f : Fr} {dst : Option Tmp} {ty : TypeId} {pos : String} {after : Array Edge} {g : Option (Nat × Bool)}
theorem p_sliceHN {t e : TypeId} {s : Nat} {x hi : Operand} {A : Option Addr} {n c : Nat} {k : IntKind} {h : Nat} (ht : P.underlying t = some (.slice e)) (hs : ∀ w, (sizeOf e).run P w = .ok s w)
    (hx : f.ev x = .slice A n c) (hh : f.ev hi = .int k (h : Int)) (h0 : h ≤ c) :
    Pure P f ⟨dst, .slice t x none (some hi) none, ty, pos, after, g⟩ (.slice A h c) := p_sliceH ht hs hx hh (by omega)
end
/-- The rest of a row of elements of s cells each, from the l-th on, and its address. -/
theorem Row.dropE {H : Nat → Option Obj} {A : Option Addr} {m s : Nat} {cs : List Value} (h : Row H A (m * s) cs) {l c : Nat} (hl : l ≤ m) (hmc : m ≤ c) :
    ∃ A', (if c = l then A else A.map (·.add (l * s))) = A' ∧ Row H A' ((m - l) * s) (cs.drop (l * s)) := by
  refine ⟨_, rfl, by rw [List.length_drop, h.1, Nat.sub_mul], ?_⟩
  rcases Nat.eq_zero_or_pos ((m - l) * s) with h0 | h0
  · exact .inl h0
  · have hml : 0 < m - l := Nat.pos_of_mul_pos_right h0
    have hle : l * s + (m - l) * s = m * s := by rw [← Nat.add_mul]; congr 1; omega
    obtain ⟨b, off, blk, T, fr, rfl, hb, hc⟩ := h.get (by omega)
    rw [if_neg (by omega)]
    refine .inr ⟨b, off + l * s, blk, T, fr, by simp [add_lit'], hb, fun i hi => ?_⟩
    rw [List.getElem?_drop, ← hc (l * s + i) (by omega), Nat.add_assoc]
theorem Row.dropE1 {H : Nat → Option Obj} {A : Option Addr} {m : Nat} {cs : List Value} (h : Row H A m cs) {l c : Nat} (hl : l ≤ m) (hmc : m ≤ c) :
    ∃ A', (if c = l then A else A.map (·.add (l * 1))) = A' ∧ Row H A' (m - l) (cs.drop l) := by
  have h' : Row H A (m * 1) cs := by rwa [Nat.mul_one]
  obtain ⟨A', e, hr⟩ := h'.dropE hl hmc
  rw [Nat.mul_one, Nat.mul_one] at hr
  exact ⟨A', e, hr⟩

/-! ### What is owned turned into what is fixed -/
structure Env.under (F G : Env) : Prop where
  os : G.os = F.os
  tape : G.tape = F.tape
  output : G.output = F.output
  heap : F.le G
theorem Env.under_refl (F : Env) : F.under F := ⟨rfl, rfl, rfl, F.le_refl⟩
theorem Env.under.trans {F G K : Env} (h : F.under G) (h' : G.under K) : F.under K := ⟨h'.os.trans h.os, h'.tape.trans h.tape, h'.output.trans h.output, Env.le_trans h.heap h'.heap⟩
theorem Mem.shrink {F G : Env} {w : World} {Ls : List Blks} (h : Mem G w Ls) (hu : F.under G) : Mem F w Ls :=
  ⟨h.os.trans hu.os, h.tape.trans hu.tape, h.output.trans hu.output, fun b o e => h.fix b o (hu.heap b o e), h.own, fun p hp => (by
    have h1 := h.sep p hp
    cases hx : F.heap p.1 with
    | none => rfl
    | some o => rw [hu.heap _ _ hx] at h1; cases h1), h.nodup⟩
/-- The first of what is owned counts as fixed from here on. -/
theorem Mem.freeze {F : Env} {w : World} {Ls : List Blks} {L : Blks} (h : Mem F w (L :: Ls)) : ∃ G, F.under G ∧ Mem G w Ls ∧ ∀ p ∈ L, G.heap p.1 = some p.2 := by
  have h2 : Mem F w (Ls ++ [L]) := h.permF (by simp only [List.flatten_cons, List.flatten_append, List.flatten_nil, List.append_nil]; exact List.perm_append_comm)
  have h1 : Mem F w [L] := h2.subF (by simp)
  exact ⟨F.plus [L], ⟨rfl, rfl, rfl, h1.le⟩, h2.focus, h1.plus_mem (.head _)⟩
end Go.Bd
