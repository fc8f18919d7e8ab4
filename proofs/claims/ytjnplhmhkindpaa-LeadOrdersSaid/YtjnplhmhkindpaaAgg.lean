/- Structs built, compared, functions as values, slices held against nil and cut in three. Conditions: none; nothing here speaks of one program. -/
import Derived.Test.YtjnplhmhkindpaaFree
namespace Go.Bd
set_option linter.unusedVariables false

section
variable {P : Program} {f : Fr} {dst : Option Tmp} {ty : TypeId} {pos : String} {after : Array Edge} {g : Option (Nat × Bool)}

theorem p_build {t : TypeId} {parts : Array (Nat × Operand)} {vs : List (Nat × Value)} {cells : Array Value} (hb : P.built t vs = some cells) (hv : parts.toList.map (fun p => (p.1, f.ev p.2)) = vs) :
    Pure P f ⟨dst, .build t parts, ty, pos, after, g⟩ (.agg cells) := fun w => by
  have hr := run_build (P := P) w t (parts.map fun p => (p.1, f.ev p.2)) cells (by rw [Array.toList_map, hv]; exact hb)
  show (execOp f.ev ⟨dst, .build t parts, ty, pos, after, g⟩).run P w = _
  simp only [execOp, Sem.run_bind, hr, Result.andThen_ok]
  rfl

theorem n_buildSlice0 {t e : TypeId} {i : TypeInfo} (ht : P.underlying t = some (.slice e)) (hi : P.info? e = some i) :
    RunNew P f ⟨dst, .buildSlice t 0 #[], ty, pos, after, g⟩ (fun b => .slice (some ⟨b, 0, none⟩) 0 0) (.cells #[] e) := fun w => by
  have e0 : (Array.range 0).map (fun _ => (default : Value)) = #[] := by simp
  simp [execOp, Instr.buildSlice, run_underlying ht, sizeOf, typeInfo, hi, Instr.fill, newRow, e0]

/-! #### Slices held against nil -/
theorem run_eqNil {t e : TypeId} {A : Option Addr} {n c : Nat} (ht : P.underlying t = some (.slice e)) (w : World) : (Op.equal t (.slice A n c) (.slice none 0 0)).run P w = .ok A.isNone w := by
  show (Op.equalIn (9999 + 1) t (.slice A n c) (.slice none 0 0)).run P w = _
  unfold Op.equalIn
  simp only [Sem.run_bind, run_underlying ht, Result.andThen_ok]
  cases A <;> rfl
theorem p_eqNil {t t' e : TypeId} {x : Operand} {A : Option Addr} {n c : Nat} (ht : P.underlying t = some (.slice e)) (hx : f.ev x = .slice A n c) :
    Pure P f ⟨dst, .binOp .eql t x (.const (.slice none 0 0)) t', ty, pos, after, g⟩ (.bool A.isNone) := fun w => by
  have he : (eqGuard .eql t x (.const (.slice none 0 0)) (.slice A n c) (.slice none 0 0)).run P w = .ok () w := by simp [eqGuard]
  have h2 : f.ev (.const (.slice none 0 0)) = .slice none 0 0 := rfl
  simp [execOp, hx, h2, he, binOp, run_eqNil ht]
theorem p_neNil {t t' e : TypeId} {x : Operand} {A : Option Addr} {n c : Nat} (ht : P.underlying t = some (.slice e)) (hx : f.ev x = .slice A n c) :
    Pure P f ⟨dst, .binOp .neq t x (.const (.slice none 0 0)) t', ty, pos, after, g⟩ (.bool A.isSome) := fun w => by
  have he : (eqGuard .neq t x (.const (.slice none 0 0)) (.slice A n c) (.slice none 0 0)).run P w = .ok () w := by simp [eqGuard]
  have h2 : f.ev (.const (.slice none 0 0)) = .slice none 0 0 := rfl
  have h3 : (!A.isNone) = A.isSome := by cases A <;> rfl
  simp [execOp, hx, h2, he, binOp, run_eqNil ht]

/-! #### Pointers held against nil -/
theorem run_eqNilP {t e : TypeId} {A : Option Addr} (ht : P.underlying t = some (.pointer e)) (w : World) : (Op.equal t (.pointer A) (.pointer none)).run P w = .ok A.isNone w := by
  show (Op.equalIn (9999 + 1) t (.pointer A) (.pointer none)).run P w = _
  unfold Op.equalIn
  simp only [Sem.run_bind, run_underlying ht, Result.andThen_ok]
  cases A <;> rfl
theorem p_eqNilP {t t' e : TypeId} {x : Operand} {A : Option Addr} (ht : P.underlying t = some (.pointer e)) (hx : f.ev x = .pointer A) :
    Pure P f ⟨dst, .binOp .eql t x (.const (.pointer none)) t', ty, pos, after, g⟩ (.bool A.isNone) := fun w => by
  have he : (eqGuard .eql t x (.const (.pointer none)) (.pointer A) (.pointer none)).run P w = .ok () w := by simp [eqGuard]
  have h2 : f.ev (.const (.pointer none)) = .pointer none := rfl
  simp [execOp, hx, h2, he, binOp, run_eqNilP ht]
theorem p_neNilP {t t' e : TypeId} {x : Operand} {A : Option Addr} (ht : P.underlying t = some (.pointer e)) (hx : f.ev x = .pointer A) :
    Pure P f ⟨dst, .binOp .neq t x (.const (.pointer none)) t', ty, pos, after, g⟩ (.bool A.isSome) := fun w => by
  have he : (eqGuard .neq t x (.const (.pointer none)) (.pointer A) (.pointer none)).run P w = .ok () w := by simp [eqGuard]
  have h2 : f.ev (.const (.pointer none)) = .pointer none := rfl
  simp [execOp, hx, h2, he, binOp, run_eqNilP ht]

/-! #### Bools, texts and structs of such held against each other -/
def simpleEq (P : Program) (t : TypeId) (u v : Value) : Option Bool :=
  match P.underlying t, u, v with
  | some .bool, .bool a, .bool b => some (a == b)
  | some (.int _), .int k a, .int k' b => if k = k' then some (decide (a = b)) else none
  | some .string, .string a, .string b => some (a == b)
  | _, _, _ => none
theorem simpleEq_run {t : TypeId} {u v : Value} {r : Bool} (h : simpleEq P t u v = some r) (d : Nat) (w : World) : (Op.equalIn (d + 1) t u v).run P w = .ok r w ∧ (isAgg t).run P w = .ok false w := by
  unfold simpleEq at h
  split at h
  · rename_i a b ht
    cases h
    refine ⟨?_, by simp [isAgg, run_underlying ht]⟩
    unfold Op.equalIn
    simp [run_underlying ht]
  · rename_i k0 k a k' b ht
    split at h
    · rename_i e
      subst e
      cases h
      refine ⟨?_, by simp [isAgg, run_underlying ht]⟩
      unfold Op.equalIn
      simp only [Sem.run_bind, run_underlying ht, Result.andThen_ok, if_true]
      rfl
    · cases h
  · rename_i a b ht
    cases h
    refine ⟨?_, by simp [isAgg, run_underlying ht]⟩
    unfold Op.equalIn
    simp [run_underlying ht]
  · cases h
def fieldsEq (P : Program) (xs ys : Array Value) : List Field → Option Bool
  | [] => some true
  | fd :: r =>
    match decide (fd.name = "_"), xs[fd.offset]?, ys[fd.offset]? with
    | false, some u, some v =>
      match simpleEq P fd.type u v, fieldsEq P xs ys r with
      | some b, some c => some (b && c)
      | _, _ => none
    | _, _, _ => none
theorem eqAgg_loop {xs ys : Array Value} {d : Nat} {w : World} : ∀ (l : List Field) (r : Bool), fieldsEq P xs ys l = some r →
    ∃ o : Option Bool × Unit, (forIn l ((none, ()) : Option Bool × Unit) fun fd (_ : Option Bool × Unit) =>
      if fd.name = "_" then (pure (ForInStep.yield (none, ())) : Sem (ForInStep (Option Bool × Unit)))
      else do
        let u ← part fd.type xs fd.offset
        let v ← part fd.type ys fd.offset
        let b ← Op.equalIn (d + 1) fd.type u v
        if b = false then pure (ForInStep.done (some false, ())) else pure (ForInStep.yield (none, ()))).run P w = .ok o w ∧ o.1 = (if r = true then none else some false)
  | [], r, h => by
    cases h
    exact ⟨_, rfl, rfl⟩
  | fd :: l, r, h => by
    unfold fieldsEq at h
    split at h
    · rename_i u v hn hu hv
      split at h
      · rename_i b c hb hc
        cases h
        obtain ⟨h1, h2⟩ := simpleEq_run hb d w
        have hn' : fd.name ≠ "_" := of_decide_eq_false hn
        have pu : (part fd.type xs fd.offset).run P w = .ok u w := by simp [part, h2, hu]
        have pv : (part fd.type ys fd.offset).run P w = .ok v w := by simp [part, h2, hv]
        obtain ⟨o, ho, ho2⟩ := eqAgg_loop (d := d) (w := w) l c hc
        cases b with
        | false =>
          refine ⟨(some false, ()), ?_, rfl⟩
          simp [List.forIn_cons, hn', pu, pv, h1]
        | true =>
          refine ⟨o, ?_, by simpa using ho2⟩
          simp only [List.forIn_cons, Sem.run_bind]
          simp [hn', pu, pv, h1]
          simpa using ho
      · cases h
    · cases h
theorem run_eqAgg {t : TypeId} {fs : Array Field} {xs ys : Array Value} {r : Bool} (ht : P.underlying t = some (.struct fs)) (hst : P.stoodInHeld t = false) (h : fieldsEq P xs ys fs.toList = some r) (w : World) :
    (Op.equal t (.agg xs) (.agg ys)).run P w = .ok r w := by
  show (Op.equalIn (9999 + 1) t (.agg xs) (.agg ys)).run P w = _
  obtain ⟨o, ho, ho2⟩ := eqAgg_loop (d := 9998) (w := w) fs.toList r h
  unfold Op.equalIn
  simp only [Sem.run_bind, run_underlying ht, Result.andThen_ok]
  simp [hst]
  rw [← Array.forIn_toList, ho]
  simp only [Result.andThen_ok, ho2]
  cases r <;> rfl
theorem p_eqG {t t' : TypeId} {x y : Operand} {fs : Array Field} {xs ys : Array Value} {r : Bool} (ht : P.underlying t = some (.struct fs)) (hst : P.stoodInHeld t = false) (hq : P.eqGuardType P.depth t = false)
    (hx : f.ev x = .agg xs) (hy : f.ev y = .agg ys) (h : fieldsEq P xs ys fs.toList = some r) :
    Pure P f ⟨dst, .binOp .eql t x y t', ty, pos, after, g⟩ (.bool r) := fun w => by
  have he : (eqGuard .eql t x y (.agg xs) (.agg ys)).run P w = .ok () w := by simp [eqGuard, hq]
  simp [execOp, hx, hy, he, binOp, run_eqAgg ht hst h]
theorem p_neG {t t' : TypeId} {x y : Operand} {fs : Array Field} {xs ys : Array Value} {r : Bool} (ht : P.underlying t = some (.struct fs)) (hst : P.stoodInHeld t = false) (hq : P.eqGuardType P.depth t = false)
    (hx : f.ev x = .agg xs) (hy : f.ev y = .agg ys) (h : fieldsEq P xs ys fs.toList = some r) :
    Pure P f ⟨dst, .binOp .neq t x y t', ty, pos, after, g⟩ (.bool (!r)) := fun w => by
  have he : (eqGuard .neq t x y (.agg xs) (.agg ys)).run P w = .ok () w := by simp [eqGuard, hq]
  simp [execOp, hx, hy, he, binOp, run_eqAgg ht hst h]
theorem p_eqB {t t' : TypeId} {x y : Operand} {a b : Bool} (ht : P.underlying t = some .bool) (hx : f.ev x = .bool a) (hy : f.ev y = .bool b) :
    Pure P f ⟨dst, .binOp .eql t x y t', ty, pos, after, g⟩ (.bool (a == b)) := fun w => by
  have he : (eqGuard .eql t x y (.bool a) (.bool b)).run P w = .ok () w := by simp [eqGuard]
  have h : (Op.equal t (.bool a) (.bool b)).run P w = .ok (a == b) w := by
    show (Op.equalIn (9999 + 1) t _ _).run P w = _
    exact (simpleEq_run (by simp [simpleEq, ht]) 9999 w).1
  simp [execOp, hx, hy, he, binOp, h]
theorem p_neB {t t' : TypeId} {x y : Operand} {a b : Bool} (ht : P.underlying t = some .bool) (hx : f.ev x = .bool a) (hy : f.ev y = .bool b) :
    Pure P f ⟨dst, .binOp .neq t x y t', ty, pos, after, g⟩ (.bool (!(a == b))) := fun w => by
  have he : (eqGuard .neq t x y (.bool a) (.bool b)).run P w = .ok () w := by simp [eqGuard]
  have h : (Op.equal t (.bool a) (.bool b)).run P w = .ok (a == b) w := by
    show (Op.equalIn (9999 + 1) t _ _).run P w = _
    exact (simpleEq_run (by simp [simpleEq, ht]) 9999 w).1
  simp [execOp, hx, hy, he, binOp, h]

/-! #### Functions as values -/
theorem p_makeFunc {fn : Fn} {first captured : Array Operand} {vs cs : List Value} (h1 : first.toList.map f.ev = vs) (h2 : captured.toList.map f.ev = cs) :
    Pure P f ⟨dst, .makeFunc fn first captured, ty, pos, after, g⟩ (.func fn vs.toArray cs.toArray) := fun w => by
  subst h1 h2
  have e : ∀ xs : Array Operand, (xs.toList.map f.ev).toArray = xs.map f.ev := fun xs => by
    apply Array.ext'
    simp
  rw [e, e]
  simp [execOp, Instr.makeFunc]
/-- 'x[l:h:m]' -/
theorem p_slice3E {t e : TypeId} {s : Nat} {x lo hi mx : Operand} {A A' : Option Addr} {n c n' c' : Nat} {k k' k'' : IntKind} {l h m : Nat} (ht : P.underlying t = some (.slice e)) (hs : ∀ w, (sizeOf e).run P w = .ok s w)
    (hx : f.ev x = .slice A n c) (hl : f.ev lo = .int k (l : Int)) (hh : f.ev hi = .int k' (h : Int)) (hm : f.ev mx = .int k'' (m : Int)) (h0 : l ≤ h ∧ h ≤ m ∧ m ≤ c)
    (hA : (if m = l then A else A.map (·.add (l * s))) = A') (hn : h - l = n') (hc : m - l = c') :
    Pure P f ⟨dst, .slice t x (some lo) (some hi) (some mx), ty, pos, after, g⟩ (.slice A' n' c') := fun w => by
  subst hA hn hc
  have h1 : (0 : Int) ≤ (m : Int) ∧ (m : Int) ≤ c := by omega
  have h2 : (0 : Int) ≤ (h : Int) ∧ (h : Int) ≤ m := by omega
  have h3 : (0 : Int) ≤ (l : Int) ∧ (l : Int) ≤ h := by omega
  simp [execOp, hx, hl, hh, hm, Instr.sliceAt, Instr.slice, run_underlying ht, Instr.sliceBounds, Instr.sliceBound, asIntOf, h0, hs]
end

section
variable {P : Program} {f : Fr} {dst : Option Tmp} {ty : TypeId} {pos : String} {after : Array Edge} {gd : Option (Nat × Bool)} {w : World} {g : FuncId} {ats : Array TypeId}
/-- A call of a function value. -/
theorem r_callV {c : Operand} {xs : Array Operand} {cap vs : List Value} (hc : ∀ args w, (callFunc g args).run P w = .ok (.enter g args) w) (hf : f.ev c = .func (.func g) #[] cap.toArray) (hx : xs.toList.map f.ev = vs) :
    (execOp f.ev ⟨dst, .call { callee := .value c, args := xs, argTypes := ats }, ty, pos, after, gd⟩).run P w = .ok (.enter g (vs ++ cap).toArray) w := by
  subst hx
  have h := hc (xs.map f.ev ++ cap.toArray) w
  have e : (xs.toList.map f.ev ++ cap).toArray = xs.map f.ev ++ cap.toArray := by
    apply Array.ext'
    simp
  rw [e]
  simp [execOp, resolve, hf, Deferred.ofValue, invoke, h]
end
theorem Mem.pop2 {F : Env} {w : World} {A B : Blks} {Ls : List Blks} (h : Mem F w (A :: B :: Ls)) : Mem F w (A :: Ls) := h.swap.pop
theorem Mem.pop2' {F : Env} {w : World} {A B D : Blks} {Ls : List Blks} (h : Mem F w (A :: B :: D :: Ls)) : Mem F w (D :: A :: Ls) := h.pop2.swap

/-- Ways meet behind a piece of code: what holds of the slots and of the world there. -/
theorem VC.meet {P : Program} {n : Nat} {x : Code} {N Rt : Fr → World → Prop} {X G : List (Nat × (Fr → World → Prop))} {f : Fr} {w : World} {σ : Type} (l : σ → List (Nat × Value)) (I : σ → World → Prop)
    (h : VC P n x (fun f w => ∃ s, Slots f (l s) ∧ I s w) Rt X G f w) (k : ∀ s A w, I s w → N (Fr.over A (l s)) w) : VC P n x N Rt X G f w :=
  h.mono fun f' w' ⟨s, hs, hI⟩ => by have := k s f' w' hI; rwa [hs.over] at this
theorem Ret.mono {P : Program} {g : FuncId} {args : Array Value} {w : World} {R S : Value → World → Prop} (h : Calls P g args w (Ret R)) (hRS : ∀ v w', R v w' → S v w') : Calls P g args w (Ret S) :=
  h.mono fun e w' ⟨v, h1, h2⟩ => ⟨v, h1, hRS v w' h2⟩

/-! ### Rows of elements of s cells each -/
theorem flat_len {X : Type} {g : X → List Value} {s : Nat} (hg : ∀ x, (g x).length = s) : ∀ (xs : List X), (xs.flatMap g).length = xs.length * s
  | [] => by simp
  | x :: r => by rw [List.flatMap_cons, List.length_append, hg, flat_len hg r, List.length_cons, Nat.add_mul, Nat.one_mul, Nat.add_comm]
theorem flat_at {X : Type} {g : X → List Value} {s : Nat} (hg : ∀ x, (g x).length = s) : ∀ {xs : List X} {i : Nat} {x : X} {j : Nat}, xs[i]? = some x → j < s → (xs.flatMap g)[i * s + j]? = (g x)[j]?
  | [], i, x, j, h, _ => by simp at h
  | y :: r, 0, x, j, h, hj => by
    simp only [List.getElem?_cons_zero, Option.some.injEq] at h
    subst h
    rw [List.flatMap_cons, List.getElem?_append_left (by rw [hg]; omega), Nat.zero_mul, Nat.zero_add]
  | y :: r, i + 1, x, j, h, hj => by
    simp only [List.getElem?_cons_succ] at h
    rw [List.flatMap_cons, List.getElem?_append_right (by rw [hg, Nat.add_mul]; omega), hg, show (i + 1) * s + j - s = i * s + j by rw [Nat.add_mul]; omega]
    exact flat_at hg h hj
/-- An element of a row: its cells, where they lie. -/
theorem Row.elem {X : Type} {g : X → List Value} {s : Nat} (hg : ∀ x, (g x).length = s) {H : Nat → Option Obj} {A : Option Addr} {n : Nat} {xs : List X} (hr : Row H A (n * s) (xs.flatMap g)) (hs : 0 < s) (hn : 0 < n) :
    ∃ b off blk T fr, A = some ⟨b, off, none⟩ ∧ H b = some (.cells blk T fr) ∧ ∀ i x, xs[i]? = some x → ∀ j, j < s → blk[off + i * s + j]? = (g x)[j]? := by
  obtain ⟨b, off, blk, T, fr, e, hb, hc⟩ := hr.get (Nat.mul_pos hn hs)
  refine ⟨b, off, blk, T, fr, e, hb, fun i x hx j hj => ?_⟩
  have hi : i < xs.length := (List.getElem?_eq_some_iff.1 hx).1
  have hl := hr.len
  rw [flat_len hg] at hl
  have hlt : i * s + j < n * s := by
    rw [← hl]
    have : (i + 1) * s ≤ xs.length * s := Nat.mul_le_mul_right s hi
    rw [Nat.add_mul] at this
    omega
  rw [Nat.add_assoc, hc _ hlt, flat_at hg hx hj]
theorem Row.count {X : Type} {g : X → List Value} {s : Nat} (hg : ∀ x, (g x).length = s) (hs : 0 < s) {H : Nat → Option Obj} {A : Option Addr} {n : Nat} {xs : List X} (hr : Row H A (n * s) (xs.flatMap g)) : xs.length = n := by
  have hl := hr.len
  rw [flat_len hg] at hl
  exact Nat.eq_of_mul_eq_mul_right hs hl
end Go.Bd
