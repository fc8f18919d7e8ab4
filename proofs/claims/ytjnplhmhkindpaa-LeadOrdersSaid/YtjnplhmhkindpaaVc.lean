/- A walk over frames that are functions: rules for pieces of code, lists of operations and quiet regions; and a memory of blocks that are known whole. Conditions: none; nothing here speaks of one program. -/
import Derived.WalkKit
import Derived.Deep.Quiet
import Derived.Deep.LoopGhost
import Derived.ScopeJumps
namespace Go.Bd
set_option linter.unusedVariables false

/-! ### Frames -/
abbrev Fr := Nat → Value

def Fr.put (f : Fr) (d : Nat) (v : Value) : Fr := fun t => match Nat.beq t d with | true => v | false => f t

theorem Fr.put_same (f : Fr) (d : Nat) (v : Value) : f.put d v d = v := by
  unfold Fr.put; rw [Nat.beq_refl]

theorem Fr.put_ne {f : Fr} {d t : Nat} {v : Value} (h : t ≠ d) : f.put d v t = f t := by
  unfold Fr.put
  cases hb : Nat.beq t d with
  | true => exact absurd (Nat.eq_of_beq_eq_true hb) h
  | false => rfl

theorem Fr.put_self {f : Fr} {d : Nat} {v : Value} (h : f d = v) : f.put d v = f := by
  funext t
  by_cases e : t = d
  · subst e; rw [Fr.put_same, h]
  · rw [Fr.put_ne e]

def Fr.over (A : Fr) : List (Nat × Value) → Fr
  | [] => A
  | (d, v) :: r => (Fr.over A r).put d v

def Slots (f : Fr) : List (Nat × Value) → Prop
  | [] => True
  | (d, v) :: r => f d = v ∧ Slots f r

theorem Slots.over {f : Fr} : ∀ {l : List (Nat × Value)}, Slots f l → Fr.over f l = f
  | [], _ => rfl
  | (d, v) :: r, h => by
    show (Fr.over f r).put d v = f
    rw [Slots.over h.2]
    exact Fr.put_self h.1

def Fr.ofList (l : List Value) : Fr := fun t => l.getD t undef

def Fr.ev (f : Fr) : Operand → Value
  | .tmp t => f t
  | .const v => v
  | .global g => .pointer (some ⟨g, 0, none⟩)
  | .func g => .func (.func g) #[] #[]

def Fr.putO (f : Fr) : Option Tmp → Value → Fr
  | some d, v => f.put d v
  | none, _ => f

def dstOk (n : Nat) : Option Tmp → Bool
  | some d => Nat.blt d n
  | none => true

structure FrOk (n : Nat) (a : Act) (f : Fr) : Prop where
  size : a.tmps.size = n
  defers : a.defers = []
  get : ∀ t, a.tmps.getD t undef = f t

theorem FrOk.eval {n : Nat} {a : Act} {f : Fr} (h : FrOk n a f) : a.eval = f.ev := by
  funext x
  cases x with
  | tmp t => exact h.get t
  | const v => rfl
  | global g => rfl
  | func g => rfl

theorem FrOk.putO {n : Nat} {a : Act} {f : Fr} (h : FrOk n a f) {dst : Option Tmp} (hd : dstOk n dst = true) (v : Value) : FrOk n (a.put dst v) (f.putO dst v) := by
  cases dst with
  | none => exact h
  | some d =>
    have hlt : d < n := Nat.blt_eq.mp hd
    refine ⟨by simp [Act.put, h.size], h.defers, fun t => ?_⟩
    show (a.tmps.setIfInBounds d v).getD t undef = f.put d v t
    by_cases e : t = d
    · subst e
      rw [Fr.put_same]
      simp [Array.getD, h.size, hlt]
    · rw [Fr.put_ne e, ← h.get t]
      simp only [Array.getD_eq_getD_getElem?, Array.getElem?_setIfInBounds]
      rw [if_neg (fun e' => e e'.symm)]

def fyield (ops : Array Oper) (f : Fr) (j : Nat) : Option Bool :=
  match (ops[j]?).bind (·.dst) with
  | some t => (match f t with | .bool b => some b | _ => none)
  | none => none

theorem FrOk.yield {n : Nat} {a : Act} {f : Fr} (h : FrOk n a f) (ops : Array Oper) : yielded ops a.tmps = fyield ops f := by
  funext j
  unfold yielded fyield
  cases hb : (ops[j]?).bind (·.dst) with
  | none => rfl
  | some t =>
    have ht := h.get t
    rw [Array.getD_eq_getD_getElem?] at ht
    show (match a.tmps[t]? with | some (.bool b) => some b | _ => none) = (match f t with | .bool b => some b | _ => none)
    cases hx : a.tmps[t]? with
    | none =>
      rw [hx] at ht
      rw [← ht]
      rfl
    | some u =>
      rw [hx] at ht
      rw [← ht]
      cases u <;> rfl

/-! ### Lists of operations, in the order of the text -/
def NQ (n : Nat) (N : Fr → World → Prop) : Exit → Act → World → Prop
  | .normal, a, w => ∃ f, FrOk n a f ∧ N f w
  | _, _, _ => False

def VR (P : Program) (n : Nat) (ops : Array Oper) (l : List Oper) (N : Fr → World → Prop) (f : Fr) (w : World) : Prop :=
  ∀ a, FrOk n a f → wpList P ops (NQ n N) l a w

/-- What a call hands back: a value, and of the value and the world 'R'. -/
def Ret (R : Value → World → Prop) : Ending → World → Prop := fun e w => ∃ v, e = .returned v ∧ R v w

section
variable {P : Program} {n : Nat} {ops : Array Oper} {rest : List Oper} {o : Oper} {N : Fr → World → Prop} {f : Fr} {w w' : World} {v : Value}

theorem VR.nil (h : N f w) : VR P n ops [] N f w := fun a ha => wpList_nil ⟨f, ha, h⟩

theorem wpList_of_wanted {Q : Exit → Act → World → Prop} {a : Act} (hw : Region.wanted o (yielded ops a.tmps) = true)
    (h : o.wp P a w (wpList P ops Q rest) Q) : wpList P ops Q (o :: rest) a w := by
  unfold wpList
  rw [if_pos hw]
  exact .inl h

theorem VR.valG (hw : Region.wanted o (fyield ops f) = true) (hd : dstOk n o.dst = true) (hr : (execOp f.ev o).run P w = .ok (.value v) w')
    (h : VR P n ops rest N (f.putO o.dst v) w') : VR P n ops (o :: rest) N f w := fun a ha => by
  refine wpList_of_wanted (by rw [ha.yield]; exact hw) ?_
  show o.upon P a _ _ ((execOp a.eval o).run P w)
  rw [ha.eval, hr]
  exact h _ (ha.putO hd v)

theorem VR.skipG (hw : Region.wanted o (fyield ops f) = true) (hd : dstOk n o.dst = true) (hr : (execOp f.ev o).run P w = .ok .skip w')
    (h : VR P n ops rest N (f.putO o.dst undef) w') : VR P n ops (o :: rest) N f w := fun a ha => by
  refine wpList_of_wanted (by rw [ha.yield]; exact hw) ?_
  show o.upon P a _ _ ((execOp a.eval o).run P w)
  rw [ha.eval, hr]
  exact h _ (ha.putO hd undef)

theorem VR.pass (hw : Region.wanted o (fyield ops f) = false) (hd : dstOk n o.dst = true)
    (h : VR P n ops rest N (f.putO o.dst undef) w) : VR P n ops (o :: rest) N f w := fun a ha => by
  unfold wpList
  rw [ha.yield, hw]
  exact h _ (ha.putO hd undef)

theorem VR.callG {g : FuncId} {args : Array Value} {R : Value → World → Prop} (hw : Region.wanted o (fyield ops f) = true) (hd : dstOk n o.dst = true) (hr : (execOp f.ev o).run P w = .ok (.enter g args) w)
    (hc : Calls P g args w (Ret R)) (h : ∀ v w', R v w' → VR P n ops rest N (f.putO o.dst v) w') : VR P n ops (o :: rest) N f w := fun a ha => by
  refine wpList_of_wanted (by rw [ha.yield]; exact hw) ?_
  show o.upon P a _ _ ((execOp a.eval o).run P w)
  rw [ha.eval, hr]
  refine hc.mono ?_
  rintro e w' ⟨v, rfl, hv⟩
  exact h v w' hv _ (ha.putO hd v)

theorem wanted_none (hg : o.guard = none) (y : Nat → Option Bool) : Region.wanted o y = true := by simp [Region.wanted, hg]

/-- An operation that yields one value in every world, and leaves it. -/
def Pure (P : Program) (f : Fr) (o : Oper) (v : Value) : Prop := ∀ w, (execOp f.ev o).run P w = .ok (.value v) w

theorem VR.pure (hg : o.guard = none) (hd : dstOk n o.dst = true) (hp : Pure P f o v) (h : VR P n ops rest N (f.putO o.dst v) w) : VR P n ops (o :: rest) N f w :=
  VR.valG (wanted_none hg _) hd (hp w) h
theorem VR.pureG (hw : Region.wanted o (fyield ops f) = true) (hd : dstOk n o.dst = true) (hp : Pure P f o v) (h : VR P n ops rest N (f.putO o.dst v) w) : VR P n ops (o :: rest) N f w :=
  VR.valG hw hd (hp w) h
theorem VR.val (hg : o.guard = none) (hd : dstOk n o.dst = true) (hr : (execOp f.ev o).run P w = .ok (.value v) w')
    (h : VR P n ops rest N (f.putO o.dst v) w') : VR P n ops (o :: rest) N f w := VR.valG (wanted_none hg _) hd hr h
theorem VR.skip (hg : o.guard = none) (hd : dstOk n o.dst = true) (hr : (execOp f.ev o).run P w = .ok .skip w')
    (h : VR P n ops rest N (f.putO o.dst undef) w') : VR P n ops (o :: rest) N f w := VR.skipG (wanted_none hg _) hd hr h
theorem VR.call {g : FuncId} {args : Array Value} {R : Value → World → Prop} (hg : o.guard = none) (hd : dstOk n o.dst = true) (hr : (execOp f.ev o).run P w = .ok (.enter g args) w)
    (hc : Calls P g args w (Ret R)) (h : ∀ v w', R v w' → VR P n ops rest N (f.putO o.dst v) w') : VR P n ops (o :: rest) N f w :=
  VR.callG (wanted_none hg _) hd hr hc h
end

/-- A Bool of a slot is told apart. -/
theorem VR.splitD {P : Program} {n : Nat} {ops : Array Oper} {l : List Oper} {N : Fr → World → Prop} {f : Fr} {w : World} (d : Nat) {p : Prop} [Decidable p] (hb : f d = .bool (decide p))
    (ht : p → VR P n ops l N (f.put d (.bool true)) w) (hf : ¬ p → VR P n ops l N (f.put d (.bool false)) w) : VR P n ops l N f w := by
  by_cases h : p
  · have := ht h
    rwa [Fr.put_self (by rw [hb, decide_eq_true h])] at this
  · have := hf h
    rwa [Fr.put_self (by rw [hb, decide_eq_false h])] at this
theorem VR.knownT {P : Program} {n : Nat} {ops : Array Oper} {l : List Oper} {N : Fr → World → Prop} {f : Fr} {w : World} (d : Nat) {b : Bool} (hb : f d = .bool b) (h : b = true) (hn : VR P n ops l N (f.put d (.bool true)) w) : VR P n ops l N f w := by
  subst h
  rwa [Fr.put_self hb] at hn
theorem VR.knownF {P : Program} {n : Nat} {ops : Array Oper} {l : List Oper} {N : Fr → World → Prop} {f : Fr} {w : World} (d : Nat) {b : Bool} (hb : f d = .bool b) (h : b = false) (hn : VR P n ops l N (f.put d (.bool false)) w) : VR P n ops l N f w := by
  subst h
  rwa [Fr.put_self hb] at hn
theorem VR.splitB {P : Program} {n : Nat} {ops : Array Oper} {l : List Oper} {N : Fr → World → Prop} {f : Fr} {w : World} (d : Nat) {b : Bool} (hb : f d = .bool b)
    (ht : b = true → VR P n ops l N (f.put d (.bool true)) w) (hf : b = false → VR P n ops l N (f.put d (.bool false)) w) : VR P n ops l N f w := by
  cases b
  · have := hf rfl
    rwa [Fr.put_self hb] at this
  · have := ht rfl
    rwa [Fr.put_self hb] at this

/-! ### Quiet regions: the order of the text serves every order -/
def VQ (P : Program) (n : Nat) (ops : Array Oper) (C : World → Prop) (K : Fr → Prop) (l : List Oper) (f : Fr) : Prop :=
  ∀ a, FrOk n a f → wpQuiet P ops C (fun a' => ∃ f', FrOk n a' f' ∧ K f') l a

section
variable {P : Program} {n : Nat} {ops : Array Oper} {rest : List Oper} {o : Oper} {C : World → Prop} {K : Fr → Prop} {f : Fr} {v : Value}

theorem VQ.nil (h : K f) : VQ P n ops C K [] f := fun a ha => wpQuiet_nil ⟨f, ha, h⟩

theorem VQ.valG (hw : Region.wanted o (fyield ops f) = true) (hd : dstOk n o.dst = true) (hr : ∀ w, C w → (execOp f.ev o).run P w = .ok (.value v) w)
    (h : VQ P n ops C K rest (f.putO o.dst v)) : VQ P n ops C K (o :: rest) f := fun a ha => by
  unfold wpQuiet
  rw [ha.yield, if_pos hw]
  refine ⟨v, fun w hC => ?_, h _ (ha.putO hd v)⟩
  unfold Oper.quietAt
  rw [ha.eval, hr w hC]
  exact ⟨rfl, rfl⟩

theorem VQ.pass (hw : Region.wanted o (fyield ops f) = false) (hd : dstOk n o.dst = true)
    (h : VQ P n ops C K rest (f.putO o.dst undef)) : VQ P n ops C K (o :: rest) f := fun a ha => by
  unfold wpQuiet
  rw [ha.yield, hw]
  exact h _ (ha.putO hd undef)

theorem VQ.callG {g : FuncId} {args : Array Value} (hw : Region.wanted o (fyield ops f) = true) (hd : dstOk n o.dst = true) (hr : ∀ w, C w → (execOp f.ev o).run P w = .ok (.enter g args) w)
    (hc : ∀ w, C w → Calls P g args w (Ret fun v' w' => v' = v ∧ C w')) (h : VQ P n ops C K rest (f.putO o.dst v)) : VQ P n ops C K (o :: rest) f := fun a ha => by
  unfold wpQuiet
  rw [ha.yield, if_pos hw]
  refine ⟨v, fun w hC => ?_, h _ (ha.putO hd v)⟩
  unfold Oper.quietAt
  rw [ha.eval, hr w hC]
  refine ⟨rfl, (hc w hC).mono ?_⟩
  rintro e w' ⟨u, rfl, rfl, h'⟩
  exact ⟨rfl, h'⟩

theorem VQ.pure (hg : o.guard = none) (hd : dstOk n o.dst = true) (hp : Pure P f o v) (h : VQ P n ops C K rest (f.putO o.dst v)) : VQ P n ops C K (o :: rest) f :=
  VQ.valG (wanted_none hg _) hd (fun w _ => hp w) h
theorem VQ.pureG (hw : Region.wanted o (fyield ops f) = true) (hd : dstOk n o.dst = true) (hp : Pure P f o v) (h : VQ P n ops C K rest (f.putO o.dst v)) : VQ P n ops C K (o :: rest) f :=
  VQ.valG hw hd (fun w _ => hp w) h
theorem VQ.val (hg : o.guard = none) (hd : dstOk n o.dst = true) (hr : ∀ w, C w → (execOp f.ev o).run P w = .ok (.value v) w)
    (h : VQ P n ops C K rest (f.putO o.dst v)) : VQ P n ops C K (o :: rest) f := VQ.valG (wanted_none hg _) hd hr h
theorem VQ.call {g : FuncId} {args : Array Value} (hg : o.guard = none) (hd : dstOk n o.dst = true) (hr : ∀ w, C w → (execOp f.ev o).run P w = .ok (.enter g args) w)
    (hc : ∀ w, C w → Calls P g args w (Ret fun v' w' => v' = v ∧ C w')) (h : VQ P n ops C K rest (f.putO o.dst v)) : VQ P n ops C K (o :: rest) f :=
  VQ.callG (wanted_none hg _) hd hr hc h
end

theorem VQ.splitD {P : Program} {n : Nat} {ops : Array Oper} {l : List Oper} {C : World → Prop} {K : Fr → Prop} {f : Fr} (d : Nat) {p : Prop} [Decidable p] (hb : f d = .bool (decide p))
    (ht : p → VQ P n ops C K l (f.put d (.bool true))) (hf : ¬ p → VQ P n ops C K l (f.put d (.bool false))) : VQ P n ops C K l f := by
  by_cases h : p
  · have := ht h
    rwa [Fr.put_self (by rw [hb, decide_eq_true h])] at this
  · have := hf h
    rwa [Fr.put_self (by rw [hb, decide_eq_false h])] at this
theorem VQ.knownT {P : Program} {n : Nat} {ops : Array Oper} {l : List Oper} {C : World → Prop} {K : Fr → Prop} {f : Fr} (d : Nat) {b : Bool} (hb : f d = .bool b) (h : b = true) (hn : VQ P n ops C K l (f.put d (.bool true))) : VQ P n ops C K l f := by
  subst h
  rwa [Fr.put_self hb] at hn
theorem VQ.knownF {P : Program} {n : Nat} {ops : Array Oper} {l : List Oper} {C : World → Prop} {K : Fr → Prop} {f : Fr} (d : Nat) {b : Bool} (hb : f d = .bool b) (h : b = false) (hn : VQ P n ops C K l (f.put d (.bool false))) : VQ P n ops C K l f := by
  subst h
  rwa [Fr.put_self hb] at hn
theorem VQ.splitB {P : Program} {n : Nat} {ops : Array Oper} {l : List Oper} {C : World → Prop} {K : Fr → Prop} {f : Fr} (d : Nat) {b : Bool} (hb : f d = .bool b)
    (ht : b = true → VQ P n ops C K l (f.put d (.bool true))) (hf : b = false → VQ P n ops C K l (f.put d (.bool false))) : VQ P n ops C K l f := by
  cases b
  · have := hf rfl
    rwa [Fr.put_self hb] at this
  · have := ht rfl
    rwa [Fr.put_self hb] at this

/-! ### Pieces of code -/
def fnd : List (Nat × (Fr → World → Prop)) → Nat → Fr → World → Prop
  | [], _ => fun _ _ => False
  | (j, K) :: r, i => match Nat.beq i j with | true => K | false => fnd r i

def VX (n : Nat) (N Rt : Fr → World → Prop) (X G : List (Nat × (Fr → World → Prop))) : Exit → Act → World → Prop
  | .normal, a, w => ∃ f, FrOk n a f ∧ N f w
  | .ret, a, w => ∃ f, FrOk n a f ∧ Rt f w
  | .exit id, a, w => ∃ f, FrOk n a f ∧ fnd X id f w
  | .goto l, a, w => ∃ f, FrOk n a f ∧ fnd G l f w
  | _, _, _ => False

def VC (P : Program) (n : Nat) (c : Code) (N Rt : Fr → World → Prop) (X G : List (Nat × (Fr → World → Prop))) (f : Fr) (w : World) : Prop :=
  ∀ a, FrOk n a f → c.wp P (VX n N Rt X G) a w

section
variable {P : Program} {n : Nat} {x y : Code} {N Rt : Fr → World → Prop} {X G : List (Nat × (Fr → World → Prop))} {f : Fr} {w : World}

theorem VC.mono {N' : Fr → World → Prop} (h : VC P n x N Rt X G f w) (hN : ∀ f w, N f w → N' f w) : VC P n x N' Rt X G f w := fun a ha =>
  wp_mono (h a ha) fun e a' w' q => by
    cases e with
    | normal => exact let ⟨f', h1, h2⟩ := q; ⟨f', h1, hN _ _ h2⟩
    | ret => exact q
    | exit id => exact q
    | goto l => exact q
    | panic ch => exact q
    | outgrown => exact q

theorem VC.seq (h : VC P n x (fun f w => VC P n y N Rt X G f w) Rt X G f w) : VC P n (.seq x y) N Rt X G f w := fun a ha =>
  wp_seq (wp_mono (h a ha) fun e a' w' q => by
    cases e with
    | normal => exact let ⟨f', h1, h2⟩ := q; h2 _ h1
    | ret => exact q
    | exit id => exact q
    | goto l => exact q
    | panic ch => exact q
    | outgrown => exact q)

/-- The ways meet again: what holds of the slots and of the world there. -/
theorem VC.cut {σ : Type} (l : σ → List (Nat × Value)) (I : σ → World → Prop) (h : VC P n x (fun f w => ∃ s, Slots f (l s) ∧ I s w) Rt X G f w)
    (k : ∀ s A w, I s w → VC P n y N Rt X G (Fr.over A (l s)) w) : VC P n (.seq x y) N Rt X G f w :=
  VC.seq (h.mono fun f' w' ⟨s, hs, hI⟩ => by have := k s f' w' hI; rwa [hs.over] at this)

theorem VC.block {id : Nat} (h : VC P n x N Rt ((id, N) :: X) G f w) : VC P n (.block id x) N Rt X G f w := fun a ha =>
  wp_block (wp_mono (h a ha) fun e a' w' q => by
    cases e with
    | normal => exact q
    | ret => exact q
    | exit id' =>
      obtain ⟨f', h1, h2⟩ := q
      show if id' = id then _ else _
      unfold fnd at h2
      by_cases hid : id' = id
      · rw [if_pos hid]
        subst hid
        rw [Nat.beq_refl] at h2
        exact ⟨f', h1, h2⟩
      · rw [if_neg hid]
        have hb : Nat.beq id' id = false := by
          cases hb : Nat.beq id' id with
          | true => exact absurd (Nat.eq_of_beq_eq_true hb) hid
          | false => rfl
        rw [hb] at h2
        exact ⟨f', h1, h2⟩
    | goto l => exact q
    | panic ch => exact q
    | outgrown => exact q)

theorem VC.exit {id : Nat} (h : fnd X id f w) : VC P n (.exit id) N Rt X G f w := fun a ha => wp_exit ⟨f, ha, h⟩
theorem VC.goto {l : Nat} (h : fnd G l f w) : VC P n (.goto l) N Rt X G f w := fun a ha => wp_goto ⟨f, ha, h⟩
theorem VC.ret (h : Rt f w) : VC P n .ret N Rt X G f w := fun a ha => wp_ret ⟨f, ha, h⟩
theorem VC.skip (h : N f w) : VC P n .skip N Rt X G f w := fun a ha => wp_skip ⟨f, ha, h⟩
theorem VC.label {l : Nat} (h : N f w) : VC P n (.label l) N Rt X G f w := fun a ha => wp_label ⟨f, ha, h⟩

theorem VC.cond {c : Operand} {t : Bool} (hc : f.ev c = .bool t) (ht : t = true → VC P n x N Rt X G f w) (hf : t = false → VC P n y N Rt X G f w) :
    VC P n (.cond c x y) N Rt X G f w := fun a ha =>
  wp_cond_split (t := t) (by rw [ha.eval]; exact hc) (fun h => ht h a ha) (fun h => hf h a ha)
theorem VC.condD {c : Operand} {p : Prop} [Decidable p] (hc : f.ev c = .bool (decide p)) (ht : p → VC P n x N Rt X G f w) (hf : ¬ p → VC P n y N Rt X G f w) :
    VC P n (.cond c x y) N Rt X G f w :=
  VC.cond hc (fun h => ht (of_decide_eq_true h)) (fun h => hf (of_decide_eq_false h))
theorem VC.condT {c : Operand} {t : Bool} (hc : f.ev c = .bool t) (h : t = true) (ht : VC P n x N Rt X G f w) : VC P n (.cond c x y) N Rt X G f w :=
  VC.cond hc (fun _ => ht) (fun h' => by rw [h] at h'; cases h')
theorem VC.condF {c : Operand} {t : Bool} (hc : f.ev c = .bool t) (h : t = false) (hf : VC P n y N Rt X G f w) : VC P n (.cond c x y) N Rt X G f w :=
  VC.cond hc (fun h' => by rw [h] at h'; cases h') (fun _ => hf)

theorem VC.loop {σ : Type} (l : σ → List (Nat × Value)) (I : σ → World → Prop) (μ : σ → Nat) (s₀ : σ) (h0 : Slots f (l s₀)) (hI : I s₀ w)
    (round : ∀ s A w, I s w → VC P n x (fun f' w' => ∃ s', Slots f' (l s') ∧ I s' w' ∧ μ s' < μ s) Rt X G (Fr.over A (l s)) w) : VC P n (.loop x) N Rt X G f w := fun a ha => by
  refine wp_loop_ghost (fun k a w => ∃ s f, FrOk n a f ∧ Slots f (l s) ∧ I s w ∧ μ s = k) (μ s₀) ⟨s₀, f, ha, h0, hI, rfl⟩ ?_
  rintro k a w ⟨s, f, ha, hs, hI, rfl⟩
  have h := round s f w hI
  rw [hs.over] at h
  refine wp_mono (h a ha) fun e a' w' q => ?_
  cases e with
  | normal =>
    obtain ⟨f', h1, s', h2, h3, h4⟩ := q
    exact ⟨μ s', h4, s', f', h1, h2, h3, rfl⟩
  | ret => exact q
  | exit id => exact q
  | goto l => exact q
  | panic ch => exact q
  | outgrown => exact q

/-- A list of operations in the order of the text. -/
theorem VC.region {id : Nat} {l : List Oper} (h : VR P n l.toArray l N f w) : VC P n (.region id l.toArray false) N Rt X G f w := fun a ha =>
  wp_mono (wp_region_lit (h a ha)) fun e a' w' q => by
    cases e with
    | normal => exact q
    | ret => exact q.elim
    | exit id => exact q.elim
    | goto l => exact q.elim
    | panic ch => exact q.elim
    | outgrown => exact q.elim


theorem wpQuiet_mono {ops : Array Oper} {C : World → Prop} {Q Q' : Act → Prop} (hq : ∀ a, Q a → Q' a) : ∀ (l : List Oper) (a : Act), wpQuiet P ops C Q l a → wpQuiet P ops C Q' l a
  | [], a, h => hq a h
  | o :: rest, a, h => by
    unfold wpQuiet at h ⊢
    split
    · rename_i hw
      rw [if_pos hw] at h
      exact Oper.quiet_mono (fun a' h' => wpQuiet_mono hq rest a' h') h
    · rename_i hw
      rw [if_neg hw] at h
      exact wpQuiet_mono hq rest _ h

/-- A region that draws its order, each operation quiet in the class 'C'. -/
theorem VC.quiet {id : Nat} {l : List Oper} (C : World → Prop) (hm : P.follows .mixedOrders = true) (hB : Region.lexB .any l.toArray = true) (hC : C w.drew)
    (h : VQ P n l.toArray C (fun f' => ∀ w', C w' → N f' w') l f) : VC P n (.region id l.toArray true) N Rt X G f w := fun a ha => by
  refine wp_region_quiet (C := C) hm hB hC ?_
  show wpQuiet P l.toArray C _ l a
  exact wpQuiet_mono (fun a' ⟨f', h1, h2⟩ w' hw' => ⟨f', h1, h2 w' hw'⟩) l a (h a ha)

theorem VC.scope (h : VC P n x N Rt X [] f w) : VC P n (.scope x) N Rt X G f w := fun a ha =>
  wp_scope_straight (wp_mono (h a ha) fun e a' w' q => by
    cases e with
    | normal => exact q
    | ret => exact q
    | exit id => exact q
    | goto l => obtain ⟨f', _, h2⟩ := q; exact h2.elim
    | panic ch => exact q
    | outgrown => exact q)

/-- A scope with one label, to which the run comes by a goto: as a loop. -/
theorem VC.jumps {σ : Type} {rest : Code} (lab : Nat) (hl : findLabel x lab = some rest) (sl : σ → List (Nat × Value)) (I : σ → World → Prop) (μ : σ → Nat)
    (first : VC P n x N Rt X [(lab, fun f w => ∃ s, Slots f (sl s) ∧ I s w)] f w)
    (pass : ∀ s A w, I s w → VC P n rest N Rt X [(lab, fun f' w' => ∃ s', Slots f' (sl s') ∧ I s' w' ∧ μ s' < μ s)] (Fr.over A (sl s)) w) :
    VC P n (.scope x) N Rt X G f w := fun a ha => by
  refine wp_scope_jumps lab (fun a w => ∃ k s f, FrOk n a f ∧ Slots f (sl s) ∧ I s w ∧ μ s = k) (fun a w => leastOf fun k => ∃ s f, FrOk n a f ∧ Slots f (sl s) ∧ I s w ∧ μ s = k) hl ?_ ?_
  · refine wp_mono (first a ha) fun e a' w' q => ?_
    cases e with
    | normal => exact q
    | ret => exact q
    | exit id => exact q
    | goto l =>
      obtain ⟨f', h1, h2⟩ := q
      unfold fnd at h2
      cases hb : Nat.beq l lab with
      | true =>
        rw [hb] at h2
        obtain ⟨s, hs, hI⟩ := h2
        exact ⟨Nat.eq_of_beq_eq_true hb, _, s, f', h1, hs, hI, rfl⟩
      | false => rw [hb] at h2; exact h2.elim
    | panic ch => exact q
    | outgrown => exact q
  · intro a w hJ
    obtain ⟨⟨s, f, ha, hs, hI, hk⟩, _⟩ := leastOf_spec hJ
    have h := pass s f w hI
    rw [hs.over] at h
    refine wp_mono (h a ha) fun e a' w' q => ?_
    cases e with
    | normal => exact q
    | ret => exact q
    | exit id => exact q
    | goto l =>
      obtain ⟨f', h1, h2⟩ := q
      unfold fnd at h2
      cases hb : Nat.beq l lab with
      | true =>
        rw [hb] at h2
        obtain ⟨s', hs', hI', hlt⟩ := h2
        refine ⟨Nat.eq_of_beq_eq_true hb, ⟨_, s', f', h1, hs', hI', rfl⟩, ?_⟩
        have hle := (leastOf_spec (p := fun k => ∃ s f, FrOk n a' f ∧ Slots f (sl s) ∧ I s w' ∧ μ s = k) ⟨_, s', f', h1, hs', hI', rfl⟩).2 _ ⟨s', f', h1, hs', hI', rfl⟩
        rw [← hk]
        exact Nat.lt_of_le_of_lt hle hlt
      | false => rw [hb] at h2; exact h2.elim
    | panic ch => exact q
    | outgrown => exact q
end

/-! ### A call of a Go function from its body -/
def RV (P : Program) (f : Fr) (w : World) : ResultVar → Value → Prop
  | .tmp t, v => f t = v
  | .cell p t, v => ∃ a, f p = .pointer (some a) ∧ (loadVar t a).run P w = .ok v w

def ResOf (P : Program) (fn : Func) (n : Nat) (f : Fr) (w : World) (v : Value) : Prop := ∀ a, FrOk n a f → (results fn a.tmps).run P w = .ok v w

section
variable {P : Program} {fn : Func} {n : Nat} {f : Fr} {w : World}

def rvSem (tmps : Array Value) : ResultVar → Sem Value
  | .tmp t => pure (tmps.getD t undef)
  | .cell p t => do loadVar t (← asAddr (tmps.getD p undef))

theorem results_eq (fn : Func) (tmps : Array Value) : results fn tmps = (do
    let vs ← fn.results.mapM (rvSem tmps)
    pure (if h : vs.size = 1 then vs[0] else .tuple vs)) := by
  unfold results
  congr 1

theorem run_result {a : Act} (ha : FrOk n a f) {r : ResultVar} {v : Value} (h : RV P f w r v) : (rvSem a.tmps r).run P w = .ok v w := by
  cases r with
  | tmp t =>
    show (pure (a.tmps.getD t undef) : Sem Value).run P w = _
    rw [ha.get, show f t = v from h]
    rfl
  | cell p t =>
    obtain ⟨ad, h1, h2⟩ := h
    simp only [rvSem, ha.get, h1, asAddr, Sem.run_bind, Sem.run_pure, Result.andThen_ok, h2]

theorem ResOf.r0 (h : fn.results = #[]) : ResOf P fn n f w (.tuple #[]) := fun a _ => results_none h _ _ _
theorem ResOf.r1 {r : ResultVar} {v : Value} (h : fn.results = #[r]) (h1 : RV P f w r v) : ResOf P fn n f w v := fun a ha => by
  have e1 := run_result ha h1
  rw [results_eq, h]
  simp [e1]
theorem ResOf.r2 {r s : ResultVar} {v u : Value} (h : fn.results = #[r, s]) (h1 : RV P f w r v) (h2 : RV P f w s u) : ResOf P fn n f w (.tuple #[v, u]) := fun a ha => by
  have e1 := run_result ha h1
  have e2 := run_result ha h2
  rw [results_eq, h]
  simp [e1, e2]
theorem ResOf.r3 {r s t : ResultVar} {v u x : Value} (h : fn.results = #[r, s, t]) (h1 : RV P f w r v) (h2 : RV P f w s u) (h3 : RV P f w t x) : ResOf P fn n f w (.tuple #[v, u, x]) := fun a ha => by
  have e1 := run_result ha h1
  have e2 := run_result ha h2
  have e3 := run_result ha h3
  rw [results_eq, h]
  simp [e1, e2, e3]

/-- Where a body ends: what its results read as, and what is said of them. -/
def Fin (P : Program) (fn : Func) (n : Nat) (R : Value → World → Prop) : Fr → World → Prop := fun f w => ∃ v, ResOf P fn n f w v ∧ R v w

theorem Calls.of_vc {g : FuncId} {c : Code} {args : Array Value} {R : Value → World → Prop} (hf : P.funcs[g]? = some fn) (hb : fn.body = some c) (hn : fn.ntmps = n) (hs : Nat.ble args.size n = true)
    (h : VC P n c (Fin P fn n R) (Fin P fn n R) [] [] (Fr.ofList args.toList) w) : Calls P g args w (Ret R) := by
  have hs' : args.size ≤ n := Nat.ble_eq.mp hs
  refine calls_of_wp hf hb ?_
  have ha : FrOk n { tmps := args ++ Array.replicate (fn.ntmps - args.size) undef, defers := [] } (Fr.ofList args.toList) := by
    refine ⟨by simp [hn]; omega, rfl, fun t => ?_⟩
    show (args ++ Array.replicate (fn.ntmps - args.size) undef).getD t undef = args.toList.getD t undef
    rw [Array.getD_eq_getD_getElem?, List.getD_eq_getElem?_getD, Array.getElem?_append, Array.getElem?_replicate, Array.getElem?_toList]
    split
    · rfl
    · rename_i hlt
      rw [Array.getElem?_eq_none (by omega)]
      split <;> rfl
  refine wp_mono (h _ ha) fun e a' w' q => ?_
  cases e with
  | normal =>
    obtain ⟨f', h1, v, h2, h3⟩ := q
    exact ⟨h1.defers, v, h2 a' h1, v, rfl, h3⟩
  | ret =>
    obtain ⟨f', h1, v, h2, h3⟩ := q
    exact ⟨h1.defers, v, h2 a' h1, v, rfl, h3⟩
  | exit id => obtain ⟨f', _, h2⟩ := q; exact h2.elim
  | goto l => obtain ⟨f', _, h2⟩ := q; exact h2.elim
  | panic ch => exact q.elim
  | outgrown => exact q.elim
end

end Go.Bd
