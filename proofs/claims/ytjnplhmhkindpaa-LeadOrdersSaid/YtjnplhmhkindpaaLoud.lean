/- Regions that draw their order, in which some operations turn the world: those come in one order alone (by the edges), the others only read: the order of the text serves every order. Conditions: none; nothing here speaks of one program. -/
import Derived.Test.YtjnplhmhkindpaaVc
namespace Go.Bd
set_option linter.unusedVariables false

section
variable {P : Program} {ops : Array Oper} {md : Region.Mode} {C : World → Prop} {loud : Nat → Bool}

/-- A reading operation: the value v, and the very world that it got. -/
def readUpon (w : World) (v : Value) : Result Next → Prop
  | .ok (.value u) w' => w' = w ∧ u = v
  | .ok .skip w' => w' = w ∧ v = undef
  | _ => False
def readAt (P : Program) (o : Oper) (a : Act) (w : World) (v : Value) : Prop := readUpon w v ((execOp a.eval o).run P w)

def loudUpon (P : Program) (C : World → Prop) (o : Oper) (a : Act) (K : Act → World → Prop) : Result Next → Prop
  | .ok (.value v) w' => C w' ∧ K (a.put o.dst v) w'
  | .ok .skip w' => C w' ∧ K (a.put o.dst undef) w'
  | .ok (.enter f args) w' => Calls P f args w' fun e w'' => ∃ v, e = .returned v ∧ C w'' ∧ K (a.put o.dst v) w''
  | _ => False
def loudAt (P : Program) (C : World → Prop) (o : Oper) (a : Act) (K : Act → World → Prop) (w : World) : Prop := loudUpon P C o a K ((execOp a.eval o).run P w)

theorem readAt_fun {o : Oper} {a : Act} {w : World} {v u : Value} (h : readAt P o a w v) (h' : readAt P o a w u) : v = u := by
  unfold readAt at h h'
  generalize (execOp a.eval o).run P w = r at h h'
  cases r with
  | ok x w' =>
    cases x <;> simp only [readUpon] at h h'
    · exact h.2.symm.trans h'.2
    · exact h.2.trans h'.2.symm
  | halt x w' => simp only [readUpon] at h

theorem loudAt_map {o : Oper} {a a₂ : Act} {K K₂ : Act → World → Prop} {w : World} (he : execOp a₂.eval o = execOp a.eval o)
    (hK : ∀ v w', C w' → K (a.put o.dst v) w' → K₂ (a₂.put o.dst v) w') (h : loudAt P C o a K w) : loudAt P C o a₂ K₂ w := by
  unfold loudAt at *
  rw [he]
  generalize (execOp a.eval o).run P w = r at h ⊢
  cases r with
  | ok x w' =>
    cases x <;> simp only [loudUpon] at h ⊢
    · exact ⟨h.1, hK _ _ h.1 h.2⟩
    · exact ⟨h.1, hK _ _ h.1 h.2⟩
    · exact h.mono fun e w'' ⟨v, h1, h2, h3⟩ => ⟨v, h1, h2, hK _ _ h2 h3⟩
  | halt x w' => simp only [loudUpon] at h

theorem loudAt_inst {o : Oper} {a : Act} {K : Act → World → Prop} {w : World} (h : loudAt P C o a K w) : ∃ v w', C w' ∧ K (a.put o.dst v) w' := by
  unfold loudAt at h
  generalize (execOp a.eval o).run P w = r at h
  cases r with
  | ok x w' =>
    cases x <;> simp only [loudUpon] at h
    · exact ⟨_, _, h⟩
    · exact ⟨_, _, h⟩
    · obtain ⟨e, w'', fr, ⟨v, _, h2, h3⟩, _⟩ := h []
      exact ⟨v, w'', h2, h3⟩
  | halt x w' => simp only [loudUpon] at h

def lOp (P : Program) (ops : Array Oper) (C : World → Prop) (loud : Nat → Bool) (i : Nat) (K : Act → World → Prop) (a : Act) (w : World) : Prop :=
  match ops[i]? with
  | none => K a w
  | some o =>
    if Region.wanted o (yielded ops a.tmps) = true then
      (if loud i = true then loudAt P C o a K w else ∃ v, (∀ w', C w' → readAt P o a w' v) ∧ K (a.put o.dst v) w)
    else K (a.put o.dst undef) w

def wpAnyL (P : Program) (md : Region.Mode) (ops : Array Oper) (C : World → Prop) (loud : Nat → Bool) (Q : Act → World → Prop) : Nat → Array Bool → Act → World → Prop
  | 0, listed, a, w => Region.ready md ops listed = [] ∧ Q a w
  | fuel + 1, listed, a, w => (Region.ready md ops listed = [] → Q a w) ∧ ∀ i ∈ Region.ready md ops listed, lOp P ops C loud i (wpAnyL P md ops C loud Q fuel (listed.setIfInBounds i true)) a w

theorem wpOp_of_lOp {i : Nat} {a : Act} {w : World} {K K' : Act → World → Prop} {Q' : Exit → Act → World → Prop} (hC : C w) (h : ∀ a w, C w → K a w → K' a w)
    (hh : lOp P ops C loud i K a w) : wpOp P ops Q' i K' a w := by
  unfold lOp at hh
  unfold wpOp
  split
  · rename_i ho; simp only [ho] at hh; exact h _ _ hC hh
  · rename_i o ho
    simp only [ho] at hh
    split
    · rename_i hw
      rw [if_pos hw] at hh
      refine .inl ?_
      unfold Oper.wp
      split at hh
      · unfold loudAt at hh
        generalize (execOp a.eval o).run P w = r at hh ⊢
        cases r with
        | ok x w' =>
          cases x <;> simp only [loudUpon] at hh <;> simp only [Oper.upon]
          · exact h _ _ hh.1 hh.2
          · exact h _ _ hh.1 hh.2
          · exact hh.mono fun e w'' ⟨v, h1, h2, h3⟩ => by subst h1; exact h _ _ h2 h3
        | halt x w' => simp only [loudUpon] at hh
      · obtain ⟨v, h1, h2⟩ := hh
        have h3 := h1 w hC
        unfold readAt at h3
        generalize (execOp a.eval o).run P w = r at h3 ⊢
        cases r with
        | ok x w' =>
          cases x <;> simp only [readUpon] at h3 <;> simp only [Oper.upon]
          · obtain ⟨rfl, rfl⟩ := h3; exact h _ _ hC h2
          · obtain ⟨rfl, rfl⟩ := h3; exact h _ _ hC h2
        | halt x w' => simp only [readUpon] at h3
    · rename_i hw
      rw [if_neg hw] at hh
      exact h _ _ hC hh

theorem wpAny_of_L {Q : Act → World → Prop} {Q' : Exit → Act → World → Prop} (hQ : ∀ a w, C w → Q a w → Q' .normal a w) : ∀ (fuel : Nat) (listed : Array Bool) (a : Act) (w : World), C w →
    wpAnyL P md ops C loud Q fuel listed a w → wpAny P md ops Q' fuel listed a w
  | 0, _, _, _, hw, h => ⟨h.1, hQ _ _ hw h.2⟩
  | fuel + 1, _, _, _, hw, h => ⟨fun h0 => hQ _ _ hw (h.1 h0), fun i hi => wpOp_of_lOp hw (fun a' w' hw' => wpAny_of_L hQ fuel _ a' w' hw') (h.2 i hi)⟩

/-- In state 'a' operation 'o', number i, only reads, and leaves 'v'. -/
def ReadsIn (P : Program) (ops : Array Oper) (C : World → Prop) (loud : Nat → Bool) (i : Nat) (o : Oper) (v : Value) (a : Act) : Prop :=
  (Region.wanted o (yielded ops a.tmps) = true ∧ loud i = false ∧ ∀ w, C w → readAt P o a w v) ∨ (Region.wanted o (yielded ops a.tmps) = false ∧ v = undef)

theorem ReadsIn.lOp {i : Nat} {o : Oper} {v : Value} {a : Act} {w : World} {K : Act → World → Prop} (hi : ops[i]? = some o) (hy : ReadsIn P ops C loud i o v a) (h : K (a.put o.dst v) w) : lOp P ops C loud i K a w := by
  unfold Go.Bd.lOp
  simp only [hi]
  rcases hy with ⟨hw, hl, hv⟩ | ⟨hw, rfl⟩
  · rw [if_pos hw, hl]
    simp only [Bool.false_eq_true, if_false]
    exact ⟨v, hv, h⟩
  · rw [hw]
    simp only [Bool.false_eq_true, if_false]
    exact h
theorem ReadsIn.of_same {i : Nat} {o : Oper} {v : Value} {a a' : Act} (hy : ReadsIn P ops C loud i o v a) (he : execOp a'.eval o = execOp a.eval o)
    (hw : Region.wanted o (yielded ops a'.tmps) = Region.wanted o (yielded ops a.tmps)) : ReadsIn P ops C loud i o v a' := by
  unfold ReadsIn readAt at *
  rw [he, hw]
  exact hy

theorem lOp_put {i j : Nat} {oi oj : Oper} {v : Value} (hj : ops[j]? = some oj) (hap : oi.apart ops oj = true)
    (hsi : ∀ cs b, oi.op ≠ .select cs b) (hsj : ∀ cs b, oj.op ≠ .select cs b) {K : Act → World → Prop} {a : Act} {w : World} (hC : C w)
    (hy : ReadsIn P ops C loud i oi v a) (h : lOp P ops C loud j K (a.put oi.dst v) w) :
    lOp P ops C loud j (fun a' w' => C w' ∧ ReadsIn P ops C loud i oi v a' ∧ K (a'.put oi.dst v) w') a w := by
  obtain ⟨h1, h2, h3⟩ := Oper.apart_spec hap
  have keep : ∀ (a : Act), ReadsIn P ops C loud i oi v a → ∀ u, ReadsIn P ops C loud i oi v (a.put oj.dst u) := fun a hy u =>
    hy.of_same (execOp_put oi hsi a oj.dst u h3) (wanted_put oi a oj.dst u h3)
  unfold lOp at *
  simp only [hj] at *
  rw [wanted_put oj a oi.dst v h1] at h
  split
  · rename_i hw
    rw [if_pos hw] at h
    split
    · rename_i hl
      rw [if_pos hl] at h
      refine loudAt_map (execOp_put oj hsj a oi.dst v h1).symm (fun u w' hC' hK => ⟨hC', keep a hy u, ?_⟩) h
      rw [← Act.put_comm a v u h2]
      exact hK
    · rename_i hl
      rw [if_neg hl] at h
      obtain ⟨u, hu, hn⟩ := h
      refine ⟨u, fun w' hw' => ?_, hC, keep a hy u, by rw [← Act.put_comm a v u h2]; exact hn⟩
      have := hu w' hw'
      unfold readAt at *
      rwa [execOp_put oj hsj a oi.dst v h1] at this
  · rename_i hw
    rw [if_neg hw] at h
    exact ⟨hC, keep a hy _, by rw [← Act.put_comm a v undef h2]; exact h⟩

theorem lOp_mono {i : Nat} {a : Act} {w : World} {K K' : Act → World → Prop} (h : ∀ a w, K a w → K' a w) (hh : lOp P ops C loud i K a w) : lOp P ops C loud i K' a w := by
  unfold lOp at *
  split
  · rename_i ho; simp only [ho] at hh; exact h _ _ hh
  · rename_i o ho
    simp only [ho] at hh
    split
    · rename_i hw
      rw [if_pos hw] at hh
      split
      · rename_i hl
        rw [if_pos hl] at hh
        exact loudAt_map rfl (fun v w' _ hK => h _ _ hK) hh
      · rename_i hl
        rw [if_neg hl] at hh
        exact let ⟨v, h1, h2⟩ := hh; ⟨v, h1, h _ _ h2⟩
    · rename_i hw
      rw [if_neg hw] at hh
      exact h _ _ hh

/-! #### Which operations wait for which -/
def edgeB (md : Region.Mode) (ops : Array Oper) (j i : Nat) : Bool :=
  match ops[j]? with
  | some o => o.after.any fun e => Region.binds md e && e.on == i
  | none => false
def pathTo (md : Region.Mode) (ops : Array Oper) : Nat → List Nat → Nat → Prop
  | j, [], i => edgeB md ops j i = true
  | j, k :: p, i => edgeB md ops j k = true ∧ pathTo md ops k p i
theorem pathTo.trans {j k i : Nat} : ∀ {p q : List Nat}, pathTo md ops j p k → pathTo md ops k q i → pathTo md ops j (p ++ k :: q) i
  | [], q, h, h' => ⟨h, h'⟩
  | m :: p, q, h, h' => ⟨h.1, pathTo.trans h.2 h'⟩
def Closed (md : Region.Mode) (ops : Array Oper) (listed : Array Bool) : Prop :=
  ∀ k i, listed.getD k false = true → edgeB md ops k i = true → listed.getD i false = true
theorem Closed.path {listed : Array Bool} (h : Closed md ops listed) {i : Nat} : ∀ {p : List Nat} {j : Nat}, (∀ k, edgeB md ops j k = true → listed.getD k false = true) → pathTo md ops j p i → listed.getD i false = true
  | [], j, hj, hp => hj i hp
  | k :: p, j, hj, hp => Closed.path h (fun m hm => h k m (hj k hp.1) hm) hp.2
theorem ready_edges {listed : Array Bool} {j : Nat} (h : j ∈ Region.ready md ops listed) : ∀ k, edgeB md ops j k = true → listed.getD k false = true := by
  obtain ⟨_, oj, hoj, hall⟩ := mem_ready.1 h
  intro k hk
  unfold edgeB at hk
  rw [hoj] at hk
  simp only [Array.any_eq_true'] at hk
  obtain ⟨e, he, hb⟩ := hk
  simp only [Bool.and_eq_true, beq_iff_eq] at hb
  have := hall e he hb.1
  rw [hb.2] at this
  exact this
theorem getD_set_other {listed : Array Bool} {j k : Nat} (h : k ≠ j) (b d : Bool) : (listed.setIfInBounds j b).getD k d = listed.getD k d := by
  simp only [Array.getD_eq_getD_getElem?]
  rw [Array.getElem?_setIfInBounds_ne (Ne.symm h)]
theorem Closed.set {listed : Array Bool} (h : Closed md ops listed) {j : Nat} (hj : j ∈ Region.ready md ops listed) : Closed md ops (listed.setIfInBounds j true) := by
  have up : ∀ i, listed.getD i false = true → (listed.setIfInBounds j true).getD i false = true := fun i hi => by
    by_cases e : i = j
    · subst e
      rw [Array.getD_eq_getD_getElem?] at hi ⊢
      rw [Array.getElem?_setIfInBounds]
      rcases Nat.lt_or_ge i listed.size with hlt | hge
      · simp [hlt]
      · rw [Array.getElem?_eq_none hge] at hi; cases hi
    · rw [getD_set_other e]; exact hi
  intro k i hk he
  by_cases e : k = j
  · subst e; exact up i (ready_edges hj i he)
  · rw [getD_set_other e] at hk
    exact up i (h k i hk he)

theorem unlisted {listed : Array Bool} {i : Nat} (h : i ∈ Region.ready md ops listed) : listed.getD i false = false := by
  have h0 := (mem_ready.1 h).1
  rw [Array.getD_eq_getD_getElem?] at h0 ⊢
  cases hx : listed[i]? with
  | none => rfl
  | some b => rw [hx] at h0; exact h0

/-- An operation that may come up now, and only reads, may be taken first. -/
theorem wpAnyL_first_read {Q : Act → World → Prop} {i : Nat} {oi : Oper} {v : Value} (hi : ops[i]? = some oi) (hsel : ∀ (j : Nat) (o : Oper) cs b, ops[j]? = some o → o.op ≠ .select cs b) :
    ∀ (fuel : Nat) (listed : Array Bool) (a : Act) (w : World), C w →
      (∀ j oj, ops[j]? = some oj → j ≠ i → listed.getD j true = false → (∀ e ∈ oj.after, Region.binds md e = true → e.on ≠ i) → oi.apart ops oj = true) →
      i ∈ Region.ready md ops listed → ReadsIn P ops C loud i oi v a →
      wpAnyL P md ops C loud Q fuel (listed.setIfInBounds i true) (a.put oi.dst v) w → wpAnyL P md ops C loud Q (fuel + 1) listed a w := by
  intro fuel
  induction fuel with
  | zero =>
    intro listed a w hC _ hr hy H
    refine ⟨fun h => (by rw [h] at hr; cases hr), fun j hj => ?_⟩
    by_cases hji : j = i
    · subst hji; exact hy.lOp hi H
    · have := ready_mono hj hji
      rw [H.1] at this
      cases this
  | succ fuel ih =>
    intro listed a w hC hfree hr hy H
    refine ⟨fun h => (by rw [h] at hr; cases hr), fun j hj => ?_⟩
    by_cases hji : j = i
    · subst hji; exact hy.lOp hi H
    · have h1 := H.2 j (ready_mono hj hji)
      obtain ⟨hjun, oj, hoj, hall⟩ := mem_ready.1 hj
      have hnot : ∀ e ∈ oj.after, Region.binds md e = true → e.on ≠ i := fun e he hb heq => by
        have h1 := hall e he hb
        rw [heq, unlisted hr] at h1
        cases h1
      have h2 := lOp_put hoj (hfree j oj hoj hji hjun hnot) (fun cs b => hsel i oi cs b hi) (fun cs b => hsel j oj cs b hoj) hC hy h1
      have hfree' : ∀ k ok, ops[k]? = some ok → k ≠ i → (listed.setIfInBounds j true).getD k true = false →
          (∀ e ∈ ok.after, Region.binds md e = true → e.on ≠ i) → oi.apart ops ok = true := fun k ok hk hki hun hno => by
        refine hfree k ok hk hki ?_ hno
        by_cases hjk : j = k
        · subst hjk; exact hjun
        · rw [getD_set_ne true hjk] at hun; exact hun
      refine lOp_mono (fun a' w' h3 => ih (listed.setIfInBounds j true) a' w' h3.1 hfree' (ready_mono hr (Ne.symm hji)) h3.2.1 ?_) h2
      rw [Array.setIfInBounds_comm _ _ hji]
      exact h3.2.2

/-- A loud one, for which every other loud one waits, may be taken first. -/
theorem wpAnyL_first_loud {Q : Act → World → Prop} {i : Nat} {oi : Oper} (hi : ops[i]? = some oi) (hli : loud i = true) (hsel : ∀ (j : Nat) (o : Oper) cs b, ops[j]? = some o → o.op ≠ .select cs b) :
    ∀ (fuel : Nat) (listed : Array Bool) (a : Act) (w : World), C w → Closed md ops listed →
      (∀ j oj, ops[j]? = some oj → j ≠ i → listed.getD j true = false → (∀ e ∈ oj.after, Region.binds md e = true → e.on ≠ i) → oi.apart ops oj = true) →
      (∀ j, loud j = true → j ≠ i → listed.getD j true = false → ∃ p, pathTo md ops j p i) →
      i ∈ Region.ready md ops listed → Region.wanted oi (yielded ops a.tmps) = true →
      loudAt P C oi a (wpAnyL P md ops C loud Q fuel (listed.setIfInBounds i true)) w → wpAnyL P md ops C loud Q (fuel + 1) listed a w := by
  have self : ∀ {a : Act} {w : World} {K : Act → World → Prop}, Region.wanted oi (yielded ops a.tmps) = true → loudAt P C oi a K w → lOp P ops C loud i K a w := fun {a w K} hw h => by
    unfold lOp
    simp only [hi]
    rw [if_pos hw, if_pos hli]
    exact h
  intro fuel
  induction fuel with
  | zero =>
    intro listed a w hC _ _ _ hr hw H
    refine ⟨fun h => (by rw [h] at hr; cases hr), fun j hj => ?_⟩
    by_cases hji : j = i
    · subst hji; exact self hw H
    · obtain ⟨v, w', _, h0⟩ := loudAt_inst H
      have := ready_mono hj hji
      rw [h0.1] at this
      cases this
  | succ fuel ih =>
    intro listed a w hC hcl hfree hdep hr hw H
    refine ⟨fun h => (by rw [h] at hr; cases hr), fun j hj => ?_⟩
    by_cases hji : j = i
    · subst hji; exact self hw H
    · obtain ⟨hjun, oj, hoj, hall⟩ := mem_ready.1 hj
      have hnot : ∀ e ∈ oj.after, Region.binds md e = true → e.on ≠ i := fun e he hb heq => by
        have h1 := hall e he hb
        rw [heq, unlisted hr] at h1
        cases h1
      have hquiet : loud j = false := by
        cases hl : loud j with
        | false => rfl
        | true =>
          obtain ⟨p, hp⟩ := hdep j hl hji hjun
          have := hcl.path (ready_edges hj) hp
          rw [unlisted hr] at this
          cases this
      have hap := hfree j oj hoj hji hjun hnot
      obtain ⟨h1, h2, h3⟩ := Oper.apart_spec hap
      have hsi := fun cs b => hsel i oi cs b hi
      have hsj := fun cs b => hsel j oj cs b hoj
      have hfree' : ∀ k ok, ops[k]? = some ok → k ≠ i → (listed.setIfInBounds j true).getD k true = false →
          (∀ e ∈ ok.after, Region.binds md e = true → e.on ≠ i) → oi.apart ops ok = true := fun k ok hk hki hun hno => by
        refine hfree k ok hk hki ?_ hno
        by_cases hjk : j = k
        · subst hjk; exact hjun
        · rw [getD_set_ne true hjk] at hun; exact hun
      have hdep' : ∀ k, loud k = true → k ≠ i → (listed.setIfInBounds j true).getD k true = false → ∃ p, pathTo md ops k p i := fun k hk hki hun => by
        refine hdep k hk hki ?_
        by_cases hjk : j = k
        · subst hjk; rw [hquiet] at hk; cases hk
        · rw [getD_set_ne true hjk] at hun; exact hun
      -- what j does behind i, from an instance
      have back : ∀ v w', C w' → wpAnyL P md ops C loud Q (fuel + 1) (listed.setIfInBounds i true) (a.put oi.dst v) w' →
          lOp P ops C loud j (wpAnyL P md ops C loud Q fuel ((listed.setIfInBounds i true).setIfInBounds j true)) (a.put oi.dst v) w' := fun v w' _ h => h.2 j (ready_mono hj hji)
      unfold lOp
      simp only [hoj]
      by_cases hwj : Region.wanted oj (yielded ops a.tmps) = true
      · rw [if_pos hwj, hquiet]
        simp only [Bool.false_eq_true, if_false]
        obtain ⟨v0, w0, hC0, h0⟩ := loudAt_inst H
        have h0' := back v0 w0 hC0 h0
        unfold lOp at h0'
        simp only [hoj] at h0'
        rw [wanted_put oj a oi.dst v0 h1, if_pos hwj, hquiet] at h0'
        simp only [Bool.false_eq_true, if_false] at h0'
        obtain ⟨u, hu, _⟩ := h0'
        have hu' : ∀ w', C w' → readAt P oj a w' u := fun w' hw' => by
          have := hu w' hw'
          unfold readAt at *
          rwa [execOp_put oj hsj a oi.dst v0 h1] at this
        refine ⟨u, hu', ih (listed.setIfInBounds j true) (a.put oj.dst u) w hC (hcl.set hj) hfree' hdep' (ready_mono hr (Ne.symm hji)) (by rw [wanted_put oi a oj.dst u h3]; exact hw) ?_⟩
        refine loudAt_map (execOp_put oi hsi a oj.dst u h3) (fun v w' hC' hK => ?_) H
        have hb := back v w' hC' hK
        unfold lOp at hb
        simp only [hoj] at hb
        rw [wanted_put oj a oi.dst v h1, if_pos hwj, hquiet] at hb
        simp only [Bool.false_eq_true, if_false] at hb
        obtain ⟨u2, hu2, hn⟩ := hb
        have e : u2 = u := by
          have r2 := hu2 w' hC'
          have r1 := hu' w' hC'
          unfold readAt at r1 r2
          rw [execOp_put oj hsj a oi.dst v h1] at r2
          exact readAt_fun (P := P) (o := oj) (a := a) r2 r1
        subst e
        rw [Array.setIfInBounds_comm _ _ (Ne.symm hji)] at hn
        rw [← Act.put_comm a v u2 h2]
        exact hn
      · rw [if_neg hwj]
        refine ih (listed.setIfInBounds j true) (a.put oj.dst undef) w hC (hcl.set hj) hfree' hdep' (ready_mono hr (Ne.symm hji)) (by rw [wanted_put oi a oj.dst undef h3]; exact hw) ?_
        refine loudAt_map (execOp_put oi hsi a oj.dst undef h3) (fun v w' hC' hK => ?_) H
        have hb := back v w' hC' hK
        unfold lOp at hb
        simp only [hoj] at hb
        rw [wanted_put oj a oi.dst v h1, if_neg hwj] at hb
        rw [Array.setIfInBounds_comm _ _ (Ne.symm hji)] at hb
        rw [← Act.put_comm a v undef h2]
        exact hb

/-! #### The order of the text -/
def wpL (P : Program) (ops : Array Oper) (C : World → Prop) (loud : Nat → Bool) (Q : Act → World → Prop) : List Oper → Nat → Act → World → Prop
  | [], _, a, w => Q a w
  | o :: rest, k, a, w =>
    if Region.wanted o (yielded ops a.tmps) = true then
      (if loud k = true then loudAt P C o a (wpL P ops C loud Q rest (k + 1)) w else ∃ v, (∀ w', C w' → readAt P o a w' v) ∧ wpL P ops C loud Q rest (k + 1) (a.put o.dst v) w)
    else wpL P ops C loud Q rest (k + 1) (a.put o.dst undef) w

theorem wpAnyL_lex {Q : Act → World → Prop} (hs : Region.noSelect ops = true) (hdep : ∀ i j, loud i = true → loud j = true → i < j → ∃ p, pathTo md ops j p i) :
    ∀ (l : List Oper) (k : Nat) (listed : Array Bool) (a : Act) (w : World), C w → Closed md ops listed → (∀ j, j < k → listed.getD j true = true) → (∀ j, l[j]? = ops[k + j]?) →
    Region.lexFrom md ops l.length k listed = true → wpL P ops C loud Q l k a w → wpAnyL P md ops C loud Q l.length listed a w
  | [], _, _, _, _, _, _, _, _, hB, h => ⟨by simpa [Region.lexFrom] using hB, h⟩
  | o :: l, k, listed, a, w, hC, hcl, hlt, hl, hB, h => by
    have h0 : ops[k]? = some o := by simpa using (hl 0).symm
    simp only [List.length_cons, Region.lexFrom, Bool.and_eq_true] at hB
    obtain ⟨⟨hr0, hf⟩, hB'⟩ := hB
    have hr : k ∈ Region.ready md ops listed := by simpa using hr0
    have hl' : ∀ j, l[j]? = ops[k + 1 + j]? := fun j => by have := hl (j + 1); simpa [Nat.add_assoc, Nat.add_comm 1 j] using this
    have hlt' : ∀ j, j < k + 1 → (listed.setIfInBounds k true).getD j true = true := fun j hj => by
      by_cases e : j = k
      · subst e
        rw [Array.getD_eq_getD_getElem?, Array.getElem?_setIfInBounds]
        simp only [if_true]
        split <;> rfl
      · rw [getD_set_other e]; exact hlt j (by omega)
    have go : ∀ a' w', C w' → wpL P ops C loud Q l (k + 1) a' w' → wpAnyL P md ops C loud Q l.length (listed.setIfInBounds k true) a' w' := fun a' w' hC' h' =>
      wpAnyL_lex hs hdep l (k + 1) _ a' w' hC' (hcl.set hr) hlt' hl' hB' h'
    unfold wpL at h
    by_cases hw : Region.wanted o (yielded ops a.tmps) = true
    · rw [if_pos hw] at h
      by_cases hld : loud k = true
      · rw [if_pos hld] at h
        refine wpAnyL_first_loud h0 hld (Region.noSelect_spec hs) l.length listed a w hC hcl (Region.free_spec h0 hf) (fun j hj hjk hun => ?_) hr hw (loudAt_map rfl (fun v w' hC' hK => go _ _ hC' hK) h)
        refine hdep k j hld hj ?_
        rcases Nat.lt_or_ge k j with hlt2 | hge
        · exact hlt2
        · have := hlt j (by omega)
          rw [hun] at this
          cases this
      · rw [if_neg hld] at h
        obtain ⟨v, h1, h2⟩ := h
        exact wpAnyL_first_read h0 (Region.noSelect_spec hs) l.length listed a w hC (Region.free_spec h0 hf) hr (.inl ⟨hw, by simpa using hld, h1⟩) (go _ _ hC h2)
    · rw [if_neg hw] at h
      exact wpAnyL_first_read h0 (Region.noSelect_spec hs) l.length listed a w hC (Region.free_spec h0 hf) hr (.inr ⟨by simpa using hw, rfl⟩) (go _ _ hC h)

/-- Is there a way from operation j back to operation i? -/
def reachB (ops : Array Oper) : Nat → Nat → Nat → Bool
  | 0, _, _ => false
  | fuel + 1, j, i => edgeB .any ops j i ||
    (match ops[j]? with
     | some o => o.after.toList.any fun e => Region.binds .any e && Nat.blt i e.on && reachB ops fuel e.on i
     | none => false)
theorem reachB_path : ∀ (fuel j i : Nat), reachB ops fuel j i = true → ∃ p, pathTo .any ops j p i
  | 0, _, _, h => by simp [reachB] at h
  | fuel + 1, j, i, h => by
    unfold reachB at h
    rw [Bool.or_eq_true] at h
    rcases h with h | h
    · exact ⟨[], h⟩
    · cases ho : ops[j]? with
      | none => rw [ho] at h; cases h
      | some o =>
        rw [ho] at h
        simp only [List.any_eq_true, Bool.and_eq_true] at h
        obtain ⟨e, he, ⟨hb, _⟩, hr⟩ := h
        obtain ⟨p, hp⟩ := reachB_path fuel e.on i hr
        refine ⟨e.on :: p, ?_, hp⟩
        unfold edgeB
        rw [ho]
        simp only [Array.any_eq_true']
        exact ⟨e, by simpa using he, by simp [hb]⟩
/-- Each of these waits for the one before. -/
def chainB (ops : Array Oper) : List Nat → Bool
  | i :: j :: r => Nat.blt i j && reachB ops ops.size j i && chainB ops (j :: r)
  | _ => true
theorem chainB_head : ∀ (r : List Nat) (i : Nat), chainB ops (i :: r) = true → ∀ j ∈ r, i < j ∧ ∃ p, pathTo .any ops j p i
  | [], _, _, j, hj => by simp at hj
  | k :: r, i, h, j, hj => by
    simp only [chainB, Bool.and_eq_true] at h
    obtain ⟨⟨h1, h2⟩, h3⟩ := h
    have hik : i < k := Nat.blt_eq.mp h1
    obtain ⟨p, hp⟩ := reachB_path _ _ _ h2
    rcases List.mem_cons.1 hj with rfl | hj
    · exact ⟨hik, p, hp⟩
    · obtain ⟨hlt, q, hq⟩ := chainB_head r k h3 j hj
      exact ⟨by omega, _, hq.trans hp⟩
theorem chainB_spec : ∀ (l : List Nat), chainB ops l = true → ∀ i j, i ∈ l → j ∈ l → i < j → ∃ p, pathTo .any ops j p i
  | [], _, i, _, hi, _, _ => by simp at hi
  | k :: r, h, i, j, hi, hj, hlt => by
    have hr : chainB ops r = true := by
      cases r with
      | nil => rfl
      | cons m r => simp only [chainB, Bool.and_eq_true] at h; exact h.2
    have hh := chainB_head r k h
    rcases List.mem_cons.1 hi with rfl | hi'
    · rcases List.mem_cons.1 hj with rfl | hj'
      · omega
      · exact (hh j hj').2
    · rcases List.mem_cons.1 hj with rfl | hj'
      · have := (hh i hi').1
        omega
      · exact chainB_spec r hr i j hi' hj' hlt

theorem closed_start (n : Nat) : Closed md ops (Array.replicate n false) := by
  intro k i hk
  rw [Array.getD_eq_getD_getElem?, Array.getElem?_replicate] at hk
  split at hk <;> cases hk
end

/-! ### Over frames that are functions -/
def VL (P : Program) (n : Nat) (ops : Array Oper) (C : World → Prop) (louds : List Nat) (N : Fr → World → Prop) (l : List Oper) (k : Nat) (f : Fr) (w : World) : Prop :=
  ∀ a, FrOk n a f → wpL P ops C (fun i => louds.contains i) (fun a' w' => ∃ f', FrOk n a' f' ∧ N f' w') l k a w

section
variable {P : Program} {n : Nat} {ops : Array Oper} {rest : List Oper} {o : Oper} {C : World → Prop} {louds : List Nat} {N : Fr → World → Prop} {f : Fr} {v : Value} {k : Nat} {w w' : World}

theorem VL.nil (h : N f w) : VL P n ops C louds N [] k f w := fun a ha => ⟨f, ha, h⟩

theorem VL.readG (hl : louds.contains k = false) (hw : Region.wanted o (fyield ops f) = true) (hd : dstOk n o.dst = true) (hr : ∀ w, C w → (execOp f.ev o).run P w = .ok (.value v) w)
    (h : VL P n ops C louds N rest (k + 1) (f.putO o.dst v) w) : VL P n ops C louds N (o :: rest) k f w := fun a ha => by
  unfold wpL
  rw [ha.yield, if_pos hw, if_neg (by rw [hl]; exact Bool.false_ne_true)]
  refine ⟨v, fun w' hC => ?_, h _ (ha.putO hd v)⟩
  unfold readAt
  rw [ha.eval, hr w' hC]
  exact ⟨rfl, rfl⟩
theorem VL.pass (hw : Region.wanted o (fyield ops f) = false) (hd : dstOk n o.dst = true) (h : VL P n ops C louds N rest (k + 1) (f.putO o.dst undef) w) : VL P n ops C louds N (o :: rest) k f w := fun a ha => by
  unfold wpL
  rw [ha.yield, hw]
  exact h _ (ha.putO hd undef)
theorem VL.valG (hl : louds.contains k = true) (hw : Region.wanted o (fyield ops f) = true) (hd : dstOk n o.dst = true) (hr : (execOp f.ev o).run P w = .ok (.value v) w') (hC : C w')
    (h : VL P n ops C louds N rest (k + 1) (f.putO o.dst v) w') : VL P n ops C louds N (o :: rest) k f w := fun a ha => by
  unfold wpL
  rw [ha.yield, if_pos hw, if_pos hl]
  unfold loudAt
  rw [ha.eval, hr]
  exact ⟨hC, h _ (ha.putO hd v)⟩
theorem VL.skipG (hl : louds.contains k = true) (hw : Region.wanted o (fyield ops f) = true) (hd : dstOk n o.dst = true) (hr : (execOp f.ev o).run P w = .ok .skip w') (hC : C w')
    (h : VL P n ops C louds N rest (k + 1) (f.putO o.dst undef) w') : VL P n ops C louds N (o :: rest) k f w := fun a ha => by
  unfold wpL
  rw [ha.yield, if_pos hw, if_pos hl]
  unfold loudAt
  rw [ha.eval, hr]
  exact ⟨hC, h _ (ha.putO hd undef)⟩
theorem VL.callG {g : FuncId} {args : Array Value} {R : Value → World → Prop} (hl : louds.contains k = true) (hw : Region.wanted o (fyield ops f) = true) (hd : dstOk n o.dst = true) (hr : (execOp f.ev o).run P w = .ok (.enter g args) w)
    (hc : Calls P g args w (Ret R)) (h : ∀ v w', R v w' → C w' ∧ VL P n ops C louds N rest (k + 1) (f.putO o.dst v) w') : VL P n ops C louds N (o :: rest) k f w := fun a ha => by
  unfold wpL
  rw [ha.yield, if_pos hw, if_pos hl]
  unfold loudAt
  rw [ha.eval, hr]
  refine hc.mono ?_
  rintro e w'' ⟨u, rfl, hu⟩
  obtain ⟨h1, h2⟩ := h u w'' hu
  exact ⟨u, rfl, h1, h2 _ (ha.putO hd u)⟩

theorem VL.pure (hl : louds.contains k = false) (hg : o.guard = none) (hd : dstOk n o.dst = true) (hp : Pure P f o v) (h : VL P n ops C louds N rest (k + 1) (f.putO o.dst v) w) : VL P n ops C louds N (o :: rest) k f w :=
  VL.readG hl (wanted_none hg _) hd (fun w _ => hp w) h
theorem VL.pureG (hl : louds.contains k = false) (hw : Region.wanted o (fyield ops f) = true) (hd : dstOk n o.dst = true) (hp : Pure P f o v) (h : VL P n ops C louds N rest (k + 1) (f.putO o.dst v) w) : VL P n ops C louds N (o :: rest) k f w :=
  VL.readG hl hw hd (fun w _ => hp w) h
theorem VL.read (hl : louds.contains k = false) (hg : o.guard = none) (hd : dstOk n o.dst = true) (hr : ∀ w, C w → (execOp f.ev o).run P w = .ok (.value v) w)
    (h : VL P n ops C louds N rest (k + 1) (f.putO o.dst v) w) : VL P n ops C louds N (o :: rest) k f w := VL.readG hl (wanted_none hg _) hd hr h
theorem VL.val (hl : louds.contains k = true) (hg : o.guard = none) (hd : dstOk n o.dst = true) (hr : (execOp f.ev o).run P w = .ok (.value v) w') (hC : C w')
    (h : VL P n ops C louds N rest (k + 1) (f.putO o.dst v) w') : VL P n ops C louds N (o :: rest) k f w := VL.valG hl (wanted_none hg _) hd hr hC h
theorem VL.skip (hl : louds.contains k = true) (hg : o.guard = none) (hd : dstOk n o.dst = true) (hr : (execOp f.ev o).run P w = .ok .skip w') (hC : C w')
    (h : VL P n ops C louds N rest (k + 1) (f.putO o.dst undef) w') : VL P n ops C louds N (o :: rest) k f w := VL.skipG hl (wanted_none hg _) hd hr hC h
theorem VL.call {g : FuncId} {args : Array Value} {R : Value → World → Prop} (hl : louds.contains k = true) (hg : o.guard = none) (hd : dstOk n o.dst = true) (hr : (execOp f.ev o).run P w = .ok (.enter g args) w)
    (hc : Calls P g args w (Ret R)) (h : ∀ v w', R v w' → C w' ∧ VL P n ops C louds N rest (k + 1) (f.putO o.dst v) w') : VL P n ops C louds N (o :: rest) k f w :=
  VL.callG hl (wanted_none hg _) hd hr hc h
theorem VL.splitD {l : List Oper} (d : Nat) {p : Prop} [Decidable p] (hb : f d = .bool (decide p))
    (ht : p → VL P n ops C louds N l k (f.put d (.bool true)) w) (hf : ¬ p → VL P n ops C louds N l k (f.put d (.bool false)) w) : VL P n ops C louds N l k f w := by
  by_cases h : p
  · have := ht h
    rwa [Fr.put_self (by rw [hb, decide_eq_true h])] at this
  · have := hf h
    rwa [Fr.put_self (by rw [hb, decide_eq_false h])] at this
theorem VL.knownT {l : List Oper} (d : Nat) {b : Bool} (hb : f d = .bool b) (h : b = true) (hn : VL P n ops C louds N l k (f.put d (.bool true)) w) : VL P n ops C louds N l k f w := by
  subst h
  rwa [Fr.put_self hb] at hn
theorem VL.knownF {l : List Oper} (d : Nat) {b : Bool} (hb : f d = .bool b) (h : b = false) (hn : VL P n ops C louds N l k (f.put d (.bool false)) w) : VL P n ops C louds N l k f w := by
  subst h
  rwa [Fr.put_self hb] at hn
theorem VL.splitB {l : List Oper} (d : Nat) {b : Bool} (hb : f d = .bool b)
    (ht : b = true → VL P n ops C louds N l k (f.put d (.bool true)) w) (hf : b = false → VL P n ops C louds N l k (f.put d (.bool false)) w) : VL P n ops C louds N l k f w := by
  cases b
  · have := hf rfl
    rwa [Fr.put_self hb] at this
  · have := ht rfl
    rwa [Fr.put_self hb] at this

/-- A region that draws its order: what reads, reads the same in every world of 'C'; what turns the world comes in one order. -/
theorem VC.loud {id : Nat} {l : List Oper} {Rt : Fr → World → Prop} {X G : List (Nat × (Fr → World → Prop))} (C : World → Prop) (louds : List Nat) (hm : P.follows .mixedOrders = true)
    (hB : (Region.lexB .any l.toArray && chainB l.toArray louds) = true) (hC : C w.drew)
    (h : VL P n l.toArray C louds N l 0 f w.drew) : VC P n (.region id l.toArray true) N Rt X G f w := fun a ha => by
  rw [Bool.and_eq_true] at hB
  have hB1 := hB.1
  simp only [Region.lexB, Bool.and_eq_true] at hB1
  refine wp_region_any hm (wpAny_of_L (C := C) (loud := fun i => louds.contains i) (Q := fun a' w' => ∃ f', FrOk n a' f' ∧ N f' w') (fun a' w' _ q => q) _ _ _ _ hC ?_)
  have := wpAnyL_lex (P := P) (C := C) (loud := fun i => louds.contains i) (md := .any) hB1.1
    (fun i j hi hj hlt => chainB_spec louds hB.2 i j (by simpa using hi) (by simpa using hj) hlt)
    l 0 (Array.replicate l.toArray.size false) a w.drew hC (closed_start _) (fun j hj => by omega) (by simp) (by simpa using hB1.2) (h a ha)
  simpa using this
end

end Go.Bd
