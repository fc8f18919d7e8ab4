/- Regions that draw their order, in which what turns the world may come in more than one order: the walk branches there. Conditions: none; nothing here speaks of one program. -/
import Derived.Test.YtjnplhmhkindpaaSto
namespace Go.Bd
set_option linter.unusedVariables false

section
variable {P : Program} {ops : Array Oper} {md : Region.Mode} {C : World → Prop} {loud : Nat → Bool}

/-- Loud ones that may come up now, for one of which every other loud one waits: each of them taken first. -/
theorem wpAnyL_branch {Q : Act → World → Prop} (S : List Nat) (i0 : Nat) (hi0 : i0 ∈ S) (hsel : ∀ (j : Nat) (o : Oper) cs b, ops[j]? = some o → o.op ≠ .select cs b) :
    ∀ (fuel : Nat) (listed : Array Bool) (a : Act) (w : World), C w → Closed md ops listed →
      (∀ i ∈ S, loud i = true ∧ i ∈ Region.ready md ops listed) →
      (∀ i ∈ S, ∀ oi, ops[i]? = some oi → ∀ j oj, ops[j]? = some oj → j ≠ i → listed.getD j true = false → loud j = false → (∀ e ∈ oj.after, Region.binds md e = true → e.on ≠ i) → oi.apart ops oj = true) →
      (∀ j, loud j = true → j ∉ S → listed.getD j true = false → ∃ i ∈ S, ∃ p, pathTo md ops j p i) →
      (∀ i ∈ S, ∃ oi, ops[i]? = some oi ∧ Region.wanted oi (yielded ops a.tmps) = true ∧ loudAt P C oi a (wpAnyL P md ops C loud Q fuel (listed.setIfInBounds i true)) w) →
      wpAnyL P md ops C loud Q (fuel + 1) listed a w := by
  have self : ∀ {i : Nat} {oi : Oper} {a : Act} {w : World} {K : Act → World → Prop}, ops[i]? = some oi → loud i = true → Region.wanted oi (yielded ops a.tmps) = true → loudAt P C oi a K w → lOp P ops C loud i K a w := fun {i oi a w K} hi hli hw h => by
    unfold lOp
    simp only [hi]
    rw [if_pos hw, if_pos hli]
    exact h
  intro fuel
  induction fuel with
  | zero =>
    intro listed a w hC _ hS _ _ H
    refine ⟨fun h => (by have := (hS i0 hi0).2; rw [h] at this; cases this), fun j hj => ?_⟩
    by_cases hjS : j ∈ S
    · obtain ⟨oi, h1, h2, h3⟩ := H j hjS
      exact self h1 (hS j hjS).1 h2 h3
    · obtain ⟨oi, _, _, h3⟩ := H i0 hi0
      obtain ⟨v, w', _, h0⟩ := loudAt_inst h3
      have := ready_mono hj (fun e => hjS (e ▸ hi0))
      rw [h0.1] at this
      cases this
  | succ fuel ih =>
    intro listed a w hC hcl hS hfree hdep H
    refine ⟨fun h => (by have := (hS i0 hi0).2; rw [h] at this; cases this), fun j hj => ?_⟩
    by_cases hjS : j ∈ S
    · obtain ⟨oi, h1, h2, h3⟩ := H j hjS
      exact self h1 (hS j hjS).1 h2 h3
    · obtain ⟨hjun, oj, hoj, hall⟩ := mem_ready.1 hj
      have hji : ∀ i ∈ S, j ≠ i := fun i hi e => hjS (e ▸ hi)
      have hnot : ∀ i ∈ S, ∀ e ∈ oj.after, Region.binds md e = true → e.on ≠ i := fun i hi e he hb heq => by
        have h1 := hall e he hb
        rw [heq, unlisted (hS i hi).2] at h1
        cases h1
      have hquiet : loud j = false := by
        cases hl : loud j with
        | false => rfl
        | true =>
          obtain ⟨i, hi, p, hp⟩ := hdep j hl hjS hjun
          have := hcl.path (ready_edges hj) hp
          rw [unlisted (hS i hi).2] at this
          cases this
      have hsj := fun cs b => hsel j oj cs b hoj
      have hS' : ∀ i ∈ S, loud i = true ∧ i ∈ Region.ready md ops (listed.setIfInBounds j true) := fun i hi => ⟨(hS i hi).1, ready_mono (hS i hi).2 (Ne.symm (hji i hi))⟩
      have hun' : ∀ k, k ≠ j → (listed.setIfInBounds j true).getD k true = false → listed.getD k true = false := fun k hk h => by
        rw [getD_set_ne true (Ne.symm hk)] at h; exact h
      have hfree' : ∀ i ∈ S, ∀ oi, ops[i]? = some oi → ∀ k ok, ops[k]? = some ok → k ≠ i → (listed.setIfInBounds j true).getD k true = false → loud k = false → (∀ e ∈ ok.after, Region.binds md e = true → e.on ≠ i) → oi.apart ops ok = true :=
        fun i hi oi hoi k ok hk hki hun hlk hno => by
        refine hfree i hi oi hoi k ok hk hki ?_ hlk hno
        by_cases hjk : k = j
        · subst hjk; exact hjun
        · exact hun' k hjk hun
      have hdep' : ∀ k, loud k = true → k ∉ S → (listed.setIfInBounds j true).getD k true = false → ∃ i ∈ S, ∃ p, pathTo md ops k p i := fun k hk hkS hun => by
        refine hdep k hk hkS ?_
        by_cases hjk : k = j
        · subst hjk; rw [hquiet] at hk; cases hk
        · exact hun' k hjk hun
      -- what j does behind i, from an instance
      have back : ∀ i ∈ S, ∀ oi v w', C w' → wpAnyL P md ops C loud Q (fuel + 1) (listed.setIfInBounds i true) (a.put (Oper.dst oi) v) w' →
          lOp P ops C loud j (wpAnyL P md ops C loud Q fuel ((listed.setIfInBounds i true).setIfInBounds j true)) (a.put oi.dst v) w' := fun i hi oi v w' _ h => h.2 j (ready_mono hj (hji i hi))
      unfold lOp
      simp only [hoj]
      by_cases hwj : Region.wanted oj (yielded ops a.tmps) = true
      · rw [if_pos hwj, hquiet]
        simp only [Bool.false_eq_true, if_false]
        obtain ⟨u, hu'⟩ : ∃ u, ∀ w', C w' → readAt P oj a w' u := by
          obtain ⟨oi, hoi, hw, H0⟩ := H i0 hi0
          obtain ⟨h1, h2, h3⟩ := Oper.apart_spec (hfree i0 hi0 oi hoi j oj hoj (hji i0 hi0) hjun hquiet (hnot i0 hi0))
          obtain ⟨v0, w0, hC0, h0⟩ := loudAt_inst H0
          have h0' := back i0 hi0 oi v0 w0 hC0 h0
          unfold lOp at h0'
          simp only [hoj] at h0'
          rw [wanted_put oj a oi.dst v0 h1, if_pos hwj, hquiet] at h0'
          simp only [Bool.false_eq_true, if_false] at h0'
          obtain ⟨u, hu, _⟩ := h0'
          refine ⟨u, fun w' hw' => ?_⟩
          have := hu w' hw'
          unfold readAt at *
          rwa [execOp_put oj hsj a oi.dst v0 h1] at this
        refine ⟨u, hu', ih (listed.setIfInBounds j true) (a.put oj.dst u) w hC (hcl.set hj) hS' hfree' hdep' ?_⟩
        intro i hi
        obtain ⟨oi, hoi, hw, H0⟩ := H i hi
        obtain ⟨h1, h2, h3⟩ := Oper.apart_spec (hfree i hi oi hoi j oj hoj (hji i hi) hjun hquiet (hnot i hi))
        have hsi := fun cs b => hsel i oi cs b hoi
        refine ⟨oi, hoi, by rw [wanted_put oi a oj.dst u h3]; exact hw, ?_⟩
        refine loudAt_map (execOp_put oi hsi a oj.dst u h3) (fun v w' hC' hK => ?_) H0
        have hb := back i hi oi v w' hC' hK
        unfold lOp at hb
        simp only [hoj] at hb
        rw [wanted_put oj a oi.dst v h1, if_pos hwj, hquiet] at hb
        simp only [Bool.false_eq_true, if_false] at hb
        obtain ⟨u2, hu2, hn⟩ := hb
        have e : u2 = u := by
          have r2 := hu2 w' hC'
          have r1 := hu' w' hC'
          unfold readAt at r1 r2
          rw [execOp_put oj hsj a oi.dst v h1] at r2
          exact readAt_fun (P := P) (o := oj) (a := a) r2 r1
        subst e
        rw [Array.setIfInBounds_comm _ _ (Ne.symm (hji i hi))] at hn
        rw [← Act.put_comm a v u2 h2]
        exact hn
      · rw [if_neg hwj]
        refine ih (listed.setIfInBounds j true) (a.put oj.dst undef) w hC (hcl.set hj) hS' hfree' hdep' ?_
        intro i hi
        obtain ⟨oi, hoi, hw, H0⟩ := H i hi
        obtain ⟨h1, h2, h3⟩ := Oper.apart_spec (hfree i hi oi hoi j oj hoj (hji i hi) hjun hquiet (hnot i hi))
        have hsi := fun cs b => hsel i oi cs b hoi
        refine ⟨oi, hoi, by rw [wanted_put oi a oj.dst undef h3]; exact hw, ?_⟩
        refine loudAt_map (execOp_put oi hsi a oj.dst undef h3) (fun v w' hC' hK => ?_) H0
        have hb := back i hi oi v w' hC' hK
        unfold lOp at hb
        simp only [hoj] at hb
        rw [wanted_put oj a oi.dst v h1, if_neg hwj] at hb
        rw [Array.setIfInBounds_comm _ _ (Ne.symm (hji i hi))] at hb
        rw [← Act.put_comm a v undef h2]
        exact hb
end

/-! ### Over frames that are functions -/
def listedOf (n : Nat) : List Nat → Array Bool
  | [] => Array.replicate n false
  | i :: r => (listedOf n r).setIfInBounds i true

def VD (P : Program) (n : Nat) (ops : Array Oper) (C : World → Prop) (louds : List Nat) (N : Fr → World → Prop) (done : List Nat) (f : Fr) (w : World) : Prop :=
  Region.noSelect ops = true → C w → Closed .any ops (listedOf ops.size done) → ∀ a, FrOk n a f →
    wpAnyL P .any ops C (fun i => louds.contains i) (fun a' w' => ∃ f', FrOk n a' f' ∧ N f' w') (ops.size - done.length) (listedOf ops.size done) a w

/-- May operation i, a reading one, be taken now? -/
def readB (ops : Array Oper) (louds done : List Nat) (i : Nat) : Bool :=
  Nat.blt done.length ops.size && !louds.contains i && (Region.ready .any ops (listedOf ops.size done)).contains i && Region.free .any ops (listedOf ops.size done) i
def freeR (ops : Array Oper) (louds : List Nat) (listed : Array Bool) (i : Nat) : Bool :=
  match ops[i]? with
  | none => false
  | some oi => (List.range ops.size).all fun j => j == i || listed.getD j true || louds.contains j || match ops[j]? with
      | some oj => oj.after.any (fun e => Region.binds .any e && e.on == i) || oi.apart ops oj
      | none => true
/-- Are these loud ones those that may come first? -/
def turnB (ops : Array Oper) (louds done : List Nat) (S : List Nat) : Bool :=
  Nat.blt done.length ops.size && (S.all fun i => louds.contains i && (Region.ready .any ops (listedOf ops.size done)).contains i && freeR ops louds (listedOf ops.size done) i)
    && louds.all fun j => S.contains j || (listedOf ops.size done).getD j true || S.any fun i => reachB ops ops.size j i

section
variable {P : Program} {n : Nat} {ops : Array Oper} {o : Oper} {C : World → Prop} {louds done : List Nat} {N : Fr → World → Prop} {f : Fr} {v : Value} {w w' : World}

theorem fuel_step (h : Nat.blt done.length ops.size = true) : ops.size - done.length = (ops.size - (done.length + 1)) + 1 := by
  have := Nat.blt_eq.mp h
  omega

theorem VD.nil (hB : (Region.ready .any ops (listedOf ops.size done)).isEmpty = true) (hz : ops.size - done.length = 0) (h : N f w) : VD P n ops C louds N done f w := fun _ _ _ a ha => by
  rw [hz]
  exact ⟨by simpa using hB, f, ha, h⟩

theorem VD.readG (i : Nat) (hi : ops[i]? = some o) (hB : readB ops louds done i = true) (hw : Region.wanted o (fyield ops f) = true) (hd : dstOk n o.dst = true) (hr : ∀ w, C w → (execOp f.ev o).run P w = .ok (.value v) w)
    (h : VD P n ops C louds N (i :: done) (f.putO o.dst v) w) : VD P n ops C louds N done f w := fun hs hC hcl a ha => by
  simp only [readB, Bool.and_eq_true, Bool.not_eq_true'] at hB
  obtain ⟨⟨⟨h1, h2⟩, h3⟩, h4⟩ := hB
  have hrd : i ∈ Region.ready .any ops (listedOf ops.size done) := by simpa using h3
  rw [fuel_step h1]
  refine wpAnyL_first_read hi (Region.noSelect_spec hs) _ _ a w hC (Region.free_spec hi h4) hrd (.inl ⟨by rw [ha.yield]; exact hw, h2, fun w' hw' => ?_⟩) (h hs hC (hcl.set hrd) _ (ha.putO hd v))
  unfold readAt
  rw [ha.eval, hr w' hw']
  exact ⟨rfl, rfl⟩
theorem VD.pass (i : Nat) (hi : ops[i]? = some o) (hB : readB ops [] done i = true) (hw : Region.wanted o (fyield ops f) = false) (hd : dstOk n o.dst = true)
    (h : VD P n ops C louds N (i :: done) (f.putO o.dst undef) w) : VD P n ops C louds N done f w := fun hs hC hcl a ha => by
  simp only [readB, Bool.and_eq_true, Bool.not_eq_true'] at hB
  obtain ⟨⟨⟨h1, h2⟩, h3⟩, h4⟩ := hB
  have hrd : i ∈ Region.ready .any ops (listedOf ops.size done) := by simpa using h3
  rw [fuel_step h1]
  exact wpAnyL_first_read hi (Region.noSelect_spec hs) _ _ a w hC (Region.free_spec hi h4) hrd (.inr ⟨by rw [ha.yield]; exact hw, rfl⟩) (h hs hC (hcl.set hrd) _ (ha.putO hd undef))

/-- One loud operation taken: the part of a turn. -/
def VDT (P : Program) (n : Nat) (ops : Array Oper) (C : World → Prop) (louds : List Nat) (N : Fr → World → Prop) (done : List Nat) (i : Nat) (f : Fr) (w : World) : Prop :=
  ∃ o, ops[i]? = some o ∧ Region.wanted o (fyield ops f) = true ∧ ∀ a, FrOk n a f → loudAt P C o a (fun a' w' => ∃ f', FrOk n a' f' ∧ VD P n ops C louds N (i :: done) f' w') w

theorem VD.turn (S : List Nat) (i0 : Nat) (hi0 : S.contains i0 = true) (hB : turnB ops louds done S = true) (h : ∀ i ∈ S, VDT P n ops C louds N done i f w) : VD P n ops C louds N done f w := fun hs hC hcl a ha => by
  simp only [turnB, Bool.and_eq_true, List.all_eq_true] at hB
  obtain ⟨⟨h1, h2⟩, h3⟩ := hB
  have hrd : ∀ i ∈ S, i ∈ Region.ready .any ops (listedOf ops.size done) := fun i hi => by simpa using (h2 i hi).1.2
  rw [fuel_step h1]
  refine wpAnyL_branch S i0 (by simpa using hi0) (Region.noSelect_spec hs) _ _ a w hC hcl (fun i hi => ⟨(h2 i hi).1.1, hrd i hi⟩) ?_ ?_ ?_
  · intro i hi oi hoi j oj hoj hji hun hlj hno
    have hf := (h2 i hi).2
    simp only [freeR, hoi, List.all_eq_true, List.mem_range] at hf
    have h4 := hf j (Array.getElem?_eq_some_iff.1 hoj).1
    simp only [hoj, Bool.or_eq_true, beq_iff_eq, hji, false_or, hun, hlj, Bool.false_eq_true] at h4
    rcases h4 with h4 | h4
    · obtain ⟨e, he, hb⟩ := Array.any_eq_true'.1 h4
      simp only [Bool.and_eq_true, beq_iff_eq] at hb
      exact absurd hb.2 (hno e he hb.1)
    · exact h4
  · intro j hj hjS hun
    have h4 := h3 j (by simpa using hj)
    simp only [Bool.or_eq_true, hun, Bool.false_eq_true, or_false, List.any_eq_true] at h4
    rcases h4 with h4 | ⟨i, hi, hr⟩
    · exact absurd (by simpa using h4) hjS
    · exact ⟨i, hi, reachB_path _ _ _ hr⟩
  · intro i hi
    obtain ⟨o, hoi, hw, hl⟩ := h i hi
    refine ⟨o, hoi, by rw [ha.yield]; exact hw, loudAt_map rfl (fun v w' hC' hK => ?_) (hl a ha)⟩
    obtain ⟨f', hf', hv⟩ := hK
    exact hv hs hC' (hcl.set (hrd i hi)) _ hf'
theorem VD.turn1 (i : Nat) (hB : turnB ops louds done [i] = true) (h : VDT P n ops C louds N done i f w) : VD P n ops C louds N done f w :=
  VD.turn [i] i (by simp) hB (fun j hj => by simp at hj; subst hj; exact h)
theorem VD.turn2 (i j : Nat) (hB : turnB ops louds done [i, j] = true) (h : VDT P n ops C louds N done i f w) (h' : VDT P n ops C louds N done j f w) : VD P n ops C louds N done f w :=
  VD.turn [i, j] i (by simp) hB (fun k hk => by
    simp at hk
    rcases hk with rfl | rfl
    · exact h
    · exact h')
theorem VD.turn3 (i j l : Nat) (hB : turnB ops louds done [i, j, l] = true) (h : VDT P n ops C louds N done i f w) (h' : VDT P n ops C louds N done j f w) (h'' : VDT P n ops C louds N done l f w) : VD P n ops C louds N done f w :=
  VD.turn [i, j, l] i (by simp) hB (fun k hk => by
    simp at hk
    rcases hk with rfl | rfl | rfl
    · exact h
    · exact h'
    · exact h'')

theorem VDT.valG {i : Nat} (hi : ops[i]? = some o) (hw : Region.wanted o (fyield ops f) = true) (hd : dstOk n o.dst = true) (hr : (execOp f.ev o).run P w = .ok (.value v) w') (hC : C w')
    (h : VD P n ops C louds N (i :: done) (f.putO o.dst v) w') : VDT P n ops C louds N done i f w := ⟨o, hi, hw, fun a ha => by
  unfold loudAt
  rw [ha.eval, hr]
  exact ⟨hC, _, ha.putO hd v, h⟩⟩
theorem VDT.skipG {i : Nat} (hi : ops[i]? = some o) (hw : Region.wanted o (fyield ops f) = true) (hd : dstOk n o.dst = true) (hr : (execOp f.ev o).run P w = .ok .skip w') (hC : C w')
    (h : VD P n ops C louds N (i :: done) (f.putO o.dst undef) w') : VDT P n ops C louds N done i f w := ⟨o, hi, hw, fun a ha => by
  unfold loudAt
  rw [ha.eval, hr]
  exact ⟨hC, _, ha.putO hd undef, h⟩⟩
theorem VDT.callG {i : Nat} {g : FuncId} {args : Array Value} {R : Value → World → Prop} (hi : ops[i]? = some o) (hw : Region.wanted o (fyield ops f) = true) (hd : dstOk n o.dst = true) (hr : (execOp f.ev o).run P w = .ok (.enter g args) w)
    (hc : Calls P g args w (Ret R)) (h : ∀ v w', R v w' → C w' ∧ VD P n ops C louds N (i :: done) (f.putO o.dst v) w') : VDT P n ops C louds N done i f w := ⟨o, hi, hw, fun a ha => by
  unfold loudAt
  rw [ha.eval, hr]
  refine hc.mono ?_
  rintro e w'' ⟨u, rfl, hu⟩
  obtain ⟨h1, h2⟩ := h u w'' hu
  exact ⟨u, rfl, h1, _, ha.putO hd u, h2⟩⟩

theorem VD.pure (i : Nat) (hi : ops[i]? = some o) (hB : readB ops louds done i = true) (hg : o.guard = none) (hd : dstOk n o.dst = true) (hp : Pure P f o v) (h : VD P n ops C louds N (i :: done) (f.putO o.dst v) w) : VD P n ops C louds N done f w :=
  VD.readG i hi hB (wanted_none hg _) hd (fun w _ => hp w) h
theorem VD.pureG (i : Nat) (hi : ops[i]? = some o) (hB : readB ops louds done i = true) (hw : Region.wanted o (fyield ops f) = true) (hd : dstOk n o.dst = true) (hp : Pure P f o v) (h : VD P n ops C louds N (i :: done) (f.putO o.dst v) w) : VD P n ops C louds N done f w :=
  VD.readG i hi hB hw hd (fun w _ => hp w) h
theorem VD.read (i : Nat) (hi : ops[i]? = some o) (hB : readB ops louds done i = true) (hg : o.guard = none) (hd : dstOk n o.dst = true) (hr : ∀ w, C w → (execOp f.ev o).run P w = .ok (.value v) w)
    (h : VD P n ops C louds N (i :: done) (f.putO o.dst v) w) : VD P n ops C louds N done f w := VD.readG i hi hB (wanted_none hg _) hd hr h
theorem VDT.val {i : Nat} (hi : ops[i]? = some o) (hg : o.guard = none) (hd : dstOk n o.dst = true) (hr : (execOp f.ev o).run P w = .ok (.value v) w') (hC : C w')
    (h : VD P n ops C louds N (i :: done) (f.putO o.dst v) w') : VDT P n ops C louds N done i f w := VDT.valG hi (wanted_none hg _) hd hr hC h
theorem VDT.skip {i : Nat} (hi : ops[i]? = some o) (hg : o.guard = none) (hd : dstOk n o.dst = true) (hr : (execOp f.ev o).run P w = .ok .skip w') (hC : C w')
    (h : VD P n ops C louds N (i :: done) (f.putO o.dst undef) w') : VDT P n ops C louds N done i f w := VDT.skipG hi (wanted_none hg _) hd hr hC h
theorem VDT.call {i : Nat} {g : FuncId} {args : Array Value} {R : Value → World → Prop} (hi : ops[i]? = some o) (hg : o.guard = none) (hd : dstOk n o.dst = true) (hr : (execOp f.ev o).run P w = .ok (.enter g args) w)
    (hc : Calls P g args w (Ret R)) (h : ∀ v w', R v w' → C w' ∧ VD P n ops C louds N (i :: done) (f.putO o.dst v) w') : VDT P n ops C louds N done i f w :=
  VDT.callG hi (wanted_none hg _) hd hr hc h
theorem VD.knownT (d : Nat) {b : Bool} (hb : f d = .bool b) (h : b = true) (hn : VD P n ops C louds N done (f.put d (.bool true)) w) : VD P n ops C louds N done f w := by
  subst h
  rwa [Fr.put_self hb] at hn
theorem VD.knownF (d : Nat) {b : Bool} (hb : f d = .bool b) (h : b = false) (hn : VD P n ops C louds N done (f.put d (.bool false)) w) : VD P n ops C louds N done f w := by
  subst h
  rwa [Fr.put_self hb] at hn
theorem VD.splitD (d : Nat) {p : Prop} [Decidable p] (hb : f d = .bool (decide p))
    (ht : p → VD P n ops C louds N done (f.put d (.bool true)) w) (hf : ¬ p → VD P n ops C louds N done (f.put d (.bool false)) w) : VD P n ops C louds N done f w := by
  by_cases h : p
  · have := ht h
    rwa [Fr.put_self (by rw [hb, decide_eq_true h])] at this
  · have := hf h
    rwa [Fr.put_self (by rw [hb, decide_eq_false h])] at this
theorem VD.splitB (d : Nat) {b : Bool} (hb : f d = .bool b)
    (ht : b = true → VD P n ops C louds N done (f.put d (.bool true)) w) (hf : b = false → VD P n ops C louds N done (f.put d (.bool false)) w) : VD P n ops C louds N done f w := by
  cases b
  · have := hf rfl
    rwa [Fr.put_self hb] at this
  · have := ht rfl
    rwa [Fr.put_self hb] at this

theorem VC.free {id : Nat} {l : List Oper} {Rt : Fr → World → Prop} {X G : List (Nat × (Fr → World → Prop))} (C : World → Prop) (louds : List Nat) (hm : P.follows .mixedOrders = true)
    (hs : Region.noSelect l.toArray = true) (hC : C w.drew) (h : VD P n l.toArray C louds N [] f w.drew) : VC P n (.region id l.toArray true) N Rt X G f w := fun a ha => by
  refine wp_region_any hm (wpAny_of_L (C := C) (loud := fun i => louds.contains i) (Q := fun a' w' => ∃ f', FrOk n a' f' ∧ N f' w') (fun a' w' _ q => q) _ _ _ _ hC ?_)
  have := h hs hC (closed_start _) a ha
  simpa [listedOf] using this
end

section
variable {P : Program} {n : Nat} {ops : Array Oper} {o : Oper} {C : World → Prop} {louds done : List Nat} {N : Fr → World → Prop} {f : Fr} {w : World} {F : Env} {Ls : List Blks} {V : Nat → Value} {obj : Obj} {i : Nat}
  {dst : Option Tmp} {ty : TypeId} {pos : String} {after : Array Edge} {g : Option (Nat × Bool)}
theorem VDT.newG (hm : Mem F w Ls) (hi : ops[i]? = some o) (hw : Region.wanted o (fyield ops f) = true) (hd : dstOk n o.dst = true) (hp : RunNew P f o V obj)
    (hC : ∀ b w', Mem F w' ([(b, obj)] :: Ls) → C w') (h : ∀ b w', Mem F w' ([(b, obj)] :: Ls) → VD P n ops C louds N (i :: done) (f.putO o.dst (V b)) w') : VDT P n ops C louds N done i f w :=
  VDT.valG hi hw hd (hp w) (hC _ _ (hm.alloc obj)) (h _ _ (hm.alloc obj))
theorem VDT.new (hm : Mem F w Ls) (hi : ops[i]? = some o) (hg : o.guard = none) (hd : dstOk n o.dst = true) (hp : RunNew P f o V obj)
    (hC : ∀ b w', Mem F w' ([(b, obj)] :: Ls) → C w') (h : ∀ b w', Mem F w' ([(b, obj)] :: Ls) → VD P n ops C louds N (i :: done) (f.putO o.dst (V b)) w') : VDT P n ops C louds N done i f w :=
  VDT.newG hm hi (wanted_none hg _) hd hp hC h
theorem VDT.storeG {t : TypeId} {x y : Operand} {s b off : Nat} {cs cs' : Array Value} {T : TypeId} {v : Value} (hs : ∀ w, (sizeOf t).run P w = .ok s w) (ho : ops[i]? = some ⟨none, .store t x y, ty, pos, after, g⟩)
    (hw : Region.wanted (⟨none, .store t x y, ty, pos, after, g⟩ : Oper) (fyield ops f) = true) (hx : f.ev x = .pointer (some ⟨b, off, none⟩)) (hy : f.ev y = v) (hl : v.cells.toList.length = s) (h1 : v.cells.toList.all (·.oneCell') = true)
    (hm : Mem F w Ls) (p q : Nat) (e : (Ls[p]?).bind (·[q]?) = some (b, .cells cs T (0, 0))) (hin : off + s ≤ cs.size) (hc : lay cs off v.cells.toList = cs')
    (hC : ∀ w', Mem F w' (mset Ls p q (.cells cs' T (0, 0))) → C w')
    (h : ∀ w', Mem F w' (mset Ls p q (.cells cs' T (0, 0))) → VD P n ops C louds N (i :: done) f w') :
    VDT P n ops C louds N done i f w := by
  subst hc
  obtain ⟨w', hr, hu⟩ := run_storeAt (P := P) (off := off) (v := v) hs (hm.at_ p q e) hl hin h1
  refine VDT.skipG ho hw rfl ?_ (hC w' (hm.upd hu p q e)) (h w' (hm.upd hu p q e))
  simp [execOp, hx, hy, hr]
theorem VDT.store {t : TypeId} {x y : Operand} {s b off : Nat} {cs cs' : Array Value} {T : TypeId} {v : Value} (hs : ∀ w, (sizeOf t).run P w = .ok s w) (ho : ops[i]? = some ⟨none, .store t x y, ty, pos, after, g⟩)
    (hg : g = none) (hx : f.ev x = .pointer (some ⟨b, off, none⟩)) (hy : f.ev y = v) (hl : v.cells.toList.length = s) (h1 : v.cells.toList.all (·.oneCell') = true)
    (hm : Mem F w Ls) (p q : Nat) (e : (Ls[p]?).bind (·[q]?) = some (b, .cells cs T (0, 0))) (hin : off + s ≤ cs.size) (hc : lay cs off v.cells.toList = cs')
    (hC : ∀ w', Mem F w' (mset Ls p q (.cells cs' T (0, 0))) → C w')
    (h : ∀ w', Mem F w' (mset Ls p q (.cells cs' T (0, 0))) → VD P n ops C louds N (i :: done) f w') :
    VDT P n ops C louds N done i f w :=
  VDT.storeG hs ho (wanted_none (by exact hg) _) hx hy hl h1 hm p q e hin hc hC h
theorem VDT.append {t e : TypeId} {inf : TypeInfo} {z : Value} {s bytes : Nat} {x y : Operand} (ht : P.underlying t = some (.slice e)) (hin : P.info? e = some inf) (hz : inf.zero = some z)
    (hsz : inf.size = s) (hby : inf.bytes = bytes) (hzs : z.cells.size = s) (hs : Nat.blt 0 s = true) {A : Option Addr} {m c : Nat} {xs : List Value} {L : Blks} {B : Option Addr} {q d : Nat} {news : List Value}
    (hi : ops[i]? = some ⟨dst, .call { callee := .builtin .append, args := #[x, y], argTypes := #[t, t] }, ty, pos, after, g⟩) (hg : g = none) (hd : dstOk n dst = true) (hx : f.ev x = .slice A m c) (hy : f.ev y = .slice B q d)
    (hm : Mem F w (L :: Ls)) (ho : OwnS e s A m c xs L) (hr : Row (fun b => w.heap[b]?) B (q * s) news) (h1 : ∀ u ∈ news, u.oneCell' = true) {len : Nat} (hlen : m + q = len) (h63 : len ≤ maxLen ∧ len * bytes ≤ 140737488355328)
    (hC : ∀ A' c' w' L', OwnS e s A' len c' (xs ++ news) L' → Mem F w' (L' :: Ls) → C w')
    (h : ∀ A' c' w' L', OwnS e s A' len c' (xs ++ news) L' → Mem F w' (L' :: Ls) → VD P n ops C louds N (i :: done) (f.putO dst (.slice A' len c')) w') :
    VDT P n ops C louds N done i f w := by
  subst hlen
  obtain ⟨A', c', w', L', hrun, h6, h7⟩ := run_append (P := P) (ty' := ty) ht hin hz hsz hby hzs (Nat.blt_eq.mp hs) ho hm (d := d) hr h1 h63.1 h63.2
  refine VDT.val hi hg hd ?_ (hC A' c' w' L' h6 h7) (h A' c' w' L' h6 h7)
  rw [BigFrame.execOp_builtin]
  simp [BigFrame.builtin_append, hx, hy, hrun]
end
end Go.Bd
