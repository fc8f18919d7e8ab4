/- The plain law: choosers of one config that tell one another their votes again and again all come to the best voter. Conditions: as each states. -/
import Derived.Test.Ytnakbhpgcngofaa20q
import Derived.Test.Ytnakbhpgcngofaa20x
namespace Go.Bd
open Go.Proofs
set_option linter.unusedVariables false
set_option maxRecDepth 20000

/-! ### Votes in order -/
def leV (u v : Vt) : Prop := betterV u v = false
theorem leV_iff (u v : Vt) : leV u v ↔ (u.e < v.e ∨ u.e = v.e ∧ (u.z < v.z ∨ u.z = v.z ∧ u.l ≤ v.l)) := by
  unfold leV
  rw [better_eq]
  by_cases h1 : u.e = v.e
  · rw [if_neg (not_not_intro h1)]
    by_cases h2 : u.z = v.z
    · rw [if_neg (not_not_intro h2), decide_eq_false_iff_not]
      omega
    · rw [if_pos h2, decide_eq_false_iff_not]
      omega
  · rw [if_pos h1, decide_eq_false_iff_not]
    omega
theorem leV_refl (u : Vt) : leV u u := (leV_iff u u).2 (by omega)
theorem leV_trans {u v x : Vt} (h1 : leV u v) (h2 : leV v x) : leV u x := by
  rw [leV_iff] at h1 h2 ⊢
  omega
theorem leV_anti {u v : Vt} (h1 : leV u v) (h2 : leV v u) : u = v := by
  rw [leV_iff] at h1 h2
  obtain ⟨a, b, c⟩ := u
  obtain ⟨a', b', c'⟩ := v
  dsimp only at h1 h2
  obtain rfl : a = a' := by omega
  obtain rfl : b = b' := by omega
  obtain rfl : c = c' := by omega
  rfl
theorem better_le {u v : Vt} (h : betterV u v = true) : leV v u := by
  rw [leV_iff]
  have h2 : ¬ leV u v := fun h3 => by unfold leV at h3; rw [h] at h3; cases h3
  rw [leV_iff] at h2
  omega

/-! ### Choosers that hear one another -/
def votA' (a : Ca) : Lt := ⟨1, 1, a.round, a.v.l, a.v.e, a.v.z⟩
def own (a : Ca) : Vt := ownA a.es a.id a.me
def stepS (S : Nat → Ca) (f t : Nat) : Nat → Ca := fun i => if i = t then (hearA (S t) (f + 1 : Nat) (votA' (S f))).2 else S i
theorem hearA_me (a : Ca) (frm : Int) (t : Lt) : (hearA a frm t).2.me = a.me := by
  unfold hearA
  split
  · split <;> rfl
  · rfl
structure JS (E : Int × List Mb) (B : Vt) (R : Int) (S : Nat → Ca) : Prop where
  id : ∀ i, i < 7 → (S i).id = (i + 1 : Nat)
  es : ∀ i, i < 7 → (S i).es = [E]
  round : ∀ i, i < 7 → (S i).round ≤ R
  low : ∀ i, i < 7 → leV (own (S i)) (S i).v
  high : ∀ i, i < 7 → leV (S i).v B
  ownB : ∀ i, i < 7 → leV (own (S i)) B
  calm : ∀ i, i < 7 → (S i).calm = 0
theorem round_v {a : Ca} {t : Lt} {B : Vt} (h1 : leV (own a) a.v) (h2 : leV a.v B) (h3 : leV (own a) B) : leV (own a) (roundA a t).v ∧ leV (roundA a t).v B := by
  unfold roundA
  by_cases e : a.round < t.r
  · rw [if_pos e]
    exact ⟨leV_refl _, h3⟩
  · rw [if_neg e]
    exact ⟨h1, h2⟩
theorem own_hear (a : Ca) (frm : Int) (t : Lt) : own (hearA a frm t).2 = own a := by
  unfold own
  rw [(hearA_es a frm t).1, (hearA_es a frm t).2, hearA_me]
theorem JS.step {E : Int × List Mb} {B : Vt} {R : Int} {S : Nat → Ca} (h : JS E B R S) {f t : Nat} (hf : f < 7) (ht : t < 7) : JS E B R (stepS S f t) := by
  have hr := round_v (t := votA' (S f)) (h.low t ht) (h.high t ht) (h.ownB t ht)
  have key : ∀ {P : Ca → Nat → Prop}, (∀ i, i < 7 → P (S i) i) → P (hearA (S t) (f + 1 : Nat) (votA' (S f))).2 t → ∀ i, i < 7 → P (stepS S f t i) i := fun {P} hP hn i hi => by
    unfold stepS
    by_cases e : i = t
    · rw [if_pos e, e]
      exact hn
    · rw [if_neg e]
      exact hP i hi
  have hround : (hearA (S t) (f + 1 : Nat) (votA' (S f))).2.round ≤ R := by
    by_cases hok : hearOk (S t) (f + 1 : Nat) (votA' (S f)) = true
    · rw [(hear_as _ _ _ hok).2.2.1, round_r _ _ (of_decide_eq_true hok).2.2.2.2.2]
      exact h.round f hf
    · unfold hearA
      rw [if_neg hok]
      exact h.round t ht
  have hv : leV (own (S t)) (hearA (S t) (f + 1 : Nat) (votA' (S f))).2.v ∧ leV (hearA (S t) (f + 1 : Nat) (votA' (S f))).2.v B := by
    unfold hearA
    by_cases hok : hearOk (S t) (f + 1 : Nat) (votA' (S f)) = true
    · rw [if_pos hok]
      by_cases hb : betterV (votA' (S f)).vt (roundA (S t) (votA' (S f))).v = true
      · rw [if_pos hb]
        exact ⟨leV_trans hr.1 (better_le hb), h.high f hf⟩
      · rw [if_neg hb]
        exact hr
    · rw [if_neg hok]
      exact ⟨h.low t ht, h.high t ht⟩
  have hcalm : (hearA (S t) (f + 1 : Nat) (votA' (S f))).2.calm = 0 := by
    rw [(hear_turned _ _ _).2.2]
    split
    · rfl
    · exact h.calm t ht
  exact ⟨key (P := fun a i => a.id = (i + 1 : Nat)) h.id ((hearA_es _ _ _).2.trans (h.id t ht)), key (P := fun a i => a.es = [E]) h.es ((hearA_es _ _ _).1.trans (h.es t ht)), key (P := fun a i => a.round ≤ R) h.round hround,
    key (P := fun a i => leV (own a) a.v) h.low (by rw [own_hear]; exact hv.1), key (P := fun a i => leV a.v B) h.high hv.2, key (P := fun a i => leV (own a) B) h.ownB (by rw [own_hear]; exact h.ownB t ht), key (P := fun a i => a.calm = 0) h.calm hcalm⟩
theorem step_own (S : Nat → Ca) (f t i : Nat) : own (stepS S f t i) = own (S i) := by
  unfold stepS
  by_cases e : i = t
  · rw [if_pos e, own_hear, e]
  · rw [if_neg e]
theorem step_round (S : Nat → Ca) (f t i : Nat) : (S i).round ≤ (stepS S f t i).round := by
  unfold stepS
  by_cases e : i = t
  · rw [if_pos e, e]
    exact (hear_turned _ _ _).2.1
  · rw [if_neg e]
    exact Int.le_refl _
theorem step_told {E : Int × List Mb} {B : Vt} {R : Int} {S : Nat → Ca} (h : JS E B R S) {f t : Nat} (hf : f < 7) (ht : t < 7) (hR : (S f).round = R) : (stepS S f t t).round = R := by
  have hle := (h.step hf ht).round t ht
  unfold stepS at hle ⊢
  rw [if_pos rfl] at hle ⊢
  by_cases e : f = t
  · subst e
    have := (hear_turned (S f) (f + 1 : Nat) (votA' (S f))).2.1
    omega
  · have hok : hearOk (S t) (f + 1 : Nat) (votA' (S f)) = true := decide_eq_true ⟨rfl, rfl, by omega, by omega, by rw [h.id t ht]; omega, by have := h.round t ht; show (S t).round ≤ (S f).round; omega⟩
    rw [(hear_as _ _ _ hok).2.2.1, round_r _ _ (of_decide_eq_true hok).2.2.2.2.2]
    exact hR
/-- All are in one round. -/
def P1 (R : Int) (S : Nat → Ca) : Prop := ∀ i, i < 7 → (S i).round = R
/-- All vote for the best. -/
def P2 (B : Vt) (S : Nat → Ca) : Prop := ∀ i, i < 7 → (S i).v = B
theorem P1.step {E : Int × List Mb} {B : Vt} {R : Int} {S : Nat → Ca} (h : JS E B R S) (h1 : P1 R S) {f t : Nat} (hf : f < 7) (ht : t < 7) : P1 R (stepS S f t) := fun i hi => by
  have h2 := (h.step hf ht).round i hi
  have h3 := step_round S f t i
  have := h1 i hi
  omega
theorem hear_same {E : Int × List Mb} {B : Vt} {R : Int} {S : Nat → Ca} (h : JS E B R S) (h1 : P1 R S) {f t : Nat} (hf : f < 7) (ht : t < 7) : roundA (S t) (votA' (S f)) = S t ∧ (f ≠ t → hearOk (S t) (f + 1 : Nat) (votA' (S f)) = true) := by
  have e1 := h1 t ht
  have e2 := h1 f hf
  refine ⟨?_, fun hne => decide_eq_true ⟨rfl, rfl, by omega, by omega, by rw [h.id t ht]; omega, by show (S t).round ≤ (S f).round; omega⟩⟩
  unfold roundA
  rw [if_neg (by show ¬ (S t).round < (S f).round; omega)]
theorem step_v {E : Int × List Mb} {B : Vt} {R : Int} {S : Nat → Ca} (h : JS E B R S) (h1 : P1 R S) {f t : Nat} (hf : f < 7) (ht : t < 7) (i : Nat) (hi : i < 7) (hv : (S i).v = B) : (stepS S f t i).v = B := by
  unfold stepS
  by_cases e : i = t
  · rw [if_pos e]
    subst e
    unfold hearA
    split
    · rw [(hear_same h h1 hf ht).1]
      by_cases hb : betterV (votA' (S f)).vt (S i).v = true
      · rw [if_pos hb]
        have h2 := better_le hb
        rw [hv] at h2
        exact leV_anti (h.high f hf) h2
      · rw [if_neg hb]
        exact hv
    · exact hv
  · rw [if_neg e]
    exact hv
theorem step_best {E : Int × List Mb} {B : Vt} {R : Int} {S : Nat → Ca} (h : JS E B R S) (h1 : P1 R S) {f t : Nat} (hf : f < 7) (ht : t < 7) (hb : own (S f) = B) : (stepS S f t t).v = B := by
  have hfv : (S f).v = B := leV_anti (h.high f hf) (by rw [← hb]; exact h.low f hf)
  unfold stepS
  rw [if_pos rfl]
  by_cases e : f = t
  · subst e
    have := step_v h h1 hf ht f hf hfv
    unfold stepS at this
    rwa [if_pos rfl] at this
  · unfold hearA
    rw [if_pos ((hear_same h h1 hf ht).2 e), (hear_same h h1 hf ht).1]
    by_cases hbt : betterV (votA' (S f)).vt (S t).v = true
    · rw [if_pos hbt]
      exact hfv
    · rw [if_neg hbt]
      have h2 : leV (S f).v (S t).v := (Bool.not_eq_true _).mp hbt
      rw [hfv] at h2
      exact leV_anti (h.high t ht) h2
theorem inH_put' {hs : List (Int × Vt)} {frm : Int} {u : Vt} (k : Int) : inH (putH hs frm u) k = if k = frm then some (frm, u) else inH hs k := by
  unfold putH
  cases hc : inH hs frm with
  | some f =>
    dsimp only
    have hg : (fun f : Int × Vt => decide ((if f.1 = frm then (frm, u) else f).1 = k)) = fun f => decide (f.1 = k) := by
      funext f
      by_cases e : f.1 = frm
      · rw [if_pos e]
        exact decide_eq_decide.2 (by rw [e])
      · rw [if_neg e]
    unfold inH at hc ⊢
    rw [List.find?_map]
    show Option.map _ (hs.find? fun f => decide ((if f.1 = frm then (frm, u) else f).1 = k)) = _
    rw [hg]
    by_cases e : k = frm
    · subst e
      rw [if_pos rfl, hc]
      have := of_decide_eq_true (List.find?_some (p := fun f : Int × Vt => decide (f.1 = k)) hc)
      show some (if f.1 = k then (k, u) else f) = _
      rw [if_pos this]
    · rw [if_neg e]
      cases hk : hs.find? fun f => decide (f.1 = k) with
      | none => rfl
      | some y =>
        have := of_decide_eq_true (List.find?_some (p := fun f : Int × Vt => decide (f.1 = k)) hk)
        show some (if y.1 = frm then (frm, u) else y) = some y
        rw [if_neg (by omega)]
  | none =>
    dsimp only
    unfold inH at hc ⊢
    rw [List.find?_append]
    by_cases e : k = frm
    · subst e
      rw [hc, if_pos rfl, List.find?_cons, decide_eq_true rfl]
      rfl
    · rw [if_neg e, List.find?_cons, decide_eq_false (show ¬ frm = k from fun h => e h.symm)]
      cases hs.find? fun f => decide (f.1 = k) <;> rfl
theorem step_hs {E : Int × List Mb} {B : Vt} {R : Int} {S : Nat → Ca} (h : JS E B R S) (h1 : P1 R S) (h2 : P2 B S) {f t : Nat} (hf : f < 7) (ht : t < 7) (i : Nat) (k : Int) :
    inH (stepS S f t i).hs k = if i = t ∧ k = (f + 1 : Nat) ∧ f ≠ t then some (k, B) else inH (S i).hs k := by
  unfold stepS
  by_cases e : i = t
  · subst e
    rw [if_pos rfl]
    by_cases hne : f = i
    · rw [if_neg (fun h => h.2.2 hne)]
      have hno : ¬ hearOk (S i) (f + 1 : Nat) (votA' (S f)) = true := fun hok => by
        have := (of_decide_eq_true hok).2.2.2.2.1
        rw [h.id i ht, hne] at this
        exact this rfl
      unfold hearA
      rw [if_neg hno]
    · have hok := (hear_same h h1 hf ht).2 hne
      rw [(hear_as _ _ _ hok).2.2.2, (hear_same h h1 hf ht).1, inH_put']
      by_cases hk : k = (f + 1 : Nat)
      · rw [if_pos hk, if_pos ⟨rfl, hk, hne⟩, hk]
        exact congrArg (fun v => some (((f + 1 : Nat) : Int), v)) (h2 f hf)
      · rw [if_neg hk, if_neg (fun h => hk h.2.1)]
  · rw [if_neg e, if_neg (fun h => e h.1)]

theorem chk_idsGo : ∀ (ms : List Mb) (last wt r : Int), 0 ≤ last → chkGo last wt ms = some r → ∀ m ∈ ms, 1 ≤ m.id ∧ m.id ≤ 7
  | [], _, _, _, _, _, _, h => by simp at h
  | m :: t, last, wt, r, h0, h, x, hx => by
    rw [chkGo_cons] at h
    by_cases h1 : mbOk last m
    · rw [if_pos h1] at h
      have h2 : last < m.id ∧ m.id ≤ 7 := ⟨h1.1, h1.2.1⟩
      rcases List.mem_cons.1 hx with rfl | hx
      · omega
      · exact chk_idsGo t _ _ _ (by omega) h x hx
    · rw [if_neg h1] at h
      cases h
theorem chk_ids {ver : Int} {ms : List Mb} (h : checkE ver ms = 0) : ∀ m ∈ ms, 1 ≤ m.id ∧ m.id ≤ 7 := by
  unfold checkE at h
  by_cases h7 : 7 < ms.length
  · rw [if_pos h7] at h
    omega
  · rw [if_neg h7] at h
    cases hc : chkGo 0 0 ms with
    | none =>
      rw [hc] at h
      exact absurd (show (140 : Int) = 0 from h) (by decide)
    | some r => exact chk_idsGo ms 0 0 r (Int.le_refl _) hc

/-! ### Again and again -/
def rowS (S : Nat → Ca) (f : Nat) : Nat → Nat → Ca
  | 0 => S
  | t + 1 => stepS (rowS S f t) f t
def matS (S : Nat → Ca) : Nat → Nat → Ca
  | 0 => S
  | f + 1 => rowS (matS S f) f 7
def runS (S : Nat → Ca) : Nat → Nat → Ca
  | 0 => S
  | k + 1 => matS (runS S k) 7
section
variable {I : (Nat → Ca) → Prop} {S : Nat → Ca}
theorem row_inv (hI : ∀ S f t, f < 7 → t < 7 → I S → I (stepS S f t)) (h : I S) {f : Nat} (hf : f < 7) : ∀ t, t ≤ 7 → I (rowS S f t)
  | 0, _ => h
  | t + 1, ht => hI _ _ _ hf (by omega) (row_inv hI h hf t (by omega))
theorem mat_inv (hI : ∀ S f t, f < 7 → t < 7 → I S → I (stepS S f t)) (h : I S) : ∀ f, f ≤ 7 → I (matS S f)
  | 0, _ => h
  | f + 1, hf => row_inv hI (mat_inv hI h f (by omega)) (by omega) 7 (Nat.le_refl _)
theorem run_inv (hI : ∀ S f t, f < 7 → t < 7 → I S → I (stepS S f t)) (h : I S) : ∀ k, I (runS S k)
  | 0 => h
  | k + 1 => mat_inv hI (run_inv hI h k) 7 (Nat.le_refl _)
/-- What a row at one place brings about stays. -/
theorem mat_from (hI : ∀ S f t, f < 7 → t < 7 → I S → I (stepS S f t)) {q : Nat} (h : I (rowS (matS S q) q 7)) : ∀ f, q < f → f ≤ 7 → I (matS S f)
  | 0, h1, _ => by omega
  | f + 1, h1, h2 => by
    by_cases e : q = f
    · subst e
      exact h
    · exact row_inv hI (mat_from hI h f (by omega) (by omega)) (by omega) 7 (Nat.le_refl _)
theorem run_from (hI : ∀ S f t, f < 7 → t < 7 → I S → I (stepS S f t)) {j : Nat} (h : I (runS S j)) : ∀ k, j ≤ k → I (runS S k)
  | 0, h1 => by
    obtain rfl : j = 0 := by omega
    exact h
  | k + 1, h1 => by
    by_cases e : j = k + 1
    · subst e
      exact h
    · exact mat_inv hI (run_from hI h k (by omega)) 7 (Nat.le_refl _)
end
theorem quorum_full {ver : Int} {ms : List Mb} {ids : List Int} (hc : checkE ver ms = 0) (hids : ∀ m ∈ ms, m.id ∈ ids) : quorumE ver ms ids = true := by
  obtain ⟨h7, hfit⟩ := check_fit hc
  have hw : ∀ g : Int, wsum (fun m => decide (m.id ∈ ids)) g ms = wsum (fun _ => true) g ms := fun g => by
    have : ∀ (l : List Mb), (∀ m ∈ l, m.id ∈ ids) → wsum (fun m => decide (m.id ∈ ids)) g l = wsum (fun _ => true) g l := by
      intro l
      induction l with
      | nil => intro _; rfl
      | cons m r ih =>
        intro h
        show (if m.group = g ∧ decide (m.id ∈ ids) = true then m.weight else 0) + wsum (fun m => decide (m.id ∈ ids)) g r = (if m.group = g ∧ true = true then m.weight else 0) + wsum (fun _ => true) g r
        rw [ih fun x hx => h x (.tail _ hx), decide_eq_true (h m (.head _))]
    exact this ms hids
  have hpos : 0 < cnt (fun g => decide (0 < wsum (fun _ => true) g ms)) 7 := by
    obtain ⟨m, hm, hmw⟩ : ∃ m ∈ ms, 0 < m.weight := Classical.byContradiction fun hno => by
      have hz : ∀ m ∈ ms, m.weight = 0 := fun m hm => by
        have h1 := (hfit m hm).1
        have h2 : ¬ 0 < m.weight := fun h => hno ⟨m, hm, h⟩
        omega
      have hgo : ∀ (l : List Mb) (last wt r : Int), (∀ m ∈ l, m.weight = 0) → chkGo last wt l = some r → r = wt := by
        intro l
        induction l with
        | nil =>
          intro last wt r _ h
          exact (Option.some.inj h).symm
        | cons m r ih =>
          intro last wt q h hq
          rw [chkGo_cons] at hq
          by_cases h1 : mbOk last m
          · rw [if_pos h1] at hq
            have := ih m.id (wt + m.weight) q (fun x hx => h x (.tail _ hx)) hq
            have := h m (.head _)
            omega
          · rw [if_neg h1] at hq
            cases hq
      unfold checkE at hc
      rw [if_neg (by omega)] at hc
      cases hq : chkGo 0 0 ms with
      | none =>
        rw [hq] at hc
        exact absurd (show (140 : Int) = 0 from hc) (by decide)
      | some r =>
        rw [hq] at hc
        have := hgo ms 0 0 r hz hq
        subst this
        exact absurd (show (140 : Int) = 0 from hc) (by decide)
    obtain ⟨f1, f2, f3, f4⟩ := hfit m hm
    have hg : 0 < wsum (fun _ => true) (m.group.toNat : Nat) ms := by
      have hmem : ∀ (l : List Mb), (∀ x ∈ l, MbFit x) → m ∈ l → m.weight ≤ wsum (fun _ => true) (m.group.toNat : Nat) l := by
        intro l
        induction l with
        | nil => intro _ h; simp at h
        | cons x r ih =>
          intro hf h
          have hb := wsum_bound (fun _ => true) (m.group.toNat : Nat) r fun y hy => hf y (.tail _ hy)
          show m.weight ≤ (if x.group = (m.group.toNat : Nat) ∧ true = true then x.weight else 0) + wsum (fun _ => true) (m.group.toNat : Nat) r
          rcases List.mem_cons.1 h with rfl | h
          · rw [if_pos ⟨by omega, rfl⟩]
            omega
          · have := ih (fun y hy => hf y (.tail _ hy)) h
            have := (hf x (.head _)).1
            split <;> omega
      have := hmem ms hfit hm
      omega
    have hcnt : ∀ (P : Nat → Bool) (q : Nat), P q = true → ∀ k, q < k → 0 < cnt P k := by
      intro P q hq k
      induction k with
      | zero => intro h; omega
      | succ k ih =>
        intro h
        have hb := (cnt_bound P k).1
        show 0 < cnt P k + (if P k = true then 1 else 0)
        by_cases e : q = k
        · subst e
          rw [if_pos hq]
          omega
        · have := ih (by omega)
          split <;> omega
    exact hcnt _ m.group.toNat (decide_eq_true hg) 7 (by omega)
  unfold quorumE
  rw [Bool.and_eq_true, decide_eq_true_eq, decide_eq_true_eq]
  refine ⟨hc, ?_⟩
  have hle : cnt (fun g => decide (0 < wsum (fun _ => true) g ms)) 7 ≤ cnt (fun g => decide (wsum (fun _ => true) g ms < 2 * wsum (fun m => decide (m.id ∈ ids)) g ms)) 7 := by
    refine cnt_mono (fun g hg => ?_) 7
    rw [decide_eq_true_eq] at hg ⊢
    rw [hw]
    omega
  omega
/-- All take the best. -/
theorem agree {ver : Int} {ms : List Mb} {B : Vt} {R : Int} {S : Nat → Ca} (hc : checkE ver ms = 0) (h : JS (ver, ms) B R S) {j b : Nat} (hj : j < 7) (hjR : (S j).round = R) (hb : b < 7) (hbB : own (S b) = B) (hB : B.l ≠ 0)
    {i : Nat} (hi : i < 7) : (tickA (tickA (runS S 20 i)).2).1 = (B.l, true) := by
  have stepJ : ∀ S f t, f < 7 → t < 7 → JS (ver, ms) B R S → JS (ver, ms) B R (stepS S f t) := fun S f t hf ht h => h.step hf ht
  have stepJj : ∀ S f t, f < 7 → t < 7 → (JS (ver, ms) B R S ∧ (S j).round = R) → (JS (ver, ms) B R (stepS S f t) ∧ (stepS S f t j).round = R) := fun S f t hf ht ⟨h, h1⟩ => ⟨h.step hf ht, by
    have h2 := (h.step hf ht).round j hj
    have h3 := step_round S f t j
    omega⟩
  have stepB : ∀ S f t, f < 7 → t < 7 → own (S b) = B → own (stepS S f t b) = B := fun S f t _ _ h => by rw [step_own]; exact h
  have step1 : ∀ S f t, f < 7 → t < 7 → (JS (ver, ms) B R S ∧ P1 R S) → (JS (ver, ms) B R (stepS S f t) ∧ P1 R (stepS S f t)) := fun S f t hf ht ⟨h, h1⟩ => ⟨h.step hf ht, h1.step h hf ht⟩
  have step2 : ∀ S f t, f < 7 → t < 7 → (JS (ver, ms) B R S ∧ P1 R S ∧ P2 B S) → (JS (ver, ms) B R (stepS S f t) ∧ P1 R (stepS S f t) ∧ P2 B (stepS S f t)) := fun S f t hf ht ⟨h, h1, h2⟩ => ⟨h.step hf ht, h1.step h hf ht, fun i hi => step_v h h1 hf ht i hi (h2 i hi)⟩
  -- all are in one round
  have r1 : JS (ver, ms) B R (runS S 1) ∧ P1 R (runS S 1) := by
    have hq := mat_inv stepJj (S := S) ⟨h, hjR⟩ j (by omega)
    have hrow : ∀ t, t ≤ 7 → JS (ver, ms) B R (rowS (matS S j) j t) ∧ (rowS (matS S j) j t j).round = R ∧ ∀ i, i < t → (rowS (matS S j) j t i).round = R := by
      intro t
      induction t with
      | zero => intro _; exact ⟨hq.1, hq.2, fun i hi => by omega⟩
      | succ t ih =>
        intro ht
        obtain ⟨h1, h2, h3⟩ := ih (by omega)
        obtain ⟨h4, h5⟩ := stepJj _ _ t hj (by omega) ⟨h1, h2⟩
        refine ⟨h4, h5, fun i hi => ?_⟩
        by_cases e : i = t
        · subst e
          exact step_told h1 hj (by omega) h2
        · have h6 := h3 i (by omega)
          have h7 := h4.round i (by omega)
          have h8 := step_round (rowS (matS S j) j t) j t i
          show (stepS (rowS (matS S j) j t) j t i).round = R
          omega
    have := hrow 7 (Nat.le_refl _)
    exact mat_from step1 (S := S) (q := j) ⟨this.1, this.2.2⟩ 7 (by omega) (Nat.le_refl _)
  have b1 : own (runS S 1 b) = B := run_inv stepB hbB 1
  -- all vote for the best
  have r2 : JS (ver, ms) B R (runS S 2) ∧ P1 R (runS S 2) ∧ P2 B (runS S 2) := by
    have hq := mat_inv step1 (S := runS S 1) r1 b (by omega)
    have hqb : own (matS (runS S 1) b b) = B := mat_inv stepB b1 b (by omega)
    have hrow : ∀ t, t ≤ 7 → JS (ver, ms) B R (rowS (matS (runS S 1) b) b t) ∧ P1 R (rowS (matS (runS S 1) b) b t) ∧ own (rowS (matS (runS S 1) b) b t b) = B ∧ ∀ i, i < t → (rowS (matS (runS S 1) b) b t i).v = B := by
      intro t
      induction t with
      | zero => intro _; exact ⟨hq.1, hq.2, hqb, fun i hi => by omega⟩
      | succ t ih =>
        intro ht
        obtain ⟨h1, h2, h3, h4⟩ := ih (by omega)
        obtain ⟨h5, h6⟩ := step1 _ _ t hb (by omega) ⟨h1, h2⟩
        refine ⟨h5, h6, stepB _ _ _ hb (by omega) h3, fun i hi => ?_⟩
        by_cases e : i = t
        · subst e
          exact step_best h1 h2 hb (by omega) h3
        · exact step_v h1 h2 hb (by omega) i (by omega) (h4 i (by omega))
    have := hrow 7 (Nat.le_refl _)
    exact mat_from step2 (S := runS S 1) (q := b) ⟨this.1, this.2.1, this.2.2.2⟩ 7 (by omega) (Nat.le_refl _)
  -- each has heard of all others
  have step3 : ∀ (P : Nat → Nat → Prop) S f t, f < 7 → t < 7 → ((JS (ver, ms) B R S ∧ P1 R S ∧ P2 B S) ∧ ∀ i k, P i k → i < 7 → inH (S i).hs (k + 1 : Nat) = some (((k + 1 : Nat) : Int), B)) →
      ((JS (ver, ms) B R (stepS S f t) ∧ P1 R (stepS S f t) ∧ P2 B (stepS S f t)) ∧ ∀ i k, P i k → i < 7 → inH (stepS S f t i).hs (k + 1 : Nat) = some (((k + 1 : Nat) : Int), B)) := fun P S f t hf ht ⟨h, h1⟩ => ⟨step2 S f t hf ht h, fun i k hP hi => by
    rw [step_hs h.1 h.2.1 h.2.2 hf ht]
    split
    · rfl
    · exact h1 i k hP hi⟩
  have r3 : (JS (ver, ms) B R (runS S 3) ∧ P1 R (runS S 3) ∧ P2 B (runS S 3)) ∧ ∀ i k, (i ≠ k ∧ k < 7) → i < 7 → inH (runS S 3 i).hs (k + 1 : Nat) = some (((k + 1 : Nat) : Int), B) := by
    have hmat : ∀ f, f ≤ 7 → (JS (ver, ms) B R (matS (runS S 2) f) ∧ P1 R (matS (runS S 2) f) ∧ P2 B (matS (runS S 2) f)) ∧ ∀ i k, (i ≠ k ∧ k < f) → i < 7 → inH (matS (runS S 2) f i).hs (k + 1 : Nat) = some (((k + 1 : Nat) : Int), B) := by
      intro f
      induction f with
      | zero => intro _; exact ⟨r2, fun i k hP _ => by omega⟩
      | succ f ih =>
        intro hf
        have hrow : ∀ t, t ≤ 7 → (JS (ver, ms) B R (rowS (matS (runS S 2) f) f t) ∧ P1 R (rowS (matS (runS S 2) f) f t) ∧ P2 B (rowS (matS (runS S 2) f) f t)) ∧ ∀ i k, (i ≠ k ∧ (k < f ∨ k = f ∧ i < t)) → i < 7 → inH (rowS (matS (runS S 2) f) f t i).hs (k + 1 : Nat) = some (((k + 1 : Nat) : Int), B) := by
          intro t
          induction t with
          | zero => intro _; exact ⟨(ih (by omega)).1, fun i k hP hi => (ih (by omega)).2 i k (by omega) hi⟩
          | succ t iht =>
            intro ht
            obtain ⟨h1, h2⟩ := iht (by omega)
            refine ⟨step2 _ _ _ (by omega) (by omega) h1, fun i k hP hi => ?_⟩
            show inH (stepS (rowS (matS (runS S 2) f) f t) f t i).hs (k + 1 : Nat) = _
            rw [step_hs h1.1 h1.2.1 h1.2.2 (by omega) (by omega)]
            by_cases e : i = t ∧ ((k + 1 : Nat) : Int) = (f + 1 : Nat) ∧ f ≠ t
            · rw [if_pos e]
            · rw [if_neg e]
              exact h2 i k (by omega) hi
        have := hrow 7 (Nat.le_refl _)
        exact ⟨this.1, fun i k hP hi => this.2 i k (by omega) hi⟩
    exact hmat 7 (Nat.le_refl _)
  have r20 := run_from (I := fun S => (JS (ver, ms) B R S ∧ P1 R S ∧ P2 B S) ∧ ∀ i k, (i ≠ k ∧ k < 7) → i < 7 → inH (S i).hs (k + 1 : Nat) = some (((k + 1 : Nat) : Int), B)) (step3 _) (S := S) (j := 3) r3 20 (by omega)
  obtain ⟨⟨g1, g2, g3⟩, g4⟩ := r20
  generalize runS S 20 = T at g1 g2 g3 g4
  have hv := g3 i hi
  have hcm := g1.calm i hi
  have hid := g1.id i hi
  have hes := g1.es i hi
  have w1 : IntKind.i64.wrap ((T i).calm + 1) = 1 := by rw [hcm]; exact wrap1 ⟨by omega, by omega⟩
  have hall : allA (T i).es (idsA (T i)) = true := by
    rw [hes]
    unfold allA
    rw [Bool.and_eq_true]
    refine ⟨rfl, List.all_eq_true.2 fun e he => ?_⟩
    rw [List.mem_singleton.1 he]
    refine quorum_full hc fun m hm => ?_
    have hmid : 1 ≤ m.id ∧ m.id ≤ 7 := chk_ids hc m hm
    unfold idsA
    by_cases e1 : m.id = (T i).id
    · rw [e1]
      exact .head _
    · refine .tail _ ?_
      have hk := g4 i (m.id.toNat - 1) ⟨by omega, by omega⟩ hi
      rw [show ((m.id.toNat - 1 + 1 : Nat) : Int) = m.id by omega] at hk
      refine List.mem_map.2 ⟨(m.id, B), List.mem_filter.2 ⟨List.mem_of_find?_eq_some hk, decide_eq_true hv.symm⟩, rfl⟩
  show (if (T i).v.l ≠ 0 ∧ 2 ≤ IntKind.i64.wrap (IntKind.i64.wrap ((T i).calm + 1) + 1) ∧ allA (T i).es (idsA (T i)) = true then ((T i).v.l, true) else (0, false)) = _
  rw [w1, if_pos ⟨by rw [hv]; exact hB, by rw [wrap1 ⟨by omega, by omega⟩]; omega, hall⟩, hv]
end Go.Bd
