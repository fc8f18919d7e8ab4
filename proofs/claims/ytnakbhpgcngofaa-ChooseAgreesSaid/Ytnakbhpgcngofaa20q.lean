/- The plain law of a chooser that waits: what it tells, those it heard have voted for, and with it they are a quorum. Conditions: as each states. -/
import Derived.Test.Ytnakbhpgcngofaa20w
namespace Go.Bd
open Go.Proofs
set_option linter.unusedVariables false

theorem cmpI_self (a : Int) : cmpI a a = 0 := by
  unfold cmpI
  rw [if_neg (Int.lt_irrefl a), if_neg (Int.lt_irrefl a)]
theorem better_ne {u v : Vt} (h : betterV u v = true) : u ≠ v := by
  rintro rfl
  unfold betterV at h
  rw [cmpI_self, cmpI_self, cmpI_self] at h
  exact absurd h (by decide)
theorem wsum_mono {p q : Mb → Bool} (h : ∀ m, p m = true → q m = true) (g : Int) : ∀ (ms : List Mb), (∀ m ∈ ms, MbFit m) → wsum p g ms ≤ wsum q g ms
  | [], _ => Int.le_refl _
  | m :: r, hf => by
    have h1 := wsum_mono h g r fun x hx => hf x (.tail _ hx)
    have h2 := (hf m (.head _)).1
    show (if m.group = g ∧ p m = true then m.weight else 0) + wsum p g r ≤ (if m.group = g ∧ q m = true then m.weight else 0) + wsum q g r
    by_cases e : m.group = g ∧ p m = true
    · rw [if_pos e, if_pos ⟨e.1, h m e.2⟩]
      omega
    · rw [if_neg e]
      split <;> omega
theorem cnt_mono {P Q : Nat → Bool} (h : ∀ g, P g = true → Q g = true) : ∀ k, cnt P k ≤ cnt Q k
  | 0 => Int.le_refl _
  | k + 1 => by
    have := cnt_mono h k
    show cnt P k + (if P k = true then 1 else 0) ≤ cnt Q k + (if Q k = true then 1 else 0)
    by_cases e : P k = true
    · rw [if_pos e, if_pos (h k e)]
      omega
    · rw [if_neg e]
      split <;> omega
theorem quorum_more {ver : Int} {ms : List Mb} {xs ys : List Int} (hs : ∀ z ∈ xs, z ∈ ys) (h : quorumE ver ms xs = true) : quorumE ver ms ys = true := by
  unfold quorumE at h ⊢
  rw [Bool.and_eq_true, decide_eq_true_eq, decide_eq_true_eq] at h
  obtain ⟨hc, hq⟩ := h
  obtain ⟨_, hfit⟩ := check_fit hc
  rw [Bool.and_eq_true, decide_eq_true_eq, decide_eq_true_eq]
  refine ⟨hc, ?_⟩
  have : cnt (fun g => decide (wsum (fun _ => true) g ms < 2 * wsum (fun m => decide (m.id ∈ xs)) g ms)) 7 ≤ cnt (fun g => decide (wsum (fun _ => true) g ms < 2 * wsum (fun m => decide (m.id ∈ ys)) g ms)) 7 := by
    refine cnt_mono (fun g hg => ?_) 7
    rw [decide_eq_true_eq] at hg ⊢
    have := wsum_mono (p := fun m => decide (m.id ∈ xs)) (q := fun m => decide (m.id ∈ ys)) (fun m hm => by
      rw [decide_eq_true_eq] at hm ⊢
      exact hs _ hm) g ms hfit
    omega
  omega
theorem all_more {es : List (Int × List Mb)} {xs ys : List Int} (hs : ∀ z ∈ xs, z ∈ ys) (h : allA es xs = true) : allA es ys = true := by
  unfold allA at h ⊢
  rw [Bool.and_eq_true] at h ⊢
  refine ⟨h.1, List.all_eq_true.2 fun e he => quorum_more hs (List.all_eq_true.1 h.2 e he)⟩
theorem putH_mem {hs : List (Int × Vt)} {frm : Int} {u : Vt} {f : Int × Vt} (h : f ∈ putH hs frm u) : f = (frm, u) ∨ (f ∈ hs ∧ f.1 ≠ frm) ∨ (f ∈ hs ∧ inH hs frm = none) := by
  unfold putH at h
  split at h
  · obtain ⟨x, hx, rfl⟩ := List.mem_map.1 h
    by_cases e : x.1 = frm
    · rw [if_pos e]
      exact .inl rfl
    · rw [if_neg e]
      exact .inr (.inl ⟨hx, e⟩)
  · rename_i hn
    rcases List.mem_append.1 h with h | h
    · exact .inr (.inr ⟨h, hn⟩)
    · exact .inl (List.mem_singleton.1 h)
theorem putH_mem' {hs : List (Int × Vt)} {frm : Int} {u : Vt} {f : Int × Vt} (h : f ∈ putH hs frm u) : f = (frm, u) ∨ (f ∈ hs ∧ f.1 ≠ frm) := by
  rcases putH_mem h with h | h | ⟨h, hn⟩
  · exact .inl h
  · exact .inr h
  · refine .inr ⟨h, fun e => ?_⟩
    unfold inH at hn
    rw [List.find?_eq_none] at hn
    exact hn f h (decide_eq_true e)

/-- What the one that looks on notes. -/
def noteL (a : Ca) (ls : List Lt) (frm : Int) (t : Lt) : List Lt := if 1 ≤ frm ∧ frm ≤ 7 ∧ t.s = 1 ∧ t.k = 1 ∧ a.round ≤ t.r then ls.set frm.toNat t else ls
structure WInv (me : Int) (a : Ca) (ls : List Lt) : Prop where
  id : a.id = me
  len : ls.length = 8
  heard : ∀ f ∈ a.hs, 1 ≤ f.1 ∧ f.1 ≤ 7 ∧ f.1 ≠ me ∧ ∃ t, ls[f.1.toNat]? = some t ∧ t.k = 1 ∧ t.l = f.2.l ∧ t.r = a.round
theorem hear_as (a : Ca) (frm : Int) (t : Lt) (h : hearOk a frm t = true) : (hearA a frm t).2.id = a.id ∧ (hearA a frm t).2.es = a.es ∧ (hearA a frm t).2.round = (roundA a t).round ∧ (hearA a frm t).2.hs = putH (roundA a t).hs frm t.vt := by
  unfold hearA
  rw [if_pos h]
  split <;> exact ⟨rfl, rfl, rfl, rfl⟩
theorem round_r (a : Ca) (t : Lt) (h : a.round ≤ t.r) : (roundA a t).round = t.r := by
  unfold roundA
  by_cases e : a.round < t.r
  · rw [if_pos e]
    rfl
  · rw [if_neg e]
    omega
theorem hearA_es (a : Ca) (frm : Int) (t : Lt) : (hearA a frm t).2.es = a.es ∧ (hearA a frm t).2.id = a.id := by
  by_cases h : hearOk a frm t = true
  · have := hear_as a frm t h
    exact ⟨this.2.1, this.1⟩
  · unfold hearA
    rw [if_neg h]
    exact ⟨rfl, rfl⟩
theorem WInv.hear {me : Int} {a : Ca} {ls : List Lt} (h : WInv me a ls) (frm : Int) (t : Lt) : WInv me (hearA a frm t).2 (noteL a ls frm t) := by
  have hlen : (noteL a ls frm t).length = 8 := by
    unfold noteL
    split
    · rw [List.length_set]; exact h.len
    · exact h.len
  by_cases hok : hearOk a frm t = true
  · obtain ⟨h1, h2, h3, h4⟩ := hear_as a frm t hok
    have hc := of_decide_eq_true hok
    refine ⟨h1.trans h.id, hlen, fun f hf => ?_⟩
    have hnote : noteL a ls frm t = ls.set frm.toNat t := if_pos ⟨hc.2.2.1, hc.2.2.2.1, hc.2.1, hc.1, hc.2.2.2.2.2⟩
    rw [h4] at hf
    rw [h3, hnote, round_r a t hc.2.2.2.2.2]
    rcases putH_mem' hf with rfl | ⟨hf, hne⟩
    · refine ⟨hc.2.2.1, hc.2.2.2.1, by rw [← h.id]; exact hc.2.2.2.2.1, t, ?_, hc.1, rfl, rfl⟩
      show (ls.set frm.toNat t)[frm.toNat]? = some t
      rw [List.getElem?_set, if_pos rfl, if_pos (by have := h.len; omega)]
    · by_cases e : a.round < t.r
      · have : (roundA a t).hs = [] := by
          unfold roundA
          rw [if_pos e]
          rfl
        rw [this] at hf
        exact absurd hf (by simp)
      · have : (roundA a t).hs = a.hs := by
          unfold roundA
          rw [if_neg e]
        rw [this] at hf
        obtain ⟨q1, q2, q3, t', q4, q5, q6, q7⟩ := h.heard f hf
        refine ⟨q1, q2, q3, t', ?_, q5, q6, by omega⟩
        rw [List.getElem?_set, if_neg (by omega)]
        exact q4
  · have hno : (hearA a frm t).2 = a := by
      unfold hearA
      rw [if_neg hok]
    rw [hno]
    refine ⟨h.id, hlen, fun f hf => ?_⟩
    obtain ⟨q1, q2, q3, t', q4, q5⟩ := h.heard f hf
    refine ⟨q1, q2, q3, t', ?_, q5⟩
    unfold noteL
    by_cases e : 1 ≤ frm ∧ frm ≤ 7 ∧ t.s = 1 ∧ t.k = 1 ∧ a.round ≤ t.r
    · rw [if_pos e]
      have hid : frm = a.id := Classical.byContradiction fun hne => hok (decide_eq_true ⟨e.2.2.2.1, e.2.2.1, e.1, e.2.1, hne, e.2.2.2.2⟩)
      rw [List.getElem?_set, if_neg (by have := h.id; omega)]
      exact q4
    · rw [if_neg e]
      exact q4
theorem hear_turned (a : Ca) (frm : Int) (t : Lt) : (hearA a frm t).1 = !decide (a.round = (hearA a frm t).2.round ∧ a.v = (hearA a frm t).2.v) ∧ a.round ≤ (hearA a frm t).2.round ∧ (hearA a frm t).2.calm = if (hearA a frm t).1 = true then 0 else a.calm := by
  by_cases hok : hearOk a frm t = true
  · have hc := of_decide_eq_true hok
    have hr := round_r a t hc.2.2.2.2.2
    unfold hearA
    rw [if_pos hok]
    by_cases hb : betterV t.vt (roundA a t).v = true
    · rw [if_pos hb]
      refine ⟨?_, by dsimp only; omega, rfl⟩
      dsimp only
      rw [eq_comm, Bool.not_eq_true', decide_eq_false_iff_not]
      rintro ⟨e1, e2⟩
      have : roundA a t = a := by
        unfold roundA
        rw [if_neg (by omega)]
      rw [this] at hb
      exact better_ne hb e2.symm
    · rw [if_neg hb]
      by_cases e : a.round < t.r
      · rw [decide_eq_true e]
        refine ⟨?_, by dsimp only; omega, ?_⟩
        · dsimp only
          rw [eq_comm, Bool.not_eq_true', decide_eq_false_iff_not]
          rintro ⟨e1, e2⟩
          omega
        · dsimp only
          rw [if_pos rfl]
          unfold roundA
          rw [if_pos e]
          rfl
      · rw [decide_eq_false e]
        have : roundA a t = a := by
          unfold roundA
          rw [if_neg e]
        rw [this]
        refine ⟨?_, by dsimp only; omega, rfl⟩
        dsimp only
        rw [decide_eq_true ⟨rfl, rfl⟩]
        rfl
  · unfold hearA
    rw [if_neg hok]
    refine ⟨?_, Int.le_refl _, rfl⟩
    dsimp only
    rw [decide_eq_true ⟨rfl, rfl⟩]
    rfl
theorem wrap1 {x : Int} (h : -1000 ≤ x ∧ x ≤ 1000) : IntKind.i64.wrap x = x := IntWalk.i64_in _ ⟨by omega, by omega⟩
theorem tick_waits {me : Int} {a : Ca} {ls : List Lt} (h : WInv me a ls) (hc : 0 ≤ a.calm ∧ a.calm ≤ 900) :
    (tickA a).2.calm = a.calm + 1 ∧ WInv me (tickA a).2 ls ∧ (tickA a).2.round = a.round ∧ (tickA a).2.v = a.v ∧ (tickA a).2.es = a.es ∧
    ((tickA a).1.2 = true → 2 ≤ a.calm + 1 ∧ (tickA a).1.1 = a.v.l ∧ ∀ ys : List Int, (me ∈ ys) → (∀ (k : Nat) (t : Lt), 1 ≤ k → k ≤ 7 → ls[k]? = some t → t.k = 1 → t.l = a.v.l → t.r = a.round → (k : Int) ∈ ys) → allA a.es ys = true) := by
  have hw := wrap1 (x := a.calm + 1) (by omega)
  refine ⟨hw, ⟨h.id, h.len, h.heard⟩, rfl, rfl, rfl, fun hok => ?_⟩
  unfold tickA at hok ⊢
  dsimp only at hok ⊢
  rw [hw] at hok ⊢
  by_cases e : a.v.l ≠ 0 ∧ 2 ≤ a.calm + 1 ∧ allA a.es (idsA a) = true
  · rw [if_pos e]
    refine ⟨e.2.1, rfl, fun ys hme hys => all_more (fun z hz => ?_) e.2.2⟩
    rcases List.mem_cons.1 hz with rfl | hz
    · rw [h.id]; exact hme
    · obtain ⟨f, hf, rfl⟩ := List.mem_map.1 hz
      obtain ⟨hf, hv⟩ := List.mem_filter.1 hf
      obtain ⟨q1, q2, q3, t, q4, q5, q6, q7⟩ := h.heard f hf
      have := hys f.1.toNat t (by omega) (by omega) q4 q5 (by rw [q6, of_decide_eq_true hv]) q7
      rwa [Int.toNat_of_nonneg (by omega)] at this
  · rw [if_neg e] at hok
    cases hok
end Go.Bd
