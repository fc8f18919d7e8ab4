/- The plain law on quorums: two of one config meet. Conditions: none. -/
import Derived.Test.Ytinddgigjecofaa22u
namespace Go.Bd
set_option linter.unusedVariables false

theorem cnt_apart {P A B : Nat → Bool} (hA : ∀ g, A g = true → P g = true) (hB : ∀ g, B g = true → P g = true) : ∀ k, (∀ g, g < k → ¬ (A g = true ∧ B g = true)) → cnt A k + cnt B k ≤ cnt P k
  | 0, _ => by simp [cnt]
  | k + 1, h => by
    have ih := cnt_apart hA hB k fun g hg => h g (by omega)
    have hk := h k (by omega)
    have h1 := hA k
    have h2 := hB k
    show (cnt A k + if A k = true then 1 else 0) + (cnt B k + if B k = true then 1 else 0) ≤ cnt P k + if P k = true then 1 else 0
    by_cases a : A k = true
    · have b : ¬ B k = true := fun b => hk ⟨a, b⟩
      rw [if_pos a, if_neg b, if_pos (h1 a)]
      omega
    · by_cases b : B k = true
      · rw [if_neg a, if_pos b, if_pos (h2 b)]
        omega
      · rw [if_neg a, if_neg b]
        split <;> omega
theorem wsum_apart {p q : Mb → Bool} (g : Int) : ∀ (ms : List Mb), (∀ m ∈ ms, 0 ≤ m.weight) → (∀ m ∈ ms, ¬ (p m = true ∧ q m = true)) → wsum p g ms + wsum q g ms ≤ wsum (fun _ => true) g ms
  | [], _, _ => by simp [wsum]
  | m :: r, hw, h => by
    have ih := wsum_apart g r (fun x hx => hw x (.tail _ hx)) (fun x hx => h x (.tail _ hx))
    have h0 := hw m (.head _)
    have h1 := h m (.head _)
    show ((if m.group = g ∧ p m = true then m.weight else 0) + wsum p g r) + ((if m.group = g ∧ q m = true then m.weight else 0) + wsum q g r) ≤ (if m.group = g ∧ true = true then m.weight else 0) + wsum (fun _ => true) g r
    by_cases hg : m.group = g
    · by_cases a : p m = true
      · have b : ¬ q m = true := fun b => h1 ⟨a, b⟩
        rw [if_pos ⟨hg, a⟩, if_neg (fun x => b x.2), if_pos ⟨hg, rfl⟩]
        omega
      · rw [if_neg (fun x => a x.2)]
        by_cases b : q m = true
        · rw [if_pos ⟨hg, b⟩, if_pos ⟨hg, rfl⟩]
          omega
        · rw [if_neg (fun x => b x.2), if_pos ⟨hg, rfl⟩]
          omega
    · rw [if_neg (fun x => hg x.1), if_neg (fun x => hg x.1), if_neg (fun x => hg x.1)]
      omega
theorem wsum_part {p : Mb → Bool} (g : Int) : ∀ (ms : List Mb), (∀ m ∈ ms, 0 ≤ m.weight) → wsum p g ms ≤ wsum (fun _ => true) g ms
  | [], _ => by simp [wsum]
  | m :: r, hw => by
    have ih := wsum_part (p := p) g r (fun x hx => hw x (.tail _ hx))
    have h0 := hw m (.head _)
    show (if m.group = g ∧ p m = true then m.weight else 0) + wsum p g r ≤ (if m.group = g ∧ true = true then m.weight else 0) + wsum (fun _ => true) g r
    by_cases hg : m.group = g
    · rw [if_pos (c := m.group = g ∧ true = true) ⟨hg, rfl⟩]
      split <;> omega
    · rw [if_neg (fun x => hg x.1), if_neg (fun x => hg x.1)]
      omega
theorem quorums_meet {ver : Int} {ms : List Mb} {a b : List Int} (ha : quorumE ver ms a = true) (hb : quorumE ver ms b = true) : ∃ z, z ∈ a ∧ z ∈ b := by
  unfold quorumE at ha hb
  simp only [Bool.and_eq_true, decide_eq_true_eq] at ha hb
  obtain ⟨hck, ha⟩ := ha
  obtain ⟨_, hb⟩ := hb
  obtain ⟨_, hfit⟩ := check_fit hck
  have hw : ∀ m ∈ ms, 0 ≤ m.weight := fun m hm => (hfit m hm).1
  have sub : ∀ (ids : List Int) (g : Nat), decide (wsum (fun _ => true) g ms < 2 * wsum (fun m => decide (m.id ∈ ids)) g ms) = true → decide (0 < wsum (fun _ => true) g ms) = true := fun ids g h => by
    simp only [decide_eq_true_eq] at h ⊢
    have := wsum_part (p := fun m => decide (m.id ∈ ids)) (g : Int) ms hw
    omega
  by_cases hg : ∀ g, g < 7 → ¬ (decide (wsum (fun _ => true) (g : Nat) ms < 2 * wsum (fun m => decide (m.id ∈ a)) g ms) = true ∧ decide (wsum (fun _ => true) g ms < 2 * wsum (fun m => decide (m.id ∈ b)) g ms) = true)
  · have := cnt_apart (P := fun g : Nat => decide (0 < wsum (fun _ => true) g ms)) (sub a) (sub b) 7 hg
    omega
  · obtain ⟨g, hg⟩ := Classical.not_forall.1 hg
    obtain ⟨hg7, hg⟩ := Classical.not_imp.1 hg
    have hg := Classical.not_not.1 hg
    simp only [decide_eq_true_eq] at hg
    by_cases hm : ∀ m ∈ ms, ¬ ((fun m : Mb => decide (m.id ∈ a)) m = true ∧ (fun m : Mb => decide (m.id ∈ b)) m = true)
    · have := wsum_apart (g : Int) ms hw hm
      omega
    · obtain ⟨m, hm⟩ := Classical.not_forall.1 hm
      obtain ⟨_, hm⟩ := Classical.not_imp.1 hm
      have hm := Classical.not_not.1 hm
      simp only [decide_eq_true_eq] at hm
      exact ⟨m.id, hm⟩
end Go.Bd
