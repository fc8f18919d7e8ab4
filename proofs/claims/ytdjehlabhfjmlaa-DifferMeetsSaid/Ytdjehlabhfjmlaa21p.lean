/- Histories such as servers come to, and what a learner is told to do with its own: the plain law of layer 21, with no program in sight. Conditions: as each states. -/
import Derived.Test.Ytdjehlabhfjmlaa21b
import Derived.Test.YtdjehlabhfjmlaaSto
namespace Go.Bd
set_option linter.unusedVariables false

def upto (z : Int) (a : List Int) : List Int := a.filter fun x => decide (x ≤ z)
def lastOf (a : List Int) : Int := a.getD (a.length - 1) 0
/-- Two histories that have a zxid in common are the same up to it. -/
def Meet (a b : List Int) : Prop := ∀ z, z ∈ a → z ∈ b → upto z a = upto z b

theorem upto_app (z : Int) (a b : List Int) : upto z (a ++ b) = upto z a ++ upto z b := by simp [upto]
theorem upto_none {z : Int} {a : List Int} (h : ∀ x ∈ a, z < x) : upto z a = [] := by
  unfold upto
  rw [List.filter_eq_nil_iff]
  intro x hx
  have := h x hx
  simp; omega
theorem upto_all {z : Int} {a : List Int} (h : ∀ x ∈ a, x ≤ z) : upto z a = a := by
  unfold upto
  rw [List.filter_eq_self]
  intro x hx
  simp [h x hx]
theorem upto_mem {z x : Int} {a : List Int} : x ∈ upto z a ↔ x ∈ a ∧ x ≤ z := by simp [upto, List.mem_filter]
theorem upto_take {z : Int} {c : List Int} (hc : c.Pairwise (· < ·)) {i : Nat} (hz : z ∈ c.take i) : upto z (c.take i) = upto z c := by
  have h := hc
  rw [← List.take_append_drop i c, List.pairwise_append] at h
  have e : upto z c = upto z (c.take i) ++ upto z (c.drop i) := by rw [← upto_app, List.take_append_drop]
  rw [e, upto_none (a := c.drop i) (fun x hx => h.2.2 z hz x hx), List.append_nil]
theorem upto_upto {y z : Int} (h : y ≤ z) (a : List Int) : upto y (upto z a) = upto y a := by
  unfold upto
  rw [List.filter_filter]
  refine List.filter_congr fun x _ => ?_
  by_cases h1 : x ≤ y
  · simp [h1]; omega
  · simp [h1]
/-- Of a rising row what is up to z is a beginning. -/
theorem upto_split {z : Int} : ∀ {a : List Int}, a.Pairwise (· < ·) → ∃ r, a = upto z a ++ r ∧ ∀ x ∈ r, z < x
  | [], _ => ⟨[], rfl, by simp⟩
  | x :: r, h => by
    rw [List.pairwise_cons] at h
    by_cases hx : x ≤ z
    · obtain ⟨r', e, h'⟩ := upto_split (z := z) h.2
      refine ⟨r', ?_, h'⟩
      have : upto z (x :: r) = x :: upto z r := by simp [upto, hx]
      rw [this, List.cons_append, ← e]
    · refine ⟨x :: r, ?_, ?_⟩
      · rw [upto_none]
        · rfl
        · intro y hy
          rcases List.mem_cons.1 hy with rfl | hy
          · omega
          · have := h.1 y hy; omega
      · intro y hy
        rcases List.mem_cons.1 hy with rfl | hy
        · omega
        · have := h.1 y hy; omega

theorem lastOf_nil : lastOf [] = 0 := rfl
theorem lastOf_mem {a : List Int} (h : a ≠ []) : lastOf a ∈ a := by
  have hl : a.length - 1 < a.length := by
    have := List.length_pos_iff.2 h
    omega
  exact mem_of_getD hl rfl
theorem lastOf_max {a : List Int} (hs : a.Pairwise (· < ·)) : ∀ x ∈ a, x ≤ lastOf a := by
  intro x hx
  obtain ⟨i, hi, rfl⟩ := List.mem_iff_getElem.1 hx
  unfold lastOf
  rw [List.getD_eq_getElem?_getD, List.getElem?_eq_getElem (by omega)]
  show a[i] ≤ a[a.length - 1]
  by_cases e : i = a.length - 1
  · subst e; exact Int.le_refl _
  · exact Int.le_of_lt (List.pairwise_iff_getElem.1 hs i (a.length - 1) hi (by omega) (by omega))
theorem lastOf_pos {a : List Int} (hp : ∀ x ∈ a, 1 ≤ x) : 0 ≤ lastOf a := by
  by_cases h : a = []
  · subst h; exact Int.le_refl _
  · have := hp _ (lastOf_mem h); omega

/-! ### What servers come to -/
def deeds (e m : Nat) : List Int := (List.range m).map fun (k : Nat) => ((e : Int) + 1) * 4294967296 + k + 1

structure Good (e : Nat) (Φ : List Int → Prop) : Prop where
  sorted : ∀ a, Φ a → a.Pairwise (· < ·)
  range : ∀ a, Φ a → ∀ x ∈ a, 1 ≤ x ∧ x ≤ (e : Int) * 4294967296 + 4
  len : ∀ a, Φ a → a.length ≤ 4 * e
  meet : ∀ a b, Φ a → Φ b → Meet a b

theorem Good.zero : Good 0 (fun a => a = []) :=
  ⟨by rintro _ rfl; simp, by rintro _ rfl; simp, by rintro _ rfl; simp, by rintro _ _ rfl rfl; simp [Meet]⟩

theorem deeds_len (e m : Nat) : (deeds e m).length = m := by simp [deeds]
theorem deeds_range {e m : Nat} (hm : m ≤ 4) : ∀ x ∈ deeds e m, (e : Int) * 4294967296 + 4 < x ∧ x ≤ ((e + 1 : Nat) : Int) * 4294967296 + 4 ∧ 1 ≤ x := by
  intro x hx
  obtain ⟨k, hk, rfl⟩ := List.mem_map.1 hx
  have := List.mem_range.1 hk
  omega
theorem deeds_sorted (e m : Nat) : (deeds e m).Pairwise (· < ·) := by
  unfold deeds
  rw [List.pairwise_map]
  refine (List.pairwise_lt_range (n := m)).imp ?_
  intro a b h
  omega
theorem deeds_succ (e m : Nat) : deeds e (m + 1) = deeds e m ++ [((e : Int) + 1) * 4294967296 + m + 1] := by
  simp [deeds, List.range_succ]
theorem deeds_take (e m i : Nat) (h : i ≤ m) : (deeds e m).take i = deeds e i := by
  unfold deeds
  rw [← List.map_take, List.take_range, Nat.min_eq_left h]

/-- One more epoch: whoever follows has what the leader began with, and of the new deeds the first ones. -/
def onward (e : Nat) (Φ : List Int → Prop) (begun : List Int) : List Int → Prop := fun a => Φ a ∨ ∃ i, i ≤ 4 ∧ a = begun ++ deeds e i

theorem Good.onward {e : Nat} {Φ : List Int → Prop} (h : Good e Φ) {begun : List Int} (hb : Φ begun) : Good (e + 1) (onward e Φ begun) := by
  have hsort : ∀ m, m ≤ 4 → (begun ++ deeds e m).Pairwise (· < ·) := fun m hm => by
    rw [List.pairwise_append]
    refine ⟨h.sorted _ hb, deeds_sorted e m, fun x hx y hy => ?_⟩
    have h1 := h.range _ hb x hx
    have h2 := deeds_range hm y hy
    omega
  have hpre : ∀ i, i ≤ 4 → begun ++ deeds e i = (begun ++ deeds e 4).take (begun.length + i) := fun i hi => by
    rw [List.take_append, List.take_of_length_le (by omega), show begun.length + i - begun.length = i by omega, deeds_take e 4 i hi]
  have hold : ∀ z i, i ≤ 4 → z ≤ (e : Int) * 4294967296 + 4 → upto z (begun ++ deeds e i) = upto z begun := fun z i hi hz => by
    rw [upto_app, upto_none (a := deeds e i), List.append_nil]
    intro x hx
    have := deeds_range hi x hx
    omega
  have hmem : ∀ z i, i ≤ 4 → z ≤ (e : Int) * 4294967296 + 4 → z ∈ begun ++ deeds e i → z ∈ begun := fun z i hi hz hx => by
    rcases List.mem_append.1 hx with hx | hx
    · exact hx
    · have := deeds_range hi z hx; omega
  refine ⟨?_, ?_, ?_, ?_⟩
  · rintro a (ha | ⟨i, hi, rfl⟩)
    · exact h.sorted a ha
    · exact hsort i hi
  · rintro a (ha | ⟨i, hi, rfl⟩) x hx
    · have := h.range a ha x hx
      omega
    · rcases List.mem_append.1 hx with hx | hx
      · have := h.range _ hb x hx; omega
      · have := deeds_range hi x hx; omega
  · rintro a (ha | ⟨i, hi, rfl⟩)
    · have := h.len a ha; omega
    · have := h.len _ hb
      rw [List.length_append, deeds_len]; omega
  · rintro a b (ha | ⟨i, hi, rfl⟩) (hb' | ⟨j, hj, rfl⟩)
    · exact h.meet a b ha hb'
    · intro z hz1 hz2
      have hr := h.range a ha z hz1
      rw [hold z j hj hr.2]
      exact h.meet a begun ha hb z hz1 (hmem z j hj hr.2 hz2)
    · intro z hz1 hz2
      have hr := h.range b hb' z hz2
      rw [hold z i hi hr.2]
      exact h.meet begun b hb hb' z (hmem z i hi hr.2 hz1) hz2
    · intro z hz1 hz2
      rw [hpre i hi] at hz1 ⊢
      rw [hpre j hj] at hz2 ⊢
      rw [upto_take (hsort 4 (by omega)) hz1, upto_take (hsort 4 (by omega)) hz2]

/-! ### What a learner is told -/
theorem wayGo_deed (base last : Int) : ∀ (l : List Int) (to : Int), (wayGo base last to l).1 = 7 → last ∈ l
  | [], to, h => by
    unfold wayGo at h
    split at h <;> simp at h
  | z :: r, to, h => by
    unfold wayGo at h
    split at h
    · rename_i e; subst e; exact .head _
    · exact .tail _ (wayGo_deed base last r _ h)
theorem way_deed {base last : Int} {l : List Int} (h : (way base l last).1 = 7) : last = base ∨ last ∈ l := by
  unfold way at h
  split at h
  · rename_i e; exact .inl e
  · exact .inr (wayGo_deed base last l _ h)
theorem wayGo_cut (base last : Int) : ∀ (l : List Int) (to : Int), (wayGo base last to l).1 = 5 → last ∉ l ∧ to ≤ (wayGo base last to l).2 ∧ ∀ x ∈ l, x < last → x ≤ (wayGo base last to l).2
  | [], to, h => by
    unfold wayGo at h ⊢
    split at h
    · simp at h
    · rename_i e; simp [e]
  | z :: r, to, h => by
    unfold wayGo at h ⊢
    split at h
    · simp at h
    · rename_i e
      rw [if_neg e]
      obtain ⟨h1, h2, h3⟩ := wayGo_cut base last r _ h
      refine ⟨fun hm => ?_, ?_, fun x hx hlt => ?_⟩
      · rcases List.mem_cons.1 hm with rfl | hm
        · exact e rfl
        · exact h1 hm
      · refine Int.le_trans ?_ h2
        split <;> omega
      · rcases List.mem_cons.1 hx with rfl | hx
        · refine Int.le_trans ?_ h2
          split <;> omega
        · exact h3 x hx hlt
theorem way_cut {base last : Int} {l : List Int} (h : (way base l last).1 = 5) : last ∉ l ∧ ∀ x ∈ l, x < last → x ≤ (way base l last).2 := by
  unfold way at h ⊢
  split at h
  · simp at h
  · rename_i e
    rw [if_neg e]
    obtain ⟨h1, _, h3⟩ := wayGo_cut base last l _ h
    exact ⟨h1, h3⟩

structure Pair (own other : List Int) : Prop where
  rises : own.Pairwise (· < ·)
  rises' : other.Pairwise (· < ·)
  pos : ∀ x ∈ own, 1 ≤ x
  pos' : ∀ x ∈ other, 1 ≤ x
  meet : Meet own other

theorem Good.pair {e : Nat} {Φ : List Int → Prop} (h : Good e Φ) {a b : List Int} (ha : Φ a) (hb : Φ b) : Pair a b :=
  ⟨h.sorted a ha, h.sorted b hb, fun x hx => (h.range a ha x hx).1, fun x hx => (h.range b hb x hx).1, h.meet a b ha hb⟩

theorem Pair.cut {own other : List Int} (h : Pair own other) (z : Int) : Pair own (upto z other) :=
  ⟨h.rises, h.rises'.sublist List.filter_sublist, h.pos, fun x hx => h.pos' x (upto_mem.1 hx).1, fun y h1 h2 => by
    have h3 := upto_mem.1 h2
    rw [upto_upto h3.2]
    exact h.meet y h1 h3.1⟩

theorem Pair.deed {own other : List Int} (h : Pair own other) {k : Nat} (hw : (way (lastOf (own.take k)) (own.drop k) (lastOf other)).1 = 7) : other.length ≤ own.length ∧ other = own.take other.length := by
  by_cases he : other = []
  · subst he; simp
  have hm := lastOf_mem he
  have hmo : lastOf other ∈ own := by
    rcases way_deed hw with e | e
    · have hne : own.take k ≠ [] := fun hn => by
        rw [hn, lastOf_nil] at e
        have := h.pos' _ hm
        omega
      rw [e]
      exact List.mem_of_mem_take (lastOf_mem hne)
    · exact List.mem_of_mem_drop e
  have e1 := h.meet _ hmo hm
  rw [upto_all (a := other) (lastOf_max h.rises')] at e1
  obtain ⟨r, e2, _⟩ := upto_split (z := lastOf other) h.rises
  rw [e1] at e2
  rw [e2]
  simp

theorem Pair.truncs {own other : List Int} (h : Pair own other) {k : Nat} (hw : (way (lastOf (own.take k)) (own.drop k) (lastOf other)).1 = 5) :
    let z := (way (lastOf (own.take k)) (own.drop k) (lastOf other)).2
    z < lastOf other ∧ lastOf (own.take k) ≤ z ∧ (upto z other).length < other.length ∧ ∀ i j, (upto z other).length ≤ i → i < other.length → j < own.length → own.getD j 0 ≠ other.getD i 0 := by
  intro z
  have hf := way_falls (lastOf (own.take k)) (own.drop k) (lastOf other)
  have h0 : lastOf (own.take k) ≤ z ∧ z < lastOf other := by
    rcases hf with ⟨h1, _⟩ | ⟨h1, _⟩ | ⟨_, h2, h3⟩
    · rw [hw] at h1; cases h1
    · rw [hw] at h1; cases h1
    · exact ⟨h2, h3⟩
  have hb0 : 0 ≤ lastOf (own.take k) := lastOf_pos fun x hx => h.pos x (List.mem_of_mem_take hx)
  obtain ⟨h4, h5⟩ := way_cut hw
  obtain ⟨r, e, hr⟩ := upto_split (z := z) h.rises'
  have hne : other ≠ [] := fun hn => by
    rw [hn, lastOf_nil] at h0
    omega
  refine ⟨h0.2, h0.1, ?_, fun i j hi hi2 hj heq => ?_⟩
  · have hlen : other.length = (upto z other).length + r.length := by
      have := congrArg List.length e
      simpa using this
    have : r ≠ [] := fun hn => by
      rw [hn, List.append_nil] at e
      have hl := lastOf_mem hne
      rw [e] at hl
      have := (upto_mem.1 hl).2
      rw [← e] at this
      omega
    have := List.length_pos_iff.2 this
    omega
  · have hy : other.getD i 0 ∈ r := by
      rw [e, List.getD_eq_getElem?_getD, List.getElem?_append_right hi, ← List.getD_eq_getElem?_getD]
      refine mem_of_getD ?_ rfl
      have := congrArg List.length e
      rw [List.length_append] at this
      omega
    have hgt := hr _ hy
    have hyo : other.getD i 0 ∈ other := mem_of_getD hi2 rfl
    have hle := lastOf_max h.rises' _ hyo
    have hown : other.getD i 0 ∈ own := mem_of_getD hj heq
    have hdrop : other.getD i 0 ∈ own.drop k := by
      rw [← List.take_append_drop k own] at hown
      rcases List.mem_append.1 hown with hx | hx
      · have := lastOf_max (h.rises.sublist (List.take_sublist k own)) _ hx
        omega
      · exact hx
    have hne2 : other.getD i 0 ≠ lastOf other := fun e' => h4 (e' ▸ hdrop)
    have := h5 _ hdrop (by omega)
    omega

end Go.Bd
