/- Two links that hand one another packets, in one connection: the plain law of layer 10, with no program in sight. Conditions: as each states. -/
import Derived.Test.Ytfaihpikeagpcaa10b
namespace Go.Bd
set_option linter.unusedVariables false

/-- One side: its link, what it sent, what it was told, what it let out. -/
structure Sd where
  k : Lk
  sent : List (List Int)
  told : List (List Int)
  out : List Pk

/-- What a packet of a says is so. -/
def PkOk (a : Sd) (p : Pk) : Prop :=
  p.from_ = a.k.inc ∧ p.ack ≤ a.k.got ∧ (p.seq = 0 ∨ 1 ≤ p.seq ∧ p.seq ≤ a.k.acked + 1 ∧ a.sent[(p.seq - 1).toNat]? = some p.load)

structure Half (a b : Sd) : Prop where
  pos : 0 < a.k.inc
  peer : a.k.peer = 0 ∨ a.k.peer = b.k.inc
  acked0 : 0 ≤ a.k.acked
  got0 : 0 ≤ a.k.got
  zero : a.k.peer = 0 → a.k.acked = 0 ∧ a.k.got = 0
  wait : a.k.wait = a.sent.drop a.k.acked.toNat
  told : a.told = b.sent.take a.k.got.toNat
  le1 : a.k.acked ≤ b.k.got
  le2 : b.k.got ≤ a.k.acked + 1
  len : a.k.got ≤ b.sent.length
  out : ∀ p ∈ a.out, PkOk a p

def Inv (a b : Sd) : Prop := Half a b ∧ Half b a
theorem Inv.symm {a b : Sd} (h : Inv a b) : Inv b a := ⟨h.2, h.1⟩

theorem Half.new {i j : Int} (hi : 0 < i) : Half ⟨⟨i, 0, 0, 0, []⟩, [], [], []⟩ ⟨⟨j, 0, 0, 0, []⟩, [], [], []⟩ :=
  ⟨hi, .inl rfl, Int.le_refl _, Int.le_refl _, fun _ => ⟨rfl, rfl⟩, rfl, rfl, Int.le_refl _, by simp, by simp, by simp⟩

def Sd.wrote (a : Sd) (l : List Int) : Sd := ⟨{ a.k with wait := a.k.wait ++ [l] }, a.sent ++ [l], a.told, a.out⟩
theorem get_app {α : Type} {xs : List α} {i : Nat} {x : α} (h : xs[i]? = some x) (l : List α) : (xs ++ l)[i]? = some x := by
  rw [List.getElem?_append_left (List.getElem?_eq_some_iff.1 h).1]
  exact h
theorem Inv.wrote {a b : Sd} (h : Inv a b) (l : List Int) : Inv (a.wrote l) b := by
  obtain ⟨ha, hb⟩ := h
  have h1 := ha.acked0
  have h2 := ha.le1
  have h3 := hb.len
  refine ⟨⟨ha.pos, ha.peer, ha.acked0, ha.got0, ha.zero, ?_, ha.told, ha.le1, ha.le2, ha.len, fun p hp => ?_⟩, ⟨hb.pos, hb.peer, hb.acked0, hb.got0, hb.zero, hb.wait, ?_, hb.le1, hb.le2, ?_, hb.out⟩⟩
  · show a.k.wait ++ [l] = (a.sent ++ [l]).drop a.k.acked.toNat
    rw [ha.wait, List.drop_append_of_le_length (by omega)]
  · obtain ⟨h4, h5, h6⟩ := ha.out p hp
    refine ⟨h4, h5, ?_⟩
    rcases h6 with h6 | ⟨h6, h7, h8⟩
    · exact .inl h6
    · exact .inr ⟨h6, h7, get_app h8 _⟩
  · show b.told = (a.sent ++ [l]).take b.k.got.toNat
    rw [hb.told, List.take_append_of_le_length (by omega)]
  · show b.k.got ≤ ((a.sent ++ [l]).length : Nat)
    rw [List.length_append]
    omega

theorem Half.out_ok {a b : Sd} (h : Half a b) : PkOk a a.k.out := by
  have h1 := h.acked0
  have hw := h.wait
  unfold Lk.out
  rw [if_neg (not_not_intro (show a.k.there from h.pos))]
  cases hc : a.k.wait with
  | nil => exact ⟨rfl, Int.le_refl _, .inl rfl⟩
  | cons l r =>
    show PkOk a (if 0 < a.k.peer then _ else _)
    by_cases hp : 0 < a.k.peer
    · rw [if_pos hp]
      refine ⟨rfl, Int.le_refl _, .inr ⟨?_, ?_, ?_⟩⟩
      · show 1 ≤ a.k.acked + 1; omega
      · exact Int.le_refl _
      · show a.sent[(a.k.acked + 1 - 1).toNat]? = some l
        rw [hw] at hc
        have : (a.sent.drop a.k.acked.toNat)[0]? = some l := by rw [hc]; rfl
        rw [List.getElem?_drop] at this
        rw [show a.k.acked + 1 - 1 = a.k.acked by omega]
        simpa using this
    · rw [if_neg hp]
      exact ⟨rfl, Int.le_refl _, .inl rfl⟩
def Sd.let_ (a : Sd) : Sd := ⟨a.k, a.sent, a.told, a.out ++ [a.k.out]⟩
theorem Inv.let_ {a b : Sd} (h : Inv a b) : Inv a.let_ b := by
  obtain ⟨ha, hb⟩ := h
  refine ⟨⟨ha.pos, ha.peer, ha.acked0, ha.got0, ha.zero, ha.wait, ha.told, ha.le1, ha.le2, ha.len, fun p hp => ?_⟩, ⟨hb.pos, hb.peer, hb.acked0, hb.got0, hb.zero, hb.wait, hb.told, hb.le1, hb.le2, hb.len, hb.out⟩⟩
  rcases List.mem_append.1 hp with hp | hp
  · exact ha.out p hp
  · simp only [List.mem_singleton] at hp
    subst hp
    exact ha.out_ok

/-- a takes a packet. -/
def Sd.took (a : Sd) (p : Pk) : Sd := ⟨(a.k.take p).2.2, a.sent, match (a.k.take p).1 with | some l => a.told ++ [l] | none => a.told, a.out⟩

theorem drop_tail {α : Type} {xs : List α} {n : Nat} : (xs.drop n).tail = xs.drop (n + 1) := by
  rw [List.tail_drop]
theorem take_next {α : Type} {xs : List α} {n : Nat} {x : α} (h : xs[n]? = some x) : xs.take (n + 1) = xs.take n ++ [x] := by
  rw [List.take_add_one, h]
  rfl

/-- Learning who is there. -/
theorem Inv.meet {a b : Sd} (h : Inv a b) {p : Pk} (hp : PkOk b p) : (a.k.meet p).2 = false ∧ (a.k.meet p).1 = { a.k with peer := b.k.inc } ∧ ¬ (¬ a.k.there ∨ p.from_ < 1 ∨ p.from_ < a.k.peer) := by
  obtain ⟨ha, hb⟩ := h
  have h0 := ha.pos
  have h1 := hb.pos
  have h2 := hp.1
  refine ⟨?_, ?_, ?_⟩
  · unfold Lk.meet
    rcases ha.peer with h3 | h3
    · rw [if_pos (by omega), if_neg (by omega)]
    · rw [if_neg (by omega)]
  · unfold Lk.meet
    rcases ha.peer with h3 | h3
    · rw [if_pos (by omega), if_neg (by omega)]
      have h4 := ha.zero h3
      show Lk.mk a.k.inc p.from_ 0 0 a.k.wait = Lk.mk a.k.inc b.k.inc a.k.acked a.k.got a.k.wait
      rw [h4.1, h4.2, h2]
    · rw [if_neg (by omega)]
      show a.k = Lk.mk a.k.inc b.k.inc a.k.acked a.k.got a.k.wait
      rw [← h3]
  · unfold Lk.there
    rcases ha.peer with h3 | h3 <;> omega
theorem Inv.knows {a b : Sd} (h : Inv a b) : Inv ⟨{ a.k with peer := b.k.inc }, a.sent, a.told, a.out⟩ b := by
  obtain ⟨ha, hb⟩ := h
  have h1 := hb.pos
  exact ⟨⟨ha.pos, .inr rfl, ha.acked0, ha.got0, fun h => absurd h (by show ¬ b.k.inc = 0; omega), ha.wait, ha.told, ha.le1, ha.le2, ha.len, ha.out⟩,
    ⟨hb.pos, hb.peer, hb.acked0, hb.got0, hb.zero, hb.wait, hb.told, hb.le1, hb.le2, hb.len, hb.out⟩⟩
theorem Inv.done {a b : Sd} (h : Inv a b) {p : Pk} (hp : PkOk b p) (hpe : 0 < a.k.peer) : Inv ⟨a.k.done p, a.sent, a.told, a.out⟩ b := by
  obtain ⟨ha, hb⟩ := h
  have h1 := ha.acked0
  have h2 := ha.le2
  unfold Lk.done
  by_cases hc : p.ack = a.k.acked + 1 ∧ a.k.wait ≠ []
  · rw [if_pos hc]
    have hpa := hp.2.1
    refine ⟨⟨ha.pos, ha.peer, ?_, ha.got0, fun h => absurd h (by show ¬ a.k.peer = 0; omega), ?_, ha.told, ?_, ?_, ha.len, fun q hq => ?_⟩, ⟨hb.pos, hb.peer, hb.acked0, hb.got0, hb.zero, hb.wait, hb.told, hb.le1, hb.le2, hb.len, hb.out⟩⟩
    · show 0 ≤ a.k.acked + 1; omega
    · show a.k.wait.tail = a.sent.drop (a.k.acked + 1).toNat
      rw [ha.wait, drop_tail]
      congr 1
      omega
    · show a.k.acked + 1 ≤ b.k.got; omega
    · show b.k.got ≤ a.k.acked + 1 + 1; omega
    · obtain ⟨h4, h5, h6⟩ := ha.out q hq
      refine ⟨h4, h5, ?_⟩
      rcases h6 with h6 | ⟨h6, h7, h8⟩
      · exact .inl h6
      · exact .inr ⟨h6, by show q.seq ≤ a.k.acked + 1 + 1; omega, h8⟩
  · rw [if_neg hc]
    exact ⟨⟨ha.pos, ha.peer, ha.acked0, ha.got0, ha.zero, ha.wait, ha.told, ha.le1, ha.le2, ha.len, ha.out⟩, hb⟩

theorem Inv.tells {a b : Sd} (h : Inv a b) {p : Pk} (hp : PkOk b p) (hpe : 0 < a.k.peer) (hs : p.seq = a.k.got + 1) : Inv ⟨{ a.k with got := a.k.got + 1 }, a.sent, a.told ++ [p.load], a.out⟩ b := by
  obtain ⟨ha, hb⟩ := h
  have h1 := ha.got0
  obtain ⟨h4, h5, h6⟩ := hp
  rcases h6 with h6 | ⟨h6, h7, h8⟩
  · omega
  rw [show p.seq - 1 = a.k.got by omega] at h8
  have h9 := (List.getElem?_eq_some_iff.1 h8).1
  have e : (a.k.got + 1).toNat = a.k.got.toNat + 1 := by omega
  refine ⟨⟨ha.pos, ha.peer, ha.acked0, ?_, fun h => absurd h (by show ¬ a.k.peer = 0; omega), ha.wait, ?_, ha.le1, ha.le2, ?_, fun q hq => ?_⟩, ⟨hb.pos, hb.peer, hb.acked0, hb.got0, hb.zero, hb.wait, hb.told, ?_, ?_, hb.len, hb.out⟩⟩
  · show 0 ≤ a.k.got + 1; omega
  · show a.told ++ [p.load] = b.sent.take (a.k.got + 1).toNat
    rw [e, take_next h8, ha.told]
  · show a.k.got + 1 ≤ (b.sent.length : Int); omega
  · obtain ⟨h4, h5, h6⟩ := ha.out q hq
    exact ⟨h4, by show q.ack ≤ a.k.got + 1; omega, h6⟩
  · show b.k.acked ≤ a.k.got + 1
    have := hb.le1
    omega
  · show a.k.got + 1 ≤ b.k.acked + 1
    omega

theorem Inv.took {a b : Sd} (h : Inv a b) {p : Pk} (hp : PkOk b p) : Inv (a.took p) b ∧ (a.k.take p).2.1 = false := by
  obtain ⟨h1, h2, h3⟩ := h.meet hp
  have hk := h.knows
  have hpe : 0 < b.k.inc := h.2.pos
  have hd := hk.done hp hpe
  unfold Sd.took Lk.take
  rw [if_neg h3, h1, h2]
  by_cases h4 : p.to ≠ a.k.inc
  · rw [if_pos h4]
    exact ⟨hk, rfl⟩
  rw [if_neg h4]
  have hpe2 : 0 < (Lk.done { a.k with peer := b.k.inc } p).peer := by
    unfold Lk.done
    split <;> exact hpe
  by_cases h5 : p.seq ≠ (Lk.done { a.k with peer := b.k.inc } p).got + 1
  · rw [if_pos h5]
    exact ⟨hd, rfl⟩
  · rw [if_neg h5]
    exact ⟨hd.tells hp hpe2 (Classical.not_not.1 h5), rfl⟩

/-- What a link comes to that takes what the other one lets out. -/
theorem Inv.goes {a b : Sd} (h : Inv a b) (hb0 : b.k.peer = a.k.inc) : (a.took b.k.out).k.acked = b.k.got ∧ ((a.took b.k.out).k.got = b.k.acked + 1 ∨ ((b.sent.length : Int) ≤ b.k.acked ∧ (a.took b.k.out).k.got = b.k.acked)) := by
  have hp := h.2.out_ok
  obtain ⟨h1, h2, h3⟩ := h.meet hp
  obtain ⟨ha, hb⟩ := h
  have hb1 := hb.pos
  have ha1 := ha.pos
  have a1 := ha.le1
  have a2 := ha.le2
  have b1 := hb.le1
  have b2 := hb.le2
  have a0 := ha.acked0
  have b0 := hb.acked0
  have hl := hb.len
  have hl2 := ha.len
  have hto : b.k.out.to = a.k.inc ∧ b.k.out.ack = b.k.got ∧ (b.k.wait ≠ [] → b.k.out.seq = b.k.acked + 1) ∧ (b.k.wait = [] → b.k.out.seq = 0) := by
    unfold Lk.out
    rw [if_neg (not_not_intro (show b.k.there from hb.pos))]
    cases hc : b.k.wait with
    | nil => exact ⟨hb0, rfl, fun h => absurd rfl h, fun _ => rfl⟩
    | cons l r =>
      show ((if 0 < b.k.peer then _ else _ : Pk)).to = _ ∧ ((if 0 < b.k.peer then _ else _ : Pk)).ack = _ ∧ (_ → ((if 0 < b.k.peer then _ else _ : Pk)).seq = _) ∧ (_ → ((if 0 < b.k.peer then _ else _ : Pk)).seq = _)
      rw [if_pos (by omega)]
      exact ⟨hb0, rfl, fun _ => rfl, fun h => by cases h⟩
  obtain ⟨t1, t2, t3, t4⟩ := hto
  unfold Sd.took Lk.take
  rw [if_neg h3, h1, h2, if_neg (not_not_intro t1)]
  have hdone : (Lk.done { a.k with peer := b.k.inc } b.k.out).acked = b.k.got ∧ (Lk.done { a.k with peer := b.k.inc } b.k.out).got = a.k.got := by
    unfold Lk.done
    by_cases hc : b.k.out.ack = a.k.acked + 1 ∧ a.k.wait ≠ []
    · rw [if_pos hc]
      refine ⟨?_, rfl⟩
      show a.k.acked + 1 = b.k.got
      omega
    · rw [if_neg hc]
      refine ⟨?_, rfl⟩
      show a.k.acked = b.k.got
      by_cases hg : b.k.got = a.k.acked
      · exact hg.symm
      · exfalso
        refine hc ⟨by omega, fun hw => ?_⟩
        rw [ha.wait, List.drop_eq_nil_iff] at hw
        omega
  have hwait : b.k.wait = [] ↔ (b.sent.length : Int) ≤ b.k.acked := by
    rw [hb.wait, List.drop_eq_nil_iff]
    omega
  by_cases h5 : b.k.out.seq ≠ (Lk.done { a.k with peer := b.k.inc } b.k.out).got + 1
  · rw [if_pos h5]
    refine ⟨hdone.1, ?_⟩
    show (Lk.done { a.k with peer := b.k.inc } b.k.out).got = _ ∨ (_ ∧ (Lk.done { a.k with peer := b.k.inc } b.k.out).got = _)
    rw [hdone.2] at h5 ⊢
    by_cases hw : b.k.wait = []
    · right
      have := hwait.1 hw
      omega
    · left
      have := t3 hw
      omega
  · rw [if_neg h5]
    refine ⟨hdone.1, ?_⟩
    show (Lk.done { a.k with peer := b.k.inc } b.k.out).got + 1 = _ ∨ (_ ∧ (Lk.done { a.k with peer := b.k.inc } b.k.out).got + 1 = _)
    have h6 := Classical.not_not.1 h5
    rw [hdone.2] at h6 ⊢
    left
    by_cases hw : b.k.wait = []
    · have := t4 hw
      have := ha.got0
      omega
    · have := t3 hw
      omega
theorem Inv.takes {a b : Sd} (h : Inv a b) {p : Pk} (hp : PkOk b p) : (a.took p).k.peer = b.k.inc ∧ a.k.acked ≤ (a.took p).k.acked ∧ a.k.got ≤ (a.took p).k.got ∧ (a.took p).sent = a.sent ∧ (a.took p).k.inc = a.k.inc := by
  obtain ⟨h1, h2, h3⟩ := h.meet hp
  unfold Sd.took Lk.take
  rw [if_neg h3, h1, h2]
  have hd : (Lk.done { a.k with peer := b.k.inc } p).peer = b.k.inc ∧ a.k.acked ≤ (Lk.done { a.k with peer := b.k.inc } p).acked ∧ (Lk.done { a.k with peer := b.k.inc } p).got = a.k.got ∧ (Lk.done { a.k with peer := b.k.inc } p).inc = a.k.inc := by
    unfold Lk.done
    split
    · exact ⟨rfl, by show a.k.acked ≤ a.k.acked + 1; omega, rfl, rfl⟩
    · exact ⟨rfl, Int.le_refl _, rfl, rfl⟩
  split
  · exact ⟨rfl, Int.le_refl _, Int.le_refl _, rfl, rfl⟩
  split
  · exact ⟨hd.1, hd.2.1, by show a.k.got ≤ _; rw [hd.2.2.1]; exact Int.le_refl _, rfl, hd.2.2.2⟩
  · exact ⟨hd.1, hd.2.1, by show a.k.got ≤ _ + 1; rw [hd.2.2.1]; omega, rfl, hd.2.2.2⟩

/-- How far they are: i packets were handed over, the next one is a's to take. -/
structure Far (a b : Sd) (i : Nat) : Prop where
  inv : Inv a b
  peer : 1 ≤ i → b.k.peer = a.k.inc
  peer2 : 2 ≤ i → a.k.peer = b.k.inc
  f1 : min (((i - 2) / 2 : Nat) : Int) b.sent.length ≤ b.k.acked
  f2 : min (((i - 1) / 2 : Nat) : Int) a.sent.length ≤ b.k.got
  f3 : min (((i - 3) / 2 : Nat) : Int) a.sent.length ≤ a.k.acked
  f4 : min (((i - 2) / 2 : Nat) : Int) b.sent.length ≤ a.k.got

theorem Far.zero {a b : Sd} (h : Inv a b) : Far a b 0 :=
  ⟨h, by omega, by omega, by have := h.2.acked0; simp; omega, by have := h.2.got0; simp; omega, by have := h.1.acked0; simp; omega, by have := h.1.got0; simp; omega⟩
theorem Far.step {a b : Sd} {i : Nat} (h : Far a b i) : Far b (a.took b.k.out) (i + 1) := by
  have hp := h.inv.2.out_ok
  obtain ⟨h1, h2, h3, h4, h5⟩ := h.inv.takes hp
  have hi := (h.inv.took hp).1
  have f1 := h.f1
  have f2 := h.f2
  have k1 := hi.1.acked0
  have k2 := hi.1.got0
  refine ⟨hi.symm, fun _ => h1, fun h6 => ?_, ?_, ?_, ?_, ?_⟩
  · rw [h5]
    exact h.peer (by omega)
  · rw [h4]
    by_cases h6 : 1 ≤ i
    · have hg := (h.inv.goes (h.peer h6)).1
      rw [hg]
      rw [show i + 1 - 2 = i - 1 by omega]
      exact f2
    · omega
  · by_cases h6 : 1 ≤ i
    · have hg := (h.inv.goes (h.peer h6)).2
      rcases hg with hg | ⟨hg1, hg2⟩ <;> omega
    · omega
  · rw [show i + 1 - 3 = i - 2 by omega]
    exact f1
  · rw [h4, show i + 1 - 2 = i - 1 by omega]
    exact f2
theorem Far.all {a b : Sd} {i n : Nat} (h : Far a b i) (ha : a.sent.length ≤ n) (hb : b.sent.length ≤ n) (hi : n ≤ (i - 3) / 2) : a.told = b.sent ∧ b.told = a.sent ∧ a.k.wait = [] ∧ b.k.wait = [] := by
  have f1 := h.f1
  have f2 := h.f2
  have f3 := h.f3
  have f4 := h.f4
  have a1 := h.inv.1.acked0
  have b1 := h.inv.2.acked0
  have a2 := h.inv.1.got0
  have b2 := h.inv.2.got0
  refine ⟨?_, ?_, ?_, ?_⟩
  · rw [h.inv.1.told, List.take_of_length_le (by omega)]
  · rw [h.inv.2.told, List.take_of_length_le (by omega)]
  · rw [h.inv.1.wait, List.drop_eq_nil_iff]
    omega
  · rw [h.inv.2.wait, List.drop_eq_nil_iff]
    omega
theorem Inv.told_le {a b : Sd} (h : Inv a b) : a.told = b.sent.take a.told.length := by
  have h1 := h.1.told
  have h2 := h.1.len
  have h3 := h.1.got0
  have h4 : a.told.length = a.k.got.toNat := by
    rw [h1, List.length_take]
    omega
  rw [h4]
  exact h1
end Go.Bd
