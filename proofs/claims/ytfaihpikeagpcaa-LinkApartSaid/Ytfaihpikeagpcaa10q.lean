/- Two links over resets: what was sent in one connection is told in no other: the plain law, with no program in sight. Conditions: as each states. -/
import Derived.Test.Ytfaihpikeagpcaa10p
namespace Go.Bd
set_option linter.unusedVariables false

/-- A load, by who sent it, in which incarnation, with which tag. -/
def enc (wb : Int) (inc : Int) (t : Nat) : List Int := [IntKind.u8.wrap wb, IntKind.u8.wrap inc, IntKind.u8.wrap t, IntKind.u8.wrap ((t : Int) / 256)]

/-- What went out, or may go out, in each connection: by its own incarnation and the other one's. -/
abbrev Book := Int → Int → List Nat
def Up (T : Nat) (l : List Nat) : Prop := l.Pairwise (· < ·) ∧ ∀ t ∈ l, 1 ≤ t ∧ t ≤ T
theorem Up.more {T : Nat} {l : List Nat} (h : Up T l) : Up (T + 1) l := ⟨h.1, fun t ht => by have := h.2 t ht; omega⟩
theorem Up.push {T : Nat} {l : List Nat} (h : Up T l) : Up (T + 1) (l ++ [T + 1]) := by
  refine ⟨List.pairwise_append.2 ⟨h.1, List.pairwise_singleton _ _, fun x hx y hy => ?_⟩, fun t ht => ?_⟩
  · have := (h.2 x hx).2
    simp only [List.mem_singleton] at hy
    omega
  · rcases List.mem_append.1 ht with ht | ht
    · have := h.2 t ht; omega
    · simp only [List.mem_singleton] at ht
      omega
theorem Up.sub {T : Nat} {l m : List Nat} (h : Up T l) (hs : m.Sublist l) : Up T m := ⟨h.1.sublist hs, fun t ht => h.2 t (hs.subset ht)⟩

/-- What a side sends, and has let out. -/
structure Out (wb : Int) (S : Book) (b : Sd) (T : Nat) : Prop where
  inc : 1 ≤ b.k.inc
  peer : 0 ≤ b.k.peer
  acked : 0 ≤ b.k.acked
  got : 0 ≤ b.k.got
  zero : b.k.peer = 0 → b.k.acked = 0 ∧ b.k.got = 0
  up : ∀ i j, Up T (S i j)
  later : ∀ i j, (b.k.inc < i ∨ (i = b.k.inc ∧ b.k.peer < j)) → S i j = []
  wait : ∃ ts, b.k.wait = ts.map (enc wb b.k.inc) ∧ Up T ts ∧ (0 < b.k.peer → ts = (S b.k.inc b.k.peer).drop b.k.acked.toNat ∧ b.k.acked ≤ (S b.k.inc b.k.peer).length)
  out : ∀ p ∈ b.out, p.seq = 0 ∨ (1 ≤ p.seq ∧ 0 < p.to ∧ ∃ t, (S p.from_ p.to)[(p.seq - 1).toNat]? = some t ∧ p.load = enc wb p.from_ t)
/-- What a side was told. -/
structure Told (wo : Int) (S : Book) (a : Sd) : Prop where
  zero : a.k.peer = 0 → a.told = []
  told : 0 < a.k.peer → a.told = ((S a.k.peer a.k.inc).take a.k.got.toNat).map (enc wo a.k.peer) ∧ a.k.got ≤ (S a.k.peer a.k.inc).length

structure Ap (wa wb : Int) (Sa Sb : Book) (a b : Sd) (T : Nat) : Prop where
  oa : Out wa Sa a T
  ob : Out wb Sb b T
  ta : Told wb Sb a
  tb : Told wa Sa b
theorem Ap.symm {wa wb : Int} {Sa Sb : Book} {a b : Sd} {T : Nat} (h : Ap wa wb Sa Sb a b T) : Ap wb wa Sb Sa b a T := ⟨h.ob, h.oa, h.tb, h.ta⟩

def bk0 : Book := fun _ _ => []
theorem Out.new (wb : Int) : Out wb bk0 ⟨⟨1, 0, 0, 0, []⟩, [], [], []⟩ 0 :=
  ⟨by decide, by decide, by decide, by decide, fun _ => ⟨rfl, rfl⟩, fun _ _ => ⟨List.Pairwise.nil, by simp [bk0]⟩, fun _ _ _ => rfl, ⟨[], rfl, ⟨List.Pairwise.nil, by simp⟩, fun h => absurd h (by decide)⟩, by simp⟩
theorem Told.new (wo : Int) : Told wo bk0 ⟨⟨1, 0, 0, 0, []⟩, [], [], []⟩ := ⟨fun _ => rfl, fun h => absurd h (by decide)⟩

def Book.at_ (S : Book) (i j : Int) (l : List Nat) : Book := fun x y => if x = i ∧ y = j then l else S x y
theorem Book.at_same (S : Book) (i j : Int) (l : List Nat) : S.at_ i j l i j = l := by unfold Book.at_; rw [if_pos ⟨rfl, rfl⟩]
theorem Book.at_other (S : Book) {i j x y : Int} (l : List Nat) (h : ¬ (x = i ∧ y = j)) : S.at_ i j l x y = S x y := by unfold Book.at_; rw [if_neg h]

/-- The book of one who sends a load. -/
def bkSend (S : Book) (b : Sd) (T : Nat) : Book := if 0 < b.k.peer then S.at_ b.k.inc b.k.peer (S b.k.inc b.k.peer ++ [T + 1]) else S
theorem bkSend_ge (S : Book) (b : Sd) (T : Nat) (i j : Int) : ∃ l, bkSend S b T i j = S i j ++ l := by
  unfold bkSend
  split
  · by_cases h : i = b.k.inc ∧ j = b.k.peer
    · obtain ⟨rfl, rfl⟩ := h
      exact ⟨_, Book.at_same _ _ _ _⟩
    · exact ⟨[], by rw [Book.at_other _ _ h, List.append_nil]⟩
  · exact ⟨[], by rw [List.append_nil]⟩
theorem Told.grow {wo : Int} {S S' : Book} {a : Sd} (h : Told wo S a) (hS : ∀ i j, ∃ l, S' i j = S i j ++ l) : Told wo S' a := by
  refine ⟨h.zero, fun hp => ?_⟩
  obtain ⟨h1, h2⟩ := h.told hp
  obtain ⟨l, hl⟩ := hS a.k.peer a.k.inc
  rw [hl]
  refine ⟨?_, by rw [List.length_append]; omega⟩
  rw [List.take_append_of_le_length (by omega)]
  exact h1
theorem out_grow {wb : Int} {S S' : Book} {l : List Pk} (h : ∀ p ∈ l, p.seq = 0 ∨ (1 ≤ p.seq ∧ 0 < p.to ∧ ∃ t, (S p.from_ p.to)[(p.seq - 1).toNat]? = some t ∧ p.load = enc wb p.from_ t)) (hS : ∀ i j, ∃ m, S' i j = S i j ++ m) :
    ∀ p ∈ l, p.seq = 0 ∨ (1 ≤ p.seq ∧ 0 < p.to ∧ ∃ t, (S' p.from_ p.to)[(p.seq - 1).toNat]? = some t ∧ p.load = enc wb p.from_ t) := fun p hp => by
  rcases h p hp with h1 | ⟨h1, h2, t, h3, h4⟩
  · exact .inl h1
  · obtain ⟨m, hm⟩ := hS p.from_ p.to
    exact .inr ⟨h1, h2, t, by rw [hm]; exact get_app h3 _, h4⟩

theorem Ap.more {wa wb : Int} {Sa Sb : Book} {a b : Sd} {T : Nat} (h : Ap wa wb Sa Sb a b T) : Ap wa wb Sa Sb a b (T + 1) := by
  have up : ∀ {w : Int} {S : Book} {x : Sd}, Out w S x T → Out w S x (T + 1) := fun {w S x} o =>
    ⟨o.inc, o.peer, o.acked, o.got, o.zero, fun i j => (o.up i j).more, o.later, by obtain ⟨ts, h1, h2, h3⟩ := o.wait; exact ⟨ts, h1, h2.more, h3⟩, o.out⟩
  exact ⟨up h.oa, up h.ob, h.ta, h.tb⟩
theorem Ap.send {wa wb : Int} {Sa Sb : Book} {a b : Sd} {T : Nat} (h : Ap wa wb Sa Sb a b T) : Ap wa wb (bkSend Sa a T) Sb (a.wrote (enc wa a.k.inc (T + 1))) b (T + 1) := by
  have hm := h.more
  have o := h.oa
  have hge := bkSend_ge Sa a T
  refine ⟨⟨o.inc, o.peer, o.acked, o.got, o.zero, fun i j => ?_, fun i j hij => ?_, ?_, out_grow o.out hge⟩, hm.ob, ⟨h.ta.zero, h.ta.told⟩, h.tb.grow hge⟩
  · unfold bkSend
    split
    · by_cases hc : i = a.k.inc ∧ j = a.k.peer
      · obtain ⟨rfl, rfl⟩ := hc
        rw [Book.at_same]
        exact (o.up _ _).push
      · rw [Book.at_other _ _ hc]
        exact (o.up _ _).more
    · exact (o.up _ _).more
  · have hij' : a.k.inc < i ∨ (i = a.k.inc ∧ a.k.peer < j) := hij
    unfold bkSend
    split
    · rw [Book.at_other _ _ (by omega)]
      exact o.later i j hij'
    · exact o.later i j hij'
  · obtain ⟨ts, h1, h2, h3⟩ := o.wait
    refine ⟨ts ++ [T + 1], ?_, h2.push, fun hp => ?_⟩
    · show a.k.wait ++ [enc wa a.k.inc (T + 1)] = _
      rw [h1, List.map_append]
      rfl
    · have hp' : 0 < a.k.peer := hp
      obtain ⟨h4, h5⟩ := h3 hp'
      have ha := o.acked
      show _ = (bkSend Sa a T a.k.inc a.k.peer).drop a.k.acked.toNat ∧ a.k.acked ≤ (bkSend Sa a T a.k.inc a.k.peer).length
      unfold bkSend
      rw [if_pos hp', Book.at_same, List.drop_append_of_le_length (by omega), ← h4, List.length_append]
      exact ⟨rfl, by omega⟩

theorem Out.fresh {wb : Int} {S : Book} {b : Sd} {T : Nat} (o : Out wb S b T) : b.k.out.seq = 0 ∨ (1 ≤ b.k.out.seq ∧ 0 < b.k.out.to ∧ ∃ t, (S b.k.out.from_ b.k.out.to)[(b.k.out.seq - 1).toNat]? = some t ∧ b.k.out.load = enc wb b.k.out.from_ t) := by
  have h1 := o.acked
  obtain ⟨ts, h2, h3, h4⟩ := o.wait
  unfold Lk.out
  rw [if_neg (not_not_intro (show b.k.there from o.inc))]
  cases hc : b.k.wait with
  | nil => exact .inl rfl
  | cons l r =>
    show Pk.seq (if 0 < b.k.peer then _ else _) = 0 ∨ (1 ≤ Pk.seq (if 0 < b.k.peer then _ else _) ∧ 0 < Pk.to (if 0 < b.k.peer then _ else _) ∧ ∃ t, (S (Pk.from_ (if 0 < b.k.peer then _ else _)) (Pk.to (if 0 < b.k.peer then _ else _)))[(Pk.seq (if 0 < b.k.peer then _ else _) - 1).toNat]? = some t ∧ Pk.load (if 0 < b.k.peer then _ else _) = enc wb (Pk.from_ (if 0 < b.k.peer then _ else _)) t)
    by_cases hp : 0 < b.k.peer
    · rw [if_pos hp]
      obtain ⟨h5, h6⟩ := h4 hp
      cases ts with
      | nil => rw [hc] at h2; cases h2
      | cons t ts =>
        right
        refine ⟨by show 1 ≤ b.k.acked + 1; omega, hp, t, ?_, ?_⟩
        · show (S b.k.inc b.k.peer)[(b.k.acked + 1 - 1).toNat]? = some t
          rw [show b.k.acked + 1 - 1 = b.k.acked by omega]
          have : ((S b.k.inc b.k.peer).drop b.k.acked.toNat)[0]? = some t := by rw [← h5]; rfl
          rw [List.getElem?_drop] at this
          simpa using this
        · rw [hc] at h2
          simp only [List.map_cons, List.cons.injEq] at h2
          exact h2.1
    · rw [if_neg hp]
      exact .inl rfl
theorem Ap.let_ {wa wb : Int} {Sa Sb : Book} {a b : Sd} {T : Nat} (h : Ap wa wb Sa Sb a b T) : Ap wa wb Sa Sb a.let_ b T := by
  have o := h.oa
  refine ⟨⟨o.inc, o.peer, o.acked, o.got, o.zero, o.up, o.later, o.wait, fun p hp => ?_⟩, h.ob, ⟨h.ta.zero, h.ta.told⟩, h.tb⟩
  rcases List.mem_append.1 hp with hp | hp
  · exact o.out p hp
  · simp only [List.mem_singleton] at hp
    subst hp
    exact o.fresh
theorem Ap.reset {wa wb : Int} {Sa Sb : Book} {a b : Sd} {T : Nat} (h : Ap wa wb Sa Sb a b T) : Ap wa wb Sa Sb ⟨⟨a.k.inc + 1, 0, 0, 0, []⟩, [], [], a.out⟩ b T := by
  have o := h.oa
  have hi := o.inc
  have hp := o.peer
  refine ⟨⟨by show 1 ≤ a.k.inc + 1; omega, Int.le_refl _, Int.le_refl _, Int.le_refl _, fun _ => ⟨rfl, rfl⟩, o.up, fun i j hij => ?_, ⟨[], rfl, ⟨List.Pairwise.nil, by simp⟩, fun h => absurd h (Int.lt_irrefl 0)⟩, o.out⟩, h.ob, ⟨fun _ => rfl, fun h => absurd h (Int.lt_irrefl 0)⟩, h.tb⟩
  have hij' : a.k.inc + 1 < i ∨ (i = a.k.inc + 1 ∧ 0 < j) := hij
  exact o.later i j (.inl (by omega))

/-- The book of one who meets somebody. -/
def bkMeet (S : Book) (a : Sd) (p : Pk) (ts : List Nat) : Book := if a.k.peer < p.from_ then S.at_ a.k.inc p.from_ (if 0 < a.k.peer then [] else ts) else S
/-- What a side has behind meeting somebody: what it was told goes if the connection broke. -/
def Sd.met (a : Sd) (p : Pk) : Sd := ⟨(a.k.meet p).1, if (a.k.meet p).2 then [] else a.sent, if (a.k.meet p).2 then [] else a.told, a.out⟩

theorem Ap.met {wa wb : Int} {Sa Sb : Book} {a b : Sd} {T : Nat} (h : Ap wa wb Sa Sb a b T) {p : Pk} (hp1 : 1 ≤ p.from_) (hp2 : a.k.peer ≤ p.from_) : ∃ Sa', Ap wa wb Sa' Sb (a.met p) b T ∧ (a.met p).k.peer = p.from_ ∧ (a.met p).k.inc = a.k.inc := by
  have o := h.oa
  have hpe := o.peer
  obtain ⟨ts, h1, h2, h3⟩ := o.wait
  unfold Sd.met Lk.meet
  by_cases hn : a.k.peer < p.from_
  · rw [if_pos hn]
    have hge : ∀ l i j, ∃ m, (Sa.at_ a.k.inc p.from_ l) i j = Sa i j ++ m := fun l i j => by
      by_cases hc : i = a.k.inc ∧ j = p.from_
      · obtain ⟨rfl, rfl⟩ := hc
        exact ⟨l, by rw [Book.at_same, o.later _ _ (.inr ⟨rfl, hn⟩)]; rfl⟩
      · exact ⟨[], by rw [Book.at_other _ _ hc, List.append_nil]⟩
    have hlater : ∀ l i j, (a.k.inc < i ∨ (i = a.k.inc ∧ p.from_ < j)) → (Sa.at_ a.k.inc p.from_ l) i j = [] := fun l i j hij => by
      rw [Book.at_other _ _ (by omega)]
      exact o.later i j (by omega)
    have hup : ∀ l, Up T l → ∀ i j, Up T ((Sa.at_ a.k.inc p.from_ l) i j) := fun l hl i j => by
      by_cases hc : i = a.k.inc ∧ j = p.from_
      · obtain ⟨rfl, rfl⟩ := hc
        rw [Book.at_same]
        exact hl
      · rw [Book.at_other _ _ hc]
        exact o.up i j
    by_cases hb : 0 < a.k.peer
    · rw [if_pos hb]
      refine ⟨Sa.at_ a.k.inc p.from_ [], ⟨⟨o.inc, by show 0 ≤ p.from_; omega, Int.le_refl _, Int.le_refl _, fun _ => ⟨rfl, rfl⟩, hup [] ⟨List.Pairwise.nil, by simp⟩, hlater [], ⟨[], rfl, ⟨List.Pairwise.nil, by simp⟩, fun _ => ?_⟩, out_grow o.out (hge [])⟩, h.ob, ⟨fun _ => rfl, fun _ => ?_⟩, h.tb.grow (hge [])⟩, rfl, rfl⟩
      · show [] = (Sa.at_ a.k.inc p.from_ [] a.k.inc p.from_).drop 0 ∧ (0 : Int) ≤ _
        rw [Book.at_same]
        exact ⟨rfl, by simp⟩
      · show [] = ((Sb p.from_ a.k.inc).take 0).map (enc wb p.from_) ∧ (0 : Int) ≤ _
        exact ⟨by simp, by omega⟩
    · have hz : a.k.peer = 0 := by omega
      rw [if_neg hb]
      refine ⟨Sa.at_ a.k.inc p.from_ ts, ⟨⟨o.inc, by show 0 ≤ p.from_; omega, Int.le_refl _, Int.le_refl _, fun _ => ⟨rfl, rfl⟩, hup ts h2, hlater ts, ⟨ts, h1, h2, fun _ => ?_⟩, out_grow o.out (hge ts)⟩, h.ob, ⟨fun h0 => ?_, fun _ => ?_⟩, h.tb.grow (hge ts)⟩, rfl, rfl⟩
      · show ts = (Sa.at_ a.k.inc p.from_ ts a.k.inc p.from_).drop 0 ∧ (0 : Int) ≤ _
        rw [Book.at_same]
        exact ⟨rfl, by omega⟩
      · have h0' : p.from_ = 0 := h0
        omega
      · show a.told = ((Sb p.from_ a.k.inc).take 0).map (enc wb p.from_) ∧ (0 : Int) ≤ _
        exact ⟨by rw [h.ta.zero hz]; simp, by omega⟩
  · rw [if_neg hn]
    exact ⟨Sa, ⟨o, h.ob, h.ta, h.tb⟩, by show a.k.peer = p.from_; omega, rfl⟩

theorem Ap.acks {wa wb : Int} {Sa Sb : Book} {a b : Sd} {T : Nat} (h : Ap wa wb Sa Sb a b T) (p : Pk) (hp : 0 < a.k.peer) : Ap wa wb Sa Sb ⟨a.k.done p, a.sent, a.told, a.out⟩ b T := by
  have o := h.oa
  have ha := o.acked
  unfold Lk.done
  by_cases hc : p.ack = a.k.acked + 1 ∧ a.k.wait ≠ []
  · rw [if_pos hc]
    obtain ⟨ts, h1, h2, h3⟩ := o.wait
    obtain ⟨h4, h5⟩ := h3 hp
    refine ⟨⟨o.inc, o.peer, by show 0 ≤ a.k.acked + 1; omega, o.got, fun h0 => absurd h0 (by show ¬ a.k.peer = 0; omega), o.up, o.later, ⟨ts.tail, ?_, h2.sub (List.tail_sublist _), fun _ => ?_⟩, o.out⟩, h.ob, ⟨h.ta.zero, h.ta.told⟩, h.tb⟩
    · show a.k.wait.tail = ts.tail.map (enc wa a.k.inc)
      rw [h1, List.map_tail]
    · show ts.tail = (Sa a.k.inc a.k.peer).drop (a.k.acked + 1).toNat ∧ a.k.acked + 1 ≤ ((Sa a.k.inc a.k.peer).length : Int)
      have hne : ts ≠ [] := fun e => hc.2 (by rw [h1, e]; rfl)
      have hl : (Sa a.k.inc a.k.peer).length - a.k.acked.toNat = ts.length := by rw [h4, List.length_drop]
      have := List.length_pos_iff.2 hne
      refine ⟨?_, by omega⟩
      rw [h4, drop_tail]
      congr 1
      omega
  · rw [if_neg hc]
    exact ⟨o, h.ob, ⟨h.ta.zero, h.ta.told⟩, h.tb⟩

theorem Ap.tells {wa wb : Int} {Sa Sb : Book} {a b : Sd} {T : Nat} (h : Ap wa wb Sa Sb a b T) {p : Pk} (hp : p ∈ b.out) (hpe : a.k.peer = p.from_) (h0 : 0 < a.k.peer) (hto : p.to = a.k.inc) (hs : p.seq = a.k.got + 1) :
    ∃ t, p.load = enc wb a.k.peer t ∧ (1 ≤ t ∧ t ≤ T) ∧ (∀ l ∈ a.told.getLast?, ∃ t', l = enc wb a.k.peer t' ∧ 1 ≤ t' ∧ t' < t) ∧ (∀ l ∈ a.told, ∃ t', l = enc wb a.k.peer t' ∧ 1 ≤ t' ∧ t' < t) ∧ Ap wa wb Sa Sb ⟨{ a.k with got := a.k.got + 1 }, a.sent, a.told ++ [p.load], a.out⟩ b T := by
  have o := h.oa
  have hg := o.got
  obtain ⟨h1, h2⟩ := h.ta.told h0
  rcases h.ob.out p hp with h3 | ⟨h3, h4, t, h5, h6⟩
  · omega
  rw [hs, hto, ← hpe, show a.k.got + 1 - 1 = a.k.got by omega] at h5
  rw [← hpe] at h6
  have hup := h.ob.up a.k.peer a.k.inc
  have hlt := (List.getElem?_eq_some_iff.1 h5).1
  have hall : ∀ l ∈ a.told, ∃ t', l = enc wb a.k.peer t' ∧ 1 ≤ t' ∧ t' < t := fun l hl => by
    rw [h1] at hl
    obtain ⟨t', ht', rfl⟩ := List.mem_map.1 hl
    refine ⟨t', rfl, (hup.2 t' (List.mem_of_mem_take ht')).1, ?_⟩
    obtain ⟨i, hi, e⟩ := List.mem_iff_getElem.1 ht'
    rw [List.getElem_take] at e
    rw [List.length_take] at hi
    have h8 := (List.getElem?_eq_some_iff.1 h5).2
    rw [← e, ← h8]
    exact List.pairwise_iff_getElem.1 hup.1 i _ (by omega) hlt (by omega)
  refine ⟨t, h6, hup.2 t (List.mem_of_getElem? h5), fun l hl => hall l (List.mem_of_getLast? hl), hall, ⟨⟨o.inc, o.peer, o.acked, by show 0 ≤ a.k.got + 1; omega, fun hz => absurd hz (by show ¬ a.k.peer = 0; omega), o.up, o.later, o.wait, o.out⟩, h.ob, ⟨fun hz => absurd hz (by show ¬ a.k.peer = 0; omega), fun _ => ?_⟩, h.tb⟩⟩
  show a.told ++ [p.load] = ((Sb a.k.peer a.k.inc).take (a.k.got + 1).toNat).map (enc wb a.k.peer) ∧ a.k.got + 1 ≤ ((Sb a.k.peer a.k.inc).length : Int)
  rw [show (a.k.got + 1).toNat = a.k.got.toNat + 1 by omega, take_next h5, List.map_append, ← h1, h6]
  exact ⟨rfl, by omega⟩

/-- A side takes a packet that the other one let out at any time. -/
theorem Ap.take {wa wb : Int} {Sa Sb : Book} {a b : Sd} {T : Nat} (h : Ap wa wb Sa Sb a b T) {p : Pk} (hp : p ∈ b.out) :
    let r := a.k.take p
    let told := if r.2.1 then [] else a.told
    let sent := if r.2.1 then [] else a.sent
    (r.1 = none → ∃ Sa', Ap wa wb Sa' Sb ⟨r.2.2, sent, told, a.out⟩ b T) ∧
    (∀ x, r.1 = some x → ∃ Sa' i t, x = enc wb i t ∧ (1 ≤ t ∧ t ≤ T) ∧ (∀ l ∈ told, ∃ t', l = enc wb i t' ∧ 1 ≤ t' ∧ t' < t) ∧ Ap wa wb Sa' Sb ⟨r.2.2, sent, told ++ [x], a.out⟩ b T) := by
  intro r
  have hthere : a.k.there := h.oa.inc
  by_cases h0 : p.from_ < 1 ∨ p.from_ < a.k.peer
  · have e : a.k.take p = (none, false, a.k) := by unfold Lk.take; rw [if_pos (.inr h0)]
    have er : r = (none, false, a.k) := e
    rw [er]
    intro told sent
    exact ⟨fun _ => ⟨Sa, h.oa, h.ob, h.ta, h.tb⟩, fun x hx => by cases hx⟩
  · have hno : ¬ (¬ a.k.there ∨ p.from_ < 1 ∨ p.from_ < a.k.peer) := by
      rintro (h1 | h1)
      · exact h1 hthere
      · exact h0 h1
    obtain ⟨Sa1, h1, h2, h3⟩ := h.met (p := p) (by omega) (by omega)
    have hmi : (a.k.meet p).1.inc = a.k.inc := h3
    have hmp : (a.k.meet p).1.peer = p.from_ := h2
    have hpos : 0 < (a.met p).k.peer := by rw [h2]; omega
    have h4 := h1.acks p hpos
    have hdp : ((a.k.meet p).1.done p).peer = p.from_ := by
      unfold Lk.done
      split <;> exact hmp
    have hdi : ((a.k.meet p).1.done p).inc = a.k.inc := by
      unfold Lk.done
      split <;> exact hmi
    by_cases h5 : p.to ≠ a.k.inc
    · have er : r = (none, (a.k.meet p).2, (a.k.meet p).1) := by show a.k.take p = _; unfold Lk.take; rw [if_neg hno, if_pos h5]
      rw [er]
      intro told sent
      exact ⟨fun _ => ⟨Sa1, h1⟩, fun x hx => by cases hx⟩
    · by_cases h6 : p.seq ≠ ((a.k.meet p).1.done p).got + 1
      · have er : r = (none, (a.k.meet p).2, (a.k.meet p).1.done p) := by show a.k.take p = _; unfold Lk.take; rw [if_neg hno, if_neg h5, if_pos h6]
        rw [er]
        intro told sent
        exact ⟨fun _ => ⟨Sa1, h4⟩, fun x hx => by cases hx⟩
      · have er : r = (some p.load, (a.k.meet p).2, ⟨((a.k.meet p).1.done p).inc, ((a.k.meet p).1.done p).peer, ((a.k.meet p).1.done p).acked, ((a.k.meet p).1.done p).got + 1, ((a.k.meet p).1.done p).wait⟩) := by
          show a.k.take p = _; unfold Lk.take; rw [if_neg hno, if_neg h5, if_neg h6]
        rw [er]
        intro told sent
        refine ⟨fun hx => absurd hx (by simp), fun x hx => ?_⟩
        obtain rfl := Option.some.inj hx
        obtain ⟨t, h7, h8, _, h9, h10⟩ := h4.tells hp hdp (by show 0 < ((a.k.meet p).1.done p).peer; omega) (by show p.to = ((a.k.meet p).1.done p).inc; rw [hdi]; exact Classical.not_not.1 h5) (Classical.not_not.1 h6)
        exact ⟨Sa1, _, t, h7, h8, h9, h10⟩
end Go.Bd
