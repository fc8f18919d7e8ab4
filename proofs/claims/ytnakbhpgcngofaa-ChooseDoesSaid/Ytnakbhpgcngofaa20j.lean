/- The plain law: the chooser and the document's chooser know, vote and take alike. Conditions: as each states. -/
import Derived.Test.Ytnakbhpgcngofaa20n
namespace Go.Bd
open Go.Proofs
set_option linter.unusedVariables false

structure Rel (a : Ca) (R : Rc) : Prop where
  id : R.id = a.id
  me : a.me = ⟨R.id, R.ep, R.zx⟩
  es : R.es.map En.abs = a.es
  round : R.round = a.round
  v : R.v = a.v
  calm : R.calm = a.calm
  hs : ∀ k : Nat, k < 8 → inH a.hs k = if R.b k = true then some ((k : Int), R.h k) else none
theorem Rel.turn {a : Ca} {R : Rc} (r : Int) (h1 : R.id = a.id) (h2 : a.me = ⟨R.id, R.ep, R.zx⟩) (h3 : R.es.map En.abs = a.es) (h4 : R.round = r) : Rel (turnA a r) (rOwn R) := by
  refine ⟨h1, h2, h3, h4, ?_, rfl, fun k hk => rfl⟩
  show ownV R.es R.id ⟨R.id, R.ep, R.zx⟩ = ownA a.es a.id a.me
  rw [own_abs, h3, h1, ← h1, ← h2]
theorem Rel.new {id ep zx : Int} {A : Option Addr} {n c : Nat} {os : List En} {es : List (Int × List Mb)} (h : os.map En.abs = es) : Rel (newA id ep zx es) (rNew id ep zx A n c os) :=
  Rel.turn 1 rfl rfl h rfl
theorem Rel.begin {a : Ca} {R : Rc} (h : Rel a R) {ep zx : Int} {A : Option Addr} {n c : Nat} {os : List En} {es : List (Int × List Mb)} (hes : os.map En.abs = es) : Rel (beginA a ep zx es) (rBegin R ep zx A n c os) := by
  refine Rel.turn _ h.id ?_ hes (congrArg (fun r => IntKind.i64.wrap (r + 1)) h.round)
  show (⟨a.id, ep, zx⟩ : Vt) = ⟨R.id, ep, zx⟩
  rw [h.id]
theorem Rel.round_ {a : Ca} {R : Rc} (h : Rel a R) (t : Lt) : Rel (roundA a t) (rRound R t) := by
  unfold roundA rRound
  rw [h.round]
  by_cases e : a.round < t.r
  · rw [if_pos e, if_pos e]
    exact Rel.turn _ h.id h.me h.es rfl
  · rw [if_neg e, if_neg e]
    exact h
theorem inH_put {hs : List (Int × Vt)} {frm : Int} {u : Vt} (k : Int) : inH (putH hs frm u) k = if k = frm then some (frm, u) else inH hs k := by
  unfold putH
  cases hc : inH hs frm with
  | some f =>
    dsimp only
    have hg : (fun f : Int × Vt => decide ((if f.1 = frm then (frm, u) else f).1 = k)) = fun f => decide (f.1 = k) := by
      funext f
      by_cases e : f.1 = frm
      · rw [if_pos e]
        exact decide_eq_decide.2 (by rw [e])
      · rw [if_neg e]
    unfold inH at hc ⊢
    rw [List.find?_map]
    show Option.map _ (hs.find? fun f => decide ((if f.1 = frm then (frm, u) else f).1 = k)) = _
    rw [hg]
    by_cases e : k = frm
    · subst e
      rw [if_pos rfl, hc]
      have := of_decide_eq_true (List.find?_some (p := fun f : Int × Vt => decide (f.1 = k)) hc)
      show some (if f.1 = k then (k, u) else f) = _
      rw [if_pos this]
    · rw [if_neg e]
      cases hk : hs.find? fun f => decide (f.1 = k) with
      | none => rfl
      | some y =>
        have := of_decide_eq_true (List.find?_some (p := fun f : Int × Vt => decide (f.1 = k)) hk)
        show some (if y.1 = frm then (frm, u) else y) = some y
        rw [if_neg (by omega)]
  | none =>
    dsimp only
    unfold inH at hc ⊢
    rw [List.find?_append]
    by_cases e : k = frm
    · subst e
      rw [hc, if_pos rfl, List.find?_cons, decide_eq_true rfl]
      rfl
    · rw [if_neg e, List.find?_cons, decide_eq_false (show ¬ frm = k from fun h => e h.symm)]
      cases hs.find? fun f => decide (f.1 = k) <;> rfl
theorem Rel.hear {a : Ca} {R : Rc} (h : Rel a R) (frm : Int) (t : Lt) : (hearA a frm t).1 = (rHear R frm t).1 ∧ Rel (hearA a frm t).2 (rHear R frm t).2 := by
  have hok : hearOk a frm t = rHearOk R frm t := by
    unfold hearOk rHearOk
    rw [h.id, h.round]
  have hr := h.round_ t
  unfold hearA rHear
  rw [hok]
  by_cases hc : rHearOk R frm t = true
  · rw [if_pos hc, if_pos hc, hr.v]
    have hcond := of_decide_eq_true hc
    obtain ⟨h1, h2, h3⟩ := round_id a t
    have hid := hr.id.trans h1
    have hme : a.me = ⟨(rRound R t).id, (rRound R t).ep, (rRound R t).zx⟩ := h2.symm.trans hr.me
    have hes := hr.es.trans h3
    have hput : ∀ k : Nat, k < 8 → inH (putH (roundA a t).hs frm t.vt) k = if updB (rRound R t).b frm.toNat k = true then some ((k : Int), updH (rRound R t).h frm.toNat t.vt k) else none := fun k hk => by
      rw [inH_put]
      unfold updB updH
      by_cases e : (k : Int) = frm
      · have e2 : k = frm.toNat := by omega
        rw [if_pos e, if_pos e2, if_pos e2, if_pos rfl, e]
      · have e2 : ¬ k = frm.toNat := by omega
        rw [if_neg e, if_neg e2, if_neg e2]
        exact hr.hs k hk
    by_cases hb : betterV t.vt (roundA a t).v = true
    · rw [if_pos hb, if_pos hb]
      exact ⟨rfl, hid, hme, hes, hr.round, rfl, rfl, hput⟩
    · rw [if_neg hb, if_neg hb]
      exact ⟨by dsimp only; rw [h.round], hid, hme, hes, hr.round, hr.v, hr.calm, hput⟩
  · rw [if_neg hc, if_neg hc]
    exact ⟨rfl, h⟩
theorem Rel.ids {a : Ca} {R : Rc} (h : Rel a R) (hap : ApartH a.hs) (hrg : ∀ f ∈ a.hs, 1 ≤ f.1 ∧ f.1 ≤ 7) (z : Int) : z ∈ idsA a ↔ z ∈ rids R := by
  rw [rids_mem]
  unfold idsA
  rw [List.mem_cons, h.id]
  refine or_congr_right ?_
  constructor
  · intro hz
    obtain ⟨f, hf, rfl⟩ := List.mem_map.1 hz
    obtain ⟨h1, h2⟩ := List.mem_filter.1 hf
    obtain ⟨i, hi, hfi⟩ := List.mem_iff_getElem.1 h1
    have hin := inH_at (i := i) (f := f) hap (by rw [List.getElem?_eq_getElem hi, hfi])
    obtain ⟨q1, q2⟩ := hrg f h1
    have hk := h.hs f.1.toNat (by omega)
    rw [Int.toNat_of_nonneg (by omega), hin] at hk
    by_cases hb : R.b f.1.toNat = true
    · rw [if_pos hb] at hk
      have e2 := congrArg Prod.snd (Option.some.inj hk)
      dsimp only at e2
      exact ⟨f.1.toNat, by omega, by omega, hb, by rw [← e2, of_decide_eq_true h2, h.v], by omega⟩
    · rw [if_neg hb] at hk
      cases hk
  · rintro ⟨k, h1, h2, h3, h4, rfl⟩
    have hk := h.hs k h2
    rw [if_pos h3] at hk
    refine List.mem_map.2 ⟨((k : Int), R.h k), List.mem_filter.2 ⟨List.mem_of_find?_eq_some hk, decide_eq_true (h4.trans h.v)⟩, rfl⟩
theorem Rel.tick {a : Ca} {R : Rc} (h : Rel a R) (hap : ApartH a.hs) (hrg : ∀ f ∈ a.hs, 1 ≤ f.1 ∧ f.1 ≤ 7) : (tickA a).1 = (rTick R).1 ∧ Rel (tickA a).2 (rTick R).2 := by
  have hall : allA a.es (idsA a) = allA (R.es.map En.abs) (rids R) := by
    rw [h.es]
    exact all_same (h.ids hap hrg)
  unfold tickA rTick
  rw [hall, h.v, h.calm]
  exact ⟨rfl, h.id, h.me, h.es, h.round, rfl, rfl, h.hs⟩
end Go.Bd
