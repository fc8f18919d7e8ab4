/- The statements of layer 21 on the way of a learner, as calls. Conditions: as each states. -/
import Derived.Test.Ytdjehlabhfjmlaa21a
namespace Go.Bd
open Go.Proofs
set_option linter.unusedVariables false

theorem is_true {F : Env} {w : World} {Ls : List Blks} {A : Option Addr} {n c : Nat} {xs : List Int} {base last kind z : Int} (hm : Mem F w Ls) (hn : n ≤ maxLen) (hr : Row F.heap A n (xs.map (Value.int .i64)))
    (h : way base xs last = (kind, z)) :
    Calls Try.prog 12 #[.int .i64 base, .slice A n c, .int .i64 last, .int .u8 kind, .int .i64 z] w (Ret fun v w' => v = .bool true ∧ Mem F w' Ls) := by
  have h1 : (way base xs last).1 = kind := by rw [h]
  have h2 : (way base xs last).2 = z := by rw [h]
  refine Calls.of_vc Try.func12 rfl Try.ntmps12 rfl ?_
  repeat (first | refine VC.seq ?_ | refine VC.block ?_ | refine VC.skip ?_)
  refine VC.region ?_
  refine VR.pure rfl rfl (p_assignB rfl) ?_
  refine VR.nil ?_
  repeat (first | refine VC.seq ?_ | refine VC.block ?_ | refine VC.skip ?_)
  refine VC.region ?_
  refine VR.pure rfl rfl (p_moveI rfl) ?_
  refine VR.pure rfl rfl (p_moveL rfl) ?_
  refine VR.pure rfl rfl (p_moveI rfl) ?_
  refine VR.call rfl rfl (r_call3 Try.call9 rfl rfl rfl) (way_c hm hn hr) ?_
  rintro _ w ⟨rfl, hm⟩
  refine VR.pure rfl rfl (p_moveT rfl) ?_
  refine VR.pure rfl rfl (p_extract rfl rfl) ?_
  refine VR.pure rfl rfl (p_extract rfl rfl) ?_
  refine VR.pure rfl rfl (p_assignI rfl) ?_
  refine VR.pure rfl rfl (p_assignI rfl) ?_
  refine VR.nil ?_
  repeat (first | refine VC.seq ?_ | refine VC.block ?_ | refine VC.skip ?_)
  refine VC.region ?_
  refine VR.pure rfl rfl (p_moveI rfl) ?_
  refine VR.pure rfl rfl (p_moveI rfl) ?_
  refine VR.pure rfl rfl (p_eq rfl rfl) ?_
  refine VR.pure rfl rfl (p_moveB rfl) ?_
  refine VR.knownT 23 rfl (decide_eq_true h1) ?_
  refine VR.pureG rfl rfl (p_moveI rfl) ?_
  refine VR.pureG rfl rfl (p_moveI rfl) ?_
  refine VR.pureG rfl rfl (p_eq rfl rfl) ?_
  refine VR.pure rfl rfl (p_pickT rfl rfl) ?_
  refine VR.pure rfl rfl (p_assignB rfl) ?_
  refine VR.nil ?_
  repeat (first | refine VC.seq ?_ | refine VC.block ?_ | refine VC.skip ?_)
  refine VC.ret ⟨_, ResOf.r1 (v := .bool _) rfl rfl, ?_⟩
  exact ⟨congrArg Value.bool (decide_eq_true h2), hm⟩

theorem awake_c {F : Env} {w : World} {Ls : List Blks} (hm : Mem F w Ls) : Calls Try.prog 7 #[] w (Ret fun v w' => v = .bool true ∧ Mem F w' Ls) := by
  refine Calls.of_vc Try.func7 rfl Try.ntmps7 rfl ?_
  repeat (first | refine VC.seq ?_ | refine VC.block ?_ | refine VC.skip ?_)
  refine VC.region ?_
  refine VR.pure rfl rfl (p_assignB rfl) ?_
  refine VR.nil ?_
  repeat (first | refine VC.seq ?_ | refine VC.block ?_ | refine VC.skip ?_)
  refine VC.region ?_
  refine VR.new hm rfl rfl (n_buildSlice1 (vs := [.int _ _, .int _ _, .int _ _]) Try.underlying23 inf22 rfl rfl rfl rfl rfl rfl rfl) ?_
  intro b2 w hm
  refine VR.pure rfl rfl (p_assignL rfl) ?_
  refine VR.nil ?_
  repeat (first | refine VC.seq ?_ | refine VC.block ?_ | refine VC.skip ?_)
  refine VC.region ?_
  refine VR.pure rfl rfl (p_moveL rfl) ?_
  refine VR.call rfl rfl (r_call5 Try.call12 rfl rfl rfl rfl rfl) (is_true hm.all (by decide) (Row.lit (cs := [1, 2, 3].map (Value.int .i64)) (hm.plus_at 0 0 rfl)) (by decide)) ?_
  rintro _ w ⟨rfl, hm'⟩
  replace hm := hm.back0 hm'
  refine VR.pure rfl rfl (p_moveB rfl) ?_
  refine VR.pureG rfl rfl (p_moveL rfl) ?_
  refine VR.callG rfl rfl (r_call5 Try.call12 rfl rfl rfl rfl rfl) (is_true hm.all (by decide) (Row.lit (cs := [1, 2, 3].map (Value.int .i64)) (hm.plus_at 0 0 rfl)) (by decide)) ?_
  rintro _ w ⟨rfl, hm'⟩
  replace hm := hm.back0 hm'
  refine VR.pure rfl rfl (p_pickT rfl rfl) ?_
  refine VR.pure rfl rfl (p_moveB rfl) ?_
  refine VR.newG hm rfl rfl (n_buildSlice1 (vs := [.int _ _, .int _ _]) Try.underlying23 inf22 rfl rfl rfl rfl rfl rfl rfl) ?_
  intro b10 w hm
  refine VR.callG rfl rfl (r_call5 Try.call12 rfl rfl rfl rfl rfl) (is_true hm.all (by decide) (Row.lit (cs := [6, 7].map (Value.int .i64)) (hm.plus_at 0 0 rfl)) (by decide)) ?_
  rintro _ w ⟨rfl, hm'⟩
  replace hm := hm.back0 hm'
  refine VR.pure rfl rfl (p_pickT rfl rfl) ?_
  refine VR.pure rfl rfl (p_moveB rfl) ?_
  refine VR.newG hm rfl rfl (n_buildSlice1 (vs := [.int _ _, .int _ _]) Try.underlying23 inf22 rfl rfl rfl rfl rfl rfl rfl) ?_
  intro b14 w hm
  refine VR.callG rfl rfl (r_call5 Try.call12 rfl rfl rfl rfl rfl) (is_true hm.all (by decide) (Row.lit (cs := [6, 9].map (Value.int .i64)) (hm.plus_at 0 0 rfl)) (by decide)) ?_
  rintro _ w ⟨rfl, hm'⟩
  replace hm := hm.back0 hm'
  refine VR.pure rfl rfl (p_pickT rfl rfl) ?_
  refine VR.pure rfl rfl (p_moveB rfl) ?_
  refine VR.callG rfl rfl (r_call5 Try.call12 rfl rfl rfl rfl rfl) (is_true (xs := []) hm (by decide) (Row.nil _) (by decide)) ?_
  rintro _ w ⟨rfl, hm⟩
  refine VR.pure rfl rfl (p_pickT rfl rfl) ?_
  refine VR.pure rfl rfl (p_moveB rfl) ?_
  refine VR.callG rfl rfl (r_call5 Try.call12 rfl rfl rfl rfl rfl) (is_true (xs := []) hm (by decide) (Row.nil _) (by decide)) ?_
  rintro _ w ⟨rfl, hm⟩
  refine VR.pure rfl rfl (p_pickT rfl rfl) ?_
  refine VR.pure rfl rfl (p_assignB rfl) ?_
  refine VR.nil ?_
  repeat (first | refine VC.seq ?_ | refine VC.block ?_ | refine VC.skip ?_)
  refine VC.ret ⟨_, ResOf.r1 (v := .bool _) rfl rfl, ?_⟩
  exact ⟨rfl, hm.pop.pop.pop⟩

theorem differ_ways_c {F : Env} {w : World} {Ls : List Blks} {A : Option Addr} {n c : Nat} {xs : List Int} {base last : Int} (hm : Mem F w Ls) (hn : n ≤ maxLen) (hr : Row F.heap A n (xs.map (Value.int .i64))) :
    Calls Try.prog 3 #[.int .i64 base, .slice A n c, .int .i64 last] w (Ret fun v w' => v = .bool true ∧ Mem F w' Ls) := by
  have hl : xs.length = n := by have := hr.len; rwa [List.length_map] at this
  refine Calls.of_vc Try.func3 rfl Try.ntmps3 rfl ?_
  repeat (first | refine VC.seq ?_ | refine VC.block ?_ | refine VC.skip ?_)
  refine VC.region ?_
  refine VR.pure rfl rfl (p_assignB rfl) ?_
  refine VR.nil ?_
  repeat (first | refine VC.seq ?_ | refine VC.block ?_ | refine VC.skip ?_)
  refine VC.region ?_
  refine VR.pure rfl rfl (p_moveL rfl) ?_
  refine VR.pure rfl rfl (p_len Try.underlying23 rfl) ?_
  refine VR.pure rfl rfl (p_gt rfl rfl) ?_
  refine VR.nil ?_
  repeat (first | refine VC.seq ?_ | refine VC.block ?_ | refine VC.skip ?_)
  refine VC.condD rfl (fun h => ?_) (fun h => ?_)
  · repeat (first | refine VC.seq ?_ | refine VC.block ?_ | refine VC.skip ?_)
    refine VC.region ?_
    refine VR.call rfl rfl (r_call0 Try.call7) (awake_c hm) ?_
    rintro _ w ⟨rfl, hm⟩
    refine VR.pure rfl rfl (p_assignB rfl) ?_
    refine VR.nil ?_
    repeat (first | refine VC.seq ?_ | refine VC.block ?_ | refine VC.skip ?_)
    refine VC.ret ⟨_, ResOf.r1 (v := .bool _) rfl rfl, ?_⟩
    exact ⟨rfl, hm⟩
  · repeat (first | refine VC.seq ?_ | refine VC.block ?_ | refine VC.skip ?_)
    refine VC.region ?_
    refine VR.pure rfl rfl (p_moveL rfl) ?_
    refine VR.call rfl rfl (r_call1 Try.call8 rfl) (lent_zxids_c hm (by omega) hr) ?_
    rintro _ w ⟨A1, c1, L1, rfl, ho, hm⟩
    refine VR.pure rfl rfl (p_assignL rfl) ?_
    refine VR.nil ?_
    have hr1 := ho.row1 (hm.plus_mem (.head _))
    have e1 : (way base xs last).1 = (refWay base xs last).1 := by rw [way_eq]
    have e2 : (way base xs last).2 = (refWay base xs last).2 := by rw [way_eq]
    have hle := ho.le
    repeat (first | refine VC.seq ?_ | refine VC.block ?_ | refine VC.skip ?_)
    refine VC.region ?_
    refine VR.pure rfl rfl (p_moveI rfl) ?_
    refine VR.pure rfl rfl (p_moveL rfl) ?_
    refine VR.pure rfl rfl (p_moveI rfl) ?_
    refine VR.call rfl rfl (r_call3 Try.call9 rfl rfl rfl) (way_c hm.all hn (hr1.front hl (by omega))) ?_
    rintro _ w1 ⟨rfl, hm'⟩
    replace hm := hm.back0 hm'
    refine VR.pure rfl rfl (p_moveT rfl) ?_
    refine VR.pure rfl rfl (p_extract rfl rfl) ?_
    refine VR.pure rfl rfl (p_extract rfl rfl) ?_
    refine VR.pure rfl rfl (p_assignI rfl) ?_
    refine VR.pure rfl rfl (p_assignI rfl) ?_
    refine VR.nil ?_
    repeat (first | refine VC.seq ?_ | refine VC.block ?_ | refine VC.skip ?_)
    refine VC.region ?_
    refine VR.pure rfl rfl (p_moveI rfl) ?_
    refine VR.pure rfl rfl (p_moveL rfl) ?_
    refine VR.pure rfl rfl (p_moveI rfl) ?_
    refine VR.call rfl rfl (r_call3 Try.call10 rfl rfl rfl) (ref_way_c hm hn hr) ?_
    rintro _ w2 ⟨rfl, hm⟩
    refine VR.pure rfl rfl (p_moveT rfl) ?_
    refine VR.pure rfl rfl (p_extract rfl rfl) ?_
    refine VR.pure rfl rfl (p_extract rfl rfl) ?_
    refine VR.pure rfl rfl (p_assignI rfl) ?_
    refine VR.pure rfl rfl (p_assignI rfl) ?_
    refine VR.nil ?_
    repeat (first | refine VC.seq ?_ | refine VC.block ?_ | refine VC.skip ?_)
    refine VC.region ?_
    refine VR.pure rfl rfl (p_moveI rfl) ?_
    refine VR.pure rfl rfl (p_moveI rfl) ?_
    refine VR.pure rfl rfl (p_eq rfl rfl) ?_
    refine VR.pure rfl rfl (p_moveB rfl) ?_
    refine VR.knownT 35 rfl (decide_eq_true e1) ?_
    refine VR.pureG rfl rfl (p_moveI rfl) ?_
    refine VR.pureG rfl rfl (p_moveI rfl) ?_
    refine VR.pureG rfl rfl (p_eq rfl rfl) ?_
    refine VR.pure rfl rfl (p_pickT rfl rfl) ?_
    refine VR.pure rfl rfl (p_moveB rfl) ?_
    refine VR.knownT 40 rfl (decide_eq_true e2) ?_
    refine VR.pureG rfl rfl (p_moveL rfl) ?_
    refine VR.pureG rfl rfl (p_moveL rfl) ?_
    refine VR.callG rfl rfl (r_call2 Try.call11 rfl rfl) (kept_zxids_c hm.all (by omega) hle.1 hr1 (hr.le hm.le)) ?_
    rintro _ w3 ⟨rfl, hm'⟩
    replace hm := hm.back0 hm'
    refine VR.pure rfl rfl (p_pickT rfl rfl) ?_
    refine VR.pure rfl rfl (p_moveB rfl) ?_
    refine VR.callG rfl rfl (r_call0 Try.call7) (awake_c hm) ?_
    rintro _ w4 ⟨rfl, hm⟩
    refine VR.pure rfl rfl (p_pickT rfl rfl) ?_
    refine VR.pure rfl rfl (p_assignB rfl) ?_
    refine VR.nil ?_
    repeat (first | refine VC.seq ?_ | refine VC.block ?_ | refine VC.skip ?_)
    refine VC.ret ⟨_, ResOf.r1 (v := .bool _) rfl rfl, ?_⟩
    exact ⟨rfl, hm.pop⟩

/-- What is told of a way, whatever the numbers are. -/
theorem wayGo_falls (base last : Int) : ∀ (l : List Int) (to : Int), base ≤ to → (to < last ∨ to = base) →
    (wayGo base last to l).1 = 7 ∧ (wayGo base last to l).2 = last ∨ (wayGo base last to l).1 = 6 ∧ (wayGo base last to l).2 = 0 ∧ last < base ∨
    (wayGo base last to l).1 = 5 ∧ base ≤ (wayGo base last to l).2 ∧ ((wayGo base last to l).2 < last ∨ (wayGo base last to l).2 = base ∧ base ≤ last)
  | [], to, h, ht => by
    unfold wayGo
    by_cases h1 : last < base
    · rw [if_pos h1]; exact .inr (.inl ⟨rfl, rfl, h1⟩)
    · rw [if_neg h1]; exact .inr (.inr ⟨rfl, h, ht.imp id fun e => ⟨e, by omega⟩⟩)
  | z :: r, to, h, ht => by
    unfold wayGo
    by_cases h1 : z = last
    · rw [if_pos h1]; exact .inl ⟨rfl, rfl⟩
    · rw [if_neg h1]
      by_cases h2 : to < z ∧ z < last
      · rw [if_pos h2]; exact wayGo_falls base last r z (by omega) (.inl h2.2)
      · rw [if_neg h2]; exact wayGo_falls base last r to h ht
theorem way_falls (base : Int) (l : List Int) (last : Int) :
    (way base l last).1 = 7 ∧ (way base l last).2 = last ∨ (way base l last).1 = 6 ∧ (way base l last).2 = 0 ∧ last < base ∨
    (way base l last).1 = 5 ∧ base ≤ (way base l last).2 ∧ (way base l last).2 < last := by
  unfold way
  by_cases h : last = base
  · rw [if_pos h]; exact .inl ⟨rfl, rfl⟩
  · rw [if_neg h]
    rcases wayGo_falls base last l base (Int.le_refl _) (.inr rfl) with h1 | h1 | ⟨h1, h2, h3⟩
    · exact .inl h1
    · exact .inr (.inl h1)
    · exact .inr (.inr ⟨h1, h2, by omega⟩)

theorem differ_falls_c {F : Env} {w : World} {Ls : List Blks} {A : Option Addr} {n c : Nat} {xs : List Int} {base last : Int} (hm : Mem F w Ls) (hn : n ≤ maxLen) (hr : Row F.heap A n (xs.map (Value.int .i64))) :
    Calls Try.prog 6 #[.int .i64 base, .slice A n c, .int .i64 last] w (Ret fun v w' => v = .bool true ∧ Mem F w' Ls) := by
  refine Calls.of_vc Try.func6 rfl Try.ntmps6 rfl ?_
  repeat (first | refine VC.seq ?_ | refine VC.block ?_ | refine VC.skip ?_)
  refine VC.region ?_
  refine VR.pure rfl rfl (p_assignB rfl) ?_
  refine VR.nil ?_
  repeat (first | refine VC.seq ?_ | refine VC.block ?_ | refine VC.skip ?_)
  refine VC.region ?_
  refine VR.call rfl rfl (r_call0 Try.call7) (awake_c hm) ?_
  rintro _ w ⟨rfl, hm⟩
  refine VR.pure rfl rfl (p_not rfl) ?_
  refine VR.nil ?_
  repeat (first | refine VC.seq ?_ | refine VC.block ?_ | refine VC.skip ?_)
  refine VC.condF rfl rfl ?_
  repeat (first | refine VC.seq ?_ | refine VC.block ?_ | refine VC.skip ?_)
  refine VC.region ?_
  refine VR.pure rfl rfl (p_moveL rfl) ?_
  refine VR.pure rfl rfl (p_len Try.underlying23 rfl) ?_
  refine VR.pure rfl rfl (p_gt rfl rfl) ?_
  refine VR.nil ?_
  repeat (first | refine VC.seq ?_ | refine VC.block ?_ | refine VC.skip ?_)
  refine VC.condD rfl (fun h => ?_) (fun h => ?_)
  · repeat (first | refine VC.seq ?_ | refine VC.block ?_ | refine VC.skip ?_)
    refine VC.region ?_
    refine VR.pure rfl rfl (p_assignB rfl) ?_
    refine VR.nil ?_
    repeat (first | refine VC.seq ?_ | refine VC.block ?_ | refine VC.skip ?_)
    refine VC.ret ⟨_, ResOf.r1 (v := .bool _) rfl rfl, ?_⟩
    exact ⟨rfl, hm⟩
  · repeat (first | refine VC.seq ?_ | refine VC.block ?_ | refine VC.skip ?_)
    refine VC.region ?_
    refine VR.pure rfl rfl (p_moveI rfl) ?_
    refine VR.pure rfl rfl (p_moveL rfl) ?_
    refine VR.pure rfl rfl (p_moveI rfl) ?_
    refine VR.call rfl rfl (r_call3 Try.call9 rfl rfl rfl) (way_c hm hn hr) ?_
    rintro _ w ⟨rfl, hm⟩
    refine VR.pure rfl rfl (p_moveT rfl) ?_
    refine VR.pure rfl rfl (p_extract rfl rfl) ?_
    refine VR.pure rfl rfl (p_extract rfl rfl) ?_
    refine VR.pure rfl rfl (p_assignI rfl) ?_
    refine VR.pure rfl rfl (p_assignI rfl) ?_
    refine VR.nil ?_
    repeat (first | refine VC.seq ?_ | refine VC.block ?_ | refine VC.skip ?_)
    refine VC.region ?_
    refine VR.pure rfl rfl (p_moveI rfl) ?_
    refine VR.nil ?_
    rcases way_falls base xs last with ⟨h1, h2⟩ | ⟨h1, h2, h3⟩ | ⟨h1, h2, h3⟩
    · repeat (first | refine VC.seq ?_ | refine VC.block ?_ | refine VC.skip ?_)
      refine VC.region ?_
      refine VR.pure rfl rfl (p_eq rfl rfl) ?_
      refine VR.pure rfl rfl (p_assignB rfl) ?_
      refine VR.nil ?_
      repeat (first | refine VC.seq ?_ | refine VC.block ?_ | refine VC.skip ?_)
      refine VC.condT rfl (decide_eq_true h1) ?_
      repeat (first | refine VC.seq ?_ | refine VC.block ?_ | refine VC.skip ?_)
      refine VC.region ?_
      refine VR.pure rfl rfl (p_moveI rfl) ?_
      refine VR.pure rfl rfl (p_moveI rfl) ?_
      refine VR.pure rfl rfl (p_eq rfl rfl) ?_
      refine VR.pure rfl rfl (p_assignB rfl) ?_
      refine VR.nil ?_
      repeat (first | refine VC.seq ?_ | refine VC.block ?_ | refine VC.skip ?_)
      refine VC.ret ⟨_, ResOf.r1 (v := .bool _) rfl rfl, ?_⟩
      exact ⟨congrArg Value.bool (decide_eq_true h2), hm⟩
    · repeat (first | refine VC.seq ?_ | refine VC.block ?_ | refine VC.skip ?_)
      refine VC.region ?_
      refine VR.pure rfl rfl (p_eq rfl rfl) ?_
      refine VR.pure rfl rfl (p_assignB rfl) ?_
      refine VR.nil ?_
      repeat (first | refine VC.seq ?_ | refine VC.block ?_ | refine VC.skip ?_)
      refine VC.condF rfl (decide_eq_false (by omega)) ?_
      repeat (first | refine VC.seq ?_ | refine VC.block ?_ | refine VC.skip ?_)
      refine VC.region ?_
      refine VR.pure rfl rfl (p_eq rfl rfl) ?_
      refine VR.pure rfl rfl (p_assignB rfl) ?_
      refine VR.nil ?_
      repeat (first | refine VC.seq ?_ | refine VC.block ?_ | refine VC.skip ?_)
      refine VC.condT rfl (decide_eq_true h1) ?_
      repeat (first | refine VC.seq ?_ | refine VC.block ?_ | refine VC.skip ?_)
      refine VC.region ?_
      refine VR.pure rfl rfl (p_moveI rfl) ?_
      refine VR.pure rfl rfl (p_eq rfl rfl) ?_
      refine VR.pure rfl rfl (p_moveB rfl) ?_
      refine VR.knownT 31 rfl (decide_eq_true h2) ?_
      refine VR.pureG rfl rfl (p_moveI rfl) ?_
      refine VR.pureG rfl rfl (p_moveI rfl) ?_
      refine VR.pureG rfl rfl (p_lt rfl rfl) ?_
      refine VR.pure rfl rfl (p_pickT rfl rfl) ?_
      refine VR.pure rfl rfl (p_assignB rfl) ?_
      refine VR.nil ?_
      repeat (first | refine VC.seq ?_ | refine VC.block ?_ | refine VC.skip ?_)
      refine VC.ret ⟨_, ResOf.r1 (v := .bool _) rfl rfl, ?_⟩
      exact ⟨congrArg Value.bool (decide_eq_true h3), hm⟩
    · repeat (first | refine VC.seq ?_ | refine VC.block ?_ | refine VC.skip ?_)
      refine VC.region ?_
      refine VR.pure rfl rfl (p_eq rfl rfl) ?_
      refine VR.pure rfl rfl (p_assignB rfl) ?_
      refine VR.nil ?_
      repeat (first | refine VC.seq ?_ | refine VC.block ?_ | refine VC.skip ?_)
      refine VC.condF rfl (decide_eq_false (by omega)) ?_
      repeat (first | refine VC.seq ?_ | refine VC.block ?_ | refine VC.skip ?_)
      refine VC.region ?_
      refine VR.pure rfl rfl (p_eq rfl rfl) ?_
      refine VR.pure rfl rfl (p_assignB rfl) ?_
      refine VR.nil ?_
      repeat (first | refine VC.seq ?_ | refine VC.block ?_ | refine VC.skip ?_)
      refine VC.condF rfl (decide_eq_false (by omega)) ?_
      repeat (first | refine VC.seq ?_ | refine VC.block ?_ | refine VC.skip ?_)
      refine VC.region ?_
      refine VR.pure rfl rfl (p_eq rfl rfl) ?_
      refine VR.pure rfl rfl (p_assignB rfl) ?_
      refine VR.nil ?_
      repeat (first | refine VC.seq ?_ | refine VC.block ?_ | refine VC.skip ?_)
      refine VC.condT rfl (decide_eq_true h1) ?_
      repeat (first | refine VC.seq ?_ | refine VC.block ?_ | refine VC.skip ?_)
      refine VC.region ?_
      refine VR.pure rfl rfl (p_moveI rfl) ?_
      refine VR.pure rfl rfl (p_moveI rfl) ?_
      refine VR.pure rfl rfl (p_lt rfl rfl) ?_
      refine VR.pure rfl rfl (p_moveB rfl) ?_
      refine VR.knownT 41 rfl (decide_eq_true h3) ?_
      refine VR.pureG rfl rfl (p_moveI rfl) ?_
      refine VR.pureG rfl rfl (p_moveI rfl) ?_
      refine VR.pureG rfl rfl (p_ge rfl rfl) ?_
      refine VR.pure rfl rfl (p_pickT rfl rfl) ?_
      refine VR.pure rfl rfl (p_assignB rfl) ?_
      refine VR.nil ?_
      repeat (first | refine VC.seq ?_ | refine VC.block ?_ | refine VC.skip ?_)
      refine VC.ret ⟨_, ResOf.r1 (v := .bool _) rfl rfl, ?_⟩
      exact ⟨congrArg Value.bool (decide_eq_true h2), hm⟩

end Go.Bd
