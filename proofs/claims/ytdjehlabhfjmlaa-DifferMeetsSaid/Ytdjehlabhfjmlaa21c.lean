/- The statements of layer 21: what is picked, the last, beginnings, what is cut, and histories such as servers come to, as calls. Conditions: as each states. -/
import Derived.Test.Ytdjehlabhfjmlaa21p
namespace Go.Bd
open Go.Proofs
set_option linter.unusedVariables false

theorem pick_c {w : World} {x n : Int} (h : 1 ≤ n ∧ n ≤ 1000000000000000) : Calls Try.prog 14 #[.int .i64 x, .int .i64 n] w (Ret fun v w' => (∃ i : Nat, (i : Int) < n ∧ v = .int .i64 i) ∧ w' = w) := by
  have h1 : x.tmod n < n ∧ -n < x.tmod n := ⟨Int.tmod_lt_of_pos x (by omega), by have := Int.tmod_lt_of_pos (-x) (b := n) (by omega); rw [Int.neg_tmod] at this; omega⟩
  refine Calls.of_vc Try.func14 rfl Try.ntmps14 rfl ?_
  repeat (first | refine VC.seq ?_ | refine VC.block ?_ | refine VC.skip ?_)
  refine VC.region ?_
  refine VR.pure rfl rfl (p_assignI rfl) ?_
  refine VR.nil ?_
  repeat (first | refine VC.seq ?_ | refine VC.block ?_ | refine VC.skip ?_)
  refine VC.region ?_
  refine VR.pure rfl rfl (p_moveI rfl) ?_
  refine VR.pure rfl rfl (p_lt rfl rfl) ?_
  refine VR.nil ?_
  repeat (first | refine VC.seq ?_ | refine VC.block ?_ | refine VC.skip ?_)
  refine VC.condD rfl (fun h2 => ?_) (fun h2 => ?_)
  · omega
  · repeat (first | refine VC.seq ?_ | refine VC.block ?_ | refine VC.skip ?_)
    refine VC.region ?_
    refine VR.pure rfl rfl (p_moveI rfl) ?_
    refine VR.pure rfl rfl (p_moveI rfl) ?_
    refine VR.pure rfl rfl (p_rem rfl rfl (by omega)) ?_
    refine VR.pure rfl rfl (p_assignI rfl) ?_
    refine VR.nil ?_
    repeat (first | refine VC.seq ?_ | refine VC.block ?_ | refine VC.skip ?_)
    refine VC.region ?_
    refine VR.pure rfl rfl (p_moveI rfl) ?_
    refine VR.pure rfl rfl (p_lt rfl rfl) ?_
    refine VR.nil ?_
    repeat (first | refine VC.seq ?_ | refine VC.block ?_ | refine VC.skip ?_)
    refine VC.condD rfl (fun h3 => ?_) (fun h3 => ?_)
    · repeat (first | refine VC.seq ?_ | refine VC.block ?_ | refine VC.skip ?_)
      refine VC.region ?_
      refine VR.pure rfl rfl (p_moveI rfl) ?_
      refine VR.pure rfl rfl (p_moveI rfl) ?_
      refine VR.pure rfl rfl (p_add64 rfl rfl (by omega)) ?_
      refine VR.pure rfl rfl (p_assignI rfl) ?_
      refine VR.nil ?_
      repeat (first | refine VC.seq ?_ | refine VC.block ?_ | refine VC.skip ?_)
      refine VC.region ?_
      refine VR.pure rfl rfl (p_moveI rfl) ?_
      refine VR.pure rfl rfl (p_assignI rfl) ?_
      refine VR.nil ?_
      repeat (first | refine VC.seq ?_ | refine VC.block ?_ | refine VC.skip ?_)
      refine VC.ret ⟨_, ResOf.r1 (v := .int _ _) rfl rfl, ?_⟩
      refine ⟨⟨(x.tmod n + n).toNat, by omega, ?_⟩, rfl⟩
      rw [Int.toNat_of_nonneg (by omega)]
    · repeat (first | refine VC.seq ?_ | refine VC.block ?_ | refine VC.skip ?_)
      refine VC.region ?_
      refine VR.pure rfl rfl (p_moveI rfl) ?_
      refine VR.pure rfl rfl (p_assignI rfl) ?_
      refine VR.nil ?_
      repeat (first | refine VC.seq ?_ | refine VC.block ?_ | refine VC.skip ?_)
      refine VC.ret ⟨_, ResOf.r1 (v := .int _ _) rfl rfl, ?_⟩
      refine ⟨⟨(x.tmod n).toNat, by omega, ?_⟩, rfl⟩
      rw [Int.toNat_of_nonneg (by omega)]

theorem last_c {F : Env} {w : World} {Ls : List Blks} {A : Option Addr} {n c : Nat} {xs : List Int} (hm : Mem F w Ls) (hn : n ≤ maxLen) (hr : Row F.heap A n (xs.map (Value.int .i64))) :
    Calls Try.prog 15 #[.slice A n c] w (Ret fun v w' => v = .int .i64 (lastOf xs) ∧ Mem F w' Ls) := by
  have hl : xs.length = n := by have := hr.len; rwa [List.length_map] at this
  unfold maxLen at hn
  refine Calls.of_vc Try.func15 rfl Try.ntmps15 rfl ?_
  repeat (first | refine VC.seq ?_ | refine VC.block ?_ | refine VC.skip ?_)
  refine VC.region ?_
  refine VR.pure rfl rfl (p_assignI rfl) ?_
  refine VR.nil ?_
  repeat (first | refine VC.seq ?_ | refine VC.block ?_ | refine VC.skip ?_)
  refine VC.region ?_
  refine VR.pure rfl rfl (p_moveL rfl) ?_
  refine VR.pure rfl rfl (p_len Try.underlying23 rfl) ?_
  refine VR.pure rfl rfl (p_eq rfl rfl) ?_
  refine VR.nil ?_
  repeat (first | refine VC.seq ?_ | refine VC.block ?_ | refine VC.skip ?_)
  refine VC.condD rfl (fun h => ?_) (fun h => ?_)
  · repeat (first | refine VC.seq ?_ | refine VC.block ?_ | refine VC.skip ?_)
    refine VC.region ?_
    refine VR.pure rfl rfl (p_assignI rfl) ?_
    refine VR.nil ?_
    repeat (first | refine VC.seq ?_ | refine VC.block ?_ | refine VC.skip ?_)
    refine VC.ret ⟨_, ResOf.r1 (v := .int _ _) rfl rfl, ?_⟩
    refine ⟨?_, hm⟩
    obtain rfl : n = 0 := by omega
    rw [List.eq_nil_of_length_eq_zero hl]
    rfl
  · obtain ⟨m, rfl⟩ : ∃ m, n = m + 1 := ⟨n - 1, by omega⟩
    obtain ⟨b, off, blk, T, fr, rfl, hb, hcc⟩ := hr.get (by omega)
    repeat (first | refine VC.seq ?_ | refine VC.block ?_ | refine VC.skip ?_)
    refine VC.region ?_
    refine VR.pure rfl rfl (p_moveL rfl) ?_
    refine VR.pure rfl rfl (p_moveL rfl) ?_
    refine VR.pure rfl rfl (p_len Try.underlying23 rfl) ?_
    refine VR.pure rfl rfl (p_sub64E (r := (m : Int)) rfl rfl (by omega) (by omega)) ?_
    refine VR.pure rfl rfl (p_idx1 Try.underlying23 Try.sizeOf22 rfl rfl (Nat.lt_succ_self m)) ?_
    refine VR.val rfl rfl (r_load Try.isAgg22 rfl (hm.fix _ _ hb) (int_at hcc hr.len (Nat.lt_succ_self m))) ?_
    refine VR.pure rfl rfl (p_assignI rfl) ?_
    refine VR.nil ?_
    repeat (first | refine VC.seq ?_ | refine VC.block ?_ | refine VC.skip ?_)
    refine VC.ret ⟨_, ResOf.r1 (v := .int _ _) rfl rfl, ?_⟩
    refine ⟨?_, hm⟩
    unfold lastOf
    rw [hl]
    rfl

theorem begins_c {F : Env} {w : World} {Ls : List Blks} {A B : Option Addr} {n c m d : Nat} {xs ys : List Int} (hm : Mem F w Ls) (hmd : m ≤ d ∧ d ≤ maxLen)
    (hr : Row F.heap A n (xs.map (Value.int .i64))) (hs : Row F.heap B m (ys.map (Value.int .i64))) (h : xs.length ≤ ys.length ∧ xs = ys.take xs.length) :
    Calls Try.prog 16 #[.slice A n c, .slice B m d] w (Ret fun v w' => v = .bool true ∧ Mem F w' Ls) := by
  have hl : xs.length = n := by have := hr.len; rwa [List.length_map] at this
  have hl2 : ys.length = m := by have := hs.len; rwa [List.length_map] at this
  have hmd2 := hmd.2
  unfold maxLen at hmd2
  have hs2 : Row F.heap B n ((ys.take n).map (Value.int .i64)) := by rw [List.map_take]; exact hs.take (by omega)
  refine Calls.of_vc Try.func16 rfl Try.ntmps16 rfl ?_
  repeat (first | refine VC.seq ?_ | refine VC.block ?_ | refine VC.skip ?_)
  refine VC.region ?_
  refine VR.pure rfl rfl (p_assignB rfl) ?_
  refine VR.nil ?_
  repeat (first | refine VC.seq ?_ | refine VC.block ?_ | refine VC.skip ?_)
  refine VC.region ?_
  refine VR.pure rfl rfl (p_moveL rfl) ?_
  refine VR.pure rfl rfl (p_len Try.underlying23 rfl) ?_
  refine VR.pure rfl rfl (p_moveL rfl) ?_
  refine VR.pure rfl rfl (p_len Try.underlying23 rfl) ?_
  refine VR.pure rfl rfl (p_le rfl rfl) ?_
  refine VR.pure rfl rfl (p_moveB rfl) ?_
  refine VR.knownT 10 rfl (decide_eq_true (by omega)) ?_
  refine VR.pureG rfl rfl (p_moveL rfl) ?_
  refine VR.pureG rfl rfl (p_moveL rfl) ?_
  refine VR.pureG rfl rfl (p_moveL rfl) ?_
  refine VR.pureG rfl rfl (p_len Try.underlying23 rfl) ?_
  refine VR.pureG rfl rfl (p_sliceH Try.underlying23 Try.sizeOf22 rfl rfl (by omega)) ?_
  refine VR.callG rfl rfl (r_call2 Try.call21 rfl rfl) (same_zxids_c (n := n) (m := n) hm (by omega) hr hs2) ?_
  rintro _ w ⟨rfl, hm⟩
  refine VR.pure rfl rfl (p_pickT rfl rfl) ?_
  refine VR.pure rfl rfl (p_assignB rfl) ?_
  refine VR.nil ?_
  repeat (first | refine VC.seq ?_ | refine VC.block ?_ | refine VC.skip ?_)
  refine VC.ret ⟨_, ResOf.r1 (v := .bool _) rfl rfl, ?_⟩
  exact ⟨congrArg Value.bool (decide_eq_true (by rw [hl] at h; exact h.2)), hm⟩

theorem upto_step (z : Int) {xs : List Int} {k : Nat} (hk : k < xs.length) : upto z (xs.take (k + 1)) = upto z (xs.take k) ++ (if xs.getD k 0 ≤ z then [xs.getD k 0] else []) := by
  have e : xs.take (k + 1) = xs.take k ++ [xs.getD k 0] := by
    rw [List.take_add_one, List.getD_eq_getElem?_getD, List.getElem?_eq_getElem hk]; rfl
  rw [e, upto_app]
  congr 1
  unfold upto
  by_cases h : xs.getD k 0 ≤ z
  · rw [if_pos h, List.filter_cons, if_pos (by simpa using h)]; rfl
  · rw [if_neg h, List.filter_cons, if_neg (by simpa using h)]; rfl
theorem upto_le (z : Int) (xs : List Int) (k : Nat) : (upto z (xs.take k)).length ≤ k :=
  Nat.le_trans (List.length_filter_le _ _) (by rw [List.length_take]; omega)

theorem cut_c {F : Env} {w : World} {Ls : List Blks} {A : Option Addr} {n c : Nat} {xs : List Int} {z : Int} (hm : Mem F w Ls) (hn : n ≤ 1000000) (hr : Row F.heap A n (xs.map (Value.int .i64))) :
    Calls Try.prog 17 #[.slice A n c, .int .i64 z] w (Ret fun v w' => ∃ A' c' L, v = .slice A' (upto z xs).length c' ∧ OwnS 22 1 A' (upto z xs).length c' ((upto z xs).map (Value.int .i64)) L ∧ Mem F w' (L :: Ls)) := by
  have hl : xs.length = n := by have := hr.len; rwa [List.length_map] at this
  refine Calls.of_vc Try.func17 rfl Try.ntmps17 rfl ?_
  repeat (first | refine VC.seq ?_ | refine VC.block ?_ | refine VC.skip ?_)
  refine VC.region ?_
  refine VR.pure rfl rfl (p_assignL rfl) ?_
  refine VR.nil ?_
  repeat (first | refine VC.seq ?_ | refine VC.block ?_ | refine VC.skip ?_)
  refine VC.region ?_
  refine VR.pure rfl rfl (p_assignL rfl) ?_
  refine VR.nil ?_
  repeat (first | refine VC.seq ?_ | refine VC.block ?_ | refine VC.skip ?_)
  refine VC.region ?_
  refine VR.pure rfl rfl (p_assignI rfl) ?_
  refine VR.nil ?_
  repeat (first | refine VC.seq ?_ | refine VC.block ?_ | refine VC.skip ?_)
  refine VC.loop (σ := Nat × Nat × Option Addr × Nat × Blks) (fun s => [(0, .slice A n c), (1, .int .i64 z), (5, .slice s.2.2.1 s.2.1 s.2.2.2.1), (6, .int .i64 s.1)])
    (fun s w => Mem F w (s.2.2.2.2 :: Ls) ∧ OwnS 22 1 s.2.2.1 s.2.1 s.2.2.2.1 ((upto z (xs.take s.1)).map (Value.int .i64)) s.2.2.2.2 ∧ s.1 ≤ n ∧ s.2.1 = (upto z (xs.take s.1)).length) (fun s => n - s.1) (0, 0, none, 0, [])
    ⟨rfl, rfl, rfl, rfl, trivial⟩ ⟨hm.nil_, by simpa [upto] using OwnS.nil _ _, by omega, by simp [upto]⟩ ?_
  rintro ⟨k, q, A2, c2, L2⟩ A' w ⟨hm, ho, hk, hq⟩
  dsimp only at hm ho hk hq ⊢
  repeat (first | refine VC.seq ?_ | refine VC.block ?_ | refine VC.skip ?_)
  refine VC.region ?_
  refine VR.pure rfl rfl (p_moveI rfl) ?_
  refine VR.pure rfl rfl (p_moveL rfl) ?_
  refine VR.pure rfl rfl (p_len Try.underlying23 rfl) ?_
  refine VR.pure rfl rfl (p_lt rfl rfl) ?_
  refine VR.nil ?_
  repeat (first | refine VC.seq ?_ | refine VC.block ?_ | refine VC.skip ?_)
  refine VC.condD rfl (fun h => ?_) (fun h => ?_)
  · have hk' : k < n := by omega
    have hst := upto_step z (xs := xs) (k := k) (by omega)
    have hq2 := upto_le z xs k
    obtain ⟨b, off, blk, T, fr, rfl, hb, hcc⟩ := hr.get (by omega)
    repeat (first | refine VC.seq ?_ | refine VC.block ?_ | refine VC.skip ?_)
    refine VC.region ?_
    refine VR.pure rfl rfl (p_moveL rfl) ?_
    refine VR.pure rfl rfl (p_moveI rfl) ?_
    refine VR.pure rfl rfl (p_idx1 Try.underlying23 Try.sizeOf22 rfl rfl hk') ?_
    refine VR.val rfl rfl (r_load Try.isAgg22 rfl (hm.fix _ _ hb) (int_at hcc hr.len hk')) ?_
    refine VR.pure rfl rfl (p_moveI rfl) ?_
    refine VR.pure rfl rfl (p_le rfl rfl) ?_
    refine VR.nil ?_
    repeat (first | refine VC.seq ?_ | refine VC.block ?_ | refine VC.skip ?_)
    refine VC.condD rfl (fun h2 => ?_) (fun h2 => ?_)
    · repeat (first | refine VC.seq ?_ | refine VC.block ?_ | refine VC.skip ?_)
      refine VC.region ?_
      refine VR.pure rfl rfl (p_moveL rfl) ?_
      refine VR.pure rfl rfl (p_moveL rfl) ?_
      refine VR.pure rfl rfl (p_moveI rfl) ?_
      refine VR.pure rfl rfl (p_idx1 Try.underlying23 Try.sizeOf22 rfl rfl hk') ?_
      refine VR.val rfl rfl (r_load Try.isAgg22 rfl (hm.fix _ _ hb) (int_at hcc hr.len hk')) ?_
      refine VR.new hm rfl rfl (n_buildSlice1 (vs := [.int _ _]) Try.underlying23 inf22 rfl rfl rfl rfl rfl rfl rfl) ?_
      intro g w hm
      replace hm := hm.swap
      refine VR.append (s := 1) (bytes := 8) Try.underlying23 inf22 rfl rfl rfl rfl rfl rfl rfl rfl rfl hm ho (Row.lit (cs := [.int .i64 (xs.getD k 0)]) (hm.at_ 1 0 rfl)) (by simp [Value.oneCell']) rfl ⟨by unfold maxLen; omega, by omega⟩ ?_
      intro A3 c3 w L3 ho hm
      refine VR.pure rfl rfl (p_assignL rfl) ?_
      refine VR.nil ?_
      repeat (first | refine VC.seq ?_ | refine VC.block ?_ | refine VC.skip ?_)
      refine VC.region ?_
      refine VR.pure rfl rfl (p_moveI rfl) ?_
      refine VR.pure rfl rfl (p_add64 rfl rfl (by omega)) ?_
      refine VR.pure rfl rfl (p_assignI rfl) ?_
      refine VR.nil ?_
      rw [if_pos h2] at hst
      refine ⟨(k + 1, q + 1, A3, c3, L3), ⟨rfl, rfl, rfl, rfl, trivial⟩, ⟨hm.swap.pop, ?_, by simp only; omega, ?_⟩, by simp only; omega⟩
      · dsimp only
        rw [hst, List.map_append]
        exact ho
      · dsimp only
        rw [hst, List.length_append, ← hq]
        rfl
    · repeat (first | refine VC.seq ?_ | refine VC.block ?_ | refine VC.skip ?_)
      refine VC.region ?_
      refine VR.pure rfl rfl (p_moveI rfl) ?_
      refine VR.pure rfl rfl (p_add64 rfl rfl (by omega)) ?_
      refine VR.pure rfl rfl (p_assignI rfl) ?_
      refine VR.nil ?_
      rw [if_neg h2, List.append_nil] at hst
      refine ⟨(k + 1, q, A2, c2, L2), ⟨rfl, rfl, rfl, rfl, trivial⟩, ⟨hm, ?_, by simp only; omega, ?_⟩, by simp only; omega⟩
      · dsimp only
        rw [hst]
        exact ho
      · dsimp only
        rw [hst]
        exact hq
  · repeat (first | refine VC.seq ?_ | refine VC.block ?_ | refine VC.skip ?_)
    refine VC.exit ?_
    obtain rfl : k = n := by omega
    rw [List.take_of_length_le (by omega)] at ho hq
    repeat (first | refine VC.seq ?_ | refine VC.block ?_ | refine VC.skip ?_)
    refine VC.region ?_
    refine VR.pure rfl rfl (p_moveL rfl) ?_
    refine VR.pure rfl rfl (p_assignL rfl) ?_
    refine VR.nil ?_
    repeat (first | refine VC.seq ?_ | refine VC.block ?_ | refine VC.skip ?_)
    refine VC.ret ⟨_, ResOf.r1 (v := .slice _ _ _) rfl rfl, ?_⟩
    subst hq
    exact ⟨A2, c2, L2, rfl, ho, hm⟩

end Go.Bd
