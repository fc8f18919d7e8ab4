/- Contracts of layer 17: longs held against each other; what is done to a book whose state is known; the chapter's example. Conditions: as each states. -/
import Derived.Test.Ytknmjfdemfknaaa17b
namespace Go.Bd
open Go.Proofs
set_option linter.unusedVariables false
set_option maxRecDepth 20000

theorem get_of {α : Type} {xs : List α} {k : Nat} (h : k < xs.length) : ∃ x, xs[k]? = some x ∧ x ∈ xs := ⟨xs[k], List.getElem?_eq_getElem h, List.getElem_mem h⟩
theorem same_at {α : Type} {xs ys : List α} {k : Nat} {x y : α} (hx : xs[k]? = some x) (hy : ys[k]? = some y) (h : xs.take k = ys.take k) (e : x = y) : xs.take (k + 1) = ys.take (k + 1) := by
  rw [List.take_add_one, List.take_add_one, h, hx, hy, e]
theorem long_at {l : List Int} {i : Nat} {x : Int} (h : l[i]? = some x) : (longs l)[i]? = some (.int .i64 x) := by
  unfold longs
  rw [List.getElem?_map, h]
  rfl
theorem same_longs_c {F : Env} {w : World} {Ls : List Blks} {A B : Option Addr} {n c m d : Nat} {xs ys : List Int} (hm : Mem F w Ls) (hn : n ≤ maxLen)
    (hr : Row F.heap A n (longs xs)) (hs : Row F.heap B m (longs ys)) :
    Calls Try.prog 15 #[.slice A n c, .slice B m d] w (Ret fun v w' => v = .bool (decide (xs = ys)) ∧ Mem F w' Ls) := by
  have hl : xs.length = n := by have := hr.len; rwa [List.length_map] at this
  have hl2 : ys.length = m := by have := hs.len; rwa [List.length_map] at this
  unfold maxLen at hn
  refine Calls.of_vc Try.func15 rfl Try.ntmps15 rfl ?_
  repeat (first | refine VC.seq ?_ | refine VC.block ?_ | refine VC.skip ?_)
  refine VC.region ?_
  refine VR.pure rfl rfl (p_assignB rfl) ?_
  refine VR.nil ?_
  repeat (first | refine VC.seq ?_ | refine VC.block ?_ | refine VC.skip ?_)
  refine VC.region ?_
  refine VR.pure rfl rfl (p_moveL rfl) ?_
  refine VR.pure rfl rfl (p_len Try.underlying33 rfl) ?_
  refine VR.pure rfl rfl (p_moveL rfl) ?_
  refine VR.pure rfl rfl (p_len Try.underlying33 rfl) ?_
  refine VR.pure rfl rfl (p_ne rfl rfl) ?_
  refine VR.nil ?_
  repeat (first | refine VC.seq ?_ | refine VC.block ?_ | refine VC.skip ?_)
  refine VC.condD rfl (fun h => ?_) (fun h => ?_)
  · repeat (first | refine VC.seq ?_ | refine VC.block ?_ | refine VC.skip ?_)
    refine VC.region ?_
    refine VR.pure rfl rfl (p_assignB rfl) ?_
    refine VR.nil ?_
    repeat (first | refine VC.seq ?_ | refine VC.block ?_ | refine VC.skip ?_)
    refine VC.ret ⟨_, ResOf.r1 (v := .bool _) rfl rfl, ?_⟩
    exact ⟨congrArg Value.bool (decide_eq_false (fun e => h (by rw [← hl, ← hl2, e]))).symm, hm⟩
  · have hnm : n = m := by omega
    subst hnm
    repeat (first | refine VC.seq ?_ | refine VC.block ?_ | refine VC.skip ?_)
    refine VC.region ?_
    refine VR.pure rfl rfl (p_assignI rfl) ?_
    refine VR.nil ?_
    repeat (first | refine VC.seq ?_ | refine VC.block ?_ | refine VC.skip ?_)
    refine VC.loop (σ := Nat) (fun k => [(0, .slice A n c), (1, .slice B n d), (5, .int .i64 k)]) (fun k w => Mem F w Ls ∧ k ≤ n ∧ xs.take k = ys.take k) (fun k => n - k) 0 ⟨rfl, rfl, rfl, trivial⟩ ⟨hm, by omega, by simp⟩ ?_
    rintro k A' w ⟨hm, hk, hno⟩
    repeat (first | refine VC.seq ?_ | refine VC.block ?_ | refine VC.skip ?_)
    refine VC.region ?_
    refine VR.pure rfl rfl (p_moveI rfl) ?_
    refine VR.pure rfl rfl (p_moveL rfl) ?_
    refine VR.pure rfl rfl (p_len Try.underlying33 rfl) ?_
    refine VR.pure rfl rfl (p_lt rfl rfl) ?_
    refine VR.nil ?_
    repeat (first | refine VC.seq ?_ | refine VC.block ?_ | refine VC.skip ?_)
    refine VC.condD rfl (fun h => ?_) (fun h => ?_)
    · have hk' : k < n := by omega
      obtain ⟨x, hx, _⟩ := get_of (xs := xs) (k := k) (by omega)
      obtain ⟨y, hy, _⟩ := get_of (xs := ys) (k := k) (by omega)
      obtain ⟨b, off, blk, T, fr, rfl, hb, hc⟩ := Row.get hr (by omega)
      obtain ⟨b2, off2, blk2, T2, fr2, rfl, hb2, hc2⟩ := Row.get hs (by omega)
      repeat (first | refine VC.seq ?_ | refine VC.block ?_ | refine VC.skip ?_)
      refine VC.loud (Kept F []) [] rfl (by kernel_rfl) (Kept.of0 hm.drew) ?_
      replace hm := hm.drew
      refine VL.pure rfl rfl rfl (p_moveL rfl) ?_
      refine VL.pure rfl rfl rfl (p_moveI rfl) ?_
      refine VL.pure rfl rfl rfl (p_idx1 Try.underlying33 Try.sizeOf2 rfl rfl hk') ?_
      refine VL.read rfl rfl rfl (fun w' hw' => r_load (v := .int _ _) Try.isAgg2 rfl (hw'.fix _ _ hb) ((hc k hk').trans (long_at hx))) ?_
      refine VL.pure rfl rfl rfl (p_moveL rfl) ?_
      refine VL.pure rfl rfl rfl (p_moveI rfl) ?_
      refine VL.pure rfl rfl rfl (p_idx1 Try.underlying33 Try.sizeOf2 rfl rfl hk') ?_
      refine VL.read rfl rfl rfl (fun w' hw' => r_load (v := .int _ _) Try.isAgg2 rfl (hw'.fix _ _ hb2) ((hc2 k hk').trans (long_at hy))) ?_
      refine VL.pure rfl rfl rfl (p_ne rfl rfl) ?_
      refine VL.nil ?_
      repeat (first | refine VC.seq ?_ | refine VC.block ?_ | refine VC.skip ?_)
      refine VC.condD rfl (fun h2 => ?_) (fun h2 => ?_)
      · repeat (first | refine VC.seq ?_ | refine VC.block ?_ | refine VC.skip ?_)
        refine VC.region ?_
        refine VR.pure rfl rfl (p_assignB rfl) ?_
        refine VR.nil ?_
        repeat (first | refine VC.seq ?_ | refine VC.block ?_ | refine VC.skip ?_)
        refine VC.ret ⟨_, ResOf.r1 (v := .bool _) rfl rfl, ?_⟩
        refine ⟨congrArg Value.bool (decide_eq_false (fun e => h2 ?_)).symm, hm⟩
        rw [e, hy] at hx
        exact (Option.some.inj hx).symm
      · repeat (first | refine VC.seq ?_ | refine VC.block ?_ | refine VC.skip ?_)
        refine VC.region ?_
        refine VR.pure rfl rfl (p_moveI rfl) ?_
        refine VR.pure rfl rfl (p_add64 rfl rfl (by omega)) ?_
        refine VR.pure rfl rfl (p_assignI rfl) ?_
        refine VR.nil ?_
        exact ⟨k + 1, ⟨rfl, rfl, rfl, trivial⟩, ⟨hm, by omega, same_at hx hy hno (Classical.not_not.1 h2)⟩, by omega⟩
    · repeat (first | refine VC.seq ?_ | refine VC.block ?_ | refine VC.skip ?_)
      refine VC.exit ?_
      repeat (first | refine VC.seq ?_ | refine VC.block ?_ | refine VC.skip ?_)
      refine VC.region ?_
      refine VR.pure rfl rfl (p_assignB rfl) ?_
      refine VR.nil ?_
      repeat (first | refine VC.seq ?_ | refine VC.block ?_ | refine VC.skip ?_)
      refine VC.ret ⟨_, ResOf.r1 (v := .bool _) rfl rfl, ?_⟩
      refine ⟨congrArg Value.bool (decide_eq_true ?_).symm, hm⟩
      rwa [List.take_of_length_le (by omega), List.take_of_length_le (by omega)] at hno
theorem pick_c {w : World} {x n : Int} (h : 1 ≤ n ∧ n ≤ 1000000000000000) : Calls Try.prog 10 #[.int .i64 x, .int .i64 n] w (Ret fun v w' => (∃ i : Nat, (i : Int) < n ∧ v = .int .i64 i) ∧ w' = w) := by
  have h1 : x.tmod n < n ∧ -n < x.tmod n := ⟨Int.tmod_lt_of_pos x (by omega), by have := Int.tmod_lt_of_pos (-x) (b := n) (by omega); rw [Int.neg_tmod] at this; omega⟩
  refine Calls.of_vc Try.func10 rfl Try.ntmps10 rfl ?_
  repeat (first | refine VC.seq ?_ | refine VC.block ?_ | refine VC.skip ?_)
  refine VC.region ?_
  refine VR.pure rfl rfl (p_assignI rfl) ?_
  refine VR.nil ?_
  repeat (first | refine VC.seq ?_ | refine VC.block ?_ | refine VC.skip ?_)
  refine VC.region ?_
  refine VR.pure rfl rfl (p_moveI rfl) ?_
  refine VR.pure rfl rfl (p_lt rfl rfl) ?_
  refine VR.nil ?_
  repeat (first | refine VC.seq ?_ | refine VC.block ?_ | refine VC.skip ?_)
  refine VC.condD rfl (fun h2 => ?_) (fun h2 => ?_)
  · omega
  · repeat (first | refine VC.seq ?_ | refine VC.block ?_ | refine VC.skip ?_)
    refine VC.region ?_
    refine VR.pure rfl rfl (p_moveI rfl) ?_
    refine VR.pure rfl rfl (p_moveI rfl) ?_
    refine VR.pure rfl rfl (p_rem rfl rfl (by omega)) ?_
    refine VR.pure rfl rfl (p_assignI rfl) ?_
    refine VR.nil ?_
    repeat (first | refine VC.seq ?_ | refine VC.block ?_ | refine VC.skip ?_)
    refine VC.region ?_
    refine VR.pure rfl rfl (p_moveI rfl) ?_
    refine VR.pure rfl rfl (p_lt rfl rfl) ?_
    refine VR.nil ?_
    repeat (first | refine VC.seq ?_ | refine VC.block ?_ | refine VC.skip ?_)
    refine VC.condD rfl (fun h3 => ?_) (fun h3 => ?_)
    · repeat (first | refine VC.seq ?_ | refine VC.block ?_ | refine VC.skip ?_)
      refine VC.region ?_
      refine VR.pure rfl rfl (p_moveI rfl) ?_
      refine VR.pure rfl rfl (p_moveI rfl) ?_
      refine VR.pure rfl rfl (p_add64 rfl rfl (by omega)) ?_
      refine VR.pure rfl rfl (p_assignI rfl) ?_
      refine VR.nil ?_
      repeat (first | refine VC.seq ?_ | refine VC.block ?_ | refine VC.skip ?_)
      refine VC.region ?_
      refine VR.pure rfl rfl (p_moveI rfl) ?_
      refine VR.pure rfl rfl (p_assignI rfl) ?_
      refine VR.nil ?_
      repeat (first | refine VC.seq ?_ | refine VC.block ?_ | refine VC.skip ?_)
      refine VC.ret ⟨_, ResOf.r1 (v := .int _ _) rfl rfl, ?_⟩
      refine ⟨⟨(x.tmod n + n).toNat, by omega, ?_⟩, rfl⟩
      rw [Int.toNat_of_nonneg (by omega)]
    · repeat (first | refine VC.seq ?_ | refine VC.block ?_ | refine VC.skip ?_)
      refine VC.region ?_
      refine VR.pure rfl rfl (p_moveI rfl) ?_
      refine VR.pure rfl rfl (p_assignI rfl) ?_
      refine VR.nil ?_
      repeat (first | refine VC.seq ?_ | refine VC.block ?_ | refine VC.skip ?_)
      refine VC.ret ⟨_, ResOf.r1 (v := .int _ _) rfl rfl, ?_⟩
      refine ⟨⟨(x.tmod n).toNat, by omega, ?_⟩, rfl⟩
      rw [Int.toNat_of_nonneg (by omega)]

/-! ### A book whose state is known -/
theorem Mem.unL {F : Env} {w w' : World} {As As' Bs : List Blks} (h : Mem F w (As ++ Bs)) (h' : Mem (F.plus Bs) w' As') : Mem F w' (As' ++ Bs) := h.unfocus h'
section
variable {F : Env} {w : World} {Ls : List Blks} {g m : Nat} {B : Bk} {b b' : Ba} {s t c : Int} {q : Bool}
theorem fs_len {B : Bk} {b : Ba} (h : B.abs = b) : B.fs.length = b.fs.length := by
  have := congrArg (fun d => d.fs.length) h
  have h2 : (B.fs.map Se.abs).length = b.fs.length := this
  rwa [List.length_map] at h2
theorem newK (hm : Mem F w Ls) (h : min (max t 0) 1152921504606846976 = c) :
    Calls Try.prog 9 #[.int .i64 t] w (Ret fun v w' => ∃ g m B, v = .pointer (some ⟨g, 0, none⟩) ∧ B.abs = ⟨c, []⟩ ∧ BkOk B ∧ Mem F w' (bkB g m B ++ Ls)) := by
  rw [← h]
  exact new_c hm
theorem addK (hm : Mem F w (bkB g m B ++ Ls)) (hB : BkOk B) (hb : B.abs = b) (h : addB b s t = (c, b')) :
    Calls Try.prog 11 #[.pointer (some ⟨g, 0, none⟩), .int .i64 s, .int .i64 t] w (Ret fun v w' => ∃ B', v = .int .i64 c ∧ B'.abs = b' ∧ BkOk B' ∧ Mem F w' (bkB g m B' ++ Ls)) :=
  Ret.mono (add_c hm.focus hB) fun v w' ⟨B', h1, h2, h3, h4⟩ => ⟨B', by rw [h1, hb, h], by rw [h2, hb, h], h3, hm.unL h4⟩
theorem touchK (hm : Mem F w (bkB g m B ++ Ls)) (hB : BkOk B) (hb : B.abs = b) (h : touchB b s = (q, b')) :
    Calls Try.prog 12 #[.pointer (some ⟨g, 0, none⟩), .int .i64 s] w (Ret fun v w' => ∃ B', v = .bool q ∧ B'.abs = b' ∧ BkOk B' ∧ Mem F w' (bkB g m B' ++ Ls)) :=
  Ret.mono (touch_c hm.focus hB) fun v w' ⟨B', h1, h2, h3, h4⟩ => ⟨B', by rw [h1, hb, h], by rw [h2, hb, h], h3, hm.unL h4⟩
theorem removeK (hm : Mem F w (bkB g m B ++ Ls)) (hB : BkOk B) (hb : B.abs = b) (h : removeB b s = (q, b')) :
    Calls Try.prog 13 #[.pointer (some ⟨g, 0, none⟩), .int .i64 s] w (Ret fun v w' => ∃ B', v = .bool q ∧ B'.abs = b' ∧ BkOk B' ∧ Mem F w' (bkB g m B' ++ Ls)) :=
  Ret.mono (remove_c hm.focus hB) fun v w' ⟨B', h1, h2, h3, h4⟩ => ⟨B', by rw [h1, hb, h], by rw [h2, hb, h], h3, hm.unL h4⟩
/-- What a tick tells, frozen. -/
theorem tickK {l : List Int} (hm : Mem F w (bkB g m B ++ Ls)) (hB : BkOk B) (hb : B.abs = b) (hl : b.fs.length ≤ 1000000) (h : sortI (goneB b t) = l) (h' : tickB b t = b') :
    Calls Try.prog 14 #[.pointer (some ⟨g, 0, none⟩), .int .i64 t] w (Ret fun v w' => ∃ A d G B', v = .slice A l.length d ∧ l.length ≤ d ∧ d ≤ maxLen ∧ F.under G ∧ Row G.heap A l.length (longs l) ∧ B'.abs = b' ∧ BkOk B' ∧ Mem G w' (bkB g m B' ++ Ls)) :=
  Ret.mono (tick_c (t := t) hm.focus hB (by rw [fs_len hb]; exact hl)) fun v w' ⟨A, d, L, B', h1, h2, h3, h4, h5⟩ => by
    rw [hb, h] at h1 h2
    obtain ⟨G, hu, hm2, hL⟩ := (show Mem F w' (L :: (bkB g m B' ++ Ls)) from hm.unL h5).freeze
    exact ⟨A, d, G, B', h1, h2.le.1, h2.le.2, hu, h2.row1 hL, by rw [h3, hb, h'], h4, hm2⟩
theorem allK {l : List Int} (hm : Mem F w (bkB g m B ++ Ls)) (hB : BkOk B) (hb : B.abs = b) (hl : b.fs.length ≤ 1000000) (h : sortI (b.fs.map (·.1)) = l) :
    Calls Try.prog 16 #[.pointer (some ⟨g, 0, none⟩)] w (Ret fun v w' => ∃ A d G, v = .slice A l.length d ∧ l.length ≤ d ∧ d ≤ maxLen ∧ F.under G ∧ Row G.heap A l.length (longs l) ∧ Mem G w' (bkB g m B ++ Ls)) :=
  Ret.mono (all_c hm.focus hB (by rw [fs_len hb]; exact hl)) fun v w' ⟨A, d, L, h1, h2, h5⟩ => by
    rw [hb, h] at h1 h2
    obtain ⟨G, hu, hm2, hL⟩ := (show Mem F w' (L :: (bkB g m B ++ Ls)) from hm.unL h5).freeze
    exact ⟨A, d, G, h1, h2.le.1, h2.le.2, hu, h2.row1 hL, hm2⟩
end
theorem sorted0 : sortI [] = [] := sortI_is (List.Perm.refl _) (by simp)
theorem sorted1 (x : Int) : sortI [x] = [x] := sortI_is (List.Perm.refl _) (by simp)

set_option maxHeartbeats 2000000 in
theorem awake_c {F : Env} {w : World} {Ls : List Blks} (hm : Mem F w Ls) : Calls Try.prog 8 #[] w (Ret fun v w' => v = .bool true ∧ Mem F w' Ls) := by
  refine Calls.of_vc Try.func8 rfl Try.ntmps8 rfl ?_
  repeat (first | refine VC.seq ?_ | refine VC.block ?_ | refine VC.skip ?_)
  refine VC.region ?_
  refine VR.pure rfl rfl (p_assignB rfl) ?_
  refine VR.nil ?_
  repeat (first | refine VC.seq ?_ | refine VC.block ?_ | refine VC.skip ?_)
  refine VC.region ?_
  refine VR.call rfl rfl (r_call1 Try.call9 rfl) (newK hm (c := 0) (by decide)) ?_
  rintro _ w ⟨g, m, B0, rfl, e0, hB0, hm⟩
  refine VR.pure rfl rfl (p_assignP rfl) ?_
  refine VR.nil ?_
  repeat (first | refine VC.seq ?_ | refine VC.block ?_ | refine VC.skip ?_)
  refine VC.region ?_
  refine VR.pure rfl rfl (p_moveP rfl) ?_
  refine VR.call rfl rfl (r_call3 Try.call11 rfl rfl rfl) (addK hm hB0 e0 (b' := ⟨0, [(7, 5, 8)]⟩) (c := 0) (by kernel_rfl)) ?_
  rintro _ w ⟨B1, rfl, e1, hB1, hm⟩
  refine VR.pure rfl rfl (p_assignI rfl) ?_
  refine VR.nil ?_
  repeat (first | refine VC.seq ?_ | refine VC.block ?_ | refine VC.skip ?_)
  refine VC.region ?_
  refine VR.pure rfl rfl (p_moveP rfl) ?_
  refine VR.call rfl rfl (r_call2 Try.call14 rfl rfl) (tickK hm hB1 e1 (by decide) sorted0 (b' := ⟨7, [(7, 5, 8)]⟩) (by kernel_rfl)) ?_
  rintro _ w ⟨A3, d3, F3, B2, rfl, _, _, hu3, hr3, e2, hB2, hm⟩
  refine VR.pure rfl rfl (p_assignL rfl) ?_
  refine VR.nil ?_
  repeat (first | refine VC.seq ?_ | refine VC.block ?_ | refine VC.skip ?_)
  refine VC.region ?_
  refine VR.pure rfl rfl (p_moveP rfl) ?_
  refine VR.call rfl rfl (r_call2 Try.call12 rfl rfl) (touchK hm hB2 e2 (b' := ⟨7, [(7, 5, 12)]⟩) (q := true) (by kernel_rfl)) ?_
  rintro _ w ⟨B3, rfl, e3, hB3, hm⟩
  refine VR.pure rfl rfl (p_assignB rfl) ?_
  refine VR.nil ?_
  repeat (first | refine VC.seq ?_ | refine VC.block ?_ | refine VC.skip ?_)
  refine VC.region ?_
  refine VR.pure rfl rfl (p_moveP rfl) ?_
  refine VR.call rfl rfl (r_call2 Try.call14 rfl rfl) (tickK hm hB3 e3 (by decide) sorted0 (b' := ⟨11, [(7, 5, 12)]⟩) (by kernel_rfl)) ?_
  rintro _ w ⟨A5, d5, F5, B4, rfl, _, _, hu5, hr5, e4, hB4, hm⟩
  refine VR.pure rfl rfl (p_assignL rfl) ?_
  refine VR.nil ?_
  repeat (first | refine VC.seq ?_ | refine VC.block ?_ | refine VC.skip ?_)
  refine VC.region ?_
  refine VR.pure rfl rfl (p_moveP rfl) ?_
  refine VR.call rfl rfl (r_call2 Try.call14 rfl rfl) (tickK hm hB4 e4 (by decide) (sorted1 7) (b' := ⟨12, []⟩) (by kernel_rfl)) ?_
  rintro _ w ⟨A6, d6, F6, B5, rfl, _, _, hu6, hr6, e5, hB5, hm⟩
  refine VR.pure rfl rfl (p_assignL rfl) ?_
  refine VR.nil ?_
  repeat (first | refine VC.seq ?_ | refine VC.block ?_ | refine VC.skip ?_)
  refine VC.region ?_
  refine VR.pure rfl rfl (p_moveI rfl) ?_
  refine VR.pure rfl rfl (p_eq rfl rfl) ?_
  refine VR.pure rfl rfl (p_moveB rfl) ?_
  refine VR.knownT 20 rfl (decide_eq_true rfl) ?_
  refine VR.pureG rfl rfl (p_moveL rfl) ?_
  refine VR.pureG rfl rfl (p_len Try.underlying33 rfl) ?_
  refine VR.pureG rfl rfl (p_eq rfl rfl) ?_
  refine VR.pure rfl rfl (p_pickT rfl rfl) ?_
  refine VR.pure rfl rfl (p_moveB rfl) ?_
  refine VR.knownT 25 rfl (decide_eq_true rfl) ?_
  refine VR.pureG rfl rfl (p_moveB rfl) ?_
  refine VR.pure rfl rfl (p_pickT rfl rfl) ?_
  refine VR.pure rfl rfl (p_moveB rfl) ?_
  refine VR.knownT 28 rfl rfl ?_
  refine VR.pureG rfl rfl (p_moveL rfl) ?_
  refine VR.pureG rfl rfl (p_len Try.underlying33 rfl) ?_
  refine VR.pureG rfl rfl (p_eq rfl rfl) ?_
  refine VR.pure rfl rfl (p_pickT rfl rfl) ?_
  refine VR.pure rfl rfl (p_moveB rfl) ?_
  refine VR.knownT 33 rfl (decide_eq_true rfl) ?_
  refine VR.pureG rfl rfl (p_moveL rfl) ?_
  refine VR.newG hm rfl rfl (n_buildSlice1 (vs := [.int _ _]) Try.underlying33 inf2 rfl rfl rfl rfl rfl rfl rfl) ?_
  intro b35 w hm
  obtain ⟨F7, hu7, hm, hb35⟩ := hm.freeze
  refine VR.callG rfl rfl (r_call2 Try.call15 rfl rfl) (same_longs_c hm (by decide) (hr6.mono hu7.heap) (Row.lit (cs := longs [7]) (hb35 _ (.head _)))) ?_
  rintro _ w ⟨rfl, hm⟩
  refine VR.pure rfl rfl (p_pickT rfl rfl) ?_
  refine VR.pure rfl rfl (p_moveB rfl) ?_
  refine VR.knownT 38 rfl (decide_eq_true rfl) ?_
  refine VR.pureG rfl rfl (p_moveP rfl) ?_
  refine VR.callG rfl rfl (r_call2 Try.call14 rfl rfl) (tickK hm hB5 e5 (by decide) sorted0 (b' := ⟨12, []⟩) (by kernel_rfl)) ?_
  rintro _ w ⟨A8, d8, F8, B6, rfl, _, _, hu8, hr8, e6, hB6, hm⟩
  refine VR.pureG rfl rfl (p_len Try.underlying33 rfl) ?_
  refine VR.pureG rfl rfl (p_eq rfl rfl) ?_
  refine VR.pure rfl rfl (p_pickT rfl rfl) ?_
  refine VR.pure rfl rfl (p_moveB rfl) ?_
  refine VR.knownT 44 rfl (decide_eq_true rfl) ?_
  refine VR.pureG rfl rfl (p_moveP rfl) ?_
  refine VR.callG rfl rfl (r_call2 Try.call12 rfl rfl) (touchK hm hB6 e6 (b' := ⟨12, []⟩) (q := false) (by kernel_rfl)) ?_
  rintro _ w ⟨B7, rfl, e7, hB7, hm⟩
  refine VR.pureG rfl rfl (p_not rfl) ?_
  refine VR.pure rfl rfl (p_pickT rfl rfl) ?_
  refine VR.pure rfl rfl (p_assignB rfl) ?_
  refine VR.nil ?_
  repeat (first | refine VC.seq ?_ | refine VC.block ?_ | refine VC.skip ?_)
  refine VC.ret ⟨_, ResOf.r1 (v := .bool _) rfl rfl, ?_⟩
  exact ⟨rfl, (hm.subF (by simp)).shrink ((((hu3.trans hu5).trans hu6).trans hu7).trans hu8)⟩
end Go.Bd
