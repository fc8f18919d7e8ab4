/- SittingFair: no session is told before its timeout has gone by, each one by the first tick from 4 later on, once; none that is not in the book. Conditions: none. -/
import Derived.Test.Ytknmjfdemfknaaa17e
namespace Go.Bd
open Go.Proofs Go.ChangeShapes Go.WideShapes
set_option linter.unusedVariables false
set_option maxRecDepth 20000

abbrev arB (b : Nat) (H : Nat → Int) : Blks := [(b, .cells (ten H) 26 (0, 0))]
theorem take_succ_of {α : Type} {l : List α} {k : Nat} {x : α} (h : l[k]? = some x) : l.take k ++ [x] = l.take (k + 1) := by
  rw [List.take_add_one, h]
  rfl
theorem neB_self (a : Bool) : (!(a == a)) = false := by cases a <;> rfl
set_option maxHeartbeats 8000000 in
theorem sitting_fair_c {F : Env} {w : World} {A : Option Addr} {n c : Nat} {xs : List Dd} (hm : Mem F w []) (hnc : n ≤ c ∧ c ≤ maxLen) (hr : Row F.heap A (n * 4) (xs.flatMap Dd.cells)) (hl : xs.length = n) :
    Calls Try.prog 3 #[.slice A n c] w (Ret fun v w' => v = .bool true ∧ Mem F w' []) := by
  refine Calls.of_vc Try.func3 rfl Try.ntmps3 rfl ?_
  repeat (first | refine VC.seq ?_ | refine VC.block ?_ | refine VC.skip ?_)
  refine VC.region ?_
  refine VR.pure rfl rfl (p_assignB rfl) ?_
  refine VR.nil ?_
  repeat (first | refine VC.seq ?_ | refine VC.block ?_ | refine VC.skip ?_)
  refine VC.region ?_
  refine VR.call rfl rfl (r_call0 Try.call8) (awake_c hm) ?_
  rintro _ w ⟨rfl, hm⟩
  refine VR.pure rfl rfl (p_not rfl) ?_
  refine VR.nil ?_
  repeat (first | refine VC.seq ?_ | refine VC.block ?_ | refine VC.skip ?_)
  refine VC.condF rfl rfl ?_
  repeat (first | refine VC.seq ?_ | refine VC.block ?_ | refine VC.skip ?_)
  refine VC.region ?_
  refine VR.pure rfl rfl (p_moveL rfl) ?_
  refine VR.pure rfl rfl (p_len Try.underlying22 rfl) ?_
  refine VR.pure rfl rfl (p_gt rfl rfl) ?_
  refine VR.nil ?_
  repeat (first | refine VC.seq ?_ | refine VC.block ?_ | refine VC.skip ?_)
  refine VC.meet (σ := Nat × List Dd) (fun s => [(0, .slice A s.1 c)]) (fun s w => Mem F w [] ∧ s.1 ≤ 200 ∧ s.2.length = s.1 ∧ Row F.heap A (s.1 * 4) (s.2.flatMap Dd.cells)) ?_ ?_
  · repeat (first | refine VC.seq ?_ | refine VC.block ?_ | refine VC.skip ?_)
    refine VC.condD rfl (fun h3 => ?_) (fun h3 => ?_)
    · repeat (first | refine VC.seq ?_ | refine VC.block ?_ | refine VC.skip ?_)
      refine VC.region ?_
      refine VR.pure rfl rfl (p_moveL rfl) ?_
      refine VR.pure rfl rfl (p_sliceHN (h := 200) Try.underlying22 Try.sizeOf29 rfl rfl (by omega)) ?_
      refine VR.pure rfl rfl (p_assignL rfl) ?_
      refine VR.nil ?_
      exact ⟨(200, xs.take 200), ⟨rfl, trivial⟩, hm, Nat.le_refl _, by show (xs.take 200).length = 200; rw [List.length_take]; omega, hr.heads Dd.len hl (by omega)⟩
    · repeat (first | refine VC.seq ?_ | refine VC.block ?_ | refine VC.skip ?_)
      exact ⟨(n, xs), ⟨rfl, trivial⟩, hm, by show n ≤ 200; omega, hl, hr⟩
  clear hm hr hnc hl
  rintro ⟨n, xs⟩ A0 w ⟨hm, hn, hl, hr⟩
  dsimp only at hn hl hr ⊢
  repeat (first | refine VC.seq ?_ | refine VC.block ?_ | refine VC.skip ?_)
  refine VC.region ?_
  refine VR.call rfl rfl (r_call1 Try.call9 rfl) (newK hm (c := 0) (by decide)) ?_
  rintro _ w ⟨g, m, B0, rfl, e0, hB0, hm⟩
  refine VR.pure rfl rfl (p_assignP rfl) ?_
  refine VR.nil ?_
  repeat (first | refine VC.seq ?_ | refine VC.block ?_ | refine VC.skip ?_)
  refine VC.region ?_
  refine VR.pure rfl rfl (p_assignI rfl) ?_
  refine VR.nil ?_
  repeat (first | refine VC.seq ?_ | refine VC.block ?_ | refine VC.skip ?_)
  refine VC.region ?_
  refine VR.new hm rfl rfl (n_allocG Try.zeroValue26) ?_
  intro bh w hm
  refine VR.new hm rfl rfl (n_allocG Try.zeroValue26) ?_
  intro bt w hm
  refine VR.nil ?_
  replace hm : Mem F w (arB bt (fun _ => 0) :: arB bh (fun _ => 0) :: [(g, B0.obj m)] :: [(m, B0.map)] :: []) := hm
  replace hm := (hm.pull 1 rfl).pull 3 rfl
  have hf0 : Fair B0.abs (fun _ => 0) (fun _ => 0) 0 := by
    rw [e0]
    exact Fair.new
  repeat (first | refine VC.seq ?_ | refine VC.block ?_ | refine VC.skip ?_)
  refine VC.region ?_
  refine VR.pure rfl rfl (p_assignI rfl) ?_
  refine VR.nil ?_
  repeat (first | refine VC.seq ?_ | refine VC.block ?_ | refine VC.skip ?_)
  refine VC.loop (σ := Nat × Env × Bk × (Nat → Int) × (Nat → Int) × Int) (fun s => [(0, .slice A n c), (3, .pointer (some ⟨g, 0, none⟩)), (4, .int .i64 s.2.2.2.2.2), (5, .pointer (some ⟨bh, 0, none⟩)), (6, .pointer (some ⟨bt, 0, none⟩)), (7, .int .i64 s.1)])
    (fun s w => Mem s.2.1 w (bkB g m s.2.2.1 ++ (arB bh s.2.2.2.1 :: arB bt s.2.2.2.2.1 :: [])) ∧ F.under s.2.1 ∧ BkOk s.2.2.1 ∧ Fair s.2.2.1.abs s.2.2.2.1 s.2.2.2.2.1 s.2.2.2.2.2 ∧ s.2.2.2.2.2 ≤ 12 * s.1 ∧ s.1 ≤ n ∧ s.2.2.1.fs.length ≤ s.1) (fun s => n - s.1) (0, F, B0, fun _ => 0, fun _ => 0, 0)
    ⟨rfl, rfl, rfl, rfl, rfl, rfl, trivial⟩ ⟨hm.pull 3 rfl, Env.under_refl _, hB0, hf0, Int.le_refl _, by omega, by show B0.fs.length ≤ 0; rw [fs_len e0]; exact Nat.le_refl _⟩ ?_
  clear hm hB0 e0 hf0
  rintro ⟨i, G, B, H, T, now⟩ A1 w ⟨hm, hu, hB, hfair, hnow, hi, hlen⟩
  dsimp only at hm hu hB hfair hnow hi hlen ⊢
  have hnow0 : 0 ≤ now := by have := hfair.heard 0 (by omega); omega
  repeat (first | refine VC.seq ?_ | refine VC.block ?_ | refine VC.skip ?_)
  refine VC.region ?_
  refine VR.pure rfl rfl (p_moveI rfl) ?_
  refine VR.pure rfl rfl (p_moveL rfl) ?_
  refine VR.pure rfl rfl (p_len Try.underlying22 rfl) ?_
  refine VR.pure rfl rfl (p_lt rfl rfl) ?_
  refine VR.nil ?_
  repeat (first | refine VC.seq ?_ | refine VC.block ?_ | refine VC.skip ?_)
  refine VC.condD rfl (fun h9 => ?_) (fun h9 => ?_)
  · have hi' : i < n := by omega
    obtain ⟨x, hx, _⟩ := get_of (xs := xs) (k := i) (by omega)
    obtain ⟨b, off, blk, Tb, fr, rfl, hb, hc⟩ := hr.elem Dd.len (by decide) (by omega)
    have hb' := hu.heap _ _ hb
    repeat (first | refine VC.seq ?_ | refine VC.block ?_ | refine VC.skip ?_)
    refine VC.region ?_
    refine VR.pure rfl rfl (p_moveL rfl) ?_
    refine VR.pure rfl rfl (p_moveI rfl) ?_
    refine VR.pure rfl rfl (p_idxN Try.underlying22 Try.sizeOf29 rfl rfl hi') ?_
    refine VR.pure rfl rfl (p_field (fo := 1) Try.underlying29 rfl Try.sizeOf2 rfl rfl rfl) ?_
    refine VR.val rfl rfl (r_load (v := .int _ _) Try.isAgg2 rfl (hm.fix _ _ hb') (hc i x hx 1 (by decide))) ?_
    refine VR.pure rfl rfl (p_and64 rfl rfl) ?_
    refine VR.call rfl rfl (r_call2 Try.call10 rfl rfl) (pick_c (n := 9) (by decide)) ?_
    rintro _ _ ⟨⟨s0, hs0, rfl⟩, rfl⟩
    refine VR.pure rfl rfl (p_add64E (r := ((s0 + 1 : Nat) : Int)) rfl rfl (by omega) (by omega)) ?_
    refine VR.pure rfl rfl (p_assignI rfl) ?_
    refine VR.nil ?_
    repeat (first | refine VC.seq ?_ | refine VC.block ?_ | refine VC.skip ?_)
    refine VC.region ?_
    refine VR.pure rfl rfl (p_moveL rfl) ?_
    refine VR.pure rfl rfl (p_moveI rfl) ?_
    refine VR.pure rfl rfl (p_idxN Try.underlying22 Try.sizeOf29 rfl rfl hi') ?_
    refine VR.pure rfl rfl (p_field (fo := 2) Try.underlying29 rfl Try.sizeOf3 rfl rfl rfl) ?_
    refine VR.val rfl rfl (r_load (v := .int _ _) Try.isAgg3 rfl (hm.fix _ _ hb') (hc i x hx 2 (by decide))) ?_
    refine VR.call rfl rfl (r_call2 Try.call10 rfl rfl) (pick_c (n := 40) (by decide)) ?_
    rintro _ _ ⟨⟨t0, ht0, rfl⟩, rfl⟩
    refine VR.pure rfl rfl (p_add64 rfl rfl (by omega)) ?_
    refine VR.pure rfl rfl (p_assignI rfl) ?_
    refine VR.nil ?_
    repeat (first | refine VC.seq ?_ | refine VC.block ?_ | refine VC.skip ?_)
    refine VC.region ?_
    refine VR.pure rfl rfl (p_moveL rfl) ?_
    refine VR.pure rfl rfl (p_moveI rfl) ?_
    refine VR.pure rfl rfl (p_idxN Try.underlying22 Try.sizeOf29 rfl rfl hi') ?_
    refine VR.pure rfl rfl (p_field (fo := 0) Try.underlying29 rfl Try.sizeOf3 rfl rfl rfl) ?_
    refine VR.val rfl rfl (r_load (v := .int _ _) Try.isAgg3 rfl (hm.fix _ _ hb') (hc i x hx 0 (by decide))) ?_
    refine VR.call rfl rfl (r_call2 Try.call10 rfl rfl) (pick_c (n := 5) (by decide)) ?_
    rintro _ _ ⟨⟨q, hq, rfl⟩, rfl⟩
    refine VR.nil ?_
    repeat (first | refine VC.seq ?_ | refine VC.block ?_ | refine VC.skip ?_)
    have hs : 1 ≤ s0 + 1 ∧ s0 + 1 ≤ 9 := by omega
    generalize hsd : s0 + 1 = s at hs
    have hs1 : (1 : Int) + s0 = (s : Int) := by omega
    repeat (first | refine VC.seq ?_ | refine VC.block ?_ | refine VC.skip ?_)
    refine VC.region ?_
    refine VR.pure rfl rfl (p_eq rfl rfl) ?_
    refine VR.pure rfl rfl (p_assignB rfl) ?_
    refine VR.nil ?_
    repeat (first | refine VC.seq ?_ | refine VC.block ?_ | refine VC.skip ?_)
    refine VC.condD rfl (fun h28 => ?_) (fun h28 => ?_)
    · obtain ⟨b', hadd, hfair'⟩ := hfair.add (s := s) (t := 1 + t0) hnow0 hs (by omega)
      repeat (first | refine VC.seq ?_ | refine VC.block ?_ | refine VC.skip ?_)
      refine VC.region ?_
      refine VR.pure rfl rfl (p_moveP rfl) ?_
      refine VR.pure rfl rfl (p_moveI rfl) ?_
      refine VR.pure rfl rfl (p_moveI rfl) ?_
      refine VR.call rfl rfl (r_call3 Try.call11 rfl rfl rfl) (addK hm hB rfl hadd) ?_
      rintro _ w ⟨B', rfl, he, hB', hm⟩
      refine VR.pure rfl rfl (p_ne rfl rfl) ?_
      refine VR.nil ?_
      repeat (first | refine VC.seq ?_ | refine VC.block ?_ | refine VC.skip ?_)
      refine VC.condF rfl rfl ?_
      repeat (first | refine VC.seq ?_ | refine VC.block ?_ | refine VC.skip ?_)
      refine VC.region ?_
      refine VR.pure rfl rfl (p_moveI rfl) ?_
      refine VR.pure rfl rfl (p_moveI rfl) ?_
      refine VR.pure rfl rfl (p_moveI rfl) ?_
      refine VR.pure rfl rfl (p_moveI rfl) ?_
      refine VR.pure rfl rfl (p_idxA1 Try.underlying26 Try.sizeOf2 rfl rfl (by omega)) ?_
      refine VR.store (cs' := ten (upd H s now)) (v := .int _ _) Try.sizeOf2 rfl rfl rfl rfl rfl hm 2 0 rfl (by rw [ten_size]; omega) (ten_set (by omega)) ?_
      intro w hm
      refine VR.pure rfl rfl (p_idxA1 Try.underlying26 Try.sizeOf2 rfl rfl (by omega)) ?_
      refine VR.store (cs' := ten (upd T s (1 + t0))) (v := .int _ _) Try.sizeOf2 rfl rfl rfl rfl rfl hm 3 0 rfl (by rw [ten_size]; omega) (ten_set (by omega)) ?_
      intro w hm
      refine VR.nil ?_
      repeat (first | refine VC.seq ?_ | refine VC.block ?_ | refine VC.skip ?_)
      repeat (first | refine VC.seq ?_ | refine VC.block ?_ | refine VC.skip ?_)
      refine VC.region ?_
      refine VR.pure rfl rfl (p_moveI rfl) ?_
      refine VR.pure rfl rfl (p_add64 rfl rfl (by omega)) ?_
      refine VR.pure rfl rfl (p_assignI rfl) ?_
      refine VR.nil ?_
      exact ⟨(i + 1, G, B', upd H s now, upd T s (1 + t0), now), ⟨rfl, rfl, rfl, rfl, rfl, rfl, trivial⟩, ⟨hm, hu, hB', by rw [he]; exact hfair', by show now ≤ 12 * ((i + 1 : Nat) : Int); omega, by show i + 1 ≤ n; omega, step_len he (add_len hadd) hlen⟩, by show n - (i + 1) < n - i; omega⟩
    · repeat (first | refine VC.seq ?_ | refine VC.block ?_ | refine VC.skip ?_)
      refine VC.region ?_
      refine VR.pure rfl rfl (p_eq rfl rfl) ?_
      refine VR.pure rfl rfl (p_assignB rfl) ?_
      refine VR.nil ?_
      repeat (first | refine VC.seq ?_ | refine VC.block ?_ | refine VC.skip ?_)
      refine VC.condD rfl (fun h32 => ?_) (fun h32 => ?_)
      · obtain ⟨b', htou, hfair'⟩ := hfair.touch (s := s) hnow0 hs
        repeat (first | refine VC.seq ?_ | refine VC.block ?_ | refine VC.skip ?_)
        refine VC.loud (Kept G [arB bt T]) [2] rfl (by kernel_rfl) (Kept.one hm.drew 3 rfl) ?_
        replace hm := hm.drew
        refine VL.pure rfl rfl rfl (p_moveP rfl) ?_
        refine VL.pure rfl rfl rfl (p_moveI rfl) ?_
        refine VL.call rfl rfl rfl (r_call2 Try.call12 rfl rfl) (touchK hm hB rfl htou) ?_
        rintro _ w ⟨B', rfl, he, hB', hm⟩
        refine ⟨Kept.one hm 3 rfl, ?_⟩
        refine VL.pure rfl rfl rfl (p_moveI rfl) ?_
        refine VL.pure rfl rfl rfl (p_idxA1 Try.underlying26 Try.sizeOf2 rfl rfl (by omega)) ?_
        refine VL.read rfl rfl rfl (fun w' hw' => r_load (v := .int _ _) Try.isAgg2 rfl (hw'.at_ 0 0 rfl) (ten_at (by omega))) ?_
        refine VL.pure rfl rfl rfl (p_gt rfl rfl) ?_
        refine VL.pure rfl rfl rfl (p_neB Try.underlying4 rfl rfl) ?_
        refine VL.nil ?_
        repeat (first | refine VC.seq ?_ | refine VC.block ?_ | refine VC.skip ?_)
        refine VC.condF rfl (neB_self _) ?_
        repeat (first | refine VC.seq ?_ | refine VC.block ?_ | refine VC.skip ?_)
        refine VC.region ?_
        refine VR.pure rfl rfl (p_moveI rfl) ?_
        refine VR.pure rfl rfl (p_moveI rfl) ?_
        refine VR.pure rfl rfl (p_idxA1 Try.underlying26 Try.sizeOf2 rfl rfl (by omega)) ?_
        refine VR.store (cs' := ten (upd H s now)) (v := .int _ _) Try.sizeOf2 rfl rfl rfl rfl rfl hm 2 0 rfl (by rw [ten_size]; omega) (ten_set (by omega)) ?_
        intro w hm
        refine VR.nil ?_
        repeat (first | refine VC.seq ?_ | refine VC.block ?_ | refine VC.skip ?_)
        repeat (first | refine VC.seq ?_ | refine VC.block ?_ | refine VC.skip ?_)
        refine VC.region ?_
        refine VR.pure rfl rfl (p_moveI rfl) ?_
        refine VR.pure rfl rfl (p_add64 rfl rfl (by omega)) ?_
        refine VR.pure rfl rfl (p_assignI rfl) ?_
        refine VR.nil ?_
        exact ⟨(i + 1, G, B', upd H s now, T, now), ⟨rfl, rfl, rfl, rfl, rfl, rfl, trivial⟩, ⟨hm, hu, hB', by rw [he]; exact hfair', by show now ≤ 12 * ((i + 1 : Nat) : Int); omega, by show i + 1 ≤ n; omega, step_len he (touch_len htou) hlen⟩, by show n - (i + 1) < n - i; omega⟩
      · repeat (first | refine VC.seq ?_ | refine VC.block ?_ | refine VC.skip ?_)
        refine VC.region ?_
        refine VR.pure rfl rfl (p_eq rfl rfl) ?_
        refine VR.pure rfl rfl (p_assignB rfl) ?_
        refine VR.nil ?_
        repeat (first | refine VC.seq ?_ | refine VC.block ?_ | refine VC.skip ?_)
        refine VC.condD rfl (fun h36 => ?_) (fun h36 => ?_)
        · obtain ⟨b', hrem, hfair'⟩ := hfair.remove (s := s) hs
          repeat (first | refine VC.seq ?_ | refine VC.block ?_ | refine VC.skip ?_)
          refine VC.loud (Kept G [arB bt T]) [2] rfl (by kernel_rfl) (Kept.one hm.drew 3 rfl) ?_
          replace hm := hm.drew
          refine VL.pure rfl rfl rfl (p_moveP rfl) ?_
          refine VL.pure rfl rfl rfl (p_moveI rfl) ?_
          refine VL.call rfl rfl rfl (r_call2 Try.call13 rfl rfl) (removeK hm hB rfl hrem) ?_
          rintro _ w ⟨B', rfl, he, hB', hm⟩
          refine ⟨Kept.one hm 3 rfl, ?_⟩
          refine VL.pure rfl rfl rfl (p_moveI rfl) ?_
          refine VL.pure rfl rfl rfl (p_idxA1 Try.underlying26 Try.sizeOf2 rfl rfl (by omega)) ?_
          refine VL.read rfl rfl rfl (fun w' hw' => r_load (v := .int _ _) Try.isAgg2 rfl (hw'.at_ 0 0 rfl) (ten_at (by omega))) ?_
          refine VL.pure rfl rfl rfl (p_gt rfl rfl) ?_
          refine VL.pure rfl rfl rfl (p_neB Try.underlying4 rfl rfl) ?_
          refine VL.nil ?_
          repeat (first | refine VC.seq ?_ | refine VC.block ?_ | refine VC.skip ?_)
          refine VC.condF rfl (neB_self _) ?_
          repeat (first | refine VC.seq ?_ | refine VC.block ?_ | refine VC.skip ?_)
          refine VC.region ?_
          refine VR.pure rfl rfl (p_moveI rfl) ?_
          refine VR.pure rfl rfl (p_idxA1 Try.underlying26 Try.sizeOf2 rfl rfl (by omega)) ?_
          refine VR.store (cs' := ten (upd T s 0)) (v := .int _ _) Try.sizeOf2 rfl rfl rfl rfl rfl hm 3 0 rfl (by rw [ten_size]; omega) (ten_set (by omega)) ?_
          intro w hm
          refine VR.nil ?_
          repeat (first | refine VC.seq ?_ | refine VC.block ?_ | refine VC.skip ?_)
          repeat (first | refine VC.seq ?_ | refine VC.block ?_ | refine VC.skip ?_)
          refine VC.region ?_
          refine VR.pure rfl rfl (p_moveI rfl) ?_
          refine VR.pure rfl rfl (p_add64 rfl rfl (by omega)) ?_
          refine VR.pure rfl rfl (p_assignI rfl) ?_
          refine VR.nil ?_
          exact ⟨(i + 1, G, B', H, upd T s 0, now), ⟨rfl, rfl, rfl, rfl, rfl, rfl, trivial⟩, ⟨hm, hu, hB', by rw [he]; exact hfair', by show now ≤ 12 * ((i + 1 : Nat) : Int); omega, by show i + 1 ≤ n; omega, step_len he (remove_len hrem) hlen⟩, by show n - (i + 1) < n - i; omega⟩
        · repeat (first | refine VC.seq ?_ | refine VC.block ?_ | refine VC.skip ?_)
          refine VC.region ?_
          refine VR.pure rfl rfl (p_moveI rfl) ?_
          refine VR.pure rfl rfl (p_moveL rfl) ?_
          refine VR.pure rfl rfl (p_moveI rfl) ?_
          refine VR.pure rfl rfl (p_idxN Try.underlying22 Try.sizeOf29 rfl rfl hi') ?_
          refine VR.pure rfl rfl (p_field (fo := 3) Try.underlying29 rfl Try.sizeOf2 rfl rfl rfl) ?_
          refine VR.val rfl rfl (r_load (v := .int _ _) Try.isAgg2 rfl (hm.fix _ _ hb') (hc i x hx 3 (by decide))) ?_
          refine VR.pure rfl rfl (p_and64 rfl rfl) ?_
          refine VR.call rfl rfl (r_call2 Try.call10 rfl rfl) (pick_c (n := 12) (by decide)) ?_
          rintro _ _ ⟨⟨d, hd, rfl⟩, rfl⟩
          refine VR.pure rfl rfl (p_add64 rfl rfl (by omega)) ?_
          refine VR.pure rfl rfl (p_assignI rfl) ?_
          refine VR.nil ?_
          obtain ⟨nw, hnw⟩ : ∃ nw : Int, now + (d : Int) = nw := ⟨_, rfl⟩
          rw [hnw]
          have hnw1 : now ≤ nw ∧ nw ≤ 12 * ((i + 1 : Nat) : Int) := by omega
          have hlen' : B.abs.fs.length ≤ 1000000 := by
            have h3 : B.abs.fs.length = B.fs.length := List.length_map _
            omega
          obtain ⟨Gn, hGn⟩ : ∃ Gn, sortI (goneB B.abs nw) = Gn := ⟨_, rfl⟩
          have hperm : Gn.Perm (goneB B.abs nw) := by
            rw [← hGn]
            exact List.mergeSort_perm _ _
          have hap : Apart B.abs.fs := hB.apart
          have hnd : Gn.Nodup := hperm.nodup_iff.2 (by
            rw [gone_out hap]
            exact (names_nodup hap).sublist List.filter_sublist)
          have hGl : Gn.length ≤ 1000000 := by
            rw [hperm.length_eq, gone_out hap]
            refine Nat.le_trans (List.length_filter_le _ _) ?_
            unfold names
            rw [List.length_map]
            exact hlen'
          have htold : ∀ y ∈ Gn, ∃ s : Nat, y = s ∧ 1 ≤ s ∧ s ≤ 9 ∧ 1 ≤ T s ∧ H s + T s ≤ nw := fun y hy => hfair.told (by omega) hnw1.1 (hperm.subset hy)
          obtain ⟨hfair', hlate⟩ := hfair.tick (T' := less T Gn) hap (by omega) hnw1.1 (fun s _ => by
            unfold less
            have e : ((s : Int) ∈ Gn) ↔ (s : Int) ∈ goneB B.abs nw := hperm.mem_iff
            by_cases h : (s : Int) ∈ Gn
            · rw [if_pos h, if_pos (e.1 h)]
            · rw [if_neg h, if_neg (fun h' => h (e.2 h'))])
          repeat (first | refine VC.seq ?_ | refine VC.block ?_ | refine VC.skip ?_)
          refine VC.region ?_
          refine VR.pure rfl rfl (p_moveP rfl) ?_
          refine VR.pure rfl rfl (p_moveI rfl) ?_
          refine VR.call rfl rfl (r_call2 Try.call14 rfl rfl) (tickK hm hB rfl hlen' hGn rfl) ?_
          rintro _ w ⟨A15, c15, G', B', rfl, hc15, hd15, hu15, hr15, he, hB', hm⟩
          refine VR.pure rfl rfl (p_assignL rfl) ?_
          refine VR.nil ?_
          repeat (first | refine VC.seq ?_ | refine VC.block ?_ | refine VC.skip ?_)
          refine VC.region ?_
          refine VR.pure rfl rfl (p_assignI rfl) ?_
          refine VR.nil ?_
          repeat (first | refine VC.seq ?_ | refine VC.block ?_ | refine VC.skip ?_)
          refine VC.loop (σ := Nat) (fun k => [(0, .slice (some ⟨b, off, none⟩) n c), (3, .pointer (some ⟨g, 0, none⟩)), (4, .int .i64 nw), (5, .pointer (some ⟨bh, 0, none⟩)), (6, .pointer (some ⟨bt, 0, none⟩)), (7, .int .i64 i), (10, .slice A15 Gn.length c15), (11, .int .i64 k)])
            (fun k w => Mem G' w (bkB g m B' ++ (arB bh H :: arB bt (less T (Gn.take k)) :: [])) ∧ k ≤ Gn.length) (fun k => Gn.length - k) 0 ⟨rfl, rfl, rfl, rfl, rfl, rfl, rfl, rfl, trivial⟩ ⟨by rw [List.take_zero, less_nil]; exact hm, by omega⟩ ?_
          clear hm
          rintro k A2 w ⟨hm, hk⟩
          repeat (first | refine VC.seq ?_ | refine VC.block ?_ | refine VC.skip ?_)
          refine VC.region ?_
          refine VR.pure rfl rfl (p_moveI rfl) ?_
          refine VR.pure rfl rfl (p_moveL rfl) ?_
          refine VR.pure rfl rfl (p_len Try.underlying33 rfl) ?_
          refine VR.pure rfl rfl (p_lt rfl rfl) ?_
          refine VR.nil ?_
          repeat (first | refine VC.seq ?_ | refine VC.block ?_ | refine VC.skip ?_)
          refine VC.condD rfl (fun h17 => ?_) (fun h17 => ?_)
          · have hk' : k < Gn.length := by omega
            obtain ⟨y, hy, hym⟩ := get_of (xs := Gn) (k := k) hk'
            obtain ⟨z, rfl, hz1, hz2, hz3, hz4⟩ := htold y hym
            obtain ⟨b15, off15, blk15, T15, fr15, rfl, hb15, hc15'⟩ := Row.get hr15 (by omega)
            have hzn : (z : Int) ∉ Gn.take k := fun h => by
              obtain ⟨j, hj, e⟩ := List.mem_iff_getElem.1 h
              obtain ⟨hk2, e2⟩ := List.getElem?_eq_some_iff.1 hy
              rw [List.length_take] at hj
              rw [List.getElem_take, ← e2] at e
              have := (List.getElem_inj hnd).1 e
              omega
            have hTz : less T (Gn.take k) z = T z := if_neg hzn
            repeat (first | refine VC.seq ?_ | refine VC.block ?_ | refine VC.skip ?_)
            refine VC.region ?_
            refine VR.pure rfl rfl (p_moveL rfl) ?_
            refine VR.pure rfl rfl (p_moveI rfl) ?_
            refine VR.pure rfl rfl (p_idx1 Try.underlying33 Try.sizeOf2 rfl rfl hk') ?_
            refine VR.val rfl rfl (r_load (v := .int _ _) Try.isAgg2 rfl (hm.fix _ _ hb15) ((hc15' k hk').trans (long_at hy))) ?_
            refine VR.pure rfl rfl (p_assignI rfl) ?_
            refine VR.nil ?_
            repeat (first | refine VC.seq ?_ | refine VC.block ?_ | refine VC.skip ?_)
            refine VC.loud (Kept G' (bkB g m B' ++ (arB bh H :: arB bt (less T (Gn.take k)) :: []))) [] rfl (by kernel_rfl) (Kept.here0 hm.drew) ?_
            replace hm := hm.drew
            refine VL.pure rfl rfl rfl (p_moveI rfl) ?_
            refine VL.pure rfl rfl rfl (p_lt rfl rfl) ?_
            refine VL.pure rfl rfl rfl (p_moveB rfl) ?_
            refine VL.knownF 73 rfl (decide_eq_false (by omega)) ?_
            refine VL.pureG rfl rfl rfl (p_moveI rfl) ?_
            refine VL.pureG rfl rfl rfl (p_gt rfl rfl) ?_
            refine VL.pure rfl rfl rfl (p_pickF rfl rfl) ?_
            refine VL.pure rfl rfl rfl (p_moveB rfl) ?_
            refine VL.knownF 77 rfl (decide_eq_false (by omega)) ?_
            refine VL.pureG rfl rfl rfl (p_moveI rfl) ?_
            refine VL.pureG rfl rfl rfl (p_idxA1 Try.underlying26 Try.sizeOf2 rfl rfl (by omega)) ?_
            refine VL.readG rfl rfl rfl (fun w' hw' => r_load (v := .int _ _) Try.isAgg2 rfl (hw'.at_ 3 0 rfl) (ten_at (by omega))) ?_
            refine VL.pureG rfl rfl rfl (p_eq rfl rfl) ?_
            refine VL.pure rfl rfl rfl (p_pickF rfl rfl) ?_
            refine VL.pure rfl rfl rfl (p_moveB rfl) ?_
            refine VL.knownF 83 rfl (decide_eq_false (by rw [hTz]; omega)) ?_
            refine VL.pureG rfl rfl rfl (p_moveI rfl) ?_
            refine VL.pureG rfl rfl rfl (p_moveI rfl) ?_
            refine VL.pureG rfl rfl rfl (p_idxA1 Try.underlying26 Try.sizeOf2 rfl rfl (by omega)) ?_
            refine VL.readG rfl rfl rfl (fun w' hw' => r_load (v := .int _ _) Try.isAgg2 rfl (hw'.at_ 2 0 rfl) (ten_at (by omega))) ?_
            refine VL.pureG rfl rfl rfl (p_moveI rfl) ?_
            refine VL.pureG rfl rfl rfl (p_idxA1 Try.underlying26 Try.sizeOf2 rfl rfl (by omega)) ?_
            refine VL.readG rfl rfl rfl (fun w' hw' => r_load (v := .int _ _) Try.isAgg2 rfl (hw'.at_ 3 0 rfl) (ten_at (by omega))) ?_
            rw [hTz]
            have hHz := hfair.heard z (by omega)
            refine VL.pureG rfl rfl rfl (p_add64 rfl rfl (by omega)) ?_
            refine VL.pureG rfl rfl rfl (p_lt rfl rfl) ?_
            refine VL.pure rfl rfl rfl (p_pickF rfl rfl) ?_
            refine VL.nil ?_
            repeat (first | refine VC.seq ?_ | refine VC.block ?_ | refine VC.skip ?_)
            refine VC.condF rfl (decide_eq_false (by omega)) ?_
            repeat (first | refine VC.seq ?_ | refine VC.block ?_ | refine VC.skip ?_)
            refine VC.region ?_
            refine VR.pure rfl rfl (p_moveI rfl) ?_
            refine VR.pure rfl rfl (p_idxA1 Try.underlying26 Try.sizeOf2 rfl rfl (by omega)) ?_
            refine VR.store (cs' := ten (less T (Gn.take (k + 1)))) (v := .int _ _) Try.sizeOf2 rfl rfl rfl rfl rfl hm 3 0 rfl (by rw [ten_size]; omega) ((ten_set (by omega)).trans (by rw [less_one, take_succ_of hy])) ?_
            intro w hm
            refine VR.nil ?_
            repeat (first | refine VC.seq ?_ | refine VC.block ?_ | refine VC.skip ?_)
            repeat (first | refine VC.seq ?_ | refine VC.block ?_ | refine VC.skip ?_)
            refine VC.region ?_
            refine VR.pure rfl rfl (p_moveI rfl) ?_
            refine VR.pure rfl rfl (p_add64 rfl rfl (by omega)) ?_
            refine VR.pure rfl rfl (p_assignI rfl) ?_
            refine VR.nil ?_
            exact ⟨k + 1, ⟨rfl, rfl, rfl, rfl, rfl, rfl, rfl, rfl, trivial⟩, ⟨hm, by omega⟩, by omega⟩
          · repeat (first | refine VC.seq ?_ | refine VC.block ?_ | refine VC.skip ?_)
            refine VC.exit ?_
            have hkn : k = Gn.length := by omega
            rw [hkn, List.take_length] at hm
            repeat (first | refine VC.seq ?_ | refine VC.block ?_ | refine VC.skip ?_)
            refine VC.region ?_
            refine VR.pure rfl rfl (p_assignI rfl) ?_
            refine VR.nil ?_
            repeat (first | refine VC.seq ?_ | refine VC.block ?_ | refine VC.skip ?_)
            refine VC.loop (σ := Nat) (fun k => [(0, .slice (some ⟨b, off, none⟩) n c), (3, .pointer (some ⟨g, 0, none⟩)), (4, .int .i64 nw), (5, .pointer (some ⟨bh, 0, none⟩)), (6, .pointer (some ⟨bt, 0, none⟩)), (7, .int .i64 i), (13, .int .i64 k)])
              (fun k w => Mem G' w (bkB g m B' ++ (arB bh H :: arB bt (less T Gn) :: [])) ∧ 1 ≤ k ∧ k ≤ 10) (fun k => 10 - k) 1 ⟨rfl, rfl, rfl, rfl, rfl, rfl, rfl, trivial⟩ ⟨hm, by omega⟩ ?_
            clear hm
            rintro k2 A3 w ⟨hm, hk2⟩
            repeat (first | refine VC.seq ?_ | refine VC.block ?_ | refine VC.skip ?_)
            refine VC.region ?_
            refine VR.pure rfl rfl (p_moveI rfl) ?_
            refine VR.pure rfl rfl (p_lt rfl rfl) ?_
            refine VR.nil ?_
            repeat (first | refine VC.seq ?_ | refine VC.block ?_ | refine VC.skip ?_)
            refine VC.condD rfl (fun h24 => ?_) (fun h24 => ?_)
            · have hk3 : k2 < 10 := by omega
              have hHk := hfair'.heard k2 hk3
              repeat (first | refine VC.seq ?_ | refine VC.block ?_ | refine VC.skip ?_)
              refine VC.meet (σ := Unit) (fun _ => [(0, .slice (some ⟨b, off, none⟩) n c), (3, .pointer (some ⟨g, 0, none⟩)), (4, .int .i64 nw), (5, .pointer (some ⟨bh, 0, none⟩)), (6, .pointer (some ⟨bt, 0, none⟩)), (7, .int .i64 i), (13, .int .i64 k2), (115, .bool false)])
                (fun _ w => Mem G' w (bkB g m B' ++ (arB bh H :: arB bt (less T Gn) :: []))) ?_ ?_
              · by_cases hpos : 0 < less T Gn k2
                · have hl1 := hlate k2 hk2.1 (by omega) (by omega)
                  repeat (first | refine VC.seq ?_ | refine VC.block ?_ | refine VC.skip ?_)
                  refine VC.loud (Kept G' (bkB g m B' ++ (arB bh H :: arB bt (less T Gn) :: []))) [] rfl (by kernel_rfl) (Kept.here0 hm.drew) ?_
                  replace hm := hm.drew
                  refine VL.pure rfl rfl rfl (p_moveI rfl) ?_
                  refine VL.pure rfl rfl rfl (p_idxA1 Try.underlying26 Try.sizeOf2 rfl rfl hk3) ?_
                  refine VL.read rfl rfl rfl (fun w' hw' => r_load (v := .int _ _) Try.isAgg2 rfl (hw'.at_ 3 0 rfl) (ten_at hk3)) ?_
                  refine VL.pure rfl rfl rfl (p_gt rfl rfl) ?_
                  refine VL.pure rfl rfl rfl (p_moveB rfl) ?_
                  refine VL.knownT 104 rfl (decide_eq_true hpos) ?_
                  refine VL.pureG rfl rfl rfl (p_moveI rfl) ?_
                  refine VL.pureG rfl rfl rfl (p_moveI rfl) ?_
                  refine VL.pureG rfl rfl rfl (p_idxA1 Try.underlying26 Try.sizeOf2 rfl rfl hk3) ?_
                  refine VL.readG rfl rfl rfl (fun w' hw' => r_load (v := .int _ _) Try.isAgg2 rfl (hw'.at_ 2 0 rfl) (ten_at hk3)) ?_
                  refine VL.pureG rfl rfl rfl (p_moveI rfl) ?_
                  refine VL.pureG rfl rfl rfl (p_idxA1 Try.underlying26 Try.sizeOf2 rfl rfl hk3) ?_
                  refine VL.readG rfl rfl rfl (fun w' hw' => r_load (v := .int _ _) Try.isAgg2 rfl (hw'.at_ 3 0 rfl) (ten_at hk3)) ?_
                  refine VL.pureG rfl rfl rfl (p_add64 rfl rfl (by omega)) ?_
                  refine VL.pureG rfl rfl rfl (p_add64 rfl rfl (by omega)) ?_
                  refine VL.pureG rfl rfl rfl (p_ge rfl rfl) ?_
                  refine VL.pure rfl rfl rfl (p_pickT rfl rfl) ?_
                  refine VL.nil ?_
                  exact ⟨(), ⟨rfl, rfl, rfl, rfl, rfl, rfl, rfl, congrArg Value.bool (decide_eq_false (by omega)), trivial⟩, hm⟩
                · repeat (first | refine VC.seq ?_ | refine VC.block ?_ | refine VC.skip ?_)
                  refine VC.loud (Kept G' (bkB g m B' ++ (arB bh H :: arB bt (less T Gn) :: []))) [] rfl (by kernel_rfl) (Kept.here0 hm.drew) ?_
                  replace hm := hm.drew
                  refine VL.pure rfl rfl rfl (p_moveI rfl) ?_
                  refine VL.pure rfl rfl rfl (p_idxA1 Try.underlying26 Try.sizeOf2 rfl rfl hk3) ?_
                  refine VL.read rfl rfl rfl (fun w' hw' => r_load (v := .int _ _) Try.isAgg2 rfl (hw'.at_ 3 0 rfl) (ten_at hk3)) ?_
                  refine VL.pure rfl rfl rfl (p_gt rfl rfl) ?_
                  refine VL.pure rfl rfl rfl (p_moveB rfl) ?_
                  refine VL.knownF 104 rfl (decide_eq_false hpos) ?_
                  refine VL.pass rfl rfl ?_
                  refine VL.pass rfl rfl ?_
                  refine VL.pass rfl rfl ?_
                  refine VL.pass rfl rfl ?_
                  refine VL.pass rfl rfl ?_
                  refine VL.pass rfl rfl ?_
                  refine VL.pass rfl rfl ?_
                  refine VL.pass rfl rfl ?_
                  refine VL.pass rfl rfl ?_
                  refine VL.pass rfl rfl ?_
                  refine VL.pure rfl rfl rfl (p_pickF rfl rfl) ?_
                  refine VL.nil ?_
                  exact ⟨(), ⟨rfl, rfl, rfl, rfl, rfl, rfl, rfl, rfl, trivial⟩, hm⟩
              clear hm
              rintro _ A4 w hm
              repeat (first | refine VC.seq ?_ | refine VC.block ?_ | refine VC.skip ?_)
              refine VC.condF rfl rfl ?_
              repeat (first | refine VC.seq ?_ | refine VC.block ?_ | refine VC.skip ?_)
              repeat (first | refine VC.seq ?_ | refine VC.block ?_ | refine VC.skip ?_)
              refine VC.region ?_
              refine VR.pure rfl rfl (p_moveI rfl) ?_
              refine VR.pure rfl rfl (p_add64 rfl rfl (by omega)) ?_
              refine VR.pure rfl rfl (p_assignI rfl) ?_
              refine VR.nil ?_
              exact ⟨k2 + 1, ⟨rfl, rfl, rfl, rfl, rfl, rfl, rfl, trivial⟩, ⟨hm, by omega⟩, by omega⟩
            · repeat (first | refine VC.seq ?_ | refine VC.block ?_ | refine VC.skip ?_)
              refine VC.exit ?_
              repeat (first | refine VC.seq ?_ | refine VC.block ?_ | refine VC.skip ?_)
              repeat (first | refine VC.seq ?_ | refine VC.block ?_ | refine VC.skip ?_)
              refine VC.region ?_
              refine VR.pure rfl rfl (p_moveI rfl) ?_
              refine VR.pure rfl rfl (p_add64 rfl rfl (by omega)) ?_
              refine VR.pure rfl rfl (p_assignI rfl) ?_
              refine VR.nil ?_
              refine ⟨(i + 1, G', B', H, less T Gn, nw), ⟨rfl, rfl, rfl, rfl, rfl, rfl, trivial⟩, ⟨hm, hu.trans hu15, hB', by rw [he]; exact hfair', hnw1.2, by show i + 1 ≤ n; omega, ?_⟩, by show n - (i + 1) < n - i; omega⟩
              exact step_len he (Nat.le_succ_of_le (tickB_len _ _)) hlen
  · repeat (first | refine VC.seq ?_ | refine VC.block ?_ | refine VC.skip ?_)
    refine VC.exit ?_
    repeat (first | refine VC.seq ?_ | refine VC.block ?_ | refine VC.skip ?_)
    refine VC.region ?_
    refine VR.pure rfl rfl (p_assignB rfl) ?_
    refine VR.nil ?_
    repeat (first | refine VC.seq ?_ | refine VC.block ?_ | refine VC.skip ?_)
    refine VC.ret ⟨_, ResOf.r1 (v := .bool _) rfl rfl, ?_⟩
    exact ⟨rfl, (hm.subF (by simp)).shrink hu⟩
end Go.Bd
namespace Go.Proofs.Ytknmjfdemfknaaa
open Go.Bd Go.ChangeShapes Go.WideShapes

set_option maxRecDepth 100000 in
theorem fair_lifted (os : Os) (started : os.Started) (H : Type) (enc : TypeId × Value → H) :
    ReturnsInHanded {} Try.checked os 3 .any (Rows.sittingFairSpec.pre6 enc Try.prog Try.f3 Rows.sittingFairRow.domain false) (Rows.sittingFairSpec.post enc Try.prog Try.f3 false true false false) := by
  refine law_frame (C := Try.checked) (tb := 4) (by kernel_rfl) (by kernel_rfl) started (by kernel_rfl) Try.func3 rfl rfl Try.underlying4 (by kernel_rfl) ?_
    (ChangeSpec.witness6 (enc := enc) (C := Try.checked) false ⟨#[], #[.slice none 0 0], []⟩ 8 (by kernel_rfl) (by kernel_rfl) (by kernel_rfl) (by kernel_rfl)) ?_
  · intro ds hl
    match ds, hl with
    | [d1], _ => rfl
  · intro W base args ds p hval hA hwt
    replace hA : DataW.TrodAll enc Try.prog W 0 (fun _ => true) true Try.f3.params.toList args.toList ds p := hA
    rw [Try.params3] at hA hval
    replace hwt : (DataW.weightsEach Try.prog [22] ds).all (· ≤ reachBytes) = true := hwt
    obtain ⟨v0, vs0, d0, ds0, p0, q0, hargs, rfl, rfl, h0, r0⟩ := trodAll_cons hA
    obtain ⟨rfl, rfl, rfl⟩ := trodAll_nil r0
    obtain rfl : args = #[v0] := by cases args; simp_all
    obtain ⟨_, _, _, rfl⟩ := okWide_slice Try.underlying22 (hval 0 22 v0 rfl rfl)
    obtain ⟨fuel, hf⟩ := h0
    obtain ⟨A, n, c, xs, e1, hnc, hcm, _, hr, hx, hxl⟩ := open_rows (cells := Dd.cells) (Q := fun _ => True) Try.underlying22 cel29 (by decide) Dd.len open_do hf (LightAll.cons hwt).1
    simp [Value.cells] at e1
    obtain ⟨rfl, rfl, rfl⟩ := e1
    exact sitting_fair_c (Mem.of W) ⟨hnc, hcm⟩ hr hxl

theorem fair : Rows.SittingFairSaid :=
  OpenClaim.holds_of_wide 3 Try.f3 rfl rfl rfl rfl rfl rfl rfl ⟨rfl, rfl, rfl, rfl, rfl⟩ rfl rfl rfl rfl rfl (by kernel_rfl) Try.func3 (by kernel_rfl)
    (of_decide_eq_true (by kernel_rfl)) (by unfold Func.isWrapper; rw [if_neg (of_decide_eq_false (by kernel_rfl))]; exact ⟨rfl, rfl⟩)
    (fun os started H enc _ => fair_lifted os started H enc)
end Go.Proofs.Ytknmjfdemfknaaa
