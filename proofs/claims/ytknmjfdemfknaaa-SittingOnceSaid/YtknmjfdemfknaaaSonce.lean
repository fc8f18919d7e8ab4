/- SittingOnce: what ticks tell rises, none of it is left, and all that is left was there before; a tick that goes back tells nothing. Conditions: none. -/
import Derived.Test.Ytknmjfdemfknaaa17d
namespace Go.Bd
open Go.Proofs Go.ChangeShapes Go.WideShapes
set_option linter.unusedVariables false
set_option maxRecDepth 20000

theorem clock_le (t : Int) : min t 1152921504606846976 ≤ 1152921504606846976 := by omega
set_option maxHeartbeats 8000000 in
theorem sitting_once_c {F : Env} {w : World} {A : Option Addr} {n c : Nat} {xs : List Dd} {now back : Int} (hm : Mem F w []) (hnc : n ≤ c ∧ c ≤ maxLen) (hr : Row F.heap A (n * 4) (xs.flatMap Dd.cells)) (hl : xs.length = n) :
    Calls Try.prog 5 #[.slice A n c, .int .i64 now, .int .i64 back] w (Ret fun v w' => v = .bool true ∧ Mem F w' []) := by
  refine Calls.of_vc Try.func5 rfl Try.ntmps5 rfl ?_
  repeat (first | refine VC.seq ?_ | refine VC.block ?_ | refine VC.skip ?_)
  refine VC.region ?_
  refine VR.pure rfl rfl (p_assignB rfl) ?_
  refine VR.nil ?_
  repeat (first | refine VC.seq ?_ | refine VC.block ?_ | refine VC.skip ?_)
  refine VC.region ?_
  refine VR.call rfl rfl (r_call0 Try.call8) (awake_c hm) ?_
  rintro _ w ⟨rfl, hm⟩
  refine VR.pure rfl rfl (p_not rfl) ?_
  refine VR.nil ?_
  repeat (first | refine VC.seq ?_ | refine VC.block ?_ | refine VC.skip ?_)
  refine VC.condF rfl rfl ?_
  repeat (first | refine VC.seq ?_ | refine VC.block ?_ | refine VC.skip ?_)
  refine VC.region ?_
  refine VR.pure rfl rfl (p_moveL rfl) ?_
  refine VR.pure rfl rfl (p_len Try.underlying22 rfl) ?_
  refine VR.pure rfl rfl (p_gt rfl rfl) ?_
  refine VR.nil ?_
  repeat (first | refine VC.seq ?_ | refine VC.block ?_ | refine VC.skip ?_)
  refine VC.meet (σ := Nat × List Dd) (fun s => [(0, .slice A s.1 c), (1, .int .i64 now), (2, .int .i64 back)]) (fun s w => Mem F w [] ∧ s.1 ≤ 200 ∧ s.2.length = s.1 ∧ Row F.heap A (s.1 * 4) (s.2.flatMap Dd.cells)) ?_ ?_
  · repeat (first | refine VC.seq ?_ | refine VC.block ?_ | refine VC.skip ?_)
    refine VC.condD rfl (fun h3 => ?_) (fun h3 => ?_)
    · repeat (first | refine VC.seq ?_ | refine VC.block ?_ | refine VC.skip ?_)
      refine VC.region ?_
      refine VR.pure rfl rfl (p_moveL rfl) ?_
      refine VR.pure rfl rfl (p_sliceHN (h := 200) Try.underlying22 Try.sizeOf29 rfl rfl (by omega)) ?_
      refine VR.pure rfl rfl (p_assignL rfl) ?_
      refine VR.nil ?_
      exact ⟨(200, xs.take 200), ⟨rfl, rfl, rfl, trivial⟩, hm, Nat.le_refl _, by show (xs.take 200).length = 200; rw [List.length_take]; omega, hr.heads Dd.len hl (by omega)⟩
    · repeat (first | refine VC.seq ?_ | refine VC.block ?_ | refine VC.skip ?_)
      exact ⟨(n, xs), ⟨rfl, rfl, rfl, trivial⟩, hm, by show n ≤ 200; omega, hl, hr⟩
  clear hm hr hnc hl
  rintro ⟨n, xs⟩ A0 w ⟨hm, hn, hl, hr⟩
  dsimp only at hn hl hr ⊢
  repeat (first | refine VC.seq ?_ | refine VC.block ?_ | refine VC.skip ?_)
  refine VC.region ?_
  refine VR.call rfl rfl (r_call1 Try.call9 rfl) (newK hm (c := 0) (by decide)) ?_
  rintro _ w ⟨g, m, B0, rfl, e0, hB0, hm⟩
  refine VR.pure rfl rfl (p_assignP rfl) ?_
  refine VR.nil ?_
  repeat (first | refine VC.seq ?_ | refine VC.block ?_ | refine VC.skip ?_)
  refine VC.region ?_
  refine VR.pure rfl rfl (p_assignI rfl) ?_
  refine VR.nil ?_
  repeat (first | refine VC.seq ?_ | refine VC.block ?_ | refine VC.skip ?_)
  refine VC.loop (σ := Nat × Env × Bk) (fun s => [(0, .slice A n c), (1, .int .i64 now), (2, .int .i64 back), (7, .pointer (some ⟨g, 0, none⟩)), (8, .int .i64 s.1)])
    (fun s w => Mem s.2.1 w (bkB g m s.2.2) ∧ F.under s.2.1 ∧ BkOk s.2.2 ∧ s.2.2.fs.length ≤ s.1 ∧ s.1 ≤ n) (fun s => n - s.1) (0, F, B0) ⟨rfl, rfl, rfl, rfl, rfl, trivial⟩ ⟨hm, Env.under_refl _, hB0, by rw [fs_len e0]; exact Nat.le_refl _, by omega⟩ ?_
  clear hm hB0 e0
  rintro ⟨i, G, B⟩ A1 w ⟨hm, hu, hB, hlen, hi⟩
  dsimp only at hm hu hB hlen hi ⊢
  repeat (first | refine VC.seq ?_ | refine VC.block ?_ | refine VC.skip ?_)
  refine VC.region ?_
  refine VR.pure rfl rfl (p_moveI rfl) ?_
  refine VR.pure rfl rfl (p_moveL rfl) ?_
  refine VR.pure rfl rfl (p_len Try.underlying22 rfl) ?_
  refine VR.pure rfl rfl (p_lt rfl rfl) ?_
  refine VR.nil ?_
  repeat (first | refine VC.seq ?_ | refine VC.block ?_ | refine VC.skip ?_)
  refine VC.condD rfl (fun h7 => ?_) (fun h7 => ?_)
  · have hi' : i < n := by omega
    obtain ⟨x, hx, _⟩ := get_of (xs := xs) (k := i) (by omega)
    obtain ⟨b, off, blk, T, fr, rfl, hb, hc⟩ := hr.elem Dd.len (by decide) (by omega)
    have hb' := hu.heap _ _ hb
    repeat (first | refine VC.seq ?_ | refine VC.block ?_ | refine VC.skip ?_)
    refine VC.loud (Kept G []) [11] rfl (by kernel_rfl) (Kept.of0 hm.drew) ?_
    replace hm := hm.drew
    refine VL.pure rfl rfl rfl (p_moveP rfl) ?_
    refine VL.pure rfl rfl rfl (p_moveL rfl) ?_
    refine VL.pure rfl rfl rfl (p_moveI rfl) ?_
    refine VL.pure rfl rfl rfl (p_idxN Try.underlying22 Try.sizeOf29 rfl rfl hi') ?_
    refine VL.pure rfl rfl rfl (p_field (fo := 1) Try.underlying29 rfl Try.sizeOf2 rfl rfl rfl) ?_
    refine VL.read rfl rfl rfl (fun w' hw' => r_load (v := .int _ _) Try.isAgg2 rfl (hw'.fix _ _ hb') (hc i x hx 1 (by decide))) ?_
    refine VL.pure rfl rfl rfl (p_moveL rfl) ?_
    refine VL.pure rfl rfl rfl (p_moveI rfl) ?_
    refine VL.pure rfl rfl rfl (p_idxN Try.underlying22 Try.sizeOf29 rfl rfl hi') ?_
    refine VL.pure rfl rfl rfl (p_field (fo := 2) Try.underlying29 rfl Try.sizeOf3 rfl rfl rfl) ?_
    refine VL.read rfl rfl rfl (fun w' hw' => r_load (v := .int _ _) Try.isAgg3 rfl (hw'.fix _ _ hb') (hc i x hx 2 (by decide))) ?_
    refine VL.call rfl rfl rfl (r_call3 Try.call11 rfl rfl rfl) (add_c hm hB) ?_
    rintro _ w ⟨B', rfl, he, hB', hm⟩
    refine ⟨Kept.of0 hm, ?_⟩
    refine VL.nil ?_
    have hlen' : B'.fs.length ≤ i + 1 := by
      have h1 := fs_len he
      have h2 := addB_len B.abs x.s x.t
      have h3 : B.abs.fs.length = B.fs.length := List.length_map _
      omega
    repeat (first | refine VC.seq ?_ | refine VC.block ?_ | refine VC.skip ?_)
    refine VC.region ?_
    refine VR.pure rfl rfl (p_moveL rfl) ?_
    refine VR.pure rfl rfl (p_moveI rfl) ?_
    refine VR.pure rfl rfl (p_idxN Try.underlying22 Try.sizeOf29 rfl rfl hi') ?_
    refine VR.pure rfl rfl (p_field (fo := 0) Try.underlying29 rfl Try.sizeOf3 rfl rfl rfl) ?_
    refine VR.val rfl rfl (r_load (v := .int _ _) Try.isAgg3 rfl (hm.fix _ _ hb') (hc i x hx 0 (by decide))) ?_
    refine VR.pure rfl rfl (p_rem rfl rfl (by decide)) ?_
    refine VR.pure rfl rfl (p_eq rfl rfl) ?_
    refine VR.nil ?_
    repeat (first | refine VC.seq ?_ | refine VC.block ?_ | refine VC.skip ?_)
    refine VC.meet (σ := Env × Bk) (fun s => [(0, .slice (some ⟨b, off, none⟩) n c), (1, .int .i64 now), (2, .int .i64 back), (7, .pointer (some ⟨g, 0, none⟩)), (8, .int .i64 i)])
      (fun s w => Mem s.1 w (bkB g m s.2) ∧ F.under s.1 ∧ BkOk s.2 ∧ s.2.fs.length ≤ i + 1) ?_ ?_
    · repeat (first | refine VC.seq ?_ | refine VC.block ?_ | refine VC.skip ?_)
      refine VC.condD rfl (fun h10 => ?_) (fun h10 => ?_)
      · repeat (first | refine VC.seq ?_ | refine VC.block ?_ | refine VC.skip ?_)
        refine VC.region ?_
        refine VR.pure rfl rfl (p_moveP rfl) ?_
        refine VR.pure rfl rfl (p_moveL rfl) ?_
        refine VR.pure rfl rfl (p_moveI rfl) ?_
        refine VR.pure rfl rfl (p_idxN Try.underlying22 Try.sizeOf29 rfl rfl hi') ?_
        refine VR.pure rfl rfl (p_field (fo := 3) Try.underlying29 rfl Try.sizeOf2 rfl rfl rfl) ?_
        refine VR.val rfl rfl (r_load (v := .int _ _) Try.isAgg2 rfl (hm.fix _ _ hb') (hc i x hx 3 (by decide))) ?_
        refine VR.call rfl rfl (r_call2 Try.call14 rfl rfl) (tick_c hm hB' (by omega)) ?_
        rintro _ w ⟨A6, c6, L6, B6, rfl, ho6, he6, hB6, hm⟩
        refine VR.nil ?_
        refine ⟨(G, B6), ⟨rfl, rfl, rfl, rfl, rfl, trivial⟩, hm.pop, hu, hB6, ?_⟩
        show B6.fs.length ≤ i + 1
        have h1 := fs_len he6
        have h2 := tickB_len B'.abs x.now
        have h3 : B'.abs.fs.length = B'.fs.length := List.length_map _
        omega
      · repeat (first | refine VC.seq ?_ | refine VC.block ?_ | refine VC.skip ?_)
        exact ⟨(G, B'), ⟨rfl, rfl, rfl, rfl, rfl, trivial⟩, hm, hu, hB', hlen'⟩
    clear hm hB hB' hlen hlen' he hb' hu
    rintro ⟨G', B'⟩ A2 w ⟨hm, hu, hB, hlen⟩
    dsimp only at hm hu hB hlen ⊢
    repeat (first | refine VC.seq ?_ | refine VC.block ?_ | refine VC.skip ?_)
    repeat (first | refine VC.seq ?_ | refine VC.block ?_ | refine VC.skip ?_)
    refine VC.region ?_
    refine VR.pure rfl rfl (p_moveI rfl) ?_
    refine VR.pure rfl rfl (p_add64 rfl rfl (by omega)) ?_
    refine VR.pure rfl rfl (p_assignI rfl) ?_
    refine VR.nil ?_
    exact ⟨(i + 1, G', B'), ⟨rfl, rfl, rfl, rfl, rfl, trivial⟩, ⟨hm, hu, hB, hlen, by omega⟩, by omega⟩
  · repeat (first | refine VC.seq ?_ | refine VC.block ?_ | refine VC.skip ?_)
    refine VC.exit ?_
    have hlen' : B.abs.fs.length ≤ 1000000 := by
      have h3 : B.abs.fs.length = B.fs.length := List.length_map _
      omega
    have hap : Apart B.abs.fs := hB.apart
    obtain ⟨nw, hnw⟩ : ∃ nw : Int, min now 1152921504606846976 = nw := ⟨_, rfl⟩
    have hnw1 : nw ≤ 1152921504606846976 := by omega
    obtain ⟨W, hW⟩ : ∃ W, sortI (B.abs.fs.map (·.1)) = W := ⟨_, rfl⟩
    obtain ⟨p, hp1, hp2⟩ : ∃ p : Int → Bool, sortI (goneB B.abs nw) = W.filter p ∧ sortI ((tickB B.abs nw).fs.map (·.1)) = W.filter fun s => !p s := by
      refine ⟨over B.abs nw, ?_, ?_⟩
      · rw [gone_out hap, filter_sorted]
        exact congrArg _ hW
      · rw [show (tickB B.abs nw).fs.map (·.1) = _ from left_out hap nw, filter_sorted]
        exact congrArg _ hW
    have hlt : W.Pairwise (· < ·) := by
      rw [← hW]
      exact sortI_lt (names_nodup hap)
    have hWl : W.length ≤ 1000000 := by
      rw [← hW, sortI_length, List.length_map]
      exact hlen'
    have hsum := filter_two p W
    have hback := back_none (b := B.abs) (t := nw) (u := back) hnw1
    have hlen2 : (tickB B.abs nw).fs.length ≤ 1000000 := Nat.le_trans (tickB_len _ _) hlen'
    have hgone2 : sortI (goneB (tickB B.abs nw) (min nw back)) = [] := by
      rw [hback.1]
      exact sorted0
    subst hnw
    repeat (first | refine VC.seq ?_ | refine VC.block ?_ | refine VC.skip ?_)
    refine VC.region ?_
    refine VR.pure rfl rfl (p_moveI rfl) ?_
    refine VR.pure rfl rfl (p_min rfl rfl) ?_
    refine VR.pure rfl rfl (p_assignI rfl) ?_
    refine VR.nil ?_
    repeat (first | refine VC.seq ?_ | refine VC.block ?_ | refine VC.skip ?_)
    refine VC.region ?_
    refine VR.pure rfl rfl (p_moveP rfl) ?_
    refine VR.call rfl rfl (r_call1 Try.call16 rfl) (allK (Ls := []) hm hB rfl hlen' hW) ?_
    rintro _ w ⟨A9, c9, G1, rfl, hc9, hd9, hu1, hr9, hm⟩
    refine VR.pure rfl rfl (p_assignL rfl) ?_
    refine VR.nil ?_
    repeat (first | refine VC.seq ?_ | refine VC.block ?_ | refine VC.skip ?_)
    refine VC.region ?_
    refine VR.pure rfl rfl (p_moveP rfl) ?_
    refine VR.pure rfl rfl (p_moveI rfl) ?_
    refine VR.call rfl rfl (r_call2 Try.call14 rfl rfl) (tickK (Ls := []) hm hB rfl hlen' hp1 rfl) ?_
    rintro _ w ⟨A10, c10, G2, B2, rfl, hc10, hd10, hu2, hr10, e2, hB2, hm⟩
    refine VR.pure rfl rfl (p_assignL rfl) ?_
    refine VR.nil ?_
    repeat (first | refine VC.seq ?_ | refine VC.block ?_ | refine VC.skip ?_)
    refine VC.region ?_
    refine VR.pure rfl rfl (p_moveP rfl) ?_
    refine VR.call rfl rfl (r_call1 Try.call16 rfl) (allK (Ls := []) hm hB2 e2 hlen2 hp2) ?_
    rintro _ w ⟨A11, c11, G3, rfl, hc11, hd11, hu3, hr11, hm⟩
    refine VR.pure rfl rfl (p_assignL rfl) ?_
    refine VR.nil ?_
    replace hr9 := (hr9.mono hu2.heap).mono hu3.heap
    replace hr10 := hr10.mono hu3.heap
    have hu4 := ((hu.trans hu1).trans hu2).trans hu3
    have hKs2 := hp2
    clear hu1 hu2 hu3 hu hp1 hp2 hr
    generalize hGs : W.filter p = Gs at hr10 hc10 hsum
    generalize hKs : (W.filter fun s => !p s) = Ks at hr11 hc11 hsum hKs2
    repeat (first | refine VC.seq ?_ | refine VC.block ?_ | refine VC.skip ?_)
    refine VC.region ?_
    refine VR.pure rfl rfl (p_moveL rfl) ?_
    refine VR.pure rfl rfl (p_len Try.underlying33 rfl) ?_
    refine VR.pure rfl rfl (p_moveL rfl) ?_
    refine VR.pure rfl rfl (p_len Try.underlying33 rfl) ?_
    refine VR.pure rfl rfl (p_add64 rfl rfl (by omega)) ?_
    refine VR.pure rfl rfl (p_moveL rfl) ?_
    refine VR.pure rfl rfl (p_len Try.underlying33 rfl) ?_
    refine VR.pure rfl rfl (p_ne rfl rfl) ?_
    refine VR.nil ?_
    repeat (first | refine VC.seq ?_ | refine VC.block ?_ | refine VC.skip ?_)
    refine VC.condF rfl (decide_eq_false (not_not_intro (by omega))) ?_
    have hKl : Ks.length ≤ 1000000 := by omega
    repeat (first | refine VC.seq ?_ | refine VC.block ?_ | refine VC.skip ?_)
    refine VC.region ?_
    refine VR.pure rfl rfl (p_assignI rfl) ?_
    refine VR.pure rfl rfl (p_assignI rfl) ?_
    refine VR.nil ?_
    repeat (first | refine VC.seq ?_ | refine VC.block ?_ | refine VC.skip ?_)
    refine VC.region ?_
    refine VR.pure rfl rfl (p_assignI rfl) ?_
    refine VR.nil ?_
    repeat (first | refine VC.seq ?_ | refine VC.block ?_ | refine VC.skip ?_)
    refine VC.loop (σ := Nat) (fun i => [(1, .int .i64 (min now 1152921504606846976)), (2, .int .i64 back), (7, .pointer (some ⟨g, 0, none⟩)), (9, .slice A9 W.length c9), (10, .slice A10 Gs.length c10), (11, .slice A11 Ks.length c11), (12, .int .i64 ((W.take i).filter p).length), (13, .int .i64 ((W.take i).filter fun s => !p s).length), (14, .int .i64 i)])
      (fun i w => Mem G3 w (bkB g m B2 ++ []) ∧ i ≤ W.length) (fun i => W.length - i) 0 ⟨rfl, rfl, rfl, rfl, rfl, rfl, rfl, rfl, rfl, trivial⟩ ⟨hm, by omega⟩ ?_
    clear hm
    rintro k A3 w ⟨hm, hk⟩
    repeat (first | refine VC.seq ?_ | refine VC.block ?_ | refine VC.skip ?_)
    refine VC.region ?_
    refine VR.pure rfl rfl (p_moveI rfl) ?_
    refine VR.pure rfl rfl (p_moveL rfl) ?_
    refine VR.pure rfl rfl (p_len Try.underlying33 rfl) ?_
    refine VR.pure rfl rfl (p_lt rfl rfl) ?_
    refine VR.nil ?_
    repeat (first | refine VC.seq ?_ | refine VC.block ?_ | refine VC.skip ?_)
    refine VC.condD rfl (fun h20 => ?_) (fun h20 => ?_)
    · have hk' : k < W.length := by omega
      obtain ⟨x, hx, _⟩ := get_of (xs := W) (k := k) hk'
      obtain ⟨b9, off9, blk9, T9, fr9, rfl, hb9, hc9'⟩ := Row.get hr9 (by omega)
      have hcx := (hc9' k hk').trans (long_at hx)
      repeat (first | refine VC.seq ?_ | refine VC.block ?_ | refine VC.skip ?_)
      refine VC.meet (σ := Unit) (fun _ => [(1, .int .i64 (min now 1152921504606846976)), (2, .int .i64 back), (7, .pointer (some ⟨g, 0, none⟩)), (9, .slice (some ⟨b9, off9, none⟩) W.length c9), (10, .slice A10 Gs.length c10), (11, .slice A11 Ks.length c11), (12, .int .i64 ((W.take k).filter p).length), (13, .int .i64 ((W.take k).filter fun s => !p s).length), (14, .int .i64 k), (78, .bool false)])
        (fun _ w => Mem G3 w (bkB g m B2 ++ [])) ?_ ?_
      · by_cases hk0 : 0 < k
        · obtain ⟨y, hy, _⟩ := get_of (xs := W) (k := k - 1) (by omega)
          have hyx : y < x := by
            obtain ⟨i1, e1⟩ := List.getElem?_eq_some_iff.1 hx
            obtain ⟨i2, e2⟩ := List.getElem?_eq_some_iff.1 hy
            have := (List.pairwise_iff_getElem.1 hlt) (k - 1) k i2 i1 (by omega)
            omega
          repeat (first | refine VC.seq ?_ | refine VC.block ?_ | refine VC.skip ?_)
          refine VC.loud (Kept G3 []) [] rfl (by kernel_rfl) (Kept.of0 hm.drew) ?_
          replace hm := hm.drew
          refine VL.pure rfl rfl rfl (p_moveI rfl) ?_
          refine VL.pure rfl rfl rfl (p_gt rfl rfl) ?_
          refine VL.pure rfl rfl rfl (p_moveB rfl) ?_
          refine VL.knownT 81 rfl (decide_eq_true (by omega)) ?_
          refine VL.pureG rfl rfl rfl (p_moveL rfl) ?_
          refine VL.pureG rfl rfl rfl (p_moveI rfl) ?_
          refine VL.pureG rfl rfl rfl (p_idx1 Try.underlying33 Try.sizeOf2 rfl rfl hk') ?_
          refine VL.readG rfl rfl rfl (fun w' hw' => r_load (v := .int _ _) Try.isAgg2 rfl (hw'.fix _ _ hb9) hcx) ?_
          refine VL.pureG rfl rfl rfl (p_moveL rfl) ?_
          refine VL.pureG rfl rfl rfl (p_moveI rfl) ?_
          refine VL.pureG rfl rfl rfl (p_sub64E (r := ((k - 1 : Nat) : Int)) rfl rfl (by omega) (by omega)) ?_
          refine VL.pureG rfl rfl rfl (p_idx1 Try.underlying33 Try.sizeOf2 rfl rfl (by omega)) ?_
          refine VL.readG rfl rfl rfl (fun w' hw' => r_load (v := .int _ _) Try.isAgg2 rfl (hw'.fix _ _ hb9) ((hc9' (k - 1) (by omega)).trans (long_at hy))) ?_
          refine VL.pureG rfl rfl rfl (p_le rfl rfl) ?_
          refine VL.pure rfl rfl rfl (p_pickT rfl rfl) ?_
          refine VL.pure rfl rfl rfl (p_assignB rfl) ?_
          refine VL.nil ?_
          exact ⟨(), ⟨rfl, rfl, rfl, rfl, rfl, rfl, rfl, rfl, rfl, congrArg Value.bool (decide_eq_false (by omega)), trivial⟩, hm⟩
        · repeat (first | refine VC.seq ?_ | refine VC.block ?_ | refine VC.skip ?_)
          refine VC.loud (Kept G3 []) [] rfl (by kernel_rfl) (Kept.of0 hm.drew) ?_
          replace hm := hm.drew
          refine VL.pure rfl rfl rfl (p_moveI rfl) ?_
          refine VL.pure rfl rfl rfl (p_gt rfl rfl) ?_
          refine VL.pure rfl rfl rfl (p_moveB rfl) ?_
          refine VL.knownF 81 rfl (decide_eq_false (by omega)) ?_
          refine VL.pass rfl rfl ?_
          refine VL.pass rfl rfl ?_
          refine VL.pass rfl rfl ?_
          refine VL.pass rfl rfl ?_
          refine VL.pass rfl rfl ?_
          refine VL.pass rfl rfl ?_
          refine VL.pass rfl rfl ?_
          refine VL.pass rfl rfl ?_
          refine VL.pass rfl rfl ?_
          refine VL.pass rfl rfl ?_
          refine VL.pure rfl rfl rfl (p_pickF rfl rfl) ?_
          refine VL.pure rfl rfl rfl (p_assignB rfl) ?_
          refine VL.nil ?_
          exact ⟨(), ⟨rfl, rfl, rfl, rfl, rfl, rfl, rfl, rfl, rfl, rfl, trivial⟩, hm⟩
      clear hm
      rintro _ A4 w hm
      repeat (first | refine VC.seq ?_ | refine VC.block ?_ | refine VC.skip ?_)
      refine VC.condF rfl rfl ?_
      have hgl : ((W.take k).filter p).length ≤ Gs.length := by
        rw [← hGs]
        exact ((List.take_sublist k W).filter p).length_le
      have hkl : ((W.take k).filter fun s => !p s).length ≤ Ks.length := by
        rw [← hKs]
        exact ((List.take_sublist k W).filter _).length_le
      cases hp : p x
      · have hq : (fun s => !p s) x = true := by
          show (!p x) = true
          rw [hp]
          rfl
        obtain ⟨h1, h2⟩ := filter_at (p := fun s => !p s) hx hq
        have h3 := filter_no hx hp
        rw [hKs] at h1
        have hkl' := (List.getElem?_eq_some_iff.1 h1).1
        repeat (first | refine VC.seq ?_ | refine VC.block ?_ | refine VC.skip ?_)
        refine VC.meet (σ := Unit) (fun _ => [(1, .int .i64 (min now 1152921504606846976)), (2, .int .i64 back), (7, .pointer (some ⟨g, 0, none⟩)), (9, .slice (some ⟨b9, off9, none⟩) W.length c9), (10, .slice A10 Gs.length c10), (11, .slice A11 Ks.length c11), (12, .int .i64 ((W.take k).filter p).length), (13, .int .i64 ((W.take k).filter fun s => !p s).length), (14, .int .i64 k), (93, .bool false)]) (fun _ w => Mem G3 w (bkB g m B2 ++ [])) ?_ ?_
        · by_cases hg : ((W.take k).filter p).length < Gs.length
          · obtain ⟨z, hz, hzm⟩ := get_of (xs := Gs) hg
            have hzp : p z = true := by
              rw [← hGs] at hzm
              exact (List.mem_filter.1 hzm).2
            have hzx : z ≠ x := fun e => by
              rw [e, hp] at hzp
              cases hzp
            obtain ⟨b10, off10, blk10, T10, fr10, rfl, hb10, hc10'⟩ := Row.get hr10 (by omega)
            repeat (first | refine VC.seq ?_ | refine VC.block ?_ | refine VC.skip ?_)
            refine VC.loud (Kept G3 []) [] rfl (by kernel_rfl) (Kept.of0 hm.drew) ?_
            replace hm := hm.drew
            refine VL.pure rfl rfl rfl (p_moveI rfl) ?_
            refine VL.pure rfl rfl rfl (p_moveL rfl) ?_
            refine VL.pure rfl rfl rfl (p_len Try.underlying33 rfl) ?_
            refine VL.pure rfl rfl rfl (p_lt rfl rfl) ?_
            refine VL.pure rfl rfl rfl (p_moveB rfl) ?_
            refine VL.knownT 98 rfl (decide_eq_true (by omega)) ?_
            refine VL.pureG rfl rfl rfl (p_moveL rfl) ?_
            refine VL.pureG rfl rfl rfl (p_moveI rfl) ?_
            refine VL.pureG rfl rfl rfl (p_idx1 Try.underlying33 Try.sizeOf2 rfl rfl hg) ?_
            refine VL.readG rfl rfl rfl (fun w' hw' => r_load (v := .int _ _) Try.isAgg2 rfl (hw'.fix _ _ hb10) ((hc10' _ hg).trans (long_at hz))) ?_
            refine VL.pureG rfl rfl rfl (p_moveL rfl) ?_
            refine VL.pureG rfl rfl rfl (p_moveI rfl) ?_
            refine VL.pureG rfl rfl rfl (p_idx1 Try.underlying33 Try.sizeOf2 rfl rfl hk') ?_
            refine VL.readG rfl rfl rfl (fun w' hw' => r_load (v := .int _ _) Try.isAgg2 rfl (hw'.fix _ _ hb9) hcx) ?_
            refine VL.pureG rfl rfl rfl (p_eq rfl rfl) ?_
            refine VL.pure rfl rfl rfl (p_pickT rfl rfl) ?_
            refine VL.pure rfl rfl rfl (p_assignB rfl) ?_
            refine VL.nil ?_
            exact ⟨(), ⟨rfl, rfl, rfl, rfl, rfl, rfl, rfl, rfl, rfl, congrArg Value.bool (decide_eq_false hzx), trivial⟩, hm⟩
          · repeat (first | refine VC.seq ?_ | refine VC.block ?_ | refine VC.skip ?_)
            refine VC.loud (Kept G3 []) [] rfl (by kernel_rfl) (Kept.of0 hm.drew) ?_
            replace hm := hm.drew
            refine VL.pure rfl rfl rfl (p_moveI rfl) ?_
            refine VL.pure rfl rfl rfl (p_moveL rfl) ?_
            refine VL.pure rfl rfl rfl (p_len Try.underlying33 rfl) ?_
            refine VL.pure rfl rfl rfl (p_lt rfl rfl) ?_
            refine VL.pure rfl rfl rfl (p_moveB rfl) ?_
            refine VL.knownF 98 rfl (decide_eq_false (by omega)) ?_
            refine VL.pass rfl rfl ?_
            refine VL.pass rfl rfl ?_
            refine VL.pass rfl rfl ?_
            refine VL.pass rfl rfl ?_
            refine VL.pass rfl rfl ?_
            refine VL.pass rfl rfl ?_
            refine VL.pass rfl rfl ?_
            refine VL.pass rfl rfl ?_
            refine VL.pass rfl rfl ?_
            refine VL.pure rfl rfl rfl (p_pickF rfl rfl) ?_
            refine VL.pure rfl rfl rfl (p_assignB rfl) ?_
            refine VL.nil ?_
            exact ⟨(), ⟨rfl, rfl, rfl, rfl, rfl, rfl, rfl, rfl, rfl, rfl, trivial⟩, hm⟩
        clear hm
        rintro _ A5 w hm
        repeat (first | refine VC.seq ?_ | refine VC.block ?_ | refine VC.skip ?_)
        refine VC.condF rfl rfl ?_
        obtain ⟨b11, off11, blk11, T11, fr11, rfl, hb11, hc11'⟩ := Row.get hr11 (by omega)
        repeat (first | refine VC.seq ?_ | refine VC.block ?_ | refine VC.skip ?_)
        refine VC.loud (Kept G3 []) [] rfl (by kernel_rfl) (Kept.of0 hm.drew) ?_
        replace hm := hm.drew
        refine VL.pure rfl rfl rfl (p_moveI rfl) ?_
        refine VL.pure rfl rfl rfl (p_moveL rfl) ?_
        refine VL.pure rfl rfl rfl (p_len Try.underlying33 rfl) ?_
        refine VL.pure rfl rfl rfl (p_lt rfl rfl) ?_
        refine VL.pure rfl rfl rfl (p_moveB rfl) ?_
        refine VL.knownT 116 rfl (decide_eq_true (by omega)) ?_
        refine VL.pureG rfl rfl rfl (p_moveL rfl) ?_
        refine VL.pureG rfl rfl rfl (p_moveI rfl) ?_
        refine VL.pureG rfl rfl rfl (p_idx1 Try.underlying33 Try.sizeOf2 rfl rfl hkl') ?_
        refine VL.readG rfl rfl rfl (fun w' hw' => r_load (v := .int _ _) Try.isAgg2 rfl (hw'.fix _ _ hb11) ((hc11' _ hkl').trans (long_at h1))) ?_
        refine VL.pureG rfl rfl rfl (p_moveL rfl) ?_
        refine VL.pureG rfl rfl rfl (p_moveI rfl) ?_
        refine VL.pureG rfl rfl rfl (p_idx1 Try.underlying33 Try.sizeOf2 rfl rfl hk') ?_
        refine VL.readG rfl rfl rfl (fun w' hw' => r_load (v := .int _ _) Try.isAgg2 rfl (hw'.fix _ _ hb9) hcx) ?_
        refine VL.pureG rfl rfl rfl (p_eq rfl rfl) ?_
        refine VL.pure rfl rfl rfl (p_pickT rfl rfl) ?_
        refine VL.pure rfl rfl rfl (p_assignB rfl) ?_
        refine VL.nil ?_
        repeat (first | refine VC.seq ?_ | refine VC.block ?_ | refine VC.skip ?_)
        refine VC.condT rfl (decide_eq_true rfl) ?_
        repeat (first | refine VC.seq ?_ | refine VC.block ?_ | refine VC.skip ?_)
        refine VC.region ?_
        refine VR.pure rfl rfl (p_moveI rfl) ?_
        refine VR.pure rfl rfl (p_add64 rfl rfl (by omega)) ?_
        refine VR.pure rfl rfl (p_assignI rfl) ?_
        refine VR.nil ?_
        repeat (first | refine VC.seq ?_ | refine VC.block ?_ | refine VC.skip ?_)
        repeat (first | refine VC.seq ?_ | refine VC.block ?_ | refine VC.skip ?_)
        refine VC.region ?_
        refine VR.pure rfl rfl (p_moveI rfl) ?_
        refine VR.pure rfl rfl (p_add64 rfl rfl (by omega)) ?_
        refine VR.pure rfl rfl (p_assignI rfl) ?_
        refine VR.nil ?_
        refine ⟨k + 1, ⟨rfl, rfl, rfl, rfl, rfl, rfl, congrArg (fun q : Nat => Value.int .i64 q) h3.symm, congrArg (fun q : Nat => Value.int .i64 q) h2.symm, rfl, trivial⟩, ⟨hm, by omega⟩, by omega⟩
      · have hq : (fun s => !p s) x = false := by
          show (!p x) = false
          rw [hp]
          rfl
        obtain ⟨h1, h2⟩ := filter_at hx hp
        have h3 := filter_no (p := fun s => !p s) hx hq
        rw [hGs] at h1
        have hgl' := (List.getElem?_eq_some_iff.1 h1).1
        obtain ⟨b10, off10, blk10, T10, fr10, rfl, hb10, hc10'⟩ := Row.get hr10 (by omega)
        repeat (first | refine VC.seq ?_ | refine VC.block ?_ | refine VC.skip ?_)
        refine VC.loud (Kept G3 []) [] rfl (by kernel_rfl) (Kept.of0 hm.drew) ?_
        replace hm := hm.drew
        refine VL.pure rfl rfl rfl (p_moveI rfl) ?_
        refine VL.pure rfl rfl rfl (p_moveL rfl) ?_
        refine VL.pure rfl rfl rfl (p_len Try.underlying33 rfl) ?_
        refine VL.pure rfl rfl rfl (p_lt rfl rfl) ?_
        refine VL.pure rfl rfl rfl (p_moveB rfl) ?_
        refine VL.knownT 98 rfl (decide_eq_true (by omega)) ?_
        refine VL.pureG rfl rfl rfl (p_moveL rfl) ?_
        refine VL.pureG rfl rfl rfl (p_moveI rfl) ?_
        refine VL.pureG rfl rfl rfl (p_idx1 Try.underlying33 Try.sizeOf2 rfl rfl hgl') ?_
        refine VL.readG rfl rfl rfl (fun w' hw' => r_load (v := .int _ _) Try.isAgg2 rfl (hw'.fix _ _ hb10) ((hc10' _ hgl').trans (long_at h1))) ?_
        refine VL.pureG rfl rfl rfl (p_moveL rfl) ?_
        refine VL.pureG rfl rfl rfl (p_moveI rfl) ?_
        refine VL.pureG rfl rfl rfl (p_idx1 Try.underlying33 Try.sizeOf2 rfl rfl hk') ?_
        refine VL.readG rfl rfl rfl (fun w' hw' => r_load (v := .int _ _) Try.isAgg2 rfl (hw'.fix _ _ hb9) hcx) ?_
        refine VL.pureG rfl rfl rfl (p_eq rfl rfl) ?_
        refine VL.pure rfl rfl rfl (p_pickT rfl rfl) ?_
        refine VL.pure rfl rfl rfl (p_assignB rfl) ?_
        refine VL.nil ?_
        repeat (first | refine VC.seq ?_ | refine VC.block ?_ | refine VC.skip ?_)
        refine VC.condT rfl (decide_eq_true rfl) ?_
        repeat (first | refine VC.seq ?_ | refine VC.block ?_ | refine VC.skip ?_)
        refine VC.region ?_
        refine VR.pure rfl rfl (p_moveI rfl) ?_
        refine VR.pure rfl rfl (p_add64 rfl rfl (by omega)) ?_
        refine VR.pure rfl rfl (p_assignI rfl) ?_
        refine VR.nil ?_
        repeat (first | refine VC.seq ?_ | refine VC.block ?_ | refine VC.skip ?_)
        repeat (first | refine VC.seq ?_ | refine VC.block ?_ | refine VC.skip ?_)
        refine VC.region ?_
        refine VR.pure rfl rfl (p_moveI rfl) ?_
        refine VR.pure rfl rfl (p_add64 rfl rfl (by omega)) ?_
        refine VR.pure rfl rfl (p_assignI rfl) ?_
        refine VR.nil ?_
        refine ⟨k + 1, ⟨rfl, rfl, rfl, rfl, rfl, rfl, congrArg (fun q : Nat => Value.int .i64 q) h2.symm, congrArg (fun q : Nat => Value.int .i64 q) h3.symm, rfl, trivial⟩, ⟨hm, by omega⟩, by omega⟩
    · repeat (first | refine VC.seq ?_ | refine VC.block ?_ | refine VC.skip ?_)
      refine VC.exit ?_
      clear hr9 hr10 hlt hsum
      repeat (first | refine VC.seq ?_ | refine VC.block ?_ | refine VC.skip ?_)
      refine VC.region ?_
      refine VR.pure rfl rfl (p_moveP rfl) ?_
      refine VR.pure rfl rfl (p_moveI rfl) ?_
      refine VR.pure rfl rfl (p_moveI rfl) ?_
      refine VR.pure rfl rfl (p_min rfl rfl) ?_
      refine VR.call rfl rfl (r_call2 Try.call14 rfl rfl) (tickK (Ls := []) hm hB2 e2 hlen2 hgone2 hback.2) ?_
      rintro _ w ⟨A4, c4, G4, B4, rfl, hc4, hd4, hu5, hr4, e4, hB4, hm⟩
      refine VR.pure rfl rfl (p_len Try.underlying33 rfl) ?_
      refine VR.pure rfl rfl (p_eq rfl rfl) ?_
      refine VR.pure rfl rfl (p_moveB rfl) ?_
      refine VR.knownT 136 rfl (decide_eq_true rfl) ?_
      refine VR.pureG rfl rfl (p_moveP rfl) ?_
      refine VR.callG rfl rfl (r_call1 Try.call16 rfl) (allK (Ls := []) hm hB4 e4 hlen2 hKs2) ?_
      rintro _ w ⟨A6, c6, G6, rfl, hc6, hd6, hu6, hr6, hm⟩
      refine VR.pureG rfl rfl (p_moveL rfl) ?_
      refine VR.callG rfl rfl (r_call2 Try.call15 rfl rfl) (same_longs_c hm (by unfold maxLen; omega) hr6 ((hr11.mono hu5.heap).mono hu6.heap)) ?_
      rintro _ w ⟨rfl, hm⟩
      refine VR.pure rfl rfl (p_pickT rfl rfl) ?_
      refine VR.pure rfl rfl (p_assignB rfl) ?_
      refine VR.nil ?_
      repeat (first | refine VC.seq ?_ | refine VC.block ?_ | refine VC.skip ?_)
      refine VC.ret ⟨_, ResOf.r1 (v := .bool _) rfl rfl, ?_⟩
      exact ⟨congrArg Value.bool (decide_eq_true rfl), (hm.subF (by simp)).shrink ((hu4.trans hu5).trans hu6)⟩
end Go.Bd
namespace Go.Proofs.Ytknmjfdemfknaaa
open Go.Bd Go.ChangeShapes Go.WideShapes

set_option maxRecDepth 100000 in
theorem once_lifted (os : Os) (started : os.Started) (H : Type) (enc : TypeId × Value → H) :
    ReturnsInHanded {} Try.checked os 5 .any (Rows.sittingOnceSpec.pre6 enc Try.prog Try.f5 Rows.sittingOnceRow.domain false) (Rows.sittingOnceSpec.post enc Try.prog Try.f5 false true false false) := by
  refine law_frame (C := Try.checked) (tb := 4) (by kernel_rfl) (by kernel_rfl) started (by kernel_rfl) Try.func5 rfl rfl Try.underlying4 (by kernel_rfl) ?_
    (ChangeSpec.witness6 (enc := enc) (C := Try.checked) false ⟨#[], #[.slice none 0 0, .int .i64 0, .int .i64 0], []⟩ 8 (by kernel_rfl) (by kernel_rfl) (by kernel_rfl) (by kernel_rfl)) ?_
  · intro ds hl
    match ds, hl with
    | [d1, d2, d3], _ => rfl
  · intro W base args ds p hval hA hwt
    replace hA : DataW.TrodAll enc Try.prog W 0 (fun _ => true) true Try.f5.params.toList args.toList ds p := hA
    rw [Try.params5] at hA hval
    replace hwt : (DataW.weightsEach Try.prog [22, 2, 2] ds).all (· ≤ reachBytes) = true := hwt
    obtain ⟨v0, vs0, d0, ds0, p0, q0, hargs, rfl, rfl, h0, r0⟩ := trodAll_cons hA
    obtain ⟨v1, vs1, d1, ds1, p1, q1, rfl, rfl, rfl, h1, r1⟩ := trodAll_cons r0
    obtain ⟨v2, vs2, d2, ds2, p2, q2, rfl, rfl, rfl, h2, r2⟩ := trodAll_cons r1
    obtain ⟨rfl, rfl, rfl⟩ := trodAll_nil r2
    obtain rfl : args = #[v0, v1, v2] := by cases args; simp_all
    obtain ⟨a1, rfl, _, _, w1⟩ := open_int Try.underlying2 (hval 1 2 v1 rfl rfl) h1
    obtain ⟨a2, rfl, _, _, w2⟩ := open_int Try.underlying2 (hval 2 2 v2 rfl rfl) h2
    obtain ⟨_, _, _, rfl⟩ := okWide_slice Try.underlying22 (hval 0 22 v0 rfl rfl)
    obtain ⟨fuel, hf⟩ := h0
    obtain ⟨A, n, c, xs, e1, hnc, hcm, _, hr, hx, hxl⟩ := open_rows (cells := Dd.cells) (Q := fun _ => True) Try.underlying22 cel29 (by decide) Dd.len open_do hf (LightAll.cons hwt).1
    simp [Value.cells] at e1
    obtain ⟨rfl, rfl, rfl⟩ := e1
    exact sitting_once_c (Mem.of W) ⟨hnc, hcm⟩ hr hxl

theorem once : Rows.SittingOnceSaid :=
  OpenClaim.holds_of_wide 5 Try.f5 rfl rfl rfl rfl rfl rfl rfl ⟨rfl, rfl, rfl, rfl, rfl⟩ rfl rfl rfl rfl rfl (by kernel_rfl) Try.func5 (by kernel_rfl)
    (of_decide_eq_true (by kernel_rfl)) (by unfold Func.isWrapper; rw [if_neg (of_decide_eq_false (by kernel_rfl))]; exact ⟨rfl, rfl⟩)
    (fun os started H enc _ => once_lifted os started H enc)
end Go.Proofs.Ytknmjfdemfknaaa
