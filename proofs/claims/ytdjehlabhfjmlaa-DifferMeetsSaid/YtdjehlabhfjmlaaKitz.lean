/- Contracts of what the statements share, at lists of zxids: marks, lent, kept, copied. Conditions: as each states. -/
import Derived.Test.YtdjehlabhfjmlaaNew
import Derived.Test.YtdjehlabhfjmlaaFacts
namespace Go.Bd
open Go.Proofs
set_option linter.unusedVariables false

theorem ints_one {K : IntKind} (xs : List Int) : ∀ u ∈ xs.map (Value.int K), u.oneCell' = true := by
  intro u hu
  obtain ⟨x, _, rfl⟩ := List.mem_map.1 hu
  rfl

theorem mark1_c {w : World} {i : Int} (h0 : 0 ≤ i ∧ i ≤ 1000000000000) : Calls Try.prog 18 #[.int .i64 1, .int .i64 i] w (Ret fun v w' => v = .int .i64 (8000024 + i) ∧ w' = w) := by
  refine Calls.of_vc Try.func18 rfl Try.ntmps18 rfl ?_
  repeat (first | refine VC.seq ?_ | refine VC.block ?_ | refine VC.skip ?_)
  refine VC.region ?_
  refine VR.pure rfl rfl (p_assignI rfl) ?_
  refine VR.nil ?_
  repeat (first | refine VC.seq ?_ | refine VC.block ?_ | refine VC.skip ?_)
  refine VC.region ?_
  refine VR.pure rfl rfl (p_moveI rfl) ?_
  refine VR.pure rfl rfl (p_add64 rfl rfl (by omega)) ?_
  refine VR.pure rfl rfl (p_mul64 rfl rfl (by omega)) ?_
  refine VR.pure rfl rfl (p_moveI rfl) ?_
  refine VR.pure rfl rfl (p_add64 rfl rfl (by omega)) ?_
  refine VR.pure rfl rfl (p_assignI rfl) ?_
  refine VR.nil ?_
  repeat (first | refine VC.seq ?_ | refine VC.block ?_ | refine VC.skip ?_)
  refine VC.ret ⟨_, ResOf.r1 (v := .int _ _) rfl rfl, ?_⟩
  exact ⟨rfl, rfl⟩

def marks : Nat → List Int
  | 0 => []
  | i + 1 => marks i ++ [8000024 + (i : Int)]

theorem marks_len : ∀ i, (marks i).length = i
  | 0 => rfl
  | i + 1 => by simp [marks, marks_len i]

theorem marks_getD : ∀ {m j : Nat}, j < m → (marks m).getD j 0 = 8000024 + (j : Int)
  | 0, j, h => by omega
  | m + 1, j, h => by
    unfold marks
    by_cases e : j < m
    · rw [List.getD_eq_getElem?_getD, List.getElem?_append_left (by rw [marks_len]; exact e), ← List.getD_eq_getElem?_getD, marks_getD e]
    · obtain rfl : j = m := by omega
      rw [List.getD_eq_getElem?_getD, List.getElem?_append_right (by rw [marks_len]; omega), marks_len, Nat.sub_self]
      rfl

theorem copy_zxids_c {F : Env} {w : World} {Ls : List Blks} {A : Option Addr} {n c : Nat} {xs : List Int} (hm : Mem F w Ls) (hn : n * 8 ≤ 140737488355328) (hr : Row F.heap A n (xs.map (Value.int .i64))) :
    Calls Try.prog 20 #[.slice A n c] w (Ret fun v w' => ∃ A' c' L, v = .slice A' n c' ∧ OwnS 22 1 A' n c' (xs.map (Value.int .i64)) L ∧ Mem F w' (L :: Ls)) := by
  have hr1 : Row F.heap A (n * 1) (xs.map (Value.int .i64)) := by rw [Nat.mul_one]; exact hr
  refine Calls.of_vc Try.func20 rfl Try.ntmps20 rfl ?_
  repeat (first | refine VC.seq ?_ | refine VC.block ?_ | refine VC.skip ?_)
  refine VC.region ?_
  refine VR.pure rfl rfl (p_assignL rfl) ?_
  refine VR.nil ?_
  repeat (first | refine VC.seq ?_ | refine VC.block ?_ | refine VC.skip ?_)
  refine VC.region ?_
  refine VR.pure rfl rfl (p_assignL rfl) ?_
  refine VR.nil ?_
  replace hm := hm.nil_
  repeat (first | refine VC.seq ?_ | refine VC.block ?_ | refine VC.skip ?_)
  refine VC.region ?_
  refine VR.pure rfl rfl (p_moveL rfl) ?_
  refine VR.pure rfl rfl (p_moveL rfl) ?_
  refine VR.append (s := 1) (bytes := 8) Try.underlying23 inf22 rfl rfl rfl rfl rfl rfl rfl rfl rfl hm (OwnS.nil _ _) (hr1.mono hm.fix) (ints_one xs) (Nat.zero_add n) ⟨by unfold maxLen; omega, by omega⟩ ?_
  intro A' c' w' L' ho' hm'
  refine VR.pure rfl rfl (p_assignL rfl) ?_
  refine VR.nil ?_
  repeat (first | refine VC.seq ?_ | refine VC.block ?_ | refine VC.skip ?_)
  refine VC.ret ⟨_, ResOf.r1 (v := .slice _ _ _) rfl rfl, ?_⟩
  exact ⟨A', c', L', rfl, ho', hm'⟩

theorem marks_succ (xs : List Int) (k : Nat) : (xs ++ marks k).map (Value.int .i64) ++ [.int .i64 (8000024 + (k : Int))] = (xs ++ marks (k + 1)).map (Value.int .i64) := by
  simp [marks]

theorem lent_zxids_c {F : Env} {w : World} {Ls : List Blks} {A : Option Addr} {n c : Nat} {xs : List Int} (hm : Mem F w Ls) (hn : n * 8 ≤ 140737488351232) (hr : Row F.heap A n (xs.map (Value.int .i64))) :
    Calls Try.prog 8 #[.slice A n c] w (Ret fun v w' => ∃ A' c' L, v = .slice A' n c' ∧ OwnS 22 1 A' (n + 12) c' ((xs ++ marks 12).map (Value.int .i64)) L ∧ Mem F w' (L :: Ls)) := by
  have hr1 : Row F.heap A (n * 1) (xs.map (Value.int .i64)) := by rw [Nat.mul_one]; exact hr
  refine Calls.of_vc Try.func8 rfl Try.ntmps8 rfl ?_
  repeat (first | refine VC.seq ?_ | refine VC.block ?_ | refine VC.skip ?_)
  refine VC.region ?_
  refine VR.pure rfl rfl (p_assignL rfl) ?_
  refine VR.nil ?_
  repeat (first | refine VC.seq ?_ | refine VC.block ?_ | refine VC.skip ?_)
  refine VC.region ?_
  refine VR.pure rfl rfl (p_moveL rfl) ?_
  refine VR.pure rfl rfl (p_len Try.underlying23 rfl) ?_
  refine VR.pure rfl rfl (p_add64 rfl rfl (by omega)) ?_
  refine VR.new hm rfl rfl (n_makeSlice (s := 1) (bytes := 8) Try.underlying23 inf22 rfl rfl rfl rfl rfl (by omega) (by omega)) ?_
  intro g w hm
  refine VR.pure rfl rfl (p_assignL rfl) ?_
  refine VR.nil ?_
  have ho : OwnS 22 1 (some ⟨g, 0, none⟩) 0 (n + 12) [] [(g, .cells (madeCells (Value.int .i64 0).cells ((n + 12) * 1)) 22 (0, 0))] := OwnS.made (by unfold maxLen; omega) (by rw [size_madeCells])
  repeat (first | refine VC.seq ?_ | refine VC.block ?_ | refine VC.skip ?_)
  refine VC.region ?_
  refine VR.pure rfl rfl (p_moveL rfl) ?_
  refine VR.pure rfl rfl (p_moveL rfl) ?_
  refine VR.append (s := 1) (bytes := 8) Try.underlying23 inf22 rfl rfl rfl rfl rfl rfl rfl rfl rfl hm ho (hr1.mono hm.fix) (ints_one xs) (Nat.zero_add n) ⟨by unfold maxLen; omega, by omega⟩ ?_
  intro A1 c1 w L1 ho hm
  refine VR.pure rfl rfl (p_assignL rfl) ?_
  refine VR.nil ?_
  repeat (first | refine VC.seq ?_ | refine VC.block ?_ | refine VC.skip ?_)
  refine VC.region ?_
  refine VR.pure rfl rfl (p_assignI rfl) ?_
  refine VR.nil ?_
  repeat (first | refine VC.seq ?_ | refine VC.block ?_ | refine VC.skip ?_)
  refine VC.loop (σ := Nat × Option Addr × Nat × Blks) (fun s => [(0, .slice A n c), (3, .slice s.2.1 (n + s.1) s.2.2.1), (4, .int .i64 s.1)])
    (fun s w => Mem F w (s.2.2.2 :: Ls) ∧ OwnS 22 1 s.2.1 (n + s.1) s.2.2.1 ((xs ++ marks s.1).map (Value.int .i64)) s.2.2.2 ∧ s.1 ≤ 12) (fun s => 12 - s.1) (0, A1, c1, L1) ⟨rfl, rfl, rfl, trivial⟩ ⟨hm, by simpa [marks] using ho, by omega⟩ ?_
  rintro ⟨k, A2, c2, L2⟩ A' w ⟨hm, ho, hk⟩
  dsimp only at hm ho hk ⊢
  repeat (first | refine VC.seq ?_ | refine VC.block ?_ | refine VC.skip ?_)
  refine VC.region ?_
  refine VR.pure rfl rfl (p_moveI rfl) ?_
  refine VR.pure rfl rfl (p_lt rfl rfl) ?_
  refine VR.nil ?_
  repeat (first | refine VC.seq ?_ | refine VC.block ?_ | refine VC.skip ?_)
  refine VC.condD rfl (fun h => ?_) (fun h => ?_)
  · have hk' : k < 12 := by omega
    repeat (first | refine VC.seq ?_ | refine VC.block ?_ | refine VC.skip ?_)
    refine VC.region ?_
    refine VR.pure rfl rfl (p_moveL rfl) ?_
    refine VR.pure rfl rfl (p_moveI rfl) ?_
    refine VR.call rfl rfl (r_call2 Try.call18 rfl rfl) (mark1_c (by omega)) ?_
    rintro _ _ ⟨rfl, rfl⟩
    refine VR.new hm rfl rfl (n_buildSlice1 (vs := [.int _ _]) Try.underlying23 inf22 rfl rfl rfl rfl rfl rfl rfl) ?_
    intro g w hm
    replace hm := hm.swap
    refine VR.append (s := 1) (bytes := 8) Try.underlying23 inf22 rfl rfl rfl rfl rfl rfl rfl rfl rfl hm ho (Row.lit (cs := [.int .i64 (8000024 + (k : Int))]) (hm.at_ 1 0 rfl)) (by simp [Value.oneCell']) rfl ⟨by unfold maxLen; omega, by omega⟩ ?_
    intro A3 c3 w L3 ho hm
    refine VR.pure rfl rfl (p_assignL rfl) ?_
    refine VR.nil ?_
    repeat (first | refine VC.seq ?_ | refine VC.block ?_ | refine VC.skip ?_)
    refine VC.region ?_
    refine VR.pure rfl rfl (p_moveI rfl) ?_
    refine VR.pure rfl rfl (p_add64 rfl rfl (by omega)) ?_
    refine VR.pure rfl rfl (p_assignI rfl) ?_
    refine VR.nil ?_
    rw [marks_succ] at ho
    exact ⟨(k + 1, A3, c3, L3), ⟨rfl, rfl, rfl, trivial⟩, ⟨hm.swap.pop, ho, by simp only; omega⟩, by simp only; omega⟩
  · repeat (first | refine VC.seq ?_ | refine VC.block ?_ | refine VC.skip ?_)
    refine VC.exit ?_
    have hk' : k = 12 := by omega
    subst hk'
    have hle := ho.le
    repeat (first | refine VC.seq ?_ | refine VC.block ?_ | refine VC.skip ?_)
    refine VC.region ?_
    refine VR.pure rfl rfl (p_moveL rfl) ?_
    refine VR.pure rfl rfl (p_moveL rfl) ?_
    refine VR.pure rfl rfl (p_len Try.underlying23 rfl) ?_
    refine VR.pure rfl rfl (p_sliceH Try.underlying23 Try.sizeOf22 rfl rfl (by omega)) ?_
    refine VR.pure rfl rfl (p_assignL rfl) ?_
    refine VR.nil ?_
    repeat (first | refine VC.seq ?_ | refine VC.block ?_ | refine VC.skip ?_)
    refine VC.ret ⟨_, ResOf.r1 (v := .slice _ _ _) rfl rfl, ?_⟩
    exact ⟨A2, c2, L2, rfl, ho, hm⟩

/-- Kept: what was lent is there, and so are the marks behind it. -/
theorem kept_zxids_c {F : Env} {w : World} {Ls : List Blks} {A B : Option Addr} {n c d : Nat} {xs : List Int} (hm : Mem F w Ls) (hn : n * 8 ≤ 140737488351232) (hc : n + 12 ≤ c)
    (hr : Row F.heap A (n + 12) ((xs ++ marks 12).map (Value.int .i64))) (hs : Row F.heap B n (xs.map (Value.int .i64))) :
    Calls Try.prog 11 #[.slice A n c, .slice B n d] w (Ret fun v w' => v = .bool true ∧ Mem F w' Ls) := by
  have hl : xs.length = n := by have := hs.len; rwa [List.length_map] at this
  refine Calls.of_vc Try.func11 rfl Try.ntmps11 rfl ?_
  repeat (first | refine VC.seq ?_ | refine VC.block ?_ | refine VC.skip ?_)
  refine VC.region ?_
  refine VR.pure rfl rfl (p_assignB rfl) ?_
  refine VR.nil ?_
  repeat (first | refine VC.seq ?_ | refine VC.block ?_ | refine VC.skip ?_)
  refine VC.region ?_
  refine VR.pure rfl rfl (p_moveL rfl) ?_
  refine VR.pure rfl rfl (p_len Try.underlying23 rfl) ?_
  refine VR.pure rfl rfl (p_moveL rfl) ?_
  refine VR.pure rfl rfl (p_len Try.underlying23 rfl) ?_
  refine VR.pure rfl rfl (p_ne rfl rfl) ?_
  refine VR.nil ?_
  repeat (first | refine VC.seq ?_ | refine VC.block ?_ | refine VC.skip ?_)
  refine VC.condF rfl (by simp) ?_
  repeat (first | refine VC.seq ?_ | refine VC.block ?_ | refine VC.skip ?_)
  refine VC.region ?_
  refine VR.pure rfl rfl (p_moveL rfl) ?_
  refine VR.pure rfl rfl (p_moveL rfl) ?_
  refine VR.pure rfl rfl (p_len Try.underlying23 rfl) ?_
  refine VR.pure rfl rfl (p_add64 rfl rfl (by omega)) ?_
  refine VR.pure rfl rfl (p_sliceH Try.underlying23 Try.sizeOf22 rfl rfl (by omega)) ?_
  refine VR.pure rfl rfl (p_assignL rfl) ?_
  refine VR.nil ?_
  repeat (first | refine VC.seq ?_ | refine VC.block ?_ | refine VC.skip ?_)
  refine VC.region ?_
  refine VR.pure rfl rfl (p_assignI rfl) ?_
  refine VR.nil ?_
  repeat (first | refine VC.seq ?_ | refine VC.block ?_ | refine VC.skip ?_)
  refine VC.loop (σ := Nat) (fun k => [(0, .slice A n c), (1, .slice B n d), (5, .slice A (n + 12) c), (6, .int .i64 k)]) (fun k w => Mem F w Ls ∧ k ≤ n + 12) (fun k => n + 12 - k) 0 ⟨rfl, rfl, rfl, rfl, trivial⟩ ⟨hm, by omega⟩ ?_
  rintro k A' w ⟨hm, hk⟩
  repeat (first | refine VC.seq ?_ | refine VC.block ?_ | refine VC.skip ?_)
  refine VC.region ?_
  refine VR.pure rfl rfl (p_moveI rfl) ?_
  refine VR.pure rfl rfl (p_moveL rfl) ?_
  refine VR.pure rfl rfl (p_len Try.underlying23 rfl) ?_
  refine VR.pure rfl rfl (p_lt rfl rfl) ?_
  refine VR.nil ?_
  repeat (first | refine VC.seq ?_ | refine VC.block ?_ | refine VC.skip ?_)
  refine VC.condD rfl (fun h => ?_) (fun h => ?_)
  · have hk' : k < n + 12 := by omega
    obtain ⟨b, off, blk, T, fr, rfl, hb, hcc⟩ := hr.get (by omega)
    by_cases hkn : k < n
    · obtain ⟨b2, off2, blk2, T2, fr2, rfl, hb2, hc2⟩ := hs.get (by omega)
      have e1 := int_at hcc hr.len hk'
      have e2 := int_at hc2 hs.len hkn
      have e3 : (xs ++ marks 12).getD k 0 = xs.getD k 0 := by
        rw [List.getD_eq_getElem?_getD, List.getD_eq_getElem?_getD, List.getElem?_append_left (by omega)]
      rw [e3] at e1
      repeat (first | refine VC.seq ?_ | refine VC.block ?_ | refine VC.skip ?_)
      refine VC.loud (Kept F []) [30] rfl (by kernel_rfl) (Kept.of0 hm.drew) ?_
      replace hm := hm.drew
      refine VL.pure rfl rfl rfl (p_moveI rfl) ?_
      refine VL.pure rfl rfl rfl (p_moveL rfl) ?_
      refine VL.pure rfl rfl rfl (p_len Try.underlying23 rfl) ?_
      refine VL.pure rfl rfl rfl (p_lt rfl rfl) ?_
      refine VL.pure rfl rfl rfl (p_moveB rfl) ?_
      refine VL.knownT 27 rfl (decide_eq_true (by omega)) ?_
      refine VL.pureG rfl rfl rfl (p_moveL rfl) ?_
      refine VL.pureG rfl rfl rfl (p_moveI rfl) ?_
      refine VL.pureG rfl rfl rfl (p_idx1 Try.underlying23 Try.sizeOf22 rfl rfl hk') ?_
      refine VL.readG rfl rfl rfl (fun w' hw' => r_load Try.isAgg22 rfl (hw'.fix _ _ hb) e1) ?_
      refine VL.pureG rfl rfl rfl (p_moveL rfl) ?_
      refine VL.pureG rfl rfl rfl (p_moveI rfl) ?_
      refine VL.pureG rfl rfl rfl (p_idx1 Try.underlying23 Try.sizeOf22 rfl rfl hkn) ?_
      refine VL.readG rfl rfl rfl (fun w' hw' => r_load Try.isAgg22 rfl (hw'.fix _ _ hb2) e2) ?_
      refine VL.pureG rfl rfl rfl (p_eq rfl rfl) ?_
      refine VL.pureG rfl rfl rfl (p_notD rfl) ?_
      refine VL.pure rfl rfl rfl (p_pickT rfl rfl) ?_
      refine VL.pure rfl rfl rfl (p_moveB rfl) ?_
      refine VL.knownF 39 rfl (by simp) ?_
      refine VL.pureG rfl rfl rfl (p_moveI rfl) ?_
      refine VL.pureG rfl rfl rfl (p_moveL rfl) ?_
      refine VL.pureG rfl rfl rfl (p_len Try.underlying23 rfl) ?_
      refine VL.pureG rfl rfl rfl (p_ge rfl rfl) ?_
      refine VL.pureG rfl rfl rfl (p_moveB rfl) ?_
      refine VL.knownF 44 rfl (decide_eq_false (by omega)) ?_
      refine VL.pass rfl rfl ?_
      refine VL.pass rfl rfl ?_
      refine VL.pass rfl rfl ?_
      refine VL.pass rfl rfl ?_
      refine VL.pass rfl rfl ?_
      refine VL.pass rfl rfl ?_
      refine VL.pass rfl rfl ?_
      refine VL.pass rfl rfl ?_
      refine VL.pass rfl rfl ?_
      refine VL.pass rfl rfl ?_
      refine VL.pass rfl rfl ?_
      refine VL.pureG rfl rfl rfl (p_pickF rfl rfl) ?_
      refine VL.pure rfl rfl rfl (p_pickF rfl rfl) ?_
      refine VL.nil ?_
      repeat (first | refine VC.seq ?_ | refine VC.block ?_ | refine VC.skip ?_)
      refine VC.condF rfl rfl ?_
      repeat (first | refine VC.seq ?_ | refine VC.block ?_ | refine VC.skip ?_)
      refine VC.region ?_
      refine VR.pure rfl rfl (p_moveI rfl) ?_
      refine VR.pure rfl rfl (p_add64 rfl rfl (by omega)) ?_
      refine VR.pure rfl rfl (p_assignI rfl) ?_
      refine VR.nil ?_
      exact ⟨k + 1, ⟨rfl, rfl, rfl, rfl, trivial⟩, ⟨hm, by omega⟩, by omega⟩
    · have e1 := int_at hcc hr.len hk'
      have e3 : (xs ++ marks 12).getD k 0 = 8000024 + ((k : Int) - n) := by
        rw [List.getD_eq_getElem?_getD, List.getElem?_append_right (by omega), hl, ← List.getD_eq_getElem?_getD, marks_getD (by omega)]
        omega
      rw [e3] at e1
      repeat (first | refine VC.seq ?_ | refine VC.block ?_ | refine VC.skip ?_)
      refine VC.loud (Kept F []) [30] rfl (by kernel_rfl) (Kept.of0 hm.drew) ?_
      replace hm := hm.drew
      refine VL.pure rfl rfl rfl (p_moveI rfl) ?_
      refine VL.pure rfl rfl rfl (p_moveL rfl) ?_
      refine VL.pure rfl rfl rfl (p_len Try.underlying23 rfl) ?_
      refine VL.pure rfl rfl rfl (p_lt rfl rfl) ?_
      refine VL.pure rfl rfl rfl (p_moveB rfl) ?_
      refine VL.knownF 27 rfl (decide_eq_false (by omega)) ?_
      refine VL.pass rfl rfl ?_
      refine VL.pass rfl rfl ?_
      refine VL.pass rfl rfl ?_
      refine VL.pass rfl rfl ?_
      refine VL.pass rfl rfl ?_
      refine VL.pass rfl rfl ?_
      refine VL.pass rfl rfl ?_
      refine VL.pass rfl rfl ?_
      refine VL.pass rfl rfl ?_
      refine VL.pass rfl rfl ?_
      refine VL.pure rfl rfl rfl (p_pickF rfl rfl) ?_
      refine VL.pure rfl rfl rfl (p_moveB rfl) ?_
      refine VL.knownF 39 rfl rfl ?_
      refine VL.pureG rfl rfl rfl (p_moveI rfl) ?_
      refine VL.pureG rfl rfl rfl (p_moveL rfl) ?_
      refine VL.pureG rfl rfl rfl (p_len Try.underlying23 rfl) ?_
      refine VL.pureG rfl rfl rfl (p_ge rfl rfl) ?_
      refine VL.pureG rfl rfl rfl (p_moveB rfl) ?_
      refine VL.knownT 44 rfl (decide_eq_true (by omega)) ?_
      refine VL.pureG rfl rfl rfl (p_moveL rfl) ?_
      refine VL.pureG rfl rfl rfl (p_moveI rfl) ?_
      refine VL.pureG rfl rfl rfl (p_idx1 Try.underlying23 Try.sizeOf22 rfl rfl hk') ?_
      refine VL.readG rfl rfl rfl (fun w' hw' => r_load Try.isAgg22 rfl (hw'.fix _ _ hb) e1) ?_
      refine VL.pureG rfl rfl rfl (p_moveI rfl) ?_
      refine VL.pureG rfl rfl rfl (p_moveL rfl) ?_
      refine VL.pureG rfl rfl rfl (p_len Try.underlying23 rfl) ?_
      refine VL.pureG rfl rfl rfl (p_sub64 rfl rfl (by omega)) ?_
      refine VL.callG rfl rfl rfl (r_call2 Try.call18 rfl rfl) (mark1_c (by omega)) ?_
      rintro _ _ ⟨rfl, rfl⟩
      refine ⟨Kept.of0 hm, ?_⟩
      refine VL.pureG rfl rfl rfl (p_eq rfl rfl) ?_
      refine VL.pureG rfl rfl rfl (p_notD rfl) ?_
      refine VL.pureG rfl rfl rfl (p_pickT rfl rfl) ?_
      refine VL.pure rfl rfl rfl (p_pickF rfl rfl) ?_
      refine VL.nil ?_
      repeat (first | refine VC.seq ?_ | refine VC.block ?_ | refine VC.skip ?_)
      refine VC.condF rfl (by simp) ?_
      repeat (first | refine VC.seq ?_ | refine VC.block ?_ | refine VC.skip ?_)
      refine VC.region ?_
      refine VR.pure rfl rfl (p_moveI rfl) ?_
      refine VR.pure rfl rfl (p_add64 rfl rfl (by omega)) ?_
      refine VR.pure rfl rfl (p_assignI rfl) ?_
      refine VR.nil ?_
      exact ⟨k + 1, ⟨rfl, rfl, rfl, rfl, trivial⟩, ⟨hm, by omega⟩, by omega⟩
  · repeat (first | refine VC.seq ?_ | refine VC.block ?_ | refine VC.skip ?_)
    refine VC.exit ?_
    repeat (first | refine VC.seq ?_ | refine VC.block ?_ | refine VC.skip ?_)
    refine VC.region ?_
    refine VR.pure rfl rfl (p_assignB rfl) ?_
    refine VR.nil ?_
    repeat (first | refine VC.seq ?_ | refine VC.block ?_ | refine VC.skip ?_)
    refine VC.ret ⟨_, ResOf.r1 (v := .bool _) rfl rfl, ?_⟩
    exact ⟨rfl, hm⟩

end Go.Bd
