/- Contracts of layer 17: the document's book ticked and told. Conditions: as each states. -/
import Derived.Test.Ytknmjfdemfknaaa17g
namespace Go.Bd
open Go.Proofs
set_option linter.unusedVariables false
set_option maxRecDepth 20000

section
variable {F : Env} {w : World} {Ls : List Blks} {g : Nat} {r : Ba} {s t : Int}
theorem longs_app (a b : List Int) : longs (a ++ b) = longs a ++ longs b := List.map_append
theorem take_map {fs : List Sa} {k : Nat} {f : Sa} (h : fs[k]? = some f) : (fs.take (k + 1)).map (·.1) = (fs.take k).map (·.1) ++ [f.1] := by
  rw [List.take_add_one, h, List.map_append]
  rfl
set_option maxHeartbeats 1000000 in
theorem rall_c {A : Option Addr} {c : Nat} (hm : Mem F w Ls) (hg : F.heap g = some (rbook r A c)) (hr : Row F.heap A (r.fs.length * 3) (rcells r.fs)) (hl : r.fs.length ≤ 1000000) :
    Calls Try.prog 19 #[.pointer (some ⟨g, 0, none⟩)] w (Ret fun v w' => ∃ A' c' L', v = .slice A' (names r).length c' ∧ OwnS 2 1 A' (names r).length c' (longs (names r)) L' ∧ Mem F w' (L' :: Ls)) := by
  refine Calls.of_vc Try.func19 rfl Try.ntmps19 rfl ?_
  repeat (first | refine VC.seq ?_ | refine VC.block ?_ | refine VC.skip ?_)
  refine VC.region ?_
  refine VR.pure rfl rfl (p_assignL rfl) ?_
  refine VR.nil ?_
  repeat (first | refine VC.seq ?_ | refine VC.block ?_ | refine VC.skip ?_)
  refine VC.region ?_
  refine VR.pure rfl rfl (p_assignL rfl) ?_
  refine VR.nil ?_
  repeat (first | refine VC.seq ?_ | refine VC.block ?_ | refine VC.skip ?_)
  refine VC.region ?_
  refine VR.pure rfl rfl (p_assignI rfl) ?_
  refine VR.nil ?_
  repeat (first | refine VC.seq ?_ | refine VC.block ?_ | refine VC.skip ?_)
  refine VC.loop (σ := Nat × Option Addr × Nat × Blks) (fun s => [(0, .pointer (some ⟨g, 0, none⟩)), (3, .slice s.2.1 s.1 s.2.2.1), (4, .int .i64 s.1)])
    (fun s w => s.1 ≤ r.fs.length ∧ OwnS 2 1 s.2.1 s.1 s.2.2.1 (longs ((r.fs.take s.1).map (·.1))) s.2.2.2 ∧ Mem F w (s.2.2.2 :: Ls)) (fun s => r.fs.length - s.1) (0, none, 0, []) ⟨rfl, rfl, rfl, trivial⟩ ⟨by omega, OwnS.nil _ _, hm.nil_⟩ ?_
  clear hm
  rintro ⟨k, A1, c1, L1⟩ A' w ⟨hk, ho, hm⟩
  dsimp only at hk ho hm ⊢
  repeat (first | refine VC.seq ?_ | refine VC.block ?_ | refine VC.skip ?_)
  refine VC.region ?_
  refine VR.pure rfl rfl (p_moveI rfl) ?_
  refine VR.pure rfl rfl (p_moveP rfl) ?_
  refine VR.pure rfl rfl (p_nilCheck rfl) ?_
  refine VR.pure rfl rfl (p_field (fo := 1) Try.underlying55 rfl Try.sizeOf53 rfl rfl rfl) ?_
  refine VR.val rfl rfl (r_load (v := .slice _ _ _) Try.isAgg53 rfl (hm.fix _ _ hg) rfl) ?_
  refine VR.pure rfl rfl (p_len Try.underlying53 rfl) ?_
  refine VR.pure rfl rfl (p_lt rfl rfl) ?_
  refine VR.nil ?_
  repeat (first | refine VC.seq ?_ | refine VC.block ?_ | refine VC.skip ?_)
  refine VC.condD rfl (fun h => ?_) (fun h => ?_)
  · have hk' : k < r.fs.length := by omega
    obtain ⟨f, hf, hfm⟩ := get_of (xs := r.fs) (k := k) hk'
    obtain ⟨b, off, blk, T, fr, rfl, hb, hc⟩ := hr.elem sc_len (by decide) (by omega)
    repeat (first | refine VC.seq ?_ | refine VC.block ?_ | refine VC.skip ?_)
    refine VC.region ?_
    refine VR.pure rfl rfl (p_moveL rfl) ?_
    refine VR.pure rfl rfl (p_moveP rfl) ?_
    refine VR.pure rfl rfl (p_nilCheck rfl) ?_
    refine VR.pure rfl rfl (p_field (fo := 1) Try.underlying55 rfl Try.sizeOf53 rfl rfl rfl) ?_
    refine VR.val rfl rfl (r_load (v := .slice _ _ _) Try.isAgg53 rfl (hm.fix _ _ hg) rfl) ?_
    refine VR.pure rfl rfl (p_moveI rfl) ?_
    refine VR.pure rfl rfl (p_idxN Try.underlying53 Try.sizeOf57 rfl rfl hk') ?_
    refine VR.pure rfl rfl (p_field (fo := 0) Try.underlying57 rfl Try.sizeOf2 rfl rfl rfl) ?_
    refine VR.val rfl rfl (r_load (v := .int _ _) Try.isAgg2 rfl (hm.fix _ _ hb) (hc k f hf 0 (by decide))) ?_
    refine VR.new hm rfl rfl (n_buildSlice1 (vs := [.int _ _]) Try.underlying33 inf2 rfl rfl rfl rfl rfl rfl rfl) ?_
    intro b9 w hm
    replace hm := hm.swap
    refine VR.append (s := 1) (bytes := 8) Try.underlying33 inf2 rfl rfl rfl rfl rfl rfl rfl rfl rfl hm ho (Row.lit (cs := [.int .i64 f.1]) (hm.at_ 1 0 rfl)) (longs_one [f.1]) rfl ⟨by unfold maxLen; omega, by omega⟩ ?_
    intro A3 c3 w L3 ho3 hm
    refine VR.pure rfl rfl (p_assignL rfl) ?_
    refine VR.nil ?_
    repeat (first | refine VC.seq ?_ | refine VC.block ?_ | refine VC.skip ?_)
    refine VC.region ?_
    refine VR.pure rfl rfl (p_moveI rfl) ?_
    refine VR.pure rfl rfl (p_add64 rfl rfl (by omega)) ?_
    refine VR.pure rfl rfl (p_assignI rfl) ?_
    refine VR.nil ?_
    refine ⟨(k + 1, A3, c3, L3), ⟨rfl, rfl, rfl, trivial⟩, ⟨by omega, ?_, hm.pop2⟩, by omega⟩
    rw [take_map hf, longs_app]
    exact ho3
  · repeat (first | refine VC.seq ?_ | refine VC.block ?_ | refine VC.skip ?_)
    refine VC.exit ?_
    repeat (first | refine VC.seq ?_ | refine VC.block ?_ | refine VC.skip ?_)
    refine VC.region ?_
    refine VR.pure rfl rfl (p_moveL rfl) ?_
    refine VR.pure rfl rfl (p_assignL rfl) ?_
    refine VR.nil ?_
    repeat (first | refine VC.seq ?_ | refine VC.block ?_ | refine VC.skip ?_)
    refine VC.ret ⟨_, ResOf.r1 (v := .slice _ _ _) rfl rfl, ?_⟩
    have hkn : k = r.fs.length := by omega
    subst hkn
    rw [List.take_length] at ho
    have hnl : (names r).length = r.fs.length := List.length_map _
    rw [hnl]
    exact ⟨A1, c1, L1, rfl, ho, hm⟩

/-- Some of a list up to a place. -/
theorem take_some {fs : List Sa} {k : Nat} {f : Sa} {p : Sa → Bool} (h : fs[k]? = some f) (hp : p f = true) : (fs.take (k + 1)).filter p = (fs.take k).filter p ++ [f] := by
  rw [List.take_add_one, h, List.filter_append]
  show _ ++ List.filter p [f] = _
  rw [List.filter_cons_of_pos hp]
  rfl
theorem take_not {fs : List Sa} {k : Nat} {f : Sa} {p : Sa → Bool} (h : fs[k]? = some f) (hp : p f = false) : (fs.take (k + 1)).filter p = (fs.take k).filter p := by
  rw [List.take_add_one, h, List.filter_append]
  show _ ++ List.filter p [f] = _
  rw [List.filter_cons_of_neg (by rw [hp]; exact Bool.false_ne_true)]
  exact List.append_nil _
set_option maxHeartbeats 4000000 in
theorem rtick_c (hm : RMem F w g r Ls) (hl : r.fs.length ≤ 1000000) :
    Calls Try.prog 28 #[.pointer (some ⟨g, 0, none⟩), .int .i64 t] w (Ret fun v w' => ∃ A' c' L', v = .slice A' (goneB r t).length c' ∧ OwnS 2 1 A' (goneB r t).length c' (longs (goneB r t)) L' ∧ RMem F w' g (tickB r t) (L' :: Ls)) := by
  obtain ⟨A, c, L, ho, hm⟩ := hm
  refine Calls.of_vc Try.func28 rfl Try.ntmps28 rfl ?_
  repeat (first | refine VC.seq ?_ | refine VC.block ?_ | refine VC.skip ?_)
  refine VC.region ?_
  refine VR.pure rfl rfl (p_assignL rfl) ?_
  refine VR.nil ?_
  repeat (first | refine VC.seq ?_ | refine VC.block ?_ | refine VC.skip ?_)
  refine VC.meet (σ := Unit) (fun _ => [(0, .pointer (some ⟨g, 0, none⟩)), (1, .int .i64 t), (17, .bool (decide (r.now < t ∧ t ≤ 1152921504606846976)))]) (fun _ w => Mem F w ([(g, rbook r A c)] :: L :: Ls)) ?_ ?_
  · repeat (first | refine VC.seq ?_ | refine VC.block ?_ | refine VC.skip ?_)
    refine VC.region ?_
    refine VR.pure rfl rfl (p_moveI rfl) ?_
    refine VR.pure rfl rfl (p_moveP rfl) ?_
    refine VR.pure rfl rfl (p_nilCheck rfl) ?_
    refine VR.pure rfl rfl (p_field (fo := 0) Try.underlying55 rfl Try.sizeOf2 rfl rfl rfl) ?_
    refine VR.val rfl rfl (r_load (v := .int _ _) Try.isAgg2 rfl (hm.at_ 0 0 rfl) rfl) ?_
    refine VR.pure rfl rfl (p_gt rfl rfl) ?_
    refine VR.pure rfl rfl (p_moveB rfl) ?_
    refine VR.splitD 14 rfl (fun h6 => ?_) (fun h6 => ?_)
    refine VR.pureG rfl rfl (p_moveI rfl) ?_
    refine VR.pureG rfl rfl (p_le rfl rfl) ?_
    refine VR.pure rfl rfl (p_pickT rfl rfl) ?_
    refine VR.nil ?_
    rotate_left 1
    refine VR.pass rfl rfl ?_
    refine VR.pass rfl rfl ?_
    refine VR.pure rfl rfl (p_pickF rfl rfl) ?_
    refine VR.nil ?_
    rotate_left 1
    · refine ⟨(), ⟨rfl, rfl, congrArg Value.bool ?_, trivial⟩, hm⟩
      exact decide_eq_decide.2 ⟨fun h => ⟨h6, h⟩, fun h => h.2⟩
    · refine ⟨(), ⟨rfl, rfl, congrArg Value.bool ?_, trivial⟩, hm⟩
      exact (decide_eq_false fun h => h6 h.1).symm
  clear hm
  rintro _ A0 w hm
  repeat (first | refine VC.seq ?_ | refine VC.block ?_ | refine VC.skip ?_)
  refine VC.meet (σ := Unit) (fun _ => [(0, .pointer (some ⟨g, 0, none⟩))]) (fun _ w => Mem F w ([(g, .cells #[.int .i64 (nowOf r.now t), .slice A r.fs.length c] 55 (0, 0))] :: L :: Ls)) ?_ ?_
  · repeat (first | refine VC.seq ?_ | refine VC.block ?_ | refine VC.skip ?_)
    refine VC.condD rfl (fun h => ?_) (fun h => ?_)
    · repeat (first | refine VC.seq ?_ | refine VC.block ?_ | refine VC.skip ?_)
      refine VC.region ?_
      refine VR.pure rfl rfl (p_moveP rfl) ?_
      refine VR.pure rfl rfl (p_moveI rfl) ?_
      refine VR.pure rfl rfl (p_nilCheck rfl) ?_
      refine VR.pure rfl rfl (p_field (fo := 0) Try.underlying55 rfl Try.sizeOf2 rfl rfl rfl) ?_
      refine VR.store (cs' := #[.int .i64 t, .slice A r.fs.length c]) (v := .int _ _) Try.sizeOf2 rfl rfl rfl rfl rfl hm 0 0 rfl (Nat.ble_eq.mp rfl) rfl ?_
      intro w hm
      refine VR.nil ?_
      refine ⟨(), ⟨rfl, trivial⟩, ?_⟩
      have e : nowOf r.now t = t := by
        unfold nowOf
        rw [if_pos h.2]
        omega
      rw [e]
      exact hm
    · repeat (first | refine VC.seq ?_ | refine VC.block ?_ | refine VC.skip ?_)
      refine ⟨(), ⟨rfl, trivial⟩, ?_⟩
      have e : nowOf r.now t = r.now := by
        unfold nowOf
        split <;> omega
      rw [e]
      exact hm
  clear hm
  rintro _ A0 w hm
  have hg0 : goneB r t = (r.fs.filter fun f => decide (f.2.2 ≤ nowOf r.now t)).map (·.1) := rfl
  have ht0 : tickB r t = ⟨nowOf r.now t, r.fs.filter fun f => decide (¬ f.2.2 ≤ nowOf r.now t)⟩ := rfl
  rw [hg0, ht0]
  generalize nowOf r.now t = nw at hm
  clear hg0 ht0
  obtain ⟨G, hu, hm, hL⟩ := hm.swap.freeze
  have hr := ho.row hL
  have hnc := ho.le
  clear ho hL
  repeat (first | refine VC.seq ?_ | refine VC.block ?_ | refine VC.skip ?_)
  refine VC.region ?_
  refine VR.pure rfl rfl (p_assignL rfl) ?_
  refine VR.nil ?_
  repeat (first | refine VC.seq ?_ | refine VC.block ?_ | refine VC.skip ?_)
  refine VC.region ?_
  refine VR.pure rfl rfl (p_assignL rfl) ?_
  refine VR.nil ?_
  repeat (first | refine VC.seq ?_ | refine VC.block ?_ | refine VC.skip ?_)
  refine VC.region ?_
  refine VR.pure rfl rfl (p_assignI rfl) ?_
  refine VR.nil ?_
  repeat (first | refine VC.seq ?_ | refine VC.block ?_ | refine VC.skip ?_)
  refine VC.loop (σ := Nat × (Option Addr × Nat × Blks) × (Option Addr × Nat × Blks)) (fun s => [(0, .pointer (some ⟨g, 0, none⟩)), (5, .slice s.2.1.1 (((r.fs.take s.1).filter fun f => decide (f.2.2 ≤ nw)).map (·.1)).length s.2.1.2.1), (6, .slice s.2.2.1 ((r.fs.take s.1).filter fun f => decide (¬ f.2.2 ≤ nw)).length s.2.2.2.1), (7, .int .i64 s.1)])
    (fun s w => s.1 ≤ r.fs.length ∧ OwnS 2 1 s.2.1.1 (((r.fs.take s.1).filter fun f => decide (f.2.2 ≤ nw)).map (·.1)).length s.2.1.2.1 (longs (((r.fs.take s.1).filter fun f => decide (f.2.2 ≤ nw)).map (·.1))) s.2.1.2.2 ∧
      OwnS 57 3 s.2.2.1 ((r.fs.take s.1).filter fun f => decide (¬ f.2.2 ≤ nw)).length s.2.2.2.1 (rcells ((r.fs.take s.1).filter fun f => decide (¬ f.2.2 ≤ nw))) s.2.2.2.2 ∧
      Mem G w (s.2.1.2.2 :: s.2.2.2.2 :: [(g, .cells #[.int .i64 nw, .slice A r.fs.length c] 55 (0, 0))] :: Ls)) (fun s => r.fs.length - s.1) (0, (none, 0, []), (none, 0, [])) ⟨rfl, rfl, rfl, rfl, trivial⟩ ⟨by omega, OwnS.nil _ _, OwnS.nil _ _, hm.nil_.nil_⟩ ?_
  clear hm
  rintro ⟨k, ⟨A1, c1, L1⟩, ⟨A2, c2, L2⟩⟩ A' w ⟨hk, ho1, ho2, hm⟩
  dsimp only at hk ho1 ho2 hm ⊢
  have hl1 : (((r.fs.take k).filter fun f => decide (f.2.2 ≤ nw)).map (·.1)).length ≤ k := by
    rw [List.length_map]
    exact Nat.le_trans (List.length_filter_le _ _) (by rw [List.length_take]; omega)
  have hl2 : ((r.fs.take k).filter fun f => decide (¬ f.2.2 ≤ nw)).length ≤ k := Nat.le_trans (List.length_filter_le _ _) (by rw [List.length_take]; omega)
  repeat (first | refine VC.seq ?_ | refine VC.block ?_ | refine VC.skip ?_)
  refine VC.region ?_
  refine VR.pure rfl rfl (p_moveI rfl) ?_
  refine VR.pure rfl rfl (p_moveP rfl) ?_
  refine VR.pure rfl rfl (p_nilCheck rfl) ?_
  refine VR.pure rfl rfl (p_field (fo := 1) Try.underlying55 rfl Try.sizeOf53 rfl rfl rfl) ?_
  refine VR.val rfl rfl (r_load (v := .slice _ _ _) Try.isAgg53 rfl (hm.at_ 2 0 rfl) rfl) ?_
  refine VR.pure rfl rfl (p_len Try.underlying53 rfl) ?_
  refine VR.pure rfl rfl (p_lt rfl rfl) ?_
  refine VR.nil ?_
  repeat (first | refine VC.seq ?_ | refine VC.block ?_ | refine VC.skip ?_)
  refine VC.condD rfl (fun h => ?_) (fun h => ?_)
  · have hk' : k < r.fs.length := by omega
    obtain ⟨f, hf, hfm⟩ := get_of (xs := r.fs) (k := k) hk'
    obtain ⟨b, off, blk, T, fr, rfl, hb, hc⟩ := hr.elem sc_len (by decide) (by omega)
    repeat (first | refine VC.seq ?_ | refine VC.block ?_ | refine VC.skip ?_)
    refine VC.loud (Kept G ([(g, .cells #[.int .i64 nw, .slice (some ⟨b, off, none⟩) r.fs.length c] 55 (0, 0))] :: [])) [] rfl (by kernel_rfl) (Kept.one hm.drew 2 rfl) ?_
    replace hm := hm.drew
    refine VL.pure rfl rfl rfl (p_moveP rfl) ?_
    refine VL.pure rfl rfl rfl (p_nilCheck rfl) ?_
    refine VL.pure rfl rfl rfl (p_field (fo := 1) Try.underlying55 rfl Try.sizeOf53 rfl rfl rfl) ?_
    refine VL.read rfl rfl rfl (fun w' hw' => r_load (v := .slice _ _ _) Try.isAgg53 rfl (hw'.at_ 0 0 rfl) rfl) ?_
    refine VL.pure rfl rfl rfl (p_moveI rfl) ?_
    refine VL.pure rfl rfl rfl (p_idxN Try.underlying53 Try.sizeOf57 rfl rfl hk') ?_
    refine VL.pure rfl rfl rfl (p_field (fo := 2) Try.underlying57 rfl Try.sizeOf2 rfl rfl rfl) ?_
    refine VL.read rfl rfl rfl (fun w' hw' => r_load (v := .int _ _) Try.isAgg2 rfl (hw'.fix _ _ hb) (hc k f hf 2 (by decide))) ?_
    refine VL.pure rfl rfl rfl (p_moveP rfl) ?_
    refine VL.pure rfl rfl rfl (p_nilCheck rfl) ?_
    refine VL.pure rfl rfl rfl (p_field (fo := 0) Try.underlying55 rfl Try.sizeOf2 rfl rfl rfl) ?_
    refine VL.read rfl rfl rfl (fun w' hw' => r_load (v := .int _ _) Try.isAgg2 rfl (hw'.at_ 0 0 rfl) rfl) ?_
    refine VL.pure rfl rfl rfl (p_le rfl rfl) ?_
    refine VL.nil ?_
    repeat (first | refine VC.seq ?_ | refine VC.block ?_ | refine VC.skip ?_)
    refine VC.condD rfl (fun h8 => ?_) (fun h8 => ?_)
    · have e1 := take_some (p := fun f => decide (f.2.2 ≤ nw)) hf (decide_eq_true h8)
      have e2 := take_not (p := fun f => decide (¬ f.2.2 ≤ nw)) hf (decide_eq_false (not_not_intro h8))
      repeat (first | refine VC.seq ?_ | refine VC.block ?_ | refine VC.skip ?_)
      refine VC.region ?_
      refine VR.pure rfl rfl (p_moveL rfl) ?_
      refine VR.pure rfl rfl (p_moveP rfl) ?_
      refine VR.pure rfl rfl (p_nilCheck rfl) ?_
      refine VR.pure rfl rfl (p_field (fo := 1) Try.underlying55 rfl Try.sizeOf53 rfl rfl rfl) ?_
      refine VR.val rfl rfl (r_load (v := .slice _ _ _) Try.isAgg53 rfl (hm.at_ 2 0 rfl) rfl) ?_
      refine VR.pure rfl rfl (p_moveI rfl) ?_
      refine VR.pure rfl rfl (p_idxN Try.underlying53 Try.sizeOf57 rfl rfl hk') ?_
      refine VR.pure rfl rfl (p_field (fo := 0) Try.underlying57 rfl Try.sizeOf2 rfl rfl rfl) ?_
      refine VR.val rfl rfl (r_load (v := .int _ _) Try.isAgg2 rfl (hm.fix _ _ hb) (hc k f hf 0 (by decide))) ?_
      refine VR.new hm rfl rfl (n_buildSlice1 (vs := [.int _ _]) Try.underlying33 inf2 rfl rfl rfl rfl rfl rfl rfl) ?_
      intro b9 w hm
      replace hm := hm.swap
      refine VR.append (s := 1) (bytes := 8) Try.underlying33 inf2 rfl rfl rfl rfl rfl rfl rfl rfl rfl hm ho1 (Row.lit (cs := [.int .i64 f.1]) (hm.at_ 1 0 rfl)) (longs_one [f.1]) rfl ⟨by unfold maxLen; omega, by omega⟩ ?_
      intro A3 c3 w L3 ho3 hm
      refine VR.pure rfl rfl (p_assignL rfl) ?_
      refine VR.nil ?_
      repeat (first | refine VC.seq ?_ | refine VC.block ?_ | refine VC.skip ?_)
      repeat (first | refine VC.seq ?_ | refine VC.block ?_ | refine VC.skip ?_)
      refine VC.region ?_
      refine VR.pure rfl rfl (p_moveI rfl) ?_
      refine VR.pure rfl rfl (p_add64 rfl rfl (by omega)) ?_
      refine VR.pure rfl rfl (p_assignI rfl) ?_
      refine VR.nil ?_
      refine ⟨(k + 1, (A3, c3, L3), (A2, c2, L2)), ⟨rfl, ?_, ?_, rfl, trivial⟩, ⟨by omega, ?_, ?_, hm.pop2⟩, by omega⟩
      · rw [e1, List.map_append, List.length_append]
        rfl
      · rw [e2]
        rfl
      · rw [e1, List.map_append, List.length_append, longs_app]
        exact ho3
      · rw [e2]
        exact ho2
    · have e1 := take_not (p := fun f => decide (f.2.2 ≤ nw)) hf (decide_eq_false h8)
      have e2 := take_some (p := fun f => decide (¬ f.2.2 ≤ nw)) hf (decide_eq_true h8)
      repeat (first | refine VC.seq ?_ | refine VC.block ?_ | refine VC.skip ?_)
      refine VC.region ?_
      refine VR.pure rfl rfl (p_moveL rfl) ?_
      refine VR.pure rfl rfl (p_moveP rfl) ?_
      refine VR.pure rfl rfl (p_nilCheck rfl) ?_
      refine VR.pure rfl rfl (p_field (fo := 1) Try.underlying55 rfl Try.sizeOf53 rfl rfl rfl) ?_
      refine VR.val rfl rfl (r_load (v := .slice _ _ _) Try.isAgg53 rfl (hm.at_ 2 0 rfl) rfl) ?_
      refine VR.pure rfl rfl (p_moveI rfl) ?_
      refine VR.pure rfl rfl (p_idxN Try.underlying53 Try.sizeOf57 rfl rfl hk') ?_
      refine VR.val rfl rfl (r_loadAgg (vs := [.int .i64 f.1, .int .i64 f.2.1, .int .i64 f.2.2]) Try.isAgg57 Try.sizeOf57 rfl (hm.fix _ _ hb) rfl (hc k f hf)) ?_
      refine VR.new hm rfl rfl (n_buildSlice (vs := [.agg _]) Try.underlying53 inf57 rfl rfl rfl rfl rfl rfl) ?_
      intro b8 w hm
      replace hm := hm.pull 2 rfl
      refine VR.append (s := 3) (bytes := 24) Try.underlying53 inf57 rfl rfl rfl rfl rfl rfl rfl rfl rfl hm ho2 (Row.lit (cs := sc f) (hm.at_ 1 0 rfl)) (sc_one f) rfl ⟨by unfold maxLen; omega, by omega⟩ ?_
      intro A3 c3 w L3 ho3 hm
      refine VR.pure rfl rfl (p_assignL rfl) ?_
      refine VR.nil ?_
      repeat (first | refine VC.seq ?_ | refine VC.block ?_ | refine VC.skip ?_)
      repeat (first | refine VC.seq ?_ | refine VC.block ?_ | refine VC.skip ?_)
      refine VC.region ?_
      refine VR.pure rfl rfl (p_moveI rfl) ?_
      refine VR.pure rfl rfl (p_add64 rfl rfl (by omega)) ?_
      refine VR.pure rfl rfl (p_assignI rfl) ?_
      refine VR.nil ?_
      refine ⟨(k + 1, (A1, c1, L1), (A3, c3, L3)), ⟨rfl, ?_, ?_, rfl, trivial⟩, ⟨by omega, ?_, ?_, hm.pop2.swap⟩, by omega⟩
      · rw [e1]
        rfl
      · rw [e2, List.length_append]
        rfl
      · rw [e1]
        exact ho1
      · rw [e2, List.length_append, rcells_app]
        exact ho3
  · repeat (first | refine VC.seq ?_ | refine VC.block ?_ | refine VC.skip ?_)
    refine VC.exit ?_
    have hkn : k = r.fs.length := by omega
    rw [hkn, List.take_length] at ho1 ho2 ⊢
    repeat (first | refine VC.seq ?_ | refine VC.block ?_ | refine VC.skip ?_)
    refine VC.region ?_
    refine VR.pure rfl rfl (p_moveP rfl) ?_
    refine VR.pure rfl rfl (p_moveL rfl) ?_
    refine VR.pure rfl rfl (p_nilCheck rfl) ?_
    refine VR.pure rfl rfl (p_field (fo := 1) Try.underlying55 rfl Try.sizeOf53 rfl rfl rfl) ?_
    refine VR.store (cs' := #[.int .i64 nw, .slice A2 (r.fs.filter fun f => decide (¬ f.2.2 ≤ nw)).length c2]) (v := .slice _ _ _) Try.sizeOf53 rfl rfl rfl rfl rfl hm 2 0 rfl (Nat.ble_eq.mp rfl) rfl ?_
    intro w hm
    refine VR.nil ?_
    repeat (first | refine VC.seq ?_ | refine VC.block ?_ | refine VC.skip ?_)
    refine VC.region ?_
    refine VR.pure rfl rfl (p_moveL rfl) ?_
    refine VR.pure rfl rfl (p_assignL rfl) ?_
    refine VR.nil ?_
    repeat (first | refine VC.seq ?_ | refine VC.block ?_ | refine VC.skip ?_)
    refine VC.ret ⟨_, ResOf.r1 (v := .slice _ _ _) rfl rfl, ?_⟩
    refine ⟨A1, c1, L1, rfl, ho1, A2, c2, L2, ho2, ?_⟩
    have hm2 : Mem G w (L1 :: L2 :: [(g, .cells #[.int .i64 nw, .slice A2 (r.fs.filter fun f => decide (¬ f.2.2 ≤ nw)).length c2] 55 (0, 0))] :: Ls) := hm
    exact (hm2.swap.pull 2 rfl).shrink hu
end
end Go.Bd
