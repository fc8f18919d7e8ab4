/- Contracts of layer 20: the document's next config. Conditions: as each states. -/
import Derived.Test.Ytnakbhpgcngofaa20u
namespace Go.Bd
open Go.Proofs
set_option linter.unusedVariables false
set_option maxRecDepth 20000

set_option maxHeartbeats 1000000 in
theorem ref_member_c {F : Env} {w : World} {Ls : List Blks} {m : Mb} (hm : Mem F w Ls) :
    Calls Try.prog 76 #[.agg #[.int .i64 m.id, .int .u8 m.role, .int .i64 m.weight, .int .i64 m.group]] w (Ret fun v w' => v = .bool (decide (mbOk 0 m)) ∧ Mem F w' Ls) := by
  refine Calls.of_vc Try.func76 rfl Try.ntmps76 rfl ?_
  repeat (first | refine VC.seq ?_ | refine VC.block ?_ | refine VC.skip ?_)
  refine VC.region ?_
  refine VR.new hm rfl rfl (n_boxG rfl) ?_
  intro g w hm
  refine VR.pure rfl rfl (p_assignB rfl) ?_
  refine VR.nil ?_
  have hpop := hm.pop
  repeat (first | refine VC.seq ?_ | refine VC.block ?_ | refine VC.skip ?_)
  refine VC.region ?_
  refine VR.pure rfl rfl (p_field (fo := 0) Try.underlying99 rfl Try.sizeOf3 rfl rfl rfl) ?_
  refine VR.val rfl rfl (r_load (v := .int _ _) Try.isAgg3 rfl (hm.at_ 0 0 rfl) rfl) ?_
  refine VR.pure rfl rfl (p_lt rfl rfl) ?_
  refine VR.pure rfl rfl (p_moveB rfl) ?_
  refine VR.splitD 6 rfl (fun h1 => ?_) (fun h1 => ?_)
  refine VR.pass rfl rfl ?_
  refine VR.pass rfl rfl ?_
  refine VR.pass rfl rfl ?_
  refine VR.pure rfl rfl (p_pickT rfl rfl) ?_
  refine VR.nil ?_
  rotate_left 1
  refine VR.pureG rfl rfl (p_field (fo := 0) Try.underlying99 rfl Try.sizeOf3 rfl rfl rfl) ?_
  refine VR.valG rfl rfl (r_load (v := .int _ _) Try.isAgg3 rfl (hm.at_ 0 0 rfl) rfl) ?_
  refine VR.pureG rfl rfl (p_gt rfl rfl) ?_
  refine VR.pure rfl rfl (p_pickF rfl rfl) ?_
  refine VR.nil ?_
  rotate_left 1
  · repeat (first | refine VC.seq ?_ | refine VC.block ?_ | refine VC.skip ?_)
    refine VC.condT rfl rfl ?_
    repeat (first | refine VC.seq ?_ | refine VC.block ?_ | refine VC.skip ?_)
    refine VC.region ?_
    refine VR.pure rfl rfl (p_assignB rfl) ?_
    refine VR.nil ?_
    repeat (first | refine VC.seq ?_ | refine VC.block ?_ | refine VC.skip ?_)
    refine VC.ret ⟨_, ResOf.r1 (v := .bool _) rfl rfl, ?_⟩
    exact ⟨congrArg Value.bool (decide_eq_false (by unfold mbOk; omega)).symm, hpop⟩
  · repeat (first | refine VC.seq ?_ | refine VC.block ?_ | refine VC.skip ?_)
    refine VC.condD rfl (fun h2 => ?_) (fun h2 => ?_)
    · repeat (first | refine VC.seq ?_ | refine VC.block ?_ | refine VC.skip ?_)
      refine VC.region ?_
      refine VR.pure rfl rfl (p_assignB rfl) ?_
      refine VR.nil ?_
      repeat (first | refine VC.seq ?_ | refine VC.block ?_ | refine VC.skip ?_)
      refine VC.ret ⟨_, ResOf.r1 (v := .bool _) rfl rfl, ?_⟩
      exact ⟨congrArg Value.bool (decide_eq_false (by unfold mbOk; omega)).symm, hpop⟩
    · repeat (first | refine VC.seq ?_ | refine VC.block ?_ | refine VC.skip ?_)
      refine VC.region ?_
      refine VR.pure rfl rfl (p_field (fo := 1) Try.underlying99 rfl Try.sizeOf97 rfl rfl rfl) ?_
      refine VR.val rfl rfl (r_load (v := .int _ _) Try.isAgg97 rfl (hm.at_ 0 0 rfl) rfl) ?_
      refine VR.pure rfl rfl (p_eq rfl rfl) ?_
      refine VR.nil ?_
      repeat (first | refine VC.seq ?_ | refine VC.block ?_ | refine VC.skip ?_)
      refine VC.condD rfl (fun h3 => ?_) (fun h3 => ?_)
      · repeat (first | refine VC.seq ?_ | refine VC.block ?_ | refine VC.skip ?_)
        refine VC.region ?_
        refine VR.pure rfl rfl (p_field (fo := 2) Try.underlying99 rfl Try.sizeOf3 rfl rfl rfl) ?_
        refine VR.val rfl rfl (r_load (v := .int _ _) Try.isAgg3 rfl (hm.at_ 0 0 rfl) rfl) ?_
        refine VR.pure rfl rfl (p_eq rfl rfl) ?_
        refine VR.pure rfl rfl (p_moveB rfl) ?_
        refine VR.splitD 17 rfl (fun h4 => ?_) (fun h4 => ?_)
        refine VR.pureG rfl rfl (p_field (fo := 3) Try.underlying99 rfl Try.sizeOf3 rfl rfl rfl) ?_
        refine VR.valG rfl rfl (r_load (v := .int _ _) Try.isAgg3 rfl (hm.at_ 0 0 rfl) rfl) ?_
        refine VR.pureG rfl rfl (p_eq rfl rfl) ?_
        refine VR.pure rfl rfl (p_pickT rfl rfl) ?_
        refine VR.pure rfl rfl (p_assignB rfl) ?_
        refine VR.nil ?_
        rotate_left 1
        refine VR.pass rfl rfl ?_
        refine VR.pass rfl rfl ?_
        refine VR.pass rfl rfl ?_
        refine VR.pure rfl rfl (p_pickF rfl rfl) ?_
        refine VR.pure rfl rfl (p_assignB rfl) ?_
        refine VR.nil ?_
        rotate_left 1
        all_goals
          repeat (first | refine VC.seq ?_ | refine VC.block ?_ | refine VC.skip ?_)
          refine VC.ret ⟨_, ResOf.r1 (v := .bool _) rfl rfl, ?_⟩
          first
            | exact ⟨congrArg Value.bool (decide_eq_false (by unfold mbOk; omega)).symm, hpop⟩
            | exact ⟨congrArg Value.bool (decide_eq_decide.2 (by unfold mbOk; omega)), hpop⟩
      · repeat (first | refine VC.seq ?_ | refine VC.block ?_ | refine VC.skip ?_)
        refine VC.region ?_
        refine VR.pure rfl rfl (p_field (fo := 1) Try.underlying99 rfl Try.sizeOf97 rfl rfl rfl) ?_
        refine VR.val rfl rfl (r_load (v := .int _ _) Try.isAgg97 rfl (hm.at_ 0 0 rfl) rfl) ?_
        refine VR.pure rfl rfl (p_eq rfl rfl) ?_
        refine VR.pure rfl rfl (p_moveB rfl) ?_
        refine VR.splitD 25 rfl (fun h4 => ?_) (fun h4 => ?_)
        refine VR.pureG rfl rfl (p_field (fo := 2) Try.underlying99 rfl Try.sizeOf3 rfl rfl rfl) ?_
        refine VR.valG rfl rfl (r_load (v := .int _ _) Try.isAgg3 rfl (hm.at_ 0 0 rfl) rfl) ?_
        refine VR.pureG rfl rfl (p_ge rfl rfl) ?_
        refine VR.pure rfl rfl (p_pickT rfl rfl) ?_
        refine VR.pure rfl rfl (p_moveB rfl) ?_
        refine VR.splitB 30 rfl (fun h5 => ?_) (fun h5 => ?_)
        refine VR.pureG rfl rfl (p_field (fo := 2) Try.underlying99 rfl Try.sizeOf3 rfl rfl rfl) ?_
        refine VR.valG rfl rfl (r_load (v := .int _ _) Try.isAgg3 rfl (hm.at_ 0 0 rfl) rfl) ?_
        refine VR.pureG rfl rfl (p_le rfl rfl) ?_
        refine VR.pure rfl rfl (p_pickT rfl rfl) ?_
        refine VR.pure rfl rfl (p_moveB rfl) ?_
        refine VR.splitB 35 rfl (fun h6 => ?_) (fun h6 => ?_)
        refine VR.pureG rfl rfl (p_field (fo := 3) Try.underlying99 rfl Try.sizeOf3 rfl rfl rfl) ?_
        refine VR.valG rfl rfl (r_load (v := .int _ _) Try.isAgg3 rfl (hm.at_ 0 0 rfl) rfl) ?_
        refine VR.pureG rfl rfl (p_ge rfl rfl) ?_
        refine VR.pure rfl rfl (p_pickT rfl rfl) ?_
        refine VR.pure rfl rfl (p_moveB rfl) ?_
        refine VR.splitB 40 rfl (fun h7 => ?_) (fun h7 => ?_)
        refine VR.pureG rfl rfl (p_field (fo := 3) Try.underlying99 rfl Try.sizeOf3 rfl rfl rfl) ?_
        refine VR.valG rfl rfl (r_load (v := .int _ _) Try.isAgg3 rfl (hm.at_ 0 0 rfl) rfl) ?_
        refine VR.pureG rfl rfl (p_lt rfl rfl) ?_
        refine VR.pure rfl rfl (p_pickT rfl rfl) ?_
        refine VR.pure rfl rfl (p_assignB rfl) ?_
        refine VR.nil ?_
        rotate_left 1
        refine VR.pass rfl rfl ?_
        refine VR.pass rfl rfl ?_
        refine VR.pass rfl rfl ?_
        refine VR.pure rfl rfl (p_pickF rfl rfl) ?_
        refine VR.pure rfl rfl (p_assignB rfl) ?_
        refine VR.nil ?_
        rotate_left 1
        refine VR.pass rfl rfl ?_
        refine VR.pass rfl rfl ?_
        refine VR.pass rfl rfl ?_
        refine VR.pure rfl rfl (p_pickF rfl rfl) ?_
        refine VR.pure rfl rfl (p_moveB rfl) ?_
        refine VR.pass rfl rfl ?_
        refine VR.pass rfl rfl ?_
        refine VR.pass rfl rfl ?_
        refine VR.pure rfl rfl (p_pickF rfl rfl) ?_
        refine VR.pure rfl rfl (p_assignB rfl) ?_
        refine VR.nil ?_
        rotate_left 1
        refine VR.pass rfl rfl ?_
        refine VR.pass rfl rfl ?_
        refine VR.pass rfl rfl ?_
        refine VR.pure rfl rfl (p_pickF rfl rfl) ?_
        refine VR.pure rfl rfl (p_moveB rfl) ?_
        refine VR.pass rfl rfl ?_
        refine VR.pass rfl rfl ?_
        refine VR.pass rfl rfl ?_
        refine VR.pure rfl rfl (p_pickF rfl rfl) ?_
        refine VR.pure rfl rfl (p_moveB rfl) ?_
        refine VR.pass rfl rfl ?_
        refine VR.pass rfl rfl ?_
        refine VR.pass rfl rfl ?_
        refine VR.pure rfl rfl (p_pickF rfl rfl) ?_
        refine VR.pure rfl rfl (p_assignB rfl) ?_
        refine VR.nil ?_
        rotate_left 1
        refine VR.pass rfl rfl ?_
        refine VR.pass rfl rfl ?_
        refine VR.pass rfl rfl ?_
        refine VR.pure rfl rfl (p_pickF rfl rfl) ?_
        refine VR.pure rfl rfl (p_moveB rfl) ?_
        refine VR.pass rfl rfl ?_
        refine VR.pass rfl rfl ?_
        refine VR.pass rfl rfl ?_
        refine VR.pure rfl rfl (p_pickF rfl rfl) ?_
        refine VR.pure rfl rfl (p_moveB rfl) ?_
        refine VR.pass rfl rfl ?_
        refine VR.pass rfl rfl ?_
        refine VR.pass rfl rfl ?_
        refine VR.pure rfl rfl (p_pickF rfl rfl) ?_
        refine VR.pure rfl rfl (p_moveB rfl) ?_
        refine VR.pass rfl rfl ?_
        refine VR.pass rfl rfl ?_
        refine VR.pass rfl rfl ?_
        refine VR.pure rfl rfl (p_pickF rfl rfl) ?_
        refine VR.pure rfl rfl (p_assignB rfl) ?_
        refine VR.nil ?_
        rotate_left 1
        all_goals
          repeat (first | refine VC.seq ?_ | refine VC.block ?_ | refine VC.skip ?_)
          refine VC.ret ⟨_, ResOf.r1 (v := .bool _) rfl rfl, ?_⟩
          simp only [decide_eq_true_eq, decide_eq_false_iff_not] at *
          first
            | exact ⟨congrArg Value.bool (decide_eq_false (by unfold mbOk; omega)).symm, hpop⟩
            | exact ⟨congrArg Value.bool (decide_eq_decide.2 (by unfold mbOk; omega)), hpop⟩

set_option maxHeartbeats 2000000 in
theorem ref_check_c {F : Env} {w : World} {Ls : List Blks} {A : Option Addr} {n c : Nat} {ms : List Mb} {ver : Int} (hm : Mem F w Ls) (hn : n ≤ maxLen) (hr : MRow F.heap A n ms) :
    Calls Try.prog 73 #[.agg #[.int .i64 ver, .slice A n c]] w (Ret fun v w' => v = .int .i64 (checkE ver ms) ∧ Mem F w' Ls) := by
  have hl := hr.len
  unfold maxLen at hn
  refine Calls.of_vc Try.func73 rfl Try.ntmps73 rfl ?_
  repeat (first | refine VC.seq ?_ | refine VC.block ?_ | refine VC.skip ?_)
  refine VC.region ?_
  refine VR.new hm rfl rfl (n_boxG rfl) ?_
  intro b1 w hm
  refine VR.pure rfl rfl (p_assignI rfl) ?_
  refine VR.nil ?_
  repeat (first | refine VC.seq ?_ | refine VC.block ?_ | refine VC.skip ?_)
  refine VC.region ?_
  refine VR.pure rfl rfl (p_field (fo := 1) Try.underlying42 rfl Try.sizeOf40 rfl rfl rfl) ?_
  refine VR.val rfl rfl (r_load (v := .slice _ _ _) Try.isAgg40 rfl (hm.at_ 0 0 rfl) rfl) ?_
  refine VR.pure rfl rfl (p_len Try.underlying40 rfl) ?_
  refine VR.pure rfl rfl (p_gt rfl rfl) ?_
  refine VR.nil ?_
  repeat (first | refine VC.seq ?_ | refine VC.block ?_ | refine VC.skip ?_)
  refine VC.condD rfl (fun h => ?_) (fun h => ?_)
  · repeat (first | refine VC.seq ?_ | refine VC.block ?_ | refine VC.skip ?_)
    refine VC.region ?_
    refine VR.pure rfl rfl (p_assignI rfl) ?_
    refine VR.nil ?_
    repeat (first | refine VC.seq ?_ | refine VC.block ?_ | refine VC.skip ?_)
    refine VC.ret ⟨_, ResOf.r1 (v := .int _ _) rfl rfl, ?_⟩
    refine ⟨?_, hm.pop⟩
    unfold checkE
    rw [if_pos (by omega)]
  · have hn7 : n ≤ 7 := by omega
    repeat (first | refine VC.seq ?_ | refine VC.block ?_ | refine VC.skip ?_)
    refine VC.region ?_
    refine VR.pure rfl rfl (p_assignI rfl) ?_
    refine VR.nil ?_
    repeat (first | refine VC.seq ?_ | refine VC.block ?_ | refine VC.skip ?_)
    refine VC.region ?_
    refine VR.pure rfl rfl (p_assignI rfl) ?_
    refine VR.nil ?_
    repeat (first | refine VC.seq ?_ | refine VC.block ?_ | refine VC.skip ?_)
    refine VC.loop (σ := Nat × Int × Int) (fun s => [(1, .pointer (some ⟨b1, 0, none⟩)), (3, .int .i64 s.2.2), (4, .int .i64 s.1)])
      (fun s w => Mem F w ([(b1, .cells #[.int .i64 ver, .slice A n c] 42 (0, 0))] :: Ls) ∧ s.1 ≤ n ∧ chkGo 0 0 ms = chkGo s.2.1 s.2.2 (ms.drop s.1) ∧ 0 ≤ s.2.2 ∧ s.2.2 ≤ 1000 * s.1 ∧ 0 ≤ s.2.1 ∧ ((s.1 = 0 ∧ s.2.1 = 0) ∨ ∃ p, ms[s.1 - 1]? = some p ∧ 0 < s.1 ∧ s.2.1 = p.id))
      (fun s => n - s.1) (0, 0, 0) ⟨rfl, rfl, rfl, trivial⟩ ⟨hm, by omega, rfl, by simp, by simp, by simp, by simp⟩ ?_
    clear hm
    rintro ⟨k, last, wt⟩ A' w ⟨hm, hk, hgo, hw0, hw1, hl0, hlast⟩
    dsimp only at hm hk hgo hw0 hw1 hl0 hlast ⊢
    repeat (first | refine VC.seq ?_ | refine VC.block ?_ | refine VC.skip ?_)
    refine VC.region ?_
    refine VR.pure rfl rfl (p_moveI rfl) ?_
    refine VR.pure rfl rfl (p_field (fo := 1) Try.underlying42 rfl Try.sizeOf40 rfl rfl rfl) ?_
    refine VR.val rfl rfl (r_load (v := .slice _ _ _) Try.isAgg40 rfl (hm.at_ 0 0 rfl) rfl) ?_
    refine VR.pure rfl rfl (p_len Try.underlying40 rfl) ?_
    refine VR.pure rfl rfl (p_lt rfl rfl) ?_
    refine VR.nil ?_
    repeat (first | refine VC.seq ?_ | refine VC.block ?_ | refine VC.skip ?_)
    refine VC.condD rfl (fun h2 => ?_) (fun h2 => ?_)
    · have hk' : k < n := by omega
      obtain ⟨m, hmk, hdrop⟩ := drop_mb (ms := ms) (k := k) (by omega)
      obtain ⟨b, off, blk, T, fr, rfl, hb, hcc⟩ := hr.elem Mb.len (by decide) (by omega)
      rw [hdrop, chkGo_cons] at hgo
      have hrest : ∀ (hno : ¬ mbOk last m), checkE ver ms = 140 := fun hno => by
        rw [if_neg hno] at hgo
        unfold checkE
        rw [if_neg (by omega), hgo]
      by_cases h5 : mbOk 0 m
      · rcases hlast with ⟨h0, h0'⟩ | ⟨p, hp, hk0, hpl⟩
        · repeat (first | refine VC.seq ?_ | refine VC.block ?_ | refine VC.skip ?_)
          refine VC.loud (Kept F ([(b1, .cells #[.int .i64 ver, .slice (some ⟨b, off, none⟩) n c] 42 (0, 0))] :: [])) [5] rfl (by kernel_rfl) (Kept.one hm.drew 0 rfl) ?_
          replace hm := hm.drew
          refine VL.pure rfl rfl rfl (p_field (fo := 1) Try.underlying42 rfl Try.sizeOf40 rfl rfl rfl) ?_
          refine VL.read rfl rfl rfl (fun w' hw' => r_load (v := .slice _ _ _) Try.isAgg40 rfl (hw'.at_ 0 0 rfl) rfl) ?_
          refine VL.pure rfl rfl rfl (p_moveI rfl) ?_
          refine VL.pure rfl rfl rfl (p_idxN Try.underlying40 Try.sizeOf99 rfl rfl hk') ?_
          refine VL.read rfl rfl rfl (fun w' hw' => r_loadAgg (vs := [.int _ _, .int _ _, .int _ _, .int _ _]) Try.isAgg99 Try.sizeOf99 rfl (hw'.fix _ _ hb) rfl (hcc k m hmk)) ?_
          refine VL.call rfl rfl rfl (r_call1 Try.call76 rfl) (ref_member_c (m := m) hm) ?_
          rintro _ w ⟨rfl, hm⟩
          refine ⟨Kept.one hm 0 rfl, ?_⟩
          refine VL.pure rfl rfl rfl (p_notD rfl) ?_
          refine VL.pure rfl rfl rfl (p_moveB rfl) ?_
          refine VL.knownF 23 rfl (decide_eq_false (not_not_intro h5)) ?_
          refine VL.pureG rfl rfl rfl (p_moveI rfl) ?_
          refine VL.pureG rfl rfl rfl (p_gt rfl rfl) ?_
          refine VL.pureG rfl rfl rfl (p_moveB rfl) ?_
          refine VL.knownF 26 rfl (decide_eq_false (by omega)) ?_
          refine VL.pass rfl rfl ?_
          refine VL.pass rfl rfl ?_
          refine VL.pass rfl rfl ?_
          refine VL.pass rfl rfl ?_
          refine VL.pass rfl rfl ?_
          refine VL.pass rfl rfl ?_
          refine VL.pass rfl rfl ?_
          refine VL.pass rfl rfl ?_
          refine VL.pass rfl rfl ?_
          refine VL.pass rfl rfl ?_
          refine VL.pass rfl rfl ?_
          refine VL.pass rfl rfl ?_
          refine VL.pass rfl rfl ?_
          refine VL.pass rfl rfl ?_
          refine VL.pureG rfl rfl rfl (p_pickF rfl rfl) ?_
          refine VL.pure rfl rfl rfl (p_pickF rfl rfl) ?_
          refine VL.nil ?_
          repeat (first | refine VC.seq ?_ | refine VC.block ?_ | refine VC.skip ?_)
          refine VC.condF rfl rfl ?_
          repeat (first | refine VC.seq ?_ | refine VC.block ?_ | refine VC.skip ?_)
          have h6 : mbOk last m := by unfold mbOk at *; omega
          rw [if_pos h6] at hgo
          have h7 : 0 ≤ m.weight ∧ m.weight ≤ 1000 ∧ 0 ≤ m.id := by unfold mbOk at h6; omega
          repeat (first | refine VC.seq ?_ | refine VC.block ?_ | refine VC.skip ?_)
          refine VC.region ?_
          refine VR.pure rfl rfl (p_moveI rfl) ?_
          refine VR.pure rfl rfl (p_field (fo := 1) Try.underlying42 rfl Try.sizeOf40 rfl rfl rfl) ?_
          refine VR.val rfl rfl (r_load (v := .slice _ _ _) Try.isAgg40 rfl (hm.at_ 0 0 rfl) rfl) ?_
          refine VR.pure rfl rfl (p_moveI rfl) ?_
          refine VR.pure rfl rfl (p_idxN Try.underlying40 Try.sizeOf99 rfl rfl hk') ?_
          refine VR.pure rfl rfl (p_field (fo := 2) Try.underlying99 rfl Try.sizeOf3 rfl rfl rfl) ?_
          refine VR.val rfl rfl (r_load (v := .int _ _) Try.isAgg3 rfl (hm.fix _ _ hb) (hcc k m hmk 2 (by decide))) ?_
          refine VR.pure rfl rfl (p_add64 rfl rfl (by omega)) ?_
          refine VR.pure rfl rfl (p_assignI rfl) ?_
          refine VR.nil ?_
          repeat (first | refine VC.seq ?_ | refine VC.block ?_ | refine VC.skip ?_)
          refine VC.region ?_
          refine VR.pure rfl rfl (p_moveI rfl) ?_
          refine VR.pure rfl rfl (p_add64 rfl rfl (by omega)) ?_
          refine VR.pure rfl rfl (p_assignI rfl) ?_
          refine VR.nil ?_
          exact ⟨(k + 1, m.id, wt + m.weight), ⟨rfl, rfl, rfl, trivial⟩, ⟨hm, by simp only; omega, hgo, by simp only; omega, by simp only; omega, by simp only; omega, .inr ⟨m, hmk, by simp only; omega, rfl⟩⟩, by simp only; omega⟩
        · repeat (first | refine VC.seq ?_ | refine VC.block ?_ | refine VC.skip ?_)
          refine VC.loud (Kept F ([(b1, .cells #[.int .i64 ver, .slice (some ⟨b, off, none⟩) n c] 42 (0, 0))] :: [])) [5] rfl (by kernel_rfl) (Kept.one hm.drew 0 rfl) ?_
          replace hm := hm.drew
          refine VL.pure rfl rfl rfl (p_field (fo := 1) Try.underlying42 rfl Try.sizeOf40 rfl rfl rfl) ?_
          refine VL.read rfl rfl rfl (fun w' hw' => r_load (v := .slice _ _ _) Try.isAgg40 rfl (hw'.at_ 0 0 rfl) rfl) ?_
          refine VL.pure rfl rfl rfl (p_moveI rfl) ?_
          refine VL.pure rfl rfl rfl (p_idxN Try.underlying40 Try.sizeOf99 rfl rfl hk') ?_
          refine VL.read rfl rfl rfl (fun w' hw' => r_loadAgg (vs := [.int _ _, .int _ _, .int _ _, .int _ _]) Try.isAgg99 Try.sizeOf99 rfl (hw'.fix _ _ hb) rfl (hcc k m hmk)) ?_
          refine VL.call rfl rfl rfl (r_call1 Try.call76 rfl) (ref_member_c (m := m) hm) ?_
          rintro _ w ⟨rfl, hm⟩
          refine ⟨Kept.one hm 0 rfl, ?_⟩
          refine VL.pure rfl rfl rfl (p_notD rfl) ?_
          refine VL.pure rfl rfl rfl (p_moveB rfl) ?_
          refine VL.knownF 23 rfl (decide_eq_false (not_not_intro h5)) ?_
          refine VL.pureG rfl rfl rfl (p_moveI rfl) ?_
          refine VL.pureG rfl rfl rfl (p_gt rfl rfl) ?_
          refine VL.pureG rfl rfl rfl (p_moveB rfl) ?_
          refine VL.knownT 26 rfl (decide_eq_true (by omega)) ?_
          refine VL.pureG rfl rfl rfl (p_field (fo := 1) Try.underlying42 rfl Try.sizeOf40 rfl rfl rfl) ?_
          refine VL.readG rfl rfl rfl (fun w' hw' => r_load (v := .slice _ _ _) Try.isAgg40 rfl (hw'.at_ 0 0 rfl) rfl) ?_
          refine VL.pureG rfl rfl rfl (p_moveI rfl) ?_
          refine VL.pureG rfl rfl rfl (p_idxN Try.underlying40 Try.sizeOf99 rfl rfl hk') ?_
          refine VL.pureG rfl rfl rfl (p_field (fo := 0) Try.underlying99 rfl Try.sizeOf3 rfl rfl rfl) ?_
          refine VL.readG rfl rfl rfl (fun w' hw' => r_load (v := .int _ _) Try.isAgg3 rfl (hw'.fix _ _ hb) (hcc k m hmk 0 (by decide))) ?_
          refine VL.pureG rfl rfl rfl (p_field (fo := 1) Try.underlying42 rfl Try.sizeOf40 rfl rfl rfl) ?_
          refine VL.readG rfl rfl rfl (fun w' hw' => r_load (v := .slice _ _ _) Try.isAgg40 rfl (hw'.at_ 0 0 rfl) rfl) ?_
          refine VL.pureG rfl rfl rfl (p_moveI rfl) ?_
          refine VL.pureG rfl rfl rfl (p_sub64E (r := ((k - 1 : Nat) : Int)) rfl rfl (by omega) (by omega)) ?_
          refine VL.pureG rfl rfl rfl (p_idxN Try.underlying40 Try.sizeOf99 rfl rfl (by omega : k - 1 < n)) ?_
          refine VL.pureG rfl rfl rfl (p_field (fo := 0) Try.underlying99 rfl Try.sizeOf3 rfl rfl rfl) ?_
          refine VL.readG rfl rfl rfl (fun w' hw' => r_load (v := .int _ _) Try.isAgg3 rfl (hw'.fix _ _ hb) (hcc (k - 1) p hp 0 (by decide))) ?_
          refine VL.pureG rfl rfl rfl (p_le rfl rfl) ?_
          refine VL.pureG rfl rfl rfl (p_pickT rfl rfl) ?_
          refine VL.pure rfl rfl rfl (p_pickF rfl rfl) ?_
          refine VL.nil ?_
          repeat (first | refine VC.seq ?_ | refine VC.block ?_ | refine VC.skip ?_)
          refine VC.condD rfl (fun h8 => ?_) (fun h8 => ?_)
          · repeat (first | refine VC.seq ?_ | refine VC.block ?_ | refine VC.skip ?_)
            refine VC.region ?_
            refine VR.pure rfl rfl (p_assignI rfl) ?_
            refine VR.nil ?_
            repeat (first | refine VC.seq ?_ | refine VC.block ?_ | refine VC.skip ?_)
            refine VC.ret ⟨_, ResOf.r1 (v := .int _ _) rfl rfl, ?_⟩
            refine ⟨?_, hm.pop⟩
            rw [hrest (by unfold mbOk at *; omega)]
          · repeat (first | refine VC.seq ?_ | refine VC.block ?_ | refine VC.skip ?_)
            have h6 : mbOk last m := by unfold mbOk at *; omega
            rw [if_pos h6] at hgo
            have h7 : 0 ≤ m.weight ∧ m.weight ≤ 1000 ∧ 0 ≤ m.id := by unfold mbOk at h6; omega
            repeat (first | refine VC.seq ?_ | refine VC.block ?_ | refine VC.skip ?_)
            refine VC.region ?_
            refine VR.pure rfl rfl (p_moveI rfl) ?_
            refine VR.pure rfl rfl (p_field (fo := 1) Try.underlying42 rfl Try.sizeOf40 rfl rfl rfl) ?_
            refine VR.val rfl rfl (r_load (v := .slice _ _ _) Try.isAgg40 rfl (hm.at_ 0 0 rfl) rfl) ?_
            refine VR.pure rfl rfl (p_moveI rfl) ?_
            refine VR.pure rfl rfl (p_idxN Try.underlying40 Try.sizeOf99 rfl rfl hk') ?_
            refine VR.pure rfl rfl (p_field (fo := 2) Try.underlying99 rfl Try.sizeOf3 rfl rfl rfl) ?_
            refine VR.val rfl rfl (r_load (v := .int _ _) Try.isAgg3 rfl (hm.fix _ _ hb) (hcc k m hmk 2 (by decide))) ?_
            refine VR.pure rfl rfl (p_add64 rfl rfl (by omega)) ?_
            refine VR.pure rfl rfl (p_assignI rfl) ?_
            refine VR.nil ?_
            repeat (first | refine VC.seq ?_ | refine VC.block ?_ | refine VC.skip ?_)
            refine VC.region ?_
            refine VR.pure rfl rfl (p_moveI rfl) ?_
            refine VR.pure rfl rfl (p_add64 rfl rfl (by omega)) ?_
            refine VR.pure rfl rfl (p_assignI rfl) ?_
            refine VR.nil ?_
            exact ⟨(k + 1, m.id, wt + m.weight), ⟨rfl, rfl, rfl, trivial⟩, ⟨hm, by simp only; omega, hgo, by simp only; omega, by simp only; omega, by simp only; omega, .inr ⟨m, hmk, by simp only; omega, rfl⟩⟩, by simp only; omega⟩
      · repeat (first | refine VC.seq ?_ | refine VC.block ?_ | refine VC.skip ?_)
        refine VC.loud (Kept F ([(b1, .cells #[.int .i64 ver, .slice (some ⟨b, off, none⟩) n c] 42 (0, 0))] :: [])) [5] rfl (by kernel_rfl) (Kept.one hm.drew 0 rfl) ?_
        replace hm := hm.drew
        refine VL.pure rfl rfl rfl (p_field (fo := 1) Try.underlying42 rfl Try.sizeOf40 rfl rfl rfl) ?_
        refine VL.read rfl rfl rfl (fun w' hw' => r_load (v := .slice _ _ _) Try.isAgg40 rfl (hw'.at_ 0 0 rfl) rfl) ?_
        refine VL.pure rfl rfl rfl (p_moveI rfl) ?_
        refine VL.pure rfl rfl rfl (p_idxN Try.underlying40 Try.sizeOf99 rfl rfl hk') ?_
        refine VL.read rfl rfl rfl (fun w' hw' => r_loadAgg (vs := [.int _ _, .int _ _, .int _ _, .int _ _]) Try.isAgg99 Try.sizeOf99 rfl (hw'.fix _ _ hb) rfl (hcc k m hmk)) ?_
        refine VL.call rfl rfl rfl (r_call1 Try.call76 rfl) (ref_member_c (m := m) hm) ?_
        rintro _ w ⟨rfl, hm⟩
        refine ⟨Kept.one hm 0 rfl, ?_⟩
        refine VL.pure rfl rfl rfl (p_notD rfl) ?_
        refine VL.pure rfl rfl rfl (p_moveB rfl) ?_
        refine VL.knownT 23 rfl (decide_eq_true h5) ?_
        refine VL.pass rfl rfl ?_
        refine VL.pass rfl rfl ?_
        refine VL.pass rfl rfl ?_
        refine VL.pass rfl rfl ?_
        refine VL.pass rfl rfl ?_
        refine VL.pass rfl rfl ?_
        refine VL.pass rfl rfl ?_
        refine VL.pass rfl rfl ?_
        refine VL.pass rfl rfl ?_
        refine VL.pass rfl rfl ?_
        refine VL.pass rfl rfl ?_
        refine VL.pass rfl rfl ?_
        refine VL.pass rfl rfl ?_
        refine VL.pass rfl rfl ?_
        refine VL.pass rfl rfl ?_
        refine VL.pass rfl rfl ?_
        refine VL.pass rfl rfl ?_
        refine VL.pass rfl rfl ?_
        refine VL.pure rfl rfl rfl (p_pickT rfl rfl) ?_
        refine VL.nil ?_
        repeat (first | refine VC.seq ?_ | refine VC.block ?_ | refine VC.skip ?_)
        refine VC.condT rfl rfl ?_
        repeat (first | refine VC.seq ?_ | refine VC.block ?_ | refine VC.skip ?_)
        refine VC.region ?_
        refine VR.pure rfl rfl (p_assignI rfl) ?_
        refine VR.nil ?_
        repeat (first | refine VC.seq ?_ | refine VC.block ?_ | refine VC.skip ?_)
        refine VC.ret ⟨_, ResOf.r1 (v := .int _ _) rfl rfl, ?_⟩
        refine ⟨?_, hm.pop⟩
        rw [hrest (by unfold mbOk at *; omega)]
    · repeat (first | refine VC.seq ?_ | refine VC.block ?_ | refine VC.skip ?_)
      refine VC.exit ?_
      have hkn : k = n := by omega
      rw [hkn, List.drop_of_length_le (by omega), chkGo_nil] at hgo
      have hfin : checkE ver ms = if wt = 0 ∨ ver < 0 ∨ 4611686018427387904 < ver then 140 else 0 := by
        unfold checkE
        rw [if_neg (by omega), hgo]
      repeat (first | refine VC.seq ?_ | refine VC.block ?_ | refine VC.skip ?_)
      refine VC.region ?_
      refine VR.pure rfl rfl (p_moveI rfl) ?_
      refine VR.pure rfl rfl (p_eq rfl rfl) ?_
      refine VR.pure rfl rfl (p_moveB rfl) ?_
      refine VR.splitD 53 rfl (fun h4 => ?_) (fun h4 => ?_)
      refine VR.pass rfl rfl ?_
      refine VR.pass rfl rfl ?_
      refine VR.pass rfl rfl ?_
      refine VR.pure rfl rfl (p_pickT rfl rfl) ?_
      refine VR.pure rfl rfl (p_moveB rfl) ?_
      refine VR.pass rfl rfl ?_
      refine VR.pass rfl rfl ?_
      refine VR.pass rfl rfl ?_
      refine VR.pure rfl rfl (p_pickT rfl rfl) ?_
      refine VR.nil ?_
      rotate_left 1
      refine VR.pureG rfl rfl (p_field (fo := 0) Try.underlying42 rfl Try.sizeOf22 rfl rfl rfl) ?_
      refine VR.valG rfl rfl (r_load (v := .int _ _) Try.isAgg22 rfl (hm.at_ 0 0 rfl) rfl) ?_
      refine VR.pureG rfl rfl (p_lt rfl rfl) ?_
      refine VR.pure rfl rfl (p_pickF rfl rfl) ?_
      refine VR.pure rfl rfl (p_moveB rfl) ?_
      refine VR.splitD 58 rfl (fun h5 => ?_) (fun h5 => ?_)
      refine VR.pass rfl rfl ?_
      refine VR.pass rfl rfl ?_
      refine VR.pass rfl rfl ?_
      refine VR.pure rfl rfl (p_pickT rfl rfl) ?_
      refine VR.nil ?_
      rotate_left 1
      refine VR.pureG rfl rfl (p_field (fo := 0) Try.underlying42 rfl Try.sizeOf22 rfl rfl rfl) ?_
      refine VR.valG rfl rfl (r_load (v := .int _ _) Try.isAgg22 rfl (hm.at_ 0 0 rfl) rfl) ?_
      refine VR.pureG rfl rfl (p_gt rfl rfl) ?_
      refine VR.pure rfl rfl (p_pickF rfl rfl) ?_
      refine VR.nil ?_
      rotate_left 1
      · repeat (first | refine VC.seq ?_ | refine VC.block ?_ | refine VC.skip ?_)
        refine VC.condT rfl rfl ?_
        repeat (first | refine VC.seq ?_ | refine VC.block ?_ | refine VC.skip ?_)
        refine VC.region ?_
        refine VR.pure rfl rfl (p_assignI rfl) ?_
        refine VR.nil ?_
        repeat (first | refine VC.seq ?_ | refine VC.block ?_ | refine VC.skip ?_)
        refine VC.ret ⟨_, ResOf.r1 (v := .int _ _) rfl rfl, ?_⟩
        refine ⟨?_, hm.pop⟩
        rw [hfin, if_pos (.inl h4)]
      · repeat (first | refine VC.seq ?_ | refine VC.block ?_ | refine VC.skip ?_)
        refine VC.condT rfl rfl ?_
        repeat (first | refine VC.seq ?_ | refine VC.block ?_ | refine VC.skip ?_)
        refine VC.region ?_
        refine VR.pure rfl rfl (p_assignI rfl) ?_
        refine VR.nil ?_
        repeat (first | refine VC.seq ?_ | refine VC.block ?_ | refine VC.skip ?_)
        refine VC.ret ⟨_, ResOf.r1 (v := .int _ _) rfl rfl, ?_⟩
        refine ⟨?_, hm.pop⟩
        rw [hfin, if_pos (.inr (.inl h5))]
      · repeat (first | refine VC.seq ?_ | refine VC.block ?_ | refine VC.skip ?_)
        refine VC.condD rfl (fun h6 => ?_) (fun h6 => ?_)
        · repeat (first | refine VC.seq ?_ | refine VC.block ?_ | refine VC.skip ?_)
          refine VC.region ?_
          refine VR.pure rfl rfl (p_assignI rfl) ?_
          refine VR.nil ?_
          repeat (first | refine VC.seq ?_ | refine VC.block ?_ | refine VC.skip ?_)
          refine VC.ret ⟨_, ResOf.r1 (v := .int _ _) rfl rfl, ?_⟩
          refine ⟨?_, hm.pop⟩
          rw [hfin, if_pos (.inr (.inr h6))]
        · repeat (first | refine VC.seq ?_ | refine VC.block ?_ | refine VC.skip ?_)
          refine VC.region ?_
          refine VR.pure rfl rfl (p_assignI rfl) ?_
          refine VR.nil ?_
          repeat (first | refine VC.seq ?_ | refine VC.block ?_ | refine VC.skip ?_)
          refine VC.ret ⟨_, ResOf.r1 (v := .int _ _) rfl rfl, ?_⟩
          refine ⟨?_, hm.pop⟩
          rw [hfin, if_neg (by omega)]

end Go.Bd
