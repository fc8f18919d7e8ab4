/- Contracts of layer 10: what a link takes. Conditions: as each states. -/
import Derived.Test.Ytfaihpikeagpcaa10b
namespace Go.Bd
open Go.Proofs
set_option linter.unusedVariables false
set_option maxRecDepth 20000

theorem meet_inc (k : Lk) (p : Pk) : (k.meet p).1.inc = k.inc := by
  unfold Lk.meet
  split
  · split <;> rfl
  · rfl
theorem meet_ok {k : Lk} (p : Pk) (h : k.ok) : (k.meet p).1.ok := by
  unfold Lk.meet
  split
  · split <;> (unfold Lk.ok; simp only; omega)
  · exact h

theorem done_ok {k : Lk} (p : Pk) (h : k.ok) : (k.done p).acked ≤ 1000000000000 ∧ 0 ≤ (k.done p).acked ∧ 0 ≤ (k.done p).got ∧ (k.done p).got < 1000000000000 := by
  unfold Lk.done
  unfold Lk.ok at h
  split <;> first | omega | (simp only; omega)

set_option maxHeartbeats 4000000 in
theorem take_c {F : Env} {w : World} {Ls : List Blks} {g : Nat} {k : Lk} {cs : Array Value} {L : Blks} {p : Pk} {B : Option Addr} {m d : Nat} (hm : Mem F w ([(g, .cells cs 33 (0, 0))] :: L :: Ls)) (hk : LkAt F.heap k cs L) (hko : k.ok)
    (hr : BRow F.heap B m p.load) (hm48 : m ≤ 140737488355328) :
    Calls Try.prog 9 #[.pointer (some ⟨g, 0, none⟩), .agg #[.int .i64 p.from_, .int .i64 p.to, .int .i64 p.seq, .int .i64 p.ack, .slice B m d]] w
      (Ret fun v w' => ∃ cs' L' A' c' L'', v = .tuple #[.slice A' ((k.take p).1.getD []).length c', .bool (k.take p).1.isSome, .bool (k.take p).2.1] ∧ LkAt F.heap (k.take p).2.2 cs' L' ∧
        OwnS 5 1 A' ((k.take p).1.getD []).length c' (bytes ((k.take p).1.getD [])) L'' ∧ Mem F w' (L'' :: [(g, .cells cs' 33 (0, 0))] :: L' :: Ls)) := by
  have hk0 := hk
  obtain ⟨A, n, c, ws, rfl, ho, hws, hwo⟩ := hk
  have hl := bcells_len ho
  have hml := hr.len
  refine Calls.of_vc Try.func9 rfl Try.ntmps9 rfl ?_
  repeat (first | refine VC.seq ?_ | refine VC.block ?_ | refine VC.skip ?_)
  refine VC.region ?_
  refine VR.new hm rfl rfl (n_boxG rfl) ?_
  intro b3 w hm
  refine VR.pure rfl rfl (p_assignL rfl) ?_
  refine VR.pure rfl rfl (p_assignB rfl) ?_
  refine VR.pure rfl rfl (p_assignB rfl) ?_
  refine VR.nil ?_
  repeat (first | refine VC.seq ?_ | refine VC.block ?_ | refine VC.skip ?_)
  refine VC.loud (Kept F ([(b3, .cells #[.int .i64 p.from_, .int .i64 p.to, .int .i64 p.seq, .int .i64 p.ack, .slice B m d] 24 (0, 0))] :: [(g, .cells #[.int .i64 k.inc, .int .i64 k.peer, .int .i64 k.acked, .int .i64 k.got, .slice A n c] 33 (0, 0))] :: L :: Ls)) [1] rfl (by kernel_rfl) (Kept.here0 hm.drew) ?_
  replace hm := hm.drew
  refine VL.pure rfl rfl rfl (p_moveP rfl) ?_
  refine VL.call rfl rfl rfl (r_call1 Try.call32 rfl) (there_c hm.pop) ?_
  rintro _ w ⟨rfl, rfl⟩
  refine ⟨Kept.here0 hm, ?_⟩
  refine VL.pure rfl rfl rfl (p_notD rfl) ?_
  refine VL.pure rfl rfl rfl (p_moveB rfl) ?_
  refine VL.splitD 11 rfl (fun h1 => ?_) (fun h1 => ?_)
  refine VL.pass rfl rfl ?_
  refine VL.pass rfl rfl ?_
  refine VL.pass rfl rfl ?_
  refine VL.pure rfl rfl rfl (p_pickT rfl rfl) ?_
  refine VL.pure rfl rfl rfl (p_moveB rfl) ?_
  refine VL.pass rfl rfl ?_
  refine VL.pass rfl rfl ?_
  refine VL.pass rfl rfl ?_
  refine VL.pass rfl rfl ?_
  refine VL.pass rfl rfl ?_
  refine VL.pass rfl rfl ?_
  refine VL.pass rfl rfl ?_
  refine VL.pass rfl rfl ?_
  refine VL.pure rfl rfl rfl (p_pickT rfl rfl) ?_
  refine VL.nil ?_
  rotate_left 1
  refine VL.pureG rfl rfl rfl (p_field (fo := 0) Try.underlying24 rfl Try.sizeOf3 rfl rfl rfl) ?_
  refine VL.readG rfl rfl rfl (fun w' hw' => r_load (v := .int _ _) Try.isAgg3 rfl (hw'.at_ 0 0 rfl) rfl) ?_
  refine VL.pureG rfl rfl rfl (p_lt rfl rfl) ?_
  refine VL.pure rfl rfl rfl (p_pickF rfl rfl) ?_
  refine VL.pure rfl rfl rfl (p_moveB rfl) ?_
  refine VL.splitD 16 rfl (fun h2 => ?_) (fun h2 => ?_)
  refine VL.pass rfl rfl ?_
  refine VL.pass rfl rfl ?_
  refine VL.pass rfl rfl ?_
  refine VL.pass rfl rfl ?_
  refine VL.pass rfl rfl ?_
  refine VL.pass rfl rfl ?_
  refine VL.pass rfl rfl ?_
  refine VL.pass rfl rfl ?_
  refine VL.pure rfl rfl rfl (p_pickT rfl rfl) ?_
  refine VL.nil ?_
  rotate_left 1
  refine VL.pureG rfl rfl rfl (p_field (fo := 0) Try.underlying24 rfl Try.sizeOf3 rfl rfl rfl) ?_
  refine VL.readG rfl rfl rfl (fun w' hw' => r_load (v := .int _ _) Try.isAgg3 rfl (hw'.at_ 0 0 rfl) rfl) ?_
  refine VL.pureG rfl rfl rfl (p_moveP rfl) ?_
  refine VL.pureG rfl rfl rfl (p_nilCheck rfl) ?_
  refine VL.pureG rfl rfl rfl (p_field (fo := 1) Try.underlying33 rfl Try.sizeOf31 rfl rfl rfl) ?_
  refine VL.pureG rfl rfl rfl (p_field (fo := 0) Try.underlying31 rfl Try.sizeOf3 rfl rfl rfl) ?_
  refine VL.readG rfl rfl rfl (fun w' hw' => r_load (v := .int _ _) Try.isAgg3 rfl (hw'.at_ 1 0 rfl) rfl) ?_
  refine VL.pureG rfl rfl rfl (p_lt rfl rfl) ?_
  refine VL.pure rfl rfl rfl (p_pickF rfl rfl) ?_
  refine VL.nil ?_
  rotate_left 1
  · have e : k.take p = (none, false, k) := by unfold Lk.take; rw [if_pos (.inl h1)]
    repeat (first | refine VC.seq ?_ | refine VC.block ?_ | refine VC.skip ?_)
    refine VC.condT rfl rfl ?_
    repeat (first | refine VC.seq ?_ | refine VC.block ?_ | refine VC.skip ?_)
    refine VC.region ?_
    refine VR.pure rfl rfl (p_assignL rfl) ?_
    refine VR.pure rfl rfl (p_assignB rfl) ?_
    refine VR.pure rfl rfl (p_assignB rfl) ?_
    refine VR.nil ?_
    repeat (first | refine VC.seq ?_ | refine VC.block ?_ | refine VC.skip ?_)
    refine VC.ret ⟨_, ResOf.r3 (v := .slice _ _ _) (u := .bool _) (x := .bool _) rfl rfl rfl rfl, ?_⟩
    rw [e]
    exact ⟨_, L, none, 0, [], rfl, hk0, OwnS.nil _ _, hm.pop.nil_⟩
  · have e : k.take p = (none, false, k) := by unfold Lk.take; rw [if_pos (.inr (.inl h2))]
    repeat (first | refine VC.seq ?_ | refine VC.block ?_ | refine VC.skip ?_)
    refine VC.condT rfl rfl ?_
    repeat (first | refine VC.seq ?_ | refine VC.block ?_ | refine VC.skip ?_)
    refine VC.region ?_
    refine VR.pure rfl rfl (p_assignL rfl) ?_
    refine VR.pure rfl rfl (p_assignB rfl) ?_
    refine VR.pure rfl rfl (p_assignB rfl) ?_
    refine VR.nil ?_
    repeat (first | refine VC.seq ?_ | refine VC.block ?_ | refine VC.skip ?_)
    refine VC.ret ⟨_, ResOf.r3 (v := .slice _ _ _) (u := .bool _) (x := .bool _) rfl rfl rfl rfl, ?_⟩
    rw [e]
    exact ⟨_, L, none, 0, [], rfl, hk0, OwnS.nil _ _, hm.pop.nil_⟩
  · repeat (first | refine VC.seq ?_ | refine VC.block ?_ | refine VC.skip ?_)
    refine VC.condD rfl (fun h3 => ?_) (fun h3 => ?_)
    · have e : k.take p = (none, false, k) := by unfold Lk.take; rw [if_pos (.inr (.inr h3))]
      repeat (first | refine VC.seq ?_ | refine VC.block ?_ | refine VC.skip ?_)
      refine VC.region ?_
      refine VR.pure rfl rfl (p_assignL rfl) ?_
      refine VR.pure rfl rfl (p_assignB rfl) ?_
      refine VR.pure rfl rfl (p_assignB rfl) ?_
      refine VR.nil ?_
      repeat (first | refine VC.seq ?_ | refine VC.block ?_ | refine VC.skip ?_)
      refine VC.ret ⟨_, ResOf.r3 (v := .slice _ _ _) (u := .bool _) (x := .bool _) rfl rfl rfl rfl, ?_⟩
      rw [e]
      exact ⟨_, L, none, 0, [], rfl, hk0, OwnS.nil _ _, hm.pop.nil_⟩
    · have h0 : ¬ (¬ k.there ∨ p.from_ < 1 ∨ p.from_ < k.peer) := by
        rintro (h | h | h)
        · exact h1 h
        · exact h2 h
        · exact h3 h
      repeat (first | refine VC.seq ?_ | refine VC.block ?_ | refine VC.skip ?_)
      refine VC.loud (Kept F ([(b3, .cells #[.int .i64 p.from_, .int .i64 p.to, .int .i64 p.seq, .int .i64 p.ack, .slice B m d] 24 (0, 0))] :: [(g, .cells #[.int .i64 k.inc, .int .i64 k.peer, .int .i64 k.acked, .int .i64 k.got, .slice A n c] 33 (0, 0))] :: L :: Ls)) [] rfl (by kernel_rfl) (Kept.here0 hm.drew) ?_
      replace hm := hm.drew
      refine VL.pure rfl rfl rfl (p_field (fo := 0) Try.underlying24 rfl Try.sizeOf3 rfl rfl rfl) ?_
      refine VL.read rfl rfl rfl (fun w' hw' => r_load (v := .int _ _) Try.isAgg3 rfl (hw'.at_ 0 0 rfl) rfl) ?_
      refine VL.pure rfl rfl rfl (p_moveP rfl) ?_
      refine VL.pure rfl rfl rfl (p_nilCheck rfl) ?_
      refine VL.pure rfl rfl rfl (p_field (fo := 1) Try.underlying33 rfl Try.sizeOf31 rfl rfl rfl) ?_
      refine VL.pure rfl rfl rfl (p_field (fo := 0) Try.underlying31 rfl Try.sizeOf3 rfl rfl rfl) ?_
      refine VL.read rfl rfl rfl (fun w' hw' => r_load (v := .int _ _) Try.isAgg3 rfl (hw'.at_ 1 0 rfl) rfl) ?_
      refine VL.pure rfl rfl rfl (p_gt rfl rfl) ?_
      refine VL.nil ?_
      repeat (first | refine VC.seq ?_ | refine VC.block ?_ | refine VC.skip ?_)
      refine VC.meet (σ := Array Value × Blks × Bool) (fun s => [(0, .pointer (some ⟨g, 0, none⟩)), (3, .pointer (some ⟨b3, 0, none⟩)), (6, .bool s.2.2)])
        (fun s w => Mem F w ([(b3, .cells #[.int .i64 p.from_, .int .i64 p.to, .int .i64 p.seq, .int .i64 p.ack, .slice B m d] 24 (0, 0))] :: [(g, .cells s.1 33 (0, 0))] :: s.2.1 :: Ls) ∧ LkAt F.heap (k.meet p).1 s.1 s.2.1 ∧ s.2.2 = (k.meet p).2) ?_ ?_
      · refine VC.condD rfl (fun h4 => ?_) (fun h4 => ?_)
        · repeat (first | refine VC.seq ?_ | refine VC.block ?_ | refine VC.skip ?_)
          refine VC.region ?_
          refine VR.pure rfl rfl (p_moveP rfl) ?_
          refine VR.pure rfl rfl (p_nilCheck rfl) ?_
          refine VR.pure rfl rfl (p_field (fo := 1) Try.underlying33 rfl Try.sizeOf31 rfl rfl rfl) ?_
          refine VR.pure rfl rfl (p_field (fo := 3) Try.underlying31 rfl Try.sizeOf29 rfl rfl rfl) ?_
          refine VR.val rfl rfl (r_load (v := .slice _ _ _) Try.isAgg29 rfl (hm.at_ 1 0 rfl) rfl) ?_
          refine VR.pure rfl rfl (p_assignL rfl) ?_
          refine VR.nil ?_
          repeat (first | refine VC.seq ?_ | refine VC.block ?_ | refine VC.skip ?_)
          refine VC.region ?_
          refine VR.pure rfl rfl (p_moveP rfl) ?_
          refine VR.pure rfl rfl (p_nilCheck rfl) ?_
          refine VR.pure rfl rfl (p_field (fo := 1) Try.underlying33 rfl Try.sizeOf31 rfl rfl rfl) ?_
          refine VR.pure rfl rfl (p_field (fo := 0) Try.underlying31 rfl Try.sizeOf3 rfl rfl rfl) ?_
          refine VR.val rfl rfl (r_load (v := .int _ _) Try.isAgg3 rfl (hm.at_ 1 0 rfl) rfl) ?_
          refine VR.pure rfl rfl (p_gt rfl rfl) ?_
          refine VR.pure rfl rfl (p_assignB rfl) ?_
          refine VR.nil ?_
          repeat (first | refine VC.seq ?_ | refine VC.block ?_ | refine VC.skip ?_)
          refine VC.region ?_
          refine VR.pure rfl rfl (p_moveB rfl) ?_
          refine VR.nil ?_
          repeat (first | refine VC.seq ?_ | refine VC.block ?_ | refine VC.skip ?_)
          refine VC.condD rfl (fun h5 => ?_) (fun h5 => ?_)
          · have em : k.meet p = (⟨k.inc, p.from_, 0, 0, []⟩, true) := by unfold Lk.meet; rw [if_pos h4, if_pos h5]
            repeat (first | refine VC.seq ?_ | refine VC.block ?_ | refine VC.skip ?_)
            refine VC.region ?_
            refine VR.pure rfl rfl (p_assignL rfl) ?_
            refine VR.nil ?_
            repeat (first | refine VC.seq ?_ | refine VC.block ?_ | refine VC.skip ?_)
            refine VC.region ?_
            refine VR.pure rfl rfl (p_moveP rfl) ?_
            refine VR.pure rfl rfl (p_field (fo := 0) Try.underlying24 rfl Try.sizeOf3 rfl rfl rfl) ?_
            refine VR.val rfl rfl (r_load (v := .int _ _) Try.isAgg3 rfl (hm.at_ 0 0 rfl) rfl) ?_
            refine VR.pure rfl rfl (p_moveL rfl) ?_
            refine VR.pure rfl rfl (p_build (vs := [(0, .int _ _), (3, .slice _ _ _)]) bld31_0_3 rfl) ?_
            refine VR.pure rfl rfl (p_nilCheck rfl) ?_
            refine VR.pure rfl rfl (p_field (fo := 1) Try.underlying33 rfl Try.sizeOf31 rfl rfl rfl) ?_
            refine VR.store (cs' := #[.int .i64 k.inc, .int .i64 p.from_, .int .i64 0, .int .i64 0, .slice none 0 0]) (v := .agg _) Try.sizeOf31 rfl rfl rfl rfl rfl hm 1 0 rfl (Nat.ble_eq.mp rfl) rfl ?_
            intro w hm
            refine VR.nil ?_
            rw [em]
            replace hm : Mem F w ([(b3, .cells #[.int .i64 p.from_, .int .i64 p.to, .int .i64 p.seq, .int .i64 p.ack, .slice B m d] 24 (0, 0))] :: [(g, .cells #[.int .i64 k.inc, .int .i64 p.from_, .int .i64 0, .int .i64 0, .slice none 0 0] 33 (0, 0))] :: L :: Ls) := hm
            exact ⟨(#[.int .i64 k.inc, .int .i64 p.from_, .int .i64 0, .int .i64 0, .slice none 0 0], [], decide (0 < k.peer)), ⟨rfl, rfl, rfl, trivial⟩, hm.rot3.pop.nil_.rot3.rot3, ⟨none, 0, 0, [], rfl, OwnO.nil _ _, rfl, fun b hb => by simp at hb⟩, decide_eq_true h5⟩
          · have em : k.meet p = (⟨k.inc, p.from_, 0, 0, k.wait⟩, false) := by unfold Lk.meet; rw [if_pos h4, if_neg h5]
            repeat (first | refine VC.seq ?_ | refine VC.block ?_ | refine VC.skip ?_)
            refine VC.region ?_
            refine VR.pure rfl rfl (p_moveP rfl) ?_
            refine VR.pure rfl rfl (p_field (fo := 0) Try.underlying24 rfl Try.sizeOf3 rfl rfl rfl) ?_
            refine VR.val rfl rfl (r_load (v := .int _ _) Try.isAgg3 rfl (hm.at_ 0 0 rfl) rfl) ?_
            refine VR.pure rfl rfl (p_moveL rfl) ?_
            refine VR.pure rfl rfl (p_build (vs := [(0, .int _ _), (3, .slice _ _ _)]) bld31_0_3 rfl) ?_
            refine VR.pure rfl rfl (p_nilCheck rfl) ?_
            refine VR.pure rfl rfl (p_field (fo := 1) Try.underlying33 rfl Try.sizeOf31 rfl rfl rfl) ?_
            refine VR.store (cs' := #[.int .i64 k.inc, .int .i64 p.from_, .int .i64 0, .int .i64 0, .slice A n c]) (v := .agg _) Try.sizeOf31 rfl rfl rfl rfl rfl hm 1 0 rfl (Nat.ble_eq.mp rfl) rfl ?_
            intro w hm
            refine VR.nil ?_
            rw [em]
            exact ⟨(#[.int .i64 k.inc, .int .i64 p.from_, .int .i64 0, .int .i64 0, .slice A n c], L, decide (0 < k.peer)), ⟨rfl, rfl, rfl, trivial⟩, hm, ⟨A, n, c, ws, rfl, ho, hws, hwo⟩, decide_eq_false h5⟩
        · have em : k.meet p = (k, false) := by unfold Lk.meet; rw [if_neg h4]
          repeat (first | refine VC.seq ?_ | refine VC.block ?_ | refine VC.skip ?_)
          rw [em]
          exact ⟨(#[.int .i64 k.inc, .int .i64 k.peer, .int .i64 k.acked, .int .i64 k.got, .slice A n c], L, false), ⟨rfl, rfl, rfl, trivial⟩, hm, hk0, rfl⟩
      clear hm hk0 ho hws hwo hl
      rintro ⟨cs1, L1, broke⟩ A' w ⟨hm, hk1, hbr⟩
      dsimp only at hm hk1 hbr ⊢
      have hinc := meet_inc k p
      have hok1 := meet_ok p hko
      unfold Lk.take
      rw [if_neg h0]
      subst hbr
      generalize (k.meet p).2 = broke at hm ⊢
      generalize (k.meet p).1 = k1 at hk1 hinc hok1 hm ⊢
      have hk10 := hk1
      obtain ⟨A1, n1, c1, ws1, rfl, ho1, hws1, hwo1⟩ := hk1
      have hl1 := bcells_len ho1
      have hwl1 : k1.wait.length = n1 := by rw [← hws1, List.length_map, hl1]
      have hok1' := hok1
      unfold Lk.ok at hok1'
      repeat (first | refine VC.seq ?_ | refine VC.block ?_ | refine VC.skip ?_)
      refine VC.loud (Kept F ([(b3, .cells #[.int .i64 p.from_, .int .i64 p.to, .int .i64 p.seq, .int .i64 p.ack, .slice B m d] 24 (0, 0))] :: [(g, .cells #[.int .i64 k1.inc, .int .i64 k1.peer, .int .i64 k1.acked, .int .i64 k1.got, .slice A1 n1 c1] 33 (0, 0))] :: L1 :: Ls)) [] rfl (by kernel_rfl) (Kept.here0 hm.drew) ?_
      replace hm := hm.drew
      refine VL.pure rfl rfl rfl (p_field (fo := 1) Try.underlying24 rfl Try.sizeOf3 rfl rfl rfl) ?_
      refine VL.read rfl rfl rfl (fun w' hw' => r_load (v := .int _ _) Try.isAgg3 rfl (hw'.at_ 0 0 rfl) rfl) ?_
      refine VL.pure rfl rfl rfl (p_moveP rfl) ?_
      refine VL.pure rfl rfl rfl (p_nilCheck rfl) ?_
      refine VL.pure rfl rfl rfl (p_field (fo := 0) Try.underlying33 rfl Try.sizeOf3 rfl rfl rfl) ?_
      refine VL.read rfl rfl rfl (fun w' hw' => r_load (v := .int _ _) Try.isAgg3 rfl (hw'.at_ 1 0 rfl) rfl) ?_
      refine VL.pure rfl rfl rfl (p_ne rfl rfl) ?_
      refine VL.nil ?_
      repeat (first | refine VC.seq ?_ | refine VC.block ?_ | refine VC.skip ?_)
      refine VC.condD rfl (fun h4 => ?_) (fun h4 => ?_)
      · repeat (first | refine VC.seq ?_ | refine VC.block ?_ | refine VC.skip ?_)
        refine VC.region ?_
        refine VR.pure rfl rfl (p_moveB rfl) ?_
        refine VR.pure rfl rfl (p_assignL rfl) ?_
        refine VR.pure rfl rfl (p_assignB rfl) ?_
        refine VR.pure rfl rfl (p_assignB rfl) ?_
        refine VR.nil ?_
        repeat (first | refine VC.seq ?_ | refine VC.block ?_ | refine VC.skip ?_)
        refine VC.ret ⟨_, ResOf.r3 (v := .slice _ _ _) (u := .bool _) (x := .bool _) rfl rfl rfl rfl, ?_⟩
        rw [if_pos (by rw [← hinc]; exact h4)]
        exact ⟨_, L1, none, 0, [], rfl, hk10, OwnS.nil _ _, hm.pop.nil_⟩
      · rw [if_neg (by rw [← hinc]; exact h4)]
        repeat (first | refine VC.seq ?_ | refine VC.block ?_ | refine VC.skip ?_)
        refine VC.meet (σ := Bool) (fun b => [(0, .pointer (some ⟨g, 0, none⟩)), (3, .pointer (some ⟨b3, 0, none⟩)), (6, .bool broke), (78, .bool b)])
          (fun b w => Mem F w ([(b3, .cells #[.int .i64 p.from_, .int .i64 p.to, .int .i64 p.seq, .int .i64 p.ack, .slice B m d] 24 (0, 0))] :: [(g, .cells #[.int .i64 k1.inc, .int .i64 k1.peer, .int .i64 k1.acked, .int .i64 k1.got, .slice A1 n1 c1] 33 (0, 0))] :: L1 :: Ls) ∧ b = decide (p.ack = k1.acked + 1 ∧ 0 < n1)) ?_ ?_
        · repeat (first | refine VC.seq ?_ | refine VC.block ?_ | refine VC.skip ?_)
          refine VC.loud (Kept F ([(b3, .cells #[.int .i64 p.from_, .int .i64 p.to, .int .i64 p.seq, .int .i64 p.ack, .slice B m d] 24 (0, 0))] :: [(g, .cells #[.int .i64 k1.inc, .int .i64 k1.peer, .int .i64 k1.acked, .int .i64 k1.got, .slice A1 n1 c1] 33 (0, 0))] :: L1 :: Ls)) [] rfl (by kernel_rfl) (Kept.here0 hm.drew) ?_
          replace hm := hm.drew
          refine VL.pure rfl rfl rfl (p_field (fo := 3) Try.underlying24 rfl Try.sizeOf3 rfl rfl rfl) ?_
          refine VL.read rfl rfl rfl (fun w' hw' => r_load (v := .int _ _) Try.isAgg3 rfl (hw'.at_ 0 0 rfl) rfl) ?_
          refine VL.pure rfl rfl rfl (p_moveP rfl) ?_
          refine VL.pure rfl rfl rfl (p_nilCheck rfl) ?_
          refine VL.pure rfl rfl rfl (p_field (fo := 1) Try.underlying33 rfl Try.sizeOf31 rfl rfl rfl) ?_
          refine VL.pure rfl rfl rfl (p_field (fo := 1) Try.underlying31 rfl Try.sizeOf3 rfl rfl rfl) ?_
          refine VL.read rfl rfl rfl (fun w' hw' => r_load (v := .int _ _) Try.isAgg3 rfl (hw'.at_ 1 0 rfl) rfl) ?_
          refine VL.pure rfl rfl rfl (p_add64 rfl rfl (by omega)) ?_
          refine VL.pure rfl rfl rfl (p_eq rfl rfl) ?_
          refine VL.pure rfl rfl rfl (p_moveB rfl) ?_
          refine VL.splitD 70 rfl (fun h6 => ?_) (fun h6 => ?_)
          refine VL.pureG rfl rfl rfl (p_moveP rfl) ?_
          refine VL.pureG rfl rfl rfl (p_nilCheck rfl) ?_
          refine VL.pureG rfl rfl rfl (p_field (fo := 1) Try.underlying33 rfl Try.sizeOf31 rfl rfl rfl) ?_
          refine VL.pureG rfl rfl rfl (p_field (fo := 3) Try.underlying31 rfl Try.sizeOf29 rfl rfl rfl) ?_
          refine VL.readG rfl rfl rfl (fun w' hw' => r_load (v := .slice _ _ _) Try.isAgg29 rfl (hw'.at_ 1 0 rfl) rfl) ?_
          refine VL.pureG rfl rfl rfl (p_len Try.underlying29 rfl) ?_
          refine VL.pureG rfl rfl rfl (p_gt rfl rfl) ?_
          refine VL.pure rfl rfl rfl (p_pickT rfl rfl) ?_
          refine VL.nil ?_
          rotate_left 1
          refine VL.pass rfl rfl ?_
          refine VL.pass rfl rfl ?_
          refine VL.pass rfl rfl ?_
          refine VL.pass rfl rfl ?_
          refine VL.pass rfl rfl ?_
          refine VL.pass rfl rfl ?_
          refine VL.pass rfl rfl ?_
          refine VL.pure rfl rfl rfl (p_pickF rfl rfl) ?_
          refine VL.nil ?_
          rotate_left 1
          · exact ⟨_, ⟨rfl, rfl, rfl, rfl, trivial⟩, hm, decide_eq_decide.2 (by omega)⟩
          · exact ⟨_, ⟨rfl, rfl, rfl, rfl, trivial⟩, hm, (decide_eq_false (by omega)).symm⟩
        clear hm
        rintro b A' w ⟨hm, rfl⟩
        repeat (first | refine VC.seq ?_ | refine VC.block ?_ | refine VC.skip ?_)
        refine VC.meet (σ := Array Value × Blks) (fun s => [(0, .pointer (some ⟨g, 0, none⟩)), (3, .pointer (some ⟨b3, 0, none⟩)), (6, .bool broke)])
          (fun s w => Mem F w ([(b3, .cells #[.int .i64 p.from_, .int .i64 p.to, .int .i64 p.seq, .int .i64 p.ack, .slice B m d] 24 (0, 0))] :: [(g, .cells s.1 33 (0, 0))] :: s.2 :: Ls) ∧ LkAt F.heap (k1.done p) s.1 s.2) ?_ ?_
        · refine VC.condD rfl (fun h6 => ?_) (fun h6 => ?_)
          · have hw0 : k1.wait ≠ [] := fun e => by rw [e] at hwl1; simp at hwl1; omega
            have ed : k1.done p = ⟨k1.inc, k1.peer, k1.acked + 1, k1.got, k1.wait.tail⟩ := by unfold Lk.done; rw [if_pos ⟨h6.1, hw0⟩]
            obtain ⟨A2, hA2, ho2⟩ := ho1.drop (l := 1) (by omega)
            repeat (first | refine VC.seq ?_ | refine VC.block ?_ | refine VC.skip ?_)
            refine VC.region ?_
            refine VR.pure rfl rfl (p_moveP rfl) ?_
            refine VR.pure rfl rfl (p_moveP rfl) ?_
            refine VR.pure rfl rfl (p_nilCheck rfl) ?_
            refine VR.pure rfl rfl (p_field (fo := 1) Try.underlying33 rfl Try.sizeOf31 rfl rfl rfl) ?_
            refine VR.pure rfl rfl (p_field (fo := 3) Try.underlying31 rfl Try.sizeOf29 rfl rfl rfl) ?_
            refine VR.val rfl rfl (r_load (v := .slice _ _ _) Try.isAgg29 rfl (hm.at_ 1 0 rfl) rfl) ?_
            refine VR.pure rfl rfl (p_sliceLE (l := 1) Try.underlying29 Try.sizeOf22 rfl rfl (by omega) hA2 rfl rfl) ?_
            refine VR.pure rfl rfl (p_nilCheck rfl) ?_
            refine VR.pure rfl rfl (p_field (fo := 1) Try.underlying33 rfl Try.sizeOf31 rfl rfl rfl) ?_
            refine VR.pure rfl rfl (p_field (fo := 3) Try.underlying31 rfl Try.sizeOf29 rfl rfl rfl) ?_
            refine VR.store (cs' := #[.int .i64 k1.inc, .int .i64 k1.peer, .int .i64 k1.acked, .int .i64 k1.got, .slice A2 (n1 - 1) (c1 - 1)]) (v := .slice _ _ _) Try.sizeOf29 rfl rfl rfl rfl rfl hm 1 0 rfl (Nat.ble_eq.mp rfl) rfl ?_
            intro w hm
            refine VR.nil ?_
            repeat (first | refine VC.seq ?_ | refine VC.block ?_ | refine VC.skip ?_)
            refine VC.region ?_
            refine VR.pure rfl rfl (p_moveP rfl) ?_
            refine VR.pure rfl rfl (p_nilCheck rfl) ?_
            refine VR.pure rfl rfl (p_field (fo := 1) Try.underlying33 rfl Try.sizeOf31 rfl rfl rfl) ?_
            refine VR.pure rfl rfl (p_field (fo := 1) Try.underlying31 rfl Try.sizeOf3 rfl rfl rfl) ?_
            refine VR.val rfl rfl (r_load (v := .int _ _) Try.isAgg3 rfl (hm.at_ 1 0 rfl) rfl) ?_
            refine VR.pure rfl rfl (p_add64 rfl rfl (by omega)) ?_
            refine VR.pure rfl rfl (p_nilCheck rfl) ?_
            refine VR.pure rfl rfl (p_field (fo := 1) Try.underlying33 rfl Try.sizeOf31 rfl rfl rfl) ?_
            refine VR.pure rfl rfl (p_field (fo := 1) Try.underlying31 rfl Try.sizeOf3 rfl rfl rfl) ?_
            refine VR.store (cs' := #[.int .i64 k1.inc, .int .i64 k1.peer, .int .i64 (k1.acked + 1), .int .i64 k1.got, .slice A2 (n1 - 1) (c1 - 1)]) (v := .int _ _) Try.sizeOf3 rfl rfl rfl rfl rfl hm 1 0 rfl (Nat.ble_eq.mp rfl) rfl ?_
            intro w hm
            refine VR.nil ?_
            rw [ed]
            refine ⟨(_, L1), ⟨rfl, rfl, rfl, trivial⟩, hm, A2, n1 - 1, c1 - 1, ws1.tail, rfl, ?_, ?_, fun b hb => hwo1 b (List.mem_of_mem_tail hb)⟩
            · have e2 : bcells ws1.tail = (bcells ws1).drop (1 * 1) := by
                cases ws1 with
                | nil => rfl
                | cons a r => rfl
              rw [e2]
              exact ho2
            · rw [← hws1]
              cases ws1 with
              | nil => rfl
              | cons a r => rfl
          · have ed : k1.done p = k1 := by
              unfold Lk.done
              rw [if_neg]
              rintro ⟨h7, h8⟩
              refine h6 ⟨h7, ?_⟩
              rw [← hwl1]
              exact List.length_pos_iff.2 h8
            repeat (first | refine VC.seq ?_ | refine VC.block ?_ | refine VC.skip ?_)
            rw [ed]
            exact ⟨(_, L1), ⟨rfl, rfl, rfl, trivial⟩, hm, hk10⟩
        clear hm hk10 ho1 hws1 hwo1 hl1 hwl1
        rintro ⟨cs2, L2⟩ A' w ⟨hm, hk2⟩
        dsimp only at hm hk2 ⊢
        have hok2 := done_ok p hok1
        generalize k1.done p = k2 at hm hk2 hok2 ⊢
        have hk20 := hk2
        obtain ⟨A2, n2, c2, ws2, rfl, ho2, hws2, hwo2⟩ := hk2
        repeat (first | refine VC.seq ?_ | refine VC.block ?_ | refine VC.skip ?_)
        refine VC.loud (Kept F ([(b3, .cells #[.int .i64 p.from_, .int .i64 p.to, .int .i64 p.seq, .int .i64 p.ack, .slice B m d] 24 (0, 0))] :: [(g, .cells #[.int .i64 k2.inc, .int .i64 k2.peer, .int .i64 k2.acked, .int .i64 k2.got, .slice A2 n2 c2] 33 (0, 0))] :: L2 :: Ls)) [] rfl (by kernel_rfl) (Kept.here0 hm.drew) ?_
        replace hm := hm.drew
        refine VL.pure rfl rfl rfl (p_field (fo := 2) Try.underlying24 rfl Try.sizeOf3 rfl rfl rfl) ?_
        refine VL.read rfl rfl rfl (fun w' hw' => r_load (v := .int _ _) Try.isAgg3 rfl (hw'.at_ 0 0 rfl) rfl) ?_
        refine VL.pure rfl rfl rfl (p_moveP rfl) ?_
        refine VL.pure rfl rfl rfl (p_nilCheck rfl) ?_
        refine VL.pure rfl rfl rfl (p_field (fo := 1) Try.underlying33 rfl Try.sizeOf31 rfl rfl rfl) ?_
        refine VL.pure rfl rfl rfl (p_field (fo := 2) Try.underlying31 rfl Try.sizeOf3 rfl rfl rfl) ?_
        refine VL.read rfl rfl rfl (fun w' hw' => r_load (v := .int _ _) Try.isAgg3 rfl (hw'.at_ 1 0 rfl) rfl) ?_
        refine VL.pure rfl rfl rfl (p_add64 rfl rfl (by omega)) ?_
        refine VL.pure rfl rfl rfl (p_ne rfl rfl) ?_
        refine VL.nil ?_
        repeat (first | refine VC.seq ?_ | refine VC.block ?_ | refine VC.skip ?_)
        refine VC.condD rfl (fun h7 => ?_) (fun h7 => ?_)
        · repeat (first | refine VC.seq ?_ | refine VC.block ?_ | refine VC.skip ?_)
          refine VC.region ?_
          refine VR.pure rfl rfl (p_moveB rfl) ?_
          refine VR.pure rfl rfl (p_assignL rfl) ?_
          refine VR.pure rfl rfl (p_assignB rfl) ?_
          refine VR.pure rfl rfl (p_assignB rfl) ?_
          refine VR.nil ?_
          repeat (first | refine VC.seq ?_ | refine VC.block ?_ | refine VC.skip ?_)
          refine VC.ret ⟨_, ResOf.r3 (v := .slice _ _ _) (u := .bool _) (x := .bool _) rfl rfl rfl rfl, ?_⟩
          rw [if_pos h7]
          exact ⟨_, L2, none, 0, [], rfl, hk20, OwnS.nil _ _, hm.pop.nil_⟩
        · rw [if_neg h7]
          repeat (first | refine VC.seq ?_ | refine VC.block ?_ | refine VC.skip ?_)
          refine VC.region ?_
          refine VR.pure rfl rfl (p_moveP rfl) ?_
          refine VR.pure rfl rfl (p_nilCheck rfl) ?_
          refine VR.pure rfl rfl (p_field (fo := 1) Try.underlying33 rfl Try.sizeOf31 rfl rfl rfl) ?_
          refine VR.pure rfl rfl (p_field (fo := 2) Try.underlying31 rfl Try.sizeOf3 rfl rfl rfl) ?_
          refine VR.val rfl rfl (r_load (v := .int _ _) Try.isAgg3 rfl (hm.at_ 1 0 rfl) rfl) ?_
          refine VR.pure rfl rfl (p_add64 rfl rfl (by omega)) ?_
          refine VR.pure rfl rfl (p_nilCheck rfl) ?_
          refine VR.pure rfl rfl (p_field (fo := 1) Try.underlying33 rfl Try.sizeOf31 rfl rfl rfl) ?_
          refine VR.pure rfl rfl (p_field (fo := 2) Try.underlying31 rfl Try.sizeOf3 rfl rfl rfl) ?_
          refine VR.store (cs' := #[.int .i64 k2.inc, .int .i64 k2.peer, .int .i64 k2.acked, .int .i64 (k2.got + 1), .slice A2 n2 c2]) (v := .int _ _) Try.sizeOf3 rfl rfl rfl rfl rfl hm 1 0 rfl (Nat.ble_eq.mp rfl) rfl ?_
          intro w hm
          refine VR.nil ?_
          repeat (first | refine VC.seq ?_ | refine VC.block ?_ | refine VC.skip ?_)
          refine VC.region ?_
          refine VR.pure rfl rfl (p_field (fo := 4) Try.underlying24 rfl Try.sizeOf22 rfl rfl rfl) ?_
          refine VR.val rfl rfl (r_load (v := .slice _ _ _) Try.isAgg22 rfl (hm.at_ 0 0 rfl) rfl) ?_
          refine VR.call rfl rfl (r_call1 Try.call33 rfl) (cloneB_c hm hm48 hr) ?_
          rintro _ w ⟨A7, c7, L7, rfl, ho7, hm⟩
          refine VR.pure rfl rfl (p_moveB rfl) ?_
          refine VR.pure rfl rfl (p_assignL rfl) ?_
          refine VR.pure rfl rfl (p_assignB rfl) ?_
          refine VR.pure rfl rfl (p_assignB rfl) ?_
          refine VR.nil ?_
          repeat (first | refine VC.seq ?_ | refine VC.block ?_ | refine VC.skip ?_)
          refine VC.ret ⟨_, ResOf.r3 (v := .slice _ _ _) (u := .bool _) (x := .bool _) rfl rfl rfl rfl, ?_⟩
          dsimp only [Option.getD_some, Option.isSome_some]
          rw [hml]
          exact ⟨_, L2, A7, c7, L7, rfl, ⟨A2, n2, c2, ws2, rfl, ho2, hws2, hwo2⟩, ho7, hm.pop2⟩

end Go.Bd
