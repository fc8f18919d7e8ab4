/- ReformNumbers: the chapter's examples, versions at their ends, and configs that may not be are told as written by hand. Conditions: none. -/
import Derived.Test.Ytinddgigjecofaa22c
import Derived.Test.YtinddgigjecofaaFrame
namespace Go.Bd
open Go.Proofs
set_option linter.unusedVariables false

/-- What binds, of configs without members: the versions. -/
theorem active_vers {F : Env} {w : World} {Ls : List Blks} {A : Option Addr} {n c : Nat} {es : List En} {committed : Int} (hm : Mem F w Ls) (hnc : n ≤ c ∧ c ≤ maxLen) (hr : ERow F.heap A n es) (hsmall : ∀ e ∈ es, e.n * 32 ≤ 140737488355328) {vs : List Int}
    (hv : ((es.map En.abs).drop (fromOf (es.map En.abs) committed)).map (·.1) = vs) :
    Calls Try.prog 21 #[.slice A n c, .int .i64 committed] w
      (Ret fun v w' => ∃ A' c' outs L, v = .slice A' vs.length c' ∧ OwnS 25 2 A' vs.length c' (ecells outs) L ∧ outs.map En.ver = vs ∧ Mem F w' (L :: Ls)) :=
  Ret.mono (active_c hm hnc hr hsmall) fun v w' ⟨A', c', outs, L, bs, h1, h2, _, h4, _, h6⟩ => by
    have e : outs.map En.ver = vs := by
      rw [← hv, ← h4, List.map_map]
      rfl
    have e2 : outs.length = vs.length := by rw [← e, List.length_map]
    rw [e2] at h1 h2
    exact ⟨A', c', outs, L, h1, h2, e, h6.subF (by simp)⟩

theorem ERow.nil {H : Nat → Option Obj} {A : Option Addr} : ERow H A 0 [] := ⟨Row.nil _, fun e he => by simp at he⟩
theorem small_nil : ∀ e ∈ ([] : List En), e.n * 32 ≤ 140737488355328 := fun e he => by simp at he
theorem two_of {α : Type} : ∀ {l : List α}, l.length = 2 → ∃ a b, l = [a, b]
  | [a, b], _ => ⟨a, b, rfl⟩
theorem made8 : madeCells (Value.agg #[.int .i64 0, .int .u8 0, .int .i64 0, .int .i64 0]).cells (Int.toNat 8 * 4) = (mcells (List.replicate 8 ⟨0, 0, 0, 0⟩)).toArray := by kernel_rfl

set_option maxRecDepth 20000 in
set_option maxHeartbeats 4000000 in
theorem reform_numbers_c {F : Env} {w : World} {Ls : List Blks} (hm : Mem F w Ls) : Calls Try.prog 5 #[] w (Ret fun v w' => v = .bool true ∧ Mem F w' Ls) := by
  refine Calls.of_vc Try.func5 rfl Try.ntmps5 rfl ?_
  repeat (first | refine VC.seq ?_ | refine VC.block ?_ | refine VC.skip ?_)
  refine VC.region ?_
  refine VR.pure rfl rfl (p_assignB rfl) ?_
  refine VR.nil ?_
  repeat (first | refine VC.seq ?_ | refine VC.block ?_ | refine VC.skip ?_)
  refine VC.region ?_
  refine VR.call rfl rfl (r_call0 Try.call26) (one_c hm) ?_
  rintro _ w ⟨b0, rfl, hm⟩
  refine VR.pure rfl rfl (p_build (vs := [(0, .int _ _), (1, .slice _ _ _)]) bld25_0_1 rfl) ?_
  refine VR.new hm rfl rfl (n_allocG Try.zeroValue25) ?_
  intro b1 w hm
  refine VR.store (cs' := #[.int .i64 5, .slice (some ⟨b0, 0, none⟩) 1 1]) (v := .agg _) Try.sizeOf25 rfl rfl rfl rfl rfl hm 0 0 rfl (Nat.ble_eq.mp rfl) rfl ?_
  intro w hm
  refine VR.nil ?_
  replace hm : Mem F w ([(b1, .cells #[.int .i64 5, .slice (some ⟨b0, 0, none⟩) 1 1] 25 (0, 0))] :: [(b0, .cells (mcells [⟨1, 1, 1, 0⟩]).toArray 65 (0, 0))] :: Ls) := hm
  replace hm := hm.pop2
  obtain ⟨G, hu, hm, hG⟩ := hm.freeze
  replace hG : G.heap b1 = some (.cells #[.int .i64 5, .slice (some ⟨b0, 0, none⟩) 1 1] 25 (0, 0)) := hG _ (.head _)
  repeat (first | refine VC.seq ?_ | refine VC.block ?_ | refine VC.skip ?_)
  refine VC.meet (σ := Nat × Option Addr × Nat) (fun s => [(1, .pointer (some ⟨b1, 0, none⟩)), (2, .pointer (some ⟨s.1, 0, none⟩)), (3, .int .i64 0)]) (fun s w => Mem G w ([(s.1, .cells #[.int .i64 9, .slice s.2.1 1 s.2.2] 25 (0, 0))] :: Ls)) ?_ ?_
  · repeat (first | refine VC.seq ?_ | refine VC.block ?_ | refine VC.skip ?_)
    refine VC.free (Kept G []) [1, 3, 7, 8] rfl (by kernel_rfl) (Kept.of0 hm.drew) ?_
    replace hm := hm.drew
    refine VD.read 0 rfl (by kernel_rfl) rfl rfl (fun w' hw' => r_loadAgg (vs := [.int _ _, .slice _ _ _]) Try.isAgg25 Try.sizeOf25 rfl (hw'.fix _ _ hG) rfl (agg_at rfl)) ?_
    refine VD.turn2 1 7 (by kernel_rfl) ?_ ?_
    refine VDT.call rfl rfl rfl (r_call0 Try.call26) (one_c hm) ?_
    rintro _ w ⟨b13, rfl, hm⟩
    refine ⟨Kept.of0 hm, ?_⟩
    refine VD.pure 2 rfl (by kernel_rfl) rfl rfl (p_build (vs := [(13, .slice _ _ _)]) bld31_13 rfl) ?_
    refine VD.turn2 3 7 (by kernel_rfl) ?_ ?_
    refine VDT.call rfl rfl rfl (r_call3 Try.call12 rfl rfl rfl) (make_ok hm.all (by decide) (Row.lit (cs := mcells [⟨1, 1, 1, 0⟩]) (hm.plus_at 0 0 rfl)) rfl rfl (by decide)) ?_
    rintro _ w ⟨A2, c2, L2, rfl, ho, hm'⟩
    replace hm := hm.back hm'
    refine ⟨Kept.of0 hm, ?_⟩
    refine VD.pure 4 rfl (by kernel_rfl) rfl rfl (p_moveT rfl) ?_
    refine VD.pure 5 rfl (by kernel_rfl) rfl rfl (p_extract rfl rfl) ?_
    refine VD.pure 6 rfl (by kernel_rfl) rfl rfl (p_extract rfl rfl) ?_
    refine VD.turn1 7 (by kernel_rfl) ?_
    refine VDT.new hm rfl rfl rfl (n_allocG Try.zeroValue25) (fun b' w' hm' => Kept.of0 hm') ?_
    intro b2 w hm
    refine VD.turn1 8 (by kernel_rfl) ?_
    refine VDT.store (cs' := #[.int .i64 9, .slice A2 1 c2]) (v := .agg _) Try.sizeOf25 rfl rfl rfl rfl rfl rfl hm 0 0 rfl (Nat.ble_eq.mp rfl) rfl (fun w' hm' => Kept.of0 hm') ?_
    intro w hm
    refine VD.pure 9 rfl (by kernel_rfl) rfl rfl (p_assignI rfl) ?_
    refine VD.nil (by kernel_rfl) rfl ?_
    rotate_left 1
    refine VDT.new hm rfl rfl rfl (n_allocG Try.zeroValue25) (fun b' w' hm' => Kept.of0 hm') ?_
    intro b2 w hm
    refine VD.turn1 3 (by kernel_rfl) ?_
    refine VDT.call rfl rfl rfl (r_call3 Try.call12 rfl rfl rfl) (make_ok hm.all (by decide) (Row.lit (cs := mcells [⟨1, 1, 1, 0⟩]) (hm.plus_at 1 0 rfl)) rfl rfl (by decide)) ?_
    rintro _ w ⟨A2, c2, L2, rfl, ho, hm'⟩
    replace hm := hm.back hm'
    refine ⟨Kept.of0 hm, ?_⟩
    refine VD.pure 4 rfl (by kernel_rfl) rfl rfl (p_moveT rfl) ?_
    refine VD.pure 5 rfl (by kernel_rfl) rfl rfl (p_extract rfl rfl) ?_
    refine VD.pure 6 rfl (by kernel_rfl) rfl rfl (p_extract rfl rfl) ?_
    refine VD.turn1 8 (by kernel_rfl) ?_
    refine VDT.store (cs' := #[.int .i64 9, .slice A2 1 c2]) (v := .agg _) Try.sizeOf25 rfl rfl rfl rfl rfl rfl hm 1 0 rfl (Nat.ble_eq.mp rfl) rfl (fun w' hm' => Kept.of0 hm') ?_
    intro w hm
    refine VD.pure 9 rfl (by kernel_rfl) rfl rfl (p_assignI rfl) ?_
    refine VD.nil (by kernel_rfl) rfl ?_
    rotate_left 1
    refine VDT.new hm rfl rfl rfl (n_allocG Try.zeroValue25) (fun b' w' hm' => Kept.of0 hm') ?_
    intro b2 w hm
    refine VD.turn1 1 (by kernel_rfl) ?_
    refine VDT.call rfl rfl rfl (r_call0 Try.call26) (one_c hm) ?_
    rintro _ w ⟨b13, rfl, hm⟩
    refine ⟨Kept.of0 hm, ?_⟩
    refine VD.pure 2 rfl (by kernel_rfl) rfl rfl (p_build (vs := [(13, .slice _ _ _)]) bld31_13 rfl) ?_
    refine VD.turn1 3 (by kernel_rfl) ?_
    refine VDT.call rfl rfl rfl (r_call3 Try.call12 rfl rfl rfl) (make_ok hm.all (by decide) (Row.lit (cs := mcells [⟨1, 1, 1, 0⟩]) (hm.plus_at 0 0 rfl)) rfl rfl (by decide)) ?_
    rintro _ w ⟨A2, c2, L2, rfl, ho, hm'⟩
    replace hm := hm.back hm'
    refine ⟨Kept.of0 hm, ?_⟩
    refine VD.pure 4 rfl (by kernel_rfl) rfl rfl (p_moveT rfl) ?_
    refine VD.pure 5 rfl (by kernel_rfl) rfl rfl (p_extract rfl rfl) ?_
    refine VD.pure 6 rfl (by kernel_rfl) rfl rfl (p_extract rfl rfl) ?_
    refine VD.turn1 8 (by kernel_rfl) ?_
    refine VDT.store (cs' := #[.int .i64 9, .slice A2 1 c2]) (v := .agg _) Try.sizeOf25 rfl rfl rfl rfl rfl rfl hm 2 0 rfl (Nat.ble_eq.mp rfl) rfl (fun w' hm' => Kept.of0 hm') ?_
    intro w hm
    refine VD.pure 9 rfl (by kernel_rfl) rfl rfl (p_assignI rfl) ?_
    refine VD.nil (by kernel_rfl) rfl ?_
    rotate_left 1
    · replace hm : Mem G w ([(b2, .cells #[.int .i64 9, .slice A2 1 c2] 25 (0, 0))] :: L2 :: [(b13, .cells (mcells [⟨1, 1, 1, 0⟩]).toArray 65 (0, 0))] :: Ls) := hm
      exact ⟨(b2, A2, c2), ⟨rfl, rfl, rfl, trivial⟩, hm.pop2.pop2⟩
    · replace hm : Mem G w (L2 :: [(b2, .cells #[.int .i64 9, .slice A2 1 c2] 25 (0, 0))] :: [(b13, .cells (mcells [⟨1, 1, 1, 0⟩]).toArray 65 (0, 0))] :: Ls) := hm
      exact ⟨(b2, A2, c2), ⟨rfl, rfl, rfl, trivial⟩, hm.pop.pop2⟩
    · replace hm : Mem G w (L2 :: [(b13, .cells (mcells [⟨1, 1, 1, 0⟩]).toArray 65 (0, 0))] :: [(b2, .cells #[.int .i64 9, .slice A2 1 c2] 25 (0, 0))] :: Ls) := hm
      exact ⟨(b2, A2, c2), ⟨rfl, rfl, rfl, trivial⟩, hm.pop.pop⟩
  clear hm
  rintro ⟨b2, A2, c2⟩ A' w hm
  dsimp only at hm ⊢
  obtain ⟨G2, hu2, hm, hG2⟩ := hm.freeze
  replace hG2 : G2.heap b2 = some (.cells #[.int .i64 9, .slice A2 1 c2] 25 (0, 0)) := hG2 _ (.head _)
  replace hG := hu2.heap _ _ hG
  replace hu := hu.trans hu2
  clear hu2
  repeat (first | refine VC.seq ?_ | refine VC.block ?_ | refine VC.skip ?_)
  refine VC.meet (σ := Unit) (fun s => [(1, .pointer (some ⟨b1, 0, none⟩)), (2, .pointer (some ⟨b2, 0, none⟩)), (3, .int .i64 0), (5, .int .i64 212)]) (fun s w => Mem G2 w Ls) ?_ ?_
  · repeat (first | refine VC.seq ?_ | refine VC.block ?_ | refine VC.skip ?_)
    refine VC.free (Kept G2 []) [1, 3, 7, 8] rfl (by kernel_rfl) (Kept.of0 hm.drew) ?_
    replace hm := hm.drew
    refine VD.read 0 rfl (by kernel_rfl) rfl rfl (fun w' hw' => r_loadAgg (vs := [.int _ _, .slice _ _ _]) Try.isAgg25 Try.sizeOf25 rfl (hw'.fix _ _ hG) rfl (agg_at rfl)) ?_
    refine VD.turn2 1 7 (by kernel_rfl) ?_ ?_
    refine VDT.call rfl rfl rfl (r_call0 Try.call26) (one_c hm) ?_
    rintro _ w ⟨b13, rfl, hm⟩
    refine ⟨Kept.of0 hm, ?_⟩
    refine VD.pure 2 rfl (by kernel_rfl) rfl rfl (p_build (vs := [(12, .int _ _), (13, .slice _ _ _)]) bld31_12_13 rfl) ?_
    refine VD.turn2 3 7 (by kernel_rfl) ?_ ?_
    refine VDT.call rfl rfl rfl (r_call3 Try.call12 rfl rfl rfl) (make_no (code := 212) hm.all (by decide) (Row.lit (cs := mcells [⟨1, 1, 1, 0⟩]) (hm.plus_at 0 0 rfl)) rfl rfl (by decide) (by decide)) ?_
    rintro _ w ⟨rfl, hm'⟩
    replace hm := hm.back0 hm'
    refine ⟨Kept.of0 hm, ?_⟩
    refine VD.pure 4 rfl (by kernel_rfl) rfl rfl (p_moveT rfl) ?_
    refine VD.pure 5 rfl (by kernel_rfl) rfl rfl (p_extract rfl rfl) ?_
    refine VD.pure 6 rfl (by kernel_rfl) rfl rfl (p_extract rfl rfl) ?_
    refine VD.turn1 7 (by kernel_rfl) ?_
    refine VDT.new hm rfl rfl rfl (n_allocG Try.zeroValue25) (fun b' w' hm' => Kept.of0 hm') ?_
    intro b4 w hm
    refine VD.turn1 8 (by kernel_rfl) ?_
    refine VDT.store (cs' := #[.int .i64 0, .slice none 0 0]) (v := .agg _) Try.sizeOf25 rfl rfl rfl rfl rfl rfl hm 0 0 rfl (Nat.ble_eq.mp rfl) rfl (fun w' hm' => Kept.of0 hm') ?_
    intro w hm
    refine VD.pure 9 rfl (by kernel_rfl) rfl rfl (p_assignI rfl) ?_
    refine VD.nil (by kernel_rfl) rfl ?_
    rotate_left 1
    refine VDT.new hm rfl rfl rfl (n_allocG Try.zeroValue25) (fun b' w' hm' => Kept.of0 hm') ?_
    intro b4 w hm
    refine VD.turn1 3 (by kernel_rfl) ?_
    refine VDT.call rfl rfl rfl (r_call3 Try.call12 rfl rfl rfl) (make_no (code := 212) hm.all (by decide) (Row.lit (cs := mcells [⟨1, 1, 1, 0⟩]) (hm.plus_at 1 0 rfl)) rfl rfl (by decide) (by decide)) ?_
    rintro _ w ⟨rfl, hm'⟩
    replace hm := hm.back0 hm'
    refine ⟨Kept.of0 hm, ?_⟩
    refine VD.pure 4 rfl (by kernel_rfl) rfl rfl (p_moveT rfl) ?_
    refine VD.pure 5 rfl (by kernel_rfl) rfl rfl (p_extract rfl rfl) ?_
    refine VD.pure 6 rfl (by kernel_rfl) rfl rfl (p_extract rfl rfl) ?_
    refine VD.turn1 8 (by kernel_rfl) ?_
    refine VDT.store (cs' := #[.int .i64 0, .slice none 0 0]) (v := .agg _) Try.sizeOf25 rfl rfl rfl rfl rfl rfl hm 0 0 rfl (Nat.ble_eq.mp rfl) rfl (fun w' hm' => Kept.of0 hm') ?_
    intro w hm
    refine VD.pure 9 rfl (by kernel_rfl) rfl rfl (p_assignI rfl) ?_
    refine VD.nil (by kernel_rfl) rfl ?_
    rotate_left 1
    refine VDT.new hm rfl rfl rfl (n_allocG Try.zeroValue25) (fun b' w' hm' => Kept.of0 hm') ?_
    intro b4 w hm
    refine VD.turn1 1 (by kernel_rfl) ?_
    refine VDT.call rfl rfl rfl (r_call0 Try.call26) (one_c hm) ?_
    rintro _ w ⟨b13, rfl, hm⟩
    refine ⟨Kept.of0 hm, ?_⟩
    refine VD.pure 2 rfl (by kernel_rfl) rfl rfl (p_build (vs := [(12, .int _ _), (13, .slice _ _ _)]) bld31_12_13 rfl) ?_
    refine VD.turn1 3 (by kernel_rfl) ?_
    refine VDT.call rfl rfl rfl (r_call3 Try.call12 rfl rfl rfl) (make_no (code := 212) hm.all (by decide) (Row.lit (cs := mcells [⟨1, 1, 1, 0⟩]) (hm.plus_at 0 0 rfl)) rfl rfl (by decide) (by decide)) ?_
    rintro _ w ⟨rfl, hm'⟩
    replace hm := hm.back0 hm'
    refine ⟨Kept.of0 hm, ?_⟩
    refine VD.pure 4 rfl (by kernel_rfl) rfl rfl (p_moveT rfl) ?_
    refine VD.pure 5 rfl (by kernel_rfl) rfl rfl (p_extract rfl rfl) ?_
    refine VD.pure 6 rfl (by kernel_rfl) rfl rfl (p_extract rfl rfl) ?_
    refine VD.turn1 8 (by kernel_rfl) ?_
    refine VDT.store (cs' := #[.int .i64 0, .slice none 0 0]) (v := .agg _) Try.sizeOf25 rfl rfl rfl rfl rfl rfl hm 1 0 rfl (Nat.ble_eq.mp rfl) rfl (fun w' hm' => Kept.of0 hm') ?_
    intro w hm
    refine VD.pure 9 rfl (by kernel_rfl) rfl rfl (p_assignI rfl) ?_
    refine VD.nil (by kernel_rfl) rfl ?_
    rotate_left 1
    all_goals exact ⟨(), ⟨rfl, rfl, rfl, rfl, trivial⟩, hm.pop.pop⟩
  clear hm
  rintro _ A' w hm
  repeat (first | refine VC.seq ?_ | refine VC.block ?_ | refine VC.skip ?_)
  refine VC.meet (σ := Unit) (fun s => [(1, .pointer (some ⟨b1, 0, none⟩)), (2, .pointer (some ⟨b2, 0, none⟩)), (3, .int .i64 0), (5, .int .i64 212), (7, .int .i64 140)]) (fun s w => Mem G2 w Ls) ?_ ?_
  · repeat (first | refine VC.seq ?_ | refine VC.block ?_ | refine VC.skip ?_)
    refine VC.free (Kept G2 []) [1, 3, 7, 8] rfl (by kernel_rfl) (Kept.of0 hm.drew) ?_
    replace hm := hm.drew
    refine VD.read 0 rfl (by kernel_rfl) rfl rfl (fun w' hw' => r_loadAgg (vs := [.int _ _, .slice _ _ _]) Try.isAgg25 Try.sizeOf25 rfl (hw'.fix _ _ hG) rfl (agg_at rfl)) ?_
    refine VD.turn2 1 7 (by kernel_rfl) ?_ ?_
    refine VDT.new hm rfl rfl rfl (n_makeSlice (s := 4) (bytes := 32) Try.underlying23 inf65 rfl rfl rfl rfl rfl (by omega) (by omega)) (fun b' w' hm' => Kept.of0 hm') ?_
    intro b13 w hm
    refine VD.pure 2 rfl (by kernel_rfl) rfl rfl (p_build (vs := [(12, .int _ _), (13, .slice _ _ _)]) bld31_12_13 rfl) ?_
    refine VD.turn2 3 7 (by kernel_rfl) ?_ ?_
    rw [made8] at hm
    refine VDT.call rfl rfl rfl (r_call3 Try.call12 rfl rfl rfl) (make_no (code := 140) (ms := List.replicate 8 ⟨0, 0, 0, 0⟩) hm.all (by decide) (Row.lit (cs := mcells (List.replicate 8 ⟨0, 0, 0, 0⟩)) (hm.plus_at 0 0 rfl)) rfl rfl (by decide) (by decide)) ?_
    rintro _ w ⟨rfl, hm'⟩
    replace hm := hm.back0 hm'
    refine ⟨Kept.of0 hm, ?_⟩
    refine VD.pure 4 rfl (by kernel_rfl) rfl rfl (p_moveT rfl) ?_
    refine VD.pure 5 rfl (by kernel_rfl) rfl rfl (p_extract rfl rfl) ?_
    refine VD.pure 6 rfl (by kernel_rfl) rfl rfl (p_extract rfl rfl) ?_
    refine VD.turn1 7 (by kernel_rfl) ?_
    refine VDT.new hm rfl rfl rfl (n_allocG Try.zeroValue25) (fun b' w' hm' => Kept.of0 hm') ?_
    intro b4 w hm
    refine VD.turn1 8 (by kernel_rfl) ?_
    refine VDT.store (cs' := #[.int .i64 0, .slice none 0 0]) (v := .agg _) Try.sizeOf25 rfl rfl rfl rfl rfl rfl hm 0 0 rfl (Nat.ble_eq.mp rfl) rfl (fun w' hm' => Kept.of0 hm') ?_
    intro w hm
    refine VD.pure 9 rfl (by kernel_rfl) rfl rfl (p_assignI rfl) ?_
    refine VD.nil (by kernel_rfl) rfl ?_
    rotate_left 1
    refine VDT.new hm rfl rfl rfl (n_allocG Try.zeroValue25) (fun b' w' hm' => Kept.of0 hm') ?_
    intro b4 w hm
    rw [made8] at hm
    refine VD.turn1 3 (by kernel_rfl) ?_
    refine VDT.call rfl rfl rfl (r_call3 Try.call12 rfl rfl rfl) (make_no (code := 140) (ms := List.replicate 8 ⟨0, 0, 0, 0⟩) hm.all (by decide) (Row.lit (cs := mcells (List.replicate 8 ⟨0, 0, 0, 0⟩)) (hm.plus_at 1 0 rfl)) rfl rfl (by decide) (by decide)) ?_
    rintro _ w ⟨rfl, hm'⟩
    replace hm := hm.back0 hm'
    refine ⟨Kept.of0 hm, ?_⟩
    refine VD.pure 4 rfl (by kernel_rfl) rfl rfl (p_moveT rfl) ?_
    refine VD.pure 5 rfl (by kernel_rfl) rfl rfl (p_extract rfl rfl) ?_
    refine VD.pure 6 rfl (by kernel_rfl) rfl rfl (p_extract rfl rfl) ?_
    refine VD.turn1 8 (by kernel_rfl) ?_
    refine VDT.store (cs' := #[.int .i64 0, .slice none 0 0]) (v := .agg _) Try.sizeOf25 rfl rfl rfl rfl rfl rfl hm 0 0 rfl (Nat.ble_eq.mp rfl) rfl (fun w' hm' => Kept.of0 hm') ?_
    intro w hm
    refine VD.pure 9 rfl (by kernel_rfl) rfl rfl (p_assignI rfl) ?_
    refine VD.nil (by kernel_rfl) rfl ?_
    rotate_left 1
    refine VDT.new hm rfl rfl rfl (n_allocG Try.zeroValue25) (fun b' w' hm' => Kept.of0 hm') ?_
    intro b4 w hm
    refine VD.turn1 1 (by kernel_rfl) ?_
    refine VDT.new hm rfl rfl rfl (n_makeSlice (s := 4) (bytes := 32) Try.underlying23 inf65 rfl rfl rfl rfl rfl (by omega) (by omega)) (fun b' w' hm' => Kept.of0 hm') ?_
    intro b13 w hm
    refine VD.pure 2 rfl (by kernel_rfl) rfl rfl (p_build (vs := [(12, .int _ _), (13, .slice _ _ _)]) bld31_12_13 rfl) ?_
    rw [made8] at hm
    refine VD.turn1 3 (by kernel_rfl) ?_
    refine VDT.call rfl rfl rfl (r_call3 Try.call12 rfl rfl rfl) (make_no (code := 140) (ms := List.replicate 8 ⟨0, 0, 0, 0⟩) hm.all (by decide) (Row.lit (cs := mcells (List.replicate 8 ⟨0, 0, 0, 0⟩)) (hm.plus_at 0 0 rfl)) rfl rfl (by decide) (by decide)) ?_
    rintro _ w ⟨rfl, hm'⟩
    replace hm := hm.back0 hm'
    refine ⟨Kept.of0 hm, ?_⟩
    refine VD.pure 4 rfl (by kernel_rfl) rfl rfl (p_moveT rfl) ?_
    refine VD.pure 5 rfl (by kernel_rfl) rfl rfl (p_extract rfl rfl) ?_
    refine VD.pure 6 rfl (by kernel_rfl) rfl rfl (p_extract rfl rfl) ?_
    refine VD.turn1 8 (by kernel_rfl) ?_
    refine VDT.store (cs' := #[.int .i64 0, .slice none 0 0]) (v := .agg _) Try.sizeOf25 rfl rfl rfl rfl rfl rfl hm 1 0 rfl (Nat.ble_eq.mp rfl) rfl (fun w' hm' => Kept.of0 hm') ?_
    intro w hm
    refine VD.pure 9 rfl (by kernel_rfl) rfl rfl (p_assignI rfl) ?_
    refine VD.nil (by kernel_rfl) rfl ?_
    rotate_left 1
    all_goals exact ⟨(), ⟨rfl, rfl, rfl, rfl, rfl, trivial⟩, hm.pop.pop⟩
  clear hm
  rintro _ A' w hm
  repeat (first | refine VC.seq ?_ | refine VC.block ?_ | refine VC.skip ?_)
  refine VC.meet (σ := Unit) (fun s => [(1, .pointer (some ⟨b1, 0, none⟩)), (2, .pointer (some ⟨b2, 0, none⟩)), (3, .int .i64 0), (5, .int .i64 212), (7, .int .i64 140), (9, .int .i64 140)]) (fun s w => Mem G2 w Ls) ?_ ?_
  · repeat (first | refine VC.seq ?_ | refine VC.block ?_ | refine VC.skip ?_)
    refine VC.free (Kept G2 []) [1, 3, 7, 8] rfl (by kernel_rfl) (Kept.of0 hm.drew) ?_
    replace hm := hm.drew
    refine VD.read 0 rfl (by kernel_rfl) rfl rfl (fun w' hw' => r_loadAgg (vs := [.int _ _, .slice _ _ _]) Try.isAgg25 Try.sizeOf25 rfl (hw'.fix _ _ hG) rfl (agg_at rfl)) ?_
    refine VD.turn2 1 7 (by kernel_rfl) ?_ ?_
    refine VDT.call rfl rfl rfl (r_call0 Try.call26) (one_c hm) ?_
    rintro _ w ⟨b13, rfl, hm⟩
    refine ⟨Kept.of0 hm, ?_⟩
    refine VD.pure 2 rfl (by kernel_rfl) rfl rfl (p_build (vs := [(13, .slice _ _ _)]) bld31_13 rfl) ?_
    refine VD.turn2 3 7 (by kernel_rfl) ?_ ?_
    refine VDT.call rfl rfl rfl (r_call3 Try.call12 rfl rfl rfl) (make_no (code := 140) hm.all (by decide) (Row.lit (cs := mcells [⟨1, 1, 1, 0⟩]) (hm.plus_at 0 0 rfl)) rfl rfl (by decide) (by decide)) ?_
    rintro _ w ⟨rfl, hm'⟩
    replace hm := hm.back0 hm'
    refine ⟨Kept.of0 hm, ?_⟩
    refine VD.pure 4 rfl (by kernel_rfl) rfl rfl (p_moveT rfl) ?_
    refine VD.pure 5 rfl (by kernel_rfl) rfl rfl (p_extract rfl rfl) ?_
    refine VD.pure 6 rfl (by kernel_rfl) rfl rfl (p_extract rfl rfl) ?_
    refine VD.turn1 7 (by kernel_rfl) ?_
    refine VDT.new hm rfl rfl rfl (n_allocG Try.zeroValue25) (fun b' w' hm' => Kept.of0 hm') ?_
    intro b4 w hm
    refine VD.turn1 8 (by kernel_rfl) ?_
    refine VDT.store (cs' := #[.int .i64 0, .slice none 0 0]) (v := .agg _) Try.sizeOf25 rfl rfl rfl rfl rfl rfl hm 0 0 rfl (Nat.ble_eq.mp rfl) rfl (fun w' hm' => Kept.of0 hm') ?_
    intro w hm
    refine VD.pure 9 rfl (by kernel_rfl) rfl rfl (p_assignI rfl) ?_
    refine VD.nil (by kernel_rfl) rfl ?_
    rotate_left 1
    refine VDT.new hm rfl rfl rfl (n_allocG Try.zeroValue25) (fun b' w' hm' => Kept.of0 hm') ?_
    intro b4 w hm
    refine VD.turn1 3 (by kernel_rfl) ?_
    refine VDT.call rfl rfl rfl (r_call3 Try.call12 rfl rfl rfl) (make_no (code := 140) hm.all (by decide) (Row.lit (cs := mcells [⟨1, 1, 1, 0⟩]) (hm.plus_at 1 0 rfl)) rfl rfl (by decide) (by decide)) ?_
    rintro _ w ⟨rfl, hm'⟩
    replace hm := hm.back0 hm'
    refine ⟨Kept.of0 hm, ?_⟩
    refine VD.pure 4 rfl (by kernel_rfl) rfl rfl (p_moveT rfl) ?_
    refine VD.pure 5 rfl (by kernel_rfl) rfl rfl (p_extract rfl rfl) ?_
    refine VD.pure 6 rfl (by kernel_rfl) rfl rfl (p_extract rfl rfl) ?_
    refine VD.turn1 8 (by kernel_rfl) ?_
    refine VDT.store (cs' := #[.int .i64 0, .slice none 0 0]) (v := .agg _) Try.sizeOf25 rfl rfl rfl rfl rfl rfl hm 0 0 rfl (Nat.ble_eq.mp rfl) rfl (fun w' hm' => Kept.of0 hm') ?_
    intro w hm
    refine VD.pure 9 rfl (by kernel_rfl) rfl rfl (p_assignI rfl) ?_
    refine VD.nil (by kernel_rfl) rfl ?_
    rotate_left 1
    refine VDT.new hm rfl rfl rfl (n_allocG Try.zeroValue25) (fun b' w' hm' => Kept.of0 hm') ?_
    intro b4 w hm
    refine VD.turn1 1 (by kernel_rfl) ?_
    refine VDT.call rfl rfl rfl (r_call0 Try.call26) (one_c hm) ?_
    rintro _ w ⟨b13, rfl, hm⟩
    refine ⟨Kept.of0 hm, ?_⟩
    refine VD.pure 2 rfl (by kernel_rfl) rfl rfl (p_build (vs := [(13, .slice _ _ _)]) bld31_13 rfl) ?_
    refine VD.turn1 3 (by kernel_rfl) ?_
    refine VDT.call rfl rfl rfl (r_call3 Try.call12 rfl rfl rfl) (make_no (code := 140) hm.all (by decide) (Row.lit (cs := mcells [⟨1, 1, 1, 0⟩]) (hm.plus_at 0 0 rfl)) rfl rfl (by decide) (by decide)) ?_
    rintro _ w ⟨rfl, hm'⟩
    replace hm := hm.back0 hm'
    refine ⟨Kept.of0 hm, ?_⟩
    refine VD.pure 4 rfl (by kernel_rfl) rfl rfl (p_moveT rfl) ?_
    refine VD.pure 5 rfl (by kernel_rfl) rfl rfl (p_extract rfl rfl) ?_
    refine VD.pure 6 rfl (by kernel_rfl) rfl rfl (p_extract rfl rfl) ?_
    refine VD.turn1 8 (by kernel_rfl) ?_
    refine VDT.store (cs' := #[.int .i64 0, .slice none 0 0]) (v := .agg _) Try.sizeOf25 rfl rfl rfl rfl rfl rfl hm 1 0 rfl (Nat.ble_eq.mp rfl) rfl (fun w' hm' => Kept.of0 hm') ?_
    intro w hm
    refine VD.pure 9 rfl (by kernel_rfl) rfl rfl (p_assignI rfl) ?_
    refine VD.nil (by kernel_rfl) rfl ?_
    rotate_left 1
    all_goals exact ⟨(), ⟨rfl, rfl, rfl, rfl, rfl, rfl, trivial⟩, hm.pop.pop⟩
  clear hm
  rintro _ A' w hm
  repeat (first | refine VC.seq ?_ | refine VC.block ?_ | refine VC.skip ?_)
  refine VC.region ?_
  refine VR.pure rfl rfl (p_build (vs := []) bld25_0x rfl) ?_
  refine VR.call rfl rfl (r_call0 Try.call26) (one_c hm) ?_
  rintro _ w ⟨b13, rfl, hm⟩
  refine VR.pure rfl rfl (p_build (vs := [(13, .slice _ _ _)]) bld31_13 rfl) ?_
  refine VR.call rfl rfl (r_call3 Try.call12 rfl rfl rfl) (make_ok hm.all (by decide) (Row.lit (cs := mcells [⟨1, 1, 1, 0⟩]) (hm.plus_at 0 0 rfl)) rfl rfl (by decide)) ?_
  rintro _ w ⟨A10, c10, L10, rfl, ho, hm'⟩
  replace hm := hm.back hm'
  refine VR.pure rfl rfl (p_moveT rfl) ?_
  refine VR.pure rfl rfl (p_extract rfl rfl) ?_
  refine VR.pure rfl rfl (p_extract rfl rfl) ?_
  refine VR.new hm rfl rfl (n_allocG Try.zeroValue25) ?_
  intro b10 w hm
  refine VR.store (cs' := #[.int .i64 0, .slice A10 1 c10]) (v := .agg _) Try.sizeOf25 rfl rfl rfl rfl rfl hm 0 0 rfl (Nat.ble_eq.mp rfl) rfl ?_
  intro w hm
  refine VR.pure rfl rfl (p_assignI rfl) ?_
  refine VR.nil ?_
  replace hm : Mem G2 w ([(b10, .cells #[.int .i64 0, .slice A10 1 c10] 25 (0, 0))] :: L10 :: [(b13, .cells (mcells [⟨1, 1, 1, 0⟩]).toArray 65 (0, 0))] :: Ls) := hm
  replace hm := hm.pop2.pop2
  obtain ⟨G3, hu3, hm, hG3⟩ := hm.freeze
  replace hG3 : G3.heap b10 = some (.cells #[.int .i64 0, .slice A10 1 c10] 25 (0, 0)) := hG3 _ (.head _)
  replace hG := hu3.heap _ _ hG
  replace hG2 := hu3.heap _ _ hG2
  replace hu := hu.trans hu3
  clear hu3
  repeat (first | refine VC.seq ?_ | refine VC.block ?_ | refine VC.skip ?_)
  refine VC.region ?_
  refine VR.pure rfl rfl (p_build (vs := [(0, .int _ _)]) bld25_0 rfl) ?_
  refine VR.pure rfl rfl (p_build (vs := [(0, .int _ _)]) bld25_0 rfl) ?_
  refine VR.pure rfl rfl (p_build (vs := [(0, .int _ _)]) bld25_0 rfl) ?_
  refine VR.new hm rfl rfl (n_buildSlice (vs := [.agg _, .agg _, .agg _]) Try.underlying33 inf25 rfl rfl rfl rfl rfl rfl) ?_
  intro b12 w hm
  refine VR.pure rfl rfl (p_assignL rfl) ?_
  refine VR.nil ?_
  replace hm : Mem G3 w ([(b12, .cells (ecells ([0, 5, 9].map bare)).toArray 25 (0, 0))] :: Ls) := hm
  obtain ⟨G4, hu4, hm, hG4⟩ := hm.freeze
  replace hG4 : G4.heap b12 = some (.cells (ecells ([0, 5, 9].map bare)).toArray 25 (0, 0)) := hG4 _ (.head _)
  replace hG := hu4.heap _ _ hG
  replace hG2 := hu4.heap _ _ hG2
  replace hG3 := hu4.heap _ _ hG3
  replace hu := hu.trans hu4
  clear hu4
  have hrow3 : ERow G4.heap (some ⟨b12, 0, none⟩) 3 ([0, 5, 9].map bare) := bare_row (vs := [0, 5, 9]) hG4
  have hrow1 : ERow G4.heap (some ⟨b12, 0, none⟩) 1 ([0].map bare) := ⟨hrow3.row.take (k := 1 * 2) (by decide), fun e he => hrow3.each e (by simp only [List.map_cons, List.map_nil, List.mem_cons, List.not_mem_nil, or_false] at he ⊢; exact .inl he)⟩
  repeat (first | refine VC.seq ?_ | refine VC.block ?_ | refine VC.skip ?_)
  refine VC.loud (Kept G4 []) [1, 3, 6] rfl (by kernel_rfl) (Kept.of0 hm.drew) ?_
  replace hm := hm.drew
  refine VL.pure rfl rfl rfl (p_moveL rfl) ?_
  refine VL.call rfl rfl rfl (r_call2 Try.call21 rfl rfl) (active_vers (vs := [9]) hm (by decide) hrow3 bare_small (by kernel_rfl)) ?_
  rintro _ w ⟨A13, c13, o13, L13, rfl, ho13, hv13, hm⟩
  refine ⟨Kept.of0 hm, ?_⟩
  refine VL.pure rfl rfl rfl (p_moveL rfl) ?_
  refine VL.call rfl rfl rfl (r_call2 Try.call21 rfl rfl) (active_vers (vs := [5, 9]) hm (by decide) hrow3 bare_small (by kernel_rfl)) ?_
  rintro _ w ⟨A14, c14, o14, L14, rfl, ho14, hv14, hm⟩
  refine ⟨Kept.of0 hm, ?_⟩
  refine VL.pure rfl rfl rfl (p_moveL rfl) ?_
  refine VL.pure rfl rfl rfl (p_sliceHN (h := 1) Try.underlying33 Try.sizeOf25 rfl rfl (by decide)) ?_
  refine VL.call rfl rfl rfl (r_call2 Try.call21 rfl rfl) (active_vers (vs := [0]) hm (by decide) hrow1 bare_small (by kernel_rfl)) ?_
  rintro _ w ⟨A15, c15, o15, L15, rfl, ho15, hv15, hm⟩
  refine ⟨Kept.of0 hm, ?_⟩
  refine VL.pure rfl rfl rfl (p_assignL rfl) ?_
  refine VL.pure rfl rfl rfl (p_assignL rfl) ?_
  refine VL.pure rfl rfl rfl (p_assignL rfl) ?_
  refine VL.nil ?_
  replace hm := hm.pop
  obtain ⟨G5, hu5, hm, hG5⟩ := hm.freeze
  obtain ⟨G6, hu6, hm, hG6⟩ := hm.freeze
  have hr14 := (ho14.row hG5).le hu6.heap
  have hr13 := ho13.row hG6
  replace hu5 := hu5.trans hu6
  replace hG := hu5.heap _ _ hG
  replace hG2 := hu5.heap _ _ hG2
  replace hG3 := hu5.heap _ _ hG3
  replace hu := hu.trans hu5
  clear hu5 hu6 hG5 hG6
  obtain ⟨x, hx⟩ : ∃ x, o13 = [x] := by
    have := congrArg List.length hv13
    rw [List.length_map] at this
    exact List.length_eq_one_iff.1 this
  obtain ⟨y1, y2, hy⟩ : ∃ y1 y2, o14 = [y1, y2] := by
    have := congrArg List.length hv14
    rw [List.length_map] at this
    exact two_of this
  subst hx hy
  simp only [List.map_cons, List.map_nil, List.cons.injEq, and_true] at hv13 hv14
  obtain ⟨b3, off3, blk3, T3, fr3, rfl, hb3, hc3⟩ := Row.elem En.len (xs := [x]) (n := 1) hr13 (by decide) (by decide)
  obtain ⟨b4, off4, blk4, T4, fr4, rfl, hb4, hc4⟩ := Row.elem En.len (xs := [y1, y2]) (n := 2) hr14 (by decide) (by decide)
  repeat (first | refine VC.seq ?_ | refine VC.block ?_ | refine VC.skip ?_)
  refine VC.region ?_
  refine VR.pure rfl rfl (p_moveI rfl) ?_
  refine VR.pure rfl rfl (p_ne rfl rfl) ?_
  refine VR.pure rfl rfl (p_moveB rfl) ?_
  refine VR.knownF 66 rfl rfl ?_
  refine VR.pureG rfl rfl (p_field (fo := 0) Try.underlying25 rfl Try.sizeOf22 rfl rfl rfl) ?_
  refine VR.valG rfl rfl (r_load (v := .int _ _) Try.isAgg22 rfl (hm.fix _ _ hG2) rfl) ?_
  refine VR.pureG rfl rfl (p_ne rfl rfl) ?_
  refine VR.pure rfl rfl (p_pickF rfl rfl) ?_
  refine VR.pure rfl rfl (p_moveB rfl) ?_
  refine VR.knownF 71 rfl rfl ?_
  refine VR.pureG rfl rfl (p_moveI rfl) ?_
  refine VR.pureG rfl rfl (p_ne rfl rfl) ?_
  refine VR.pure rfl rfl (p_pickF rfl rfl) ?_
  refine VR.pure rfl rfl (p_moveB rfl) ?_
  refine VR.knownF 75 rfl rfl ?_
  refine VR.pureG rfl rfl (p_moveI rfl) ?_
  refine VR.pureG rfl rfl (p_ne rfl rfl) ?_
  refine VR.pure rfl rfl (p_pickF rfl rfl) ?_
  refine VR.pure rfl rfl (p_moveB rfl) ?_
  refine VR.knownF 79 rfl rfl ?_
  refine VR.pureG rfl rfl (p_moveI rfl) ?_
  refine VR.pureG rfl rfl (p_ne rfl rfl) ?_
  refine VR.pure rfl rfl (p_pickF rfl rfl) ?_
  refine VR.pure rfl rfl (p_moveB rfl) ?_
  refine VR.knownF 83 rfl rfl ?_
  refine VR.pureG rfl rfl (p_moveI rfl) ?_
  refine VR.pureG rfl rfl (p_ne rfl rfl) ?_
  refine VR.pure rfl rfl (p_pickF rfl rfl) ?_
  refine VR.pure rfl rfl (p_moveB rfl) ?_
  refine VR.knownF 87 rfl rfl ?_
  refine VR.pureG rfl rfl (p_field (fo := 0) Try.underlying25 rfl Try.sizeOf22 rfl rfl rfl) ?_
  refine VR.valG rfl rfl (r_load (v := .int _ _) Try.isAgg22 rfl (hm.fix _ _ hG3) rfl) ?_
  refine VR.pureG rfl rfl (p_ne rfl rfl) ?_
  refine VR.pure rfl rfl (p_pickF rfl rfl) ?_
  refine VR.pure rfl rfl (p_moveB rfl) ?_
  refine VR.knownF 92 rfl rfl ?_
  refine VR.callG rfl rfl (r_call2 Try.call21 rfl rfl) (active_len (es := []) (k := 0) hm (by decide) ERow.nil small_nil (by decide)) ?_
  rintro _ w ⟨A93, c93, rfl, hm⟩
  refine VR.pureG rfl rfl (p_len Try.underlying33 rfl) ?_
  refine VR.pureG rfl rfl (p_ne rfl rfl) ?_
  refine VR.pure rfl rfl (p_pickF rfl rfl) ?_
  refine VR.nil ?_
  repeat (first | refine VC.seq ?_ | refine VC.block ?_ | refine VC.skip ?_)
  refine VC.condF rfl rfl ?_
  repeat (first | refine VC.seq ?_ | refine VC.block ?_ | refine VC.skip ?_)
  refine VC.region ?_
  refine VR.pure rfl rfl (p_moveL rfl) ?_
  refine VR.pure rfl rfl (p_len Try.underlying33 rfl) ?_
  refine VR.pure rfl rfl (p_eq rfl rfl) ?_
  refine VR.pure rfl rfl (p_moveB rfl) ?_
  refine VR.knownT 100 rfl rfl ?_
  refine VR.pureG rfl rfl (p_moveL rfl) ?_
  refine VR.pureG rfl rfl (p_idxN (j := 0) Try.underlying33 Try.sizeOf25 rfl rfl (by decide)) ?_
  refine VR.pureG rfl rfl (p_field (fo := 0) Try.underlying25 rfl Try.sizeOf22 rfl rfl rfl) ?_
  refine VR.valG rfl rfl (r_load (v := .int _ _) Try.isAgg22 rfl (hm.fix _ _ hb3) (hc3 0 x rfl 0 (by decide))) ?_
  refine VR.pureG rfl rfl (p_eq rfl rfl) ?_
  refine VR.pure rfl rfl (p_pickT rfl rfl) ?_
  refine VR.pure rfl rfl (p_moveB rfl) ?_
  refine VR.knownT 107 rfl (decide_eq_true hv13) ?_
  refine VR.pureG rfl rfl (p_moveL rfl) ?_
  refine VR.pureG rfl rfl (p_len Try.underlying33 rfl) ?_
  refine VR.pureG rfl rfl (p_eq rfl rfl) ?_
  refine VR.pure rfl rfl (p_pickT rfl rfl) ?_
  refine VR.pure rfl rfl (p_moveB rfl) ?_
  refine VR.knownT 112 rfl rfl ?_
  refine VR.pureG rfl rfl (p_moveL rfl) ?_
  refine VR.pureG rfl rfl (p_idxN (j := 0) Try.underlying33 Try.sizeOf25 rfl rfl (by decide)) ?_
  refine VR.pureG rfl rfl (p_field (fo := 0) Try.underlying25 rfl Try.sizeOf22 rfl rfl rfl) ?_
  refine VR.valG rfl rfl (r_load (v := .int _ _) Try.isAgg22 rfl (hm.fix _ _ hb4) (hc4 0 y1 rfl 0 (by decide))) ?_
  refine VR.pureG rfl rfl (p_eq rfl rfl) ?_
  refine VR.pure rfl rfl (p_pickT rfl rfl) ?_
  refine VR.pure rfl rfl (p_moveB rfl) ?_
  refine VR.knownT 119 rfl (decide_eq_true hv14.1) ?_
  refine VR.pureG rfl rfl (p_moveL rfl) ?_
  refine VR.pureG rfl rfl (p_idxN (j := 1) Try.underlying33 Try.sizeOf25 rfl rfl (by decide)) ?_
  refine VR.pureG rfl rfl (p_field (fo := 0) Try.underlying25 rfl Try.sizeOf22 rfl rfl rfl) ?_
  refine VR.valG rfl rfl (r_load (v := .int _ _) Try.isAgg22 rfl (hm.fix _ _ hb4) (hc4 1 y2 rfl 0 (by decide))) ?_
  refine VR.pureG rfl rfl (p_eq rfl rfl) ?_
  refine VR.pure rfl rfl (p_pickT rfl rfl) ?_
  refine VR.pure rfl rfl (p_moveB rfl) ?_
  refine VR.knownT 126 rfl (decide_eq_true hv14.2) ?_
  refine VR.pureG rfl rfl (p_moveL rfl) ?_
  refine VR.pureG rfl rfl (p_len Try.underlying33 rfl) ?_
  refine VR.pureG rfl rfl (p_eq rfl rfl) ?_
  refine VR.pure rfl rfl (p_pickT rfl rfl) ?_
  refine VR.pure rfl rfl (p_moveB rfl) ?_
  refine VR.knownT 131 rfl rfl ?_
  refine VR.callG rfl rfl (r_call0 Try.call9) (awake_c hm) ?_
  rintro _ w ⟨rfl, hm⟩
  refine VR.pure rfl rfl (p_pickT rfl rfl) ?_
  refine VR.pure rfl rfl (p_assignB rfl) ?_
  refine VR.nil ?_
  repeat (first | refine VC.seq ?_ | refine VC.block ?_ | refine VC.skip ?_)
  refine VC.ret ⟨_, ResOf.r1 (v := .bool _) rfl rfl, ?_⟩
  exact ⟨rfl, hm.shrink hu⟩

end Go.Bd
namespace Go.Proofs.Ytinddgigjecofaa
open Go.Bd Go.ChangeShapes Go.WideShapes

set_option maxRecDepth 100000 in
theorem numbers_lifted (os : Os) (started : os.Started) (H : Type) (enc : TypeId × Value → H) :
    ReturnsInHanded {} Try.checked os 5 .any (Rows.reformNumbersSpec.pre6 enc Try.prog Try.f5 Rows.reformNumbersRow.domain false) (Rows.reformNumbersSpec.post enc Try.prog Try.f5 false true false false) := by
  refine law_frame (C := Try.checked) (tb := 4) (by kernel_rfl) (by kernel_rfl) started (by kernel_rfl) Try.func5 rfl rfl Try.underlying4 (by kernel_rfl) ?_
    (ChangeSpec.witness6 (enc := enc) (C := Try.checked) false ⟨#[], #[], []⟩ 8 (by kernel_rfl) (by kernel_rfl) (by kernel_rfl) (by kernel_rfl)) ?_
  · intro ds hl
    match ds, hl with
    | [], _ => rfl
  · intro W base args ds p hval hA hwt
    replace hA : DataW.TrodAll enc Try.prog W 0 (fun _ => true) true Try.f5.params.toList args.toList ds p := hA
    rw [Try.params5] at hA hval
    replace hwt : (DataW.weightsEach Try.prog [] ds).all (· ≤ reachBytes) = true := hwt
    obtain ⟨hargs, rfl, rfl⟩ := trodAll_nil hA
    obtain rfl : args = #[] := by cases args; simp_all
    exact reform_numbers_c (Mem.of W)

theorem numbers : Rows.ReformNumbersSaid :=
  OpenClaim.holds_of_wide 5 Try.f5 rfl rfl rfl rfl rfl rfl rfl ⟨rfl, rfl, rfl, rfl, rfl⟩ rfl rfl rfl rfl rfl (by kernel_rfl) Try.func5 (by kernel_rfl)
    (of_decide_eq_true (by kernel_rfl)) (by unfold Func.isWrapper; rw [if_neg (of_decide_eq_false (by kernel_rfl))]; exact ⟨rfl, rfl⟩)
    (fun os started H enc _ => numbers_lifted os started H enc)
end Go.Proofs.Ytinddgigjecofaa
