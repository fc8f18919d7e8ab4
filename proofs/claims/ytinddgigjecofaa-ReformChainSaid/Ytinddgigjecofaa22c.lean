/- The chapter's examples of layer 22, as a call. Conditions: none. -/
import Derived.Test.Ytinddgigjecofaa22b
namespace Go.Bd
open Go.Proofs
set_option linter.unusedVariables false

theorem make_ok {F : Env} {w : World} {Ls : List Blks} {A0 A : Option Addr} {n0 c0 n c : Nat} {ms : List Mb} {now from_ ver : Int} {acs : Array Value} (hm : Mem F w Ls) (hn : n * 32 ≤ 140737488355328) (hr : MRow F.heap A n ms)
    (h12 : acs[12]? = some (.int .i64 from_)) (h13 : acs[13]? = some (.slice A n c)) (h : makeCode now from_ ver ms = 0) :
    Calls Try.prog 12 #[.agg #[.int .i64 now, .slice A0 n0 c0], .agg acs, .int .i64 ver] w
      (Ret fun v w' => ∃ A' c' L, v = .tuple #[.agg #[.int .i64 ver, .slice A' n c'], .int .i64 0] ∧ OwnS 65 4 A' n c' (mcells ms) L ∧ Mem F w' (L :: Ls)) :=
  Ret.mono (make_c hm hn hr h12 h13) fun v w' h1 => h1.elim (fun h2 => h2.2) (fun h2 => absurd h h2.1)
theorem make_no {F : Env} {w : World} {Ls : List Blks} {A0 A : Option Addr} {n0 c0 n c : Nat} {ms : List Mb} {now from_ ver : Int} {acs : Array Value} (hm : Mem F w Ls) (hn : n * 32 ≤ 140737488355328) (hr : MRow F.heap A n ms)
    (h12 : acs[12]? = some (.int .i64 from_)) (h13 : acs[13]? = some (.slice A n c)) {code : Int} (h : makeCode now from_ ver ms = code) (h0 : code ≠ 0) :
    Calls Try.prog 12 #[.agg #[.int .i64 now, .slice A0 n0 c0], .agg acs, .int .i64 ver] w
      (Ret fun v w' => v = .tuple #[.agg #[.int .i64 0, .slice none 0 0], .int .i64 code] ∧ Mem F w' Ls) :=
  Ret.mono (make_c hm hn hr h12 h13) fun v w' h1 => h1.elim (fun h2 => absurd h2.1 (by rw [h]; exact h0)) (fun h2 => by rw [h] at h2; exact h2.2)
theorem active_len {F : Env} {w : World} {Ls : List Blks} {A : Option Addr} {n c : Nat} {es : List En} {committed : Int} (hm : Mem F w Ls) (hnc : n ≤ c ∧ c ≤ maxLen) (hr : ERow F.heap A n es) (hsmall : ∀ e ∈ es, e.n * 32 ≤ 140737488355328) {k : Nat}
    (hk : (es.map En.abs).length - fromOf (es.map En.abs) committed = k) :
    Calls Try.prog 21 #[.slice A n c, .int .i64 committed] w (Ret fun v w' => ∃ A' c', v = .slice A' k c' ∧ Mem F w' Ls) :=
  Ret.mono (active_c hm hnc hr hsmall) fun v w' ⟨A', c', outs, L, bs, h1, _, _, h4, _, h6⟩ => by
    have e : outs.length = k := by
      have := congrArg List.length h4
      rwa [List.length_map, List.length_drop, hk] at this
    rw [e] at h1
    exact ⟨A', c', h1, h6.pop.subF (by simp)⟩

def bare (v : Int) : En := ⟨v, none, 0, 0, []⟩
theorem bare_row {H : Nat → Option Obj} {b : Nat} {T : TypeId} {fr : Nat × Nat} {vs : List Int} (h : H b = some (.cells (ecells (vs.map bare)).toArray T fr)) : ERow H (some ⟨b, 0, none⟩) vs.length (vs.map bare) := by
  refine ⟨?_, ?_⟩
  · have := Row.lit h
    rwa [flat_len En.len, List.length_map] at this
  · intro e he
    obtain ⟨v, _, rfl⟩ := List.mem_map.1 he
    exact ⟨Row.nil _, Nat.le_refl _, by unfold maxLen; simp [bare]⟩
theorem bare_small {vs : List Int} : ∀ e ∈ vs.map bare, e.n * 32 ≤ 140737488355328 := by
  intro e he
  obtain ⟨v, _, rfl⟩ := List.mem_map.1 he
  simp [bare]

set_option maxHeartbeats 4000000 in
theorem awake_c {F : Env} {w : World} {Ls : List Blks} (hm : Mem F w Ls) : Calls Try.prog 9 #[] w (Ret fun v w' => v = .bool true ∧ Mem F w' Ls) := by
  refine Calls.of_vc Try.func9 rfl Try.ntmps9 rfl ?_
  repeat (first | refine VC.seq ?_ | refine VC.block ?_ | refine VC.skip ?_)
  refine VC.region ?_
  refine VR.pure rfl rfl (p_assignB rfl) ?_
  refine VR.nil ?_
  repeat (first | refine VC.seq ?_ | refine VC.block ?_ | refine VC.skip ?_)
  refine VC.region ?_
  refine VR.call rfl rfl (r_call0 Try.call26) (one_c hm) ?_
  rintro _ w ⟨b0, rfl, hm⟩
  refine VR.pure rfl rfl (p_build (vs := [(0, .int _ _), (1, .slice _ _ _)]) bld25_0_1 rfl) ?_
  refine VR.new hm rfl rfl (n_allocG Try.zeroValue25) ?_
  intro b1 w hm
  refine VR.store (cs' := #[.int .i64 5, .slice (some ⟨b0, 0, none⟩) 1 1]) (v := .agg _) Try.sizeOf25 rfl rfl rfl rfl rfl hm 0 0 rfl (Nat.ble_eq.mp rfl) rfl ?_
  intro w hm
  refine VR.nil ?_
  replace hm : Mem F w ([(b1, .cells #[.int .i64 5, .slice (some ⟨b0, 0, none⟩) 1 1] 25 (0, 0))] :: [(b0, .cells (mcells [⟨1, 1, 1, 0⟩]).toArray 65 (0, 0))] :: Ls) := hm
  replace hm := hm.pop2
  obtain ⟨G, hu, hm, hG⟩ := hm.freeze
  replace hG : G.heap b1 = some (.cells #[.int .i64 5, .slice (some ⟨b0, 0, none⟩) 1 1] 25 (0, 0)) := hG _ (.head _)
  repeat (first | refine VC.seq ?_ | refine VC.block ?_ | refine VC.skip ?_)
  refine VC.meet (σ := Nat × Option Addr × Nat) (fun s => [(1, .pointer (some ⟨b1, 0, none⟩)), (2, .pointer (some ⟨s.1, 0, none⟩)), (3, .int .i64 0)]) (fun s w => Mem G w ([(s.1, .cells #[.int .i64 9, .slice s.2.1 1 s.2.2] 25 (0, 0))] :: Ls)) ?_ ?_
  · repeat (first | refine VC.seq ?_ | refine VC.block ?_ | refine VC.skip ?_)
    refine VC.free (Kept G []) [1, 3, 7, 8] rfl (by kernel_rfl) (Kept.of0 hm.drew) ?_
    replace hm := hm.drew
    refine VD.read 0 rfl (by kernel_rfl) rfl rfl (fun w' hw' => r_loadAgg (vs := [.int _ _, .slice _ _ _]) Try.isAgg25 Try.sizeOf25 rfl (hw'.fix _ _ hG) rfl (agg_at rfl)) ?_
    refine VD.turn2 1 7 (by kernel_rfl) ?_ ?_
    refine VDT.call rfl rfl rfl (r_call0 Try.call26) (one_c hm) ?_
    rintro _ w ⟨b13, rfl, hm⟩
    refine ⟨Kept.of0 hm, ?_⟩
    refine VD.pure 2 rfl (by kernel_rfl) rfl rfl (p_build (vs := [(12, .int _ _), (13, .slice _ _ _)]) bld31_12_13 rfl) ?_
    refine VD.turn2 3 7 (by kernel_rfl) ?_ ?_
    refine VDT.call rfl rfl rfl (r_call3 Try.call12 rfl rfl rfl) (make_ok hm.all (by decide) (Row.lit (cs := mcells [⟨1, 1, 1, 0⟩]) (hm.plus_at 0 0 rfl)) rfl rfl (by decide)) ?_
    rintro _ w ⟨A2, c2, L2, rfl, ho, hm'⟩
    replace hm := hm.back hm'
    refine ⟨Kept.of0 hm, ?_⟩
    refine VD.pure 4 rfl (by kernel_rfl) rfl rfl (p_moveT rfl) ?_
    refine VD.pure 5 rfl (by kernel_rfl) rfl rfl (p_extract rfl rfl) ?_
    refine VD.pure 6 rfl (by kernel_rfl) rfl rfl (p_extract rfl rfl) ?_
    refine VD.turn1 7 (by kernel_rfl) ?_
    refine VDT.new hm rfl rfl rfl (n_allocG Try.zeroValue25) (fun b' w' hm' => Kept.of0 hm') ?_
    intro b2 w hm
    refine VD.turn1 8 (by kernel_rfl) ?_
    refine VDT.store (cs' := #[.int .i64 9, .slice A2 1 c2]) (v := .agg _) Try.sizeOf25 rfl rfl rfl rfl rfl rfl hm 0 0 rfl (Nat.ble_eq.mp rfl) rfl (fun w' hm' => Kept.of0 hm') ?_
    intro w hm
    refine VD.pure 9 rfl (by kernel_rfl) rfl rfl (p_assignI rfl) ?_
    refine VD.nil (by kernel_rfl) rfl ?_
    rotate_left 1
    refine VDT.new hm rfl rfl rfl (n_allocG Try.zeroValue25) (fun b' w' hm' => Kept.of0 hm') ?_
    intro b2 w hm
    refine VD.turn1 3 (by kernel_rfl) ?_
    refine VDT.call rfl rfl rfl (r_call3 Try.call12 rfl rfl rfl) (make_ok hm.all (by decide) (Row.lit (cs := mcells [⟨1, 1, 1, 0⟩]) (hm.plus_at 1 0 rfl)) rfl rfl (by decide)) ?_
    rintro _ w ⟨A2, c2, L2, rfl, ho, hm'⟩
    replace hm := hm.back hm'
    refine ⟨Kept.of0 hm, ?_⟩
    refine VD.pure 4 rfl (by kernel_rfl) rfl rfl (p_moveT rfl) ?_
    refine VD.pure 5 rfl (by kernel_rfl) rfl rfl (p_extract rfl rfl) ?_
    refine VD.pure 6 rfl (by kernel_rfl) rfl rfl (p_extract rfl rfl) ?_
    refine VD.turn1 8 (by kernel_rfl) ?_
    refine VDT.store (cs' := #[.int .i64 9, .slice A2 1 c2]) (v := .agg _) Try.sizeOf25 rfl rfl rfl rfl rfl rfl hm 1 0 rfl (Nat.ble_eq.mp rfl) rfl (fun w' hm' => Kept.of0 hm') ?_
    intro w hm
    refine VD.pure 9 rfl (by kernel_rfl) rfl rfl (p_assignI rfl) ?_
    refine VD.nil (by kernel_rfl) rfl ?_
    rotate_left 1
    refine VDT.new hm rfl rfl rfl (n_allocG Try.zeroValue25) (fun b' w' hm' => Kept.of0 hm') ?_
    intro b2 w hm
    refine VD.turn1 1 (by kernel_rfl) ?_
    refine VDT.call rfl rfl rfl (r_call0 Try.call26) (one_c hm) ?_
    rintro _ w ⟨b13, rfl, hm⟩
    refine ⟨Kept.of0 hm, ?_⟩
    refine VD.pure 2 rfl (by kernel_rfl) rfl rfl (p_build (vs := [(12, .int _ _), (13, .slice _ _ _)]) bld31_12_13 rfl) ?_
    refine VD.turn1 3 (by kernel_rfl) ?_
    refine VDT.call rfl rfl rfl (r_call3 Try.call12 rfl rfl rfl) (make_ok hm.all (by decide) (Row.lit (cs := mcells [⟨1, 1, 1, 0⟩]) (hm.plus_at 0 0 rfl)) rfl rfl (by decide)) ?_
    rintro _ w ⟨A2, c2, L2, rfl, ho, hm'⟩
    replace hm := hm.back hm'
    refine ⟨Kept.of0 hm, ?_⟩
    refine VD.pure 4 rfl (by kernel_rfl) rfl rfl (p_moveT rfl) ?_
    refine VD.pure 5 rfl (by kernel_rfl) rfl rfl (p_extract rfl rfl) ?_
    refine VD.pure 6 rfl (by kernel_rfl) rfl rfl (p_extract rfl rfl) ?_
    refine VD.turn1 8 (by kernel_rfl) ?_
    refine VDT.store (cs' := #[.int .i64 9, .slice A2 1 c2]) (v := .agg _) Try.sizeOf25 rfl rfl rfl rfl rfl rfl hm 2 0 rfl (Nat.ble_eq.mp rfl) rfl (fun w' hm' => Kept.of0 hm') ?_
    intro w hm
    refine VD.pure 9 rfl (by kernel_rfl) rfl rfl (p_assignI rfl) ?_
    refine VD.nil (by kernel_rfl) rfl ?_
    rotate_left 1
    · replace hm : Mem G w ([(b2, .cells #[.int .i64 9, .slice A2 1 c2] 25 (0, 0))] :: L2 :: [(b13, .cells (mcells [⟨1, 1, 1, 0⟩]).toArray 65 (0, 0))] :: Ls) := hm
      exact ⟨(b2, A2, c2), ⟨rfl, rfl, rfl, trivial⟩, hm.pop2.pop2⟩
    · replace hm : Mem G w (L2 :: [(b2, .cells #[.int .i64 9, .slice A2 1 c2] 25 (0, 0))] :: [(b13, .cells (mcells [⟨1, 1, 1, 0⟩]).toArray 65 (0, 0))] :: Ls) := hm
      exact ⟨(b2, A2, c2), ⟨rfl, rfl, rfl, trivial⟩, hm.pop.pop2⟩
    · replace hm : Mem G w (L2 :: [(b13, .cells (mcells [⟨1, 1, 1, 0⟩]).toArray 65 (0, 0))] :: [(b2, .cells #[.int .i64 9, .slice A2 1 c2] 25 (0, 0))] :: Ls) := hm
      exact ⟨(b2, A2, c2), ⟨rfl, rfl, rfl, trivial⟩, hm.pop.pop⟩
  · clear hm
    rintro ⟨b2, A2, c2⟩ A' w hm
    dsimp only at hm ⊢
    repeat (first | refine VC.seq ?_ | refine VC.block ?_ | refine VC.skip ?_)
    refine VC.region ?_
    refine VR.val rfl rfl (r_loadAgg (vs := [.int _ _, .slice _ _ _]) Try.isAgg25 Try.sizeOf25 rfl (hm.fix _ _ hG) rfl (agg_at rfl)) ?_
    refine VR.pure rfl rfl (p_build (vs := [(12, .int _ _)]) bld31_12 rfl) ?_
    refine VR.call rfl rfl (r_call3 Try.call12 rfl rfl rfl) (make_no (ms := []) (code := 212) hm (by decide) (Row.nil _) rfl rfl (by decide) (by decide)) ?_
    rintro _ w ⟨rfl, hm⟩
    refine VR.pure rfl rfl (p_moveT rfl) ?_
    refine VR.pure rfl rfl (p_extract rfl rfl) ?_
    refine VR.pure rfl rfl (p_extract rfl rfl) ?_
    refine VR.new hm rfl rfl (n_allocG Try.zeroValue25) ?_
    intro b4 w hm
    refine VR.store (cs' := #[.int .i64 0, .slice none 0 0]) (v := .agg _) Try.sizeOf25 rfl rfl rfl rfl rfl hm 0 0 rfl (Nat.ble_eq.mp rfl) rfl ?_
    intro w hm
    refine VR.pure rfl rfl (p_assignI rfl) ?_
    refine VR.nil ?_
    repeat (first | refine VC.seq ?_ | refine VC.block ?_ | refine VC.skip ?_)
    refine VC.region ?_
    refine VR.val rfl rfl (r_loadAgg (vs := [.int _ _, .slice _ _ _]) Try.isAgg25 Try.sizeOf25 rfl (hm.fix _ _ hG) rfl (agg_at rfl)) ?_
    refine VR.pure rfl rfl (p_build (vs := []) bld31_0x rfl) ?_
    refine VR.call rfl rfl (r_call3 Try.call12 rfl rfl rfl) (make_no (ms := []) (code := 140) hm (by decide) (Row.nil _) rfl rfl (by decide) (by decide)) ?_
    rintro _ w ⟨rfl, hm⟩
    refine VR.pure rfl rfl (p_moveT rfl) ?_
    refine VR.pure rfl rfl (p_extract rfl rfl) ?_
    refine VR.pure rfl rfl (p_extract rfl rfl) ?_
    refine VR.new hm rfl rfl (n_allocG Try.zeroValue25) ?_
    intro b6 w hm
    refine VR.store (cs' := #[.int .i64 0, .slice none 0 0]) (v := .agg _) Try.sizeOf25 rfl rfl rfl rfl rfl hm 0 0 rfl (Nat.ble_eq.mp rfl) rfl ?_
    intro w hm
    refine VR.pure rfl rfl (p_assignI rfl) ?_
    refine VR.nil ?_
    repeat (first | refine VC.seq ?_ | refine VC.block ?_ | refine VC.skip ?_)
    refine VC.region ?_
    refine VR.pure rfl rfl (p_build (vs := [(0, .int _ _)]) bld25_0 rfl) ?_
    refine VR.pure rfl rfl (p_build (vs := [(0, .int _ _)]) bld25_0 rfl) ?_
    refine VR.pure rfl rfl (p_build (vs := [(0, .int _ _)]) bld25_0 rfl) ?_
    refine VR.new hm rfl rfl (n_buildSlice (vs := [.agg _, .agg _, .agg _]) Try.underlying33 inf25 rfl rfl rfl rfl rfl rfl) ?_
    intro b8 w hm
    refine VR.pure rfl rfl (p_assignL rfl) ?_
    refine VR.nil ?_
    replace hm : Mem G w ([(b8, .cells (ecells ([0, 5, 9].map bare)).toArray 25 (0, 0))] :: [(b6, .cells #[.int .i64 0, .slice none 0 0] 25 (0, 0))] :: [(b4, .cells #[.int .i64 0, .slice none 0 0] 25 (0, 0))] :: [(b2, .cells #[.int .i64 9, .slice A2 1 c2] 25 (0, 0))] :: Ls) := hm
    repeat (first | refine VC.seq ?_ | refine VC.block ?_ | refine VC.skip ?_)
    refine VC.region ?_
    refine VR.pure rfl rfl (p_moveI rfl) ?_
    refine VR.pure rfl rfl (p_eq rfl rfl) ?_
    refine VR.pure rfl rfl (p_moveB rfl) ?_
    refine VR.pureG rfl rfl (p_field (fo := 0) Try.underlying25 rfl Try.sizeOf22 rfl rfl rfl) ?_
    refine VR.valG rfl rfl (r_load (v := .int _ _) Try.isAgg22 rfl (hm.at_ 3 0 rfl) rfl) ?_
    refine VR.pureG rfl rfl (p_eq rfl rfl) ?_
    refine VR.pure rfl rfl (p_pickT rfl rfl) ?_
    refine VR.pure rfl rfl (p_moveB rfl) ?_
    refine VR.pureG rfl rfl (p_field (fo := 1) Try.underlying25 rfl Try.sizeOf23 rfl rfl rfl) ?_
    refine VR.valG rfl rfl (r_load (v := .slice _ _ _) Try.isAgg23 rfl (hm.at_ 3 0 rfl) rfl) ?_
    refine VR.pureG rfl rfl (p_len Try.underlying23 rfl) ?_
    refine VR.pureG rfl rfl (p_eq rfl rfl) ?_
    refine VR.pure rfl rfl (p_pickT rfl rfl) ?_
    refine VR.pure rfl rfl (p_moveB rfl) ?_
    refine VR.pureG rfl rfl (p_moveI rfl) ?_
    refine VR.pureG rfl rfl (p_eq rfl rfl) ?_
    refine VR.pure rfl rfl (p_pickT rfl rfl) ?_
    refine VR.pure rfl rfl (p_moveB rfl) ?_
    refine VR.pureG rfl rfl (p_moveI rfl) ?_
    refine VR.pureG rfl rfl (p_eq rfl rfl) ?_
    refine VR.pure rfl rfl (p_pickT rfl rfl) ?_
    refine VR.pure rfl rfl (p_moveB rfl) ?_
    refine VR.pureG rfl rfl (p_moveL rfl) ?_
    refine VR.callG rfl rfl (r_call2 Try.call21 rfl rfl) (active_len (k := 1) hm.all (by decide) (bare_row (vs := [0, 5, 9]) (hm.plus_at 0 0 rfl)) bare_small (by decide)) ?_
    rintro _ w ⟨A57, c57, rfl, hm'⟩
    replace hm := hm.back0 hm'
    refine VR.pureG rfl rfl (p_len Try.underlying33 rfl) ?_
    refine VR.pureG rfl rfl (p_eq rfl rfl) ?_
    refine VR.pure rfl rfl (p_pickT rfl rfl) ?_
    refine VR.pure rfl rfl (p_moveB rfl) ?_
    refine VR.pureG rfl rfl (p_moveL rfl) ?_
    refine VR.callG rfl rfl (r_call2 Try.call21 rfl rfl) (active_len (k := 2) hm.all (by decide) (bare_row (vs := [0, 5, 9]) (hm.plus_at 0 0 rfl)) bare_small (by decide)) ?_
    rintro _ w ⟨A63, c63, rfl, hm'⟩
    replace hm := hm.back0 hm'
    refine VR.pureG rfl rfl (p_len Try.underlying33 rfl) ?_
    refine VR.pureG rfl rfl (p_eq rfl rfl) ?_
    refine VR.pure rfl rfl (p_pickT rfl rfl) ?_
    refine VR.pure rfl rfl (p_assignB rfl) ?_
    refine VR.nil ?_
    repeat (first | refine VC.seq ?_ | refine VC.block ?_ | refine VC.skip ?_)
    refine VC.ret ⟨_, ResOf.r1 (v := .bool _) rfl rfl, ?_⟩
    exact ⟨rfl, (hm.pop.pop.pop.pop).shrink hu⟩

end Go.Bd
