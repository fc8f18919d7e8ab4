/- Contracts of layer 20: choosers that aren't there; three voters; two of three agree. Conditions: as each states. -/
import Derived.Test.Ytnakbhpgcngofaa20s
namespace Go.Bd
open Go.Proofs
set_option linter.unusedVariables false
set_option maxRecDepth 20000

section
variable {F : Env} {w : World} {Ls : List Blks}
theorem hear_nil {frm : Int} {cs : Array Value} (hm : Mem F w Ls) : Calls Try.prog 15 #[.pointer none, .int .i64 frm, .agg cs] w (Ret fun v w' => v = .bool false ∧ Mem F w' Ls) := by
  refine Calls.of_vc Try.func15 rfl Try.ntmps15 rfl ?_
  repeat (first | refine VC.seq ?_ | refine VC.block ?_ | refine VC.skip ?_)
  refine VC.region ?_
  refine VR.new hm rfl rfl (n_boxG rfl) ?_
  intro b5 w hm
  refine VR.pure rfl rfl (p_assignB rfl) ?_
  refine VR.nil ?_
  repeat (first | refine VC.seq ?_ | refine VC.block ?_ | refine VC.skip ?_)
  refine VC.loud (Kept F []) [1] rfl (by kernel_rfl) (Kept.of0 hm.drew) ?_
  replace hm := hm.drew
  refine VL.pure rfl rfl rfl (p_moveP rfl) ?_
  refine VL.call rfl rfl rfl (r_call1 Try.call35 rfl) (there_nil) ?_
  rintro _ _ ⟨rfl, rfl⟩
  refine ⟨Kept.of0 hm, ?_⟩
  refine VL.pure rfl rfl rfl (p_not rfl) ?_
  refine VL.pure rfl rfl rfl (p_moveB rfl) ?_
  refine VL.knownT 11 rfl rfl ?_
  refine VL.pass rfl rfl ?_
  refine VL.pass rfl rfl ?_
  refine VL.pass rfl rfl ?_
  refine VL.pure rfl rfl rfl (p_pickT rfl rfl) ?_
  refine VL.pure rfl rfl rfl (p_moveB rfl) ?_
  refine VL.pass rfl rfl ?_
  refine VL.pass rfl rfl ?_
  refine VL.pass rfl rfl ?_
  refine VL.pure rfl rfl rfl (p_pickT rfl rfl) ?_
  refine VL.pure rfl rfl rfl (p_moveB rfl) ?_
  refine VL.pass rfl rfl ?_
  refine VL.pass rfl rfl ?_
  refine VL.pure rfl rfl rfl (p_pickT rfl rfl) ?_
  refine VL.pure rfl rfl rfl (p_moveB rfl) ?_
  refine VL.pass rfl rfl ?_
  refine VL.pass rfl rfl ?_
  refine VL.pure rfl rfl rfl (p_pickT rfl rfl) ?_
  refine VL.pure rfl rfl rfl (p_moveB rfl) ?_
  refine VL.pass rfl rfl ?_
  refine VL.pass rfl rfl ?_
  refine VL.pass rfl rfl ?_
  refine VL.pass rfl rfl ?_
  refine VL.pass rfl rfl ?_
  refine VL.pass rfl rfl ?_
  refine VL.pure rfl rfl rfl (p_pickT rfl rfl) ?_
  refine VL.pure rfl rfl rfl (p_moveB rfl) ?_
  refine VL.pass rfl rfl ?_
  refine VL.pass rfl rfl ?_
  refine VL.pass rfl rfl ?_
  refine VL.pass rfl rfl ?_
  refine VL.pass rfl rfl ?_
  refine VL.pass rfl rfl ?_
  refine VL.pass rfl rfl ?_
  refine VL.pure rfl rfl rfl (p_pickT rfl rfl) ?_
  refine VL.nil ?_
  repeat (first | refine VC.seq ?_ | refine VC.block ?_ | refine VC.skip ?_)
  refine VC.condT rfl rfl ?_
  repeat (first | refine VC.seq ?_ | refine VC.block ?_ | refine VC.skip ?_)
  refine VC.region ?_
  refine VR.pure rfl rfl (p_assignB rfl) ?_
  refine VR.nil ?_
  repeat (first | refine VC.seq ?_ | refine VC.block ?_ | refine VC.skip ?_)
  refine VC.ret ⟨_, ResOf.r1 (v := .bool _) rfl rfl, ?_⟩
  exact ⟨rfl, hm.pop⟩
theorem hear_zero {g : Nat} {T : TypeId} {cur : Array Value} {frm : Int} {cs : Array Value} (hm : Mem F w Ls) (hg : F.heap g = some (.cells cur T (0, 0))) (h0 : cur[0]? = some (.int .i64 0)) :
    Calls Try.prog 15 #[.pointer (some ⟨g, 0, none⟩), .int .i64 frm, .agg cs] w (Ret fun v w' => v = .bool false ∧ Mem F w' Ls) := by
  refine Calls.of_vc Try.func15 rfl Try.ntmps15 rfl ?_
  repeat (first | refine VC.seq ?_ | refine VC.block ?_ | refine VC.skip ?_)
  refine VC.region ?_
  refine VR.new hm rfl rfl (n_boxG rfl) ?_
  intro b5 w hm
  refine VR.pure rfl rfl (p_assignB rfl) ?_
  refine VR.nil ?_
  repeat (first | refine VC.seq ?_ | refine VC.block ?_ | refine VC.skip ?_)
  refine VC.loud (Kept F []) [1] rfl (by kernel_rfl) (Kept.of0 hm.drew) ?_
  replace hm := hm.drew
  refine VL.pure rfl rfl rfl (p_moveP rfl) ?_
  refine VL.call rfl rfl rfl (r_call1 Try.call35 rfl) (there_c (id := 0) hm hg h0) ?_
  rintro _ w ⟨rfl, hm⟩
  refine ⟨Kept.of0 hm, ?_⟩
  refine VL.pure rfl rfl rfl (p_not rfl) ?_
  refine VL.pure rfl rfl rfl (p_moveB rfl) ?_
  refine VL.knownT 11 rfl rfl ?_
  refine VL.pass rfl rfl ?_
  refine VL.pass rfl rfl ?_
  refine VL.pass rfl rfl ?_
  refine VL.pure rfl rfl rfl (p_pickT rfl rfl) ?_
  refine VL.pure rfl rfl rfl (p_moveB rfl) ?_
  refine VL.pass rfl rfl ?_
  refine VL.pass rfl rfl ?_
  refine VL.pass rfl rfl ?_
  refine VL.pure rfl rfl rfl (p_pickT rfl rfl) ?_
  refine VL.pure rfl rfl rfl (p_moveB rfl) ?_
  refine VL.pass rfl rfl ?_
  refine VL.pass rfl rfl ?_
  refine VL.pure rfl rfl rfl (p_pickT rfl rfl) ?_
  refine VL.pure rfl rfl rfl (p_moveB rfl) ?_
  refine VL.pass rfl rfl ?_
  refine VL.pass rfl rfl ?_
  refine VL.pure rfl rfl rfl (p_pickT rfl rfl) ?_
  refine VL.pure rfl rfl rfl (p_moveB rfl) ?_
  refine VL.pass rfl rfl ?_
  refine VL.pass rfl rfl ?_
  refine VL.pass rfl rfl ?_
  refine VL.pass rfl rfl ?_
  refine VL.pass rfl rfl ?_
  refine VL.pass rfl rfl ?_
  refine VL.pure rfl rfl rfl (p_pickT rfl rfl) ?_
  refine VL.pure rfl rfl rfl (p_moveB rfl) ?_
  refine VL.pass rfl rfl ?_
  refine VL.pass rfl rfl ?_
  refine VL.pass rfl rfl ?_
  refine VL.pass rfl rfl ?_
  refine VL.pass rfl rfl ?_
  refine VL.pass rfl rfl ?_
  refine VL.pass rfl rfl ?_
  refine VL.pure rfl rfl rfl (p_pickT rfl rfl) ?_
  refine VL.nil ?_
  repeat (first | refine VC.seq ?_ | refine VC.block ?_ | refine VC.skip ?_)
  refine VC.condT rfl rfl ?_
  repeat (first | refine VC.seq ?_ | refine VC.block ?_ | refine VC.skip ?_)
  refine VC.region ?_
  refine VR.pure rfl rfl (p_assignB rfl) ?_
  refine VR.nil ?_
  repeat (first | refine VC.seq ?_ | refine VC.block ?_ | refine VC.skip ?_)
  refine VC.ret ⟨_, ResOf.r1 (v := .bool _) rfl rfl, ?_⟩
  exact ⟨rfl, hm.pop⟩
theorem tick_nil (hm : Mem F w Ls) : Calls Try.prog 17 #[.pointer none] w (Ret fun v w' => v = .tuple #[.int .i64 0, .bool false] ∧ Mem F w' Ls) := by
  refine Calls.of_vc Try.func17 rfl Try.ntmps17 rfl ?_
  repeat (first | refine VC.seq ?_ | refine VC.block ?_ | refine VC.skip ?_)
  refine VC.region ?_
  refine VR.pure rfl rfl (p_assignI rfl) ?_
  refine VR.pure rfl rfl (p_assignB rfl) ?_
  refine VR.nil ?_
  repeat (first | refine VC.seq ?_ | refine VC.block ?_ | refine VC.skip ?_)
  refine VC.region ?_
  refine VR.pure rfl rfl (p_moveP rfl) ?_
  refine VR.call rfl rfl (r_call1 Try.call35 rfl) (there_nil) ?_
  rintro _ _ ⟨rfl, rfl⟩
  refine VR.pure rfl rfl (p_not rfl) ?_
  refine VR.nil ?_
  repeat (first | refine VC.seq ?_ | refine VC.block ?_ | refine VC.skip ?_)
  refine VC.condT rfl rfl ?_
  repeat (first | refine VC.seq ?_ | refine VC.block ?_ | refine VC.skip ?_)
  refine VC.region ?_
  refine VR.pure rfl rfl (p_assignI rfl) ?_
  refine VR.pure rfl rfl (p_assignB rfl) ?_
  refine VR.nil ?_
  repeat (first | refine VC.seq ?_ | refine VC.block ?_ | refine VC.skip ?_)
  refine VC.ret ⟨_, ResOf.r2 (v := .int _ _) (u := .bool _) rfl rfl rfl, ?_⟩
  exact ⟨rfl, hm⟩
theorem tick_zero {g : Nat} {T : TypeId} {cur : Array Value} (hm : Mem F w Ls) (hg : F.heap g = some (.cells cur T (0, 0))) (h0 : cur[0]? = some (.int .i64 0)) :
    Calls Try.prog 17 #[.pointer (some ⟨g, 0, none⟩)] w (Ret fun v w' => v = .tuple #[.int .i64 0, .bool false] ∧ Mem F w' Ls) := by
  refine Calls.of_vc Try.func17 rfl Try.ntmps17 rfl ?_
  repeat (first | refine VC.seq ?_ | refine VC.block ?_ | refine VC.skip ?_)
  refine VC.region ?_
  refine VR.pure rfl rfl (p_assignI rfl) ?_
  refine VR.pure rfl rfl (p_assignB rfl) ?_
  refine VR.nil ?_
  repeat (first | refine VC.seq ?_ | refine VC.block ?_ | refine VC.skip ?_)
  refine VC.region ?_
  refine VR.pure rfl rfl (p_moveP rfl) ?_
  refine VR.call rfl rfl (r_call1 Try.call35 rfl) (there_c (id := 0) hm hg h0) ?_
  rintro _ w ⟨rfl, hm⟩
  refine VR.pure rfl rfl (p_not rfl) ?_
  refine VR.nil ?_
  repeat (first | refine VC.seq ?_ | refine VC.block ?_ | refine VC.skip ?_)
  refine VC.condT rfl rfl ?_
  repeat (first | refine VC.seq ?_ | refine VC.block ?_ | refine VC.skip ?_)
  refine VC.region ?_
  refine VR.pure rfl rfl (p_assignI rfl) ?_
  refine VR.pure rfl rfl (p_assignB rfl) ?_
  refine VR.nil ?_
  repeat (first | refine VC.seq ?_ | refine VC.block ?_ | refine VC.skip ?_)
  refine VC.ret ⟨_, ResOf.r2 (v := .int _ _) (u := .bool _) rfl rfl rfl, ?_⟩
  exact ⟨rfl, hm⟩
def m123 : List Mb := [⟨1, 1, 1, 0⟩, ⟨2, 1, 1, 0⟩, ⟨3, 1, 1, 0⟩]
theorem three_c (hm : Mem F w Ls) : Calls Try.prog 24 #[] w
    (Ret fun v w' => ∃ b es G, v = .slice (some ⟨b, 0, none⟩) 1 1 ∧ F.under G ∧ ERow G.heap (some ⟨b, 0, none⟩) 1 es ∧ es.map En.abs = [(0, m123)] ∧ (∀ e ∈ es, e.n * 32 ≤ 140737488355328) ∧ Mem G w' Ls) := by
  refine Calls.of_vc Try.func24 rfl Try.ntmps24 rfl ?_
  repeat (first | refine VC.seq ?_ | refine VC.block ?_ | refine VC.skip ?_)
  refine VC.region ?_
  refine VR.pure rfl rfl (p_assignL rfl) ?_
  refine VR.nil ?_
  repeat (first | refine VC.seq ?_ | refine VC.block ?_ | refine VC.skip ?_)
  refine VC.region ?_
  refine VR.pure rfl rfl (p_build (vs := [(0, .int _ _), (1, .int _ _), (2, .int _ _)]) bld99_0_1_2 rfl) ?_
  refine VR.pure rfl rfl (p_build (vs := [(0, .int _ _), (1, .int _ _), (2, .int _ _)]) bld99_0_1_2 rfl) ?_
  refine VR.pure rfl rfl (p_build (vs := [(0, .int _ _), (1, .int _ _), (2, .int _ _)]) bld99_0_1_2 rfl) ?_
  refine VR.new hm rfl rfl (n_buildSlice (vs := [.agg _, .agg _, .agg _]) Try.underlying40 inf99 rfl rfl rfl rfl rfl rfl) ?_
  intro b3 w hm
  refine VR.pure rfl rfl (p_build (vs := [(1, .slice _ _ _)]) bld42_1 rfl) ?_
  refine VR.new hm rfl rfl (n_buildSlice (vs := [.agg _]) Try.underlying23 inf42 rfl rfl rfl rfl rfl rfl) ?_
  intro b5 w hm
  refine VR.pure rfl rfl (p_assignL rfl) ?_
  refine VR.nil ?_
  repeat (first | refine VC.seq ?_ | refine VC.block ?_ | refine VC.skip ?_)
  refine VC.ret ⟨_, ResOf.r1 (v := .slice _ _ _) rfl rfl, ?_⟩
  obtain ⟨G1, hu1, hm, hb5⟩ := hm.freeze
  obtain ⟨G, hu, hm, hb3⟩ := hm.freeze
  replace hb5 := hu.heap _ _ (hb5 _ (.head _))
  replace hb3 := hb3 _ (.head _)
  refine ⟨b5, [⟨0, some ⟨b3, 0, none⟩, 3, 3, m123⟩], G, rfl, hu1.trans hu, ⟨Row.lit (cs := [.int .i64 0, .slice (some ⟨b3, 0, none⟩) 3 3]) hb5, fun e he => ?_⟩, rfl, fun e he => ?_, hm⟩
  · obtain rfl := List.mem_singleton.1 he
    exact ⟨Row.lit (cs := mcells m123) hb3, Nat.le_refl _, by unfold maxLen; show 3 ≤ _; omega⟩
  · obtain rfl := List.mem_singleton.1 he
    show 3 * 32 ≤ _
    omega
def votA (a : Ca) : Lt := ⟨1, 1, a.round, a.v.l, a.v.e, a.v.z⟩
theorem letA_vot (C : Ch) : LetAt (letA C.round C.v) (votA C.abs) := ⟨rfl, rfl, rfl, rfl, rfl, rfl⟩
set_option maxHeartbeats 4000000 in
theorem awake_c (hm : Mem F w []) : Calls Try.prog 7 #[] w (Ret fun v w' => v = .bool true ∧ Mem F w' []) := by
  have k1 : (hearA (newA 1 0 5 [(0, m123)]) 2 (votA (newA 2 0 9 [(0, m123)]))).1 = true := by kernel_rfl
  have k2 : (hearA (newA 2 0 9 [(0, m123)]) 1 (votA (hearA (newA 1 0 5 [(0, m123)]) 2 (votA (newA 2 0 9 [(0, m123)]))).2)).1 = false := by kernel_rfl
  have k3 : (tickA (tickA (hearA (newA 1 0 5 [(0, m123)]) 2 (votA (newA 2 0 9 [(0, m123)]))).2).2).1 = (2, true) := by kernel_rfl
  have k4 : (tickA (tickA (hearA (newA 2 0 9 [(0, m123)]) 1 (votA (hearA (newA 1 0 5 [(0, m123)]) 2 (votA (newA 2 0 9 [(0, m123)]))).2)).2).2).1 = (2, true) := by kernel_rfl
  refine Calls.of_vc Try.func7 rfl Try.ntmps7 rfl ?_
  repeat (first | refine VC.seq ?_ | refine VC.block ?_ | refine VC.skip ?_)
  refine VC.region ?_
  refine VR.pure rfl rfl (p_assignB rfl) ?_
  refine VR.nil ?_
  repeat (first | refine VC.seq ?_ | refine VC.block ?_ | refine VC.skip ?_)
  refine VC.region ?_
  refine VR.call rfl rfl (r_call0 Try.call24) (three_c hm) ?_
  rintro _ w ⟨q1, es1, G1, rfl, hu1, hr1, ha1, hs1, hm⟩
  refine VR.call rfl rfl (r_call4 Try.call9 rfl rfl rfl rfl) (new_c (id := 1) hm (by decide) (by decide) hr1 hs1) ?_
  rintro _ w ⟨g1, m1, C1, G2, rfl, hu2, hC1, hab1, hm⟩
  refine VR.call rfl rfl (r_call0 Try.call24) (three_c hm) ?_
  rintro _ w ⟨q2, es2, G3, rfl, hu3, hr2, ha2, hs2, hm⟩
  refine VR.call rfl rfl (r_call4 Try.call9 rfl rfl rfl rfl) (new_c (id := 2) hm (by decide) (by decide) hr2 hs2) ?_
  rintro _ w ⟨g2, m2, C2, G, rfl, hu4, hC2, hab2, hm⟩
  refine VR.pure rfl rfl (p_assignP rfl) ?_
  refine VR.pure rfl rfl (p_assignP rfl) ?_
  refine VR.nil ?_
  rw [ha1] at hab1
  rw [ha2] at hab2
  replace hC1 := (hC1.mono hu3.heap).mono hu4.heap
  have huG := ((hu1.trans hu2).trans hu3).trans hu4
  repeat (first | refine VC.seq ?_ | refine VC.block ?_ | refine VC.skip ?_)
  refine VC.region ?_
  refine VR.pure rfl rfl (p_moveP rfl) ?_
  refine VR.pure rfl rfl (p_eqNilP Try.underlying27 rfl) ?_
  refine VR.pure rfl rfl (p_moveB rfl) ?_
  refine VR.knownF 13 rfl rfl ?_
  refine VR.pureG rfl rfl (p_moveP rfl) ?_
  refine VR.pureG rfl rfl (p_eqNilP Try.underlying27 rfl) ?_
  refine VR.pure rfl rfl (p_pickF rfl rfl) ?_
  refine VR.pure rfl rfl (p_moveB rfl) ?_
  refine VR.knownF 17 rfl rfl ?_
  refine VR.pureG rfl rfl (p_moveP rfl) ?_
  refine VR.pureG rfl rfl (p_moveP rfl) ?_
  refine VR.callG rfl rfl (r_call1 Try.call22 rfl) (vote_c hm hC2) ?_
  rintro _ w ⟨rfl, hm⟩
  replace hm := ((hm.pull 3 rfl).pull 3 rfl)
  refine VR.callG rfl rfl (r_call3 Try.call15 rfl rfl rfl) (hear_c (t := votA C2.abs) hm hC1 (letA_vot C2)) ?_
  rintro _ w ⟨m3, C3, rfl, hC3, hab3, hm⟩
  refine VR.pureG rfl rfl (p_not rfl) ?_
  refine VR.pure rfl rfl (p_pickF rfl rfl) ?_
  refine VR.pure rfl rfl (p_moveB rfl) ?_
  refine VR.knownF 24 rfl (by rw [hab1, hab2, k1]; rfl) ?_
  refine VR.pureG rfl rfl (p_moveP rfl) ?_
  refine VR.pureG rfl rfl (p_moveP rfl) ?_
  refine VR.callG rfl rfl (r_call1 Try.call22 rfl) (vote_c hm hC3) ?_
  rintro _ w ⟨rfl, hm⟩
  replace hm := ((hm.pull 3 rfl).pull 3 rfl)
  refine VR.callG rfl rfl (r_call3 Try.call15 rfl rfl rfl) (hear_c (t := votA C3.abs) hm hC2 (letA_vot C3)) ?_
  rintro _ w ⟨m4, C4, rfl, hC4, hab4, hm⟩
  refine VR.pure rfl rfl (p_pickF rfl rfl) ?_
  refine VR.nil ?_
  rw [hab1, hab2] at hab3
  rw [hab2, hab3] at hab4
  repeat (first | refine VC.seq ?_ | refine VC.block ?_ | refine VC.skip ?_)
  refine VC.condF rfl (by rw [hab2, hab3, k2]) ?_
  replace hm := ((hm.pull 3 rfl).pull 3 rfl)
  repeat (first | refine VC.seq ?_ | refine VC.block ?_ | refine VC.skip ?_)
  refine VC.region ?_
  refine VR.pure rfl rfl (p_moveP rfl) ?_
  refine VR.call rfl rfl (r_call1 Try.call17 rfl) (tick_c hm hC3) ?_
  rintro _ w ⟨C5, rfl, hC5, hab5, hm⟩
  refine VR.nil ?_
  replace hm := ((hm.pull 3 rfl).pull 3 rfl)
  repeat (first | refine VC.seq ?_ | refine VC.block ?_ | refine VC.skip ?_)
  refine VC.region ?_
  refine VR.pure rfl rfl (p_moveP rfl) ?_
  refine VR.call rfl rfl (r_call1 Try.call17 rfl) (tick_c hm hC4) ?_
  rintro _ w ⟨C6, rfl, hC6, hab6, hm⟩
  refine VR.nil ?_
  replace hm := ((hm.pull 3 rfl).pull 3 rfl)
  rw [hab3] at hab5
  rw [hab4] at hab6
  have e3 := k3
  have e4 := k4
  rw [← hab5] at e3
  rw [← hab6] at e4
  have e31 := congrArg Prod.fst e3
  have e32 := congrArg Prod.snd e3
  have e41 := congrArg Prod.fst e4
  have e42 := congrArg Prod.snd e4
  dsimp only at e31 e32 e41 e42
  repeat (first | refine VC.seq ?_ | refine VC.block ?_ | refine VC.skip ?_)
  refine VC.region ?_
  refine VR.pure rfl rfl (p_moveP rfl) ?_
  refine VR.call rfl rfl (r_call1 Try.call17 rfl) (tick_c hm hC5) ?_
  rintro _ w ⟨C7, rfl, hC7, hab7, hm⟩
  refine VR.pure rfl rfl (p_moveT rfl) ?_
  refine VR.pure rfl rfl (p_extract rfl rfl) ?_
  refine VR.pure rfl rfl (p_extract rfl rfl) ?_
  refine VR.pure rfl rfl (p_assignI rfl) ?_
  refine VR.pure rfl rfl (p_assignB rfl) ?_
  refine VR.nil ?_
  replace hm := ((hm.pull 3 rfl).pull 3 rfl)
  repeat (first | refine VC.seq ?_ | refine VC.block ?_ | refine VC.skip ?_)
  refine VC.region ?_
  refine VR.pure rfl rfl (p_moveP rfl) ?_
  refine VR.call rfl rfl (r_call1 Try.call17 rfl) (tick_c hm hC6) ?_
  rintro _ w ⟨C8, rfl, hC8, hab8, hm⟩
  refine VR.pure rfl rfl (p_moveT rfl) ?_
  refine VR.pure rfl rfl (p_extract rfl rfl) ?_
  refine VR.pure rfl rfl (p_extract rfl rfl) ?_
  refine VR.pure rfl rfl (p_assignI rfl) ?_
  refine VR.pure rfl rfl (p_assignB rfl) ?_
  refine VR.nil ?_
  repeat (first | refine VC.seq ?_ | refine VC.block ?_ | refine VC.skip ?_)
  refine VC.region ?_
  refine VR.pure rfl rfl (p_moveI rfl) ?_
  refine VR.pure rfl rfl (p_eq rfl rfl) ?_
  refine VR.pure rfl rfl (p_moveB rfl) ?_
  refine VR.knownT 46 rfl (decide_eq_true e31) ?_
  refine VR.pureG rfl rfl (p_moveI rfl) ?_
  refine VR.pureG rfl rfl (p_eq rfl rfl) ?_
  refine VR.pure rfl rfl (p_pickT rfl rfl) ?_
  refine VR.pure rfl rfl (p_moveB rfl) ?_
  refine VR.knownT 50 rfl (decide_eq_true e41) ?_
  refine VR.pureG rfl rfl (p_moveB rfl) ?_
  refine VR.pure rfl rfl (p_pickT rfl rfl) ?_
  refine VR.pure rfl rfl (p_moveB rfl) ?_
  refine VR.knownT 53 rfl e32 ?_
  refine VR.pureG rfl rfl (p_moveB rfl) ?_
  refine VR.pure rfl rfl (p_pickT rfl rfl) ?_
  refine VR.pure rfl rfl (p_assignB rfl) ?_
  refine VR.nil ?_
  repeat (first | refine VC.seq ?_ | refine VC.block ?_ | refine VC.skip ?_)
  refine VC.ret ⟨_, ResOf.r1 (v := .bool _) rfl rfl, ?_⟩
  exact ⟨congrArg Value.bool e42, hm.none_.shrink huG⟩
end
end Go.Bd
