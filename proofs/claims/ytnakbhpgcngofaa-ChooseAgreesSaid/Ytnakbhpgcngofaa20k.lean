/- Contracts of layer 20: marks. Conditions: as each states. -/
import Derived.Test.Ytnakbhpgcngofaa20d
import Derived.Test.YtnakbhpgcngofaaApart
namespace Go.Bd
open Go.Proofs
set_option linter.unusedVariables false
set_option maxRecDepth 20000

def mark1 (k i : Nat) : Int := 1000003 * ((k : Int) + 7) + i
def mkm (k i : Nat) : Mb := ⟨mark1 k i, 0, 0, 0⟩
def mke (k i : Nat) : En := ⟨mark1 k i, none, 0, 0, []⟩
theorem mark_c {w : World} {k i : Int} (h : 0 ≤ k ∧ k ≤ 1099511627776 ∧ 0 ≤ i ∧ i ≤ 1125899906842624) :
    Calls Try.prog 49 #[.int .i64 k, .int .i64 i] w (Ret fun v w' => v = .int .i64 (1000003 * (k + 7) + i) ∧ w' = w) := by
  refine Calls.of_vc Try.func49 rfl Try.ntmps49 rfl ?_
  repeat (first | refine VC.seq ?_ | refine VC.block ?_ | refine VC.skip ?_)
  refine VC.region ?_
  refine VR.pure rfl rfl (p_assignI rfl) ?_
  refine VR.nil ?_
  repeat (first | refine VC.seq ?_ | refine VC.block ?_ | refine VC.skip ?_)
  refine VC.region ?_
  refine VR.pure rfl rfl (p_moveI rfl) ?_
  refine VR.pure rfl rfl (p_add64 rfl rfl (by omega)) ?_
  refine VR.pure rfl rfl (p_mul64 rfl rfl (by omega)) ?_
  refine VR.pure rfl rfl (p_moveI rfl) ?_
  refine VR.pure rfl rfl (p_add64 rfl rfl (by omega)) ?_
  refine VR.pure rfl rfl (p_assignI rfl) ?_
  refine VR.nil ?_
  repeat (first | refine VC.seq ?_ | refine VC.block ?_ | refine VC.skip ?_)
  refine VC.ret ⟨_, ResOf.r1 (v := .int _ _) rfl rfl, ?_⟩
  exact ⟨rfl, rfl⟩
theorem markMember_c {F : Env} {w : World} {Ls : List Blks} {k i : Int} (hm : Mem F w Ls) (h : 0 ≤ k ∧ k ≤ 1099511627776 ∧ 0 ≤ i ∧ i ≤ 1125899906842624) :
    Calls Try.prog 68 #[.int .i64 k, .int .i64 i] w (Ret fun v w' => v = .agg #[.int .i64 (1000003 * (k + 7) + i), .int .u8 0, .int .i64 0, .int .i64 0] ∧ Mem F w' Ls) := by
  refine Calls.of_vc Try.func68 rfl Try.ntmps68 rfl ?_
  repeat (first | refine VC.seq ?_ | refine VC.block ?_ | refine VC.skip ?_)
  refine VC.region ?_
  refine VR.new hm rfl rfl (n_allocG Try.zeroValue99) ?_
  intro b4 w hm
  refine VR.nil ?_
  repeat (first | refine VC.seq ?_ | refine VC.block ?_ | refine VC.skip ?_)
  refine VC.region ?_
  refine VR.pure rfl rfl (p_moveI rfl) ?_
  refine VR.pure rfl rfl (p_moveI rfl) ?_
  refine VR.call rfl rfl (r_call2 Try.call49 rfl rfl) (mark_c h) ?_
  rintro _ _ ⟨rfl, rfl⟩
  refine VR.pure rfl rfl (p_build (vs := [(0, .int _ _)]) bld99_0 rfl) ?_
  refine VR.store (cs' := #[.int .i64 (1000003 * (k + 7) + i), .int .u8 0, .int .i64 0, .int .i64 0]) (v := .agg _) Try.sizeOf99 rfl rfl rfl rfl rfl hm 0 0 rfl (Nat.ble_eq.mp rfl) rfl ?_
  intro w hm
  refine VR.nil ?_
  repeat (first | refine VC.seq ?_ | refine VC.block ?_ | refine VC.skip ?_)
  refine VC.ret ⟨_, ResOf.r1 (v := .agg _) rfl ⟨_, rfl, run_loadVarAgg Try.isAgg99 Try.sizeOf99 (hm.at_ 0 0 rfl) (vs := [.int .i64 (1000003 * (k + 7) + i), .int .u8 0, .int .i64 0, .int .i64 0]) rfl (agg_at rfl)⟩, ?_⟩
  exact ⟨rfl, hm.pop⟩
theorem markEnsemble_c {F : Env} {w : World} {Ls : List Blks} {k i : Int} (hm : Mem F w Ls) (h : 0 ≤ k ∧ k ≤ 1099511627776 ∧ 0 ≤ i ∧ i ≤ 1125899906842624) :
    Calls Try.prog 29 #[.int .i64 k, .int .i64 i] w (Ret fun v w' => v = .agg #[.int .i64 (1000003 * (k + 7) + i), .slice none 0 0] ∧ Mem F w' Ls) := by
  refine Calls.of_vc Try.func29 rfl Try.ntmps29 rfl ?_
  repeat (first | refine VC.seq ?_ | refine VC.block ?_ | refine VC.skip ?_)
  refine VC.region ?_
  refine VR.new hm rfl rfl (n_allocG Try.zeroValue42) ?_
  intro b4 w hm
  refine VR.nil ?_
  repeat (first | refine VC.seq ?_ | refine VC.block ?_ | refine VC.skip ?_)
  refine VC.region ?_
  refine VR.pure rfl rfl (p_moveI rfl) ?_
  refine VR.pure rfl rfl (p_moveI rfl) ?_
  refine VR.call rfl rfl (r_call2 Try.call49 rfl rfl) (mark_c h) ?_
  rintro _ _ ⟨rfl, rfl⟩
  refine VR.pure rfl rfl (p_build (vs := [(0, .int _ _)]) bld42_0 rfl) ?_
  refine VR.store (cs' := #[.int .i64 (1000003 * (k + 7) + i), .slice none 0 0]) (v := .agg _) Try.sizeOf42 rfl rfl rfl rfl rfl hm 0 0 rfl (Nat.ble_eq.mp rfl) rfl ?_
  intro w hm
  refine VR.nil ?_
  repeat (first | refine VC.seq ?_ | refine VC.block ?_ | refine VC.skip ?_)
  refine VC.ret ⟨_, ResOf.r1 (v := .agg _) rfl ⟨_, rfl, run_loadVarAgg Try.isAgg42 Try.sizeOf42 (hm.at_ 0 0 rfl) (vs := [.int .i64 (1000003 * (k + 7) + i), .slice none 0 0]) rfl (agg_at rfl)⟩, ?_⟩
  exact ⟨rfl, hm.pop⟩
end Go.Bd
