/- Contracts of layer 22: marks. Conditions: as each states. -/
import Derived.Test.Ytinddgigjecofaa22d
import Derived.Test.YtinddgigjecofaaApart
namespace Go.Bd
open Go.Proofs
set_option linter.unusedVariables false
set_option maxRecDepth 20000

def mark1 (k i : Nat) : Int := 1000003 * ((k : Int) + 7) + i
theorem mark_c {w : World} {k i : Int} (h : 0 ≤ k ∧ k ≤ 1099511627776 ∧ 0 ≤ i ∧ i ≤ 1125899906842624) :
    Calls Try.prog 77 #[.int .i64 k, .int .i64 i] w (Ret fun v w' => v = .int .i64 (1000003 * (k + 7) + i) ∧ w' = w) := by
  refine Calls.of_vc Try.func77 rfl Try.ntmps77 rfl ?_
  repeat (first | refine VC.seq ?_ | refine VC.block ?_ | refine VC.skip ?_)
  refine VC.region ?_
  refine VR.pure rfl rfl (p_assignI rfl) ?_
  refine VR.nil ?_
  repeat (first | refine VC.seq ?_ | refine VC.block ?_ | refine VC.skip ?_)
  refine VC.region ?_
  refine VR.pure rfl rfl (p_moveI rfl) ?_
  refine VR.pure rfl rfl (p_add64 rfl rfl (by omega)) ?_
  refine VR.pure rfl rfl (p_mul64 rfl rfl (by omega)) ?_
  refine VR.pure rfl rfl (p_moveI rfl) ?_
  refine VR.pure rfl rfl (p_add64 rfl rfl (by omega)) ?_
  refine VR.pure rfl rfl (p_assignI rfl) ?_
  refine VR.nil ?_
  repeat (first | refine VC.seq ?_ | refine VC.block ?_ | refine VC.skip ?_)
  refine VC.ret ⟨_, ResOf.r1 (v := .int _ _) rfl rfl, ?_⟩
  exact ⟨rfl, rfl⟩
theorem markMember_c {F : Env} {w : World} {Ls : List Blks} {k i : Int} (hm : Mem F w Ls) (h : 0 ≤ k ∧ k ≤ 1099511627776 ∧ 0 ≤ i ∧ i ≤ 1125899906842624) :
    Calls Try.prog 50 #[.int .i64 k, .int .i64 i] w (Ret fun v w' => v = .agg #[.int .i64 (1000003 * (k + 7) + i), .int .u8 0, .int .i64 0, .int .i64 0] ∧ Mem F w' Ls) := by
  refine Calls.of_vc Try.func50 rfl Try.ntmps50 rfl ?_
  repeat (first | refine VC.seq ?_ | refine VC.block ?_ | refine VC.skip ?_)
  refine VC.region ?_
  refine VR.new hm rfl rfl (n_allocG Try.zeroValue65) ?_
  intro b4 w hm
  refine VR.nil ?_
  repeat (first | refine VC.seq ?_ | refine VC.block ?_ | refine VC.skip ?_)
  refine VC.region ?_
  refine VR.pure rfl rfl (p_moveI rfl) ?_
  refine VR.pure rfl rfl (p_moveI rfl) ?_
  refine VR.call rfl rfl (r_call2 Try.call77 rfl rfl) (mark_c h) ?_
  rintro _ _ ⟨rfl, rfl⟩
  refine VR.pure rfl rfl (p_build (vs := [(0, .int _ _)]) bld65_0 rfl) ?_
  refine VR.store (cs' := #[.int .i64 (1000003 * (k + 7) + i), .int .u8 0, .int .i64 0, .int .i64 0]) (v := .agg _) Try.sizeOf65 rfl rfl rfl rfl rfl hm 0 0 rfl (Nat.ble_eq.mp rfl) rfl ?_
  intro w hm
  refine VR.nil ?_
  repeat (first | refine VC.seq ?_ | refine VC.block ?_ | refine VC.skip ?_)
  refine VC.ret ⟨_, ResOf.r1 (v := .agg _) rfl ⟨_, rfl, run_loadVarAgg Try.isAgg65 Try.sizeOf65 (hm.at_ 0 0 rfl) (vs := [.int .i64 (1000003 * (k + 7) + i), .int .u8 0, .int .i64 0, .int .i64 0]) rfl (agg_at rfl)⟩, ?_⟩
  exact ⟨rfl, hm.pop⟩
theorem markEnsemble_c {F : Env} {w : World} {Ls : List Blks} {k i : Int} (hm : Mem F w Ls) (h : 0 ≤ k ∧ k ≤ 1099511627776 ∧ 0 ≤ i ∧ i ≤ 1125899906842624) :
    Calls Try.prog 46 #[.int .i64 k, .int .i64 i] w (Ret fun v w' => v = .agg #[.int .i64 (1000003 * (k + 7) + i), .slice none 0 0] ∧ Mem F w' Ls) := by
  refine Calls.of_vc Try.func46 rfl Try.ntmps46 rfl ?_
  repeat (first | refine VC.seq ?_ | refine VC.block ?_ | refine VC.skip ?_)
  refine VC.region ?_
  refine VR.new hm rfl rfl (n_allocG Try.zeroValue25) ?_
  intro b4 w hm
  refine VR.nil ?_
  repeat (first | refine VC.seq ?_ | refine VC.block ?_ | refine VC.skip ?_)
  refine VC.region ?_
  refine VR.pure rfl rfl (p_moveI rfl) ?_
  refine VR.pure rfl rfl (p_moveI rfl) ?_
  refine VR.call rfl rfl (r_call2 Try.call77 rfl rfl) (mark_c h) ?_
  rintro _ _ ⟨rfl, rfl⟩
  refine VR.pure rfl rfl (p_build (vs := [(0, .int _ _)]) bld25_0 rfl) ?_
  refine VR.store (cs' := #[.int .i64 (1000003 * (k + 7) + i), .slice none 0 0]) (v := .agg _) Try.sizeOf25 rfl rfl rfl rfl rfl hm 0 0 rfl (Nat.ble_eq.mp rfl) rfl ?_
  intro w hm
  refine VR.nil ?_
  repeat (first | refine VC.seq ?_ | refine VC.block ?_ | refine VC.skip ?_)
  refine VC.ret ⟨_, ResOf.r1 (v := .agg _) rfl ⟨_, rfl, run_loadVarAgg Try.isAgg25 Try.sizeOf25 (hm.at_ 0 0 rfl) (vs := [.int .i64 (1000003 * (k + 7) + i), .slice none 0 0]) rfl (agg_at rfl)⟩, ?_⟩
  exact ⟨rfl, hm.pop⟩
end Go.Bd
