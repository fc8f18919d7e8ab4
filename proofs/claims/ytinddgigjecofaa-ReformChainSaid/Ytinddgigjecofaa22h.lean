/- The bag of lists: lists of configs, and of the members within them, lie apart. Conditions: as each states. -/
import Derived.Test.Ytinddgigjecofaa22g
namespace Go.Bd
open Go.Proofs
set_option linter.unusedVariables false
set_option maxRecDepth 20000

theorem flatWords_0 {F : Env} {w : World} {Ls : List Blks} (hm : Mem F w Ls) : Calls Try.prog 57 #[.slice none 0 0] w (Ret fun v w' => v = .bool true ∧ Mem F w' Ls) := by
  refine Calls.of_vc Try.func57 rfl Try.ntmps57 rfl ?_
  repeat (first | refine VC.seq ?_ | refine VC.block ?_ | refine VC.skip ?_)
  refine VC.region ?_
  refine VR.pure rfl rfl (p_assignB rfl) ?_
  refine VR.nil ?_
  repeat (first | refine VC.seq ?_ | refine VC.block ?_ | refine VC.skip ?_)
  refine VC.region ?_
  refine VR.pure rfl rfl (p_assignI rfl) ?_
  refine VR.nil ?_
  repeat (first | refine VC.seq ?_ | refine VC.block ?_ | refine VC.skip ?_)
  refine VC.loop (σ := Unit) (fun _ => [(0, .slice none 0 0), (3, .int .i64 0)]) (fun _ w => Mem F w Ls) (fun _ => 0) () ⟨rfl, rfl, trivial⟩ hm ?_
  clear hm
  rintro _ A' w hm
  repeat (first | refine VC.seq ?_ | refine VC.block ?_ | refine VC.skip ?_)
  refine VC.region ?_
  refine VR.pure rfl rfl (p_moveI rfl) ?_
  refine VR.pure rfl rfl (p_moveL rfl) ?_
  refine VR.pure rfl rfl (p_len Try.underlying73 rfl) ?_
  refine VR.pure rfl rfl (p_lt rfl rfl) ?_
  refine VR.nil ?_
  repeat (first | refine VC.seq ?_ | refine VC.block ?_ | refine VC.skip ?_)
  refine VC.condF rfl rfl ?_
  refine VC.exit ?_
  repeat (first | refine VC.seq ?_ | refine VC.block ?_ | refine VC.skip ?_)
  refine VC.region ?_
  refine VR.pure rfl rfl (p_moveL rfl) ?_
  refine VR.pure rfl rfl (p_len Try.underlying73 rfl) ?_
  refine VR.new hm rfl rfl (n_makeSlice (s := 1) (bytes := 24) Try.underlying73 inf123 rfl rfl rfl rfl rfl (by omega) (by omega)) ?_
  intro gb w hm
  refine VR.pure rfl rfl (p_assignL rfl) ?_
  refine VR.nil ?_
  replace hm := hm.pop
  repeat (first | refine VC.seq ?_ | refine VC.block ?_ | refine VC.skip ?_)
  refine VC.region ?_
  refine VR.pure rfl rfl (p_assignI rfl) ?_
  refine VR.nil ?_
  repeat (first | refine VC.seq ?_ | refine VC.block ?_ | refine VC.skip ?_)
  refine VC.loop (σ := Unit) (fun _ => [(0, .slice none 0 0), (5, .slice (some ⟨gb, 0, none⟩) 0 0), (6, .int .i64 0)]) (fun _ w => Mem F w Ls) (fun _ => 0) () ⟨rfl, rfl, rfl, trivial⟩ hm ?_
  clear hm
  rintro _ A' w hm
  repeat (first | refine VC.seq ?_ | refine VC.block ?_ | refine VC.skip ?_)
  refine VC.region ?_
  refine VR.pure rfl rfl (p_moveI rfl) ?_
  refine VR.pure rfl rfl (p_moveL rfl) ?_
  refine VR.pure rfl rfl (p_len Try.underlying73 rfl) ?_
  refine VR.pure rfl rfl (p_lt rfl rfl) ?_
  refine VR.nil ?_
  repeat (first | refine VC.seq ?_ | refine VC.block ?_ | refine VC.skip ?_)
  refine VC.condF rfl rfl ?_
  refine VC.exit ?_
  repeat (first | refine VC.seq ?_ | refine VC.block ?_ | refine VC.skip ?_)
  refine VC.region ?_
  refine VR.pure rfl rfl (p_assignI rfl) ?_
  refine VR.nil ?_
  repeat (first | refine VC.seq ?_ | refine VC.block ?_ | refine VC.skip ?_)
  refine VC.loop (σ := Unit) (fun _ => [(0, .slice none 0 0), (5, .slice (some ⟨gb, 0, none⟩) 0 0), (9, .int .i64 0)]) (fun _ w => Mem F w Ls) (fun _ => 0) () ⟨rfl, rfl, rfl, trivial⟩ hm ?_
  clear hm
  rintro _ A' w hm
  repeat (first | refine VC.seq ?_ | refine VC.block ?_ | refine VC.skip ?_)
  refine VC.region ?_
  refine VR.pure rfl rfl (p_moveI rfl) ?_
  refine VR.pure rfl rfl (p_moveL rfl) ?_
  refine VR.pure rfl rfl (p_len Try.underlying73 rfl) ?_
  refine VR.pure rfl rfl (p_lt rfl rfl) ?_
  refine VR.nil ?_
  repeat (first | refine VC.seq ?_ | refine VC.block ?_ | refine VC.skip ?_)
  refine VC.condF rfl rfl ?_
  refine VC.exit ?_
  repeat (first | refine VC.seq ?_ | refine VC.block ?_ | refine VC.skip ?_)
  refine VC.region ?_
  refine VR.pure rfl rfl (p_assignI rfl) ?_
  refine VR.nil ?_
  repeat (first | refine VC.seq ?_ | refine VC.block ?_ | refine VC.skip ?_)
  refine VC.loop (σ := Unit) (fun _ => [(0, .slice none 0 0), (5, .slice (some ⟨gb, 0, none⟩) 0 0), (11, .int .i64 0)]) (fun _ w => Mem F w Ls) (fun _ => 0) () ⟨rfl, rfl, rfl, trivial⟩ hm ?_
  clear hm
  rintro _ A' w hm
  repeat (first | refine VC.seq ?_ | refine VC.block ?_ | refine VC.skip ?_)
  refine VC.region ?_
  refine VR.pure rfl rfl (p_moveI rfl) ?_
  refine VR.pure rfl rfl (p_moveL rfl) ?_
  refine VR.pure rfl rfl (p_len Try.underlying73 rfl) ?_
  refine VR.pure rfl rfl (p_lt rfl rfl) ?_
  refine VR.nil ?_
  repeat (first | refine VC.seq ?_ | refine VC.block ?_ | refine VC.skip ?_)
  refine VC.condF rfl rfl ?_
  refine VC.exit ?_
  repeat (first | refine VC.seq ?_ | refine VC.block ?_ | refine VC.skip ?_)
  refine VC.region ?_
  refine VR.pure rfl rfl (p_assignI rfl) ?_
  refine VR.nil ?_
  repeat (first | refine VC.seq ?_ | refine VC.block ?_ | refine VC.skip ?_)
  refine VC.loop (σ := Unit) (fun _ => [(0, .slice none 0 0), (5, .slice (some ⟨gb, 0, none⟩) 0 0), (14, .int .i64 0)]) (fun _ w => Mem F w Ls) (fun _ => 0) () ⟨rfl, rfl, rfl, trivial⟩ hm ?_
  clear hm
  rintro _ A' w hm
  repeat (first | refine VC.seq ?_ | refine VC.block ?_ | refine VC.skip ?_)
  refine VC.region ?_
  refine VR.pure rfl rfl (p_moveI rfl) ?_
  refine VR.pure rfl rfl (p_moveL rfl) ?_
  refine VR.pure rfl rfl (p_len Try.underlying73 rfl) ?_
  refine VR.pure rfl rfl (p_lt rfl rfl) ?_
  refine VR.nil ?_
  repeat (first | refine VC.seq ?_ | refine VC.block ?_ | refine VC.skip ?_)
  refine VC.condF rfl rfl ?_
  refine VC.exit ?_
  repeat (first | refine VC.seq ?_ | refine VC.block ?_ | refine VC.skip ?_)
  refine VC.region ?_
  refine VR.pure rfl rfl (p_assignB rfl) ?_
  refine VR.nil ?_
  repeat (first | refine VC.seq ?_ | refine VC.block ?_ | refine VC.skip ?_)
  refine VC.ret ⟨_, ResOf.r1 (v := .bool _) rfl rfl, ?_⟩
  exact ⟨rfl, hm⟩
theorem flatInts_0 {F : Env} {w : World} {Ls : List Blks} (hm : Mem F w Ls) : Calls Try.prog 58 #[.slice none 0 0] w (Ret fun v w' => v = .bool true ∧ Mem F w' Ls) := by
  refine Calls.of_vc Try.func58 rfl Try.ntmps58 rfl ?_
  repeat (first | refine VC.seq ?_ | refine VC.block ?_ | refine VC.skip ?_)
  refine VC.region ?_
  refine VR.pure rfl rfl (p_assignB rfl) ?_
  refine VR.nil ?_
  repeat (first | refine VC.seq ?_ | refine VC.block ?_ | refine VC.skip ?_)
  refine VC.region ?_
  refine VR.pure rfl rfl (p_assignI rfl) ?_
  refine VR.nil ?_
  repeat (first | refine VC.seq ?_ | refine VC.block ?_ | refine VC.skip ?_)
  refine VC.loop (σ := Unit) (fun _ => [(0, .slice none 0 0), (3, .int .i64 0)]) (fun _ w => Mem F w Ls) (fun _ => 0) () ⟨rfl, rfl, trivial⟩ hm ?_
  clear hm
  rintro _ A' w hm
  repeat (first | refine VC.seq ?_ | refine VC.block ?_ | refine VC.skip ?_)
  refine VC.region ?_
  refine VR.pure rfl rfl (p_moveI rfl) ?_
  refine VR.pure rfl rfl (p_moveL rfl) ?_
  refine VR.pure rfl rfl (p_len Try.underlying74 rfl) ?_
  refine VR.pure rfl rfl (p_lt rfl rfl) ?_
  refine VR.nil ?_
  repeat (first | refine VC.seq ?_ | refine VC.block ?_ | refine VC.skip ?_)
  refine VC.condF rfl rfl ?_
  refine VC.exit ?_
  repeat (first | refine VC.seq ?_ | refine VC.block ?_ | refine VC.skip ?_)
  refine VC.region ?_
  refine VR.pure rfl rfl (p_moveL rfl) ?_
  refine VR.pure rfl rfl (p_len Try.underlying74 rfl) ?_
  refine VR.new hm rfl rfl (n_makeSlice (s := 1) (bytes := 24) Try.underlying74 inf54 rfl rfl rfl rfl rfl (by omega) (by omega)) ?_
  intro gb w hm
  refine VR.pure rfl rfl (p_assignL rfl) ?_
  refine VR.nil ?_
  replace hm := hm.pop
  repeat (first | refine VC.seq ?_ | refine VC.block ?_ | refine VC.skip ?_)
  refine VC.region ?_
  refine VR.pure rfl rfl (p_assignI rfl) ?_
  refine VR.nil ?_
  repeat (first | refine VC.seq ?_ | refine VC.block ?_ | refine VC.skip ?_)
  refine VC.loop (σ := Unit) (fun _ => [(0, .slice none 0 0), (5, .slice (some ⟨gb, 0, none⟩) 0 0), (6, .int .i64 0)]) (fun _ w => Mem F w Ls) (fun _ => 0) () ⟨rfl, rfl, rfl, trivial⟩ hm ?_
  clear hm
  rintro _ A' w hm
  repeat (first | refine VC.seq ?_ | refine VC.block ?_ | refine VC.skip ?_)
  refine VC.region ?_
  refine VR.pure rfl rfl (p_moveI rfl) ?_
  refine VR.pure rfl rfl (p_moveL rfl) ?_
  refine VR.pure rfl rfl (p_len Try.underlying74 rfl) ?_
  refine VR.pure rfl rfl (p_lt rfl rfl) ?_
  refine VR.nil ?_
  repeat (first | refine VC.seq ?_ | refine VC.block ?_ | refine VC.skip ?_)
  refine VC.condF rfl rfl ?_
  refine VC.exit ?_
  repeat (first | refine VC.seq ?_ | refine VC.block ?_ | refine VC.skip ?_)
  refine VC.region ?_
  refine VR.pure rfl rfl (p_assignI rfl) ?_
  refine VR.nil ?_
  repeat (first | refine VC.seq ?_ | refine VC.block ?_ | refine VC.skip ?_)
  refine VC.loop (σ := Unit) (fun _ => [(0, .slice none 0 0), (5, .slice (some ⟨gb, 0, none⟩) 0 0), (9, .int .i64 0)]) (fun _ w => Mem F w Ls) (fun _ => 0) () ⟨rfl, rfl, rfl, trivial⟩ hm ?_
  clear hm
  rintro _ A' w hm
  repeat (first | refine VC.seq ?_ | refine VC.block ?_ | refine VC.skip ?_)
  refine VC.region ?_
  refine VR.pure rfl rfl (p_moveI rfl) ?_
  refine VR.pure rfl rfl (p_moveL rfl) ?_
  refine VR.pure rfl rfl (p_len Try.underlying74 rfl) ?_
  refine VR.pure rfl rfl (p_lt rfl rfl) ?_
  refine VR.nil ?_
  repeat (first | refine VC.seq ?_ | refine VC.block ?_ | refine VC.skip ?_)
  refine VC.condF rfl rfl ?_
  refine VC.exit ?_
  repeat (first | refine VC.seq ?_ | refine VC.block ?_ | refine VC.skip ?_)
  refine VC.region ?_
  refine VR.pure rfl rfl (p_assignI rfl) ?_
  refine VR.nil ?_
  repeat (first | refine VC.seq ?_ | refine VC.block ?_ | refine VC.skip ?_)
  refine VC.loop (σ := Unit) (fun _ => [(0, .slice none 0 0), (5, .slice (some ⟨gb, 0, none⟩) 0 0), (11, .int .i64 0)]) (fun _ w => Mem F w Ls) (fun _ => 0) () ⟨rfl, rfl, rfl, trivial⟩ hm ?_
  clear hm
  rintro _ A' w hm
  repeat (first | refine VC.seq ?_ | refine VC.block ?_ | refine VC.skip ?_)
  refine VC.region ?_
  refine VR.pure rfl rfl (p_moveI rfl) ?_
  refine VR.pure rfl rfl (p_moveL rfl) ?_
  refine VR.pure rfl rfl (p_len Try.underlying74 rfl) ?_
  refine VR.pure rfl rfl (p_lt rfl rfl) ?_
  refine VR.nil ?_
  repeat (first | refine VC.seq ?_ | refine VC.block ?_ | refine VC.skip ?_)
  refine VC.condF rfl rfl ?_
  refine VC.exit ?_
  repeat (first | refine VC.seq ?_ | refine VC.block ?_ | refine VC.skip ?_)
  refine VC.region ?_
  refine VR.pure rfl rfl (p_assignI rfl) ?_
  refine VR.nil ?_
  repeat (first | refine VC.seq ?_ | refine VC.block ?_ | refine VC.skip ?_)
  refine VC.loop (σ := Unit) (fun _ => [(0, .slice none 0 0), (5, .slice (some ⟨gb, 0, none⟩) 0 0), (14, .int .i64 0)]) (fun _ w => Mem F w Ls) (fun _ => 0) () ⟨rfl, rfl, rfl, trivial⟩ hm ?_
  clear hm
  rintro _ A' w hm
  repeat (first | refine VC.seq ?_ | refine VC.block ?_ | refine VC.skip ?_)
  refine VC.region ?_
  refine VR.pure rfl rfl (p_moveI rfl) ?_
  refine VR.pure rfl rfl (p_moveL rfl) ?_
  refine VR.pure rfl rfl (p_len Try.underlying74 rfl) ?_
  refine VR.pure rfl rfl (p_lt rfl rfl) ?_
  refine VR.nil ?_
  repeat (first | refine VC.seq ?_ | refine VC.block ?_ | refine VC.skip ?_)
  refine VC.condF rfl rfl ?_
  refine VC.exit ?_
  repeat (first | refine VC.seq ?_ | refine VC.block ?_ | refine VC.skip ?_)
  refine VC.region ?_
  refine VR.pure rfl rfl (p_assignB rfl) ?_
  refine VR.nil ?_
  repeat (first | refine VC.seq ?_ | refine VC.block ?_ | refine VC.skip ?_)
  refine VC.ret ⟨_, ResOf.r1 (v := .bool _) rfl rfl, ?_⟩
  exact ⟨rfl, hm⟩
theorem flatLongs_0 {F : Env} {w : World} {Ls : List Blks} (hm : Mem F w Ls) : Calls Try.prog 59 #[.slice none 0 0] w (Ret fun v w' => v = .bool true ∧ Mem F w' Ls) := by
  refine Calls.of_vc Try.func59 rfl Try.ntmps59 rfl ?_
  repeat (first | refine VC.seq ?_ | refine VC.block ?_ | refine VC.skip ?_)
  refine VC.region ?_
  refine VR.pure rfl rfl (p_assignB rfl) ?_
  refine VR.nil ?_
  repeat (first | refine VC.seq ?_ | refine VC.block ?_ | refine VC.skip ?_)
  refine VC.region ?_
  refine VR.pure rfl rfl (p_assignI rfl) ?_
  refine VR.nil ?_
  repeat (first | refine VC.seq ?_ | refine VC.block ?_ | refine VC.skip ?_)
  refine VC.loop (σ := Unit) (fun _ => [(0, .slice none 0 0), (3, .int .i64 0)]) (fun _ w => Mem F w Ls) (fun _ => 0) () ⟨rfl, rfl, trivial⟩ hm ?_
  clear hm
  rintro _ A' w hm
  repeat (first | refine VC.seq ?_ | refine VC.block ?_ | refine VC.skip ?_)
  refine VC.region ?_
  refine VR.pure rfl rfl (p_moveI rfl) ?_
  refine VR.pure rfl rfl (p_moveL rfl) ?_
  refine VR.pure rfl rfl (p_len Try.underlying75 rfl) ?_
  refine VR.pure rfl rfl (p_lt rfl rfl) ?_
  refine VR.nil ?_
  repeat (first | refine VC.seq ?_ | refine VC.block ?_ | refine VC.skip ?_)
  refine VC.condF rfl rfl ?_
  refine VC.exit ?_
  repeat (first | refine VC.seq ?_ | refine VC.block ?_ | refine VC.skip ?_)
  refine VC.region ?_
  refine VR.pure rfl rfl (p_moveL rfl) ?_
  refine VR.pure rfl rfl (p_len Try.underlying75 rfl) ?_
  refine VR.new hm rfl rfl (n_makeSlice (s := 1) (bytes := 24) Try.underlying75 inf124 rfl rfl rfl rfl rfl (by omega) (by omega)) ?_
  intro gb w hm
  refine VR.pure rfl rfl (p_assignL rfl) ?_
  refine VR.nil ?_
  replace hm := hm.pop
  repeat (first | refine VC.seq ?_ | refine VC.block ?_ | refine VC.skip ?_)
  refine VC.region ?_
  refine VR.pure rfl rfl (p_assignI rfl) ?_
  refine VR.nil ?_
  repeat (first | refine VC.seq ?_ | refine VC.block ?_ | refine VC.skip ?_)
  refine VC.loop (σ := Unit) (fun _ => [(0, .slice none 0 0), (5, .slice (some ⟨gb, 0, none⟩) 0 0), (6, .int .i64 0)]) (fun _ w => Mem F w Ls) (fun _ => 0) () ⟨rfl, rfl, rfl, trivial⟩ hm ?_
  clear hm
  rintro _ A' w hm
  repeat (first | refine VC.seq ?_ | refine VC.block ?_ | refine VC.skip ?_)
  refine VC.region ?_
  refine VR.pure rfl rfl (p_moveI rfl) ?_
  refine VR.pure rfl rfl (p_moveL rfl) ?_
  refine VR.pure rfl rfl (p_len Try.underlying75 rfl) ?_
  refine VR.pure rfl rfl (p_lt rfl rfl) ?_
  refine VR.nil ?_
  repeat (first | refine VC.seq ?_ | refine VC.block ?_ | refine VC.skip ?_)
  refine VC.condF rfl rfl ?_
  refine VC.exit ?_
  repeat (first | refine VC.seq ?_ | refine VC.block ?_ | refine VC.skip ?_)
  refine VC.region ?_
  refine VR.pure rfl rfl (p_assignI rfl) ?_
  refine VR.nil ?_
  repeat (first | refine VC.seq ?_ | refine VC.block ?_ | refine VC.skip ?_)
  refine VC.loop (σ := Unit) (fun _ => [(0, .slice none 0 0), (5, .slice (some ⟨gb, 0, none⟩) 0 0), (9, .int .i64 0)]) (fun _ w => Mem F w Ls) (fun _ => 0) () ⟨rfl, rfl, rfl, trivial⟩ hm ?_
  clear hm
  rintro _ A' w hm
  repeat (first | refine VC.seq ?_ | refine VC.block ?_ | refine VC.skip ?_)
  refine VC.region ?_
  refine VR.pure rfl rfl (p_moveI rfl) ?_
  refine VR.pure rfl rfl (p_moveL rfl) ?_
  refine VR.pure rfl rfl (p_len Try.underlying75 rfl) ?_
  refine VR.pure rfl rfl (p_lt rfl rfl) ?_
  refine VR.nil ?_
  repeat (first | refine VC.seq ?_ | refine VC.block ?_ | refine VC.skip ?_)
  refine VC.condF rfl rfl ?_
  refine VC.exit ?_
  repeat (first | refine VC.seq ?_ | refine VC.block ?_ | refine VC.skip ?_)
  refine VC.region ?_
  refine VR.pure rfl rfl (p_assignI rfl) ?_
  refine VR.nil ?_
  repeat (first | refine VC.seq ?_ | refine VC.block ?_ | refine VC.skip ?_)
  refine VC.loop (σ := Unit) (fun _ => [(0, .slice none 0 0), (5, .slice (some ⟨gb, 0, none⟩) 0 0), (11, .int .i64 0)]) (fun _ w => Mem F w Ls) (fun _ => 0) () ⟨rfl, rfl, rfl, trivial⟩ hm ?_
  clear hm
  rintro _ A' w hm
  repeat (first | refine VC.seq ?_ | refine VC.block ?_ | refine VC.skip ?_)
  refine VC.region ?_
  refine VR.pure rfl rfl (p_moveI rfl) ?_
  refine VR.pure rfl rfl (p_moveL rfl) ?_
  refine VR.pure rfl rfl (p_len Try.underlying75 rfl) ?_
  refine VR.pure rfl rfl (p_lt rfl rfl) ?_
  refine VR.nil ?_
  repeat (first | refine VC.seq ?_ | refine VC.block ?_ | refine VC.skip ?_)
  refine VC.condF rfl rfl ?_
  refine VC.exit ?_
  repeat (first | refine VC.seq ?_ | refine VC.block ?_ | refine VC.skip ?_)
  refine VC.region ?_
  refine VR.pure rfl rfl (p_assignI rfl) ?_
  refine VR.nil ?_
  repeat (first | refine VC.seq ?_ | refine VC.block ?_ | refine VC.skip ?_)
  refine VC.loop (σ := Unit) (fun _ => [(0, .slice none 0 0), (5, .slice (some ⟨gb, 0, none⟩) 0 0), (14, .int .i64 0)]) (fun _ w => Mem F w Ls) (fun _ => 0) () ⟨rfl, rfl, rfl, trivial⟩ hm ?_
  clear hm
  rintro _ A' w hm
  repeat (first | refine VC.seq ?_ | refine VC.block ?_ | refine VC.skip ?_)
  refine VC.region ?_
  refine VR.pure rfl rfl (p_moveI rfl) ?_
  refine VR.pure rfl rfl (p_moveL rfl) ?_
  refine VR.pure rfl rfl (p_len Try.underlying75 rfl) ?_
  refine VR.pure rfl rfl (p_lt rfl rfl) ?_
  refine VR.nil ?_
  repeat (first | refine VC.seq ?_ | refine VC.block ?_ | refine VC.skip ?_)
  refine VC.condF rfl rfl ?_
  refine VC.exit ?_
  repeat (first | refine VC.seq ?_ | refine VC.block ?_ | refine VC.skip ?_)
  refine VC.region ?_
  refine VR.pure rfl rfl (p_assignB rfl) ?_
  refine VR.nil ?_
  repeat (first | refine VC.seq ?_ | refine VC.block ?_ | refine VC.skip ?_)
  refine VC.ret ⟨_, ResOf.r1 (v := .bool _) rfl rfl, ?_⟩
  exact ⟨rfl, hm⟩
theorem flatTexts_0 {F : Env} {w : World} {Ls : List Blks} (hm : Mem F w Ls) : Calls Try.prog 60 #[.slice none 0 0] w (Ret fun v w' => v = .bool true ∧ Mem F w' Ls) := by
  refine Calls.of_vc Try.func60 rfl Try.ntmps60 rfl ?_
  repeat (first | refine VC.seq ?_ | refine VC.block ?_ | refine VC.skip ?_)
  refine VC.region ?_
  refine VR.pure rfl rfl (p_assignB rfl) ?_
  refine VR.nil ?_
  repeat (first | refine VC.seq ?_ | refine VC.block ?_ | refine VC.skip ?_)
  refine VC.region ?_
  refine VR.pure rfl rfl (p_assignI rfl) ?_
  refine VR.nil ?_
  repeat (first | refine VC.seq ?_ | refine VC.block ?_ | refine VC.skip ?_)
  refine VC.loop (σ := Unit) (fun _ => [(0, .slice none 0 0), (3, .int .i64 0)]) (fun _ w => Mem F w Ls) (fun _ => 0) () ⟨rfl, rfl, trivial⟩ hm ?_
  clear hm
  rintro _ A' w hm
  repeat (first | refine VC.seq ?_ | refine VC.block ?_ | refine VC.skip ?_)
  refine VC.region ?_
  refine VR.pure rfl rfl (p_moveI rfl) ?_
  refine VR.pure rfl rfl (p_moveL rfl) ?_
  refine VR.pure rfl rfl (p_len Try.underlying76 rfl) ?_
  refine VR.pure rfl rfl (p_lt rfl rfl) ?_
  refine VR.nil ?_
  repeat (first | refine VC.seq ?_ | refine VC.block ?_ | refine VC.skip ?_)
  refine VC.condF rfl rfl ?_
  refine VC.exit ?_
  repeat (first | refine VC.seq ?_ | refine VC.block ?_ | refine VC.skip ?_)
  refine VC.region ?_
  refine VR.pure rfl rfl (p_moveL rfl) ?_
  refine VR.pure rfl rfl (p_len Try.underlying76 rfl) ?_
  refine VR.new hm rfl rfl (n_makeSlice (s := 1) (bytes := 24) Try.underlying76 inf125 rfl rfl rfl rfl rfl (by omega) (by omega)) ?_
  intro gb w hm
  refine VR.pure rfl rfl (p_assignL rfl) ?_
  refine VR.nil ?_
  replace hm := hm.pop
  repeat (first | refine VC.seq ?_ | refine VC.block ?_ | refine VC.skip ?_)
  refine VC.region ?_
  refine VR.pure rfl rfl (p_assignI rfl) ?_
  refine VR.nil ?_
  repeat (first | refine VC.seq ?_ | refine VC.block ?_ | refine VC.skip ?_)
  refine VC.loop (σ := Unit) (fun _ => [(0, .slice none 0 0), (5, .slice (some ⟨gb, 0, none⟩) 0 0), (6, .int .i64 0)]) (fun _ w => Mem F w Ls) (fun _ => 0) () ⟨rfl, rfl, rfl, trivial⟩ hm ?_
  clear hm
  rintro _ A' w hm
  repeat (first | refine VC.seq ?_ | refine VC.block ?_ | refine VC.skip ?_)
  refine VC.region ?_
  refine VR.pure rfl rfl (p_moveI rfl) ?_
  refine VR.pure rfl rfl (p_moveL rfl) ?_
  refine VR.pure rfl rfl (p_len Try.underlying76 rfl) ?_
  refine VR.pure rfl rfl (p_lt rfl rfl) ?_
  refine VR.nil ?_
  repeat (first | refine VC.seq ?_ | refine VC.block ?_ | refine VC.skip ?_)
  refine VC.condF rfl rfl ?_
  refine VC.exit ?_
  repeat (first | refine VC.seq ?_ | refine VC.block ?_ | refine VC.skip ?_)
  refine VC.region ?_
  refine VR.pure rfl rfl (p_assignI rfl) ?_
  refine VR.nil ?_
  repeat (first | refine VC.seq ?_ | refine VC.block ?_ | refine VC.skip ?_)
  refine VC.loop (σ := Unit) (fun _ => [(0, .slice none 0 0), (5, .slice (some ⟨gb, 0, none⟩) 0 0), (9, .int .i64 0)]) (fun _ w => Mem F w Ls) (fun _ => 0) () ⟨rfl, rfl, rfl, trivial⟩ hm ?_
  clear hm
  rintro _ A' w hm
  repeat (first | refine VC.seq ?_ | refine VC.block ?_ | refine VC.skip ?_)
  refine VC.region ?_
  refine VR.pure rfl rfl (p_moveI rfl) ?_
  refine VR.pure rfl rfl (p_moveL rfl) ?_
  refine VR.pure rfl rfl (p_len Try.underlying76 rfl) ?_
  refine VR.pure rfl rfl (p_lt rfl rfl) ?_
  refine VR.nil ?_
  repeat (first | refine VC.seq ?_ | refine VC.block ?_ | refine VC.skip ?_)
  refine VC.condF rfl rfl ?_
  refine VC.exit ?_
  repeat (first | refine VC.seq ?_ | refine VC.block ?_ | refine VC.skip ?_)
  refine VC.region ?_
  refine VR.pure rfl rfl (p_assignI rfl) ?_
  refine VR.nil ?_
  repeat (first | refine VC.seq ?_ | refine VC.block ?_ | refine VC.skip ?_)
  refine VC.loop (σ := Unit) (fun _ => [(0, .slice none 0 0), (5, .slice (some ⟨gb, 0, none⟩) 0 0), (11, .int .i64 0)]) (fun _ w => Mem F w Ls) (fun _ => 0) () ⟨rfl, rfl, rfl, trivial⟩ hm ?_
  clear hm
  rintro _ A' w hm
  repeat (first | refine VC.seq ?_ | refine VC.block ?_ | refine VC.skip ?_)
  refine VC.region ?_
  refine VR.pure rfl rfl (p_moveI rfl) ?_
  refine VR.pure rfl rfl (p_moveL rfl) ?_
  refine VR.pure rfl rfl (p_len Try.underlying76 rfl) ?_
  refine VR.pure rfl rfl (p_lt rfl rfl) ?_
  refine VR.nil ?_
  repeat (first | refine VC.seq ?_ | refine VC.block ?_ | refine VC.skip ?_)
  refine VC.condF rfl rfl ?_
  refine VC.exit ?_
  repeat (first | refine VC.seq ?_ | refine VC.block ?_ | refine VC.skip ?_)
  refine VC.region ?_
  refine VR.pure rfl rfl (p_assignI rfl) ?_
  refine VR.nil ?_
  repeat (first | refine VC.seq ?_ | refine VC.block ?_ | refine VC.skip ?_)
  refine VC.loop (σ := Unit) (fun _ => [(0, .slice none 0 0), (5, .slice (some ⟨gb, 0, none⟩) 0 0), (14, .int .i64 0)]) (fun _ w => Mem F w Ls) (fun _ => 0) () ⟨rfl, rfl, rfl, trivial⟩ hm ?_
  clear hm
  rintro _ A' w hm
  repeat (first | refine VC.seq ?_ | refine VC.block ?_ | refine VC.skip ?_)
  refine VC.region ?_
  refine VR.pure rfl rfl (p_moveI rfl) ?_
  refine VR.pure rfl rfl (p_moveL rfl) ?_
  refine VR.pure rfl rfl (p_len Try.underlying76 rfl) ?_
  refine VR.pure rfl rfl (p_lt rfl rfl) ?_
  refine VR.nil ?_
  repeat (first | refine VC.seq ?_ | refine VC.block ?_ | refine VC.skip ?_)
  refine VC.condF rfl rfl ?_
  refine VC.exit ?_
  repeat (first | refine VC.seq ?_ | refine VC.block ?_ | refine VC.skip ?_)
  refine VC.region ?_
  refine VR.pure rfl rfl (p_assignB rfl) ?_
  refine VR.nil ?_
  repeat (first | refine VC.seq ?_ | refine VC.block ?_ | refine VC.skip ?_)
  refine VC.ret ⟨_, ResOf.r1 (v := .bool _) rfl rfl, ?_⟩
  exact ⟨rfl, hm⟩
theorem flatBytes_0 {F : Env} {w : World} {Ls : List Blks} (hm : Mem F w Ls) : Calls Try.prog 61 #[.slice none 0 0] w (Ret fun v w' => v = .bool true ∧ Mem F w' Ls) := by
  refine Calls.of_vc Try.func61 rfl Try.ntmps61 rfl ?_
  repeat (first | refine VC.seq ?_ | refine VC.block ?_ | refine VC.skip ?_)
  refine VC.region ?_
  refine VR.pure rfl rfl (p_assignB rfl) ?_
  refine VR.nil ?_
  repeat (first | refine VC.seq ?_ | refine VC.block ?_ | refine VC.skip ?_)
  refine VC.region ?_
  refine VR.pure rfl rfl (p_assignI rfl) ?_
  refine VR.nil ?_
  repeat (first | refine VC.seq ?_ | refine VC.block ?_ | refine VC.skip ?_)
  refine VC.loop (σ := Unit) (fun _ => [(0, .slice none 0 0), (3, .int .i64 0)]) (fun _ w => Mem F w Ls) (fun _ => 0) () ⟨rfl, rfl, trivial⟩ hm ?_
  clear hm
  rintro _ A' w hm
  repeat (first | refine VC.seq ?_ | refine VC.block ?_ | refine VC.skip ?_)
  refine VC.region ?_
  refine VR.pure rfl rfl (p_moveI rfl) ?_
  refine VR.pure rfl rfl (p_moveL rfl) ?_
  refine VR.pure rfl rfl (p_len Try.underlying77 rfl) ?_
  refine VR.pure rfl rfl (p_lt rfl rfl) ?_
  refine VR.nil ?_
  repeat (first | refine VC.seq ?_ | refine VC.block ?_ | refine VC.skip ?_)
  refine VC.condF rfl rfl ?_
  refine VC.exit ?_
  repeat (first | refine VC.seq ?_ | refine VC.block ?_ | refine VC.skip ?_)
  refine VC.region ?_
  refine VR.pure rfl rfl (p_moveL rfl) ?_
  refine VR.pure rfl rfl (p_len Try.underlying77 rfl) ?_
  refine VR.new hm rfl rfl (n_makeSlice (s := 1) (bytes := 24) Try.underlying77 inf27 rfl rfl rfl rfl rfl (by omega) (by omega)) ?_
  intro gb w hm
  refine VR.pure rfl rfl (p_assignL rfl) ?_
  refine VR.nil ?_
  replace hm := hm.pop
  repeat (first | refine VC.seq ?_ | refine VC.block ?_ | refine VC.skip ?_)
  refine VC.region ?_
  refine VR.pure rfl rfl (p_assignI rfl) ?_
  refine VR.nil ?_
  repeat (first | refine VC.seq ?_ | refine VC.block ?_ | refine VC.skip ?_)
  refine VC.loop (σ := Unit) (fun _ => [(0, .slice none 0 0), (5, .slice (some ⟨gb, 0, none⟩) 0 0), (6, .int .i64 0)]) (fun _ w => Mem F w Ls) (fun _ => 0) () ⟨rfl, rfl, rfl, trivial⟩ hm ?_
  clear hm
  rintro _ A' w hm
  repeat (first | refine VC.seq ?_ | refine VC.block ?_ | refine VC.skip ?_)
  refine VC.region ?_
  refine VR.pure rfl rfl (p_moveI rfl) ?_
  refine VR.pure rfl rfl (p_moveL rfl) ?_
  refine VR.pure rfl rfl (p_len Try.underlying77 rfl) ?_
  refine VR.pure rfl rfl (p_lt rfl rfl) ?_
  refine VR.nil ?_
  repeat (first | refine VC.seq ?_ | refine VC.block ?_ | refine VC.skip ?_)
  refine VC.condF rfl rfl ?_
  refine VC.exit ?_
  repeat (first | refine VC.seq ?_ | refine VC.block ?_ | refine VC.skip ?_)
  refine VC.region ?_
  refine VR.pure rfl rfl (p_assignI rfl) ?_
  refine VR.nil ?_
  repeat (first | refine VC.seq ?_ | refine VC.block ?_ | refine VC.skip ?_)
  refine VC.loop (σ := Unit) (fun _ => [(0, .slice none 0 0), (5, .slice (some ⟨gb, 0, none⟩) 0 0), (9, .int .i64 0)]) (fun _ w => Mem F w Ls) (fun _ => 0) () ⟨rfl, rfl, rfl, trivial⟩ hm ?_
  clear hm
  rintro _ A' w hm
  repeat (first | refine VC.seq ?_ | refine VC.block ?_ | refine VC.skip ?_)
  refine VC.region ?_
  refine VR.pure rfl rfl (p_moveI rfl) ?_
  refine VR.pure rfl rfl (p_moveL rfl) ?_
  refine VR.pure rfl rfl (p_len Try.underlying77 rfl) ?_
  refine VR.pure rfl rfl (p_lt rfl rfl) ?_
  refine VR.nil ?_
  repeat (first | refine VC.seq ?_ | refine VC.block ?_ | refine VC.skip ?_)
  refine VC.condF rfl rfl ?_
  refine VC.exit ?_
  repeat (first | refine VC.seq ?_ | refine VC.block ?_ | refine VC.skip ?_)
  refine VC.region ?_
  refine VR.pure rfl rfl (p_assignI rfl) ?_
  refine VR.nil ?_
  repeat (first | refine VC.seq ?_ | refine VC.block ?_ | refine VC.skip ?_)
  refine VC.loop (σ := Unit) (fun _ => [(0, .slice none 0 0), (5, .slice (some ⟨gb, 0, none⟩) 0 0), (11, .int .i64 0)]) (fun _ w => Mem F w Ls) (fun _ => 0) () ⟨rfl, rfl, rfl, trivial⟩ hm ?_
  clear hm
  rintro _ A' w hm
  repeat (first | refine VC.seq ?_ | refine VC.block ?_ | refine VC.skip ?_)
  refine VC.region ?_
  refine VR.pure rfl rfl (p_moveI rfl) ?_
  refine VR.pure rfl rfl (p_moveL rfl) ?_
  refine VR.pure rfl rfl (p_len Try.underlying77 rfl) ?_
  refine VR.pure rfl rfl (p_lt rfl rfl) ?_
  refine VR.nil ?_
  repeat (first | refine VC.seq ?_ | refine VC.block ?_ | refine VC.skip ?_)
  refine VC.condF rfl rfl ?_
  refine VC.exit ?_
  repeat (first | refine VC.seq ?_ | refine VC.block ?_ | refine VC.skip ?_)
  refine VC.region ?_
  refine VR.pure rfl rfl (p_assignI rfl) ?_
  refine VR.nil ?_
  repeat (first | refine VC.seq ?_ | refine VC.block ?_ | refine VC.skip ?_)
  refine VC.loop (σ := Unit) (fun _ => [(0, .slice none 0 0), (5, .slice (some ⟨gb, 0, none⟩) 0 0), (14, .int .i64 0)]) (fun _ w => Mem F w Ls) (fun _ => 0) () ⟨rfl, rfl, rfl, trivial⟩ hm ?_
  clear hm
  rintro _ A' w hm
  repeat (first | refine VC.seq ?_ | refine VC.block ?_ | refine VC.skip ?_)
  refine VC.region ?_
  refine VR.pure rfl rfl (p_moveI rfl) ?_
  refine VR.pure rfl rfl (p_moveL rfl) ?_
  refine VR.pure rfl rfl (p_len Try.underlying77 rfl) ?_
  refine VR.pure rfl rfl (p_lt rfl rfl) ?_
  refine VR.nil ?_
  repeat (first | refine VC.seq ?_ | refine VC.block ?_ | refine VC.skip ?_)
  refine VC.condF rfl rfl ?_
  refine VC.exit ?_
  repeat (first | refine VC.seq ?_ | refine VC.block ?_ | refine VC.skip ?_)
  refine VC.region ?_
  refine VR.pure rfl rfl (p_assignB rfl) ?_
  refine VR.nil ?_
  repeat (first | refine VC.seq ?_ | refine VC.block ?_ | refine VC.skip ?_)
  refine VC.ret ⟨_, ResOf.r1 (v := .bool _) rfl rfl, ?_⟩
  exact ⟨rfl, hm⟩
theorem flatZxids_0 {F : Env} {w : World} {Ls : List Blks} (hm : Mem F w Ls) : Calls Try.prog 62 #[.slice none 0 0] w (Ret fun v w' => v = .bool true ∧ Mem F w' Ls) := by
  refine Calls.of_vc Try.func62 rfl Try.ntmps62 rfl ?_
  repeat (first | refine VC.seq ?_ | refine VC.block ?_ | refine VC.skip ?_)
  refine VC.region ?_
  refine VR.pure rfl rfl (p_assignB rfl) ?_
  refine VR.nil ?_
  repeat (first | refine VC.seq ?_ | refine VC.block ?_ | refine VC.skip ?_)
  refine VC.region ?_
  refine VR.pure rfl rfl (p_assignI rfl) ?_
  refine VR.nil ?_
  repeat (first | refine VC.seq ?_ | refine VC.block ?_ | refine VC.skip ?_)
  refine VC.loop (σ := Unit) (fun _ => [(0, .slice none 0 0), (3, .int .i64 0)]) (fun _ w => Mem F w Ls) (fun _ => 0) () ⟨rfl, rfl, trivial⟩ hm ?_
  clear hm
  rintro _ A' w hm
  repeat (first | refine VC.seq ?_ | refine VC.block ?_ | refine VC.skip ?_)
  refine VC.region ?_
  refine VR.pure rfl rfl (p_moveI rfl) ?_
  refine VR.pure rfl rfl (p_moveL rfl) ?_
  refine VR.pure rfl rfl (p_len Try.underlying78 rfl) ?_
  refine VR.pure rfl rfl (p_lt rfl rfl) ?_
  refine VR.nil ?_
  repeat (first | refine VC.seq ?_ | refine VC.block ?_ | refine VC.skip ?_)
  refine VC.condF rfl rfl ?_
  refine VC.exit ?_
  repeat (first | refine VC.seq ?_ | refine VC.block ?_ | refine VC.skip ?_)
  refine VC.region ?_
  refine VR.pure rfl rfl (p_moveL rfl) ?_
  refine VR.pure rfl rfl (p_len Try.underlying78 rfl) ?_
  refine VR.new hm rfl rfl (n_makeSlice (s := 1) (bytes := 24) Try.underlying78 inf127 rfl rfl rfl rfl rfl (by omega) (by omega)) ?_
  intro gb w hm
  refine VR.pure rfl rfl (p_assignL rfl) ?_
  refine VR.nil ?_
  replace hm := hm.pop
  repeat (first | refine VC.seq ?_ | refine VC.block ?_ | refine VC.skip ?_)
  refine VC.region ?_
  refine VR.pure rfl rfl (p_assignI rfl) ?_
  refine VR.nil ?_
  repeat (first | refine VC.seq ?_ | refine VC.block ?_ | refine VC.skip ?_)
  refine VC.loop (σ := Unit) (fun _ => [(0, .slice none 0 0), (5, .slice (some ⟨gb, 0, none⟩) 0 0), (6, .int .i64 0)]) (fun _ w => Mem F w Ls) (fun _ => 0) () ⟨rfl, rfl, rfl, trivial⟩ hm ?_
  clear hm
  rintro _ A' w hm
  repeat (first | refine VC.seq ?_ | refine VC.block ?_ | refine VC.skip ?_)
  refine VC.region ?_
  refine VR.pure rfl rfl (p_moveI rfl) ?_
  refine VR.pure rfl rfl (p_moveL rfl) ?_
  refine VR.pure rfl rfl (p_len Try.underlying78 rfl) ?_
  refine VR.pure rfl rfl (p_lt rfl rfl) ?_
  refine VR.nil ?_
  repeat (first | refine VC.seq ?_ | refine VC.block ?_ | refine VC.skip ?_)
  refine VC.condF rfl rfl ?_
  refine VC.exit ?_
  repeat (first | refine VC.seq ?_ | refine VC.block ?_ | refine VC.skip ?_)
  refine VC.region ?_
  refine VR.pure rfl rfl (p_assignI rfl) ?_
  refine VR.nil ?_
  repeat (first | refine VC.seq ?_ | refine VC.block ?_ | refine VC.skip ?_)
  refine VC.loop (σ := Unit) (fun _ => [(0, .slice none 0 0), (5, .slice (some ⟨gb, 0, none⟩) 0 0), (9, .int .i64 0)]) (fun _ w => Mem F w Ls) (fun _ => 0) () ⟨rfl, rfl, rfl, trivial⟩ hm ?_
  clear hm
  rintro _ A' w hm
  repeat (first | refine VC.seq ?_ | refine VC.block ?_ | refine VC.skip ?_)
  refine VC.region ?_
  refine VR.pure rfl rfl (p_moveI rfl) ?_
  refine VR.pure rfl rfl (p_moveL rfl) ?_
  refine VR.pure rfl rfl (p_len Try.underlying78 rfl) ?_
  refine VR.pure rfl rfl (p_lt rfl rfl) ?_
  refine VR.nil ?_
  repeat (first | refine VC.seq ?_ | refine VC.block ?_ | refine VC.skip ?_)
  refine VC.condF rfl rfl ?_
  refine VC.exit ?_
  repeat (first | refine VC.seq ?_ | refine VC.block ?_ | refine VC.skip ?_)
  refine VC.region ?_
  refine VR.pure rfl rfl (p_assignI rfl) ?_
  refine VR.nil ?_
  repeat (first | refine VC.seq ?_ | refine VC.block ?_ | refine VC.skip ?_)
  refine VC.loop (σ := Unit) (fun _ => [(0, .slice none 0 0), (5, .slice (some ⟨gb, 0, none⟩) 0 0), (11, .int .i64 0)]) (fun _ w => Mem F w Ls) (fun _ => 0) () ⟨rfl, rfl, rfl, trivial⟩ hm ?_
  clear hm
  rintro _ A' w hm
  repeat (first | refine VC.seq ?_ | refine VC.block ?_ | refine VC.skip ?_)
  refine VC.region ?_
  refine VR.pure rfl rfl (p_moveI rfl) ?_
  refine VR.pure rfl rfl (p_moveL rfl) ?_
  refine VR.pure rfl rfl (p_len Try.underlying78 rfl) ?_
  refine VR.pure rfl rfl (p_lt rfl rfl) ?_
  refine VR.nil ?_
  repeat (first | refine VC.seq ?_ | refine VC.block ?_ | refine VC.skip ?_)
  refine VC.condF rfl rfl ?_
  refine VC.exit ?_
  repeat (first | refine VC.seq ?_ | refine VC.block ?_ | refine VC.skip ?_)
  refine VC.region ?_
  refine VR.pure rfl rfl (p_assignI rfl) ?_
  refine VR.nil ?_
  repeat (first | refine VC.seq ?_ | refine VC.block ?_ | refine VC.skip ?_)
  refine VC.loop (σ := Unit) (fun _ => [(0, .slice none 0 0), (5, .slice (some ⟨gb, 0, none⟩) 0 0), (14, .int .i64 0)]) (fun _ w => Mem F w Ls) (fun _ => 0) () ⟨rfl, rfl, rfl, trivial⟩ hm ?_
  clear hm
  rintro _ A' w hm
  repeat (first | refine VC.seq ?_ | refine VC.block ?_ | refine VC.skip ?_)
  refine VC.region ?_
  refine VR.pure rfl rfl (p_moveI rfl) ?_
  refine VR.pure rfl rfl (p_moveL rfl) ?_
  refine VR.pure rfl rfl (p_len Try.underlying78 rfl) ?_
  refine VR.pure rfl rfl (p_lt rfl rfl) ?_
  refine VR.nil ?_
  repeat (first | refine VC.seq ?_ | refine VC.block ?_ | refine VC.skip ?_)
  refine VC.condF rfl rfl ?_
  refine VC.exit ?_
  repeat (first | refine VC.seq ?_ | refine VC.block ?_ | refine VC.skip ?_)
  refine VC.region ?_
  refine VR.pure rfl rfl (p_assignB rfl) ?_
  refine VR.nil ?_
  repeat (first | refine VC.seq ?_ | refine VC.block ?_ | refine VC.skip ?_)
  refine VC.ret ⟨_, ResOf.r1 (v := .bool _) rfl rfl, ?_⟩
  exact ⟨rfl, hm⟩
theorem flatDeeds_0 {F : Env} {w : World} {Ls : List Blks} (hm : Mem F w Ls) : Calls Try.prog 65 #[.slice none 0 0] w (Ret fun v w' => v = .bool true ∧ Mem F w' Ls) := by
  refine Calls.of_vc Try.func65 rfl Try.ntmps65 rfl ?_
  repeat (first | refine VC.seq ?_ | refine VC.block ?_ | refine VC.skip ?_)
  refine VC.region ?_
  refine VR.pure rfl rfl (p_assignB rfl) ?_
  refine VR.nil ?_
  repeat (first | refine VC.seq ?_ | refine VC.block ?_ | refine VC.skip ?_)
  refine VC.region ?_
  refine VR.pure rfl rfl (p_assignI rfl) ?_
  refine VR.nil ?_
  repeat (first | refine VC.seq ?_ | refine VC.block ?_ | refine VC.skip ?_)
  refine VC.loop (σ := Unit) (fun _ => [(0, .slice none 0 0), (3, .int .i64 0)]) (fun _ w => Mem F w Ls) (fun _ => 0) () ⟨rfl, rfl, trivial⟩ hm ?_
  clear hm
  rintro _ A' w hm
  repeat (first | refine VC.seq ?_ | refine VC.block ?_ | refine VC.skip ?_)
  refine VC.region ?_
  refine VR.pure rfl rfl (p_moveI rfl) ?_
  refine VR.pure rfl rfl (p_moveL rfl) ?_
  refine VR.pure rfl rfl (p_len Try.underlying80 rfl) ?_
  refine VR.pure rfl rfl (p_lt rfl rfl) ?_
  refine VR.nil ?_
  repeat (first | refine VC.seq ?_ | refine VC.block ?_ | refine VC.skip ?_)
  refine VC.condF rfl rfl ?_
  refine VC.exit ?_
  repeat (first | refine VC.seq ?_ | refine VC.block ?_ | refine VC.skip ?_)
  refine VC.region ?_
  refine VR.pure rfl rfl (p_moveL rfl) ?_
  refine VR.pure rfl rfl (p_len Try.underlying80 rfl) ?_
  refine VR.new hm rfl rfl (n_makeSlice (s := 1) (bytes := 24) Try.underlying80 inf128 rfl rfl rfl rfl rfl (by omega) (by omega)) ?_
  intro gb w hm
  refine VR.pure rfl rfl (p_assignL rfl) ?_
  refine VR.nil ?_
  replace hm := hm.pop
  repeat (first | refine VC.seq ?_ | refine VC.block ?_ | refine VC.skip ?_)
  refine VC.region ?_
  refine VR.pure rfl rfl (p_assignI rfl) ?_
  refine VR.nil ?_
  repeat (first | refine VC.seq ?_ | refine VC.block ?_ | refine VC.skip ?_)
  refine VC.loop (σ := Unit) (fun _ => [(0, .slice none 0 0), (5, .slice (some ⟨gb, 0, none⟩) 0 0), (6, .int .i64 0)]) (fun _ w => Mem F w Ls) (fun _ => 0) () ⟨rfl, rfl, rfl, trivial⟩ hm ?_
  clear hm
  rintro _ A' w hm
  repeat (first | refine VC.seq ?_ | refine VC.block ?_ | refine VC.skip ?_)
  refine VC.region ?_
  refine VR.pure rfl rfl (p_moveI rfl) ?_
  refine VR.pure rfl rfl (p_moveL rfl) ?_
  refine VR.pure rfl rfl (p_len Try.underlying80 rfl) ?_
  refine VR.pure rfl rfl (p_lt rfl rfl) ?_
  refine VR.nil ?_
  repeat (first | refine VC.seq ?_ | refine VC.block ?_ | refine VC.skip ?_)
  refine VC.condF rfl rfl ?_
  refine VC.exit ?_
  repeat (first | refine VC.seq ?_ | refine VC.block ?_ | refine VC.skip ?_)
  refine VC.region ?_
  refine VR.pure rfl rfl (p_assignI rfl) ?_
  refine VR.nil ?_
  repeat (first | refine VC.seq ?_ | refine VC.block ?_ | refine VC.skip ?_)
  refine VC.loop (σ := Unit) (fun _ => [(0, .slice none 0 0), (5, .slice (some ⟨gb, 0, none⟩) 0 0), (9, .int .i64 0)]) (fun _ w => Mem F w Ls) (fun _ => 0) () ⟨rfl, rfl, rfl, trivial⟩ hm ?_
  clear hm
  rintro _ A' w hm
  repeat (first | refine VC.seq ?_ | refine VC.block ?_ | refine VC.skip ?_)
  refine VC.region ?_
  refine VR.pure rfl rfl (p_moveI rfl) ?_
  refine VR.pure rfl rfl (p_moveL rfl) ?_
  refine VR.pure rfl rfl (p_len Try.underlying80 rfl) ?_
  refine VR.pure rfl rfl (p_lt rfl rfl) ?_
  refine VR.nil ?_
  repeat (first | refine VC.seq ?_ | refine VC.block ?_ | refine VC.skip ?_)
  refine VC.condF rfl rfl ?_
  refine VC.exit ?_
  repeat (first | refine VC.seq ?_ | refine VC.block ?_ | refine VC.skip ?_)
  refine VC.region ?_
  refine VR.pure rfl rfl (p_assignI rfl) ?_
  refine VR.nil ?_
  repeat (first | refine VC.seq ?_ | refine VC.block ?_ | refine VC.skip ?_)
  refine VC.loop (σ := Unit) (fun _ => [(0, .slice none 0 0), (5, .slice (some ⟨gb, 0, none⟩) 0 0), (11, .int .i64 0)]) (fun _ w => Mem F w Ls) (fun _ => 0) () ⟨rfl, rfl, rfl, trivial⟩ hm ?_
  clear hm
  rintro _ A' w hm
  repeat (first | refine VC.seq ?_ | refine VC.block ?_ | refine VC.skip ?_)
  refine VC.region ?_
  refine VR.pure rfl rfl (p_moveI rfl) ?_
  refine VR.pure rfl rfl (p_moveL rfl) ?_
  refine VR.pure rfl rfl (p_len Try.underlying80 rfl) ?_
  refine VR.pure rfl rfl (p_lt rfl rfl) ?_
  refine VR.nil ?_
  repeat (first | refine VC.seq ?_ | refine VC.block ?_ | refine VC.skip ?_)
  refine VC.condF rfl rfl ?_
  refine VC.exit ?_
  repeat (first | refine VC.seq ?_ | refine VC.block ?_ | refine VC.skip ?_)
  refine VC.region ?_
  refine VR.pure rfl rfl (p_assignI rfl) ?_
  refine VR.nil ?_
  repeat (first | refine VC.seq ?_ | refine VC.block ?_ | refine VC.skip ?_)
  refine VC.loop (σ := Unit) (fun _ => [(0, .slice none 0 0), (5, .slice (some ⟨gb, 0, none⟩) 0 0), (14, .int .i64 0)]) (fun _ w => Mem F w Ls) (fun _ => 0) () ⟨rfl, rfl, rfl, trivial⟩ hm ?_
  clear hm
  rintro _ A' w hm
  repeat (first | refine VC.seq ?_ | refine VC.block ?_ | refine VC.skip ?_)
  refine VC.region ?_
  refine VR.pure rfl rfl (p_moveI rfl) ?_
  refine VR.pure rfl rfl (p_moveL rfl) ?_
  refine VR.pure rfl rfl (p_len Try.underlying80 rfl) ?_
  refine VR.pure rfl rfl (p_lt rfl rfl) ?_
  refine VR.nil ?_
  repeat (first | refine VC.seq ?_ | refine VC.block ?_ | refine VC.skip ?_)
  refine VC.condF rfl rfl ?_
  refine VC.exit ?_
  repeat (first | refine VC.seq ?_ | refine VC.block ?_ | refine VC.skip ?_)
  refine VC.region ?_
  refine VR.pure rfl rfl (p_assignB rfl) ?_
  refine VR.nil ?_
  repeat (first | refine VC.seq ?_ | refine VC.block ?_ | refine VC.skip ?_)
  refine VC.ret ⟨_, ResOf.r1 (v := .bool _) rfl rfl, ?_⟩
  exact ⟨rfl, hm⟩
theorem flatNodes_0 {F : Env} {w : World} {Ls : List Blks} (hm : Mem F w Ls) : Calls Try.prog 66 #[.slice none 0 0] w (Ret fun v w' => v = .bool true ∧ Mem F w' Ls) := by
  refine Calls.of_vc Try.func66 rfl Try.ntmps66 rfl ?_
  repeat (first | refine VC.seq ?_ | refine VC.block ?_ | refine VC.skip ?_)
  refine VC.region ?_
  refine VR.pure rfl rfl (p_assignB rfl) ?_
  refine VR.nil ?_
  repeat (first | refine VC.seq ?_ | refine VC.block ?_ | refine VC.skip ?_)
  refine VC.region ?_
  refine VR.pure rfl rfl (p_assignI rfl) ?_
  refine VR.nil ?_
  repeat (first | refine VC.seq ?_ | refine VC.block ?_ | refine VC.skip ?_)
  refine VC.loop (σ := Unit) (fun _ => [(0, .slice none 0 0), (3, .int .i64 0)]) (fun _ w => Mem F w Ls) (fun _ => 0) () ⟨rfl, rfl, trivial⟩ hm ?_
  clear hm
  rintro _ A' w hm
  repeat (first | refine VC.seq ?_ | refine VC.block ?_ | refine VC.skip ?_)
  refine VC.region ?_
  refine VR.pure rfl rfl (p_moveI rfl) ?_
  refine VR.pure rfl rfl (p_moveL rfl) ?_
  refine VR.pure rfl rfl (p_len Try.underlying81 rfl) ?_
  refine VR.pure rfl rfl (p_lt rfl rfl) ?_
  refine VR.nil ?_
  repeat (first | refine VC.seq ?_ | refine VC.block ?_ | refine VC.skip ?_)
  refine VC.condF rfl rfl ?_
  refine VC.exit ?_
  repeat (first | refine VC.seq ?_ | refine VC.block ?_ | refine VC.skip ?_)
  refine VC.region ?_
  refine VR.pure rfl rfl (p_moveL rfl) ?_
  refine VR.pure rfl rfl (p_len Try.underlying81 rfl) ?_
  refine VR.new hm rfl rfl (n_makeSlice (s := 1) (bytes := 24) Try.underlying81 inf134 rfl rfl rfl rfl rfl (by omega) (by omega)) ?_
  intro gb w hm
  refine VR.pure rfl rfl (p_assignL rfl) ?_
  refine VR.nil ?_
  replace hm := hm.pop
  repeat (first | refine VC.seq ?_ | refine VC.block ?_ | refine VC.skip ?_)
  refine VC.region ?_
  refine VR.pure rfl rfl (p_assignI rfl) ?_
  refine VR.nil ?_
  repeat (first | refine VC.seq ?_ | refine VC.block ?_ | refine VC.skip ?_)
  refine VC.loop (σ := Unit) (fun _ => [(0, .slice none 0 0), (5, .slice (some ⟨gb, 0, none⟩) 0 0), (6, .int .i64 0)]) (fun _ w => Mem F w Ls) (fun _ => 0) () ⟨rfl, rfl, rfl, trivial⟩ hm ?_
  clear hm
  rintro _ A' w hm
  repeat (first | refine VC.seq ?_ | refine VC.block ?_ | refine VC.skip ?_)
  refine VC.region ?_
  refine VR.pure rfl rfl (p_moveI rfl) ?_
  refine VR.pure rfl rfl (p_moveL rfl) ?_
  refine VR.pure rfl rfl (p_len Try.underlying81 rfl) ?_
  refine VR.pure rfl rfl (p_lt rfl rfl) ?_
  refine VR.nil ?_
  repeat (first | refine VC.seq ?_ | refine VC.block ?_ | refine VC.skip ?_)
  refine VC.condF rfl rfl ?_
  refine VC.exit ?_
  repeat (first | refine VC.seq ?_ | refine VC.block ?_ | refine VC.skip ?_)
  refine VC.region ?_
  refine VR.pure rfl rfl (p_assignI rfl) ?_
  refine VR.nil ?_
  repeat (first | refine VC.seq ?_ | refine VC.block ?_ | refine VC.skip ?_)
  refine VC.loop (σ := Unit) (fun _ => [(0, .slice none 0 0), (5, .slice (some ⟨gb, 0, none⟩) 0 0), (9, .int .i64 0)]) (fun _ w => Mem F w Ls) (fun _ => 0) () ⟨rfl, rfl, rfl, trivial⟩ hm ?_
  clear hm
  rintro _ A' w hm
  repeat (first | refine VC.seq ?_ | refine VC.block ?_ | refine VC.skip ?_)
  refine VC.region ?_
  refine VR.pure rfl rfl (p_moveI rfl) ?_
  refine VR.pure rfl rfl (p_moveL rfl) ?_
  refine VR.pure rfl rfl (p_len Try.underlying81 rfl) ?_
  refine VR.pure rfl rfl (p_lt rfl rfl) ?_
  refine VR.nil ?_
  repeat (first | refine VC.seq ?_ | refine VC.block ?_ | refine VC.skip ?_)
  refine VC.condF rfl rfl ?_
  refine VC.exit ?_
  repeat (first | refine VC.seq ?_ | refine VC.block ?_ | refine VC.skip ?_)
  refine VC.region ?_
  refine VR.pure rfl rfl (p_assignI rfl) ?_
  refine VR.nil ?_
  repeat (first | refine VC.seq ?_ | refine VC.block ?_ | refine VC.skip ?_)
  refine VC.loop (σ := Unit) (fun _ => [(0, .slice none 0 0), (5, .slice (some ⟨gb, 0, none⟩) 0 0), (11, .int .i64 0)]) (fun _ w => Mem F w Ls) (fun _ => 0) () ⟨rfl, rfl, rfl, trivial⟩ hm ?_
  clear hm
  rintro _ A' w hm
  repeat (first | refine VC.seq ?_ | refine VC.block ?_ | refine VC.skip ?_)
  refine VC.region ?_
  refine VR.pure rfl rfl (p_moveI rfl) ?_
  refine VR.pure rfl rfl (p_moveL rfl) ?_
  refine VR.pure rfl rfl (p_len Try.underlying81 rfl) ?_
  refine VR.pure rfl rfl (p_lt rfl rfl) ?_
  refine VR.nil ?_
  repeat (first | refine VC.seq ?_ | refine VC.block ?_ | refine VC.skip ?_)
  refine VC.condF rfl rfl ?_
  refine VC.exit ?_
  repeat (first | refine VC.seq ?_ | refine VC.block ?_ | refine VC.skip ?_)
  refine VC.region ?_
  refine VR.pure rfl rfl (p_assignI rfl) ?_
  refine VR.nil ?_
  repeat (first | refine VC.seq ?_ | refine VC.block ?_ | refine VC.skip ?_)
  refine VC.loop (σ := Unit) (fun _ => [(0, .slice none 0 0), (5, .slice (some ⟨gb, 0, none⟩) 0 0), (14, .int .i64 0)]) (fun _ w => Mem F w Ls) (fun _ => 0) () ⟨rfl, rfl, rfl, trivial⟩ hm ?_
  clear hm
  rintro _ A' w hm
  repeat (first | refine VC.seq ?_ | refine VC.block ?_ | refine VC.skip ?_)
  refine VC.region ?_
  refine VR.pure rfl rfl (p_moveI rfl) ?_
  refine VR.pure rfl rfl (p_moveL rfl) ?_
  refine VR.pure rfl rfl (p_len Try.underlying81 rfl) ?_
  refine VR.pure rfl rfl (p_lt rfl rfl) ?_
  refine VR.nil ?_
  repeat (first | refine VC.seq ?_ | refine VC.block ?_ | refine VC.skip ?_)
  refine VC.condF rfl rfl ?_
  refine VC.exit ?_
  repeat (first | refine VC.seq ?_ | refine VC.block ?_ | refine VC.skip ?_)
  refine VC.region ?_
  refine VR.pure rfl rfl (p_assignB rfl) ?_
  refine VR.nil ?_
  repeat (first | refine VC.seq ?_ | refine VC.block ?_ | refine VC.skip ?_)
  refine VC.ret ⟨_, ResOf.r1 (v := .bool _) rfl rfl, ?_⟩
  exact ⟨rfl, hm⟩
theorem flatSittings_0 {F : Env} {w : World} {Ls : List Blks} (hm : Mem F w Ls) : Calls Try.prog 67 #[.slice none 0 0] w (Ret fun v w' => v = .bool true ∧ Mem F w' Ls) := by
  refine Calls.of_vc Try.func67 rfl Try.ntmps67 rfl ?_
  repeat (first | refine VC.seq ?_ | refine VC.block ?_ | refine VC.skip ?_)
  refine VC.region ?_
  refine VR.pure rfl rfl (p_assignB rfl) ?_
  refine VR.nil ?_
  repeat (first | refine VC.seq ?_ | refine VC.block ?_ | refine VC.skip ?_)
  refine VC.region ?_
  refine VR.pure rfl rfl (p_assignI rfl) ?_
  refine VR.nil ?_
  repeat (first | refine VC.seq ?_ | refine VC.block ?_ | refine VC.skip ?_)
  refine VC.loop (σ := Unit) (fun _ => [(0, .slice none 0 0), (3, .int .i64 0)]) (fun _ w => Mem F w Ls) (fun _ => 0) () ⟨rfl, rfl, trivial⟩ hm ?_
  clear hm
  rintro _ A' w hm
  repeat (first | refine VC.seq ?_ | refine VC.block ?_ | refine VC.skip ?_)
  refine VC.region ?_
  refine VR.pure rfl rfl (p_moveI rfl) ?_
  refine VR.pure rfl rfl (p_moveL rfl) ?_
  refine VR.pure rfl rfl (p_len Try.underlying82 rfl) ?_
  refine VR.pure rfl rfl (p_lt rfl rfl) ?_
  refine VR.nil ?_
  repeat (first | refine VC.seq ?_ | refine VC.block ?_ | refine VC.skip ?_)
  refine VC.condF rfl rfl ?_
  refine VC.exit ?_
  repeat (first | refine VC.seq ?_ | refine VC.block ?_ | refine VC.skip ?_)
  refine VC.region ?_
  refine VR.pure rfl rfl (p_moveL rfl) ?_
  refine VR.pure rfl rfl (p_len Try.underlying82 rfl) ?_
  refine VR.new hm rfl rfl (n_makeSlice (s := 1) (bytes := 24) Try.underlying82 inf141 rfl rfl rfl rfl rfl (by omega) (by omega)) ?_
  intro gb w hm
  refine VR.pure rfl rfl (p_assignL rfl) ?_
  refine VR.nil ?_
  replace hm := hm.pop
  repeat (first | refine VC.seq ?_ | refine VC.block ?_ | refine VC.skip ?_)
  refine VC.region ?_
  refine VR.pure rfl rfl (p_assignI rfl) ?_
  refine VR.nil ?_
  repeat (first | refine VC.seq ?_ | refine VC.block ?_ | refine VC.skip ?_)
  refine VC.loop (σ := Unit) (fun _ => [(0, .slice none 0 0), (5, .slice (some ⟨gb, 0, none⟩) 0 0), (6, .int .i64 0)]) (fun _ w => Mem F w Ls) (fun _ => 0) () ⟨rfl, rfl, rfl, trivial⟩ hm ?_
  clear hm
  rintro _ A' w hm
  repeat (first | refine VC.seq ?_ | refine VC.block ?_ | refine VC.skip ?_)
  refine VC.region ?_
  refine VR.pure rfl rfl (p_moveI rfl) ?_
  refine VR.pure rfl rfl (p_moveL rfl) ?_
  refine VR.pure rfl rfl (p_len Try.underlying82 rfl) ?_
  refine VR.pure rfl rfl (p_lt rfl rfl) ?_
  refine VR.nil ?_
  repeat (first | refine VC.seq ?_ | refine VC.block ?_ | refine VC.skip ?_)
  refine VC.condF rfl rfl ?_
  refine VC.exit ?_
  repeat (first | refine VC.seq ?_ | refine VC.block ?_ | refine VC.skip ?_)
  refine VC.region ?_
  refine VR.pure rfl rfl (p_assignI rfl) ?_
  refine VR.nil ?_
  repeat (first | refine VC.seq ?_ | refine VC.block ?_ | refine VC.skip ?_)
  refine VC.loop (σ := Unit) (fun _ => [(0, .slice none 0 0), (5, .slice (some ⟨gb, 0, none⟩) 0 0), (9, .int .i64 0)]) (fun _ w => Mem F w Ls) (fun _ => 0) () ⟨rfl, rfl, rfl, trivial⟩ hm ?_
  clear hm
  rintro _ A' w hm
  repeat (first | refine VC.seq ?_ | refine VC.block ?_ | refine VC.skip ?_)
  refine VC.region ?_
  refine VR.pure rfl rfl (p_moveI rfl) ?_
  refine VR.pure rfl rfl (p_moveL rfl) ?_
  refine VR.pure rfl rfl (p_len Try.underlying82 rfl) ?_
  refine VR.pure rfl rfl (p_lt rfl rfl) ?_
  refine VR.nil ?_
  repeat (first | refine VC.seq ?_ | refine VC.block ?_ | refine VC.skip ?_)
  refine VC.condF rfl rfl ?_
  refine VC.exit ?_
  repeat (first | refine VC.seq ?_ | refine VC.block ?_ | refine VC.skip ?_)
  refine VC.region ?_
  refine VR.pure rfl rfl (p_assignI rfl) ?_
  refine VR.nil ?_
  repeat (first | refine VC.seq ?_ | refine VC.block ?_ | refine VC.skip ?_)
  refine VC.loop (σ := Unit) (fun _ => [(0, .slice none 0 0), (5, .slice (some ⟨gb, 0, none⟩) 0 0), (11, .int .i64 0)]) (fun _ w => Mem F w Ls) (fun _ => 0) () ⟨rfl, rfl, rfl, trivial⟩ hm ?_
  clear hm
  rintro _ A' w hm
  repeat (first | refine VC.seq ?_ | refine VC.block ?_ | refine VC.skip ?_)
  refine VC.region ?_
  refine VR.pure rfl rfl (p_moveI rfl) ?_
  refine VR.pure rfl rfl (p_moveL rfl) ?_
  refine VR.pure rfl rfl (p_len Try.underlying82 rfl) ?_
  refine VR.pure rfl rfl (p_lt rfl rfl) ?_
  refine VR.nil ?_
  repeat (first | refine VC.seq ?_ | refine VC.block ?_ | refine VC.skip ?_)
  refine VC.condF rfl rfl ?_
  refine VC.exit ?_
  repeat (first | refine VC.seq ?_ | refine VC.block ?_ | refine VC.skip ?_)
  refine VC.region ?_
  refine VR.pure rfl rfl (p_assignI rfl) ?_
  refine VR.nil ?_
  repeat (first | refine VC.seq ?_ | refine VC.block ?_ | refine VC.skip ?_)
  refine VC.loop (σ := Unit) (fun _ => [(0, .slice none 0 0), (5, .slice (some ⟨gb, 0, none⟩) 0 0), (14, .int .i64 0)]) (fun _ w => Mem F w Ls) (fun _ => 0) () ⟨rfl, rfl, rfl, trivial⟩ hm ?_
  clear hm
  rintro _ A' w hm
  repeat (first | refine VC.seq ?_ | refine VC.block ?_ | refine VC.skip ?_)
  refine VC.region ?_
  refine VR.pure rfl rfl (p_moveI rfl) ?_
  refine VR.pure rfl rfl (p_moveL rfl) ?_
  refine VR.pure rfl rfl (p_len Try.underlying82 rfl) ?_
  refine VR.pure rfl rfl (p_lt rfl rfl) ?_
  refine VR.nil ?_
  repeat (first | refine VC.seq ?_ | refine VC.block ?_ | refine VC.skip ?_)
  refine VC.condF rfl rfl ?_
  refine VC.exit ?_
  repeat (first | refine VC.seq ?_ | refine VC.block ?_ | refine VC.skip ?_)
  refine VC.region ?_
  refine VR.pure rfl rfl (p_assignB rfl) ?_
  refine VR.nil ?_
  repeat (first | refine VC.seq ?_ | refine VC.block ?_ | refine VC.skip ?_)
  refine VC.ret ⟨_, ResOf.r1 (v := .bool _) rfl rfl, ?_⟩
  exact ⟨rfl, hm⟩
theorem flatAsks_0 {F : Env} {w : World} {Ls : List Blks} (hm : Mem F w Ls) : Calls Try.prog 68 #[.slice none 0 0] w (Ret fun v w' => v = .bool true ∧ Mem F w' Ls) := by
  refine Calls.of_vc Try.func68 rfl Try.ntmps68 rfl ?_
  repeat (first | refine VC.seq ?_ | refine VC.block ?_ | refine VC.skip ?_)
  refine VC.region ?_
  refine VR.pure rfl rfl (p_assignB rfl) ?_
  refine VR.nil ?_
  repeat (first | refine VC.seq ?_ | refine VC.block ?_ | refine VC.skip ?_)
  refine VC.region ?_
  refine VR.pure rfl rfl (p_assignI rfl) ?_
  refine VR.nil ?_
  repeat (first | refine VC.seq ?_ | refine VC.block ?_ | refine VC.skip ?_)
  refine VC.loop (σ := Unit) (fun _ => [(0, .slice none 0 0), (3, .int .i64 0)]) (fun _ w => Mem F w Ls) (fun _ => 0) () ⟨rfl, rfl, trivial⟩ hm ?_
  clear hm
  rintro _ A' w hm
  repeat (first | refine VC.seq ?_ | refine VC.block ?_ | refine VC.skip ?_)
  refine VC.region ?_
  refine VR.pure rfl rfl (p_moveI rfl) ?_
  refine VR.pure rfl rfl (p_moveL rfl) ?_
  refine VR.pure rfl rfl (p_len Try.underlying83 rfl) ?_
  refine VR.pure rfl rfl (p_lt rfl rfl) ?_
  refine VR.nil ?_
  repeat (first | refine VC.seq ?_ | refine VC.block ?_ | refine VC.skip ?_)
  refine VC.condF rfl rfl ?_
  refine VC.exit ?_
  repeat (first | refine VC.seq ?_ | refine VC.block ?_ | refine VC.skip ?_)
  refine VC.region ?_
  refine VR.pure rfl rfl (p_moveL rfl) ?_
  refine VR.pure rfl rfl (p_len Try.underlying83 rfl) ?_
  refine VR.new hm rfl rfl (n_makeSlice (s := 1) (bytes := 24) Try.underlying83 inf29 rfl rfl rfl rfl rfl (by omega) (by omega)) ?_
  intro gb w hm
  refine VR.pure rfl rfl (p_assignL rfl) ?_
  refine VR.nil ?_
  replace hm := hm.pop
  repeat (first | refine VC.seq ?_ | refine VC.block ?_ | refine VC.skip ?_)
  refine VC.region ?_
  refine VR.pure rfl rfl (p_assignI rfl) ?_
  refine VR.nil ?_
  repeat (first | refine VC.seq ?_ | refine VC.block ?_ | refine VC.skip ?_)
  refine VC.loop (σ := Unit) (fun _ => [(0, .slice none 0 0), (5, .slice (some ⟨gb, 0, none⟩) 0 0), (6, .int .i64 0)]) (fun _ w => Mem F w Ls) (fun _ => 0) () ⟨rfl, rfl, rfl, trivial⟩ hm ?_
  clear hm
  rintro _ A' w hm
  repeat (first | refine VC.seq ?_ | refine VC.block ?_ | refine VC.skip ?_)
  refine VC.region ?_
  refine VR.pure rfl rfl (p_moveI rfl) ?_
  refine VR.pure rfl rfl (p_moveL rfl) ?_
  refine VR.pure rfl rfl (p_len Try.underlying83 rfl) ?_
  refine VR.pure rfl rfl (p_lt rfl rfl) ?_
  refine VR.nil ?_
  repeat (first | refine VC.seq ?_ | refine VC.block ?_ | refine VC.skip ?_)
  refine VC.condF rfl rfl ?_
  refine VC.exit ?_
  repeat (first | refine VC.seq ?_ | refine VC.block ?_ | refine VC.skip ?_)
  refine VC.region ?_
  refine VR.pure rfl rfl (p_assignI rfl) ?_
  refine VR.nil ?_
  repeat (first | refine VC.seq ?_ | refine VC.block ?_ | refine VC.skip ?_)
  refine VC.loop (σ := Unit) (fun _ => [(0, .slice none 0 0), (5, .slice (some ⟨gb, 0, none⟩) 0 0), (9, .int .i64 0)]) (fun _ w => Mem F w Ls) (fun _ => 0) () ⟨rfl, rfl, rfl, trivial⟩ hm ?_
  clear hm
  rintro _ A' w hm
  repeat (first | refine VC.seq ?_ | refine VC.block ?_ | refine VC.skip ?_)
  refine VC.region ?_
  refine VR.pure rfl rfl (p_moveI rfl) ?_
  refine VR.pure rfl rfl (p_moveL rfl) ?_
  refine VR.pure rfl rfl (p_len Try.underlying83 rfl) ?_
  refine VR.pure rfl rfl (p_lt rfl rfl) ?_
  refine VR.nil ?_
  repeat (first | refine VC.seq ?_ | refine VC.block ?_ | refine VC.skip ?_)
  refine VC.condF rfl rfl ?_
  refine VC.exit ?_
  repeat (first | refine VC.seq ?_ | refine VC.block ?_ | refine VC.skip ?_)
  refine VC.region ?_
  refine VR.pure rfl rfl (p_assignI rfl) ?_
  refine VR.nil ?_
  repeat (first | refine VC.seq ?_ | refine VC.block ?_ | refine VC.skip ?_)
  refine VC.loop (σ := Unit) (fun _ => [(0, .slice none 0 0), (5, .slice (some ⟨gb, 0, none⟩) 0 0), (11, .int .i64 0)]) (fun _ w => Mem F w Ls) (fun _ => 0) () ⟨rfl, rfl, rfl, trivial⟩ hm ?_
  clear hm
  rintro _ A' w hm
  repeat (first | refine VC.seq ?_ | refine VC.block ?_ | refine VC.skip ?_)
  refine VC.region ?_
  refine VR.pure rfl rfl (p_moveI rfl) ?_
  refine VR.pure rfl rfl (p_moveL rfl) ?_
  refine VR.pure rfl rfl (p_len Try.underlying83 rfl) ?_
  refine VR.pure rfl rfl (p_lt rfl rfl) ?_
  refine VR.nil ?_
  repeat (first | refine VC.seq ?_ | refine VC.block ?_ | refine VC.skip ?_)
  refine VC.condF rfl rfl ?_
  refine VC.exit ?_
  repeat (first | refine VC.seq ?_ | refine VC.block ?_ | refine VC.skip ?_)
  refine VC.region ?_
  refine VR.pure rfl rfl (p_assignI rfl) ?_
  refine VR.nil ?_
  repeat (first | refine VC.seq ?_ | refine VC.block ?_ | refine VC.skip ?_)
  refine VC.loop (σ := Unit) (fun _ => [(0, .slice none 0 0), (5, .slice (some ⟨gb, 0, none⟩) 0 0), (14, .int .i64 0)]) (fun _ w => Mem F w Ls) (fun _ => 0) () ⟨rfl, rfl, rfl, trivial⟩ hm ?_
  clear hm
  rintro _ A' w hm
  repeat (first | refine VC.seq ?_ | refine VC.block ?_ | refine VC.skip ?_)
  refine VC.region ?_
  refine VR.pure rfl rfl (p_moveI rfl) ?_
  refine VR.pure rfl rfl (p_moveL rfl) ?_
  refine VR.pure rfl rfl (p_len Try.underlying83 rfl) ?_
  refine VR.pure rfl rfl (p_lt rfl rfl) ?_
  refine VR.nil ?_
  repeat (first | refine VC.seq ?_ | refine VC.block ?_ | refine VC.skip ?_)
  refine VC.condF rfl rfl ?_
  refine VC.exit ?_
  repeat (first | refine VC.seq ?_ | refine VC.block ?_ | refine VC.skip ?_)
  refine VC.region ?_
  refine VR.pure rfl rfl (p_assignB rfl) ?_
  refine VR.nil ?_
  repeat (first | refine VC.seq ?_ | refine VC.block ?_ | refine VC.skip ?_)
  refine VC.ret ⟨_, ResOf.r1 (v := .bool _) rfl rfl, ?_⟩
  exact ⟨rfl, hm⟩
theorem flatReplies_0 {F : Env} {w : World} {Ls : List Blks} (hm : Mem F w Ls) : Calls Try.prog 69 #[.slice none 0 0] w (Ret fun v w' => v = .bool true ∧ Mem F w' Ls) := by
  refine Calls.of_vc Try.func69 rfl Try.ntmps69 rfl ?_
  repeat (first | refine VC.seq ?_ | refine VC.block ?_ | refine VC.skip ?_)
  refine VC.region ?_
  refine VR.pure rfl rfl (p_assignB rfl) ?_
  refine VR.nil ?_
  repeat (first | refine VC.seq ?_ | refine VC.block ?_ | refine VC.skip ?_)
  refine VC.region ?_
  refine VR.pure rfl rfl (p_assignI rfl) ?_
  refine VR.nil ?_
  repeat (first | refine VC.seq ?_ | refine VC.block ?_ | refine VC.skip ?_)
  refine VC.loop (σ := Unit) (fun _ => [(0, .slice none 0 0), (3, .int .i64 0)]) (fun _ w => Mem F w Ls) (fun _ => 0) () ⟨rfl, rfl, trivial⟩ hm ?_
  clear hm
  rintro _ A' w hm
  repeat (first | refine VC.seq ?_ | refine VC.block ?_ | refine VC.skip ?_)
  refine VC.region ?_
  refine VR.pure rfl rfl (p_moveI rfl) ?_
  refine VR.pure rfl rfl (p_moveL rfl) ?_
  refine VR.pure rfl rfl (p_len Try.underlying84 rfl) ?_
  refine VR.pure rfl rfl (p_lt rfl rfl) ?_
  refine VR.nil ?_
  repeat (first | refine VC.seq ?_ | refine VC.block ?_ | refine VC.skip ?_)
  refine VC.condF rfl rfl ?_
  refine VC.exit ?_
  repeat (first | refine VC.seq ?_ | refine VC.block ?_ | refine VC.skip ?_)
  refine VC.region ?_
  refine VR.pure rfl rfl (p_moveL rfl) ?_
  refine VR.pure rfl rfl (p_len Try.underlying84 rfl) ?_
  refine VR.new hm rfl rfl (n_makeSlice (s := 1) (bytes := 24) Try.underlying84 inf145 rfl rfl rfl rfl rfl (by omega) (by omega)) ?_
  intro gb w hm
  refine VR.pure rfl rfl (p_assignL rfl) ?_
  refine VR.nil ?_
  replace hm := hm.pop
  repeat (first | refine VC.seq ?_ | refine VC.block ?_ | refine VC.skip ?_)
  refine VC.region ?_
  refine VR.pure rfl rfl (p_assignI rfl) ?_
  refine VR.nil ?_
  repeat (first | refine VC.seq ?_ | refine VC.block ?_ | refine VC.skip ?_)
  refine VC.loop (σ := Unit) (fun _ => [(0, .slice none 0 0), (5, .slice (some ⟨gb, 0, none⟩) 0 0), (6, .int .i64 0)]) (fun _ w => Mem F w Ls) (fun _ => 0) () ⟨rfl, rfl, rfl, trivial⟩ hm ?_
  clear hm
  rintro _ A' w hm
  repeat (first | refine VC.seq ?_ | refine VC.block ?_ | refine VC.skip ?_)
  refine VC.region ?_
  refine VR.pure rfl rfl (p_moveI rfl) ?_
  refine VR.pure rfl rfl (p_moveL rfl) ?_
  refine VR.pure rfl rfl (p_len Try.underlying84 rfl) ?_
  refine VR.pure rfl rfl (p_lt rfl rfl) ?_
  refine VR.nil ?_
  repeat (first | refine VC.seq ?_ | refine VC.block ?_ | refine VC.skip ?_)
  refine VC.condF rfl rfl ?_
  refine VC.exit ?_
  repeat (first | refine VC.seq ?_ | refine VC.block ?_ | refine VC.skip ?_)
  refine VC.region ?_
  refine VR.pure rfl rfl (p_assignI rfl) ?_
  refine VR.nil ?_
  repeat (first | refine VC.seq ?_ | refine VC.block ?_ | refine VC.skip ?_)
  refine VC.loop (σ := Unit) (fun _ => [(0, .slice none 0 0), (5, .slice (some ⟨gb, 0, none⟩) 0 0), (9, .int .i64 0)]) (fun _ w => Mem F w Ls) (fun _ => 0) () ⟨rfl, rfl, rfl, trivial⟩ hm ?_
  clear hm
  rintro _ A' w hm
  repeat (first | refine VC.seq ?_ | refine VC.block ?_ | refine VC.skip ?_)
  refine VC.region ?_
  refine VR.pure rfl rfl (p_moveI rfl) ?_
  refine VR.pure rfl rfl (p_moveL rfl) ?_
  refine VR.pure rfl rfl (p_len Try.underlying84 rfl) ?_
  refine VR.pure rfl rfl (p_lt rfl rfl) ?_
  refine VR.nil ?_
  repeat (first | refine VC.seq ?_ | refine VC.block ?_ | refine VC.skip ?_)
  refine VC.condF rfl rfl ?_
  refine VC.exit ?_
  repeat (first | refine VC.seq ?_ | refine VC.block ?_ | refine VC.skip ?_)
  refine VC.region ?_
  refine VR.pure rfl rfl (p_assignI rfl) ?_
  refine VR.nil ?_
  repeat (first | refine VC.seq ?_ | refine VC.block ?_ | refine VC.skip ?_)
  refine VC.loop (σ := Unit) (fun _ => [(0, .slice none 0 0), (5, .slice (some ⟨gb, 0, none⟩) 0 0), (11, .int .i64 0)]) (fun _ w => Mem F w Ls) (fun _ => 0) () ⟨rfl, rfl, rfl, trivial⟩ hm ?_
  clear hm
  rintro _ A' w hm
  repeat (first | refine VC.seq ?_ | refine VC.block ?_ | refine VC.skip ?_)
  refine VC.region ?_
  refine VR.pure rfl rfl (p_moveI rfl) ?_
  refine VR.pure rfl rfl (p_moveL rfl) ?_
  refine VR.pure rfl rfl (p_len Try.underlying84 rfl) ?_
  refine VR.pure rfl rfl (p_lt rfl rfl) ?_
  refine VR.nil ?_
  repeat (first | refine VC.seq ?_ | refine VC.block ?_ | refine VC.skip ?_)
  refine VC.condF rfl rfl ?_
  refine VC.exit ?_
  repeat (first | refine VC.seq ?_ | refine VC.block ?_ | refine VC.skip ?_)
  refine VC.region ?_
  refine VR.pure rfl rfl (p_assignI rfl) ?_
  refine VR.nil ?_
  repeat (first | refine VC.seq ?_ | refine VC.block ?_ | refine VC.skip ?_)
  refine VC.loop (σ := Unit) (fun _ => [(0, .slice none 0 0), (5, .slice (some ⟨gb, 0, none⟩) 0 0), (14, .int .i64 0)]) (fun _ w => Mem F w Ls) (fun _ => 0) () ⟨rfl, rfl, rfl, trivial⟩ hm ?_
  clear hm
  rintro _ A' w hm
  repeat (first | refine VC.seq ?_ | refine VC.block ?_ | refine VC.skip ?_)
  refine VC.region ?_
  refine VR.pure rfl rfl (p_moveI rfl) ?_
  refine VR.pure rfl rfl (p_moveL rfl) ?_
  refine VR.pure rfl rfl (p_len Try.underlying84 rfl) ?_
  refine VR.pure rfl rfl (p_lt rfl rfl) ?_
  refine VR.nil ?_
  repeat (first | refine VC.seq ?_ | refine VC.block ?_ | refine VC.skip ?_)
  refine VC.condF rfl rfl ?_
  refine VC.exit ?_
  repeat (first | refine VC.seq ?_ | refine VC.block ?_ | refine VC.skip ?_)
  refine VC.region ?_
  refine VR.pure rfl rfl (p_assignB rfl) ?_
  refine VR.nil ?_
  repeat (first | refine VC.seq ?_ | refine VC.block ?_ | refine VC.skip ?_)
  refine VC.ret ⟨_, ResOf.r1 (v := .bool _) rfl rfl, ?_⟩
  exact ⟨rfl, hm⟩
theorem flatEvents_0 {F : Env} {w : World} {Ls : List Blks} (hm : Mem F w Ls) : Calls Try.prog 70 #[.slice none 0 0] w (Ret fun v w' => v = .bool true ∧ Mem F w' Ls) := by
  refine Calls.of_vc Try.func70 rfl Try.ntmps70 rfl ?_
  repeat (first | refine VC.seq ?_ | refine VC.block ?_ | refine VC.skip ?_)
  refine VC.region ?_
  refine VR.pure rfl rfl (p_assignB rfl) ?_
  refine VR.nil ?_
  repeat (first | refine VC.seq ?_ | refine VC.block ?_ | refine VC.skip ?_)
  refine VC.region ?_
  refine VR.pure rfl rfl (p_assignI rfl) ?_
  refine VR.nil ?_
  repeat (first | refine VC.seq ?_ | refine VC.block ?_ | refine VC.skip ?_)
  refine VC.loop (σ := Unit) (fun _ => [(0, .slice none 0 0), (3, .int .i64 0)]) (fun _ w => Mem F w Ls) (fun _ => 0) () ⟨rfl, rfl, trivial⟩ hm ?_
  clear hm
  rintro _ A' w hm
  repeat (first | refine VC.seq ?_ | refine VC.block ?_ | refine VC.skip ?_)
  refine VC.region ?_
  refine VR.pure rfl rfl (p_moveI rfl) ?_
  refine VR.pure rfl rfl (p_moveL rfl) ?_
  refine VR.pure rfl rfl (p_len Try.underlying85 rfl) ?_
  refine VR.pure rfl rfl (p_lt rfl rfl) ?_
  refine VR.nil ?_
  repeat (first | refine VC.seq ?_ | refine VC.block ?_ | refine VC.skip ?_)
  refine VC.condF rfl rfl ?_
  refine VC.exit ?_
  repeat (first | refine VC.seq ?_ | refine VC.block ?_ | refine VC.skip ?_)
  refine VC.region ?_
  refine VR.pure rfl rfl (p_moveL rfl) ?_
  refine VR.pure rfl rfl (p_len Try.underlying85 rfl) ?_
  refine VR.new hm rfl rfl (n_makeSlice (s := 1) (bytes := 24) Try.underlying85 inf150 rfl rfl rfl rfl rfl (by omega) (by omega)) ?_
  intro gb w hm
  refine VR.pure rfl rfl (p_assignL rfl) ?_
  refine VR.nil ?_
  replace hm := hm.pop
  repeat (first | refine VC.seq ?_ | refine VC.block ?_ | refine VC.skip ?_)
  refine VC.region ?_
  refine VR.pure rfl rfl (p_assignI rfl) ?_
  refine VR.nil ?_
  repeat (first | refine VC.seq ?_ | refine VC.block ?_ | refine VC.skip ?_)
  refine VC.loop (σ := Unit) (fun _ => [(0, .slice none 0 0), (5, .slice (some ⟨gb, 0, none⟩) 0 0), (6, .int .i64 0)]) (fun _ w => Mem F w Ls) (fun _ => 0) () ⟨rfl, rfl, rfl, trivial⟩ hm ?_
  clear hm
  rintro _ A' w hm
  repeat (first | refine VC.seq ?_ | refine VC.block ?_ | refine VC.skip ?_)
  refine VC.region ?_
  refine VR.pure rfl rfl (p_moveI rfl) ?_
  refine VR.pure rfl rfl (p_moveL rfl) ?_
  refine VR.pure rfl rfl (p_len Try.underlying85 rfl) ?_
  refine VR.pure rfl rfl (p_lt rfl rfl) ?_
  refine VR.nil ?_
  repeat (first | refine VC.seq ?_ | refine VC.block ?_ | refine VC.skip ?_)
  refine VC.condF rfl rfl ?_
  refine VC.exit ?_
  repeat (first | refine VC.seq ?_ | refine VC.block ?_ | refine VC.skip ?_)
  refine VC.region ?_
  refine VR.pure rfl rfl (p_assignI rfl) ?_
  refine VR.nil ?_
  repeat (first | refine VC.seq ?_ | refine VC.block ?_ | refine VC.skip ?_)
  refine VC.loop (σ := Unit) (fun _ => [(0, .slice none 0 0), (5, .slice (some ⟨gb, 0, none⟩) 0 0), (9, .int .i64 0)]) (fun _ w => Mem F w Ls) (fun _ => 0) () ⟨rfl, rfl, rfl, trivial⟩ hm ?_
  clear hm
  rintro _ A' w hm
  repeat (first | refine VC.seq ?_ | refine VC.block ?_ | refine VC.skip ?_)
  refine VC.region ?_
  refine VR.pure rfl rfl (p_moveI rfl) ?_
  refine VR.pure rfl rfl (p_moveL rfl) ?_
  refine VR.pure rfl rfl (p_len Try.underlying85 rfl) ?_
  refine VR.pure rfl rfl (p_lt rfl rfl) ?_
  refine VR.nil ?_
  repeat (first | refine VC.seq ?_ | refine VC.block ?_ | refine VC.skip ?_)
  refine VC.condF rfl rfl ?_
  refine VC.exit ?_
  repeat (first | refine VC.seq ?_ | refine VC.block ?_ | refine VC.skip ?_)
  refine VC.region ?_
  refine VR.pure rfl rfl (p_assignI rfl) ?_
  refine VR.nil ?_
  repeat (first | refine VC.seq ?_ | refine VC.block ?_ | refine VC.skip ?_)
  refine VC.loop (σ := Unit) (fun _ => [(0, .slice none 0 0), (5, .slice (some ⟨gb, 0, none⟩) 0 0), (11, .int .i64 0)]) (fun _ w => Mem F w Ls) (fun _ => 0) () ⟨rfl, rfl, rfl, trivial⟩ hm ?_
  clear hm
  rintro _ A' w hm
  repeat (first | refine VC.seq ?_ | refine VC.block ?_ | refine VC.skip ?_)
  refine VC.region ?_
  refine VR.pure rfl rfl (p_moveI rfl) ?_
  refine VR.pure rfl rfl (p_moveL rfl) ?_
  refine VR.pure rfl rfl (p_len Try.underlying85 rfl) ?_
  refine VR.pure rfl rfl (p_lt rfl rfl) ?_
  refine VR.nil ?_
  repeat (first | refine VC.seq ?_ | refine VC.block ?_ | refine VC.skip ?_)
  refine VC.condF rfl rfl ?_
  refine VC.exit ?_
  repeat (first | refine VC.seq ?_ | refine VC.block ?_ | refine VC.skip ?_)
  refine VC.region ?_
  refine VR.pure rfl rfl (p_assignI rfl) ?_
  refine VR.nil ?_
  repeat (first | refine VC.seq ?_ | refine VC.block ?_ | refine VC.skip ?_)
  refine VC.loop (σ := Unit) (fun _ => [(0, .slice none 0 0), (5, .slice (some ⟨gb, 0, none⟩) 0 0), (14, .int .i64 0)]) (fun _ w => Mem F w Ls) (fun _ => 0) () ⟨rfl, rfl, rfl, trivial⟩ hm ?_
  clear hm
  rintro _ A' w hm
  repeat (first | refine VC.seq ?_ | refine VC.block ?_ | refine VC.skip ?_)
  refine VC.region ?_
  refine VR.pure rfl rfl (p_moveI rfl) ?_
  refine VR.pure rfl rfl (p_moveL rfl) ?_
  refine VR.pure rfl rfl (p_len Try.underlying85 rfl) ?_
  refine VR.pure rfl rfl (p_lt rfl rfl) ?_
  refine VR.nil ?_
  repeat (first | refine VC.seq ?_ | refine VC.block ?_ | refine VC.skip ?_)
  refine VC.condF rfl rfl ?_
  refine VC.exit ?_
  repeat (first | refine VC.seq ?_ | refine VC.block ?_ | refine VC.skip ?_)
  refine VC.region ?_
  refine VR.pure rfl rfl (p_assignB rfl) ?_
  refine VR.nil ?_
  repeat (first | refine VC.seq ?_ | refine VC.block ?_ | refine VC.skip ?_)
  refine VC.ret ⟨_, ResOf.r1 (v := .bool _) rfl rfl, ?_⟩
  exact ⟨rfl, hm⟩
theorem flatLetters_0 {F : Env} {w : World} {Ls : List Blks} (hm : Mem F w Ls) : Calls Try.prog 71 #[.slice none 0 0] w (Ret fun v w' => v = .bool true ∧ Mem F w' Ls) := by
  refine Calls.of_vc Try.func71 rfl Try.ntmps71 rfl ?_
  repeat (first | refine VC.seq ?_ | refine VC.block ?_ | refine VC.skip ?_)
  refine VC.region ?_
  refine VR.pure rfl rfl (p_assignB rfl) ?_
  refine VR.nil ?_
  repeat (first | refine VC.seq ?_ | refine VC.block ?_ | refine VC.skip ?_)
  refine VC.region ?_
  refine VR.pure rfl rfl (p_assignI rfl) ?_
  refine VR.nil ?_
  repeat (first | refine VC.seq ?_ | refine VC.block ?_ | refine VC.skip ?_)
  refine VC.loop (σ := Unit) (fun _ => [(0, .slice none 0 0), (3, .int .i64 0)]) (fun _ w => Mem F w Ls) (fun _ => 0) () ⟨rfl, rfl, trivial⟩ hm ?_
  clear hm
  rintro _ A' w hm
  repeat (first | refine VC.seq ?_ | refine VC.block ?_ | refine VC.skip ?_)
  refine VC.region ?_
  refine VR.pure rfl rfl (p_moveI rfl) ?_
  refine VR.pure rfl rfl (p_moveL rfl) ?_
  refine VR.pure rfl rfl (p_len Try.underlying86 rfl) ?_
  refine VR.pure rfl rfl (p_lt rfl rfl) ?_
  refine VR.nil ?_
  repeat (first | refine VC.seq ?_ | refine VC.block ?_ | refine VC.skip ?_)
  refine VC.condF rfl rfl ?_
  refine VC.exit ?_
  repeat (first | refine VC.seq ?_ | refine VC.block ?_ | refine VC.skip ?_)
  refine VC.region ?_
  refine VR.pure rfl rfl (p_moveL rfl) ?_
  refine VR.pure rfl rfl (p_len Try.underlying86 rfl) ?_
  refine VR.new hm rfl rfl (n_makeSlice (s := 1) (bytes := 24) Try.underlying86 inf155 rfl rfl rfl rfl rfl (by omega) (by omega)) ?_
  intro gb w hm
  refine VR.pure rfl rfl (p_assignL rfl) ?_
  refine VR.nil ?_
  replace hm := hm.pop
  repeat (first | refine VC.seq ?_ | refine VC.block ?_ | refine VC.skip ?_)
  refine VC.region ?_
  refine VR.pure rfl rfl (p_assignI rfl) ?_
  refine VR.nil ?_
  repeat (first | refine VC.seq ?_ | refine VC.block ?_ | refine VC.skip ?_)
  refine VC.loop (σ := Unit) (fun _ => [(0, .slice none 0 0), (5, .slice (some ⟨gb, 0, none⟩) 0 0), (6, .int .i64 0)]) (fun _ w => Mem F w Ls) (fun _ => 0) () ⟨rfl, rfl, rfl, trivial⟩ hm ?_
  clear hm
  rintro _ A' w hm
  repeat (first | refine VC.seq ?_ | refine VC.block ?_ | refine VC.skip ?_)
  refine VC.region ?_
  refine VR.pure rfl rfl (p_moveI rfl) ?_
  refine VR.pure rfl rfl (p_moveL rfl) ?_
  refine VR.pure rfl rfl (p_len Try.underlying86 rfl) ?_
  refine VR.pure rfl rfl (p_lt rfl rfl) ?_
  refine VR.nil ?_
  repeat (first | refine VC.seq ?_ | refine VC.block ?_ | refine VC.skip ?_)
  refine VC.condF rfl rfl ?_
  refine VC.exit ?_
  repeat (first | refine VC.seq ?_ | refine VC.block ?_ | refine VC.skip ?_)
  refine VC.region ?_
  refine VR.pure rfl rfl (p_assignI rfl) ?_
  refine VR.nil ?_
  repeat (first | refine VC.seq ?_ | refine VC.block ?_ | refine VC.skip ?_)
  refine VC.loop (σ := Unit) (fun _ => [(0, .slice none 0 0), (5, .slice (some ⟨gb, 0, none⟩) 0 0), (9, .int .i64 0)]) (fun _ w => Mem F w Ls) (fun _ => 0) () ⟨rfl, rfl, rfl, trivial⟩ hm ?_
  clear hm
  rintro _ A' w hm
  repeat (first | refine VC.seq ?_ | refine VC.block ?_ | refine VC.skip ?_)
  refine VC.region ?_
  refine VR.pure rfl rfl (p_moveI rfl) ?_
  refine VR.pure rfl rfl (p_moveL rfl) ?_
  refine VR.pure rfl rfl (p_len Try.underlying86 rfl) ?_
  refine VR.pure rfl rfl (p_lt rfl rfl) ?_
  refine VR.nil ?_
  repeat (first | refine VC.seq ?_ | refine VC.block ?_ | refine VC.skip ?_)
  refine VC.condF rfl rfl ?_
  refine VC.exit ?_
  repeat (first | refine VC.seq ?_ | refine VC.block ?_ | refine VC.skip ?_)
  refine VC.region ?_
  refine VR.pure rfl rfl (p_assignI rfl) ?_
  refine VR.nil ?_
  repeat (first | refine VC.seq ?_ | refine VC.block ?_ | refine VC.skip ?_)
  refine VC.loop (σ := Unit) (fun _ => [(0, .slice none 0 0), (5, .slice (some ⟨gb, 0, none⟩) 0 0), (11, .int .i64 0)]) (fun _ w => Mem F w Ls) (fun _ => 0) () ⟨rfl, rfl, rfl, trivial⟩ hm ?_
  clear hm
  rintro _ A' w hm
  repeat (first | refine VC.seq ?_ | refine VC.block ?_ | refine VC.skip ?_)
  refine VC.region ?_
  refine VR.pure rfl rfl (p_moveI rfl) ?_
  refine VR.pure rfl rfl (p_moveL rfl) ?_
  refine VR.pure rfl rfl (p_len Try.underlying86 rfl) ?_
  refine VR.pure rfl rfl (p_lt rfl rfl) ?_
  refine VR.nil ?_
  repeat (first | refine VC.seq ?_ | refine VC.block ?_ | refine VC.skip ?_)
  refine VC.condF rfl rfl ?_
  refine VC.exit ?_
  repeat (first | refine VC.seq ?_ | refine VC.block ?_ | refine VC.skip ?_)
  refine VC.region ?_
  refine VR.pure rfl rfl (p_assignI rfl) ?_
  refine VR.nil ?_
  repeat (first | refine VC.seq ?_ | refine VC.block ?_ | refine VC.skip ?_)
  refine VC.loop (σ := Unit) (fun _ => [(0, .slice none 0 0), (5, .slice (some ⟨gb, 0, none⟩) 0 0), (14, .int .i64 0)]) (fun _ w => Mem F w Ls) (fun _ => 0) () ⟨rfl, rfl, rfl, trivial⟩ hm ?_
  clear hm
  rintro _ A' w hm
  repeat (first | refine VC.seq ?_ | refine VC.block ?_ | refine VC.skip ?_)
  refine VC.region ?_
  refine VR.pure rfl rfl (p_moveI rfl) ?_
  refine VR.pure rfl rfl (p_moveL rfl) ?_
  refine VR.pure rfl rfl (p_len Try.underlying86 rfl) ?_
  refine VR.pure rfl rfl (p_lt rfl rfl) ?_
  refine VR.nil ?_
  repeat (first | refine VC.seq ?_ | refine VC.block ?_ | refine VC.skip ?_)
  refine VC.condF rfl rfl ?_
  refine VC.exit ?_
  repeat (first | refine VC.seq ?_ | refine VC.block ?_ | refine VC.skip ?_)
  refine VC.region ?_
  refine VR.pure rfl rfl (p_assignB rfl) ?_
  refine VR.nil ?_
  repeat (first | refine VC.seq ?_ | refine VC.block ?_ | refine VC.skip ?_)
  refine VC.ret ⟨_, ResOf.r1 (v := .bool _) rfl rfl, ?_⟩
  exact ⟨rfl, hm⟩
theorem flatPackets_0 {F : Env} {w : World} {Ls : List Blks} (hm : Mem F w Ls) : Calls Try.prog 72 #[.slice none 0 0] w (Ret fun v w' => v = .bool true ∧ Mem F w' Ls) := by
  refine Calls.of_vc Try.func72 rfl Try.ntmps72 rfl ?_
  repeat (first | refine VC.seq ?_ | refine VC.block ?_ | refine VC.skip ?_)
  refine VC.region ?_
  refine VR.pure rfl rfl (p_assignB rfl) ?_
  refine VR.nil ?_
  repeat (first | refine VC.seq ?_ | refine VC.block ?_ | refine VC.skip ?_)
  refine VC.region ?_
  refine VR.pure rfl rfl (p_assignI rfl) ?_
  refine VR.nil ?_
  repeat (first | refine VC.seq ?_ | refine VC.block ?_ | refine VC.skip ?_)
  refine VC.loop (σ := Unit) (fun _ => [(0, .slice none 0 0), (3, .int .i64 0)]) (fun _ w => Mem F w Ls) (fun _ => 0) () ⟨rfl, rfl, trivial⟩ hm ?_
  clear hm
  rintro _ A' w hm
  repeat (first | refine VC.seq ?_ | refine VC.block ?_ | refine VC.skip ?_)
  refine VC.region ?_
  refine VR.pure rfl rfl (p_moveI rfl) ?_
  refine VR.pure rfl rfl (p_moveL rfl) ?_
  refine VR.pure rfl rfl (p_len Try.underlying87 rfl) ?_
  refine VR.pure rfl rfl (p_lt rfl rfl) ?_
  refine VR.nil ?_
  repeat (first | refine VC.seq ?_ | refine VC.block ?_ | refine VC.skip ?_)
  refine VC.condF rfl rfl ?_
  refine VC.exit ?_
  repeat (first | refine VC.seq ?_ | refine VC.block ?_ | refine VC.skip ?_)
  refine VC.region ?_
  refine VR.pure rfl rfl (p_moveL rfl) ?_
  refine VR.pure rfl rfl (p_len Try.underlying87 rfl) ?_
  refine VR.new hm rfl rfl (n_makeSlice (s := 1) (bytes := 24) Try.underlying87 inf162 rfl rfl rfl rfl rfl (by omega) (by omega)) ?_
  intro gb w hm
  refine VR.pure rfl rfl (p_assignL rfl) ?_
  refine VR.nil ?_
  replace hm := hm.pop
  repeat (first | refine VC.seq ?_ | refine VC.block ?_ | refine VC.skip ?_)
  refine VC.region ?_
  refine VR.pure rfl rfl (p_assignI rfl) ?_
  refine VR.nil ?_
  repeat (first | refine VC.seq ?_ | refine VC.block ?_ | refine VC.skip ?_)
  refine VC.loop (σ := Unit) (fun _ => [(0, .slice none 0 0), (5, .slice (some ⟨gb, 0, none⟩) 0 0), (6, .int .i64 0)]) (fun _ w => Mem F w Ls) (fun _ => 0) () ⟨rfl, rfl, rfl, trivial⟩ hm ?_
  clear hm
  rintro _ A' w hm
  repeat (first | refine VC.seq ?_ | refine VC.block ?_ | refine VC.skip ?_)
  refine VC.region ?_
  refine VR.pure rfl rfl (p_moveI rfl) ?_
  refine VR.pure rfl rfl (p_moveL rfl) ?_
  refine VR.pure rfl rfl (p_len Try.underlying87 rfl) ?_
  refine VR.pure rfl rfl (p_lt rfl rfl) ?_
  refine VR.nil ?_
  repeat (first | refine VC.seq ?_ | refine VC.block ?_ | refine VC.skip ?_)
  refine VC.condF rfl rfl ?_
  refine VC.exit ?_
  repeat (first | refine VC.seq ?_ | refine VC.block ?_ | refine VC.skip ?_)
  refine VC.region ?_
  refine VR.pure rfl rfl (p_assignI rfl) ?_
  refine VR.nil ?_
  repeat (first | refine VC.seq ?_ | refine VC.block ?_ | refine VC.skip ?_)
  refine VC.loop (σ := Unit) (fun _ => [(0, .slice none 0 0), (5, .slice (some ⟨gb, 0, none⟩) 0 0), (9, .int .i64 0)]) (fun _ w => Mem F w Ls) (fun _ => 0) () ⟨rfl, rfl, rfl, trivial⟩ hm ?_
  clear hm
  rintro _ A' w hm
  repeat (first | refine VC.seq ?_ | refine VC.block ?_ | refine VC.skip ?_)
  refine VC.region ?_
  refine VR.pure rfl rfl (p_moveI rfl) ?_
  refine VR.pure rfl rfl (p_moveL rfl) ?_
  refine VR.pure rfl rfl (p_len Try.underlying87 rfl) ?_
  refine VR.pure rfl rfl (p_lt rfl rfl) ?_
  refine VR.nil ?_
  repeat (first | refine VC.seq ?_ | refine VC.block ?_ | refine VC.skip ?_)
  refine VC.condF rfl rfl ?_
  refine VC.exit ?_
  repeat (first | refine VC.seq ?_ | refine VC.block ?_ | refine VC.skip ?_)
  refine VC.region ?_
  refine VR.pure rfl rfl (p_assignI rfl) ?_
  refine VR.nil ?_
  repeat (first | refine VC.seq ?_ | refine VC.block ?_ | refine VC.skip ?_)
  refine VC.loop (σ := Unit) (fun _ => [(0, .slice none 0 0), (5, .slice (some ⟨gb, 0, none⟩) 0 0), (11, .int .i64 0)]) (fun _ w => Mem F w Ls) (fun _ => 0) () ⟨rfl, rfl, rfl, trivial⟩ hm ?_
  clear hm
  rintro _ A' w hm
  repeat (first | refine VC.seq ?_ | refine VC.block ?_ | refine VC.skip ?_)
  refine VC.region ?_
  refine VR.pure rfl rfl (p_moveI rfl) ?_
  refine VR.pure rfl rfl (p_moveL rfl) ?_
  refine VR.pure rfl rfl (p_len Try.underlying87 rfl) ?_
  refine VR.pure rfl rfl (p_lt rfl rfl) ?_
  refine VR.nil ?_
  repeat (first | refine VC.seq ?_ | refine VC.block ?_ | refine VC.skip ?_)
  refine VC.condF rfl rfl ?_
  refine VC.exit ?_
  repeat (first | refine VC.seq ?_ | refine VC.block ?_ | refine VC.skip ?_)
  refine VC.region ?_
  refine VR.pure rfl rfl (p_assignI rfl) ?_
  refine VR.nil ?_
  repeat (first | refine VC.seq ?_ | refine VC.block ?_ | refine VC.skip ?_)
  refine VC.loop (σ := Unit) (fun _ => [(0, .slice none 0 0), (5, .slice (some ⟨gb, 0, none⟩) 0 0), (14, .int .i64 0)]) (fun _ w => Mem F w Ls) (fun _ => 0) () ⟨rfl, rfl, rfl, trivial⟩ hm ?_
  clear hm
  rintro _ A' w hm
  repeat (first | refine VC.seq ?_ | refine VC.block ?_ | refine VC.skip ?_)
  refine VC.region ?_
  refine VR.pure rfl rfl (p_moveI rfl) ?_
  refine VR.pure rfl rfl (p_moveL rfl) ?_
  refine VR.pure rfl rfl (p_len Try.underlying87 rfl) ?_
  refine VR.pure rfl rfl (p_lt rfl rfl) ?_
  refine VR.nil ?_
  repeat (first | refine VC.seq ?_ | refine VC.block ?_ | refine VC.skip ?_)
  refine VC.condF rfl rfl ?_
  refine VC.exit ?_
  repeat (first | refine VC.seq ?_ | refine VC.block ?_ | refine VC.skip ?_)
  refine VC.region ?_
  refine VR.pure rfl rfl (p_assignB rfl) ?_
  refine VR.nil ?_
  repeat (first | refine VC.seq ?_ | refine VC.block ?_ | refine VC.skip ?_)
  refine VC.ret ⟨_, ResOf.r1 (v := .bool _) rfl rfl, ?_⟩
  exact ⟨rfl, hm⟩
theorem flatMails_0 {F : Env} {w : World} {Ls : List Blks} (hm : Mem F w Ls) : Calls Try.prog 73 #[.slice none 0 0] w (Ret fun v w' => v = .bool true ∧ Mem F w' Ls) := by
  refine Calls.of_vc Try.func73 rfl Try.ntmps73 rfl ?_
  repeat (first | refine VC.seq ?_ | refine VC.block ?_ | refine VC.skip ?_)
  refine VC.region ?_
  refine VR.pure rfl rfl (p_assignB rfl) ?_
  refine VR.nil ?_
  repeat (first | refine VC.seq ?_ | refine VC.block ?_ | refine VC.skip ?_)
  refine VC.region ?_
  refine VR.pure rfl rfl (p_assignI rfl) ?_
  refine VR.nil ?_
  repeat (first | refine VC.seq ?_ | refine VC.block ?_ | refine VC.skip ?_)
  refine VC.loop (σ := Unit) (fun _ => [(0, .slice none 0 0), (3, .int .i64 0)]) (fun _ w => Mem F w Ls) (fun _ => 0) () ⟨rfl, rfl, trivial⟩ hm ?_
  clear hm
  rintro _ A' w hm
  repeat (first | refine VC.seq ?_ | refine VC.block ?_ | refine VC.skip ?_)
  refine VC.region ?_
  refine VR.pure rfl rfl (p_moveI rfl) ?_
  refine VR.pure rfl rfl (p_moveL rfl) ?_
  refine VR.pure rfl rfl (p_len Try.underlying88 rfl) ?_
  refine VR.pure rfl rfl (p_lt rfl rfl) ?_
  refine VR.nil ?_
  repeat (first | refine VC.seq ?_ | refine VC.block ?_ | refine VC.skip ?_)
  refine VC.condF rfl rfl ?_
  refine VC.exit ?_
  repeat (first | refine VC.seq ?_ | refine VC.block ?_ | refine VC.skip ?_)
  refine VC.region ?_
  refine VR.pure rfl rfl (p_moveL rfl) ?_
  refine VR.pure rfl rfl (p_len Try.underlying88 rfl) ?_
  refine VR.new hm rfl rfl (n_makeSlice (s := 1) (bytes := 24) Try.underlying88 inf167 rfl rfl rfl rfl rfl (by omega) (by omega)) ?_
  intro gb w hm
  refine VR.pure rfl rfl (p_assignL rfl) ?_
  refine VR.nil ?_
  replace hm := hm.pop
  repeat (first | refine VC.seq ?_ | refine VC.block ?_ | refine VC.skip ?_)
  refine VC.region ?_
  refine VR.pure rfl rfl (p_assignI rfl) ?_
  refine VR.nil ?_
  repeat (first | refine VC.seq ?_ | refine VC.block ?_ | refine VC.skip ?_)
  refine VC.loop (σ := Unit) (fun _ => [(0, .slice none 0 0), (5, .slice (some ⟨gb, 0, none⟩) 0 0), (6, .int .i64 0)]) (fun _ w => Mem F w Ls) (fun _ => 0) () ⟨rfl, rfl, rfl, trivial⟩ hm ?_
  clear hm
  rintro _ A' w hm
  repeat (first | refine VC.seq ?_ | refine VC.block ?_ | refine VC.skip ?_)
  refine VC.region ?_
  refine VR.pure rfl rfl (p_moveI rfl) ?_
  refine VR.pure rfl rfl (p_moveL rfl) ?_
  refine VR.pure rfl rfl (p_len Try.underlying88 rfl) ?_
  refine VR.pure rfl rfl (p_lt rfl rfl) ?_
  refine VR.nil ?_
  repeat (first | refine VC.seq ?_ | refine VC.block ?_ | refine VC.skip ?_)
  refine VC.condF rfl rfl ?_
  refine VC.exit ?_
  repeat (first | refine VC.seq ?_ | refine VC.block ?_ | refine VC.skip ?_)
  refine VC.region ?_
  refine VR.pure rfl rfl (p_assignI rfl) ?_
  refine VR.nil ?_
  repeat (first | refine VC.seq ?_ | refine VC.block ?_ | refine VC.skip ?_)
  refine VC.loop (σ := Unit) (fun _ => [(0, .slice none 0 0), (5, .slice (some ⟨gb, 0, none⟩) 0 0), (9, .int .i64 0)]) (fun _ w => Mem F w Ls) (fun _ => 0) () ⟨rfl, rfl, rfl, trivial⟩ hm ?_
  clear hm
  rintro _ A' w hm
  repeat (first | refine VC.seq ?_ | refine VC.block ?_ | refine VC.skip ?_)
  refine VC.region ?_
  refine VR.pure rfl rfl (p_moveI rfl) ?_
  refine VR.pure rfl rfl (p_moveL rfl) ?_
  refine VR.pure rfl rfl (p_len Try.underlying88 rfl) ?_
  refine VR.pure rfl rfl (p_lt rfl rfl) ?_
  refine VR.nil ?_
  repeat (first | refine VC.seq ?_ | refine VC.block ?_ | refine VC.skip ?_)
  refine VC.condF rfl rfl ?_
  refine VC.exit ?_
  repeat (first | refine VC.seq ?_ | refine VC.block ?_ | refine VC.skip ?_)
  refine VC.region ?_
  refine VR.pure rfl rfl (p_assignI rfl) ?_
  refine VR.nil ?_
  repeat (first | refine VC.seq ?_ | refine VC.block ?_ | refine VC.skip ?_)
  refine VC.loop (σ := Unit) (fun _ => [(0, .slice none 0 0), (5, .slice (some ⟨gb, 0, none⟩) 0 0), (11, .int .i64 0)]) (fun _ w => Mem F w Ls) (fun _ => 0) () ⟨rfl, rfl, rfl, trivial⟩ hm ?_
  clear hm
  rintro _ A' w hm
  repeat (first | refine VC.seq ?_ | refine VC.block ?_ | refine VC.skip ?_)
  refine VC.region ?_
  refine VR.pure rfl rfl (p_moveI rfl) ?_
  refine VR.pure rfl rfl (p_moveL rfl) ?_
  refine VR.pure rfl rfl (p_len Try.underlying88 rfl) ?_
  refine VR.pure rfl rfl (p_lt rfl rfl) ?_
  refine VR.nil ?_
  repeat (first | refine VC.seq ?_ | refine VC.block ?_ | refine VC.skip ?_)
  refine VC.condF rfl rfl ?_
  refine VC.exit ?_
  repeat (first | refine VC.seq ?_ | refine VC.block ?_ | refine VC.skip ?_)
  refine VC.region ?_
  refine VR.pure rfl rfl (p_assignI rfl) ?_
  refine VR.nil ?_
  repeat (first | refine VC.seq ?_ | refine VC.block ?_ | refine VC.skip ?_)
  refine VC.loop (σ := Unit) (fun _ => [(0, .slice none 0 0), (5, .slice (some ⟨gb, 0, none⟩) 0 0), (14, .int .i64 0)]) (fun _ w => Mem F w Ls) (fun _ => 0) () ⟨rfl, rfl, rfl, trivial⟩ hm ?_
  clear hm
  rintro _ A' w hm
  repeat (first | refine VC.seq ?_ | refine VC.block ?_ | refine VC.skip ?_)
  refine VC.region ?_
  refine VR.pure rfl rfl (p_moveI rfl) ?_
  refine VR.pure rfl rfl (p_moveL rfl) ?_
  refine VR.pure rfl rfl (p_len Try.underlying88 rfl) ?_
  refine VR.pure rfl rfl (p_lt rfl rfl) ?_
  refine VR.nil ?_
  repeat (first | refine VC.seq ?_ | refine VC.block ?_ | refine VC.skip ?_)
  refine VC.condF rfl rfl ?_
  refine VC.exit ?_
  repeat (first | refine VC.seq ?_ | refine VC.block ?_ | refine VC.skip ?_)
  refine VC.region ?_
  refine VR.pure rfl rfl (p_assignB rfl) ?_
  refine VR.nil ?_
  repeat (first | refine VC.seq ?_ | refine VC.block ?_ | refine VC.skip ?_)
  refine VC.ret ⟨_, ResOf.r1 (v := .bool _) rfl rfl, ?_⟩
  exact ⟨rfl, hm⟩
theorem flatSteps_0 {F : Env} {w : World} {Ls : List Blks} (hm : Mem F w Ls) : Calls Try.prog 74 #[.slice none 0 0] w (Ret fun v w' => v = .bool true ∧ Mem F w' Ls) := by
  refine Calls.of_vc Try.func74 rfl Try.ntmps74 rfl ?_
  repeat (first | refine VC.seq ?_ | refine VC.block ?_ | refine VC.skip ?_)
  refine VC.region ?_
  refine VR.pure rfl rfl (p_assignB rfl) ?_
  refine VR.nil ?_
  repeat (first | refine VC.seq ?_ | refine VC.block ?_ | refine VC.skip ?_)
  refine VC.region ?_
  refine VR.pure rfl rfl (p_assignI rfl) ?_
  refine VR.nil ?_
  repeat (first | refine VC.seq ?_ | refine VC.block ?_ | refine VC.skip ?_)
  refine VC.loop (σ := Unit) (fun _ => [(0, .slice none 0 0), (3, .int .i64 0)]) (fun _ w => Mem F w Ls) (fun _ => 0) () ⟨rfl, rfl, trivial⟩ hm ?_
  clear hm
  rintro _ A' w hm
  repeat (first | refine VC.seq ?_ | refine VC.block ?_ | refine VC.skip ?_)
  refine VC.region ?_
  refine VR.pure rfl rfl (p_moveI rfl) ?_
  refine VR.pure rfl rfl (p_moveL rfl) ?_
  refine VR.pure rfl rfl (p_len Try.underlying89 rfl) ?_
  refine VR.pure rfl rfl (p_lt rfl rfl) ?_
  refine VR.nil ?_
  repeat (first | refine VC.seq ?_ | refine VC.block ?_ | refine VC.skip ?_)
  refine VC.condF rfl rfl ?_
  refine VC.exit ?_
  repeat (first | refine VC.seq ?_ | refine VC.block ?_ | refine VC.skip ?_)
  refine VC.region ?_
  refine VR.pure rfl rfl (p_moveL rfl) ?_
  refine VR.pure rfl rfl (p_len Try.underlying89 rfl) ?_
  refine VR.new hm rfl rfl (n_makeSlice (s := 1) (bytes := 24) Try.underlying89 inf172 rfl rfl rfl rfl rfl (by omega) (by omega)) ?_
  intro gb w hm
  refine VR.pure rfl rfl (p_assignL rfl) ?_
  refine VR.nil ?_
  replace hm := hm.pop
  repeat (first | refine VC.seq ?_ | refine VC.block ?_ | refine VC.skip ?_)
  refine VC.region ?_
  refine VR.pure rfl rfl (p_assignI rfl) ?_
  refine VR.nil ?_
  repeat (first | refine VC.seq ?_ | refine VC.block ?_ | refine VC.skip ?_)
  refine VC.loop (σ := Unit) (fun _ => [(0, .slice none 0 0), (5, .slice (some ⟨gb, 0, none⟩) 0 0), (6, .int .i64 0)]) (fun _ w => Mem F w Ls) (fun _ => 0) () ⟨rfl, rfl, rfl, trivial⟩ hm ?_
  clear hm
  rintro _ A' w hm
  repeat (first | refine VC.seq ?_ | refine VC.block ?_ | refine VC.skip ?_)
  refine VC.region ?_
  refine VR.pure rfl rfl (p_moveI rfl) ?_
  refine VR.pure rfl rfl (p_moveL rfl) ?_
  refine VR.pure rfl rfl (p_len Try.underlying89 rfl) ?_
  refine VR.pure rfl rfl (p_lt rfl rfl) ?_
  refine VR.nil ?_
  repeat (first | refine VC.seq ?_ | refine VC.block ?_ | refine VC.skip ?_)
  refine VC.condF rfl rfl ?_
  refine VC.exit ?_
  repeat (first | refine VC.seq ?_ | refine VC.block ?_ | refine VC.skip ?_)
  refine VC.region ?_
  refine VR.pure rfl rfl (p_assignI rfl) ?_
  refine VR.nil ?_
  repeat (first | refine VC.seq ?_ | refine VC.block ?_ | refine VC.skip ?_)
  refine VC.loop (σ := Unit) (fun _ => [(0, .slice none 0 0), (5, .slice (some ⟨gb, 0, none⟩) 0 0), (9, .int .i64 0)]) (fun _ w => Mem F w Ls) (fun _ => 0) () ⟨rfl, rfl, rfl, trivial⟩ hm ?_
  clear hm
  rintro _ A' w hm
  repeat (first | refine VC.seq ?_ | refine VC.block ?_ | refine VC.skip ?_)
  refine VC.region ?_
  refine VR.pure rfl rfl (p_moveI rfl) ?_
  refine VR.pure rfl rfl (p_moveL rfl) ?_
  refine VR.pure rfl rfl (p_len Try.underlying89 rfl) ?_
  refine VR.pure rfl rfl (p_lt rfl rfl) ?_
  refine VR.nil ?_
  repeat (first | refine VC.seq ?_ | refine VC.block ?_ | refine VC.skip ?_)
  refine VC.condF rfl rfl ?_
  refine VC.exit ?_
  repeat (first | refine VC.seq ?_ | refine VC.block ?_ | refine VC.skip ?_)
  refine VC.region ?_
  refine VR.pure rfl rfl (p_assignI rfl) ?_
  refine VR.nil ?_
  repeat (first | refine VC.seq ?_ | refine VC.block ?_ | refine VC.skip ?_)
  refine VC.loop (σ := Unit) (fun _ => [(0, .slice none 0 0), (5, .slice (some ⟨gb, 0, none⟩) 0 0), (11, .int .i64 0)]) (fun _ w => Mem F w Ls) (fun _ => 0) () ⟨rfl, rfl, rfl, trivial⟩ hm ?_
  clear hm
  rintro _ A' w hm
  repeat (first | refine VC.seq ?_ | refine VC.block ?_ | refine VC.skip ?_)
  refine VC.region ?_
  refine VR.pure rfl rfl (p_moveI rfl) ?_
  refine VR.pure rfl rfl (p_moveL rfl) ?_
  refine VR.pure rfl rfl (p_len Try.underlying89 rfl) ?_
  refine VR.pure rfl rfl (p_lt rfl rfl) ?_
  refine VR.nil ?_
  repeat (first | refine VC.seq ?_ | refine VC.block ?_ | refine VC.skip ?_)
  refine VC.condF rfl rfl ?_
  refine VC.exit ?_
  repeat (first | refine VC.seq ?_ | refine VC.block ?_ | refine VC.skip ?_)
  refine VC.region ?_
  refine VR.pure rfl rfl (p_assignI rfl) ?_
  refine VR.nil ?_
  repeat (first | refine VC.seq ?_ | refine VC.block ?_ | refine VC.skip ?_)
  refine VC.loop (σ := Unit) (fun _ => [(0, .slice none 0 0), (5, .slice (some ⟨gb, 0, none⟩) 0 0), (14, .int .i64 0)]) (fun _ w => Mem F w Ls) (fun _ => 0) () ⟨rfl, rfl, rfl, trivial⟩ hm ?_
  clear hm
  rintro _ A' w hm
  repeat (first | refine VC.seq ?_ | refine VC.block ?_ | refine VC.skip ?_)
  refine VC.region ?_
  refine VR.pure rfl rfl (p_moveI rfl) ?_
  refine VR.pure rfl rfl (p_moveL rfl) ?_
  refine VR.pure rfl rfl (p_len Try.underlying89 rfl) ?_
  refine VR.pure rfl rfl (p_lt rfl rfl) ?_
  refine VR.nil ?_
  repeat (first | refine VC.seq ?_ | refine VC.block ?_ | refine VC.skip ?_)
  refine VC.condF rfl rfl ?_
  refine VC.exit ?_
  repeat (first | refine VC.seq ?_ | refine VC.block ?_ | refine VC.skip ?_)
  refine VC.region ?_
  refine VR.pure rfl rfl (p_assignB rfl) ?_
  refine VR.nil ?_
  repeat (first | refine VC.seq ?_ | refine VC.block ?_ | refine VC.skip ?_)
  refine VC.ret ⟨_, ResOf.r1 (v := .bool _) rfl rfl, ?_⟩
  exact ⟨rfl, hm⟩
theorem flatTales_0 {F : Env} {w : World} {Ls : List Blks} (hm : Mem F w Ls) : Calls Try.prog 75 #[.slice none 0 0] w (Ret fun v w' => v = .bool true ∧ Mem F w' Ls) := by
  refine Calls.of_vc Try.func75 rfl Try.ntmps75 rfl ?_
  repeat (first | refine VC.seq ?_ | refine VC.block ?_ | refine VC.skip ?_)
  refine VC.region ?_
  refine VR.pure rfl rfl (p_assignB rfl) ?_
  refine VR.nil ?_
  repeat (first | refine VC.seq ?_ | refine VC.block ?_ | refine VC.skip ?_)
  refine VC.region ?_
  refine VR.pure rfl rfl (p_assignI rfl) ?_
  refine VR.nil ?_
  repeat (first | refine VC.seq ?_ | refine VC.block ?_ | refine VC.skip ?_)
  refine VC.loop (σ := Unit) (fun _ => [(0, .slice none 0 0), (3, .int .i64 0)]) (fun _ w => Mem F w Ls) (fun _ => 0) () ⟨rfl, rfl, trivial⟩ hm ?_
  clear hm
  rintro _ A' w hm
  repeat (first | refine VC.seq ?_ | refine VC.block ?_ | refine VC.skip ?_)
  refine VC.region ?_
  refine VR.pure rfl rfl (p_moveI rfl) ?_
  refine VR.pure rfl rfl (p_moveL rfl) ?_
  refine VR.pure rfl rfl (p_len Try.underlying90 rfl) ?_
  refine VR.pure rfl rfl (p_lt rfl rfl) ?_
  refine VR.nil ?_
  repeat (first | refine VC.seq ?_ | refine VC.block ?_ | refine VC.skip ?_)
  refine VC.condF rfl rfl ?_
  refine VC.exit ?_
  repeat (first | refine VC.seq ?_ | refine VC.block ?_ | refine VC.skip ?_)
  refine VC.region ?_
  refine VR.pure rfl rfl (p_moveL rfl) ?_
  refine VR.pure rfl rfl (p_len Try.underlying90 rfl) ?_
  refine VR.new hm rfl rfl (n_makeSlice (s := 1) (bytes := 24) Try.underlying90 inf178 rfl rfl rfl rfl rfl (by omega) (by omega)) ?_
  intro gb w hm
  refine VR.pure rfl rfl (p_assignL rfl) ?_
  refine VR.nil ?_
  replace hm := hm.pop
  repeat (first | refine VC.seq ?_ | refine VC.block ?_ | refine VC.skip ?_)
  refine VC.region ?_
  refine VR.pure rfl rfl (p_assignI rfl) ?_
  refine VR.nil ?_
  repeat (first | refine VC.seq ?_ | refine VC.block ?_ | refine VC.skip ?_)
  refine VC.loop (σ := Unit) (fun _ => [(0, .slice none 0 0), (5, .slice (some ⟨gb, 0, none⟩) 0 0), (6, .int .i64 0)]) (fun _ w => Mem F w Ls) (fun _ => 0) () ⟨rfl, rfl, rfl, trivial⟩ hm ?_
  clear hm
  rintro _ A' w hm
  repeat (first | refine VC.seq ?_ | refine VC.block ?_ | refine VC.skip ?_)
  refine VC.region ?_
  refine VR.pure rfl rfl (p_moveI rfl) ?_
  refine VR.pure rfl rfl (p_moveL rfl) ?_
  refine VR.pure rfl rfl (p_len Try.underlying90 rfl) ?_
  refine VR.pure rfl rfl (p_lt rfl rfl) ?_
  refine VR.nil ?_
  repeat (first | refine VC.seq ?_ | refine VC.block ?_ | refine VC.skip ?_)
  refine VC.condF rfl rfl ?_
  refine VC.exit ?_
  repeat (first | refine VC.seq ?_ | refine VC.block ?_ | refine VC.skip ?_)
  refine VC.region ?_
  refine VR.pure rfl rfl (p_assignI rfl) ?_
  refine VR.nil ?_
  repeat (first | refine VC.seq ?_ | refine VC.block ?_ | refine VC.skip ?_)
  refine VC.loop (σ := Unit) (fun _ => [(0, .slice none 0 0), (5, .slice (some ⟨gb, 0, none⟩) 0 0), (9, .int .i64 0)]) (fun _ w => Mem F w Ls) (fun _ => 0) () ⟨rfl, rfl, rfl, trivial⟩ hm ?_
  clear hm
  rintro _ A' w hm
  repeat (first | refine VC.seq ?_ | refine VC.block ?_ | refine VC.skip ?_)
  refine VC.region ?_
  refine VR.pure rfl rfl (p_moveI rfl) ?_
  refine VR.pure rfl rfl (p_moveL rfl) ?_
  refine VR.pure rfl rfl (p_len Try.underlying90 rfl) ?_
  refine VR.pure rfl rfl (p_lt rfl rfl) ?_
  refine VR.nil ?_
  repeat (first | refine VC.seq ?_ | refine VC.block ?_ | refine VC.skip ?_)
  refine VC.condF rfl rfl ?_
  refine VC.exit ?_
  repeat (first | refine VC.seq ?_ | refine VC.block ?_ | refine VC.skip ?_)
  refine VC.region ?_
  refine VR.pure rfl rfl (p_assignI rfl) ?_
  refine VR.nil ?_
  repeat (first | refine VC.seq ?_ | refine VC.block ?_ | refine VC.skip ?_)
  refine VC.loop (σ := Unit) (fun _ => [(0, .slice none 0 0), (5, .slice (some ⟨gb, 0, none⟩) 0 0), (11, .int .i64 0)]) (fun _ w => Mem F w Ls) (fun _ => 0) () ⟨rfl, rfl, rfl, trivial⟩ hm ?_
  clear hm
  rintro _ A' w hm
  repeat (first | refine VC.seq ?_ | refine VC.block ?_ | refine VC.skip ?_)
  refine VC.region ?_
  refine VR.pure rfl rfl (p_moveI rfl) ?_
  refine VR.pure rfl rfl (p_moveL rfl) ?_
  refine VR.pure rfl rfl (p_len Try.underlying90 rfl) ?_
  refine VR.pure rfl rfl (p_lt rfl rfl) ?_
  refine VR.nil ?_
  repeat (first | refine VC.seq ?_ | refine VC.block ?_ | refine VC.skip ?_)
  refine VC.condF rfl rfl ?_
  refine VC.exit ?_
  repeat (first | refine VC.seq ?_ | refine VC.block ?_ | refine VC.skip ?_)
  refine VC.region ?_
  refine VR.pure rfl rfl (p_assignI rfl) ?_
  refine VR.nil ?_
  repeat (first | refine VC.seq ?_ | refine VC.block ?_ | refine VC.skip ?_)
  refine VC.loop (σ := Unit) (fun _ => [(0, .slice none 0 0), (5, .slice (some ⟨gb, 0, none⟩) 0 0), (14, .int .i64 0)]) (fun _ w => Mem F w Ls) (fun _ => 0) () ⟨rfl, rfl, rfl, trivial⟩ hm ?_
  clear hm
  rintro _ A' w hm
  repeat (first | refine VC.seq ?_ | refine VC.block ?_ | refine VC.skip ?_)
  refine VC.region ?_
  refine VR.pure rfl rfl (p_moveI rfl) ?_
  refine VR.pure rfl rfl (p_moveL rfl) ?_
  refine VR.pure rfl rfl (p_len Try.underlying90 rfl) ?_
  refine VR.pure rfl rfl (p_lt rfl rfl) ?_
  refine VR.nil ?_
  repeat (first | refine VC.seq ?_ | refine VC.block ?_ | refine VC.skip ?_)
  refine VC.condF rfl rfl ?_
  refine VC.exit ?_
  repeat (first | refine VC.seq ?_ | refine VC.block ?_ | refine VC.skip ?_)
  refine VC.region ?_
  refine VR.pure rfl rfl (p_assignB rfl) ?_
  refine VR.nil ?_
  repeat (first | refine VC.seq ?_ | refine VC.block ?_ | refine VC.skip ?_)
  refine VC.ret ⟨_, ResOf.r1 (v := .bool _) rfl rfl, ?_⟩
  exact ⟨rfl, hm⟩
theorem flatCharters_0 {F : Env} {w : World} {Ls : List Blks} (hm : Mem F w Ls) : Calls Try.prog 76 #[.slice none 0 0] w (Ret fun v w' => v = .bool true ∧ Mem F w' Ls) := by
  refine Calls.of_vc Try.func76 rfl Try.ntmps76 rfl ?_
  repeat (first | refine VC.seq ?_ | refine VC.block ?_ | refine VC.skip ?_)
  refine VC.region ?_
  refine VR.pure rfl rfl (p_assignB rfl) ?_
  refine VR.nil ?_
  repeat (first | refine VC.seq ?_ | refine VC.block ?_ | refine VC.skip ?_)
  refine VC.region ?_
  refine VR.pure rfl rfl (p_assignI rfl) ?_
  refine VR.nil ?_
  repeat (first | refine VC.seq ?_ | refine VC.block ?_ | refine VC.skip ?_)
  refine VC.loop (σ := Unit) (fun _ => [(0, .slice none 0 0), (3, .int .i64 0)]) (fun _ w => Mem F w Ls) (fun _ => 0) () ⟨rfl, rfl, trivial⟩ hm ?_
  clear hm
  rintro _ A' w hm
  repeat (first | refine VC.seq ?_ | refine VC.block ?_ | refine VC.skip ?_)
  refine VC.region ?_
  refine VR.pure rfl rfl (p_moveI rfl) ?_
  refine VR.pure rfl rfl (p_moveL rfl) ?_
  refine VR.pure rfl rfl (p_len Try.underlying91 rfl) ?_
  refine VR.pure rfl rfl (p_lt rfl rfl) ?_
  refine VR.nil ?_
  repeat (first | refine VC.seq ?_ | refine VC.block ?_ | refine VC.skip ?_)
  refine VC.condF rfl rfl ?_
  refine VC.exit ?_
  repeat (first | refine VC.seq ?_ | refine VC.block ?_ | refine VC.skip ?_)
  refine VC.region ?_
  refine VR.pure rfl rfl (p_moveL rfl) ?_
  refine VR.pure rfl rfl (p_len Try.underlying91 rfl) ?_
  refine VR.new hm rfl rfl (n_makeSlice (s := 1) (bytes := 24) Try.underlying91 inf184 rfl rfl rfl rfl rfl (by omega) (by omega)) ?_
  intro gb w hm
  refine VR.pure rfl rfl (p_assignL rfl) ?_
  refine VR.nil ?_
  replace hm := hm.pop
  repeat (first | refine VC.seq ?_ | refine VC.block ?_ | refine VC.skip ?_)
  refine VC.region ?_
  refine VR.pure rfl rfl (p_assignI rfl) ?_
  refine VR.nil ?_
  repeat (first | refine VC.seq ?_ | refine VC.block ?_ | refine VC.skip ?_)
  refine VC.loop (σ := Unit) (fun _ => [(0, .slice none 0 0), (5, .slice (some ⟨gb, 0, none⟩) 0 0), (6, .int .i64 0)]) (fun _ w => Mem F w Ls) (fun _ => 0) () ⟨rfl, rfl, rfl, trivial⟩ hm ?_
  clear hm
  rintro _ A' w hm
  repeat (first | refine VC.seq ?_ | refine VC.block ?_ | refine VC.skip ?_)
  refine VC.region ?_
  refine VR.pure rfl rfl (p_moveI rfl) ?_
  refine VR.pure rfl rfl (p_moveL rfl) ?_
  refine VR.pure rfl rfl (p_len Try.underlying91 rfl) ?_
  refine VR.pure rfl rfl (p_lt rfl rfl) ?_
  refine VR.nil ?_
  repeat (first | refine VC.seq ?_ | refine VC.block ?_ | refine VC.skip ?_)
  refine VC.condF rfl rfl ?_
  refine VC.exit ?_
  repeat (first | refine VC.seq ?_ | refine VC.block ?_ | refine VC.skip ?_)
  refine VC.region ?_
  refine VR.pure rfl rfl (p_assignI rfl) ?_
  refine VR.nil ?_
  repeat (first | refine VC.seq ?_ | refine VC.block ?_ | refine VC.skip ?_)
  refine VC.loop (σ := Unit) (fun _ => [(0, .slice none 0 0), (5, .slice (some ⟨gb, 0, none⟩) 0 0), (9, .int .i64 0)]) (fun _ w => Mem F w Ls) (fun _ => 0) () ⟨rfl, rfl, rfl, trivial⟩ hm ?_
  clear hm
  rintro _ A' w hm
  repeat (first | refine VC.seq ?_ | refine VC.block ?_ | refine VC.skip ?_)
  refine VC.region ?_
  refine VR.pure rfl rfl (p_moveI rfl) ?_
  refine VR.pure rfl rfl (p_moveL rfl) ?_
  refine VR.pure rfl rfl (p_len Try.underlying91 rfl) ?_
  refine VR.pure rfl rfl (p_lt rfl rfl) ?_
  refine VR.nil ?_
  repeat (first | refine VC.seq ?_ | refine VC.block ?_ | refine VC.skip ?_)
  refine VC.condF rfl rfl ?_
  refine VC.exit ?_
  repeat (first | refine VC.seq ?_ | refine VC.block ?_ | refine VC.skip ?_)
  refine VC.region ?_
  refine VR.pure rfl rfl (p_assignI rfl) ?_
  refine VR.nil ?_
  repeat (first | refine VC.seq ?_ | refine VC.block ?_ | refine VC.skip ?_)
  refine VC.loop (σ := Unit) (fun _ => [(0, .slice none 0 0), (5, .slice (some ⟨gb, 0, none⟩) 0 0), (11, .int .i64 0)]) (fun _ w => Mem F w Ls) (fun _ => 0) () ⟨rfl, rfl, rfl, trivial⟩ hm ?_
  clear hm
  rintro _ A' w hm
  repeat (first | refine VC.seq ?_ | refine VC.block ?_ | refine VC.skip ?_)
  refine VC.region ?_
  refine VR.pure rfl rfl (p_moveI rfl) ?_
  refine VR.pure rfl rfl (p_moveL rfl) ?_
  refine VR.pure rfl rfl (p_len Try.underlying91 rfl) ?_
  refine VR.pure rfl rfl (p_lt rfl rfl) ?_
  refine VR.nil ?_
  repeat (first | refine VC.seq ?_ | refine VC.block ?_ | refine VC.skip ?_)
  refine VC.condF rfl rfl ?_
  refine VC.exit ?_
  repeat (first | refine VC.seq ?_ | refine VC.block ?_ | refine VC.skip ?_)
  refine VC.region ?_
  refine VR.pure rfl rfl (p_assignI rfl) ?_
  refine VR.nil ?_
  repeat (first | refine VC.seq ?_ | refine VC.block ?_ | refine VC.skip ?_)
  refine VC.loop (σ := Unit) (fun _ => [(0, .slice none 0 0), (5, .slice (some ⟨gb, 0, none⟩) 0 0), (14, .int .i64 0)]) (fun _ w => Mem F w Ls) (fun _ => 0) () ⟨rfl, rfl, rfl, trivial⟩ hm ?_
  clear hm
  rintro _ A' w hm
  repeat (first | refine VC.seq ?_ | refine VC.block ?_ | refine VC.skip ?_)
  refine VC.region ?_
  refine VR.pure rfl rfl (p_moveI rfl) ?_
  refine VR.pure rfl rfl (p_moveL rfl) ?_
  refine VR.pure rfl rfl (p_len Try.underlying91 rfl) ?_
  refine VR.pure rfl rfl (p_lt rfl rfl) ?_
  refine VR.nil ?_
  repeat (first | refine VC.seq ?_ | refine VC.block ?_ | refine VC.skip ?_)
  refine VC.condF rfl rfl ?_
  refine VC.exit ?_
  repeat (first | refine VC.seq ?_ | refine VC.block ?_ | refine VC.skip ?_)
  refine VC.region ?_
  refine VR.pure rfl rfl (p_assignB rfl) ?_
  refine VR.nil ?_
  repeat (first | refine VC.seq ?_ | refine VC.block ?_ | refine VC.skip ?_)
  refine VC.ret ⟨_, ResOf.r1 (v := .bool _) rfl rfl, ?_⟩
  exact ⟨rfl, hm⟩

/-- A bag that has lists of members and of configs. -/
abbrev bagE (A : Option Addr) (n c : Nat) (B : Option Addr) (m d : Nat) : Array Value := #[.slice none 0 0, .slice none 0 0, .slice none 0 0, .slice none 0 0, .slice none 0 0, .slice none 0 0, .slice A n c, .slice B m d, .slice none 0 0, .slice none 0 0, .slice none 0 0, .slice none 0 0, .slice none 0 0, .slice none 0 0, .slice none 0 0, .slice none 0 0, .slice none 0 0, .slice none 0 0, .slice none 0 0, .slice none 0 0] 
def En.sl (e : En) : Sl := ⟨e.A, e.n, e.c⟩
theorem slcells_snoc (l : List Sl) (x : Sl) : slcells (l ++ [x]) = slcells l ++ [.slice x.A x.n x.c] := by
  show (l ++ [_]).flatMap Sl.cells = l.flatMap Sl.cells ++ _
  rw [List.flatMap_append]
  rfl
theorem put_members_c {F : Env} {w : World} {Ls : List Blks} {g : Nat} {A B D : Option Addr} {n c m d q r : Nat} {L : Blks} {its : List Sl} (hm : Mem F w (L :: [(g, .cells (bagE A n c B m d) 93 (0, 0))] :: Ls)) (ho : OwnS 23 1 A n c (slcells its) L) (hn : n ≤ 1000000) :
    Calls Try.prog 79 #[.pointer (some ⟨g, 0, none⟩), .slice D q r] w
      (Ret fun v w' => ∃ A' c' L', OwnS 23 1 A' (n + 1) c' (slcells (its ++ [⟨D, q, r⟩])) L' ∧ Mem F w' (L' :: [(g, .cells (bagE A' (n + 1) c' B m d) 93 (0, 0))] :: Ls)) := by
  refine Calls.of_vc Try.func79 rfl Try.ntmps79 rfl ?_
  repeat (first | refine VC.seq ?_ | refine VC.block ?_ | refine VC.skip ?_)
  refine VC.region ?_
  refine VR.pure rfl rfl (p_moveP rfl) ?_
  refine VR.pure rfl rfl (p_moveP rfl) ?_
  refine VR.pure rfl rfl (p_nilCheck rfl) ?_
  refine VR.pure rfl rfl (p_field (fo := 6) Try.underlying93 rfl Try.sizeOf79 rfl rfl rfl) ?_
  refine VR.val rfl rfl (r_load (v := .slice _ _ _) Try.isAgg79 rfl (hm.at_ 1 0 rfl) rfl) ?_
  refine VR.pure rfl rfl (p_moveL rfl) ?_
  refine VR.new hm rfl rfl (n_buildSlice1 (vs := [.slice _ _ _]) Try.underlying79 inf23 rfl rfl rfl rfl rfl rfl rfl) ?_
  intro b6 w hm
  replace hm := hm.swap
  refine VR.append (s := 1) (bytes := 24) Try.underlying79 inf23 rfl rfl rfl rfl rfl rfl rfl rfl rfl hm ho (Row.lit (cs := [.slice D q r]) (hm.at_ 1 0 rfl)) (by simp [Value.oneCell']) rfl ⟨by unfold maxLen; omega, by omega⟩ ?_
  intro A' c' w L' ho' hm
  refine VR.pure rfl rfl (p_nilCheck rfl) ?_
  refine VR.pure rfl rfl (p_field (fo := 6) Try.underlying93 rfl Try.sizeOf79 rfl rfl rfl) ?_
  refine VR.store (cs' := (bagE A' (n + 1) c' B m d)) (v := .slice _ _ _) Try.sizeOf79 rfl rfl rfl rfl rfl hm 2 0 rfl (Nat.ble_eq.mp rfl) rfl ?_
  intro w hm
  refine VR.nil ?_
  exact ⟨_, ResOf.r0 rfl, A', c', L', by rw [slcells_snoc]; exact ho', hm.pop2⟩
theorem one_ensemble_c {F : Env} {w : World} {Ls : List Blks} {g : Nat} {A B : Option Addr} {n c m d : Nat} {L : Blks} {its : List Sl} {e : En} (hm : Mem F w (L :: [(g, .cells (bagE A n c B m d) 93 (0, 0))] :: Ls)) (ho : OwnS 23 1 A n c (slcells its) L) (hn : n ≤ 1000000) :
    Calls Try.prog 56 #[.pointer (some ⟨g, 0, none⟩), .agg #[.int .i64 e.ver, .slice e.A e.n e.c]] w
      (Ret fun v w' => ∃ A' c' L', OwnS 23 1 A' (n + 1) c' (slcells (its ++ [e.sl])) L' ∧ Mem F w' (L' :: [(g, .cells (bagE A' (n + 1) c' B m d) 93 (0, 0))] :: Ls)) := by
  refine Calls.of_vc Try.func56 rfl Try.ntmps56 rfl ?_
  repeat (first | refine VC.seq ?_ | refine VC.block ?_ | refine VC.skip ?_)
  refine VC.region ?_
  refine VR.new hm rfl rfl (n_boxG rfl) ?_
  intro b3 w hm
  refine VR.nil ?_
  replace hm := (hm.pull 2 rfl).pull 2 rfl
  repeat (first | refine VC.seq ?_ | refine VC.block ?_ | refine VC.skip ?_)
  refine VC.region ?_
  refine VR.pure rfl rfl (p_moveP rfl) ?_
  refine VR.pure rfl rfl (p_field (fo := 1) Try.underlying25 rfl Try.sizeOf23 rfl rfl rfl) ?_
  refine VR.val rfl rfl (r_load (v := .slice _ _ _) Try.isAgg23 rfl (hm.at_ 2 0 rfl) rfl) ?_
  refine VR.call rfl rfl (r_call2 Try.call79 rfl rfl) (put_members_c hm ho hn) ?_
  rintro v w ⟨A', c', L', ho', hm⟩
  refine VR.nil ?_
  exact ⟨_, ResOf.r0 rfl, A', c', L', ho', (hm.pull 2 rfl).pop⟩
theorem bag_apart_c {F : Env} {w : World} {Ls Ms Bs : List Blks} {g : Nat} {A B : Option Addr} {n c m d : Nat} {mits its : List Sl} (hm : Mem F w (Bs ++ (Ms ++ Ls))) (hg : F.heap g = some (.cells (bagE A n c B m d) 93 (0, 0)))
    (hr6 : Row F.heap A n (slcells mits)) (hn6 : n ≤ 1000000000) (hall6 : All mits Bs (fun _ (it : Sl) L => it.n ≤ 1000000000000 ∧ ∃ xs, OwnS 65 4 it.A it.n it.c xs L))
    (hr7 : Row F.heap B m (slcells its)) (hn7 : m ≤ 1000000000) (hall7 : All its Ms (fun _ (it : Sl) L => it.n ≤ 1000000000000 ∧ ∃ xs, OwnS 25 2 it.A it.n it.c xs L)) :
    Calls Try.prog 45 #[.pointer (some ⟨g, 0, none⟩)] w (Ret fun v w' => v = .bool true ∧ Mem F w' Ls) := by
  refine Calls.of_vc Try.func45 rfl Try.ntmps45 rfl ?_
  repeat (first | refine VC.seq ?_ | refine VC.block ?_ | refine VC.skip ?_)
  refine VC.region ?_
  refine VR.pure rfl rfl (p_assignB rfl) ?_
  refine VR.nil ?_
  repeat (first | refine VC.seq ?_ | refine VC.block ?_ | refine VC.skip ?_)
  refine VC.region ?_
  refine VR.pure rfl rfl (p_moveP rfl) ?_
  refine VR.pure rfl rfl (p_nilCheck rfl) ?_
  refine VR.pure rfl rfl (p_field (fo := 0) Try.underlying93 rfl Try.sizeOf73 rfl rfl rfl) ?_
  refine VR.val rfl rfl (r_load (v := .slice _ _ _) Try.isAgg73 rfl (hm.fix _ _ hg) rfl) ?_
  refine VR.call rfl rfl (r_call1 Try.call57 rfl) (flatWords_0 hm) ?_
  rintro _ w ⟨rfl, hm⟩
  refine VR.pure rfl rfl (p_moveB rfl) ?_
  refine VR.knownT 8 rfl rfl ?_
  refine VR.pureG rfl rfl (p_moveP rfl) ?_
  refine VR.pureG rfl rfl (p_nilCheck rfl) ?_
  refine VR.pureG rfl rfl (p_field (fo := 1) Try.underlying93 rfl Try.sizeOf74 rfl rfl rfl) ?_
  refine VR.valG rfl rfl (r_load (v := .slice _ _ _) Try.isAgg74 rfl (hm.fix _ _ hg) rfl) ?_
  refine VR.callG rfl rfl (r_call1 Try.call58 rfl) (flatInts_0 hm) ?_
  rintro _ w ⟨rfl, hm⟩
  refine VR.pure rfl rfl (p_pickT rfl rfl) ?_
  refine VR.pure rfl rfl (p_moveB rfl) ?_
  refine VR.knownT 15 rfl rfl ?_
  refine VR.pureG rfl rfl (p_moveP rfl) ?_
  refine VR.pureG rfl rfl (p_nilCheck rfl) ?_
  refine VR.pureG rfl rfl (p_field (fo := 2) Try.underlying93 rfl Try.sizeOf75 rfl rfl rfl) ?_
  refine VR.valG rfl rfl (r_load (v := .slice _ _ _) Try.isAgg75 rfl (hm.fix _ _ hg) rfl) ?_
  refine VR.callG rfl rfl (r_call1 Try.call59 rfl) (flatLongs_0 hm) ?_
  rintro _ w ⟨rfl, hm⟩
  refine VR.pure rfl rfl (p_pickT rfl rfl) ?_
  refine VR.pure rfl rfl (p_moveB rfl) ?_
  refine VR.knownT 22 rfl rfl ?_
  refine VR.pureG rfl rfl (p_moveP rfl) ?_
  refine VR.pureG rfl rfl (p_nilCheck rfl) ?_
  refine VR.pureG rfl rfl (p_field (fo := 3) Try.underlying93 rfl Try.sizeOf76 rfl rfl rfl) ?_
  refine VR.valG rfl rfl (r_load (v := .slice _ _ _) Try.isAgg76 rfl (hm.fix _ _ hg) rfl) ?_
  refine VR.callG rfl rfl (r_call1 Try.call60 rfl) (flatTexts_0 hm) ?_
  rintro _ w ⟨rfl, hm⟩
  refine VR.pure rfl rfl (p_pickT rfl rfl) ?_
  refine VR.pure rfl rfl (p_moveB rfl) ?_
  refine VR.knownT 29 rfl rfl ?_
  refine VR.pureG rfl rfl (p_moveP rfl) ?_
  refine VR.pureG rfl rfl (p_nilCheck rfl) ?_
  refine VR.pureG rfl rfl (p_field (fo := 4) Try.underlying93 rfl Try.sizeOf77 rfl rfl rfl) ?_
  refine VR.valG rfl rfl (r_load (v := .slice _ _ _) Try.isAgg77 rfl (hm.fix _ _ hg) rfl) ?_
  refine VR.callG rfl rfl (r_call1 Try.call61 rfl) (flatBytes_0 hm) ?_
  rintro _ w ⟨rfl, hm⟩
  refine VR.pure rfl rfl (p_pickT rfl rfl) ?_
  refine VR.pure rfl rfl (p_moveB rfl) ?_
  refine VR.knownT 36 rfl rfl ?_
  refine VR.pureG rfl rfl (p_moveP rfl) ?_
  refine VR.pureG rfl rfl (p_nilCheck rfl) ?_
  refine VR.pureG rfl rfl (p_field (fo := 5) Try.underlying93 rfl Try.sizeOf78 rfl rfl rfl) ?_
  refine VR.valG rfl rfl (r_load (v := .slice _ _ _) Try.isAgg78 rfl (hm.fix _ _ hg) rfl) ?_
  refine VR.callG rfl rfl (r_call1 Try.call62 rfl) (flatZxids_0 hm) ?_
  rintro _ w ⟨rfl, hm⟩
  refine VR.pure rfl rfl (p_pickT rfl rfl) ?_
  refine VR.pure rfl rfl (p_moveB rfl) ?_
  refine VR.knownT 43 rfl rfl ?_
  refine VR.pureG rfl rfl (p_moveP rfl) ?_
  refine VR.pureG rfl rfl (p_nilCheck rfl) ?_
  refine VR.pureG rfl rfl (p_field (fo := 6) Try.underlying93 rfl Try.sizeOf79 rfl rfl rfl) ?_
  refine VR.valG rfl rfl (r_load (v := .slice _ _ _) Try.isAgg79 rfl (hm.fix _ _ hg) rfl) ?_
  refine VR.callG rfl rfl (r_call1 Try.call63 rfl) (flat_members_c hm hr6 hn6 hall6) ?_
  rintro _ w ⟨rfl, hm⟩
  refine VR.pure rfl rfl (p_pickT rfl rfl) ?_
  refine VR.pure rfl rfl (p_moveB rfl) ?_
  refine VR.knownT 50 rfl rfl ?_
  refine VR.pureG rfl rfl (p_moveP rfl) ?_
  refine VR.pureG rfl rfl (p_nilCheck rfl) ?_
  refine VR.pureG rfl rfl (p_field (fo := 7) Try.underlying93 rfl Try.sizeOf45 rfl rfl rfl) ?_
  refine VR.valG rfl rfl (r_load (v := .slice _ _ _) Try.isAgg45 rfl (hm.fix _ _ hg) rfl) ?_
  refine VR.callG rfl rfl (r_call1 Try.call64 rfl) (flat_ensembles_c hm hr7 hn7 hall7) ?_
  rintro _ w ⟨rfl, hm⟩
  refine VR.pure rfl rfl (p_pickT rfl rfl) ?_
  refine VR.pure rfl rfl (p_moveB rfl) ?_
  refine VR.knownT 57 rfl rfl ?_
  refine VR.pureG rfl rfl (p_moveP rfl) ?_
  refine VR.pureG rfl rfl (p_nilCheck rfl) ?_
  refine VR.pureG rfl rfl (p_field (fo := 8) Try.underlying93 rfl Try.sizeOf80 rfl rfl rfl) ?_
  refine VR.valG rfl rfl (r_load (v := .slice _ _ _) Try.isAgg80 rfl (hm.fix _ _ hg) rfl) ?_
  refine VR.callG rfl rfl (r_call1 Try.call65 rfl) (flatDeeds_0 hm) ?_
  rintro _ w ⟨rfl, hm⟩
  refine VR.pure rfl rfl (p_pickT rfl rfl) ?_
  refine VR.pure rfl rfl (p_moveB rfl) ?_
  refine VR.knownT 64 rfl rfl ?_
  refine VR.pureG rfl rfl (p_moveP rfl) ?_
  refine VR.pureG rfl rfl (p_nilCheck rfl) ?_
  refine VR.pureG rfl rfl (p_field (fo := 9) Try.underlying93 rfl Try.sizeOf81 rfl rfl rfl) ?_
  refine VR.valG rfl rfl (r_load (v := .slice _ _ _) Try.isAgg81 rfl (hm.fix _ _ hg) rfl) ?_
  refine VR.callG rfl rfl (r_call1 Try.call66 rfl) (flatNodes_0 hm) ?_
  rintro _ w ⟨rfl, hm⟩
  refine VR.pure rfl rfl (p_pickT rfl rfl) ?_
  refine VR.pure rfl rfl (p_moveB rfl) ?_
  refine VR.knownT 71 rfl rfl ?_
  refine VR.pureG rfl rfl (p_moveP rfl) ?_
  refine VR.pureG rfl rfl (p_nilCheck rfl) ?_
  refine VR.pureG rfl rfl (p_field (fo := 10) Try.underlying93 rfl Try.sizeOf82 rfl rfl rfl) ?_
  refine VR.valG rfl rfl (r_load (v := .slice _ _ _) Try.isAgg82 rfl (hm.fix _ _ hg) rfl) ?_
  refine VR.callG rfl rfl (r_call1 Try.call67 rfl) (flatSittings_0 hm) ?_
  rintro _ w ⟨rfl, hm⟩
  refine VR.pure rfl rfl (p_pickT rfl rfl) ?_
  refine VR.pure rfl rfl (p_moveB rfl) ?_
  refine VR.knownT 78 rfl rfl ?_
  refine VR.pureG rfl rfl (p_moveP rfl) ?_
  refine VR.pureG rfl rfl (p_nilCheck rfl) ?_
  refine VR.pureG rfl rfl (p_field (fo := 11) Try.underlying93 rfl Try.sizeOf83 rfl rfl rfl) ?_
  refine VR.valG rfl rfl (r_load (v := .slice _ _ _) Try.isAgg83 rfl (hm.fix _ _ hg) rfl) ?_
  refine VR.callG rfl rfl (r_call1 Try.call68 rfl) (flatAsks_0 hm) ?_
  rintro _ w ⟨rfl, hm⟩
  refine VR.pure rfl rfl (p_pickT rfl rfl) ?_
  refine VR.pure rfl rfl (p_moveB rfl) ?_
  refine VR.knownT 85 rfl rfl ?_
  refine VR.pureG rfl rfl (p_moveP rfl) ?_
  refine VR.pureG rfl rfl (p_nilCheck rfl) ?_
  refine VR.pureG rfl rfl (p_field (fo := 12) Try.underlying93 rfl Try.sizeOf84 rfl rfl rfl) ?_
  refine VR.valG rfl rfl (r_load (v := .slice _ _ _) Try.isAgg84 rfl (hm.fix _ _ hg) rfl) ?_
  refine VR.callG rfl rfl (r_call1 Try.call69 rfl) (flatReplies_0 hm) ?_
  rintro _ w ⟨rfl, hm⟩
  refine VR.pure rfl rfl (p_pickT rfl rfl) ?_
  refine VR.pure rfl rfl (p_moveB rfl) ?_
  refine VR.knownT 92 rfl rfl ?_
  refine VR.pureG rfl rfl (p_moveP rfl) ?_
  refine VR.pureG rfl rfl (p_nilCheck rfl) ?_
  refine VR.pureG rfl rfl (p_field (fo := 13) Try.underlying93 rfl Try.sizeOf85 rfl rfl rfl) ?_
  refine VR.valG rfl rfl (r_load (v := .slice _ _ _) Try.isAgg85 rfl (hm.fix _ _ hg) rfl) ?_
  refine VR.callG rfl rfl (r_call1 Try.call70 rfl) (flatEvents_0 hm) ?_
  rintro _ w ⟨rfl, hm⟩
  refine VR.pure rfl rfl (p_pickT rfl rfl) ?_
  refine VR.pure rfl rfl (p_moveB rfl) ?_
  refine VR.knownT 99 rfl rfl ?_
  refine VR.pureG rfl rfl (p_moveP rfl) ?_
  refine VR.pureG rfl rfl (p_nilCheck rfl) ?_
  refine VR.pureG rfl rfl (p_field (fo := 14) Try.underlying93 rfl Try.sizeOf86 rfl rfl rfl) ?_
  refine VR.valG rfl rfl (r_load (v := .slice _ _ _) Try.isAgg86 rfl (hm.fix _ _ hg) rfl) ?_
  refine VR.callG rfl rfl (r_call1 Try.call71 rfl) (flatLetters_0 hm) ?_
  rintro _ w ⟨rfl, hm⟩
  refine VR.pure rfl rfl (p_pickT rfl rfl) ?_
  refine VR.pure rfl rfl (p_moveB rfl) ?_
  refine VR.knownT 106 rfl rfl ?_
  refine VR.pureG rfl rfl (p_moveP rfl) ?_
  refine VR.pureG rfl rfl (p_nilCheck rfl) ?_
  refine VR.pureG rfl rfl (p_field (fo := 15) Try.underlying93 rfl Try.sizeOf87 rfl rfl rfl) ?_
  refine VR.valG rfl rfl (r_load (v := .slice _ _ _) Try.isAgg87 rfl (hm.fix _ _ hg) rfl) ?_
  refine VR.callG rfl rfl (r_call1 Try.call72 rfl) (flatPackets_0 hm) ?_
  rintro _ w ⟨rfl, hm⟩
  refine VR.pure rfl rfl (p_pickT rfl rfl) ?_
  refine VR.pure rfl rfl (p_moveB rfl) ?_
  refine VR.knownT 113 rfl rfl ?_
  refine VR.pureG rfl rfl (p_moveP rfl) ?_
  refine VR.pureG rfl rfl (p_nilCheck rfl) ?_
  refine VR.pureG rfl rfl (p_field (fo := 16) Try.underlying93 rfl Try.sizeOf88 rfl rfl rfl) ?_
  refine VR.valG rfl rfl (r_load (v := .slice _ _ _) Try.isAgg88 rfl (hm.fix _ _ hg) rfl) ?_
  refine VR.callG rfl rfl (r_call1 Try.call73 rfl) (flatMails_0 hm) ?_
  rintro _ w ⟨rfl, hm⟩
  refine VR.pure rfl rfl (p_pickT rfl rfl) ?_
  refine VR.pure rfl rfl (p_moveB rfl) ?_
  refine VR.knownT 120 rfl rfl ?_
  refine VR.pureG rfl rfl (p_moveP rfl) ?_
  refine VR.pureG rfl rfl (p_nilCheck rfl) ?_
  refine VR.pureG rfl rfl (p_field (fo := 17) Try.underlying93 rfl Try.sizeOf89 rfl rfl rfl) ?_
  refine VR.valG rfl rfl (r_load (v := .slice _ _ _) Try.isAgg89 rfl (hm.fix _ _ hg) rfl) ?_
  refine VR.callG rfl rfl (r_call1 Try.call74 rfl) (flatSteps_0 hm) ?_
  rintro _ w ⟨rfl, hm⟩
  refine VR.pure rfl rfl (p_pickT rfl rfl) ?_
  refine VR.pure rfl rfl (p_moveB rfl) ?_
  refine VR.knownT 127 rfl rfl ?_
  refine VR.pureG rfl rfl (p_moveP rfl) ?_
  refine VR.pureG rfl rfl (p_nilCheck rfl) ?_
  refine VR.pureG rfl rfl (p_field (fo := 18) Try.underlying93 rfl Try.sizeOf90 rfl rfl rfl) ?_
  refine VR.valG rfl rfl (r_load (v := .slice _ _ _) Try.isAgg90 rfl (hm.fix _ _ hg) rfl) ?_
  refine VR.callG rfl rfl (r_call1 Try.call75 rfl) (flatTales_0 hm) ?_
  rintro _ w ⟨rfl, hm⟩
  refine VR.pure rfl rfl (p_pickT rfl rfl) ?_
  refine VR.pure rfl rfl (p_moveB rfl) ?_
  refine VR.knownT 134 rfl rfl ?_
  refine VR.pureG rfl rfl (p_moveP rfl) ?_
  refine VR.pureG rfl rfl (p_nilCheck rfl) ?_
  refine VR.pureG rfl rfl (p_field (fo := 19) Try.underlying93 rfl Try.sizeOf91 rfl rfl rfl) ?_
  refine VR.valG rfl rfl (r_load (v := .slice _ _ _) Try.isAgg91 rfl (hm.fix _ _ hg) rfl) ?_
  refine VR.callG rfl rfl (r_call1 Try.call76 rfl) (flatCharters_0 hm) ?_
  rintro _ w ⟨rfl, hm⟩
  refine VR.pure rfl rfl (p_pickT rfl rfl) ?_
  refine VR.pure rfl rfl (p_assignB rfl) ?_
  refine VR.nil ?_
  repeat (first | refine VC.seq ?_ | refine VC.block ?_ | refine VC.skip ?_)
  refine VC.ret ⟨_, ResOf.r1 (v := .bool _) rfl rfl, ?_⟩
  exact ⟨rfl, hm⟩

/-- A slice of configs, put into the bag with all its members. -/
theorem put_ensembles_c {F : Env} {w : World} {Ls : List Blks} {g : Nat} {A B D : Option Addr} {n c m d q r : Nat} {L M : Blks} {mits its : List Sl} {es : List En}
    (hm : Mem F w (L :: M :: [(g, .cells (bagE A n c B m d) 93 (0, 0))] :: Ls)) (ho : OwnS 23 1 A n c (slcells mits) L) (ho2 : OwnS 33 1 B m d (slcells its) M) (hn : n + q ≤ 1000000) (hm0 : m ≤ 1000000) (hr : Row F.heap D (q * 2) (ecells es)) :
    Calls Try.prog 44 #[.pointer (some ⟨g, 0, none⟩), .slice D q r] w
      (Ret fun v w' => ∃ A' c' L' B' d' M', OwnS 23 1 A' (n + q) c' (slcells (mits ++ es.map En.sl)) L' ∧ OwnS 33 1 B' (m + 1) d' (slcells (its ++ [⟨D, q, r⟩])) M' ∧
        Mem F w' (L' :: M' :: [(g, .cells (bagE A' (n + q) c' B' (m + 1) d') 93 (0, 0))] :: Ls)) := by
  have hql : es.length = q := Row.count En.len (by decide) hr
  refine Calls.of_vc Try.func44 rfl Try.ntmps44 rfl ?_
  repeat (first | refine VC.seq ?_ | refine VC.block ?_ | refine VC.skip ?_)
  refine VC.region ?_
  refine VR.pure rfl rfl (p_moveP rfl) ?_
  refine VR.pure rfl rfl (p_moveP rfl) ?_
  refine VR.pure rfl rfl (p_nilCheck rfl) ?_
  refine VR.pure rfl rfl (p_field (fo := 7) Try.underlying93 rfl Try.sizeOf45 rfl rfl rfl) ?_
  refine VR.val rfl rfl (r_load (v := .slice _ _ _) Try.isAgg45 rfl (hm.at_ 2 0 rfl) rfl) ?_
  refine VR.pure rfl rfl (p_moveL rfl) ?_
  refine VR.new hm rfl rfl (n_buildSlice1 (vs := [.slice _ _ _]) Try.underlying45 inf33 rfl rfl rfl rfl rfl rfl rfl) ?_
  intro b6 w hm
  replace hm := (hm.pull 2 rfl)
  refine VR.append (s := 1) (bytes := 24) Try.underlying45 inf33 rfl rfl rfl rfl rfl rfl rfl rfl rfl hm ho2 (Row.lit (cs := [.slice D q r]) (hm.at_ 1 0 rfl)) (by simp [Value.oneCell']) rfl ⟨by unfold maxLen; omega, by omega⟩ ?_
  intro B' d' w M' ho2' hm
  refine VR.pure rfl rfl (p_nilCheck rfl) ?_
  refine VR.pure rfl rfl (p_field (fo := 7) Try.underlying93 rfl Try.sizeOf45 rfl rfl rfl) ?_
  refine VR.store (cs' := (bagE A n c B' (m + 1) d')) (v := .slice _ _ _) Try.sizeOf45 rfl rfl rfl rfl rfl hm 3 0 rfl (Nat.ble_eq.mp rfl) rfl ?_
  intro w hm
  refine VR.nil ?_
  replace hm : Mem F w (L :: M' :: [(g, .cells (bagE A n c B' (m + 1) d') 93 (0, 0))] :: Ls) := (hm.pop2).swap
  repeat (first | refine VC.seq ?_ | refine VC.block ?_ | refine VC.skip ?_)
  refine VC.region ?_
  refine VR.pure rfl rfl (p_assignI rfl) ?_
  refine VR.nil ?_
  repeat (first | refine VC.seq ?_ | refine VC.block ?_ | refine VC.skip ?_)
  refine VC.loop (σ := Nat) (fun k => [(0, .pointer (some ⟨g, 0, none⟩)), (1, .slice D q r), (4, .int .i64 k)])
    (fun k w => k ≤ q ∧ ∃ A c L, OwnS 23 1 A (n + k) c (slcells (mits ++ (es.take k).map En.sl)) L ∧ Mem F w (L :: M' :: [(g, .cells (bagE A (n + k) c B' (m + 1) d') 93 (0, 0))] :: Ls)) (fun k => q - k) 0 ⟨rfl, rfl, rfl, trivial⟩ ⟨by omega, A, c, L, by simpa using ho, hm⟩ ?_
  clear hm ho
  rintro k A1 w ⟨hk, A, c, L, ho, hm⟩
  repeat (first | refine VC.seq ?_ | refine VC.block ?_ | refine VC.skip ?_)
  refine VC.region ?_
  refine VR.pure rfl rfl (p_moveI rfl) ?_
  refine VR.pure rfl rfl (p_moveL rfl) ?_
  refine VR.pure rfl rfl (p_len Try.underlying33 rfl) ?_
  refine VR.pure rfl rfl (p_lt rfl rfl) ?_
  refine VR.nil ?_
  repeat (first | refine VC.seq ?_ | refine VC.block ?_ | refine VC.skip ?_)
  refine VC.condD rfl (fun h => ?_) (fun h => ?_)
  · have hk' : k < q := by omega
    obtain ⟨e, he, _⟩ := get_of (xs := es) (k := k) (by omega)
    obtain ⟨b, off, blk, T, fr, hD, hb, hc⟩ := hr.elem En.len (by decide) (by omega)
    rw [hD]
    repeat (first | refine VC.seq ?_ | refine VC.block ?_ | refine VC.skip ?_)
    replace hm := (hm.pull 2 rfl).pull 1 rfl
    repeat (first | refine VC.seq ?_ | refine VC.block ?_ | refine VC.skip ?_)
    refine VC.region ?_
    refine VR.pure rfl rfl (p_moveP rfl) ?_
    refine VR.pure rfl rfl (p_moveL rfl) ?_
    refine VR.pure rfl rfl (p_moveI rfl) ?_
    refine VR.pure rfl rfl (p_idxN Try.underlying33 Try.sizeOf25 rfl rfl hk') ?_
    refine VR.val rfl rfl (r_loadAgg (vs := [.int _ _, .slice _ _ _]) Try.isAgg25 Try.sizeOf25 rfl (hm.fix _ _ hb) rfl (hc k e he)) ?_
    refine VR.call rfl rfl (r_call2 Try.call56 rfl rfl) (one_ensemble_c (e := e) hm ho (by omega)) ?_
    rintro v w ⟨A', c', L', ho', hm⟩
    refine VR.nil ?_
    repeat (first | refine VC.seq ?_ | refine VC.block ?_ | refine VC.skip ?_)
    refine VC.region ?_
    refine VR.pure rfl rfl (p_moveI rfl) ?_
    refine VR.pure rfl rfl (p_add64 rfl rfl (by omega)) ?_
    refine VR.pure rfl rfl (p_assignI rfl) ?_
    refine VR.nil ?_
    refine ⟨k + 1, ⟨rfl, rfl, rfl, trivial⟩, ⟨by omega, A', c', L', ?_, (hm.pull 2 rfl).swap⟩, by omega⟩
    have e2 : es.take (k + 1) = es.take k ++ [e] := by rw [List.take_add_one, he]; rfl
    rw [e2, List.map_append, ← List.append_assoc]
    exact ho'
  · repeat (first | refine VC.seq ?_ | refine VC.block ?_ | refine VC.skip ?_)
    refine VC.exit ?_
    have hkq : k = q := by omega
    rw [hkq] at ho hm
    rw [List.take_of_length_le (by omega)] at ho
    repeat (first | refine VC.seq ?_ | refine VC.block ?_ | refine VC.skip ?_)
    exact ⟨_, ResOf.r0 rfl, A, c, L, B', d', M', ho, by rw [slcells_snoc]; exact ho2', hm⟩

/-- Two slices of configs, each in memory of its own, the members too. -/
theorem apart_ens_c {F : Env} {w : World} {Ls Ms Bs : List Blks} {O : Option Addr} {m d : Nat} {its : List Sl} {ess : List (List En)} (hm : Mem F w (Bs ++ (Ms ++ Ls))) (hr : Row F.heap O m (slcells its)) (hmm : m ≤ 1000)
    (hess : ess.length = its.length) (hsz : ∀ (k : Nat) (it : Sl), its[k]? = some it → it.n ≤ 1000) (hall7 : All its Ms (fun k (it : Sl) L => OwnS 25 2 it.A it.n it.c (ecells (ess.getD k [])) L))
    (hall6 : All (ess.flatMap fun l => l.map En.sl) Bs (fun _ (it : Sl) L => it.n ≤ 1000000000000 ∧ ∃ xs, OwnS 65 4 it.A it.n it.c xs L)) :
    Calls Try.prog 19 #[.slice O m d] w (Ret fun v w' => v = .bool true ∧ Mem F w' Ls) := by
  have hml : its.length = m := by have := hr.len; rwa [flat_len Sl.len, Nat.mul_one] at this
  refine Calls.of_vc Try.func19 rfl Try.ntmps19 rfl ?_
  repeat (first | refine VC.seq ?_ | refine VC.block ?_ | refine VC.skip ?_)
  refine VC.region ?_
  refine VR.pure rfl rfl (p_assignB rfl) ?_
  refine VR.nil ?_
  repeat (first | refine VC.seq ?_ | refine VC.block ?_ | refine VC.skip ?_)
  refine VC.region ?_
  refine VR.pure rfl rfl (p_build (vs := []) bld93_0x rfl) ?_
  refine VR.new hm rfl rfl (n_boxG rfl) ?_
  intro g w hm
  refine VR.pure rfl rfl (p_assignP rfl) ?_
  refine VR.nil ?_
  repeat (first | refine VC.seq ?_ | refine VC.block ?_ | refine VC.skip ?_)
  refine VC.region ?_
  refine VR.pure rfl rfl (p_assignI rfl) ?_
  refine VR.nil ?_
  repeat (first | refine VC.seq ?_ | refine VC.block ?_ | refine VC.skip ?_)
  -- the slices count as fixed while they are put into the bag
  have hm0 : Mem F _ (([(g, .cells (bagE none 0 0 none 0 0) 93 (0, 0))] :: []) ++ (Bs ++ (Ms ++ Ls))) := hm
  have hfoc := hm0.focus
  have hle : F.le (F.plus (Bs ++ (Ms ++ Ls))) := hm0.leR
  have hrows : ∀ (k : Nat) (it : Sl), its[k]? = some it → Row (F.plus (Bs ++ (Ms ++ Ls))).heap it.A (it.n * 2) (ecells (ess.getD k [])) := fun k it hk => by
    obtain ⟨L, hL, ho⟩ := hall7.get hk
    exact ho.row ((show Mem F _ (Bs ++ (Ms ++ Ls)) from hm0.pop).plus_mem (List.mem_append_right _ (List.mem_append_left _ (List.mem_of_getElem? hL))))
  have hback : ∀ w' As', Mem (F.plus (Bs ++ (Ms ++ Ls))) w' As' → Mem F w' (As' ++ (Bs ++ (Ms ++ Ls))) := fun w' As' h => hm0.unfocus h
  clear hm hm0
  generalize F.plus (Bs ++ (Ms ++ Ls)) = E at hfoc hle hrows hback
  have hrE := hr.mono hle
  refine VC.loop (σ := Nat) (fun k => [(0, .slice O m d), (3, .pointer (some ⟨g, 0, none⟩)), (4, .int .i64 k)])
    (fun k w => k ≤ m ∧ ∃ A q c L B c' M, OwnS 23 1 A q c (slcells ((ess.take k).flatMap fun l => l.map En.sl)) L ∧ q ≤ k * 1000 ∧ OwnS 33 1 B k c' (slcells (its.take k)) M ∧
      Mem E w (L :: M :: [(g, .cells (bagE A q c B k c') 93 (0, 0))] :: [])) (fun k => m - k) 0 ⟨rfl, rfl, rfl, trivial⟩ ⟨by omega, none, 0, 0, [], none, 0, [], OwnS.nil _ _, by omega, OwnS.nil _ _, hfoc.nil_.nil_⟩ ?_
  clear hfoc
  rintro k A1 w ⟨hk, A, q, c, L, B, c', M, ho, hq, ho2, hm⟩
  repeat (first | refine VC.seq ?_ | refine VC.block ?_ | refine VC.skip ?_)
  refine VC.region ?_
  refine VR.pure rfl rfl (p_moveI rfl) ?_
  refine VR.pure rfl rfl (p_moveL rfl) ?_
  refine VR.pure rfl rfl (p_len Try.underlying45 rfl) ?_
  refine VR.pure rfl rfl (p_lt rfl rfl) ?_
  refine VR.nil ?_
  repeat (first | refine VC.seq ?_ | refine VC.block ?_ | refine VC.skip ?_)
  refine VC.condD rfl (fun h => ?_) (fun h => ?_)
  · have hk' : k < m := by omega
    obtain ⟨it, hit, _⟩ := get_of (xs := its) (k := k) (by omega)
    have hitn := hsz k it hit
    have hrk := hrows k it hit
    obtain ⟨b, off, blk, T, fr, hD, hb, hc⟩ := Row.get hrE (by omega)
    have hck := (hc k hk').trans (slcell_at hit)
    rw [hD]
    have hlen : (ess.getD k []).length = it.n := Row.count En.len (by decide) hrk
    repeat (first | refine VC.seq ?_ | refine VC.block ?_ | refine VC.skip ?_)
    repeat (first | refine VC.seq ?_ | refine VC.block ?_ | refine VC.skip ?_)
    refine VC.region ?_
    refine VR.pure rfl rfl (p_moveP rfl) ?_
    refine VR.pure rfl rfl (p_moveL rfl) ?_
    refine VR.pure rfl rfl (p_moveI rfl) ?_
    refine VR.pure rfl rfl (p_idx1 Try.underlying45 Try.sizeOf33 rfl rfl hk') ?_
    refine VR.val rfl rfl (r_load (v := .slice _ _ _) Try.isAgg33 rfl (hm.fix _ _ hb) hck) ?_
    refine VR.call rfl rfl (r_call2 Try.call44 rfl rfl) (put_ensembles_c hm ho ho2 (by omega) (by omega) hrk) ?_
    rintro v w ⟨A', d1, L', B', d2, M', ho', ho2', hm⟩
    refine VR.nil ?_
    repeat (first | refine VC.seq ?_ | refine VC.block ?_ | refine VC.skip ?_)
    refine VC.region ?_
    refine VR.pure rfl rfl (p_moveI rfl) ?_
    refine VR.pure rfl rfl (p_add64 rfl rfl (by omega)) ?_
    refine VR.pure rfl rfl (p_assignI rfl) ?_
    refine VR.nil ?_
    have hek : ess[k]? = some (ess.getD k []) := by
      have hkl : k < ess.length := by omega
      rw [List.getD_eq_getElem?_getD, List.getElem?_eq_getElem hkl]
      rfl
    refine ⟨k + 1, ⟨rfl, rfl, rfl, trivial⟩, ⟨by omega, A', q + it.n, d1, L', B', d2, M', ?_, by omega, ?_, hm⟩, by omega⟩
    · have e : (ess.take (k + 1)).flatMap (fun l => l.map En.sl) = (ess.take k).flatMap (fun l => l.map En.sl) ++ (ess.getD k []).map En.sl := by
        rw [List.take_add_one, hek, List.flatMap_append]
        simp
      rw [e]
      exact ho'
    · have e : its.take (k + 1) = its.take k ++ [it] := by rw [List.take_add_one, hit]; rfl
      rw [e]
      exact ho2'
  · repeat (first | refine VC.seq ?_ | refine VC.block ?_ | refine VC.skip ?_)
    refine VC.exit ?_
    obtain rfl : k = m := by omega
    rw [List.take_of_length_le (by omega)] at ho ho2
    replace hm := hback _ _ hm
    replace hm : Mem F w (L :: M :: [(g, .cells (bagE A q c B k c') 93 (0, 0))] :: (Bs ++ (Ms ++ Ls))) := hm
    obtain ⟨G1, hu1, hm, hG1⟩ := hm.freeze
    obtain ⟨G2, hu2, hm, hG2⟩ := hm.freeze
    obtain ⟨G3, hu3, hm, hG3⟩ := hm.freeze
    have hr6 := ho.row1 (H := G3.heap) fun p hp => hu3.heap _ _ (hu2.heap _ _ (hG1 p hp))
    have hr7 := ho2.row1 (H := G3.heap) fun p hp => hu3.heap _ _ (hG2 p hp)
    have hall7' := hall7.imp (Ψ := fun _ (it : Sl) L => it.n ≤ 1000000000000 ∧ ∃ xs, OwnS 25 2 it.A it.n it.c xs L) fun j it L hj h => ⟨by have := hsz j it hj; omega, _, h⟩
    repeat (first | refine VC.seq ?_ | refine VC.block ?_ | refine VC.skip ?_)
    refine VC.region ?_
    refine VR.pure rfl rfl (p_moveP rfl) ?_
    refine VR.call rfl rfl (r_call1 Try.call45 rfl) (bag_apart_c hm (hG3 _ (.head _)) hr6 (by omega) hall6 hr7 (by omega) hall7') ?_
    rintro _ w ⟨rfl, hm⟩
    refine VR.pure rfl rfl (p_assignB rfl) ?_
    refine VR.nil ?_
    repeat (first | refine VC.seq ?_ | refine VC.block ?_ | refine VC.skip ?_)
    refine VC.ret ⟨_, ResOf.r1 (v := .bool _) rfl rfl, ?_⟩
    exact ⟨rfl, hm.shrink ((hu1.trans hu2).trans hu3)⟩
end Go.Bd
