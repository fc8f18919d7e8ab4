/- The bag of lists: lists of one kind lie apart, there are none of the others. Conditions: as each states. -/
import Derived.Test.Ytknmjfdemfknaaa17n
namespace Go.Bd
open Go.Proofs
set_option linter.unusedVariables false
set_option maxRecDepth 20000

theorem flatWords_0 {F : Env} {w : World} {Ls : List Blks} (hm : Mem F w Ls) : Calls Try.prog 35 #[.slice none 0 0] w (Ret fun v w' => v = .bool true ∧ Mem F w' Ls) := by
  refine Calls.of_vc Try.func35 rfl Try.ntmps35 rfl ?_
  repeat (first | refine VC.seq ?_ | refine VC.block ?_ | refine VC.skip ?_)
  refine VC.region ?_
  refine VR.pure rfl rfl (p_assignB rfl) ?_
  refine VR.nil ?_
  repeat (first | refine VC.seq ?_ | refine VC.block ?_ | refine VC.skip ?_)
  refine VC.region ?_
  refine VR.pure rfl rfl (p_assignI rfl) ?_
  refine VR.nil ?_
  repeat (first | refine VC.seq ?_ | refine VC.block ?_ | refine VC.skip ?_)
  refine VC.loop (σ := Unit) (fun _ => [(0, .slice none 0 0), (3, .int .i64 0)]) (fun _ w => Mem F w Ls) (fun _ => 0) () ⟨rfl, rfl, trivial⟩ hm ?_
  clear hm
  rintro _ A' w hm
  repeat (first | refine VC.seq ?_ | refine VC.block ?_ | refine VC.skip ?_)
  refine VC.region ?_
  refine VR.pure rfl rfl (p_moveI rfl) ?_
  refine VR.pure rfl rfl (p_moveL rfl) ?_
  refine VR.pure rfl rfl (p_len Try.underlying59 rfl) ?_
  refine VR.pure rfl rfl (p_lt rfl rfl) ?_
  refine VR.nil ?_
  repeat (first | refine VC.seq ?_ | refine VC.block ?_ | refine VC.skip ?_)
  refine VC.condF rfl rfl ?_
  refine VC.exit ?_
  repeat (first | refine VC.seq ?_ | refine VC.block ?_ | refine VC.skip ?_)
  refine VC.region ?_
  refine VR.pure rfl rfl (p_moveL rfl) ?_
  refine VR.pure rfl rfl (p_len Try.underlying59 rfl) ?_
  refine VR.new hm rfl rfl (n_makeSlice (s := 1) (bytes := 24) Try.underlying59 inf117 rfl rfl rfl rfl rfl (by omega) (by omega)) ?_
  intro gb w hm
  refine VR.pure rfl rfl (p_assignL rfl) ?_
  refine VR.nil ?_
  replace hm := hm.pop
  repeat (first | refine VC.seq ?_ | refine VC.block ?_ | refine VC.skip ?_)
  refine VC.region ?_
  refine VR.pure rfl rfl (p_assignI rfl) ?_
  refine VR.nil ?_
  repeat (first | refine VC.seq ?_ | refine VC.block ?_ | refine VC.skip ?_)
  refine VC.loop (σ := Unit) (fun _ => [(0, .slice none 0 0), (5, .slice (some ⟨gb, 0, none⟩) 0 0), (6, .int .i64 0)]) (fun _ w => Mem F w Ls) (fun _ => 0) () ⟨rfl, rfl, rfl, trivial⟩ hm ?_
  clear hm
  rintro _ A' w hm
  repeat (first | refine VC.seq ?_ | refine VC.block ?_ | refine VC.skip ?_)
  refine VC.region ?_
  refine VR.pure rfl rfl (p_moveI rfl) ?_
  refine VR.pure rfl rfl (p_moveL rfl) ?_
  refine VR.pure rfl rfl (p_len Try.underlying59 rfl) ?_
  refine VR.pure rfl rfl (p_lt rfl rfl) ?_
  refine VR.nil ?_
  repeat (first | refine VC.seq ?_ | refine VC.block ?_ | refine VC.skip ?_)
  refine VC.condF rfl rfl ?_
  refine VC.exit ?_
  repeat (first | refine VC.seq ?_ | refine VC.block ?_ | refine VC.skip ?_)
  refine VC.region ?_
  refine VR.pure rfl rfl (p_assignI rfl) ?_
  refine VR.nil ?_
  repeat (first | refine VC.seq ?_ | refine VC.block ?_ | refine VC.skip ?_)
  refine VC.loop (σ := Unit) (fun _ => [(0, .slice none 0 0), (5, .slice (some ⟨gb, 0, none⟩) 0 0), (9, .int .i64 0)]) (fun _ w => Mem F w Ls) (fun _ => 0) () ⟨rfl, rfl, rfl, trivial⟩ hm ?_
  clear hm
  rintro _ A' w hm
  repeat (first | refine VC.seq ?_ | refine VC.block ?_ | refine VC.skip ?_)
  refine VC.region ?_
  refine VR.pure rfl rfl (p_moveI rfl) ?_
  refine VR.pure rfl rfl (p_moveL rfl) ?_
  refine VR.pure rfl rfl (p_len Try.underlying59 rfl) ?_
  refine VR.pure rfl rfl (p_lt rfl rfl) ?_
  refine VR.nil ?_
  repeat (first | refine VC.seq ?_ | refine VC.block ?_ | refine VC.skip ?_)
  refine VC.condF rfl rfl ?_
  refine VC.exit ?_
  repeat (first | refine VC.seq ?_ | refine VC.block ?_ | refine VC.skip ?_)
  refine VC.region ?_
  refine VR.pure rfl rfl (p_assignI rfl) ?_
  refine VR.nil ?_
  repeat (first | refine VC.seq ?_ | refine VC.block ?_ | refine VC.skip ?_)
  refine VC.loop (σ := Unit) (fun _ => [(0, .slice none 0 0), (5, .slice (some ⟨gb, 0, none⟩) 0 0), (11, .int .i64 0)]) (fun _ w => Mem F w Ls) (fun _ => 0) () ⟨rfl, rfl, rfl, trivial⟩ hm ?_
  clear hm
  rintro _ A' w hm
  repeat (first | refine VC.seq ?_ | refine VC.block ?_ | refine VC.skip ?_)
  refine VC.region ?_
  refine VR.pure rfl rfl (p_moveI rfl) ?_
  refine VR.pure rfl rfl (p_moveL rfl) ?_
  refine VR.pure rfl rfl (p_len Try.underlying59 rfl) ?_
  refine VR.pure rfl rfl (p_lt rfl rfl) ?_
  refine VR.nil ?_
  repeat (first | refine VC.seq ?_ | refine VC.block ?_ | refine VC.skip ?_)
  refine VC.condF rfl rfl ?_
  refine VC.exit ?_
  repeat (first | refine VC.seq ?_ | refine VC.block ?_ | refine VC.skip ?_)
  refine VC.region ?_
  refine VR.pure rfl rfl (p_assignI rfl) ?_
  refine VR.nil ?_
  repeat (first | refine VC.seq ?_ | refine VC.block ?_ | refine VC.skip ?_)
  refine VC.loop (σ := Unit) (fun _ => [(0, .slice none 0 0), (5, .slice (some ⟨gb, 0, none⟩) 0 0), (14, .int .i64 0)]) (fun _ w => Mem F w Ls) (fun _ => 0) () ⟨rfl, rfl, rfl, trivial⟩ hm ?_
  clear hm
  rintro _ A' w hm
  repeat (first | refine VC.seq ?_ | refine VC.block ?_ | refine VC.skip ?_)
  refine VC.region ?_
  refine VR.pure rfl rfl (p_moveI rfl) ?_
  refine VR.pure rfl rfl (p_moveL rfl) ?_
  refine VR.pure rfl rfl (p_len Try.underlying59 rfl) ?_
  refine VR.pure rfl rfl (p_lt rfl rfl) ?_
  refine VR.nil ?_
  repeat (first | refine VC.seq ?_ | refine VC.block ?_ | refine VC.skip ?_)
  refine VC.condF rfl rfl ?_
  refine VC.exit ?_
  repeat (first | refine VC.seq ?_ | refine VC.block ?_ | refine VC.skip ?_)
  refine VC.region ?_
  refine VR.pure rfl rfl (p_assignB rfl) ?_
  refine VR.nil ?_
  repeat (first | refine VC.seq ?_ | refine VC.block ?_ | refine VC.skip ?_)
  refine VC.ret ⟨_, ResOf.r1 (v := .bool _) rfl rfl, ?_⟩
  exact ⟨rfl, hm⟩
theorem flatInts_0 {F : Env} {w : World} {Ls : List Blks} (hm : Mem F w Ls) : Calls Try.prog 36 #[.slice none 0 0] w (Ret fun v w' => v = .bool true ∧ Mem F w' Ls) := by
  refine Calls.of_vc Try.func36 rfl Try.ntmps36 rfl ?_
  repeat (first | refine VC.seq ?_ | refine VC.block ?_ | refine VC.skip ?_)
  refine VC.region ?_
  refine VR.pure rfl rfl (p_assignB rfl) ?_
  refine VR.nil ?_
  repeat (first | refine VC.seq ?_ | refine VC.block ?_ | refine VC.skip ?_)
  refine VC.region ?_
  refine VR.pure rfl rfl (p_assignI rfl) ?_
  refine VR.nil ?_
  repeat (first | refine VC.seq ?_ | refine VC.block ?_ | refine VC.skip ?_)
  refine VC.loop (σ := Unit) (fun _ => [(0, .slice none 0 0), (3, .int .i64 0)]) (fun _ w => Mem F w Ls) (fun _ => 0) () ⟨rfl, rfl, trivial⟩ hm ?_
  clear hm
  rintro _ A' w hm
  repeat (first | refine VC.seq ?_ | refine VC.block ?_ | refine VC.skip ?_)
  refine VC.region ?_
  refine VR.pure rfl rfl (p_moveI rfl) ?_
  refine VR.pure rfl rfl (p_moveL rfl) ?_
  refine VR.pure rfl rfl (p_len Try.underlying60 rfl) ?_
  refine VR.pure rfl rfl (p_lt rfl rfl) ?_
  refine VR.nil ?_
  repeat (first | refine VC.seq ?_ | refine VC.block ?_ | refine VC.skip ?_)
  refine VC.condF rfl rfl ?_
  refine VC.exit ?_
  repeat (first | refine VC.seq ?_ | refine VC.block ?_ | refine VC.skip ?_)
  refine VC.region ?_
  refine VR.pure rfl rfl (p_moveL rfl) ?_
  refine VR.pure rfl rfl (p_len Try.underlying60 rfl) ?_
  refine VR.new hm rfl rfl (n_makeSlice (s := 1) (bytes := 24) Try.underlying60 inf118 rfl rfl rfl rfl rfl (by omega) (by omega)) ?_
  intro gb w hm
  refine VR.pure rfl rfl (p_assignL rfl) ?_
  refine VR.nil ?_
  replace hm := hm.pop
  repeat (first | refine VC.seq ?_ | refine VC.block ?_ | refine VC.skip ?_)
  refine VC.region ?_
  refine VR.pure rfl rfl (p_assignI rfl) ?_
  refine VR.nil ?_
  repeat (first | refine VC.seq ?_ | refine VC.block ?_ | refine VC.skip ?_)
  refine VC.loop (σ := Unit) (fun _ => [(0, .slice none 0 0), (5, .slice (some ⟨gb, 0, none⟩) 0 0), (6, .int .i64 0)]) (fun _ w => Mem F w Ls) (fun _ => 0) () ⟨rfl, rfl, rfl, trivial⟩ hm ?_
  clear hm
  rintro _ A' w hm
  repeat (first | refine VC.seq ?_ | refine VC.block ?_ | refine VC.skip ?_)
  refine VC.region ?_
  refine VR.pure rfl rfl (p_moveI rfl) ?_
  refine VR.pure rfl rfl (p_moveL rfl) ?_
  refine VR.pure rfl rfl (p_len Try.underlying60 rfl) ?_
  refine VR.pure rfl rfl (p_lt rfl rfl) ?_
  refine VR.nil ?_
  repeat (first | refine VC.seq ?_ | refine VC.block ?_ | refine VC.skip ?_)
  refine VC.condF rfl rfl ?_
  refine VC.exit ?_
  repeat (first | refine VC.seq ?_ | refine VC.block ?_ | refine VC.skip ?_)
  refine VC.region ?_
  refine VR.pure rfl rfl (p_assignI rfl) ?_
  refine VR.nil ?_
  repeat (first | refine VC.seq ?_ | refine VC.block ?_ | refine VC.skip ?_)
  refine VC.loop (σ := Unit) (fun _ => [(0, .slice none 0 0), (5, .slice (some ⟨gb, 0, none⟩) 0 0), (9, .int .i64 0)]) (fun _ w => Mem F w Ls) (fun _ => 0) () ⟨rfl, rfl, rfl, trivial⟩ hm ?_
  clear hm
  rintro _ A' w hm
  repeat (first | refine VC.seq ?_ | refine VC.block ?_ | refine VC.skip ?_)
  refine VC.region ?_
  refine VR.pure rfl rfl (p_moveI rfl) ?_
  refine VR.pure rfl rfl (p_moveL rfl) ?_
  refine VR.pure rfl rfl (p_len Try.underlying60 rfl) ?_
  refine VR.pure rfl rfl (p_lt rfl rfl) ?_
  refine VR.nil ?_
  repeat (first | refine VC.seq ?_ | refine VC.block ?_ | refine VC.skip ?_)
  refine VC.condF rfl rfl ?_
  refine VC.exit ?_
  repeat (first | refine VC.seq ?_ | refine VC.block ?_ | refine VC.skip ?_)
  refine VC.region ?_
  refine VR.pure rfl rfl (p_assignI rfl) ?_
  refine VR.nil ?_
  repeat (first | refine VC.seq ?_ | refine VC.block ?_ | refine VC.skip ?_)
  refine VC.loop (σ := Unit) (fun _ => [(0, .slice none 0 0), (5, .slice (some ⟨gb, 0, none⟩) 0 0), (11, .int .i64 0)]) (fun _ w => Mem F w Ls) (fun _ => 0) () ⟨rfl, rfl, rfl, trivial⟩ hm ?_
  clear hm
  rintro _ A' w hm
  repeat (first | refine VC.seq ?_ | refine VC.block ?_ | refine VC.skip ?_)
  refine VC.region ?_
  refine VR.pure rfl rfl (p_moveI rfl) ?_
  refine VR.pure rfl rfl (p_moveL rfl) ?_
  refine VR.pure rfl rfl (p_len Try.underlying60 rfl) ?_
  refine VR.pure rfl rfl (p_lt rfl rfl) ?_
  refine VR.nil ?_
  repeat (first | refine VC.seq ?_ | refine VC.block ?_ | refine VC.skip ?_)
  refine VC.condF rfl rfl ?_
  refine VC.exit ?_
  repeat (first | refine VC.seq ?_ | refine VC.block ?_ | refine VC.skip ?_)
  refine VC.region ?_
  refine VR.pure rfl rfl (p_assignI rfl) ?_
  refine VR.nil ?_
  repeat (first | refine VC.seq ?_ | refine VC.block ?_ | refine VC.skip ?_)
  refine VC.loop (σ := Unit) (fun _ => [(0, .slice none 0 0), (5, .slice (some ⟨gb, 0, none⟩) 0 0), (14, .int .i64 0)]) (fun _ w => Mem F w Ls) (fun _ => 0) () ⟨rfl, rfl, rfl, trivial⟩ hm ?_
  clear hm
  rintro _ A' w hm
  repeat (first | refine VC.seq ?_ | refine VC.block ?_ | refine VC.skip ?_)
  refine VC.region ?_
  refine VR.pure rfl rfl (p_moveI rfl) ?_
  refine VR.pure rfl rfl (p_moveL rfl) ?_
  refine VR.pure rfl rfl (p_len Try.underlying60 rfl) ?_
  refine VR.pure rfl rfl (p_lt rfl rfl) ?_
  refine VR.nil ?_
  repeat (first | refine VC.seq ?_ | refine VC.block ?_ | refine VC.skip ?_)
  refine VC.condF rfl rfl ?_
  refine VC.exit ?_
  repeat (first | refine VC.seq ?_ | refine VC.block ?_ | refine VC.skip ?_)
  refine VC.region ?_
  refine VR.pure rfl rfl (p_assignB rfl) ?_
  refine VR.nil ?_
  repeat (first | refine VC.seq ?_ | refine VC.block ?_ | refine VC.skip ?_)
  refine VC.ret ⟨_, ResOf.r1 (v := .bool _) rfl rfl, ?_⟩
  exact ⟨rfl, hm⟩
theorem flatBytes_0 {F : Env} {w : World} {Ls : List Blks} (hm : Mem F w Ls) : Calls Try.prog 39 #[.slice none 0 0] w (Ret fun v w' => v = .bool true ∧ Mem F w' Ls) := by
  refine Calls.of_vc Try.func39 rfl Try.ntmps39 rfl ?_
  repeat (first | refine VC.seq ?_ | refine VC.block ?_ | refine VC.skip ?_)
  refine VC.region ?_
  refine VR.pure rfl rfl (p_assignB rfl) ?_
  refine VR.nil ?_
  repeat (first | refine VC.seq ?_ | refine VC.block ?_ | refine VC.skip ?_)
  refine VC.region ?_
  refine VR.pure rfl rfl (p_assignI rfl) ?_
  refine VR.nil ?_
  repeat (first | refine VC.seq ?_ | refine VC.block ?_ | refine VC.skip ?_)
  refine VC.loop (σ := Unit) (fun _ => [(0, .slice none 0 0), (3, .int .i64 0)]) (fun _ w => Mem F w Ls) (fun _ => 0) () ⟨rfl, rfl, trivial⟩ hm ?_
  clear hm
  rintro _ A' w hm
  repeat (first | refine VC.seq ?_ | refine VC.block ?_ | refine VC.skip ?_)
  refine VC.region ?_
  refine VR.pure rfl rfl (p_moveI rfl) ?_
  refine VR.pure rfl rfl (p_moveL rfl) ?_
  refine VR.pure rfl rfl (p_len Try.underlying62 rfl) ?_
  refine VR.pure rfl rfl (p_lt rfl rfl) ?_
  refine VR.nil ?_
  repeat (first | refine VC.seq ?_ | refine VC.block ?_ | refine VC.skip ?_)
  refine VC.condF rfl rfl ?_
  refine VC.exit ?_
  repeat (first | refine VC.seq ?_ | refine VC.block ?_ | refine VC.skip ?_)
  refine VC.region ?_
  refine VR.pure rfl rfl (p_moveL rfl) ?_
  refine VR.pure rfl rfl (p_len Try.underlying62 rfl) ?_
  refine VR.new hm rfl rfl (n_makeSlice (s := 1) (bytes := 24) Try.underlying62 inf121 rfl rfl rfl rfl rfl (by omega) (by omega)) ?_
  intro gb w hm
  refine VR.pure rfl rfl (p_assignL rfl) ?_
  refine VR.nil ?_
  replace hm := hm.pop
  repeat (first | refine VC.seq ?_ | refine VC.block ?_ | refine VC.skip ?_)
  refine VC.region ?_
  refine VR.pure rfl rfl (p_assignI rfl) ?_
  refine VR.nil ?_
  repeat (first | refine VC.seq ?_ | refine VC.block ?_ | refine VC.skip ?_)
  refine VC.loop (σ := Unit) (fun _ => [(0, .slice none 0 0), (5, .slice (some ⟨gb, 0, none⟩) 0 0), (6, .int .i64 0)]) (fun _ w => Mem F w Ls) (fun _ => 0) () ⟨rfl, rfl, rfl, trivial⟩ hm ?_
  clear hm
  rintro _ A' w hm
  repeat (first | refine VC.seq ?_ | refine VC.block ?_ | refine VC.skip ?_)
  refine VC.region ?_
  refine VR.pure rfl rfl (p_moveI rfl) ?_
  refine VR.pure rfl rfl (p_moveL rfl) ?_
  refine VR.pure rfl rfl (p_len Try.underlying62 rfl) ?_
  refine VR.pure rfl rfl (p_lt rfl rfl) ?_
  refine VR.nil ?_
  repeat (first | refine VC.seq ?_ | refine VC.block ?_ | refine VC.skip ?_)
  refine VC.condF rfl rfl ?_
  refine VC.exit ?_
  repeat (first | refine VC.seq ?_ | refine VC.block ?_ | refine VC.skip ?_)
  refine VC.region ?_
  refine VR.pure rfl rfl (p_assignI rfl) ?_
  refine VR.nil ?_
  repeat (first | refine VC.seq ?_ | refine VC.block ?_ | refine VC.skip ?_)
  refine VC.loop (σ := Unit) (fun _ => [(0, .slice none 0 0), (5, .slice (some ⟨gb, 0, none⟩) 0 0), (9, .int .i64 0)]) (fun _ w => Mem F w Ls) (fun _ => 0) () ⟨rfl, rfl, rfl, trivial⟩ hm ?_
  clear hm
  rintro _ A' w hm
  repeat (first | refine VC.seq ?_ | refine VC.block ?_ | refine VC.skip ?_)
  refine VC.region ?_
  refine VR.pure rfl rfl (p_moveI rfl) ?_
  refine VR.pure rfl rfl (p_moveL rfl) ?_
  refine VR.pure rfl rfl (p_len Try.underlying62 rfl) ?_
  refine VR.pure rfl rfl (p_lt rfl rfl) ?_
  refine VR.nil ?_
  repeat (first | refine VC.seq ?_ | refine VC.block ?_ | refine VC.skip ?_)
  refine VC.condF rfl rfl ?_
  refine VC.exit ?_
  repeat (first | refine VC.seq ?_ | refine VC.block ?_ | refine VC.skip ?_)
  refine VC.region ?_
  refine VR.pure rfl rfl (p_assignI rfl) ?_
  refine VR.nil ?_
  repeat (first | refine VC.seq ?_ | refine VC.block ?_ | refine VC.skip ?_)
  refine VC.loop (σ := Unit) (fun _ => [(0, .slice none 0 0), (5, .slice (some ⟨gb, 0, none⟩) 0 0), (11, .int .i64 0)]) (fun _ w => Mem F w Ls) (fun _ => 0) () ⟨rfl, rfl, rfl, trivial⟩ hm ?_
  clear hm
  rintro _ A' w hm
  repeat (first | refine VC.seq ?_ | refine VC.block ?_ | refine VC.skip ?_)
  refine VC.region ?_
  refine VR.pure rfl rfl (p_moveI rfl) ?_
  refine VR.pure rfl rfl (p_moveL rfl) ?_
  refine VR.pure rfl rfl (p_len Try.underlying62 rfl) ?_
  refine VR.pure rfl rfl (p_lt rfl rfl) ?_
  refine VR.nil ?_
  repeat (first | refine VC.seq ?_ | refine VC.block ?_ | refine VC.skip ?_)
  refine VC.condF rfl rfl ?_
  refine VC.exit ?_
  repeat (first | refine VC.seq ?_ | refine VC.block ?_ | refine VC.skip ?_)
  refine VC.region ?_
  refine VR.pure rfl rfl (p_assignI rfl) ?_
  refine VR.nil ?_
  repeat (first | refine VC.seq ?_ | refine VC.block ?_ | refine VC.skip ?_)
  refine VC.loop (σ := Unit) (fun _ => [(0, .slice none 0 0), (5, .slice (some ⟨gb, 0, none⟩) 0 0), (14, .int .i64 0)]) (fun _ w => Mem F w Ls) (fun _ => 0) () ⟨rfl, rfl, rfl, trivial⟩ hm ?_
  clear hm
  rintro _ A' w hm
  repeat (first | refine VC.seq ?_ | refine VC.block ?_ | refine VC.skip ?_)
  refine VC.region ?_
  refine VR.pure rfl rfl (p_moveI rfl) ?_
  refine VR.pure rfl rfl (p_moveL rfl) ?_
  refine VR.pure rfl rfl (p_len Try.underlying62 rfl) ?_
  refine VR.pure rfl rfl (p_lt rfl rfl) ?_
  refine VR.nil ?_
  repeat (first | refine VC.seq ?_ | refine VC.block ?_ | refine VC.skip ?_)
  refine VC.condF rfl rfl ?_
  refine VC.exit ?_
  repeat (first | refine VC.seq ?_ | refine VC.block ?_ | refine VC.skip ?_)
  refine VC.region ?_
  refine VR.pure rfl rfl (p_assignB rfl) ?_
  refine VR.nil ?_
  repeat (first | refine VC.seq ?_ | refine VC.block ?_ | refine VC.skip ?_)
  refine VC.ret ⟨_, ResOf.r1 (v := .bool _) rfl rfl, ?_⟩
  exact ⟨rfl, hm⟩
theorem flatTexts_0 {F : Env} {w : World} {Ls : List Blks} (hm : Mem F w Ls) : Calls Try.prog 38 #[.slice none 0 0] w (Ret fun v w' => v = .bool true ∧ Mem F w' Ls) := by
  refine Calls.of_vc Try.func38 rfl Try.ntmps38 rfl ?_
  repeat (first | refine VC.seq ?_ | refine VC.block ?_ | refine VC.skip ?_)
  refine VC.region ?_
  refine VR.pure rfl rfl (p_assignB rfl) ?_
  refine VR.nil ?_
  repeat (first | refine VC.seq ?_ | refine VC.block ?_ | refine VC.skip ?_)
  refine VC.region ?_
  refine VR.pure rfl rfl (p_assignI rfl) ?_
  refine VR.nil ?_
  repeat (first | refine VC.seq ?_ | refine VC.block ?_ | refine VC.skip ?_)
  refine VC.loop (σ := Unit) (fun _ => [(0, .slice none 0 0), (3, .int .i64 0)]) (fun _ w => Mem F w Ls) (fun _ => 0) () ⟨rfl, rfl, trivial⟩ hm ?_
  clear hm
  rintro _ A' w hm
  repeat (first | refine VC.seq ?_ | refine VC.block ?_ | refine VC.skip ?_)
  refine VC.region ?_
  refine VR.pure rfl rfl (p_moveI rfl) ?_
  refine VR.pure rfl rfl (p_moveL rfl) ?_
  refine VR.pure rfl rfl (p_len Try.underlying61 rfl) ?_
  refine VR.pure rfl rfl (p_lt rfl rfl) ?_
  refine VR.nil ?_
  repeat (first | refine VC.seq ?_ | refine VC.block ?_ | refine VC.skip ?_)
  refine VC.condF rfl rfl ?_
  refine VC.exit ?_
  repeat (first | refine VC.seq ?_ | refine VC.block ?_ | refine VC.skip ?_)
  refine VC.region ?_
  refine VR.pure rfl rfl (p_moveL rfl) ?_
  refine VR.pure rfl rfl (p_len Try.underlying61 rfl) ?_
  refine VR.new hm rfl rfl (n_makeSlice (s := 1) (bytes := 24) Try.underlying61 inf119 rfl rfl rfl rfl rfl (by omega) (by omega)) ?_
  intro gb w hm
  refine VR.pure rfl rfl (p_assignL rfl) ?_
  refine VR.nil ?_
  replace hm := hm.pop
  repeat (first | refine VC.seq ?_ | refine VC.block ?_ | refine VC.skip ?_)
  refine VC.region ?_
  refine VR.pure rfl rfl (p_assignI rfl) ?_
  refine VR.nil ?_
  repeat (first | refine VC.seq ?_ | refine VC.block ?_ | refine VC.skip ?_)
  refine VC.loop (σ := Unit) (fun _ => [(0, .slice none 0 0), (5, .slice (some ⟨gb, 0, none⟩) 0 0), (6, .int .i64 0)]) (fun _ w => Mem F w Ls) (fun _ => 0) () ⟨rfl, rfl, rfl, trivial⟩ hm ?_
  clear hm
  rintro _ A' w hm
  repeat (first | refine VC.seq ?_ | refine VC.block ?_ | refine VC.skip ?_)
  refine VC.region ?_
  refine VR.pure rfl rfl (p_moveI rfl) ?_
  refine VR.pure rfl rfl (p_moveL rfl) ?_
  refine VR.pure rfl rfl (p_len Try.underlying61 rfl) ?_
  refine VR.pure rfl rfl (p_lt rfl rfl) ?_
  refine VR.nil ?_
  repeat (first | refine VC.seq ?_ | refine VC.block ?_ | refine VC.skip ?_)
  refine VC.condF rfl rfl ?_
  refine VC.exit ?_
  repeat (first | refine VC.seq ?_ | refine VC.block ?_ | refine VC.skip ?_)
  refine VC.region ?_
  refine VR.pure rfl rfl (p_assignI rfl) ?_
  refine VR.nil ?_
  repeat (first | refine VC.seq ?_ | refine VC.block ?_ | refine VC.skip ?_)
  refine VC.loop (σ := Unit) (fun _ => [(0, .slice none 0 0), (5, .slice (some ⟨gb, 0, none⟩) 0 0), (9, .int .i64 0)]) (fun _ w => Mem F w Ls) (fun _ => 0) () ⟨rfl, rfl, rfl, trivial⟩ hm ?_
  clear hm
  rintro _ A' w hm
  repeat (first | refine VC.seq ?_ | refine VC.block ?_ | refine VC.skip ?_)
  refine VC.region ?_
  refine VR.pure rfl rfl (p_moveI rfl) ?_
  refine VR.pure rfl rfl (p_moveL rfl) ?_
  refine VR.pure rfl rfl (p_len Try.underlying61 rfl) ?_
  refine VR.pure rfl rfl (p_lt rfl rfl) ?_
  refine VR.nil ?_
  repeat (first | refine VC.seq ?_ | refine VC.block ?_ | refine VC.skip ?_)
  refine VC.condF rfl rfl ?_
  refine VC.exit ?_
  repeat (first | refine VC.seq ?_ | refine VC.block ?_ | refine VC.skip ?_)
  refine VC.region ?_
  refine VR.pure rfl rfl (p_assignI rfl) ?_
  refine VR.nil ?_
  repeat (first | refine VC.seq ?_ | refine VC.block ?_ | refine VC.skip ?_)
  refine VC.loop (σ := Unit) (fun _ => [(0, .slice none 0 0), (5, .slice (some ⟨gb, 0, none⟩) 0 0), (11, .int .i64 0)]) (fun _ w => Mem F w Ls) (fun _ => 0) () ⟨rfl, rfl, rfl, trivial⟩ hm ?_
  clear hm
  rintro _ A' w hm
  repeat (first | refine VC.seq ?_ | refine VC.block ?_ | refine VC.skip ?_)
  refine VC.region ?_
  refine VR.pure rfl rfl (p_moveI rfl) ?_
  refine VR.pure rfl rfl (p_moveL rfl) ?_
  refine VR.pure rfl rfl (p_len Try.underlying61 rfl) ?_
  refine VR.pure rfl rfl (p_lt rfl rfl) ?_
  refine VR.nil ?_
  repeat (first | refine VC.seq ?_ | refine VC.block ?_ | refine VC.skip ?_)
  refine VC.condF rfl rfl ?_
  refine VC.exit ?_
  repeat (first | refine VC.seq ?_ | refine VC.block ?_ | refine VC.skip ?_)
  refine VC.region ?_
  refine VR.pure rfl rfl (p_assignI rfl) ?_
  refine VR.nil ?_
  repeat (first | refine VC.seq ?_ | refine VC.block ?_ | refine VC.skip ?_)
  refine VC.loop (σ := Unit) (fun _ => [(0, .slice none 0 0), (5, .slice (some ⟨gb, 0, none⟩) 0 0), (14, .int .i64 0)]) (fun _ w => Mem F w Ls) (fun _ => 0) () ⟨rfl, rfl, rfl, trivial⟩ hm ?_
  clear hm
  rintro _ A' w hm
  repeat (first | refine VC.seq ?_ | refine VC.block ?_ | refine VC.skip ?_)
  refine VC.region ?_
  refine VR.pure rfl rfl (p_moveI rfl) ?_
  refine VR.pure rfl rfl (p_moveL rfl) ?_
  refine VR.pure rfl rfl (p_len Try.underlying61 rfl) ?_
  refine VR.pure rfl rfl (p_lt rfl rfl) ?_
  refine VR.nil ?_
  repeat (first | refine VC.seq ?_ | refine VC.block ?_ | refine VC.skip ?_)
  refine VC.condF rfl rfl ?_
  refine VC.exit ?_
  repeat (first | refine VC.seq ?_ | refine VC.block ?_ | refine VC.skip ?_)
  refine VC.region ?_
  refine VR.pure rfl rfl (p_assignB rfl) ?_
  refine VR.nil ?_
  repeat (first | refine VC.seq ?_ | refine VC.block ?_ | refine VC.skip ?_)
  refine VC.ret ⟨_, ResOf.r1 (v := .bool _) rfl rfl, ?_⟩
  exact ⟨rfl, hm⟩
theorem flatZxids_0 {F : Env} {w : World} {Ls : List Blks} (hm : Mem F w Ls) : Calls Try.prog 40 #[.slice none 0 0] w (Ret fun v w' => v = .bool true ∧ Mem F w' Ls) := by
  refine Calls.of_vc Try.func40 rfl Try.ntmps40 rfl ?_
  repeat (first | refine VC.seq ?_ | refine VC.block ?_ | refine VC.skip ?_)
  refine VC.region ?_
  refine VR.pure rfl rfl (p_assignB rfl) ?_
  refine VR.nil ?_
  repeat (first | refine VC.seq ?_ | refine VC.block ?_ | refine VC.skip ?_)
  refine VC.region ?_
  refine VR.pure rfl rfl (p_assignI rfl) ?_
  refine VR.nil ?_
  repeat (first | refine VC.seq ?_ | refine VC.block ?_ | refine VC.skip ?_)
  refine VC.loop (σ := Unit) (fun _ => [(0, .slice none 0 0), (3, .int .i64 0)]) (fun _ w => Mem F w Ls) (fun _ => 0) () ⟨rfl, rfl, trivial⟩ hm ?_
  clear hm
  rintro _ A' w hm
  repeat (first | refine VC.seq ?_ | refine VC.block ?_ | refine VC.skip ?_)
  refine VC.region ?_
  refine VR.pure rfl rfl (p_moveI rfl) ?_
  refine VR.pure rfl rfl (p_moveL rfl) ?_
  refine VR.pure rfl rfl (p_len Try.underlying63 rfl) ?_
  refine VR.pure rfl rfl (p_lt rfl rfl) ?_
  refine VR.nil ?_
  repeat (first | refine VC.seq ?_ | refine VC.block ?_ | refine VC.skip ?_)
  refine VC.condF rfl rfl ?_
  refine VC.exit ?_
  repeat (first | refine VC.seq ?_ | refine VC.block ?_ | refine VC.skip ?_)
  refine VC.region ?_
  refine VR.pure rfl rfl (p_moveL rfl) ?_
  refine VR.pure rfl rfl (p_len Try.underlying63 rfl) ?_
  refine VR.new hm rfl rfl (n_makeSlice (s := 1) (bytes := 24) Try.underlying63 inf123 rfl rfl rfl rfl rfl (by omega) (by omega)) ?_
  intro gb w hm
  refine VR.pure rfl rfl (p_assignL rfl) ?_
  refine VR.nil ?_
  replace hm := hm.pop
  repeat (first | refine VC.seq ?_ | refine VC.block ?_ | refine VC.skip ?_)
  refine VC.region ?_
  refine VR.pure rfl rfl (p_assignI rfl) ?_
  refine VR.nil ?_
  repeat (first | refine VC.seq ?_ | refine VC.block ?_ | refine VC.skip ?_)
  refine VC.loop (σ := Unit) (fun _ => [(0, .slice none 0 0), (5, .slice (some ⟨gb, 0, none⟩) 0 0), (6, .int .i64 0)]) (fun _ w => Mem F w Ls) (fun _ => 0) () ⟨rfl, rfl, rfl, trivial⟩ hm ?_
  clear hm
  rintro _ A' w hm
  repeat (first | refine VC.seq ?_ | refine VC.block ?_ | refine VC.skip ?_)
  refine VC.region ?_
  refine VR.pure rfl rfl (p_moveI rfl) ?_
  refine VR.pure rfl rfl (p_moveL rfl) ?_
  refine VR.pure rfl rfl (p_len Try.underlying63 rfl) ?_
  refine VR.pure rfl rfl (p_lt rfl rfl) ?_
  refine VR.nil ?_
  repeat (first | refine VC.seq ?_ | refine VC.block ?_ | refine VC.skip ?_)
  refine VC.condF rfl rfl ?_
  refine VC.exit ?_
  repeat (first | refine VC.seq ?_ | refine VC.block ?_ | refine VC.skip ?_)
  refine VC.region ?_
  refine VR.pure rfl rfl (p_assignI rfl) ?_
  refine VR.nil ?_
  repeat (first | refine VC.seq ?_ | refine VC.block ?_ | refine VC.skip ?_)
  refine VC.loop (σ := Unit) (fun _ => [(0, .slice none 0 0), (5, .slice (some ⟨gb, 0, none⟩) 0 0), (9, .int .i64 0)]) (fun _ w => Mem F w Ls) (fun _ => 0) () ⟨rfl, rfl, rfl, trivial⟩ hm ?_
  clear hm
  rintro _ A' w hm
  repeat (first | refine VC.seq ?_ | refine VC.block ?_ | refine VC.skip ?_)
  refine VC.region ?_
  refine VR.pure rfl rfl (p_moveI rfl) ?_
  refine VR.pure rfl rfl (p_moveL rfl) ?_
  refine VR.pure rfl rfl (p_len Try.underlying63 rfl) ?_
  refine VR.pure rfl rfl (p_lt rfl rfl) ?_
  refine VR.nil ?_
  repeat (first | refine VC.seq ?_ | refine VC.block ?_ | refine VC.skip ?_)
  refine VC.condF rfl rfl ?_
  refine VC.exit ?_
  repeat (first | refine VC.seq ?_ | refine VC.block ?_ | refine VC.skip ?_)
  refine VC.region ?_
  refine VR.pure rfl rfl (p_assignI rfl) ?_
  refine VR.nil ?_
  repeat (first | refine VC.seq ?_ | refine VC.block ?_ | refine VC.skip ?_)
  refine VC.loop (σ := Unit) (fun _ => [(0, .slice none 0 0), (5, .slice (some ⟨gb, 0, none⟩) 0 0), (11, .int .i64 0)]) (fun _ w => Mem F w Ls) (fun _ => 0) () ⟨rfl, rfl, rfl, trivial⟩ hm ?_
  clear hm
  rintro _ A' w hm
  repeat (first | refine VC.seq ?_ | refine VC.block ?_ | refine VC.skip ?_)
  refine VC.region ?_
  refine VR.pure rfl rfl (p_moveI rfl) ?_
  refine VR.pure rfl rfl (p_moveL rfl) ?_
  refine VR.pure rfl rfl (p_len Try.underlying63 rfl) ?_
  refine VR.pure rfl rfl (p_lt rfl rfl) ?_
  refine VR.nil ?_
  repeat (first | refine VC.seq ?_ | refine VC.block ?_ | refine VC.skip ?_)
  refine VC.condF rfl rfl ?_
  refine VC.exit ?_
  repeat (first | refine VC.seq ?_ | refine VC.block ?_ | refine VC.skip ?_)
  refine VC.region ?_
  refine VR.pure rfl rfl (p_assignI rfl) ?_
  refine VR.nil ?_
  repeat (first | refine VC.seq ?_ | refine VC.block ?_ | refine VC.skip ?_)
  refine VC.loop (σ := Unit) (fun _ => [(0, .slice none 0 0), (5, .slice (some ⟨gb, 0, none⟩) 0 0), (14, .int .i64 0)]) (fun _ w => Mem F w Ls) (fun _ => 0) () ⟨rfl, rfl, rfl, trivial⟩ hm ?_
  clear hm
  rintro _ A' w hm
  repeat (first | refine VC.seq ?_ | refine VC.block ?_ | refine VC.skip ?_)
  refine VC.region ?_
  refine VR.pure rfl rfl (p_moveI rfl) ?_
  refine VR.pure rfl rfl (p_moveL rfl) ?_
  refine VR.pure rfl rfl (p_len Try.underlying63 rfl) ?_
  refine VR.pure rfl rfl (p_lt rfl rfl) ?_
  refine VR.nil ?_
  repeat (first | refine VC.seq ?_ | refine VC.block ?_ | refine VC.skip ?_)
  refine VC.condF rfl rfl ?_
  refine VC.exit ?_
  repeat (first | refine VC.seq ?_ | refine VC.block ?_ | refine VC.skip ?_)
  refine VC.region ?_
  refine VR.pure rfl rfl (p_assignB rfl) ?_
  refine VR.nil ?_
  repeat (first | refine VC.seq ?_ | refine VC.block ?_ | refine VC.skip ?_)
  refine VC.ret ⟨_, ResOf.r1 (v := .bool _) rfl rfl, ?_⟩
  exact ⟨rfl, hm⟩
theorem flatMembers_0 {F : Env} {w : World} {Ls : List Blks} (hm : Mem F w Ls) : Calls Try.prog 41 #[.slice none 0 0] w (Ret fun v w' => v = .bool true ∧ Mem F w' Ls) := by
  refine Calls.of_vc Try.func41 rfl Try.ntmps41 rfl ?_
  repeat (first | refine VC.seq ?_ | refine VC.block ?_ | refine VC.skip ?_)
  refine VC.region ?_
  refine VR.pure rfl rfl (p_assignB rfl) ?_
  refine VR.nil ?_
  repeat (first | refine VC.seq ?_ | refine VC.block ?_ | refine VC.skip ?_)
  refine VC.region ?_
  refine VR.pure rfl rfl (p_assignI rfl) ?_
  refine VR.nil ?_
  repeat (first | refine VC.seq ?_ | refine VC.block ?_ | refine VC.skip ?_)
  refine VC.loop (σ := Unit) (fun _ => [(0, .slice none 0 0), (3, .int .i64 0)]) (fun _ w => Mem F w Ls) (fun _ => 0) () ⟨rfl, rfl, trivial⟩ hm ?_
  clear hm
  rintro _ A' w hm
  repeat (first | refine VC.seq ?_ | refine VC.block ?_ | refine VC.skip ?_)
  refine VC.region ?_
  refine VR.pure rfl rfl (p_moveI rfl) ?_
  refine VR.pure rfl rfl (p_moveL rfl) ?_
  refine VR.pure rfl rfl (p_len Try.underlying64 rfl) ?_
  refine VR.pure rfl rfl (p_lt rfl rfl) ?_
  refine VR.nil ?_
  repeat (first | refine VC.seq ?_ | refine VC.block ?_ | refine VC.skip ?_)
  refine VC.condF rfl rfl ?_
  refine VC.exit ?_
  repeat (first | refine VC.seq ?_ | refine VC.block ?_ | refine VC.skip ?_)
  refine VC.region ?_
  refine VR.pure rfl rfl (p_moveL rfl) ?_
  refine VR.pure rfl rfl (p_len Try.underlying64 rfl) ?_
  refine VR.new hm rfl rfl (n_makeSlice (s := 1) (bytes := 24) Try.underlying64 inf125 rfl rfl rfl rfl rfl (by omega) (by omega)) ?_
  intro gb w hm
  refine VR.pure rfl rfl (p_assignL rfl) ?_
  refine VR.nil ?_
  replace hm := hm.pop
  repeat (first | refine VC.seq ?_ | refine VC.block ?_ | refine VC.skip ?_)
  refine VC.region ?_
  refine VR.pure rfl rfl (p_assignI rfl) ?_
  refine VR.nil ?_
  repeat (first | refine VC.seq ?_ | refine VC.block ?_ | refine VC.skip ?_)
  refine VC.loop (σ := Unit) (fun _ => [(0, .slice none 0 0), (5, .slice (some ⟨gb, 0, none⟩) 0 0), (6, .int .i64 0)]) (fun _ w => Mem F w Ls) (fun _ => 0) () ⟨rfl, rfl, rfl, trivial⟩ hm ?_
  clear hm
  rintro _ A' w hm
  repeat (first | refine VC.seq ?_ | refine VC.block ?_ | refine VC.skip ?_)
  refine VC.region ?_
  refine VR.pure rfl rfl (p_moveI rfl) ?_
  refine VR.pure rfl rfl (p_moveL rfl) ?_
  refine VR.pure rfl rfl (p_len Try.underlying64 rfl) ?_
  refine VR.pure rfl rfl (p_lt rfl rfl) ?_
  refine VR.nil ?_
  repeat (first | refine VC.seq ?_ | refine VC.block ?_ | refine VC.skip ?_)
  refine VC.condF rfl rfl ?_
  refine VC.exit ?_
  repeat (first | refine VC.seq ?_ | refine VC.block ?_ | refine VC.skip ?_)
  refine VC.region ?_
  refine VR.pure rfl rfl (p_assignI rfl) ?_
  refine VR.nil ?_
  repeat (first | refine VC.seq ?_ | refine VC.block ?_ | refine VC.skip ?_)
  refine VC.loop (σ := Unit) (fun _ => [(0, .slice none 0 0), (5, .slice (some ⟨gb, 0, none⟩) 0 0), (9, .int .i64 0)]) (fun _ w => Mem F w Ls) (fun _ => 0) () ⟨rfl, rfl, rfl, trivial⟩ hm ?_
  clear hm
  rintro _ A' w hm
  repeat (first | refine VC.seq ?_ | refine VC.block ?_ | refine VC.skip ?_)
  refine VC.region ?_
  refine VR.pure rfl rfl (p_moveI rfl) ?_
  refine VR.pure rfl rfl (p_moveL rfl) ?_
  refine VR.pure rfl rfl (p_len Try.underlying64 rfl) ?_
  refine VR.pure rfl rfl (p_lt rfl rfl) ?_
  refine VR.nil ?_
  repeat (first | refine VC.seq ?_ | refine VC.block ?_ | refine VC.skip ?_)
  refine VC.condF rfl rfl ?_
  refine VC.exit ?_
  repeat (first | refine VC.seq ?_ | refine VC.block ?_ | refine VC.skip ?_)
  refine VC.region ?_
  refine VR.pure rfl rfl (p_assignI rfl) ?_
  refine VR.nil ?_
  repeat (first | refine VC.seq ?_ | refine VC.block ?_ | refine VC.skip ?_)
  refine VC.loop (σ := Unit) (fun _ => [(0, .slice none 0 0), (5, .slice (some ⟨gb, 0, none⟩) 0 0), (11, .int .i64 0)]) (fun _ w => Mem F w Ls) (fun _ => 0) () ⟨rfl, rfl, rfl, trivial⟩ hm ?_
  clear hm
  rintro _ A' w hm
  repeat (first | refine VC.seq ?_ | refine VC.block ?_ | refine VC.skip ?_)
  refine VC.region ?_
  refine VR.pure rfl rfl (p_moveI rfl) ?_
  refine VR.pure rfl rfl (p_moveL rfl) ?_
  refine VR.pure rfl rfl (p_len Try.underlying64 rfl) ?_
  refine VR.pure rfl rfl (p_lt rfl rfl) ?_
  refine VR.nil ?_
  repeat (first | refine VC.seq ?_ | refine VC.block ?_ | refine VC.skip ?_)
  refine VC.condF rfl rfl ?_
  refine VC.exit ?_
  repeat (first | refine VC.seq ?_ | refine VC.block ?_ | refine VC.skip ?_)
  refine VC.region ?_
  refine VR.pure rfl rfl (p_assignI rfl) ?_
  refine VR.nil ?_
  repeat (first | refine VC.seq ?_ | refine VC.block ?_ | refine VC.skip ?_)
  refine VC.loop (σ := Unit) (fun _ => [(0, .slice none 0 0), (5, .slice (some ⟨gb, 0, none⟩) 0 0), (14, .int .i64 0)]) (fun _ w => Mem F w Ls) (fun _ => 0) () ⟨rfl, rfl, rfl, trivial⟩ hm ?_
  clear hm
  rintro _ A' w hm
  repeat (first | refine VC.seq ?_ | refine VC.block ?_ | refine VC.skip ?_)
  refine VC.region ?_
  refine VR.pure rfl rfl (p_moveI rfl) ?_
  refine VR.pure rfl rfl (p_moveL rfl) ?_
  refine VR.pure rfl rfl (p_len Try.underlying64 rfl) ?_
  refine VR.pure rfl rfl (p_lt rfl rfl) ?_
  refine VR.nil ?_
  repeat (first | refine VC.seq ?_ | refine VC.block ?_ | refine VC.skip ?_)
  refine VC.condF rfl rfl ?_
  refine VC.exit ?_
  repeat (first | refine VC.seq ?_ | refine VC.block ?_ | refine VC.skip ?_)
  refine VC.region ?_
  refine VR.pure rfl rfl (p_assignB rfl) ?_
  refine VR.nil ?_
  repeat (first | refine VC.seq ?_ | refine VC.block ?_ | refine VC.skip ?_)
  refine VC.ret ⟨_, ResOf.r1 (v := .bool _) rfl rfl, ?_⟩
  exact ⟨rfl, hm⟩
theorem flatEnsembles_0 {F : Env} {w : World} {Ls : List Blks} (hm : Mem F w Ls) : Calls Try.prog 42 #[.slice none 0 0] w (Ret fun v w' => v = .bool true ∧ Mem F w' Ls) := by
  refine Calls.of_vc Try.func42 rfl Try.ntmps42 rfl ?_
  repeat (first | refine VC.seq ?_ | refine VC.block ?_ | refine VC.skip ?_)
  refine VC.region ?_
  refine VR.pure rfl rfl (p_assignB rfl) ?_
  refine VR.nil ?_
  repeat (first | refine VC.seq ?_ | refine VC.block ?_ | refine VC.skip ?_)
  refine VC.region ?_
  refine VR.pure rfl rfl (p_assignI rfl) ?_
  refine VR.nil ?_
  repeat (first | refine VC.seq ?_ | refine VC.block ?_ | refine VC.skip ?_)
  refine VC.loop (σ := Unit) (fun _ => [(0, .slice none 0 0), (3, .int .i64 0)]) (fun _ w => Mem F w Ls) (fun _ => 0) () ⟨rfl, rfl, trivial⟩ hm ?_
  clear hm
  rintro _ A' w hm
  repeat (first | refine VC.seq ?_ | refine VC.block ?_ | refine VC.skip ?_)
  refine VC.region ?_
  refine VR.pure rfl rfl (p_moveI rfl) ?_
  refine VR.pure rfl rfl (p_moveL rfl) ?_
  refine VR.pure rfl rfl (p_len Try.underlying65 rfl) ?_
  refine VR.pure rfl rfl (p_lt rfl rfl) ?_
  refine VR.nil ?_
  repeat (first | refine VC.seq ?_ | refine VC.block ?_ | refine VC.skip ?_)
  refine VC.condF rfl rfl ?_
  refine VC.exit ?_
  repeat (first | refine VC.seq ?_ | refine VC.block ?_ | refine VC.skip ?_)
  refine VC.region ?_
  refine VR.pure rfl rfl (p_moveL rfl) ?_
  refine VR.pure rfl rfl (p_len Try.underlying65 rfl) ?_
  refine VR.new hm rfl rfl (n_makeSlice (s := 1) (bytes := 24) Try.underlying65 inf130 rfl rfl rfl rfl rfl (by omega) (by omega)) ?_
  intro gb w hm
  refine VR.pure rfl rfl (p_assignL rfl) ?_
  refine VR.nil ?_
  replace hm := hm.pop
  repeat (first | refine VC.seq ?_ | refine VC.block ?_ | refine VC.skip ?_)
  refine VC.region ?_
  refine VR.pure rfl rfl (p_assignI rfl) ?_
  refine VR.nil ?_
  repeat (first | refine VC.seq ?_ | refine VC.block ?_ | refine VC.skip ?_)
  refine VC.loop (σ := Unit) (fun _ => [(0, .slice none 0 0), (5, .slice (some ⟨gb, 0, none⟩) 0 0), (6, .int .i64 0)]) (fun _ w => Mem F w Ls) (fun _ => 0) () ⟨rfl, rfl, rfl, trivial⟩ hm ?_
  clear hm
  rintro _ A' w hm
  repeat (first | refine VC.seq ?_ | refine VC.block ?_ | refine VC.skip ?_)
  refine VC.region ?_
  refine VR.pure rfl rfl (p_moveI rfl) ?_
  refine VR.pure rfl rfl (p_moveL rfl) ?_
  refine VR.pure rfl rfl (p_len Try.underlying65 rfl) ?_
  refine VR.pure rfl rfl (p_lt rfl rfl) ?_
  refine VR.nil ?_
  repeat (first | refine VC.seq ?_ | refine VC.block ?_ | refine VC.skip ?_)
  refine VC.condF rfl rfl ?_
  refine VC.exit ?_
  repeat (first | refine VC.seq ?_ | refine VC.block ?_ | refine VC.skip ?_)
  refine VC.region ?_
  refine VR.pure rfl rfl (p_assignI rfl) ?_
  refine VR.nil ?_
  repeat (first | refine VC.seq ?_ | refine VC.block ?_ | refine VC.skip ?_)
  refine VC.loop (σ := Unit) (fun _ => [(0, .slice none 0 0), (5, .slice (some ⟨gb, 0, none⟩) 0 0), (9, .int .i64 0)]) (fun _ w => Mem F w Ls) (fun _ => 0) () ⟨rfl, rfl, rfl, trivial⟩ hm ?_
  clear hm
  rintro _ A' w hm
  repeat (first | refine VC.seq ?_ | refine VC.block ?_ | refine VC.skip ?_)
  refine VC.region ?_
  refine VR.pure rfl rfl (p_moveI rfl) ?_
  refine VR.pure rfl rfl (p_moveL rfl) ?_
  refine VR.pure rfl rfl (p_len Try.underlying65 rfl) ?_
  refine VR.pure rfl rfl (p_lt rfl rfl) ?_
  refine VR.nil ?_
  repeat (first | refine VC.seq ?_ | refine VC.block ?_ | refine VC.skip ?_)
  refine VC.condF rfl rfl ?_
  refine VC.exit ?_
  repeat (first | refine VC.seq ?_ | refine VC.block ?_ | refine VC.skip ?_)
  refine VC.region ?_
  refine VR.pure rfl rfl (p_assignI rfl) ?_
  refine VR.nil ?_
  repeat (first | refine VC.seq ?_ | refine VC.block ?_ | refine VC.skip ?_)
  refine VC.loop (σ := Unit) (fun _ => [(0, .slice none 0 0), (5, .slice (some ⟨gb, 0, none⟩) 0 0), (11, .int .i64 0)]) (fun _ w => Mem F w Ls) (fun _ => 0) () ⟨rfl, rfl, rfl, trivial⟩ hm ?_
  clear hm
  rintro _ A' w hm
  repeat (first | refine VC.seq ?_ | refine VC.block ?_ | refine VC.skip ?_)
  refine VC.region ?_
  refine VR.pure rfl rfl (p_moveI rfl) ?_
  refine VR.pure rfl rfl (p_moveL rfl) ?_
  refine VR.pure rfl rfl (p_len Try.underlying65 rfl) ?_
  refine VR.pure rfl rfl (p_lt rfl rfl) ?_
  refine VR.nil ?_
  repeat (first | refine VC.seq ?_ | refine VC.block ?_ | refine VC.skip ?_)
  refine VC.condF rfl rfl ?_
  refine VC.exit ?_
  repeat (first | refine VC.seq ?_ | refine VC.block ?_ | refine VC.skip ?_)
  refine VC.region ?_
  refine VR.pure rfl rfl (p_assignI rfl) ?_
  refine VR.nil ?_
  repeat (first | refine VC.seq ?_ | refine VC.block ?_ | refine VC.skip ?_)
  refine VC.loop (σ := Unit) (fun _ => [(0, .slice none 0 0), (5, .slice (some ⟨gb, 0, none⟩) 0 0), (14, .int .i64 0)]) (fun _ w => Mem F w Ls) (fun _ => 0) () ⟨rfl, rfl, rfl, trivial⟩ hm ?_
  clear hm
  rintro _ A' w hm
  repeat (first | refine VC.seq ?_ | refine VC.block ?_ | refine VC.skip ?_)
  refine VC.region ?_
  refine VR.pure rfl rfl (p_moveI rfl) ?_
  refine VR.pure rfl rfl (p_moveL rfl) ?_
  refine VR.pure rfl rfl (p_len Try.underlying65 rfl) ?_
  refine VR.pure rfl rfl (p_lt rfl rfl) ?_
  refine VR.nil ?_
  repeat (first | refine VC.seq ?_ | refine VC.block ?_ | refine VC.skip ?_)
  refine VC.condF rfl rfl ?_
  refine VC.exit ?_
  repeat (first | refine VC.seq ?_ | refine VC.block ?_ | refine VC.skip ?_)
  refine VC.region ?_
  refine VR.pure rfl rfl (p_assignB rfl) ?_
  refine VR.nil ?_
  repeat (first | refine VC.seq ?_ | refine VC.block ?_ | refine VC.skip ?_)
  refine VC.ret ⟨_, ResOf.r1 (v := .bool _) rfl rfl, ?_⟩
  exact ⟨rfl, hm⟩
theorem flatDeeds_0 {F : Env} {w : World} {Ls : List Blks} (hm : Mem F w Ls) : Calls Try.prog 43 #[.slice none 0 0] w (Ret fun v w' => v = .bool true ∧ Mem F w' Ls) := by
  refine Calls.of_vc Try.func43 rfl Try.ntmps43 rfl ?_
  repeat (first | refine VC.seq ?_ | refine VC.block ?_ | refine VC.skip ?_)
  refine VC.region ?_
  refine VR.pure rfl rfl (p_assignB rfl) ?_
  refine VR.nil ?_
  repeat (first | refine VC.seq ?_ | refine VC.block ?_ | refine VC.skip ?_)
  refine VC.region ?_
  refine VR.pure rfl rfl (p_assignI rfl) ?_
  refine VR.nil ?_
  repeat (first | refine VC.seq ?_ | refine VC.block ?_ | refine VC.skip ?_)
  refine VC.loop (σ := Unit) (fun _ => [(0, .slice none 0 0), (3, .int .i64 0)]) (fun _ w => Mem F w Ls) (fun _ => 0) () ⟨rfl, rfl, trivial⟩ hm ?_
  clear hm
  rintro _ A' w hm
  repeat (first | refine VC.seq ?_ | refine VC.block ?_ | refine VC.skip ?_)
  refine VC.region ?_
  refine VR.pure rfl rfl (p_moveI rfl) ?_
  refine VR.pure rfl rfl (p_moveL rfl) ?_
  refine VR.pure rfl rfl (p_len Try.underlying66 rfl) ?_
  refine VR.pure rfl rfl (p_lt rfl rfl) ?_
  refine VR.nil ?_
  repeat (first | refine VC.seq ?_ | refine VC.block ?_ | refine VC.skip ?_)
  refine VC.condF rfl rfl ?_
  refine VC.exit ?_
  repeat (first | refine VC.seq ?_ | refine VC.block ?_ | refine VC.skip ?_)
  refine VC.region ?_
  refine VR.pure rfl rfl (p_moveL rfl) ?_
  refine VR.pure rfl rfl (p_len Try.underlying66 rfl) ?_
  refine VR.new hm rfl rfl (n_makeSlice (s := 1) (bytes := 24) Try.underlying66 inf135 rfl rfl rfl rfl rfl (by omega) (by omega)) ?_
  intro gb w hm
  refine VR.pure rfl rfl (p_assignL rfl) ?_
  refine VR.nil ?_
  replace hm := hm.pop
  repeat (first | refine VC.seq ?_ | refine VC.block ?_ | refine VC.skip ?_)
  refine VC.region ?_
  refine VR.pure rfl rfl (p_assignI rfl) ?_
  refine VR.nil ?_
  repeat (first | refine VC.seq ?_ | refine VC.block ?_ | refine VC.skip ?_)
  refine VC.loop (σ := Unit) (fun _ => [(0, .slice none 0 0), (5, .slice (some ⟨gb, 0, none⟩) 0 0), (6, .int .i64 0)]) (fun _ w => Mem F w Ls) (fun _ => 0) () ⟨rfl, rfl, rfl, trivial⟩ hm ?_
  clear hm
  rintro _ A' w hm
  repeat (first | refine VC.seq ?_ | refine VC.block ?_ | refine VC.skip ?_)
  refine VC.region ?_
  refine VR.pure rfl rfl (p_moveI rfl) ?_
  refine VR.pure rfl rfl (p_moveL rfl) ?_
  refine VR.pure rfl rfl (p_len Try.underlying66 rfl) ?_
  refine VR.pure rfl rfl (p_lt rfl rfl) ?_
  refine VR.nil ?_
  repeat (first | refine VC.seq ?_ | refine VC.block ?_ | refine VC.skip ?_)
  refine VC.condF rfl rfl ?_
  refine VC.exit ?_
  repeat (first | refine VC.seq ?_ | refine VC.block ?_ | refine VC.skip ?_)
  refine VC.region ?_
  refine VR.pure rfl rfl (p_assignI rfl) ?_
  refine VR.nil ?_
  repeat (first | refine VC.seq ?_ | refine VC.block ?_ | refine VC.skip ?_)
  refine VC.loop (σ := Unit) (fun _ => [(0, .slice none 0 0), (5, .slice (some ⟨gb, 0, none⟩) 0 0), (9, .int .i64 0)]) (fun _ w => Mem F w Ls) (fun _ => 0) () ⟨rfl, rfl, rfl, trivial⟩ hm ?_
  clear hm
  rintro _ A' w hm
  repeat (first | refine VC.seq ?_ | refine VC.block ?_ | refine VC.skip ?_)
  refine VC.region ?_
  refine VR.pure rfl rfl (p_moveI rfl) ?_
  refine VR.pure rfl rfl (p_moveL rfl) ?_
  refine VR.pure rfl rfl (p_len Try.underlying66 rfl) ?_
  refine VR.pure rfl rfl (p_lt rfl rfl) ?_
  refine VR.nil ?_
  repeat (first | refine VC.seq ?_ | refine VC.block ?_ | refine VC.skip ?_)
  refine VC.condF rfl rfl ?_
  refine VC.exit ?_
  repeat (first | refine VC.seq ?_ | refine VC.block ?_ | refine VC.skip ?_)
  refine VC.region ?_
  refine VR.pure rfl rfl (p_assignI rfl) ?_
  refine VR.nil ?_
  repeat (first | refine VC.seq ?_ | refine VC.block ?_ | refine VC.skip ?_)
  refine VC.loop (σ := Unit) (fun _ => [(0, .slice none 0 0), (5, .slice (some ⟨gb, 0, none⟩) 0 0), (11, .int .i64 0)]) (fun _ w => Mem F w Ls) (fun _ => 0) () ⟨rfl, rfl, rfl, trivial⟩ hm ?_
  clear hm
  rintro _ A' w hm
  repeat (first | refine VC.seq ?_ | refine VC.block ?_ | refine VC.skip ?_)
  refine VC.region ?_
  refine VR.pure rfl rfl (p_moveI rfl) ?_
  refine VR.pure rfl rfl (p_moveL rfl) ?_
  refine VR.pure rfl rfl (p_len Try.underlying66 rfl) ?_
  refine VR.pure rfl rfl (p_lt rfl rfl) ?_
  refine VR.nil ?_
  repeat (first | refine VC.seq ?_ | refine VC.block ?_ | refine VC.skip ?_)
  refine VC.condF rfl rfl ?_
  refine VC.exit ?_
  repeat (first | refine VC.seq ?_ | refine VC.block ?_ | refine VC.skip ?_)
  refine VC.region ?_
  refine VR.pure rfl rfl (p_assignI rfl) ?_
  refine VR.nil ?_
  repeat (first | refine VC.seq ?_ | refine VC.block ?_ | refine VC.skip ?_)
  refine VC.loop (σ := Unit) (fun _ => [(0, .slice none 0 0), (5, .slice (some ⟨gb, 0, none⟩) 0 0), (14, .int .i64 0)]) (fun _ w => Mem F w Ls) (fun _ => 0) () ⟨rfl, rfl, rfl, trivial⟩ hm ?_
  clear hm
  rintro _ A' w hm
  repeat (first | refine VC.seq ?_ | refine VC.block ?_ | refine VC.skip ?_)
  refine VC.region ?_
  refine VR.pure rfl rfl (p_moveI rfl) ?_
  refine VR.pure rfl rfl (p_moveL rfl) ?_
  refine VR.pure rfl rfl (p_len Try.underlying66 rfl) ?_
  refine VR.pure rfl rfl (p_lt rfl rfl) ?_
  refine VR.nil ?_
  repeat (first | refine VC.seq ?_ | refine VC.block ?_ | refine VC.skip ?_)
  refine VC.condF rfl rfl ?_
  refine VC.exit ?_
  repeat (first | refine VC.seq ?_ | refine VC.block ?_ | refine VC.skip ?_)
  refine VC.region ?_
  refine VR.pure rfl rfl (p_assignB rfl) ?_
  refine VR.nil ?_
  repeat (first | refine VC.seq ?_ | refine VC.block ?_ | refine VC.skip ?_)
  refine VC.ret ⟨_, ResOf.r1 (v := .bool _) rfl rfl, ?_⟩
  exact ⟨rfl, hm⟩
theorem flatNodes_0 {F : Env} {w : World} {Ls : List Blks} (hm : Mem F w Ls) : Calls Try.prog 44 #[.slice none 0 0] w (Ret fun v w' => v = .bool true ∧ Mem F w' Ls) := by
  refine Calls.of_vc Try.func44 rfl Try.ntmps44 rfl ?_
  repeat (first | refine VC.seq ?_ | refine VC.block ?_ | refine VC.skip ?_)
  refine VC.region ?_
  refine VR.pure rfl rfl (p_assignB rfl) ?_
  refine VR.nil ?_
  repeat (first | refine VC.seq ?_ | refine VC.block ?_ | refine VC.skip ?_)
  refine VC.region ?_
  refine VR.pure rfl rfl (p_assignI rfl) ?_
  refine VR.nil ?_
  repeat (first | refine VC.seq ?_ | refine VC.block ?_ | refine VC.skip ?_)
  refine VC.loop (σ := Unit) (fun _ => [(0, .slice none 0 0), (3, .int .i64 0)]) (fun _ w => Mem F w Ls) (fun _ => 0) () ⟨rfl, rfl, trivial⟩ hm ?_
  clear hm
  rintro _ A' w hm
  repeat (first | refine VC.seq ?_ | refine VC.block ?_ | refine VC.skip ?_)
  refine VC.region ?_
  refine VR.pure rfl rfl (p_moveI rfl) ?_
  refine VR.pure rfl rfl (p_moveL rfl) ?_
  refine VR.pure rfl rfl (p_len Try.underlying67 rfl) ?_
  refine VR.pure rfl rfl (p_lt rfl rfl) ?_
  refine VR.nil ?_
  repeat (first | refine VC.seq ?_ | refine VC.block ?_ | refine VC.skip ?_)
  refine VC.condF rfl rfl ?_
  refine VC.exit ?_
  repeat (first | refine VC.seq ?_ | refine VC.block ?_ | refine VC.skip ?_)
  refine VC.region ?_
  refine VR.pure rfl rfl (p_moveL rfl) ?_
  refine VR.pure rfl rfl (p_len Try.underlying67 rfl) ?_
  refine VR.new hm rfl rfl (n_makeSlice (s := 1) (bytes := 24) Try.underlying67 inf141 rfl rfl rfl rfl rfl (by omega) (by omega)) ?_
  intro gb w hm
  refine VR.pure rfl rfl (p_assignL rfl) ?_
  refine VR.nil ?_
  replace hm := hm.pop
  repeat (first | refine VC.seq ?_ | refine VC.block ?_ | refine VC.skip ?_)
  refine VC.region ?_
  refine VR.pure rfl rfl (p_assignI rfl) ?_
  refine VR.nil ?_
  repeat (first | refine VC.seq ?_ | refine VC.block ?_ | refine VC.skip ?_)
  refine VC.loop (σ := Unit) (fun _ => [(0, .slice none 0 0), (5, .slice (some ⟨gb, 0, none⟩) 0 0), (6, .int .i64 0)]) (fun _ w => Mem F w Ls) (fun _ => 0) () ⟨rfl, rfl, rfl, trivial⟩ hm ?_
  clear hm
  rintro _ A' w hm
  repeat (first | refine VC.seq ?_ | refine VC.block ?_ | refine VC.skip ?_)
  refine VC.region ?_
  refine VR.pure rfl rfl (p_moveI rfl) ?_
  refine VR.pure rfl rfl (p_moveL rfl) ?_
  refine VR.pure rfl rfl (p_len Try.underlying67 rfl) ?_
  refine VR.pure rfl rfl (p_lt rfl rfl) ?_
  refine VR.nil ?_
  repeat (first | refine VC.seq ?_ | refine VC.block ?_ | refine VC.skip ?_)
  refine VC.condF rfl rfl ?_
  refine VC.exit ?_
  repeat (first | refine VC.seq ?_ | refine VC.block ?_ | refine VC.skip ?_)
  refine VC.region ?_
  refine VR.pure rfl rfl (p_assignI rfl) ?_
  refine VR.nil ?_
  repeat (first | refine VC.seq ?_ | refine VC.block ?_ | refine VC.skip ?_)
  refine VC.loop (σ := Unit) (fun _ => [(0, .slice none 0 0), (5, .slice (some ⟨gb, 0, none⟩) 0 0), (9, .int .i64 0)]) (fun _ w => Mem F w Ls) (fun _ => 0) () ⟨rfl, rfl, rfl, trivial⟩ hm ?_
  clear hm
  rintro _ A' w hm
  repeat (first | refine VC.seq ?_ | refine VC.block ?_ | refine VC.skip ?_)
  refine VC.region ?_
  refine VR.pure rfl rfl (p_moveI rfl) ?_
  refine VR.pure rfl rfl (p_moveL rfl) ?_
  refine VR.pure rfl rfl (p_len Try.underlying67 rfl) ?_
  refine VR.pure rfl rfl (p_lt rfl rfl) ?_
  refine VR.nil ?_
  repeat (first | refine VC.seq ?_ | refine VC.block ?_ | refine VC.skip ?_)
  refine VC.condF rfl rfl ?_
  refine VC.exit ?_
  repeat (first | refine VC.seq ?_ | refine VC.block ?_ | refine VC.skip ?_)
  refine VC.region ?_
  refine VR.pure rfl rfl (p_assignI rfl) ?_
  refine VR.nil ?_
  repeat (first | refine VC.seq ?_ | refine VC.block ?_ | refine VC.skip ?_)
  refine VC.loop (σ := Unit) (fun _ => [(0, .slice none 0 0), (5, .slice (some ⟨gb, 0, none⟩) 0 0), (11, .int .i64 0)]) (fun _ w => Mem F w Ls) (fun _ => 0) () ⟨rfl, rfl, rfl, trivial⟩ hm ?_
  clear hm
  rintro _ A' w hm
  repeat (first | refine VC.seq ?_ | refine VC.block ?_ | refine VC.skip ?_)
  refine VC.region ?_
  refine VR.pure rfl rfl (p_moveI rfl) ?_
  refine VR.pure rfl rfl (p_moveL rfl) ?_
  refine VR.pure rfl rfl (p_len Try.underlying67 rfl) ?_
  refine VR.pure rfl rfl (p_lt rfl rfl) ?_
  refine VR.nil ?_
  repeat (first | refine VC.seq ?_ | refine VC.block ?_ | refine VC.skip ?_)
  refine VC.condF rfl rfl ?_
  refine VC.exit ?_
  repeat (first | refine VC.seq ?_ | refine VC.block ?_ | refine VC.skip ?_)
  refine VC.region ?_
  refine VR.pure rfl rfl (p_assignI rfl) ?_
  refine VR.nil ?_
  repeat (first | refine VC.seq ?_ | refine VC.block ?_ | refine VC.skip ?_)
  refine VC.loop (σ := Unit) (fun _ => [(0, .slice none 0 0), (5, .slice (some ⟨gb, 0, none⟩) 0 0), (14, .int .i64 0)]) (fun _ w => Mem F w Ls) (fun _ => 0) () ⟨rfl, rfl, rfl, trivial⟩ hm ?_
  clear hm
  rintro _ A' w hm
  repeat (first | refine VC.seq ?_ | refine VC.block ?_ | refine VC.skip ?_)
  refine VC.region ?_
  refine VR.pure rfl rfl (p_moveI rfl) ?_
  refine VR.pure rfl rfl (p_moveL rfl) ?_
  refine VR.pure rfl rfl (p_len Try.underlying67 rfl) ?_
  refine VR.pure rfl rfl (p_lt rfl rfl) ?_
  refine VR.nil ?_
  repeat (first | refine VC.seq ?_ | refine VC.block ?_ | refine VC.skip ?_)
  refine VC.condF rfl rfl ?_
  refine VC.exit ?_
  repeat (first | refine VC.seq ?_ | refine VC.block ?_ | refine VC.skip ?_)
  refine VC.region ?_
  refine VR.pure rfl rfl (p_assignB rfl) ?_
  refine VR.nil ?_
  repeat (first | refine VC.seq ?_ | refine VC.block ?_ | refine VC.skip ?_)
  refine VC.ret ⟨_, ResOf.r1 (v := .bool _) rfl rfl, ?_⟩
  exact ⟨rfl, hm⟩
theorem flatSittings_0 {F : Env} {w : World} {Ls : List Blks} (hm : Mem F w Ls) : Calls Try.prog 45 #[.slice none 0 0] w (Ret fun v w' => v = .bool true ∧ Mem F w' Ls) := by
  refine Calls.of_vc Try.func45 rfl Try.ntmps45 rfl ?_
  repeat (first | refine VC.seq ?_ | refine VC.block ?_ | refine VC.skip ?_)
  refine VC.region ?_
  refine VR.pure rfl rfl (p_assignB rfl) ?_
  refine VR.nil ?_
  repeat (first | refine VC.seq ?_ | refine VC.block ?_ | refine VC.skip ?_)
  refine VC.region ?_
  refine VR.pure rfl rfl (p_assignI rfl) ?_
  refine VR.nil ?_
  repeat (first | refine VC.seq ?_ | refine VC.block ?_ | refine VC.skip ?_)
  refine VC.loop (σ := Unit) (fun _ => [(0, .slice none 0 0), (3, .int .i64 0)]) (fun _ w => Mem F w Ls) (fun _ => 0) () ⟨rfl, rfl, trivial⟩ hm ?_
  clear hm
  rintro _ A' w hm
  repeat (first | refine VC.seq ?_ | refine VC.block ?_ | refine VC.skip ?_)
  refine VC.region ?_
  refine VR.pure rfl rfl (p_moveI rfl) ?_
  refine VR.pure rfl rfl (p_moveL rfl) ?_
  refine VR.pure rfl rfl (p_len Try.underlying68 rfl) ?_
  refine VR.pure rfl rfl (p_lt rfl rfl) ?_
  refine VR.nil ?_
  repeat (first | refine VC.seq ?_ | refine VC.block ?_ | refine VC.skip ?_)
  refine VC.condF rfl rfl ?_
  refine VC.exit ?_
  repeat (first | refine VC.seq ?_ | refine VC.block ?_ | refine VC.skip ?_)
  refine VC.region ?_
  refine VR.pure rfl rfl (p_moveL rfl) ?_
  refine VR.pure rfl rfl (p_len Try.underlying68 rfl) ?_
  refine VR.new hm rfl rfl (n_makeSlice (s := 1) (bytes := 24) Try.underlying68 inf148 rfl rfl rfl rfl rfl (by omega) (by omega)) ?_
  intro gb w hm
  refine VR.pure rfl rfl (p_assignL rfl) ?_
  refine VR.nil ?_
  replace hm := hm.pop
  repeat (first | refine VC.seq ?_ | refine VC.block ?_ | refine VC.skip ?_)
  refine VC.region ?_
  refine VR.pure rfl rfl (p_assignI rfl) ?_
  refine VR.nil ?_
  repeat (first | refine VC.seq ?_ | refine VC.block ?_ | refine VC.skip ?_)
  refine VC.loop (σ := Unit) (fun _ => [(0, .slice none 0 0), (5, .slice (some ⟨gb, 0, none⟩) 0 0), (6, .int .i64 0)]) (fun _ w => Mem F w Ls) (fun _ => 0) () ⟨rfl, rfl, rfl, trivial⟩ hm ?_
  clear hm
  rintro _ A' w hm
  repeat (first | refine VC.seq ?_ | refine VC.block ?_ | refine VC.skip ?_)
  refine VC.region ?_
  refine VR.pure rfl rfl (p_moveI rfl) ?_
  refine VR.pure rfl rfl (p_moveL rfl) ?_
  refine VR.pure rfl rfl (p_len Try.underlying68 rfl) ?_
  refine VR.pure rfl rfl (p_lt rfl rfl) ?_
  refine VR.nil ?_
  repeat (first | refine VC.seq ?_ | refine VC.block ?_ | refine VC.skip ?_)
  refine VC.condF rfl rfl ?_
  refine VC.exit ?_
  repeat (first | refine VC.seq ?_ | refine VC.block ?_ | refine VC.skip ?_)
  refine VC.region ?_
  refine VR.pure rfl rfl (p_assignI rfl) ?_
  refine VR.nil ?_
  repeat (first | refine VC.seq ?_ | refine VC.block ?_ | refine VC.skip ?_)
  refine VC.loop (σ := Unit) (fun _ => [(0, .slice none 0 0), (5, .slice (some ⟨gb, 0, none⟩) 0 0), (9, .int .i64 0)]) (fun _ w => Mem F w Ls) (fun _ => 0) () ⟨rfl, rfl, rfl, trivial⟩ hm ?_
  clear hm
  rintro _ A' w hm
  repeat (first | refine VC.seq ?_ | refine VC.block ?_ | refine VC.skip ?_)
  refine VC.region ?_
  refine VR.pure rfl rfl (p_moveI rfl) ?_
  refine VR.pure rfl rfl (p_moveL rfl) ?_
  refine VR.pure rfl rfl (p_len Try.underlying68 rfl) ?_
  refine VR.pure rfl rfl (p_lt rfl rfl) ?_
  refine VR.nil ?_
  repeat (first | refine VC.seq ?_ | refine VC.block ?_ | refine VC.skip ?_)
  refine VC.condF rfl rfl ?_
  refine VC.exit ?_
  repeat (first | refine VC.seq ?_ | refine VC.block ?_ | refine VC.skip ?_)
  refine VC.region ?_
  refine VR.pure rfl rfl (p_assignI rfl) ?_
  refine VR.nil ?_
  repeat (first | refine VC.seq ?_ | refine VC.block ?_ | refine VC.skip ?_)
  refine VC.loop (σ := Unit) (fun _ => [(0, .slice none 0 0), (5, .slice (some ⟨gb, 0, none⟩) 0 0), (11, .int .i64 0)]) (fun _ w => Mem F w Ls) (fun _ => 0) () ⟨rfl, rfl, rfl, trivial⟩ hm ?_
  clear hm
  rintro _ A' w hm
  repeat (first | refine VC.seq ?_ | refine VC.block ?_ | refine VC.skip ?_)
  refine VC.region ?_
  refine VR.pure rfl rfl (p_moveI rfl) ?_
  refine VR.pure rfl rfl (p_moveL rfl) ?_
  refine VR.pure rfl rfl (p_len Try.underlying68 rfl) ?_
  refine VR.pure rfl rfl (p_lt rfl rfl) ?_
  refine VR.nil ?_
  repeat (first | refine VC.seq ?_ | refine VC.block ?_ | refine VC.skip ?_)
  refine VC.condF rfl rfl ?_
  refine VC.exit ?_
  repeat (first | refine VC.seq ?_ | refine VC.block ?_ | refine VC.skip ?_)
  refine VC.region ?_
  refine VR.pure rfl rfl (p_assignI rfl) ?_
  refine VR.nil ?_
  repeat (first | refine VC.seq ?_ | refine VC.block ?_ | refine VC.skip ?_)
  refine VC.loop (σ := Unit) (fun _ => [(0, .slice none 0 0), (5, .slice (some ⟨gb, 0, none⟩) 0 0), (14, .int .i64 0)]) (fun _ w => Mem F w Ls) (fun _ => 0) () ⟨rfl, rfl, rfl, trivial⟩ hm ?_
  clear hm
  rintro _ A' w hm
  repeat (first | refine VC.seq ?_ | refine VC.block ?_ | refine VC.skip ?_)
  refine VC.region ?_
  refine VR.pure rfl rfl (p_moveI rfl) ?_
  refine VR.pure rfl rfl (p_moveL rfl) ?_
  refine VR.pure rfl rfl (p_len Try.underlying68 rfl) ?_
  refine VR.pure rfl rfl (p_lt rfl rfl) ?_
  refine VR.nil ?_
  repeat (first | refine VC.seq ?_ | refine VC.block ?_ | refine VC.skip ?_)
  refine VC.condF rfl rfl ?_
  refine VC.exit ?_
  repeat (first | refine VC.seq ?_ | refine VC.block ?_ | refine VC.skip ?_)
  refine VC.region ?_
  refine VR.pure rfl rfl (p_assignB rfl) ?_
  refine VR.nil ?_
  repeat (first | refine VC.seq ?_ | refine VC.block ?_ | refine VC.skip ?_)
  refine VC.ret ⟨_, ResOf.r1 (v := .bool _) rfl rfl, ?_⟩
  exact ⟨rfl, hm⟩
theorem flatAsks_0 {F : Env} {w : World} {Ls : List Blks} (hm : Mem F w Ls) : Calls Try.prog 46 #[.slice none 0 0] w (Ret fun v w' => v = .bool true ∧ Mem F w' Ls) := by
  refine Calls.of_vc Try.func46 rfl Try.ntmps46 rfl ?_
  repeat (first | refine VC.seq ?_ | refine VC.block ?_ | refine VC.skip ?_)
  refine VC.region ?_
  refine VR.pure rfl rfl (p_assignB rfl) ?_
  refine VR.nil ?_
  repeat (first | refine VC.seq ?_ | refine VC.block ?_ | refine VC.skip ?_)
  refine VC.region ?_
  refine VR.pure rfl rfl (p_assignI rfl) ?_
  refine VR.nil ?_
  repeat (first | refine VC.seq ?_ | refine VC.block ?_ | refine VC.skip ?_)
  refine VC.loop (σ := Unit) (fun _ => [(0, .slice none 0 0), (3, .int .i64 0)]) (fun _ w => Mem F w Ls) (fun _ => 0) () ⟨rfl, rfl, trivial⟩ hm ?_
  clear hm
  rintro _ A' w hm
  repeat (first | refine VC.seq ?_ | refine VC.block ?_ | refine VC.skip ?_)
  refine VC.region ?_
  refine VR.pure rfl rfl (p_moveI rfl) ?_
  refine VR.pure rfl rfl (p_moveL rfl) ?_
  refine VR.pure rfl rfl (p_len Try.underlying69 rfl) ?_
  refine VR.pure rfl rfl (p_lt rfl rfl) ?_
  refine VR.nil ?_
  repeat (first | refine VC.seq ?_ | refine VC.block ?_ | refine VC.skip ?_)
  refine VC.condF rfl rfl ?_
  refine VC.exit ?_
  repeat (first | refine VC.seq ?_ | refine VC.block ?_ | refine VC.skip ?_)
  refine VC.region ?_
  refine VR.pure rfl rfl (p_moveL rfl) ?_
  refine VR.pure rfl rfl (p_len Try.underlying69 rfl) ?_
  refine VR.new hm rfl rfl (n_makeSlice (s := 1) (bytes := 24) Try.underlying69 inf152 rfl rfl rfl rfl rfl (by omega) (by omega)) ?_
  intro gb w hm
  refine VR.pure rfl rfl (p_assignL rfl) ?_
  refine VR.nil ?_
  replace hm := hm.pop
  repeat (first | refine VC.seq ?_ | refine VC.block ?_ | refine VC.skip ?_)
  refine VC.region ?_
  refine VR.pure rfl rfl (p_assignI rfl) ?_
  refine VR.nil ?_
  repeat (first | refine VC.seq ?_ | refine VC.block ?_ | refine VC.skip ?_)
  refine VC.loop (σ := Unit) (fun _ => [(0, .slice none 0 0), (5, .slice (some ⟨gb, 0, none⟩) 0 0), (6, .int .i64 0)]) (fun _ w => Mem F w Ls) (fun _ => 0) () ⟨rfl, rfl, rfl, trivial⟩ hm ?_
  clear hm
  rintro _ A' w hm
  repeat (first | refine VC.seq ?_ | refine VC.block ?_ | refine VC.skip ?_)
  refine VC.region ?_
  refine VR.pure rfl rfl (p_moveI rfl) ?_
  refine VR.pure rfl rfl (p_moveL rfl) ?_
  refine VR.pure rfl rfl (p_len Try.underlying69 rfl) ?_
  refine VR.pure rfl rfl (p_lt rfl rfl) ?_
  refine VR.nil ?_
  repeat (first | refine VC.seq ?_ | refine VC.block ?_ | refine VC.skip ?_)
  refine VC.condF rfl rfl ?_
  refine VC.exit ?_
  repeat (first | refine VC.seq ?_ | refine VC.block ?_ | refine VC.skip ?_)
  refine VC.region ?_
  refine VR.pure rfl rfl (p_assignI rfl) ?_
  refine VR.nil ?_
  repeat (first | refine VC.seq ?_ | refine VC.block ?_ | refine VC.skip ?_)
  refine VC.loop (σ := Unit) (fun _ => [(0, .slice none 0 0), (5, .slice (some ⟨gb, 0, none⟩) 0 0), (9, .int .i64 0)]) (fun _ w => Mem F w Ls) (fun _ => 0) () ⟨rfl, rfl, rfl, trivial⟩ hm ?_
  clear hm
  rintro _ A' w hm
  repeat (first | refine VC.seq ?_ | refine VC.block ?_ | refine VC.skip ?_)
  refine VC.region ?_
  refine VR.pure rfl rfl (p_moveI rfl) ?_
  refine VR.pure rfl rfl (p_moveL rfl) ?_
  refine VR.pure rfl rfl (p_len Try.underlying69 rfl) ?_
  refine VR.pure rfl rfl (p_lt rfl rfl) ?_
  refine VR.nil ?_
  repeat (first | refine VC.seq ?_ | refine VC.block ?_ | refine VC.skip ?_)
  refine VC.condF rfl rfl ?_
  refine VC.exit ?_
  repeat (first | refine VC.seq ?_ | refine VC.block ?_ | refine VC.skip ?_)
  refine VC.region ?_
  refine VR.pure rfl rfl (p_assignI rfl) ?_
  refine VR.nil ?_
  repeat (first | refine VC.seq ?_ | refine VC.block ?_ | refine VC.skip ?_)
  refine VC.loop (σ := Unit) (fun _ => [(0, .slice none 0 0), (5, .slice (some ⟨gb, 0, none⟩) 0 0), (11, .int .i64 0)]) (fun _ w => Mem F w Ls) (fun _ => 0) () ⟨rfl, rfl, rfl, trivial⟩ hm ?_
  clear hm
  rintro _ A' w hm
  repeat (first | refine VC.seq ?_ | refine VC.block ?_ | refine VC.skip ?_)
  refine VC.region ?_
  refine VR.pure rfl rfl (p_moveI rfl) ?_
  refine VR.pure rfl rfl (p_moveL rfl) ?_
  refine VR.pure rfl rfl (p_len Try.underlying69 rfl) ?_
  refine VR.pure rfl rfl (p_lt rfl rfl) ?_
  refine VR.nil ?_
  repeat (first | refine VC.seq ?_ | refine VC.block ?_ | refine VC.skip ?_)
  refine VC.condF rfl rfl ?_
  refine VC.exit ?_
  repeat (first | refine VC.seq ?_ | refine VC.block ?_ | refine VC.skip ?_)
  refine VC.region ?_
  refine VR.pure rfl rfl (p_assignI rfl) ?_
  refine VR.nil ?_
  repeat (first | refine VC.seq ?_ | refine VC.block ?_ | refine VC.skip ?_)
  refine VC.loop (σ := Unit) (fun _ => [(0, .slice none 0 0), (5, .slice (some ⟨gb, 0, none⟩) 0 0), (14, .int .i64 0)]) (fun _ w => Mem F w Ls) (fun _ => 0) () ⟨rfl, rfl, rfl, trivial⟩ hm ?_
  clear hm
  rintro _ A' w hm
  repeat (first | refine VC.seq ?_ | refine VC.block ?_ | refine VC.skip ?_)
  refine VC.region ?_
  refine VR.pure rfl rfl (p_moveI rfl) ?_
  refine VR.pure rfl rfl (p_moveL rfl) ?_
  refine VR.pure rfl rfl (p_len Try.underlying69 rfl) ?_
  refine VR.pure rfl rfl (p_lt rfl rfl) ?_
  refine VR.nil ?_
  repeat (first | refine VC.seq ?_ | refine VC.block ?_ | refine VC.skip ?_)
  refine VC.condF rfl rfl ?_
  refine VC.exit ?_
  repeat (first | refine VC.seq ?_ | refine VC.block ?_ | refine VC.skip ?_)
  refine VC.region ?_
  refine VR.pure rfl rfl (p_assignB rfl) ?_
  refine VR.nil ?_
  repeat (first | refine VC.seq ?_ | refine VC.block ?_ | refine VC.skip ?_)
  refine VC.ret ⟨_, ResOf.r1 (v := .bool _) rfl rfl, ?_⟩
  exact ⟨rfl, hm⟩
theorem flatReplies_0 {F : Env} {w : World} {Ls : List Blks} (hm : Mem F w Ls) : Calls Try.prog 47 #[.slice none 0 0] w (Ret fun v w' => v = .bool true ∧ Mem F w' Ls) := by
  refine Calls.of_vc Try.func47 rfl Try.ntmps47 rfl ?_
  repeat (first | refine VC.seq ?_ | refine VC.block ?_ | refine VC.skip ?_)
  refine VC.region ?_
  refine VR.pure rfl rfl (p_assignB rfl) ?_
  refine VR.nil ?_
  repeat (first | refine VC.seq ?_ | refine VC.block ?_ | refine VC.skip ?_)
  refine VC.region ?_
  refine VR.pure rfl rfl (p_assignI rfl) ?_
  refine VR.nil ?_
  repeat (first | refine VC.seq ?_ | refine VC.block ?_ | refine VC.skip ?_)
  refine VC.loop (σ := Unit) (fun _ => [(0, .slice none 0 0), (3, .int .i64 0)]) (fun _ w => Mem F w Ls) (fun _ => 0) () ⟨rfl, rfl, trivial⟩ hm ?_
  clear hm
  rintro _ A' w hm
  repeat (first | refine VC.seq ?_ | refine VC.block ?_ | refine VC.skip ?_)
  refine VC.region ?_
  refine VR.pure rfl rfl (p_moveI rfl) ?_
  refine VR.pure rfl rfl (p_moveL rfl) ?_
  refine VR.pure rfl rfl (p_len Try.underlying70 rfl) ?_
  refine VR.pure rfl rfl (p_lt rfl rfl) ?_
  refine VR.nil ?_
  repeat (first | refine VC.seq ?_ | refine VC.block ?_ | refine VC.skip ?_)
  refine VC.condF rfl rfl ?_
  refine VC.exit ?_
  repeat (first | refine VC.seq ?_ | refine VC.block ?_ | refine VC.skip ?_)
  refine VC.region ?_
  refine VR.pure rfl rfl (p_moveL rfl) ?_
  refine VR.pure rfl rfl (p_len Try.underlying70 rfl) ?_
  refine VR.new hm rfl rfl (n_makeSlice (s := 1) (bytes := 24) Try.underlying70 inf159 rfl rfl rfl rfl rfl (by omega) (by omega)) ?_
  intro gb w hm
  refine VR.pure rfl rfl (p_assignL rfl) ?_
  refine VR.nil ?_
  replace hm := hm.pop
  repeat (first | refine VC.seq ?_ | refine VC.block ?_ | refine VC.skip ?_)
  refine VC.region ?_
  refine VR.pure rfl rfl (p_assignI rfl) ?_
  refine VR.nil ?_
  repeat (first | refine VC.seq ?_ | refine VC.block ?_ | refine VC.skip ?_)
  refine VC.loop (σ := Unit) (fun _ => [(0, .slice none 0 0), (5, .slice (some ⟨gb, 0, none⟩) 0 0), (6, .int .i64 0)]) (fun _ w => Mem F w Ls) (fun _ => 0) () ⟨rfl, rfl, rfl, trivial⟩ hm ?_
  clear hm
  rintro _ A' w hm
  repeat (first | refine VC.seq ?_ | refine VC.block ?_ | refine VC.skip ?_)
  refine VC.region ?_
  refine VR.pure rfl rfl (p_moveI rfl) ?_
  refine VR.pure rfl rfl (p_moveL rfl) ?_
  refine VR.pure rfl rfl (p_len Try.underlying70 rfl) ?_
  refine VR.pure rfl rfl (p_lt rfl rfl) ?_
  refine VR.nil ?_
  repeat (first | refine VC.seq ?_ | refine VC.block ?_ | refine VC.skip ?_)
  refine VC.condF rfl rfl ?_
  refine VC.exit ?_
  repeat (first | refine VC.seq ?_ | refine VC.block ?_ | refine VC.skip ?_)
  refine VC.region ?_
  refine VR.pure rfl rfl (p_assignI rfl) ?_
  refine VR.nil ?_
  repeat (first | refine VC.seq ?_ | refine VC.block ?_ | refine VC.skip ?_)
  refine VC.loop (σ := Unit) (fun _ => [(0, .slice none 0 0), (5, .slice (some ⟨gb, 0, none⟩) 0 0), (9, .int .i64 0)]) (fun _ w => Mem F w Ls) (fun _ => 0) () ⟨rfl, rfl, rfl, trivial⟩ hm ?_
  clear hm
  rintro _ A' w hm
  repeat (first | refine VC.seq ?_ | refine VC.block ?_ | refine VC.skip ?_)
  refine VC.region ?_
  refine VR.pure rfl rfl (p_moveI rfl) ?_
  refine VR.pure rfl rfl (p_moveL rfl) ?_
  refine VR.pure rfl rfl (p_len Try.underlying70 rfl) ?_
  refine VR.pure rfl rfl (p_lt rfl rfl) ?_
  refine VR.nil ?_
  repeat (first | refine VC.seq ?_ | refine VC.block ?_ | refine VC.skip ?_)
  refine VC.condF rfl rfl ?_
  refine VC.exit ?_
  repeat (first | refine VC.seq ?_ | refine VC.block ?_ | refine VC.skip ?_)
  refine VC.region ?_
  refine VR.pure rfl rfl (p_assignI rfl) ?_
  refine VR.nil ?_
  repeat (first | refine VC.seq ?_ | refine VC.block ?_ | refine VC.skip ?_)
  refine VC.loop (σ := Unit) (fun _ => [(0, .slice none 0 0), (5, .slice (some ⟨gb, 0, none⟩) 0 0), (11, .int .i64 0)]) (fun _ w => Mem F w Ls) (fun _ => 0) () ⟨rfl, rfl, rfl, trivial⟩ hm ?_
  clear hm
  rintro _ A' w hm
  repeat (first | refine VC.seq ?_ | refine VC.block ?_ | refine VC.skip ?_)
  refine VC.region ?_
  refine VR.pure rfl rfl (p_moveI rfl) ?_
  refine VR.pure rfl rfl (p_moveL rfl) ?_
  refine VR.pure rfl rfl (p_len Try.underlying70 rfl) ?_
  refine VR.pure rfl rfl (p_lt rfl rfl) ?_
  refine VR.nil ?_
  repeat (first | refine VC.seq ?_ | refine VC.block ?_ | refine VC.skip ?_)
  refine VC.condF rfl rfl ?_
  refine VC.exit ?_
  repeat (first | refine VC.seq ?_ | refine VC.block ?_ | refine VC.skip ?_)
  refine VC.region ?_
  refine VR.pure rfl rfl (p_assignI rfl) ?_
  refine VR.nil ?_
  repeat (first | refine VC.seq ?_ | refine VC.block ?_ | refine VC.skip ?_)
  refine VC.loop (σ := Unit) (fun _ => [(0, .slice none 0 0), (5, .slice (some ⟨gb, 0, none⟩) 0 0), (14, .int .i64 0)]) (fun _ w => Mem F w Ls) (fun _ => 0) () ⟨rfl, rfl, rfl, trivial⟩ hm ?_
  clear hm
  rintro _ A' w hm
  repeat (first | refine VC.seq ?_ | refine VC.block ?_ | refine VC.skip ?_)
  refine VC.region ?_
  refine VR.pure rfl rfl (p_moveI rfl) ?_
  refine VR.pure rfl rfl (p_moveL rfl) ?_
  refine VR.pure rfl rfl (p_len Try.underlying70 rfl) ?_
  refine VR.pure rfl rfl (p_lt rfl rfl) ?_
  refine VR.nil ?_
  repeat (first | refine VC.seq ?_ | refine VC.block ?_ | refine VC.skip ?_)
  refine VC.condF rfl rfl ?_
  refine VC.exit ?_
  repeat (first | refine VC.seq ?_ | refine VC.block ?_ | refine VC.skip ?_)
  refine VC.region ?_
  refine VR.pure rfl rfl (p_assignB rfl) ?_
  refine VR.nil ?_
  repeat (first | refine VC.seq ?_ | refine VC.block ?_ | refine VC.skip ?_)
  refine VC.ret ⟨_, ResOf.r1 (v := .bool _) rfl rfl, ?_⟩
  exact ⟨rfl, hm⟩
theorem flatEvents_0 {F : Env} {w : World} {Ls : List Blks} (hm : Mem F w Ls) : Calls Try.prog 48 #[.slice none 0 0] w (Ret fun v w' => v = .bool true ∧ Mem F w' Ls) := by
  refine Calls.of_vc Try.func48 rfl Try.ntmps48 rfl ?_
  repeat (first | refine VC.seq ?_ | refine VC.block ?_ | refine VC.skip ?_)
  refine VC.region ?_
  refine VR.pure rfl rfl (p_assignB rfl) ?_
  refine VR.nil ?_
  repeat (first | refine VC.seq ?_ | refine VC.block ?_ | refine VC.skip ?_)
  refine VC.region ?_
  refine VR.pure rfl rfl (p_assignI rfl) ?_
  refine VR.nil ?_
  repeat (first | refine VC.seq ?_ | refine VC.block ?_ | refine VC.skip ?_)
  refine VC.loop (σ := Unit) (fun _ => [(0, .slice none 0 0), (3, .int .i64 0)]) (fun _ w => Mem F w Ls) (fun _ => 0) () ⟨rfl, rfl, trivial⟩ hm ?_
  clear hm
  rintro _ A' w hm
  repeat (first | refine VC.seq ?_ | refine VC.block ?_ | refine VC.skip ?_)
  refine VC.region ?_
  refine VR.pure rfl rfl (p_moveI rfl) ?_
  refine VR.pure rfl rfl (p_moveL rfl) ?_
  refine VR.pure rfl rfl (p_len Try.underlying71 rfl) ?_
  refine VR.pure rfl rfl (p_lt rfl rfl) ?_
  refine VR.nil ?_
  repeat (first | refine VC.seq ?_ | refine VC.block ?_ | refine VC.skip ?_)
  refine VC.condF rfl rfl ?_
  refine VC.exit ?_
  repeat (first | refine VC.seq ?_ | refine VC.block ?_ | refine VC.skip ?_)
  refine VC.region ?_
  refine VR.pure rfl rfl (p_moveL rfl) ?_
  refine VR.pure rfl rfl (p_len Try.underlying71 rfl) ?_
  refine VR.new hm rfl rfl (n_makeSlice (s := 1) (bytes := 24) Try.underlying71 inf164 rfl rfl rfl rfl rfl (by omega) (by omega)) ?_
  intro gb w hm
  refine VR.pure rfl rfl (p_assignL rfl) ?_
  refine VR.nil ?_
  replace hm := hm.pop
  repeat (first | refine VC.seq ?_ | refine VC.block ?_ | refine VC.skip ?_)
  refine VC.region ?_
  refine VR.pure rfl rfl (p_assignI rfl) ?_
  refine VR.nil ?_
  repeat (first | refine VC.seq ?_ | refine VC.block ?_ | refine VC.skip ?_)
  refine VC.loop (σ := Unit) (fun _ => [(0, .slice none 0 0), (5, .slice (some ⟨gb, 0, none⟩) 0 0), (6, .int .i64 0)]) (fun _ w => Mem F w Ls) (fun _ => 0) () ⟨rfl, rfl, rfl, trivial⟩ hm ?_
  clear hm
  rintro _ A' w hm
  repeat (first | refine VC.seq ?_ | refine VC.block ?_ | refine VC.skip ?_)
  refine VC.region ?_
  refine VR.pure rfl rfl (p_moveI rfl) ?_
  refine VR.pure rfl rfl (p_moveL rfl) ?_
  refine VR.pure rfl rfl (p_len Try.underlying71 rfl) ?_
  refine VR.pure rfl rfl (p_lt rfl rfl) ?_
  refine VR.nil ?_
  repeat (first | refine VC.seq ?_ | refine VC.block ?_ | refine VC.skip ?_)
  refine VC.condF rfl rfl ?_
  refine VC.exit ?_
  repeat (first | refine VC.seq ?_ | refine VC.block ?_ | refine VC.skip ?_)
  refine VC.region ?_
  refine VR.pure rfl rfl (p_assignI rfl) ?_
  refine VR.nil ?_
  repeat (first | refine VC.seq ?_ | refine VC.block ?_ | refine VC.skip ?_)
  refine VC.loop (σ := Unit) (fun _ => [(0, .slice none 0 0), (5, .slice (some ⟨gb, 0, none⟩) 0 0), (9, .int .i64 0)]) (fun _ w => Mem F w Ls) (fun _ => 0) () ⟨rfl, rfl, rfl, trivial⟩ hm ?_
  clear hm
  rintro _ A' w hm
  repeat (first | refine VC.seq ?_ | refine VC.block ?_ | refine VC.skip ?_)
  refine VC.region ?_
  refine VR.pure rfl rfl (p_moveI rfl) ?_
  refine VR.pure rfl rfl (p_moveL rfl) ?_
  refine VR.pure rfl rfl (p_len Try.underlying71 rfl) ?_
  refine VR.pure rfl rfl (p_lt rfl rfl) ?_
  refine VR.nil ?_
  repeat (first | refine VC.seq ?_ | refine VC.block ?_ | refine VC.skip ?_)
  refine VC.condF rfl rfl ?_
  refine VC.exit ?_
  repeat (first | refine VC.seq ?_ | refine VC.block ?_ | refine VC.skip ?_)
  refine VC.region ?_
  refine VR.pure rfl rfl (p_assignI rfl) ?_
  refine VR.nil ?_
  repeat (first | refine VC.seq ?_ | refine VC.block ?_ | refine VC.skip ?_)
  refine VC.loop (σ := Unit) (fun _ => [(0, .slice none 0 0), (5, .slice (some ⟨gb, 0, none⟩) 0 0), (11, .int .i64 0)]) (fun _ w => Mem F w Ls) (fun _ => 0) () ⟨rfl, rfl, rfl, trivial⟩ hm ?_
  clear hm
  rintro _ A' w hm
  repeat (first | refine VC.seq ?_ | refine VC.block ?_ | refine VC.skip ?_)
  refine VC.region ?_
  refine VR.pure rfl rfl (p_moveI rfl) ?_
  refine VR.pure rfl rfl (p_moveL rfl) ?_
  refine VR.pure rfl rfl (p_len Try.underlying71 rfl) ?_
  refine VR.pure rfl rfl (p_lt rfl rfl) ?_
  refine VR.nil ?_
  repeat (first | refine VC.seq ?_ | refine VC.block ?_ | refine VC.skip ?_)
  refine VC.condF rfl rfl ?_
  refine VC.exit ?_
  repeat (first | refine VC.seq ?_ | refine VC.block ?_ | refine VC.skip ?_)
  refine VC.region ?_
  refine VR.pure rfl rfl (p_assignI rfl) ?_
  refine VR.nil ?_
  repeat (first | refine VC.seq ?_ | refine VC.block ?_ | refine VC.skip ?_)
  refine VC.loop (σ := Unit) (fun _ => [(0, .slice none 0 0), (5, .slice (some ⟨gb, 0, none⟩) 0 0), (14, .int .i64 0)]) (fun _ w => Mem F w Ls) (fun _ => 0) () ⟨rfl, rfl, rfl, trivial⟩ hm ?_
  clear hm
  rintro _ A' w hm
  repeat (first | refine VC.seq ?_ | refine VC.block ?_ | refine VC.skip ?_)
  refine VC.region ?_
  refine VR.pure rfl rfl (p_moveI rfl) ?_
  refine VR.pure rfl rfl (p_moveL rfl) ?_
  refine VR.pure rfl rfl (p_len Try.underlying71 rfl) ?_
  refine VR.pure rfl rfl (p_lt rfl rfl) ?_
  refine VR.nil ?_
  repeat (first | refine VC.seq ?_ | refine VC.block ?_ | refine VC.skip ?_)
  refine VC.condF rfl rfl ?_
  refine VC.exit ?_
  repeat (first | refine VC.seq ?_ | refine VC.block ?_ | refine VC.skip ?_)
  refine VC.region ?_
  refine VR.pure rfl rfl (p_assignB rfl) ?_
  refine VR.nil ?_
  repeat (first | refine VC.seq ?_ | refine VC.block ?_ | refine VC.skip ?_)
  refine VC.ret ⟨_, ResOf.r1 (v := .bool _) rfl rfl, ?_⟩
  exact ⟨rfl, hm⟩
theorem flatLetters_0 {F : Env} {w : World} {Ls : List Blks} (hm : Mem F w Ls) : Calls Try.prog 49 #[.slice none 0 0] w (Ret fun v w' => v = .bool true ∧ Mem F w' Ls) := by
  refine Calls.of_vc Try.func49 rfl Try.ntmps49 rfl ?_
  repeat (first | refine VC.seq ?_ | refine VC.block ?_ | refine VC.skip ?_)
  refine VC.region ?_
  refine VR.pure rfl rfl (p_assignB rfl) ?_
  refine VR.nil ?_
  repeat (first | refine VC.seq ?_ | refine VC.block ?_ | refine VC.skip ?_)
  refine VC.region ?_
  refine VR.pure rfl rfl (p_assignI rfl) ?_
  refine VR.nil ?_
  repeat (first | refine VC.seq ?_ | refine VC.block ?_ | refine VC.skip ?_)
  refine VC.loop (σ := Unit) (fun _ => [(0, .slice none 0 0), (3, .int .i64 0)]) (fun _ w => Mem F w Ls) (fun _ => 0) () ⟨rfl, rfl, trivial⟩ hm ?_
  clear hm
  rintro _ A' w hm
  repeat (first | refine VC.seq ?_ | refine VC.block ?_ | refine VC.skip ?_)
  refine VC.region ?_
  refine VR.pure rfl rfl (p_moveI rfl) ?_
  refine VR.pure rfl rfl (p_moveL rfl) ?_
  refine VR.pure rfl rfl (p_len Try.underlying72 rfl) ?_
  refine VR.pure rfl rfl (p_lt rfl rfl) ?_
  refine VR.nil ?_
  repeat (first | refine VC.seq ?_ | refine VC.block ?_ | refine VC.skip ?_)
  refine VC.condF rfl rfl ?_
  refine VC.exit ?_
  repeat (first | refine VC.seq ?_ | refine VC.block ?_ | refine VC.skip ?_)
  refine VC.region ?_
  refine VR.pure rfl rfl (p_moveL rfl) ?_
  refine VR.pure rfl rfl (p_len Try.underlying72 rfl) ?_
  refine VR.new hm rfl rfl (n_makeSlice (s := 1) (bytes := 24) Try.underlying72 inf169 rfl rfl rfl rfl rfl (by omega) (by omega)) ?_
  intro gb w hm
  refine VR.pure rfl rfl (p_assignL rfl) ?_
  refine VR.nil ?_
  replace hm := hm.pop
  repeat (first | refine VC.seq ?_ | refine VC.block ?_ | refine VC.skip ?_)
  refine VC.region ?_
  refine VR.pure rfl rfl (p_assignI rfl) ?_
  refine VR.nil ?_
  repeat (first | refine VC.seq ?_ | refine VC.block ?_ | refine VC.skip ?_)
  refine VC.loop (σ := Unit) (fun _ => [(0, .slice none 0 0), (5, .slice (some ⟨gb, 0, none⟩) 0 0), (6, .int .i64 0)]) (fun _ w => Mem F w Ls) (fun _ => 0) () ⟨rfl, rfl, rfl, trivial⟩ hm ?_
  clear hm
  rintro _ A' w hm
  repeat (first | refine VC.seq ?_ | refine VC.block ?_ | refine VC.skip ?_)
  refine VC.region ?_
  refine VR.pure rfl rfl (p_moveI rfl) ?_
  refine VR.pure rfl rfl (p_moveL rfl) ?_
  refine VR.pure rfl rfl (p_len Try.underlying72 rfl) ?_
  refine VR.pure rfl rfl (p_lt rfl rfl) ?_
  refine VR.nil ?_
  repeat (first | refine VC.seq ?_ | refine VC.block ?_ | refine VC.skip ?_)
  refine VC.condF rfl rfl ?_
  refine VC.exit ?_
  repeat (first | refine VC.seq ?_ | refine VC.block ?_ | refine VC.skip ?_)
  refine VC.region ?_
  refine VR.pure rfl rfl (p_assignI rfl) ?_
  refine VR.nil ?_
  repeat (first | refine VC.seq ?_ | refine VC.block ?_ | refine VC.skip ?_)
  refine VC.loop (σ := Unit) (fun _ => [(0, .slice none 0 0), (5, .slice (some ⟨gb, 0, none⟩) 0 0), (9, .int .i64 0)]) (fun _ w => Mem F w Ls) (fun _ => 0) () ⟨rfl, rfl, rfl, trivial⟩ hm ?_
  clear hm
  rintro _ A' w hm
  repeat (first | refine VC.seq ?_ | refine VC.block ?_ | refine VC.skip ?_)
  refine VC.region ?_
  refine VR.pure rfl rfl (p_moveI rfl) ?_
  refine VR.pure rfl rfl (p_moveL rfl) ?_
  refine VR.pure rfl rfl (p_len Try.underlying72 rfl) ?_
  refine VR.pure rfl rfl (p_lt rfl rfl) ?_
  refine VR.nil ?_
  repeat (first | refine VC.seq ?_ | refine VC.block ?_ | refine VC.skip ?_)
  refine VC.condF rfl rfl ?_
  refine VC.exit ?_
  repeat (first | refine VC.seq ?_ | refine VC.block ?_ | refine VC.skip ?_)
  refine VC.region ?_
  refine VR.pure rfl rfl (p_assignI rfl) ?_
  refine VR.nil ?_
  repeat (first | refine VC.seq ?_ | refine VC.block ?_ | refine VC.skip ?_)
  refine VC.loop (σ := Unit) (fun _ => [(0, .slice none 0 0), (5, .slice (some ⟨gb, 0, none⟩) 0 0), (11, .int .i64 0)]) (fun _ w => Mem F w Ls) (fun _ => 0) () ⟨rfl, rfl, rfl, trivial⟩ hm ?_
  clear hm
  rintro _ A' w hm
  repeat (first | refine VC.seq ?_ | refine VC.block ?_ | refine VC.skip ?_)
  refine VC.region ?_
  refine VR.pure rfl rfl (p_moveI rfl) ?_
  refine VR.pure rfl rfl (p_moveL rfl) ?_
  refine VR.pure rfl rfl (p_len Try.underlying72 rfl) ?_
  refine VR.pure rfl rfl (p_lt rfl rfl) ?_
  refine VR.nil ?_
  repeat (first | refine VC.seq ?_ | refine VC.block ?_ | refine VC.skip ?_)
  refine VC.condF rfl rfl ?_
  refine VC.exit ?_
  repeat (first | refine VC.seq ?_ | refine VC.block ?_ | refine VC.skip ?_)
  refine VC.region ?_
  refine VR.pure rfl rfl (p_assignI rfl) ?_
  refine VR.nil ?_
  repeat (first | refine VC.seq ?_ | refine VC.block ?_ | refine VC.skip ?_)
  refine VC.loop (σ := Unit) (fun _ => [(0, .slice none 0 0), (5, .slice (some ⟨gb, 0, none⟩) 0 0), (14, .int .i64 0)]) (fun _ w => Mem F w Ls) (fun _ => 0) () ⟨rfl, rfl, rfl, trivial⟩ hm ?_
  clear hm
  rintro _ A' w hm
  repeat (first | refine VC.seq ?_ | refine VC.block ?_ | refine VC.skip ?_)
  refine VC.region ?_
  refine VR.pure rfl rfl (p_moveI rfl) ?_
  refine VR.pure rfl rfl (p_moveL rfl) ?_
  refine VR.pure rfl rfl (p_len Try.underlying72 rfl) ?_
  refine VR.pure rfl rfl (p_lt rfl rfl) ?_
  refine VR.nil ?_
  repeat (first | refine VC.seq ?_ | refine VC.block ?_ | refine VC.skip ?_)
  refine VC.condF rfl rfl ?_
  refine VC.exit ?_
  repeat (first | refine VC.seq ?_ | refine VC.block ?_ | refine VC.skip ?_)
  refine VC.region ?_
  refine VR.pure rfl rfl (p_assignB rfl) ?_
  refine VR.nil ?_
  repeat (first | refine VC.seq ?_ | refine VC.block ?_ | refine VC.skip ?_)
  refine VC.ret ⟨_, ResOf.r1 (v := .bool _) rfl rfl, ?_⟩
  exact ⟨rfl, hm⟩
theorem flatPackets_0 {F : Env} {w : World} {Ls : List Blks} (hm : Mem F w Ls) : Calls Try.prog 50 #[.slice none 0 0] w (Ret fun v w' => v = .bool true ∧ Mem F w' Ls) := by
  refine Calls.of_vc Try.func50 rfl Try.ntmps50 rfl ?_
  repeat (first | refine VC.seq ?_ | refine VC.block ?_ | refine VC.skip ?_)
  refine VC.region ?_
  refine VR.pure rfl rfl (p_assignB rfl) ?_
  refine VR.nil ?_
  repeat (first | refine VC.seq ?_ | refine VC.block ?_ | refine VC.skip ?_)
  refine VC.region ?_
  refine VR.pure rfl rfl (p_assignI rfl) ?_
  refine VR.nil ?_
  repeat (first | refine VC.seq ?_ | refine VC.block ?_ | refine VC.skip ?_)
  refine VC.loop (σ := Unit) (fun _ => [(0, .slice none 0 0), (3, .int .i64 0)]) (fun _ w => Mem F w Ls) (fun _ => 0) () ⟨rfl, rfl, trivial⟩ hm ?_
  clear hm
  rintro _ A' w hm
  repeat (first | refine VC.seq ?_ | refine VC.block ?_ | refine VC.skip ?_)
  refine VC.region ?_
  refine VR.pure rfl rfl (p_moveI rfl) ?_
  refine VR.pure rfl rfl (p_moveL rfl) ?_
  refine VR.pure rfl rfl (p_len Try.underlying73 rfl) ?_
  refine VR.pure rfl rfl (p_lt rfl rfl) ?_
  refine VR.nil ?_
  repeat (first | refine VC.seq ?_ | refine VC.block ?_ | refine VC.skip ?_)
  refine VC.condF rfl rfl ?_
  refine VC.exit ?_
  repeat (first | refine VC.seq ?_ | refine VC.block ?_ | refine VC.skip ?_)
  refine VC.region ?_
  refine VR.pure rfl rfl (p_moveL rfl) ?_
  refine VR.pure rfl rfl (p_len Try.underlying73 rfl) ?_
  refine VR.new hm rfl rfl (n_makeSlice (s := 1) (bytes := 24) Try.underlying73 inf176 rfl rfl rfl rfl rfl (by omega) (by omega)) ?_
  intro gb w hm
  refine VR.pure rfl rfl (p_assignL rfl) ?_
  refine VR.nil ?_
  replace hm := hm.pop
  repeat (first | refine VC.seq ?_ | refine VC.block ?_ | refine VC.skip ?_)
  refine VC.region ?_
  refine VR.pure rfl rfl (p_assignI rfl) ?_
  refine VR.nil ?_
  repeat (first | refine VC.seq ?_ | refine VC.block ?_ | refine VC.skip ?_)
  refine VC.loop (σ := Unit) (fun _ => [(0, .slice none 0 0), (5, .slice (some ⟨gb, 0, none⟩) 0 0), (6, .int .i64 0)]) (fun _ w => Mem F w Ls) (fun _ => 0) () ⟨rfl, rfl, rfl, trivial⟩ hm ?_
  clear hm
  rintro _ A' w hm
  repeat (first | refine VC.seq ?_ | refine VC.block ?_ | refine VC.skip ?_)
  refine VC.region ?_
  refine VR.pure rfl rfl (p_moveI rfl) ?_
  refine VR.pure rfl rfl (p_moveL rfl) ?_
  refine VR.pure rfl rfl (p_len Try.underlying73 rfl) ?_
  refine VR.pure rfl rfl (p_lt rfl rfl) ?_
  refine VR.nil ?_
  repeat (first | refine VC.seq ?_ | refine VC.block ?_ | refine VC.skip ?_)
  refine VC.condF rfl rfl ?_
  refine VC.exit ?_
  repeat (first | refine VC.seq ?_ | refine VC.block ?_ | refine VC.skip ?_)
  refine VC.region ?_
  refine VR.pure rfl rfl (p_assignI rfl) ?_
  refine VR.nil ?_
  repeat (first | refine VC.seq ?_ | refine VC.block ?_ | refine VC.skip ?_)
  refine VC.loop (σ := Unit) (fun _ => [(0, .slice none 0 0), (5, .slice (some ⟨gb, 0, none⟩) 0 0), (9, .int .i64 0)]) (fun _ w => Mem F w Ls) (fun _ => 0) () ⟨rfl, rfl, rfl, trivial⟩ hm ?_
  clear hm
  rintro _ A' w hm
  repeat (first | refine VC.seq ?_ | refine VC.block ?_ | refine VC.skip ?_)
  refine VC.region ?_
  refine VR.pure rfl rfl (p_moveI rfl) ?_
  refine VR.pure rfl rfl (p_moveL rfl) ?_
  refine VR.pure rfl rfl (p_len Try.underlying73 rfl) ?_
  refine VR.pure rfl rfl (p_lt rfl rfl) ?_
  refine VR.nil ?_
  repeat (first | refine VC.seq ?_ | refine VC.block ?_ | refine VC.skip ?_)
  refine VC.condF rfl rfl ?_
  refine VC.exit ?_
  repeat (first | refine VC.seq ?_ | refine VC.block ?_ | refine VC.skip ?_)
  refine VC.region ?_
  refine VR.pure rfl rfl (p_assignI rfl) ?_
  refine VR.nil ?_
  repeat (first | refine VC.seq ?_ | refine VC.block ?_ | refine VC.skip ?_)
  refine VC.loop (σ := Unit) (fun _ => [(0, .slice none 0 0), (5, .slice (some ⟨gb, 0, none⟩) 0 0), (11, .int .i64 0)]) (fun _ w => Mem F w Ls) (fun _ => 0) () ⟨rfl, rfl, rfl, trivial⟩ hm ?_
  clear hm
  rintro _ A' w hm
  repeat (first | refine VC.seq ?_ | refine VC.block ?_ | refine VC.skip ?_)
  refine VC.region ?_
  refine VR.pure rfl rfl (p_moveI rfl) ?_
  refine VR.pure rfl rfl (p_moveL rfl) ?_
  refine VR.pure rfl rfl (p_len Try.underlying73 rfl) ?_
  refine VR.pure rfl rfl (p_lt rfl rfl) ?_
  refine VR.nil ?_
  repeat (first | refine VC.seq ?_ | refine VC.block ?_ | refine VC.skip ?_)
  refine VC.condF rfl rfl ?_
  refine VC.exit ?_
  repeat (first | refine VC.seq ?_ | refine VC.block ?_ | refine VC.skip ?_)
  refine VC.region ?_
  refine VR.pure rfl rfl (p_assignI rfl) ?_
  refine VR.nil ?_
  repeat (first | refine VC.seq ?_ | refine VC.block ?_ | refine VC.skip ?_)
  refine VC.loop (σ := Unit) (fun _ => [(0, .slice none 0 0), (5, .slice (some ⟨gb, 0, none⟩) 0 0), (14, .int .i64 0)]) (fun _ w => Mem F w Ls) (fun _ => 0) () ⟨rfl, rfl, rfl, trivial⟩ hm ?_
  clear hm
  rintro _ A' w hm
  repeat (first | refine VC.seq ?_ | refine VC.block ?_ | refine VC.skip ?_)
  refine VC.region ?_
  refine VR.pure rfl rfl (p_moveI rfl) ?_
  refine VR.pure rfl rfl (p_moveL rfl) ?_
  refine VR.pure rfl rfl (p_len Try.underlying73 rfl) ?_
  refine VR.pure rfl rfl (p_lt rfl rfl) ?_
  refine VR.nil ?_
  repeat (first | refine VC.seq ?_ | refine VC.block ?_ | refine VC.skip ?_)
  refine VC.condF rfl rfl ?_
  refine VC.exit ?_
  repeat (first | refine VC.seq ?_ | refine VC.block ?_ | refine VC.skip ?_)
  refine VC.region ?_
  refine VR.pure rfl rfl (p_assignB rfl) ?_
  refine VR.nil ?_
  repeat (first | refine VC.seq ?_ | refine VC.block ?_ | refine VC.skip ?_)
  refine VC.ret ⟨_, ResOf.r1 (v := .bool _) rfl rfl, ?_⟩
  exact ⟨rfl, hm⟩
theorem flatMails_0 {F : Env} {w : World} {Ls : List Blks} (hm : Mem F w Ls) : Calls Try.prog 51 #[.slice none 0 0] w (Ret fun v w' => v = .bool true ∧ Mem F w' Ls) := by
  refine Calls.of_vc Try.func51 rfl Try.ntmps51 rfl ?_
  repeat (first | refine VC.seq ?_ | refine VC.block ?_ | refine VC.skip ?_)
  refine VC.region ?_
  refine VR.pure rfl rfl (p_assignB rfl) ?_
  refine VR.nil ?_
  repeat (first | refine VC.seq ?_ | refine VC.block ?_ | refine VC.skip ?_)
  refine VC.region ?_
  refine VR.pure rfl rfl (p_assignI rfl) ?_
  refine VR.nil ?_
  repeat (first | refine VC.seq ?_ | refine VC.block ?_ | refine VC.skip ?_)
  refine VC.loop (σ := Unit) (fun _ => [(0, .slice none 0 0), (3, .int .i64 0)]) (fun _ w => Mem F w Ls) (fun _ => 0) () ⟨rfl, rfl, trivial⟩ hm ?_
  clear hm
  rintro _ A' w hm
  repeat (first | refine VC.seq ?_ | refine VC.block ?_ | refine VC.skip ?_)
  refine VC.region ?_
  refine VR.pure rfl rfl (p_moveI rfl) ?_
  refine VR.pure rfl rfl (p_moveL rfl) ?_
  refine VR.pure rfl rfl (p_len Try.underlying74 rfl) ?_
  refine VR.pure rfl rfl (p_lt rfl rfl) ?_
  refine VR.nil ?_
  repeat (first | refine VC.seq ?_ | refine VC.block ?_ | refine VC.skip ?_)
  refine VC.condF rfl rfl ?_
  refine VC.exit ?_
  repeat (first | refine VC.seq ?_ | refine VC.block ?_ | refine VC.skip ?_)
  refine VC.region ?_
  refine VR.pure rfl rfl (p_moveL rfl) ?_
  refine VR.pure rfl rfl (p_len Try.underlying74 rfl) ?_
  refine VR.new hm rfl rfl (n_makeSlice (s := 1) (bytes := 24) Try.underlying74 inf181 rfl rfl rfl rfl rfl (by omega) (by omega)) ?_
  intro gb w hm
  refine VR.pure rfl rfl (p_assignL rfl) ?_
  refine VR.nil ?_
  replace hm := hm.pop
  repeat (first | refine VC.seq ?_ | refine VC.block ?_ | refine VC.skip ?_)
  refine VC.region ?_
  refine VR.pure rfl rfl (p_assignI rfl) ?_
  refine VR.nil ?_
  repeat (first | refine VC.seq ?_ | refine VC.block ?_ | refine VC.skip ?_)
  refine VC.loop (σ := Unit) (fun _ => [(0, .slice none 0 0), (5, .slice (some ⟨gb, 0, none⟩) 0 0), (6, .int .i64 0)]) (fun _ w => Mem F w Ls) (fun _ => 0) () ⟨rfl, rfl, rfl, trivial⟩ hm ?_
  clear hm
  rintro _ A' w hm
  repeat (first | refine VC.seq ?_ | refine VC.block ?_ | refine VC.skip ?_)
  refine VC.region ?_
  refine VR.pure rfl rfl (p_moveI rfl) ?_
  refine VR.pure rfl rfl (p_moveL rfl) ?_
  refine VR.pure rfl rfl (p_len Try.underlying74 rfl) ?_
  refine VR.pure rfl rfl (p_lt rfl rfl) ?_
  refine VR.nil ?_
  repeat (first | refine VC.seq ?_ | refine VC.block ?_ | refine VC.skip ?_)
  refine VC.condF rfl rfl ?_
  refine VC.exit ?_
  repeat (first | refine VC.seq ?_ | refine VC.block ?_ | refine VC.skip ?_)
  refine VC.region ?_
  refine VR.pure rfl rfl (p_assignI rfl) ?_
  refine VR.nil ?_
  repeat (first | refine VC.seq ?_ | refine VC.block ?_ | refine VC.skip ?_)
  refine VC.loop (σ := Unit) (fun _ => [(0, .slice none 0 0), (5, .slice (some ⟨gb, 0, none⟩) 0 0), (9, .int .i64 0)]) (fun _ w => Mem F w Ls) (fun _ => 0) () ⟨rfl, rfl, rfl, trivial⟩ hm ?_
  clear hm
  rintro _ A' w hm
  repeat (first | refine VC.seq ?_ | refine VC.block ?_ | refine VC.skip ?_)
  refine VC.region ?_
  refine VR.pure rfl rfl (p_moveI rfl) ?_
  refine VR.pure rfl rfl (p_moveL rfl) ?_
  refine VR.pure rfl rfl (p_len Try.underlying74 rfl) ?_
  refine VR.pure rfl rfl (p_lt rfl rfl) ?_
  refine VR.nil ?_
  repeat (first | refine VC.seq ?_ | refine VC.block ?_ | refine VC.skip ?_)
  refine VC.condF rfl rfl ?_
  refine VC.exit ?_
  repeat (first | refine VC.seq ?_ | refine VC.block ?_ | refine VC.skip ?_)
  refine VC.region ?_
  refine VR.pure rfl rfl (p_assignI rfl) ?_
  refine VR.nil ?_
  repeat (first | refine VC.seq ?_ | refine VC.block ?_ | refine VC.skip ?_)
  refine VC.loop (σ := Unit) (fun _ => [(0, .slice none 0 0), (5, .slice (some ⟨gb, 0, none⟩) 0 0), (11, .int .i64 0)]) (fun _ w => Mem F w Ls) (fun _ => 0) () ⟨rfl, rfl, rfl, trivial⟩ hm ?_
  clear hm
  rintro _ A' w hm
  repeat (first | refine VC.seq ?_ | refine VC.block ?_ | refine VC.skip ?_)
  refine VC.region ?_
  refine VR.pure rfl rfl (p_moveI rfl) ?_
  refine VR.pure rfl rfl (p_moveL rfl) ?_
  refine VR.pure rfl rfl (p_len Try.underlying74 rfl) ?_
  refine VR.pure rfl rfl (p_lt rfl rfl) ?_
  refine VR.nil ?_
  repeat (first | refine VC.seq ?_ | refine VC.block ?_ | refine VC.skip ?_)
  refine VC.condF rfl rfl ?_
  refine VC.exit ?_
  repeat (first | refine VC.seq ?_ | refine VC.block ?_ | refine VC.skip ?_)
  refine VC.region ?_
  refine VR.pure rfl rfl (p_assignI rfl) ?_
  refine VR.nil ?_
  repeat (first | refine VC.seq ?_ | refine VC.block ?_ | refine VC.skip ?_)
  refine VC.loop (σ := Unit) (fun _ => [(0, .slice none 0 0), (5, .slice (some ⟨gb, 0, none⟩) 0 0), (14, .int .i64 0)]) (fun _ w => Mem F w Ls) (fun _ => 0) () ⟨rfl, rfl, rfl, trivial⟩ hm ?_
  clear hm
  rintro _ A' w hm
  repeat (first | refine VC.seq ?_ | refine VC.block ?_ | refine VC.skip ?_)
  refine VC.region ?_
  refine VR.pure rfl rfl (p_moveI rfl) ?_
  refine VR.pure rfl rfl (p_moveL rfl) ?_
  refine VR.pure rfl rfl (p_len Try.underlying74 rfl) ?_
  refine VR.pure rfl rfl (p_lt rfl rfl) ?_
  refine VR.nil ?_
  repeat (first | refine VC.seq ?_ | refine VC.block ?_ | refine VC.skip ?_)
  refine VC.condF rfl rfl ?_
  refine VC.exit ?_
  repeat (first | refine VC.seq ?_ | refine VC.block ?_ | refine VC.skip ?_)
  refine VC.region ?_
  refine VR.pure rfl rfl (p_assignB rfl) ?_
  refine VR.nil ?_
  repeat (first | refine VC.seq ?_ | refine VC.block ?_ | refine VC.skip ?_)
  refine VC.ret ⟨_, ResOf.r1 (v := .bool _) rfl rfl, ?_⟩
  exact ⟨rfl, hm⟩
theorem flatSteps_0 {F : Env} {w : World} {Ls : List Blks} (hm : Mem F w Ls) : Calls Try.prog 52 #[.slice none 0 0] w (Ret fun v w' => v = .bool true ∧ Mem F w' Ls) := by
  refine Calls.of_vc Try.func52 rfl Try.ntmps52 rfl ?_
  repeat (first | refine VC.seq ?_ | refine VC.block ?_ | refine VC.skip ?_)
  refine VC.region ?_
  refine VR.pure rfl rfl (p_assignB rfl) ?_
  refine VR.nil ?_
  repeat (first | refine VC.seq ?_ | refine VC.block ?_ | refine VC.skip ?_)
  refine VC.region ?_
  refine VR.pure rfl rfl (p_assignI rfl) ?_
  refine VR.nil ?_
  repeat (first | refine VC.seq ?_ | refine VC.block ?_ | refine VC.skip ?_)
  refine VC.loop (σ := Unit) (fun _ => [(0, .slice none 0 0), (3, .int .i64 0)]) (fun _ w => Mem F w Ls) (fun _ => 0) () ⟨rfl, rfl, trivial⟩ hm ?_
  clear hm
  rintro _ A' w hm
  repeat (first | refine VC.seq ?_ | refine VC.block ?_ | refine VC.skip ?_)
  refine VC.region ?_
  refine VR.pure rfl rfl (p_moveI rfl) ?_
  refine VR.pure rfl rfl (p_moveL rfl) ?_
  refine VR.pure rfl rfl (p_len Try.underlying75 rfl) ?_
  refine VR.pure rfl rfl (p_lt rfl rfl) ?_
  refine VR.nil ?_
  repeat (first | refine VC.seq ?_ | refine VC.block ?_ | refine VC.skip ?_)
  refine VC.condF rfl rfl ?_
  refine VC.exit ?_
  repeat (first | refine VC.seq ?_ | refine VC.block ?_ | refine VC.skip ?_)
  refine VC.region ?_
  refine VR.pure rfl rfl (p_moveL rfl) ?_
  refine VR.pure rfl rfl (p_len Try.underlying75 rfl) ?_
  refine VR.new hm rfl rfl (n_makeSlice (s := 1) (bytes := 24) Try.underlying75 inf186 rfl rfl rfl rfl rfl (by omega) (by omega)) ?_
  intro gb w hm
  refine VR.pure rfl rfl (p_assignL rfl) ?_
  refine VR.nil ?_
  replace hm := hm.pop
  repeat (first | refine VC.seq ?_ | refine VC.block ?_ | refine VC.skip ?_)
  refine VC.region ?_
  refine VR.pure rfl rfl (p_assignI rfl) ?_
  refine VR.nil ?_
  repeat (first | refine VC.seq ?_ | refine VC.block ?_ | refine VC.skip ?_)
  refine VC.loop (σ := Unit) (fun _ => [(0, .slice none 0 0), (5, .slice (some ⟨gb, 0, none⟩) 0 0), (6, .int .i64 0)]) (fun _ w => Mem F w Ls) (fun _ => 0) () ⟨rfl, rfl, rfl, trivial⟩ hm ?_
  clear hm
  rintro _ A' w hm
  repeat (first | refine VC.seq ?_ | refine VC.block ?_ | refine VC.skip ?_)
  refine VC.region ?_
  refine VR.pure rfl rfl (p_moveI rfl) ?_
  refine VR.pure rfl rfl (p_moveL rfl) ?_
  refine VR.pure rfl rfl (p_len Try.underlying75 rfl) ?_
  refine VR.pure rfl rfl (p_lt rfl rfl) ?_
  refine VR.nil ?_
  repeat (first | refine VC.seq ?_ | refine VC.block ?_ | refine VC.skip ?_)
  refine VC.condF rfl rfl ?_
  refine VC.exit ?_
  repeat (first | refine VC.seq ?_ | refine VC.block ?_ | refine VC.skip ?_)
  refine VC.region ?_
  refine VR.pure rfl rfl (p_assignI rfl) ?_
  refine VR.nil ?_
  repeat (first | refine VC.seq ?_ | refine VC.block ?_ | refine VC.skip ?_)
  refine VC.loop (σ := Unit) (fun _ => [(0, .slice none 0 0), (5, .slice (some ⟨gb, 0, none⟩) 0 0), (9, .int .i64 0)]) (fun _ w => Mem F w Ls) (fun _ => 0) () ⟨rfl, rfl, rfl, trivial⟩ hm ?_
  clear hm
  rintro _ A' w hm
  repeat (first | refine VC.seq ?_ | refine VC.block ?_ | refine VC.skip ?_)
  refine VC.region ?_
  refine VR.pure rfl rfl (p_moveI rfl) ?_
  refine VR.pure rfl rfl (p_moveL rfl) ?_
  refine VR.pure rfl rfl (p_len Try.underlying75 rfl) ?_
  refine VR.pure rfl rfl (p_lt rfl rfl) ?_
  refine VR.nil ?_
  repeat (first | refine VC.seq ?_ | refine VC.block ?_ | refine VC.skip ?_)
  refine VC.condF rfl rfl ?_
  refine VC.exit ?_
  repeat (first | refine VC.seq ?_ | refine VC.block ?_ | refine VC.skip ?_)
  refine VC.region ?_
  refine VR.pure rfl rfl (p_assignI rfl) ?_
  refine VR.nil ?_
  repeat (first | refine VC.seq ?_ | refine VC.block ?_ | refine VC.skip ?_)
  refine VC.loop (σ := Unit) (fun _ => [(0, .slice none 0 0), (5, .slice (some ⟨gb, 0, none⟩) 0 0), (11, .int .i64 0)]) (fun _ w => Mem F w Ls) (fun _ => 0) () ⟨rfl, rfl, rfl, trivial⟩ hm ?_
  clear hm
  rintro _ A' w hm
  repeat (first | refine VC.seq ?_ | refine VC.block ?_ | refine VC.skip ?_)
  refine VC.region ?_
  refine VR.pure rfl rfl (p_moveI rfl) ?_
  refine VR.pure rfl rfl (p_moveL rfl) ?_
  refine VR.pure rfl rfl (p_len Try.underlying75 rfl) ?_
  refine VR.pure rfl rfl (p_lt rfl rfl) ?_
  refine VR.nil ?_
  repeat (first | refine VC.seq ?_ | refine VC.block ?_ | refine VC.skip ?_)
  refine VC.condF rfl rfl ?_
  refine VC.exit ?_
  repeat (first | refine VC.seq ?_ | refine VC.block ?_ | refine VC.skip ?_)
  refine VC.region ?_
  refine VR.pure rfl rfl (p_assignI rfl) ?_
  refine VR.nil ?_
  repeat (first | refine VC.seq ?_ | refine VC.block ?_ | refine VC.skip ?_)
  refine VC.loop (σ := Unit) (fun _ => [(0, .slice none 0 0), (5, .slice (some ⟨gb, 0, none⟩) 0 0), (14, .int .i64 0)]) (fun _ w => Mem F w Ls) (fun _ => 0) () ⟨rfl, rfl, rfl, trivial⟩ hm ?_
  clear hm
  rintro _ A' w hm
  repeat (first | refine VC.seq ?_ | refine VC.block ?_ | refine VC.skip ?_)
  refine VC.region ?_
  refine VR.pure rfl rfl (p_moveI rfl) ?_
  refine VR.pure rfl rfl (p_moveL rfl) ?_
  refine VR.pure rfl rfl (p_len Try.underlying75 rfl) ?_
  refine VR.pure rfl rfl (p_lt rfl rfl) ?_
  refine VR.nil ?_
  repeat (first | refine VC.seq ?_ | refine VC.block ?_ | refine VC.skip ?_)
  refine VC.condF rfl rfl ?_
  refine VC.exit ?_
  repeat (first | refine VC.seq ?_ | refine VC.block ?_ | refine VC.skip ?_)
  refine VC.region ?_
  refine VR.pure rfl rfl (p_assignB rfl) ?_
  refine VR.nil ?_
  repeat (first | refine VC.seq ?_ | refine VC.block ?_ | refine VC.skip ?_)
  refine VC.ret ⟨_, ResOf.r1 (v := .bool _) rfl rfl, ?_⟩
  exact ⟨rfl, hm⟩
theorem flatTales_0 {F : Env} {w : World} {Ls : List Blks} (hm : Mem F w Ls) : Calls Try.prog 53 #[.slice none 0 0] w (Ret fun v w' => v = .bool true ∧ Mem F w' Ls) := by
  refine Calls.of_vc Try.func53 rfl Try.ntmps53 rfl ?_
  repeat (first | refine VC.seq ?_ | refine VC.block ?_ | refine VC.skip ?_)
  refine VC.region ?_
  refine VR.pure rfl rfl (p_assignB rfl) ?_
  refine VR.nil ?_
  repeat (first | refine VC.seq ?_ | refine VC.block ?_ | refine VC.skip ?_)
  refine VC.region ?_
  refine VR.pure rfl rfl (p_assignI rfl) ?_
  refine VR.nil ?_
  repeat (first | refine VC.seq ?_ | refine VC.block ?_ | refine VC.skip ?_)
  refine VC.loop (σ := Unit) (fun _ => [(0, .slice none 0 0), (3, .int .i64 0)]) (fun _ w => Mem F w Ls) (fun _ => 0) () ⟨rfl, rfl, trivial⟩ hm ?_
  clear hm
  rintro _ A' w hm
  repeat (first | refine VC.seq ?_ | refine VC.block ?_ | refine VC.skip ?_)
  refine VC.region ?_
  refine VR.pure rfl rfl (p_moveI rfl) ?_
  refine VR.pure rfl rfl (p_moveL rfl) ?_
  refine VR.pure rfl rfl (p_len Try.underlying76 rfl) ?_
  refine VR.pure rfl rfl (p_lt rfl rfl) ?_
  refine VR.nil ?_
  repeat (first | refine VC.seq ?_ | refine VC.block ?_ | refine VC.skip ?_)
  refine VC.condF rfl rfl ?_
  refine VC.exit ?_
  repeat (first | refine VC.seq ?_ | refine VC.block ?_ | refine VC.skip ?_)
  refine VC.region ?_
  refine VR.pure rfl rfl (p_moveL rfl) ?_
  refine VR.pure rfl rfl (p_len Try.underlying76 rfl) ?_
  refine VR.new hm rfl rfl (n_makeSlice (s := 1) (bytes := 24) Try.underlying76 inf192 rfl rfl rfl rfl rfl (by omega) (by omega)) ?_
  intro gb w hm
  refine VR.pure rfl rfl (p_assignL rfl) ?_
  refine VR.nil ?_
  replace hm := hm.pop
  repeat (first | refine VC.seq ?_ | refine VC.block ?_ | refine VC.skip ?_)
  refine VC.region ?_
  refine VR.pure rfl rfl (p_assignI rfl) ?_
  refine VR.nil ?_
  repeat (first | refine VC.seq ?_ | refine VC.block ?_ | refine VC.skip ?_)
  refine VC.loop (σ := Unit) (fun _ => [(0, .slice none 0 0), (5, .slice (some ⟨gb, 0, none⟩) 0 0), (6, .int .i64 0)]) (fun _ w => Mem F w Ls) (fun _ => 0) () ⟨rfl, rfl, rfl, trivial⟩ hm ?_
  clear hm
  rintro _ A' w hm
  repeat (first | refine VC.seq ?_ | refine VC.block ?_ | refine VC.skip ?_)
  refine VC.region ?_
  refine VR.pure rfl rfl (p_moveI rfl) ?_
  refine VR.pure rfl rfl (p_moveL rfl) ?_
  refine VR.pure rfl rfl (p_len Try.underlying76 rfl) ?_
  refine VR.pure rfl rfl (p_lt rfl rfl) ?_
  refine VR.nil ?_
  repeat (first | refine VC.seq ?_ | refine VC.block ?_ | refine VC.skip ?_)
  refine VC.condF rfl rfl ?_
  refine VC.exit ?_
  repeat (first | refine VC.seq ?_ | refine VC.block ?_ | refine VC.skip ?_)
  refine VC.region ?_
  refine VR.pure rfl rfl (p_assignI rfl) ?_
  refine VR.nil ?_
  repeat (first | refine VC.seq ?_ | refine VC.block ?_ | refine VC.skip ?_)
  refine VC.loop (σ := Unit) (fun _ => [(0, .slice none 0 0), (5, .slice (some ⟨gb, 0, none⟩) 0 0), (9, .int .i64 0)]) (fun _ w => Mem F w Ls) (fun _ => 0) () ⟨rfl, rfl, rfl, trivial⟩ hm ?_
  clear hm
  rintro _ A' w hm
  repeat (first | refine VC.seq ?_ | refine VC.block ?_ | refine VC.skip ?_)
  refine VC.region ?_
  refine VR.pure rfl rfl (p_moveI rfl) ?_
  refine VR.pure rfl rfl (p_moveL rfl) ?_
  refine VR.pure rfl rfl (p_len Try.underlying76 rfl) ?_
  refine VR.pure rfl rfl (p_lt rfl rfl) ?_
  refine VR.nil ?_
  repeat (first | refine VC.seq ?_ | refine VC.block ?_ | refine VC.skip ?_)
  refine VC.condF rfl rfl ?_
  refine VC.exit ?_
  repeat (first | refine VC.seq ?_ | refine VC.block ?_ | refine VC.skip ?_)
  refine VC.region ?_
  refine VR.pure rfl rfl (p_assignI rfl) ?_
  refine VR.nil ?_
  repeat (first | refine VC.seq ?_ | refine VC.block ?_ | refine VC.skip ?_)
  refine VC.loop (σ := Unit) (fun _ => [(0, .slice none 0 0), (5, .slice (some ⟨gb, 0, none⟩) 0 0), (11, .int .i64 0)]) (fun _ w => Mem F w Ls) (fun _ => 0) () ⟨rfl, rfl, rfl, trivial⟩ hm ?_
  clear hm
  rintro _ A' w hm
  repeat (first | refine VC.seq ?_ | refine VC.block ?_ | refine VC.skip ?_)
  refine VC.region ?_
  refine VR.pure rfl rfl (p_moveI rfl) ?_
  refine VR.pure rfl rfl (p_moveL rfl) ?_
  refine VR.pure rfl rfl (p_len Try.underlying76 rfl) ?_
  refine VR.pure rfl rfl (p_lt rfl rfl) ?_
  refine VR.nil ?_
  repeat (first | refine VC.seq ?_ | refine VC.block ?_ | refine VC.skip ?_)
  refine VC.condF rfl rfl ?_
  refine VC.exit ?_
  repeat (first | refine VC.seq ?_ | refine VC.block ?_ | refine VC.skip ?_)
  refine VC.region ?_
  refine VR.pure rfl rfl (p_assignI rfl) ?_
  refine VR.nil ?_
  repeat (first | refine VC.seq ?_ | refine VC.block ?_ | refine VC.skip ?_)
  refine VC.loop (σ := Unit) (fun _ => [(0, .slice none 0 0), (5, .slice (some ⟨gb, 0, none⟩) 0 0), (14, .int .i64 0)]) (fun _ w => Mem F w Ls) (fun _ => 0) () ⟨rfl, rfl, rfl, trivial⟩ hm ?_
  clear hm
  rintro _ A' w hm
  repeat (first | refine VC.seq ?_ | refine VC.block ?_ | refine VC.skip ?_)
  refine VC.region ?_
  refine VR.pure rfl rfl (p_moveI rfl) ?_
  refine VR.pure rfl rfl (p_moveL rfl) ?_
  refine VR.pure rfl rfl (p_len Try.underlying76 rfl) ?_
  refine VR.pure rfl rfl (p_lt rfl rfl) ?_
  refine VR.nil ?_
  repeat (first | refine VC.seq ?_ | refine VC.block ?_ | refine VC.skip ?_)
  refine VC.condF rfl rfl ?_
  refine VC.exit ?_
  repeat (first | refine VC.seq ?_ | refine VC.block ?_ | refine VC.skip ?_)
  refine VC.region ?_
  refine VR.pure rfl rfl (p_assignB rfl) ?_
  refine VR.nil ?_
  repeat (first | refine VC.seq ?_ | refine VC.block ?_ | refine VC.skip ?_)
  refine VC.ret ⟨_, ResOf.r1 (v := .bool _) rfl rfl, ?_⟩
  exact ⟨rfl, hm⟩
theorem flatCharters_0 {F : Env} {w : World} {Ls : List Blks} (hm : Mem F w Ls) : Calls Try.prog 54 #[.slice none 0 0] w (Ret fun v w' => v = .bool true ∧ Mem F w' Ls) := by
  refine Calls.of_vc Try.func54 rfl Try.ntmps54 rfl ?_
  repeat (first | refine VC.seq ?_ | refine VC.block ?_ | refine VC.skip ?_)
  refine VC.region ?_
  refine VR.pure rfl rfl (p_assignB rfl) ?_
  refine VR.nil ?_
  repeat (first | refine VC.seq ?_ | refine VC.block ?_ | refine VC.skip ?_)
  refine VC.region ?_
  refine VR.pure rfl rfl (p_assignI rfl) ?_
  refine VR.nil ?_
  repeat (first | refine VC.seq ?_ | refine VC.block ?_ | refine VC.skip ?_)
  refine VC.loop (σ := Unit) (fun _ => [(0, .slice none 0 0), (3, .int .i64 0)]) (fun _ w => Mem F w Ls) (fun _ => 0) () ⟨rfl, rfl, trivial⟩ hm ?_
  clear hm
  rintro _ A' w hm
  repeat (first | refine VC.seq ?_ | refine VC.block ?_ | refine VC.skip ?_)
  refine VC.region ?_
  refine VR.pure rfl rfl (p_moveI rfl) ?_
  refine VR.pure rfl rfl (p_moveL rfl) ?_
  refine VR.pure rfl rfl (p_len Try.underlying77 rfl) ?_
  refine VR.pure rfl rfl (p_lt rfl rfl) ?_
  refine VR.nil ?_
  repeat (first | refine VC.seq ?_ | refine VC.block ?_ | refine VC.skip ?_)
  refine VC.condF rfl rfl ?_
  refine VC.exit ?_
  repeat (first | refine VC.seq ?_ | refine VC.block ?_ | refine VC.skip ?_)
  refine VC.region ?_
  refine VR.pure rfl rfl (p_moveL rfl) ?_
  refine VR.pure rfl rfl (p_len Try.underlying77 rfl) ?_
  refine VR.new hm rfl rfl (n_makeSlice (s := 1) (bytes := 24) Try.underlying77 inf198 rfl rfl rfl rfl rfl (by omega) (by omega)) ?_
  intro gb w hm
  refine VR.pure rfl rfl (p_assignL rfl) ?_
  refine VR.nil ?_
  replace hm := hm.pop
  repeat (first | refine VC.seq ?_ | refine VC.block ?_ | refine VC.skip ?_)
  refine VC.region ?_
  refine VR.pure rfl rfl (p_assignI rfl) ?_
  refine VR.nil ?_
  repeat (first | refine VC.seq ?_ | refine VC.block ?_ | refine VC.skip ?_)
  refine VC.loop (σ := Unit) (fun _ => [(0, .slice none 0 0), (5, .slice (some ⟨gb, 0, none⟩) 0 0), (6, .int .i64 0)]) (fun _ w => Mem F w Ls) (fun _ => 0) () ⟨rfl, rfl, rfl, trivial⟩ hm ?_
  clear hm
  rintro _ A' w hm
  repeat (first | refine VC.seq ?_ | refine VC.block ?_ | refine VC.skip ?_)
  refine VC.region ?_
  refine VR.pure rfl rfl (p_moveI rfl) ?_
  refine VR.pure rfl rfl (p_moveL rfl) ?_
  refine VR.pure rfl rfl (p_len Try.underlying77 rfl) ?_
  refine VR.pure rfl rfl (p_lt rfl rfl) ?_
  refine VR.nil ?_
  repeat (first | refine VC.seq ?_ | refine VC.block ?_ | refine VC.skip ?_)
  refine VC.condF rfl rfl ?_
  refine VC.exit ?_
  repeat (first | refine VC.seq ?_ | refine VC.block ?_ | refine VC.skip ?_)
  refine VC.region ?_
  refine VR.pure rfl rfl (p_assignI rfl) ?_
  refine VR.nil ?_
  repeat (first | refine VC.seq ?_ | refine VC.block ?_ | refine VC.skip ?_)
  refine VC.loop (σ := Unit) (fun _ => [(0, .slice none 0 0), (5, .slice (some ⟨gb, 0, none⟩) 0 0), (9, .int .i64 0)]) (fun _ w => Mem F w Ls) (fun _ => 0) () ⟨rfl, rfl, rfl, trivial⟩ hm ?_
  clear hm
  rintro _ A' w hm
  repeat (first | refine VC.seq ?_ | refine VC.block ?_ | refine VC.skip ?_)
  refine VC.region ?_
  refine VR.pure rfl rfl (p_moveI rfl) ?_
  refine VR.pure rfl rfl (p_moveL rfl) ?_
  refine VR.pure rfl rfl (p_len Try.underlying77 rfl) ?_
  refine VR.pure rfl rfl (p_lt rfl rfl) ?_
  refine VR.nil ?_
  repeat (first | refine VC.seq ?_ | refine VC.block ?_ | refine VC.skip ?_)
  refine VC.condF rfl rfl ?_
  refine VC.exit ?_
  repeat (first | refine VC.seq ?_ | refine VC.block ?_ | refine VC.skip ?_)
  refine VC.region ?_
  refine VR.pure rfl rfl (p_assignI rfl) ?_
  refine VR.nil ?_
  repeat (first | refine VC.seq ?_ | refine VC.block ?_ | refine VC.skip ?_)
  refine VC.loop (σ := Unit) (fun _ => [(0, .slice none 0 0), (5, .slice (some ⟨gb, 0, none⟩) 0 0), (11, .int .i64 0)]) (fun _ w => Mem F w Ls) (fun _ => 0) () ⟨rfl, rfl, rfl, trivial⟩ hm ?_
  clear hm
  rintro _ A' w hm
  repeat (first | refine VC.seq ?_ | refine VC.block ?_ | refine VC.skip ?_)
  refine VC.region ?_
  refine VR.pure rfl rfl (p_moveI rfl) ?_
  refine VR.pure rfl rfl (p_moveL rfl) ?_
  refine VR.pure rfl rfl (p_len Try.underlying77 rfl) ?_
  refine VR.pure rfl rfl (p_lt rfl rfl) ?_
  refine VR.nil ?_
  repeat (first | refine VC.seq ?_ | refine VC.block ?_ | refine VC.skip ?_)
  refine VC.condF rfl rfl ?_
  refine VC.exit ?_
  repeat (first | refine VC.seq ?_ | refine VC.block ?_ | refine VC.skip ?_)
  refine VC.region ?_
  refine VR.pure rfl rfl (p_assignI rfl) ?_
  refine VR.nil ?_
  repeat (first | refine VC.seq ?_ | refine VC.block ?_ | refine VC.skip ?_)
  refine VC.loop (σ := Unit) (fun _ => [(0, .slice none 0 0), (5, .slice (some ⟨gb, 0, none⟩) 0 0), (14, .int .i64 0)]) (fun _ w => Mem F w Ls) (fun _ => 0) () ⟨rfl, rfl, rfl, trivial⟩ hm ?_
  clear hm
  rintro _ A' w hm
  repeat (first | refine VC.seq ?_ | refine VC.block ?_ | refine VC.skip ?_)
  refine VC.region ?_
  refine VR.pure rfl rfl (p_moveI rfl) ?_
  refine VR.pure rfl rfl (p_moveL rfl) ?_
  refine VR.pure rfl rfl (p_len Try.underlying77 rfl) ?_
  refine VR.pure rfl rfl (p_lt rfl rfl) ?_
  refine VR.nil ?_
  repeat (first | refine VC.seq ?_ | refine VC.block ?_ | refine VC.skip ?_)
  refine VC.condF rfl rfl ?_
  refine VC.exit ?_
  repeat (first | refine VC.seq ?_ | refine VC.block ?_ | refine VC.skip ?_)
  refine VC.region ?_
  refine VR.pure rfl rfl (p_assignB rfl) ?_
  refine VR.nil ?_
  repeat (first | refine VC.seq ?_ | refine VC.block ?_ | refine VC.skip ?_)
  refine VC.ret ⟨_, ResOf.r1 (v := .bool _) rfl rfl, ?_⟩
  exact ⟨rfl, hm⟩

/-- A bag that has lists of int64. -/
abbrev bagL (A : Option Addr) (n c : Nat) : Array Value := #[.slice none 0 0, .slice none 0 0, .slice A n c, .slice none 0 0, .slice none 0 0, .slice none 0 0, .slice none 0 0, .slice none 0 0, .slice none 0 0, .slice none 0 0, .slice none 0 0, .slice none 0 0, .slice none 0 0, .slice none 0 0, .slice none 0 0, .slice none 0 0, .slice none 0 0, .slice none 0 0, .slice none 0 0, .slice none 0 0]
theorem put_longs_c {F : Env} {w : World} {Ls : List Blks} {g : Nat} {A B : Option Addr} {n c q d : Nat} {L : Blks} {its : List Sl} (hm : Mem F w (L :: [(g, .cells (bagL A n c) 79 (0, 0))] :: Ls)) (ho : OwnS 33 1 A n c (slcells its) L) (hn : n ≤ 1000000) :
    Calls Try.prog 29 #[.pointer (some ⟨g, 0, none⟩), .slice B q d] w
      (Ret fun v w' => ∃ A' c' L', OwnS 33 1 A' (n + 1) c' (slcells (its ++ [⟨B, q, d⟩])) L' ∧ Mem F w' (L' :: [(g, .cells (bagL A' (n + 1) c') 79 (0, 0))] :: Ls)) := by
  refine Calls.of_vc Try.func29 rfl Try.ntmps29 rfl ?_
  repeat (first | refine VC.seq ?_ | refine VC.block ?_ | refine VC.skip ?_)
  refine VC.region ?_
  refine VR.pure rfl rfl (p_moveP rfl) ?_
  refine VR.pure rfl rfl (p_moveP rfl) ?_
  refine VR.pure rfl rfl (p_nilCheck rfl) ?_
  refine VR.pure rfl rfl (p_field (fo := 2) Try.underlying79 rfl Try.sizeOf43 rfl rfl rfl) ?_
  refine VR.val rfl rfl (r_load (v := .slice _ _ _) Try.isAgg43 rfl (hm.at_ 1 0 rfl) rfl) ?_
  refine VR.pure rfl rfl (p_moveL rfl) ?_
  refine VR.new hm rfl rfl (n_buildSlice1 (vs := [.slice _ _ _]) Try.underlying43 inf33 rfl rfl rfl rfl rfl rfl rfl) ?_
  intro b6 w hm
  replace hm := hm.swap
  refine VR.append (s := 1) (bytes := 24) Try.underlying43 inf33 rfl rfl rfl rfl rfl rfl rfl rfl rfl hm ho (Row.lit (cs := [.slice B q d]) (hm.at_ 1 0 rfl)) (by simp [Value.oneCell']) rfl ⟨by unfold maxLen; omega, by omega⟩ ?_
  intro A' c' w L' ho' hm
  refine VR.pure rfl rfl (p_nilCheck rfl) ?_
  refine VR.pure rfl rfl (p_field (fo := 2) Try.underlying79 rfl Try.sizeOf43 rfl rfl rfl) ?_
  refine VR.store (cs' := (bagL A' (n + 1) c')) (v := .slice _ _ _) Try.sizeOf43 rfl rfl rfl rfl rfl hm 2 0 rfl (Nat.ble_eq.mp rfl) rfl ?_
  intro w hm
  refine VR.nil ?_
  have e : slcells (its ++ [⟨B, q, d⟩]) = slcells its ++ [.slice B q d] := by
    show (its ++ [_]).flatMap Sl.cells = its.flatMap Sl.cells ++ _
    rw [List.flatMap_append]
    rfl
  exact ⟨_, ResOf.r0 rfl, A', c', L', by rw [e]; exact ho', hm.pop2⟩
theorem bag_apart_c {F : Env} {w : World} {Ls Ms : List Blks} {g : Nat} {A : Option Addr} {n c : Nat} {its : List Sl} (hm : Mem F w (Ms ++ Ls)) (hg : F.heap g = some (.cells (bagL A n c) 79 (0, 0))) (hr : Row F.heap A n (slcells its)) (hn : n ≤ 1000000000)
    (hall : All its Ms (fun _ (it : Sl) L => it.n ≤ 1000000000000 ∧ ∃ xs, OwnS 2 1 it.A it.n it.c xs L)) :
    Calls Try.prog 30 #[.pointer (some ⟨g, 0, none⟩)] w (Ret fun v w' => v = .bool true ∧ Mem F w' Ls) := by
  refine Calls.of_vc Try.func30 rfl Try.ntmps30 rfl ?_
  repeat (first | refine VC.seq ?_ | refine VC.block ?_ | refine VC.skip ?_)
  refine VC.region ?_
  refine VR.pure rfl rfl (p_assignB rfl) ?_
  refine VR.nil ?_
  repeat (first | refine VC.seq ?_ | refine VC.block ?_ | refine VC.skip ?_)
  refine VC.region ?_
  refine VR.pure rfl rfl (p_moveP rfl) ?_
  refine VR.pure rfl rfl (p_nilCheck rfl) ?_
  refine VR.pure rfl rfl (p_field (fo := 0) Try.underlying79 rfl Try.sizeOf59 rfl rfl rfl) ?_
  refine VR.val rfl rfl (r_load (v := .slice _ _ _) Try.isAgg59 rfl (hm.fix _ _ hg) rfl) ?_
  refine VR.call rfl rfl (r_call1 Try.call35 rfl) (flatWords_0 hm) ?_
  rintro _ w ⟨rfl, hm⟩
  refine VR.pure rfl rfl (p_moveB rfl) ?_
  refine VR.knownT 8 rfl rfl ?_
  refine VR.pureG rfl rfl (p_moveP rfl) ?_
  refine VR.pureG rfl rfl (p_nilCheck rfl) ?_
  refine VR.pureG rfl rfl (p_field (fo := 1) Try.underlying79 rfl Try.sizeOf60 rfl rfl rfl) ?_
  refine VR.valG rfl rfl (r_load (v := .slice _ _ _) Try.isAgg60 rfl (hm.fix _ _ hg) rfl) ?_
  refine VR.callG rfl rfl (r_call1 Try.call36 rfl) (flatInts_0 hm) ?_
  rintro _ w ⟨rfl, hm⟩
  refine VR.pure rfl rfl (p_pickT rfl rfl) ?_
  refine VR.pure rfl rfl (p_moveB rfl) ?_
  refine VR.knownT 15 rfl rfl ?_
  refine VR.pureG rfl rfl (p_moveP rfl) ?_
  refine VR.pureG rfl rfl (p_nilCheck rfl) ?_
  refine VR.pureG rfl rfl (p_field (fo := 2) Try.underlying79 rfl Try.sizeOf43 rfl rfl rfl) ?_
  refine VR.valG rfl rfl (r_load (v := .slice _ _ _) Try.isAgg43 rfl (hm.fix _ _ hg) rfl) ?_
  refine VR.callG rfl rfl (r_call1 Try.call37 rfl) (flat_longs_c hm hr hn hall) ?_
  rintro _ w ⟨rfl, hm⟩
  refine VR.pure rfl rfl (p_pickT rfl rfl) ?_
  refine VR.pure rfl rfl (p_moveB rfl) ?_
  refine VR.knownT 22 rfl rfl ?_
  refine VR.pureG rfl rfl (p_moveP rfl) ?_
  refine VR.pureG rfl rfl (p_nilCheck rfl) ?_
  refine VR.pureG rfl rfl (p_field (fo := 3) Try.underlying79 rfl Try.sizeOf61 rfl rfl rfl) ?_
  refine VR.valG rfl rfl (r_load (v := .slice _ _ _) Try.isAgg61 rfl (hm.fix _ _ hg) rfl) ?_
  refine VR.callG rfl rfl (r_call1 Try.call38 rfl) (flatTexts_0 hm) ?_
  rintro _ w ⟨rfl, hm⟩
  refine VR.pure rfl rfl (p_pickT rfl rfl) ?_
  refine VR.pure rfl rfl (p_moveB rfl) ?_
  refine VR.knownT 29 rfl rfl ?_
  refine VR.pureG rfl rfl (p_moveP rfl) ?_
  refine VR.pureG rfl rfl (p_nilCheck rfl) ?_
  refine VR.pureG rfl rfl (p_field (fo := 4) Try.underlying79 rfl Try.sizeOf62 rfl rfl rfl) ?_
  refine VR.valG rfl rfl (r_load (v := .slice _ _ _) Try.isAgg62 rfl (hm.fix _ _ hg) rfl) ?_
  refine VR.callG rfl rfl (r_call1 Try.call39 rfl) (flatBytes_0 hm) ?_
  rintro _ w ⟨rfl, hm⟩
  refine VR.pure rfl rfl (p_pickT rfl rfl) ?_
  refine VR.pure rfl rfl (p_moveB rfl) ?_
  refine VR.knownT 36 rfl rfl ?_
  refine VR.pureG rfl rfl (p_moveP rfl) ?_
  refine VR.pureG rfl rfl (p_nilCheck rfl) ?_
  refine VR.pureG rfl rfl (p_field (fo := 5) Try.underlying79 rfl Try.sizeOf63 rfl rfl rfl) ?_
  refine VR.valG rfl rfl (r_load (v := .slice _ _ _) Try.isAgg63 rfl (hm.fix _ _ hg) rfl) ?_
  refine VR.callG rfl rfl (r_call1 Try.call40 rfl) (flatZxids_0 hm) ?_
  rintro _ w ⟨rfl, hm⟩
  refine VR.pure rfl rfl (p_pickT rfl rfl) ?_
  refine VR.pure rfl rfl (p_moveB rfl) ?_
  refine VR.knownT 43 rfl rfl ?_
  refine VR.pureG rfl rfl (p_moveP rfl) ?_
  refine VR.pureG rfl rfl (p_nilCheck rfl) ?_
  refine VR.pureG rfl rfl (p_field (fo := 6) Try.underlying79 rfl Try.sizeOf64 rfl rfl rfl) ?_
  refine VR.valG rfl rfl (r_load (v := .slice _ _ _) Try.isAgg64 rfl (hm.fix _ _ hg) rfl) ?_
  refine VR.callG rfl rfl (r_call1 Try.call41 rfl) (flatMembers_0 hm) ?_
  rintro _ w ⟨rfl, hm⟩
  refine VR.pure rfl rfl (p_pickT rfl rfl) ?_
  refine VR.pure rfl rfl (p_moveB rfl) ?_
  refine VR.knownT 50 rfl rfl ?_
  refine VR.pureG rfl rfl (p_moveP rfl) ?_
  refine VR.pureG rfl rfl (p_nilCheck rfl) ?_
  refine VR.pureG rfl rfl (p_field (fo := 7) Try.underlying79 rfl Try.sizeOf65 rfl rfl rfl) ?_
  refine VR.valG rfl rfl (r_load (v := .slice _ _ _) Try.isAgg65 rfl (hm.fix _ _ hg) rfl) ?_
  refine VR.callG rfl rfl (r_call1 Try.call42 rfl) (flatEnsembles_0 hm) ?_
  rintro _ w ⟨rfl, hm⟩
  refine VR.pure rfl rfl (p_pickT rfl rfl) ?_
  refine VR.pure rfl rfl (p_moveB rfl) ?_
  refine VR.knownT 57 rfl rfl ?_
  refine VR.pureG rfl rfl (p_moveP rfl) ?_
  refine VR.pureG rfl rfl (p_nilCheck rfl) ?_
  refine VR.pureG rfl rfl (p_field (fo := 8) Try.underlying79 rfl Try.sizeOf66 rfl rfl rfl) ?_
  refine VR.valG rfl rfl (r_load (v := .slice _ _ _) Try.isAgg66 rfl (hm.fix _ _ hg) rfl) ?_
  refine VR.callG rfl rfl (r_call1 Try.call43 rfl) (flatDeeds_0 hm) ?_
  rintro _ w ⟨rfl, hm⟩
  refine VR.pure rfl rfl (p_pickT rfl rfl) ?_
  refine VR.pure rfl rfl (p_moveB rfl) ?_
  refine VR.knownT 64 rfl rfl ?_
  refine VR.pureG rfl rfl (p_moveP rfl) ?_
  refine VR.pureG rfl rfl (p_nilCheck rfl) ?_
  refine VR.pureG rfl rfl (p_field (fo := 9) Try.underlying79 rfl Try.sizeOf67 rfl rfl rfl) ?_
  refine VR.valG rfl rfl (r_load (v := .slice _ _ _) Try.isAgg67 rfl (hm.fix _ _ hg) rfl) ?_
  refine VR.callG rfl rfl (r_call1 Try.call44 rfl) (flatNodes_0 hm) ?_
  rintro _ w ⟨rfl, hm⟩
  refine VR.pure rfl rfl (p_pickT rfl rfl) ?_
  refine VR.pure rfl rfl (p_moveB rfl) ?_
  refine VR.knownT 71 rfl rfl ?_
  refine VR.pureG rfl rfl (p_moveP rfl) ?_
  refine VR.pureG rfl rfl (p_nilCheck rfl) ?_
  refine VR.pureG rfl rfl (p_field (fo := 10) Try.underlying79 rfl Try.sizeOf68 rfl rfl rfl) ?_
  refine VR.valG rfl rfl (r_load (v := .slice _ _ _) Try.isAgg68 rfl (hm.fix _ _ hg) rfl) ?_
  refine VR.callG rfl rfl (r_call1 Try.call45 rfl) (flatSittings_0 hm) ?_
  rintro _ w ⟨rfl, hm⟩
  refine VR.pure rfl rfl (p_pickT rfl rfl) ?_
  refine VR.pure rfl rfl (p_moveB rfl) ?_
  refine VR.knownT 78 rfl rfl ?_
  refine VR.pureG rfl rfl (p_moveP rfl) ?_
  refine VR.pureG rfl rfl (p_nilCheck rfl) ?_
  refine VR.pureG rfl rfl (p_field (fo := 11) Try.underlying79 rfl Try.sizeOf69 rfl rfl rfl) ?_
  refine VR.valG rfl rfl (r_load (v := .slice _ _ _) Try.isAgg69 rfl (hm.fix _ _ hg) rfl) ?_
  refine VR.callG rfl rfl (r_call1 Try.call46 rfl) (flatAsks_0 hm) ?_
  rintro _ w ⟨rfl, hm⟩
  refine VR.pure rfl rfl (p_pickT rfl rfl) ?_
  refine VR.pure rfl rfl (p_moveB rfl) ?_
  refine VR.knownT 85 rfl rfl ?_
  refine VR.pureG rfl rfl (p_moveP rfl) ?_
  refine VR.pureG rfl rfl (p_nilCheck rfl) ?_
  refine VR.pureG rfl rfl (p_field (fo := 12) Try.underlying79 rfl Try.sizeOf70 rfl rfl rfl) ?_
  refine VR.valG rfl rfl (r_load (v := .slice _ _ _) Try.isAgg70 rfl (hm.fix _ _ hg) rfl) ?_
  refine VR.callG rfl rfl (r_call1 Try.call47 rfl) (flatReplies_0 hm) ?_
  rintro _ w ⟨rfl, hm⟩
  refine VR.pure rfl rfl (p_pickT rfl rfl) ?_
  refine VR.pure rfl rfl (p_moveB rfl) ?_
  refine VR.knownT 92 rfl rfl ?_
  refine VR.pureG rfl rfl (p_moveP rfl) ?_
  refine VR.pureG rfl rfl (p_nilCheck rfl) ?_
  refine VR.pureG rfl rfl (p_field (fo := 13) Try.underlying79 rfl Try.sizeOf71 rfl rfl rfl) ?_
  refine VR.valG rfl rfl (r_load (v := .slice _ _ _) Try.isAgg71 rfl (hm.fix _ _ hg) rfl) ?_
  refine VR.callG rfl rfl (r_call1 Try.call48 rfl) (flatEvents_0 hm) ?_
  rintro _ w ⟨rfl, hm⟩
  refine VR.pure rfl rfl (p_pickT rfl rfl) ?_
  refine VR.pure rfl rfl (p_moveB rfl) ?_
  refine VR.knownT 99 rfl rfl ?_
  refine VR.pureG rfl rfl (p_moveP rfl) ?_
  refine VR.pureG rfl rfl (p_nilCheck rfl) ?_
  refine VR.pureG rfl rfl (p_field (fo := 14) Try.underlying79 rfl Try.sizeOf72 rfl rfl rfl) ?_
  refine VR.valG rfl rfl (r_load (v := .slice _ _ _) Try.isAgg72 rfl (hm.fix _ _ hg) rfl) ?_
  refine VR.callG rfl rfl (r_call1 Try.call49 rfl) (flatLetters_0 hm) ?_
  rintro _ w ⟨rfl, hm⟩
  refine VR.pure rfl rfl (p_pickT rfl rfl) ?_
  refine VR.pure rfl rfl (p_moveB rfl) ?_
  refine VR.knownT 106 rfl rfl ?_
  refine VR.pureG rfl rfl (p_moveP rfl) ?_
  refine VR.pureG rfl rfl (p_nilCheck rfl) ?_
  refine VR.pureG rfl rfl (p_field (fo := 15) Try.underlying79 rfl Try.sizeOf73 rfl rfl rfl) ?_
  refine VR.valG rfl rfl (r_load (v := .slice _ _ _) Try.isAgg73 rfl (hm.fix _ _ hg) rfl) ?_
  refine VR.callG rfl rfl (r_call1 Try.call50 rfl) (flatPackets_0 hm) ?_
  rintro _ w ⟨rfl, hm⟩
  refine VR.pure rfl rfl (p_pickT rfl rfl) ?_
  refine VR.pure rfl rfl (p_moveB rfl) ?_
  refine VR.knownT 113 rfl rfl ?_
  refine VR.pureG rfl rfl (p_moveP rfl) ?_
  refine VR.pureG rfl rfl (p_nilCheck rfl) ?_
  refine VR.pureG rfl rfl (p_field (fo := 16) Try.underlying79 rfl Try.sizeOf74 rfl rfl rfl) ?_
  refine VR.valG rfl rfl (r_load (v := .slice _ _ _) Try.isAgg74 rfl (hm.fix _ _ hg) rfl) ?_
  refine VR.callG rfl rfl (r_call1 Try.call51 rfl) (flatMails_0 hm) ?_
  rintro _ w ⟨rfl, hm⟩
  refine VR.pure rfl rfl (p_pickT rfl rfl) ?_
  refine VR.pure rfl rfl (p_moveB rfl) ?_
  refine VR.knownT 120 rfl rfl ?_
  refine VR.pureG rfl rfl (p_moveP rfl) ?_
  refine VR.pureG rfl rfl (p_nilCheck rfl) ?_
  refine VR.pureG rfl rfl (p_field (fo := 17) Try.underlying79 rfl Try.sizeOf75 rfl rfl rfl) ?_
  refine VR.valG rfl rfl (r_load (v := .slice _ _ _) Try.isAgg75 rfl (hm.fix _ _ hg) rfl) ?_
  refine VR.callG rfl rfl (r_call1 Try.call52 rfl) (flatSteps_0 hm) ?_
  rintro _ w ⟨rfl, hm⟩
  refine VR.pure rfl rfl (p_pickT rfl rfl) ?_
  refine VR.pure rfl rfl (p_moveB rfl) ?_
  refine VR.knownT 127 rfl rfl ?_
  refine VR.pureG rfl rfl (p_moveP rfl) ?_
  refine VR.pureG rfl rfl (p_nilCheck rfl) ?_
  refine VR.pureG rfl rfl (p_field (fo := 18) Try.underlying79 rfl Try.sizeOf76 rfl rfl rfl) ?_
  refine VR.valG rfl rfl (r_load (v := .slice _ _ _) Try.isAgg76 rfl (hm.fix _ _ hg) rfl) ?_
  refine VR.callG rfl rfl (r_call1 Try.call53 rfl) (flatTales_0 hm) ?_
  rintro _ w ⟨rfl, hm⟩
  refine VR.pure rfl rfl (p_pickT rfl rfl) ?_
  refine VR.pure rfl rfl (p_moveB rfl) ?_
  refine VR.knownT 134 rfl rfl ?_
  refine VR.pureG rfl rfl (p_moveP rfl) ?_
  refine VR.pureG rfl rfl (p_nilCheck rfl) ?_
  refine VR.pureG rfl rfl (p_field (fo := 19) Try.underlying79 rfl Try.sizeOf77 rfl rfl rfl) ?_
  refine VR.valG rfl rfl (r_load (v := .slice _ _ _) Try.isAgg77 rfl (hm.fix _ _ hg) rfl) ?_
  refine VR.callG rfl rfl (r_call1 Try.call54 rfl) (flatCharters_0 hm) ?_
  rintro _ w ⟨rfl, hm⟩
  refine VR.pure rfl rfl (p_pickT rfl rfl) ?_
  refine VR.pure rfl rfl (p_assignB rfl) ?_
  refine VR.nil ?_
  repeat (first | refine VC.seq ?_ | refine VC.block ?_ | refine VC.skip ?_)
  refine VC.ret ⟨_, ResOf.r1 (v := .bool _) rfl rfl, ?_⟩
  exact ⟨rfl, hm⟩

theorem apart_longs_c {F : Env} {w : World} {Ls Ms : List Blks} {O : Option Addr} {m d : Nat} {its : List Sl} (hm : Mem F w (Ms ++ Ls)) (hr : Row F.heap O m (slcells its)) (hmm : m ≤ 1000000)
    (hall : All its Ms (fun _ (it : Sl) L => it.n ≤ 1000000000000 ∧ ∃ xs, OwnS 2 1 it.A it.n it.c xs L)) :
    Calls Try.prog 20 #[.slice O m d] w (Ret fun v w' => v = .bool true ∧ Mem F w' Ls) := by
  have hml : its.length = m := by have := hr.len; rwa [flat_len Sl.len, Nat.mul_one] at this
  refine Calls.of_vc Try.func20 rfl Try.ntmps20 rfl ?_
  repeat (first | refine VC.seq ?_ | refine VC.block ?_ | refine VC.skip ?_)
  refine VC.region ?_
  refine VR.pure rfl rfl (p_assignB rfl) ?_
  refine VR.nil ?_
  repeat (first | refine VC.seq ?_ | refine VC.block ?_ | refine VC.skip ?_)
  refine VC.region ?_
  refine VR.pure rfl rfl (p_build (vs := []) bld79_0x rfl) ?_
  refine VR.new hm rfl rfl (n_boxG rfl) ?_
  intro g w hm
  refine VR.pure rfl rfl (p_assignP rfl) ?_
  refine VR.nil ?_
  repeat (first | refine VC.seq ?_ | refine VC.block ?_ | refine VC.skip ?_)
  refine VC.region ?_
  refine VR.pure rfl rfl (p_assignI rfl) ?_
  refine VR.nil ?_
  repeat (first | refine VC.seq ?_ | refine VC.block ?_ | refine VC.skip ?_)
  refine VC.loop (σ := Nat) (fun k => [(0, .slice O m d), (3, .pointer (some ⟨g, 0, none⟩)), (4, .int .i64 k)])
    (fun k w => k ≤ m ∧ ∃ A c L, OwnS 33 1 A k c (slcells (its.take k)) L ∧ Mem F w (L :: [(g, .cells (bagL A k c) 79 (0, 0))] :: (Ms ++ Ls))) (fun k => m - k) 0 ⟨rfl, rfl, rfl, trivial⟩ ⟨by omega, none, 0, [], OwnS.nil _ _, hm.nil_⟩ ?_
  clear hm
  rintro k A' w ⟨hk, A, c, L, ho, hm⟩
  repeat (first | refine VC.seq ?_ | refine VC.block ?_ | refine VC.skip ?_)
  refine VC.region ?_
  refine VR.pure rfl rfl (p_moveI rfl) ?_
  refine VR.pure rfl rfl (p_moveL rfl) ?_
  refine VR.pure rfl rfl (p_len Try.underlying43 rfl) ?_
  refine VR.pure rfl rfl (p_lt rfl rfl) ?_
  refine VR.nil ?_
  repeat (first | refine VC.seq ?_ | refine VC.block ?_ | refine VC.skip ?_)
  refine VC.condD rfl (fun h => ?_) (fun h => ?_)
  · have hk' : k < m := by omega
    obtain ⟨it, hit, _⟩ := get_of (xs := its) (k := k) (by omega)
    obtain ⟨b, off, blk, T, fr, rfl, hb, hc⟩ := Row.get hr (by omega)
    have hck := (hc k hk').trans (slcell_at hit)
    repeat (first | refine VC.seq ?_ | refine VC.block ?_ | refine VC.skip ?_)
    repeat (first | refine VC.seq ?_ | refine VC.block ?_ | refine VC.skip ?_)
    refine VC.region ?_
    refine VR.pure rfl rfl (p_moveP rfl) ?_
    refine VR.pure rfl rfl (p_moveL rfl) ?_
    refine VR.pure rfl rfl (p_moveI rfl) ?_
    refine VR.pure rfl rfl (p_idx1 Try.underlying43 Try.sizeOf33 rfl rfl hk') ?_
    refine VR.val rfl rfl (r_load (v := .slice _ _ _) Try.isAgg33 rfl (hm.fix _ _ hb) hck) ?_
    refine VR.call rfl rfl (r_call2 Try.call29 rfl rfl) (put_longs_c hm ho (by omega)) ?_
    rintro v w ⟨A', c', L', ho', hm⟩
    refine VR.nil ?_
    repeat (first | refine VC.seq ?_ | refine VC.block ?_ | refine VC.skip ?_)
    refine VC.region ?_
    refine VR.pure rfl rfl (p_moveI rfl) ?_
    refine VR.pure rfl rfl (p_add64 rfl rfl (by omega)) ?_
    refine VR.pure rfl rfl (p_assignI rfl) ?_
    refine VR.nil ?_
    refine ⟨k + 1, ⟨rfl, rfl, rfl, trivial⟩, ⟨by omega, A', c', L', ?_, hm⟩, by omega⟩
    have e : its.take (k + 1) = its.take k ++ [it] := by rw [List.take_add_one, hit]; rfl
    rw [e]
    exact ho'
  · repeat (first | refine VC.seq ?_ | refine VC.block ?_ | refine VC.skip ?_)
    refine VC.exit ?_
    obtain rfl : k = m := by omega
    rw [List.take_of_length_le (by omega)] at ho
    obtain ⟨G1, hu1, hm, hG1⟩ := hm.freeze
    obtain ⟨G2, hu2, hm, hG2⟩ := hm.freeze
    have hrow := ho.row1 (H := G2.heap) fun p hp => hu2.heap _ _ (hG1 p hp)
    repeat (first | refine VC.seq ?_ | refine VC.block ?_ | refine VC.skip ?_)
    refine VC.region ?_
    refine VR.pure rfl rfl (p_moveP rfl) ?_
    refine VR.call rfl rfl (r_call1 Try.call30 rfl) (bag_apart_c hm (hG2 _ (.head _)) hrow (by omega) hall) ?_
    rintro _ w ⟨rfl, hm⟩
    refine VR.pure rfl rfl (p_assignB rfl) ?_
    refine VR.nil ?_
    repeat (first | refine VC.seq ?_ | refine VC.block ?_ | refine VC.skip ?_)
    refine VC.ret ⟨_, ResOf.r1 (v := .bool _) rfl rfl, ?_⟩
    exact ⟨rfl, hm.shrink (hu1.trans hu2)⟩
end Go.Bd
