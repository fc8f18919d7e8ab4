/- LeadNone: tables that aren't there answer nothing. Conditions: none. -/
import Derived.Test.Ytjnplhmhkindpaa23j
import Derived.Test.YtjnplhmhkindpaaFrame
namespace Go.Bd
open Go.Proofs Go.ChangeShapes Go.WideShapes
set_option linter.unusedVariables false
set_option linter.unusedSimpArgs false
set_option maxRecDepth 20000

abbrev tZ : Obj := tOb 0 0 0 none 0 0 0 0 tdZ 0 0
section
variable {F : Env} {w : World} {Ls : List Blks} {g : Nat}
theorem stage_nil : Calls Try.prog 9 #[.pointer none] w (Ret fun v w' => v = .int .u8 0 ∧ w' = w) := by
  refine Calls.of_vc Try.func9 rfl Try.ntmps9 rfl ?_
  repeat (first | refine VC.seq ?_ | refine VC.block ?_ | refine VC.skip ?_)
  refine VC.region ?_
  refine VR.pure rfl rfl (p_assignI rfl) ?_
  refine VR.nil ?_
  repeat (first | refine VC.seq ?_ | refine VC.block ?_ | refine VC.skip ?_)
  refine VC.region ?_
  refine VR.pure rfl rfl (p_moveP rfl) ?_
  refine VR.pure rfl rfl (p_eqNilP Try.underlying29 rfl) ?_
  refine VR.nil ?_
  repeat (first | refine VC.seq ?_ | refine VC.block ?_ | refine VC.skip ?_)
  refine VC.condT rfl rfl ?_
  repeat (first | refine VC.seq ?_ | refine VC.block ?_ | refine VC.skip ?_)
  refine VC.region ?_
  refine VR.pure rfl rfl (p_assignI rfl) ?_
  refine VR.nil ?_
  repeat (first | refine VC.seq ?_ | refine VC.block ?_ | refine VC.skip ?_)
  refine VC.ret ⟨_, ResOf.r1 (v := .int _ _) rfl rfl, ?_⟩
  exact ⟨rfl, rfl⟩
theorem epoch_nil : Calls Try.prog 10 #[.pointer none] w (Ret fun v w' => v = .int .i64 0 ∧ w' = w) := by
  refine Calls.of_vc Try.func10 rfl Try.ntmps10 rfl ?_
  repeat (first | refine VC.seq ?_ | refine VC.block ?_ | refine VC.skip ?_)
  refine VC.region ?_
  refine VR.pure rfl rfl (p_assignI rfl) ?_
  refine VR.nil ?_
  repeat (first | refine VC.seq ?_ | refine VC.block ?_ | refine VC.skip ?_)
  refine VC.region ?_
  refine VR.pure rfl rfl (p_moveP rfl) ?_
  refine VR.pure rfl rfl (p_eqNilP Try.underlying29 rfl) ?_
  refine VR.nil ?_
  repeat (first | refine VC.seq ?_ | refine VC.block ?_ | refine VC.skip ?_)
  refine VC.condT rfl rfl ?_
  repeat (first | refine VC.seq ?_ | refine VC.block ?_ | refine VC.skip ?_)
  refine VC.region ?_
  refine VR.pure rfl rfl (p_assignI rfl) ?_
  refine VR.nil ?_
  repeat (first | refine VC.seq ?_ | refine VC.block ?_ | refine VC.skip ?_)
  refine VC.ret ⟨_, ResOf.r1 (v := .int _ _) rfl rfl, ?_⟩
  exact ⟨rfl, rfl⟩
theorem committed_nil : Calls Try.prog 18 #[.pointer none] w (Ret fun v w' => v = .int .i64 0 ∧ w' = w) := by
  refine Calls.of_vc Try.func18 rfl Try.ntmps18 rfl ?_
  repeat (first | refine VC.seq ?_ | refine VC.block ?_ | refine VC.skip ?_)
  refine VC.region ?_
  refine VR.pure rfl rfl (p_assignI rfl) ?_
  refine VR.nil ?_
  repeat (first | refine VC.seq ?_ | refine VC.block ?_ | refine VC.skip ?_)
  refine VC.region ?_
  refine VR.pure rfl rfl (p_moveP rfl) ?_
  refine VR.pure rfl rfl (p_eqNilP Try.underlying29 rfl) ?_
  refine VR.nil ?_
  repeat (first | refine VC.seq ?_ | refine VC.block ?_ | refine VC.skip ?_)
  refine VC.condT rfl rfl ?_
  repeat (first | refine VC.seq ?_ | refine VC.block ?_ | refine VC.skip ?_)
  refine VC.region ?_
  refine VR.pure rfl rfl (p_assignI rfl) ?_
  refine VR.nil ?_
  repeat (first | refine VC.seq ?_ | refine VC.block ?_ | refine VC.skip ?_)
  refine VC.ret ⟨_, ResOf.r1 (v := .int _ _) rfl rfl, ?_⟩
  exact ⟨rfl, rfl⟩
theorem ackNew_nil {frm : Int} : Calls Try.prog 12 #[.pointer none, .int .i64 frm] w (Ret fun v w' => v = .int .u8 0 ∧ w' = w) := by
  refine Calls.of_vc Try.func12 rfl Try.ntmps12 rfl ?_
  repeat (first | refine VC.seq ?_ | refine VC.block ?_ | refine VC.skip ?_)
  refine VC.region ?_
  refine VR.pure rfl rfl (p_assignI rfl) ?_
  refine VR.nil ?_
  repeat (first | refine VC.seq ?_ | refine VC.block ?_ | refine VC.skip ?_)
  refine VC.region ?_
  refine VR.pure rfl rfl (p_moveP rfl) ?_
  refine VR.pure rfl rfl (p_eqNilP Try.underlying29 rfl) ?_
  refine VR.nil ?_
  repeat (first | refine VC.seq ?_ | refine VC.block ?_ | refine VC.skip ?_)
  refine VC.condT rfl rfl ?_
  repeat (first | refine VC.seq ?_ | refine VC.block ?_ | refine VC.skip ?_)
  refine VC.region ?_
  refine VR.pure rfl rfl (p_assignI rfl) ?_
  refine VR.nil ?_
  repeat (first | refine VC.seq ?_ | refine VC.block ?_ | refine VC.skip ?_)
  refine VC.ret ⟨_, ResOf.r1 (v := .int _ _) rfl rfl, ?_⟩
  exact ⟨rfl, rfl⟩
theorem ack_nil {frm z : Int} : Calls Try.prog 17 #[.pointer none, .int .i64 frm, .int .i64 z] w (Ret fun v w' => v = .int .i64 0 ∧ w' = w) := by
  refine Calls.of_vc Try.func17 rfl Try.ntmps17 rfl ?_
  repeat (first | refine VC.seq ?_ | refine VC.block ?_ | refine VC.skip ?_)
  refine VC.region ?_
  refine VR.pure rfl rfl (p_assignI rfl) ?_
  refine VR.nil ?_
  repeat (first | refine VC.seq ?_ | refine VC.block ?_ | refine VC.skip ?_)
  refine VC.region ?_
  refine VR.pure rfl rfl (p_moveP rfl) ?_
  refine VR.pure rfl rfl (p_eqNilP Try.underlying29 rfl) ?_
  refine VR.nil ?_
  repeat (first | refine VC.seq ?_ | refine VC.block ?_ | refine VC.skip ?_)
  refine VC.condT rfl rfl ?_
  repeat (first | refine VC.seq ?_ | refine VC.block ?_ | refine VC.skip ?_)
  refine VC.region ?_
  refine VR.pure rfl rfl (p_assignI rfl) ?_
  refine VR.nil ?_
  repeat (first | refine VC.seq ?_ | refine VC.block ?_ | refine VC.skip ?_)
  refine VC.ret ⟨_, ResOf.r1 (v := .int _ _) rfl rfl, ?_⟩
  exact ⟨rfl, rfl⟩
theorem configs_nil : Calls Try.prog 19 #[.pointer none] w (Ret fun v w' => v = .slice none 0 0 ∧ w' = w) := by
  refine Calls.of_vc Try.func19 rfl Try.ntmps19 rfl ?_
  repeat (first | refine VC.seq ?_ | refine VC.block ?_ | refine VC.skip ?_)
  refine VC.region ?_
  refine VR.pure rfl rfl (p_assignL rfl) ?_
  refine VR.nil ?_
  repeat (first | refine VC.seq ?_ | refine VC.block ?_ | refine VC.skip ?_)
  refine VC.region ?_
  refine VR.pure rfl rfl (p_moveP rfl) ?_
  refine VR.pure rfl rfl (p_eqNilP Try.underlying29 rfl) ?_
  refine VR.nil ?_
  repeat (first | refine VC.seq ?_ | refine VC.block ?_ | refine VC.skip ?_)
  refine VC.condT rfl rfl ?_
  repeat (first | refine VC.seq ?_ | refine VC.block ?_ | refine VC.skip ?_)
  refine VC.region ?_
  refine VR.pure rfl rfl (p_assignL rfl) ?_
  refine VR.nil ?_
  repeat (first | refine VC.seq ?_ | refine VC.block ?_ | refine VC.skip ?_)
  refine VC.ret ⟨_, ResOf.r1 (v := .slice _ _ _) rfl rfl, ?_⟩
  exact ⟨rfl, rfl⟩
theorem info_nil {frm ac : Int} : Calls Try.prog 8 #[.pointer none, .int .i64 frm, .int .i64 ac] w (Ret fun v w' => v = .int .u8 0 ∧ w' = w) := by
  refine Calls.of_vc Try.func8 rfl Try.ntmps8 rfl ?_
  repeat (first | refine VC.seq ?_ | refine VC.block ?_ | refine VC.skip ?_)
  refine VC.region ?_
  refine VR.pure rfl rfl (p_assignI rfl) ?_
  refine VR.nil ?_
  repeat (first | refine VC.seq ?_ | refine VC.block ?_ | refine VC.skip ?_)
  refine VC.region ?_
  refine VR.pure rfl rfl (p_moveP rfl) ?_
  refine VR.pure rfl rfl (p_eqNilP Try.underlying29 rfl) ?_
  refine VR.pure rfl rfl (p_moveB rfl) ?_
  refine VR.knownT 9 rfl rfl ?_
  refine VR.pass rfl rfl ?_
  refine VR.pass rfl rfl ?_
  refine VR.pass rfl rfl ?_
  refine VR.pass rfl rfl ?_
  refine VR.pass rfl rfl ?_
  refine VR.pure rfl rfl (p_pickT rfl rfl) ?_
  refine VR.nil ?_
  repeat (first | refine VC.seq ?_ | refine VC.block ?_ | refine VC.skip ?_)
  refine VC.condT rfl rfl ?_
  repeat (first | refine VC.seq ?_ | refine VC.block ?_ | refine VC.skip ?_)
  refine VC.region ?_
  refine VR.pure rfl rfl (p_assignI rfl) ?_
  refine VR.nil ?_
  repeat (first | refine VC.seq ?_ | refine VC.block ?_ | refine VC.skip ?_)
  refine VC.ret ⟨_, ResOf.r1 (v := .int _ _) rfl rfl, ?_⟩
  exact ⟨rfl, rfl⟩
theorem next_nil : Calls Try.prog 14 #[.pointer none] w (Ret fun v w' => v = .int .i64 0 ∧ w' = w) := by
  refine Calls.of_vc Try.func14 rfl Try.ntmps14 rfl ?_
  repeat (first | refine VC.seq ?_ | refine VC.block ?_ | refine VC.skip ?_)
  refine VC.region ?_
  refine VR.pure rfl rfl (p_assignI rfl) ?_
  refine VR.nil ?_
  repeat (first | refine VC.seq ?_ | refine VC.block ?_ | refine VC.skip ?_)
  refine VC.region ?_
  refine VR.pure rfl rfl (p_moveP rfl) ?_
  refine VR.pure rfl rfl (p_eqNilP Try.underlying29 rfl) ?_
  refine VR.pure rfl rfl (p_moveB rfl) ?_
  refine VR.knownT 5 rfl rfl ?_
  refine VR.pass rfl rfl ?_
  refine VR.pass rfl rfl ?_
  refine VR.pass rfl rfl ?_
  refine VR.pass rfl rfl ?_
  refine VR.pass rfl rfl ?_
  refine VR.pure rfl rfl (p_pickT rfl rfl) ?_
  refine VR.pure rfl rfl (p_moveB rfl) ?_
  refine VR.pass rfl rfl ?_
  refine VR.pass rfl rfl ?_
  refine VR.pass rfl rfl ?_
  refine VR.pass rfl rfl ?_
  refine VR.pass rfl rfl ?_
  refine VR.pass rfl rfl ?_
  refine VR.pure rfl rfl (p_pickT rfl rfl) ?_
  refine VR.nil ?_
  repeat (first | refine VC.seq ?_ | refine VC.block ?_ | refine VC.skip ?_)
  refine VC.condT rfl rfl ?_
  repeat (first | refine VC.seq ?_ | refine VC.block ?_ | refine VC.skip ?_)
  refine VC.region ?_
  refine VR.pure rfl rfl (p_assignI rfl) ?_
  refine VR.nil ?_
  repeat (first | refine VC.seq ?_ | refine VC.block ?_ | refine VC.skip ?_)
  refine VC.ret ⟨_, ResOf.r1 (v := .int _ _) rfl rfl, ?_⟩
  exact ⟨rfl, rfl⟩
theorem enough_nil {s : Value} : Calls Try.prog 20 #[.pointer none, s] w (Ret fun v w' => v = .bool false ∧ w' = w) := by
  refine Calls.of_vc Try.func20 rfl Try.ntmps20 rfl ?_
  repeat (first | refine VC.seq ?_ | refine VC.block ?_ | refine VC.skip ?_)
  refine VC.region ?_
  refine VR.pure rfl rfl (p_assignB rfl) ?_
  refine VR.nil ?_
  repeat (first | refine VC.seq ?_ | refine VC.block ?_ | refine VC.skip ?_)
  refine VC.region ?_
  refine VR.pure rfl rfl (p_moveP rfl) ?_
  refine VR.pure rfl rfl (p_neNilP Try.underlying29 rfl) ?_
  refine VR.pure rfl rfl (p_moveB rfl) ?_
  refine VR.knownF 7 rfl rfl ?_
  refine VR.pass rfl rfl ?_
  refine VR.pass rfl rfl ?_
  refine VR.pass rfl rfl ?_
  refine VR.pass rfl rfl ?_
  refine VR.pass rfl rfl ?_
  refine VR.pass rfl rfl ?_
  refine VR.pure rfl rfl (p_pickF rfl rfl) ?_
  refine VR.pure rfl rfl (p_assignB rfl) ?_
  refine VR.nil ?_
  repeat (first | refine VC.seq ?_ | refine VC.block ?_ | refine VC.skip ?_)
  refine VC.ret ⟨_, ResOf.r1 (v := .bool _) rfl rfl, ?_⟩
  exact ⟨rfl, rfl⟩
theorem promise_nil {frm cu la : Int} (hm : Mem F w Ls) : Calls Try.prog 11 #[.pointer none, .int .i64 frm, .bool true, .int .i64 cu, .int .i64 la] w (Ret fun v w' => v = .int .u8 0 ∧ Mem F w' Ls) := by
  refine Calls.of_vc Try.func11 rfl Try.ntmps11 rfl ?_
  repeat (first | refine VC.seq ?_ | refine VC.block ?_ | refine VC.skip ?_)
  refine VC.region ?_
  refine VR.new hm rfl rfl (n_box1 (v := .int _ _) rfl rfl) ?_
  intro b6 w hm
  refine VR.pure rfl rfl (p_assignI rfl) ?_
  refine VR.nil ?_
  repeat (first | refine VC.seq ?_ | refine VC.block ?_ | refine VC.skip ?_)
  repeat (first | refine VC.seq ?_ | refine VC.block ?_ | refine VC.skip ?_)
  refine VC.region ?_
  refine VR.pure rfl rfl (p_moveP rfl) ?_
  refine VR.pure rfl rfl (p_eqNilP Try.underlying29 rfl) ?_
  refine VR.pure rfl rfl (p_assignB rfl) ?_
  refine VR.nil ?_
  repeat (first | refine VC.seq ?_ | refine VC.block ?_ | refine VC.skip ?_)
  refine VC.condT rfl rfl ?_
  repeat (first | refine VC.seq ?_ | refine VC.block ?_ | refine VC.skip ?_)
  refine VC.region ?_
  refine VR.pure rfl rfl (p_assignI rfl) ?_
  refine VR.nil ?_
  repeat (first | refine VC.seq ?_ | refine VC.block ?_ | refine VC.skip ?_)
  refine VC.ret ⟨_, ResOf.r1 (v := .int _ _) rfl rfl, ?_⟩
  exact ⟨rfl, hm.pop⟩
theorem propose_nil {z : Int} : Calls Try.prog 15 #[.pointer none, .int .i64 z] w (Ret fun v w' => v = .int .i64 1 ∧ w' = w) := by
  refine Calls.of_vc Try.func15 rfl Try.ntmps15 rfl ?_
  repeat (first | refine VC.seq ?_ | refine VC.block ?_ | refine VC.skip ?_)
  refine VC.region ?_
  refine VR.pure rfl rfl (p_assignI rfl) ?_
  refine VR.nil ?_
  repeat (first | refine VC.seq ?_ | refine VC.block ?_ | refine VC.skip ?_)
  repeat (first | refine VC.seq ?_ | refine VC.block ?_ | refine VC.skip ?_)
  refine VC.region ?_
  refine VR.pure rfl rfl (p_moveP rfl) ?_
  refine VR.pure rfl rfl (p_eqNilP Try.underlying29 rfl) ?_
  refine VR.pure rfl rfl (p_moveB rfl) ?_
  refine VR.knownT 8 rfl rfl ?_
  refine VR.pass rfl rfl ?_
  refine VR.pass rfl rfl ?_
  refine VR.pass rfl rfl ?_
  refine VR.pass rfl rfl ?_
  refine VR.pass rfl rfl ?_
  refine VR.pure rfl rfl (p_pickT rfl rfl) ?_
  refine VR.pure rfl rfl (p_assignB rfl) ?_
  refine VR.nil ?_
  repeat (first | refine VC.seq ?_ | refine VC.block ?_ | refine VC.skip ?_)
  refine VC.condT rfl rfl ?_
  repeat (first | refine VC.seq ?_ | refine VC.block ?_ | refine VC.skip ?_)
  refine VC.region ?_
  refine VR.pure rfl rfl (p_assignI rfl) ?_
  refine VR.nil ?_
  repeat (first | refine VC.seq ?_ | refine VC.block ?_ | refine VC.skip ?_)
  refine VC.ret ⟨_, ResOf.r1 (v := .int _ _) rfl rfl, ?_⟩
  exact ⟨rfl, rfl⟩
theorem change_nil {v : Int} {A : Option Addr} {n c : Nat} (hm : Mem F w Ls) : Calls Try.prog 16 #[.pointer none, .agg #[.int .i64 v, .slice A n c]] w (Ret fun v w' => v = .int .i64 1 ∧ Mem F w' Ls) := by
  refine Calls.of_vc Try.func16 rfl Try.ntmps16 rfl ?_
  repeat (first | refine VC.seq ?_ | refine VC.block ?_ | refine VC.skip ?_)
  refine VC.region ?_
  refine VR.new hm rfl rfl (n_boxG rfl) ?_
  intro b3 w hm
  refine VR.pure rfl rfl (p_assignI rfl) ?_
  refine VR.nil ?_
  repeat (first | refine VC.seq ?_ | refine VC.block ?_ | refine VC.skip ?_)
  repeat (first | refine VC.seq ?_ | refine VC.block ?_ | refine VC.skip ?_)
  refine VC.region ?_
  refine VR.pure rfl rfl (p_moveP rfl) ?_
  refine VR.pure rfl rfl (p_eqNilP Try.underlying29 rfl) ?_
  refine VR.pure rfl rfl (p_moveB rfl) ?_
  refine VR.knownT 8 rfl rfl ?_
  refine VR.pass rfl rfl ?_
  refine VR.pass rfl rfl ?_
  refine VR.pass rfl rfl ?_
  refine VR.pass rfl rfl ?_
  refine VR.pass rfl rfl ?_
  refine VR.pure rfl rfl (p_pickT rfl rfl) ?_
  refine VR.pure rfl rfl (p_assignB rfl) ?_
  refine VR.nil ?_
  repeat (first | refine VC.seq ?_ | refine VC.block ?_ | refine VC.skip ?_)
  refine VC.condT rfl rfl ?_
  repeat (first | refine VC.seq ?_ | refine VC.block ?_ | refine VC.skip ?_)
  refine VC.region ?_
  refine VR.pure rfl rfl (p_assignI rfl) ?_
  refine VR.nil ?_
  repeat (first | refine VC.seq ?_ | refine VC.block ?_ | refine VC.skip ?_)
  refine VC.ret ⟨_, ResOf.r1 (v := .int _ _) rfl rfl, ?_⟩
  exact ⟨rfl, hm.pop⟩

/-! ### A table of nothing -/
theorem info_zero {frm ac : Int} (hm : Mem F w Ls) (hg : F.heap g = some tZ) : Calls Try.prog 8 #[.pointer (some ⟨g, 0, none⟩), .int .i64 frm, .int .i64 ac] w (Ret fun v w' => v = .int .u8 0 ∧ Mem F w' Ls) := by
  refine Calls.of_vc Try.func8 rfl Try.ntmps8 rfl ?_
  repeat (first | refine VC.seq ?_ | refine VC.block ?_ | refine VC.skip ?_)
  refine VC.region ?_
  refine VR.pure rfl rfl (p_assignI rfl) ?_
  refine VR.nil ?_
  repeat (first | refine VC.seq ?_ | refine VC.block ?_ | refine VC.skip ?_)
  refine VC.region ?_
  refine VR.pure rfl rfl (p_moveP rfl) ?_
  refine VR.pure rfl rfl (p_eqNilP Try.underlying29 rfl) ?_
  refine VR.pure rfl rfl (p_moveB rfl) ?_
  refine VR.knownF 9 rfl rfl ?_
  refine VR.pureG rfl rfl (p_moveP rfl) ?_
  refine VR.pureG rfl rfl (p_nilCheck rfl) ?_
  refine VR.pureG rfl rfl (p_field (fo := 4) Try.underlying47 rfl Try.sizeOf32 rfl rfl rfl) ?_
  refine VR.valG rfl rfl (r_load (v := .int _ _) Try.isAgg32 rfl (hm.fix _ _ hg) rfl) ?_
  refine VR.pureG rfl rfl (p_eq rfl rfl) ?_
  refine VR.pure rfl rfl (p_pickF rfl rfl) ?_
  refine VR.nil ?_
  repeat (first | refine VC.seq ?_ | refine VC.block ?_ | refine VC.skip ?_)
  refine VC.condT rfl rfl ?_
  repeat (first | refine VC.seq ?_ | refine VC.block ?_ | refine VC.skip ?_)
  refine VC.region ?_
  refine VR.pure rfl rfl (p_assignI rfl) ?_
  refine VR.nil ?_
  repeat (first | refine VC.seq ?_ | refine VC.block ?_ | refine VC.skip ?_)
  refine VC.ret ⟨_, ResOf.r1 (v := .int _ _) rfl rfl, ?_⟩
  exact ⟨rfl, hm⟩
theorem next_zero (hm : Mem F w Ls) (hg : F.heap g = some tZ) : Calls Try.prog 14 #[.pointer (some ⟨g, 0, none⟩)] w (Ret fun v w' => v = .int .i64 0 ∧ Mem F w' Ls) := by
  refine Calls.of_vc Try.func14 rfl Try.ntmps14 rfl ?_
  repeat (first | refine VC.seq ?_ | refine VC.block ?_ | refine VC.skip ?_)
  refine VC.region ?_
  refine VR.pure rfl rfl (p_assignI rfl) ?_
  refine VR.nil ?_
  repeat (first | refine VC.seq ?_ | refine VC.block ?_ | refine VC.skip ?_)
  refine VC.region ?_
  refine VR.pure rfl rfl (p_moveP rfl) ?_
  refine VR.pure rfl rfl (p_eqNilP Try.underlying29 rfl) ?_
  refine VR.pure rfl rfl (p_moveB rfl) ?_
  refine VR.knownF 5 rfl rfl ?_
  refine VR.pureG rfl rfl (p_moveP rfl) ?_
  refine VR.pureG rfl rfl (p_nilCheck rfl) ?_
  refine VR.pureG rfl rfl (p_field (fo := 4) Try.underlying47 rfl Try.sizeOf32 rfl rfl rfl) ?_
  refine VR.valG rfl rfl (r_load (v := .int _ _) Try.isAgg32 rfl (hm.fix _ _ hg) rfl) ?_
  refine VR.pureG rfl rfl (p_ne rfl rfl) ?_
  refine VR.pure rfl rfl (p_pickF rfl rfl) ?_
  refine VR.pure rfl rfl (p_moveB rfl) ?_
  refine VR.knownT 12 rfl rfl ?_
  refine VR.pass rfl rfl ?_
  refine VR.pass rfl rfl ?_
  refine VR.pass rfl rfl ?_
  refine VR.pass rfl rfl ?_
  refine VR.pass rfl rfl ?_
  refine VR.pass rfl rfl ?_
  refine VR.pure rfl rfl (p_pickT rfl rfl) ?_
  refine VR.nil ?_
  repeat (first | refine VC.seq ?_ | refine VC.block ?_ | refine VC.skip ?_)
  refine VC.condT rfl rfl ?_
  repeat (first | refine VC.seq ?_ | refine VC.block ?_ | refine VC.skip ?_)
  refine VC.region ?_
  refine VR.pure rfl rfl (p_assignI rfl) ?_
  refine VR.nil ?_
  repeat (first | refine VC.seq ?_ | refine VC.block ?_ | refine VC.skip ?_)
  refine VC.ret ⟨_, ResOf.r1 (v := .int _ _) rfl rfl, ?_⟩
  exact ⟨rfl, hm⟩
theorem promise_zero {frm cu la : Int} (hm : Mem F w Ls) (hg : F.heap g = some tZ) : Calls Try.prog 11 #[.pointer (some ⟨g, 0, none⟩), .int .i64 frm, .bool true, .int .i64 cu, .int .i64 la] w (Ret fun v w' => v = .int .u8 0 ∧ Mem F w' Ls) := by
  refine Calls.of_vc Try.func11 rfl Try.ntmps11 rfl ?_
  repeat (first | refine VC.seq ?_ | refine VC.block ?_ | refine VC.skip ?_)
  refine VC.region ?_
  refine VR.new hm rfl rfl (n_box1 (v := .int _ _) rfl rfl) ?_
  intro b6 w hm
  refine VR.pure rfl rfl (p_assignI rfl) ?_
  refine VR.nil ?_
  repeat (first | refine VC.seq ?_ | refine VC.block ?_ | refine VC.skip ?_)
  repeat (first | refine VC.seq ?_ | refine VC.block ?_ | refine VC.skip ?_)
  refine VC.region ?_
  refine VR.pure rfl rfl (p_moveP rfl) ?_
  refine VR.pure rfl rfl (p_eqNilP Try.underlying29 rfl) ?_
  refine VR.pure rfl rfl (p_assignB rfl) ?_
  refine VR.nil ?_
  repeat (first | refine VC.seq ?_ | refine VC.block ?_ | refine VC.skip ?_)
  refine VC.condF rfl rfl ?_
  repeat (first | refine VC.seq ?_ | refine VC.block ?_ | refine VC.skip ?_)
  refine VC.region ?_
  refine VR.pure rfl rfl (p_moveP rfl) ?_
  refine VR.pure rfl rfl (p_nilCheck rfl) ?_
  refine VR.pure rfl rfl (p_field (fo := 4) Try.underlying47 rfl Try.sizeOf32 rfl rfl rfl) ?_
  refine VR.val rfl rfl (r_load (v := .int _ _) Try.isAgg32 rfl (hm.fix _ _ hg) rfl) ?_
  refine VR.pure rfl rfl (p_ne rfl rfl) ?_
  refine VR.pure rfl rfl (p_moveB rfl) ?_
  refine VR.knownT 28 rfl rfl ?_
  refine VR.pass rfl rfl ?_
  refine VR.pass rfl rfl ?_
  refine VR.pure rfl rfl (p_pickT rfl rfl) ?_
  refine VR.pure rfl rfl (p_moveB rfl) ?_
  refine VR.pass rfl rfl ?_
  refine VR.pass rfl rfl ?_
  refine VR.pass rfl rfl ?_
  refine VR.pure rfl rfl (p_pickT rfl rfl) ?_
  refine VR.pure rfl rfl (p_assignB rfl) ?_
  refine VR.nil ?_
  repeat (first | refine VC.seq ?_ | refine VC.block ?_ | refine VC.skip ?_)
  refine VC.condT rfl rfl ?_
  repeat (first | refine VC.seq ?_ | refine VC.block ?_ | refine VC.skip ?_)
  repeat (first | refine VC.seq ?_ | refine VC.block ?_ | refine VC.skip ?_)
  refine VC.region ?_
  refine VR.pure rfl rfl (p_moveP rfl) ?_
  refine VR.pure rfl rfl (p_nilCheck rfl) ?_
  refine VR.pure rfl rfl (p_field (fo := 4) Try.underlying47 rfl Try.sizeOf32 rfl rfl rfl) ?_
  refine VR.val rfl rfl (r_load (v := .int _ _) Try.isAgg32 rfl (hm.fix _ _ hg) rfl) ?_
  refine VR.pure rfl rfl (p_assignI rfl) ?_
  refine VR.nil ?_
  repeat (first | refine VC.seq ?_ | refine VC.block ?_ | refine VC.skip ?_)
  refine VC.ret ⟨_, ResOf.r1 (v := .int _ _) rfl rfl, ?_⟩
  exact ⟨rfl, hm.pop⟩
theorem ackNew_zero {frm : Int} (hm : Mem F w Ls) (hg : F.heap g = some tZ) : Calls Try.prog 12 #[.pointer (some ⟨g, 0, none⟩), .int .i64 frm] w (Ret fun v w' => v = .int .u8 0 ∧ Mem F w' Ls) := by
  refine Calls.of_vc Try.func12 rfl Try.ntmps12 rfl ?_
  repeat (first | refine VC.seq ?_ | refine VC.block ?_ | refine VC.skip ?_)
  refine VC.region ?_
  refine VR.pure rfl rfl (p_assignI rfl) ?_
  refine VR.nil ?_
  repeat (first | refine VC.seq ?_ | refine VC.block ?_ | refine VC.skip ?_)
  refine VC.region ?_
  refine VR.pure rfl rfl (p_moveP rfl) ?_
  refine VR.pure rfl rfl (p_eqNilP Try.underlying29 rfl) ?_
  refine VR.nil ?_
  repeat (first | refine VC.seq ?_ | refine VC.block ?_ | refine VC.skip ?_)
  refine VC.condF rfl rfl ?_
  repeat (first | refine VC.seq ?_ | refine VC.block ?_ | refine VC.skip ?_)
  refine VC.region ?_
  refine VR.pure rfl rfl (p_moveP rfl) ?_
  refine VR.pure rfl rfl (p_nilCheck rfl) ?_
  refine VR.pure rfl rfl (p_field (fo := 4) Try.underlying47 rfl Try.sizeOf32 rfl rfl rfl) ?_
  refine VR.val rfl rfl (r_load (v := .int _ _) Try.isAgg32 rfl (hm.fix _ _ hg) rfl) ?_
  refine VR.pure rfl rfl (p_eq rfl rfl) ?_
  refine VR.pure rfl rfl (p_moveB rfl) ?_
  refine VR.knownF 12 rfl rfl ?_
  refine VR.pureG rfl rfl (p_moveP rfl) ?_
  refine VR.pureG rfl rfl (p_nilCheck rfl) ?_
  refine VR.pureG rfl rfl (p_field (fo := 4) Try.underlying47 rfl Try.sizeOf32 rfl rfl rfl) ?_
  refine VR.valG rfl rfl (r_load (v := .int _ _) Try.isAgg32 rfl (hm.fix _ _ hg) rfl) ?_
  refine VR.pureG rfl rfl (p_eq rfl rfl) ?_
  refine VR.pure rfl rfl (p_pickF rfl rfl) ?_
  refine VR.pure rfl rfl (p_moveB rfl) ?_
  refine VR.knownF 19 rfl rfl ?_
  refine VR.pass rfl rfl ?_
  refine VR.pass rfl rfl ?_
  refine VR.pure rfl rfl (p_pickF rfl rfl) ?_
  refine VR.nil ?_
  repeat (first | refine VC.seq ?_ | refine VC.block ?_ | refine VC.skip ?_)
  refine VC.condF rfl rfl ?_
  repeat (first | refine VC.seq ?_ | refine VC.block ?_ | refine VC.skip ?_)
  repeat (first | refine VC.seq ?_ | refine VC.block ?_ | refine VC.skip ?_)
  refine VC.region ?_
  refine VR.pure rfl rfl (p_moveP rfl) ?_
  refine VR.pure rfl rfl (p_nilCheck rfl) ?_
  refine VR.pure rfl rfl (p_field (fo := 4) Try.underlying47 rfl Try.sizeOf32 rfl rfl rfl) ?_
  refine VR.val rfl rfl (r_load (v := .int _ _) Try.isAgg32 rfl (hm.fix _ _ hg) rfl) ?_
  refine VR.pure rfl rfl (p_assignI rfl) ?_
  refine VR.nil ?_
  repeat (first | refine VC.seq ?_ | refine VC.block ?_ | refine VC.skip ?_)
  refine VC.ret ⟨_, ResOf.r1 (v := .int _ _) rfl rfl, ?_⟩
  exact ⟨rfl, hm⟩
theorem propose_zero {z : Int} (hm : Mem F w Ls) (hg : F.heap g = some tZ) : Calls Try.prog 15 #[.pointer (some ⟨g, 0, none⟩), .int .i64 z] w (Ret fun v w' => v = .int .i64 1 ∧ Mem F w' Ls) := by
  refine Calls.of_vc Try.func15 rfl Try.ntmps15 rfl ?_
  repeat (first | refine VC.seq ?_ | refine VC.block ?_ | refine VC.skip ?_)
  refine VC.region ?_
  refine VR.pure rfl rfl (p_assignI rfl) ?_
  refine VR.nil ?_
  repeat (first | refine VC.seq ?_ | refine VC.block ?_ | refine VC.skip ?_)
  repeat (first | refine VC.seq ?_ | refine VC.block ?_ | refine VC.skip ?_)
  refine VC.region ?_
  refine VR.pure rfl rfl (p_moveP rfl) ?_
  refine VR.pure rfl rfl (p_eqNilP Try.underlying29 rfl) ?_
  refine VR.pure rfl rfl (p_moveB rfl) ?_
  refine VR.knownF 8 rfl rfl ?_
  refine VR.pureG rfl rfl (p_moveP rfl) ?_
  refine VR.pureG rfl rfl (p_nilCheck rfl) ?_
  refine VR.pureG rfl rfl (p_field (fo := 4) Try.underlying47 rfl Try.sizeOf32 rfl rfl rfl) ?_
  refine VR.valG rfl rfl (r_load (v := .int _ _) Try.isAgg32 rfl (hm.fix _ _ hg) rfl) ?_
  refine VR.pureG rfl rfl (p_eq rfl rfl) ?_
  refine VR.pure rfl rfl (p_pickF rfl rfl) ?_
  refine VR.pure rfl rfl (p_assignB rfl) ?_
  refine VR.nil ?_
  repeat (first | refine VC.seq ?_ | refine VC.block ?_ | refine VC.skip ?_)
  refine VC.condT rfl rfl ?_
  repeat (first | refine VC.seq ?_ | refine VC.block ?_ | refine VC.skip ?_)
  refine VC.region ?_
  refine VR.pure rfl rfl (p_assignI rfl) ?_
  refine VR.nil ?_
  repeat (first | refine VC.seq ?_ | refine VC.block ?_ | refine VC.skip ?_)
  refine VC.ret ⟨_, ResOf.r1 (v := .int _ _) rfl rfl, ?_⟩
  exact ⟨rfl, hm⟩
theorem change_zero {v : Int} {A : Option Addr} {n c : Nat} (hm : Mem F w Ls) (hg : F.heap g = some tZ) : Calls Try.prog 16 #[.pointer (some ⟨g, 0, none⟩), .agg #[.int .i64 v, .slice A n c]] w (Ret fun v w' => v = .int .i64 1 ∧ Mem F w' Ls) := by
  refine Calls.of_vc Try.func16 rfl Try.ntmps16 rfl ?_
  repeat (first | refine VC.seq ?_ | refine VC.block ?_ | refine VC.skip ?_)
  refine VC.region ?_
  refine VR.new hm rfl rfl (n_boxG rfl) ?_
  intro b3 w hm
  refine VR.pure rfl rfl (p_assignI rfl) ?_
  refine VR.nil ?_
  repeat (first | refine VC.seq ?_ | refine VC.block ?_ | refine VC.skip ?_)
  repeat (first | refine VC.seq ?_ | refine VC.block ?_ | refine VC.skip ?_)
  refine VC.region ?_
  refine VR.pure rfl rfl (p_moveP rfl) ?_
  refine VR.pure rfl rfl (p_eqNilP Try.underlying29 rfl) ?_
  refine VR.pure rfl rfl (p_moveB rfl) ?_
  refine VR.knownF 8 rfl rfl ?_
  refine VR.pureG rfl rfl (p_moveP rfl) ?_
  refine VR.pureG rfl rfl (p_nilCheck rfl) ?_
  refine VR.pureG rfl rfl (p_field (fo := 4) Try.underlying47 rfl Try.sizeOf32 rfl rfl rfl) ?_
  refine VR.valG rfl rfl (r_load (v := .int _ _) Try.isAgg32 rfl (hm.fix _ _ hg) rfl) ?_
  refine VR.pureG rfl rfl (p_eq rfl rfl) ?_
  refine VR.pure rfl rfl (p_pickF rfl rfl) ?_
  refine VR.pure rfl rfl (p_assignB rfl) ?_
  refine VR.nil ?_
  repeat (first | refine VC.seq ?_ | refine VC.block ?_ | refine VC.skip ?_)
  refine VC.condT rfl rfl ?_
  repeat (first | refine VC.seq ?_ | refine VC.block ?_ | refine VC.skip ?_)
  refine VC.region ?_
  refine VR.pure rfl rfl (p_assignI rfl) ?_
  refine VR.nil ?_
  repeat (first | refine VC.seq ?_ | refine VC.block ?_ | refine VC.skip ?_)
  refine VC.ret ⟨_, ResOf.r1 (v := .int _ _) rfl rfl, ?_⟩
  exact ⟨rfl, hm.pop⟩
theorem counterAny_c {z : Int} : Calls Try.prog 34 #[.int .i64 z] w (Ret fun v w' => (∃ r, v = .int .i64 r) ∧ w' = w) := by
  refine Calls.of_vc Try.func34 rfl Try.ntmps34 rfl ?_
  repeat (first | refine VC.seq ?_ | refine VC.block ?_ | refine VC.skip ?_)
  refine VC.region ?_
  refine VR.pure rfl rfl (p_assignI rfl) ?_
  refine VR.nil ?_
  repeat (first | refine VC.seq ?_ | refine VC.block ?_ | refine VC.skip ?_)
  refine VC.region ?_
  refine VR.pure rfl rfl (p_moveI rfl) ?_
  refine VR.call rfl rfl (r_call1 Try.call35 rfl) (may_c) ?_
  rintro _ _ ⟨rfl, rfl⟩
  refine VR.pure rfl rfl (p_notD rfl) ?_
  refine VR.nil ?_
  repeat (first | refine VC.seq ?_ | refine VC.block ?_ | refine VC.skip ?_)
  refine VC.condD rfl (fun h => ?_) (fun h => ?_)
  · repeat (first | refine VC.seq ?_ | refine VC.block ?_ | refine VC.skip ?_)
    refine VC.region ?_
    refine VR.pure rfl rfl (p_assignI rfl) ?_
    refine VR.nil ?_
    repeat (first | refine VC.seq ?_ | refine VC.block ?_ | refine VC.skip ?_)
    refine VC.ret ⟨_, ResOf.r1 (v := .int _ _) rfl rfl, ?_⟩
    exact ⟨⟨_, rfl⟩, rfl⟩
  · repeat (first | refine VC.seq ?_ | refine VC.block ?_ | refine VC.skip ?_)
    refine VC.region ?_
    refine VR.pure rfl rfl (p_moveI rfl) ?_
    refine VR.pure rfl rfl (p_and64E rfl rfl rfl) ?_
    refine VR.pure rfl rfl (p_assignI rfl) ?_
    refine VR.nil ?_
    repeat (first | refine VC.seq ?_ | refine VC.block ?_ | refine VC.skip ?_)
    refine VC.ret ⟨_, ResOf.r1 (v := .int _ _) rfl rfl, ?_⟩
    exact ⟨⟨_, rfl⟩, rfl⟩
theorem ack_zero {frm z : Int} (hm : Mem F w Ls) (hg : F.heap g = some tZ) : Calls Try.prog 17 #[.pointer (some ⟨g, 0, none⟩), .int .i64 frm, .int .i64 z] w (Ret fun v w' => v = .int .i64 0 ∧ Mem F w' Ls) := by
  refine Calls.of_vc Try.func17 rfl Try.ntmps17 rfl ?_
  repeat (first | refine VC.seq ?_ | refine VC.block ?_ | refine VC.skip ?_)
  refine VC.region ?_
  refine VR.pure rfl rfl (p_assignI rfl) ?_
  refine VR.nil ?_
  repeat (first | refine VC.seq ?_ | refine VC.block ?_ | refine VC.skip ?_)
  refine VC.region ?_
  refine VR.pure rfl rfl (p_moveP rfl) ?_
  refine VR.pure rfl rfl (p_eqNilP Try.underlying29 rfl) ?_
  refine VR.nil ?_
  repeat (first | refine VC.seq ?_ | refine VC.block ?_ | refine VC.skip ?_)
  refine VC.condF rfl rfl ?_
  repeat (first | refine VC.seq ?_ | refine VC.block ?_ | refine VC.skip ?_)
  refine VC.meet (σ := Bool) (fun b => [(0, .pointer (some ⟨g, 0, none⟩)), (1, .int .i64 frm), (2, .int .i64 z), (7, .bool b)]) (fun _ w => Mem F w Ls) ?_ ?_
  · repeat (first | refine VC.seq ?_ | refine VC.block ?_ | refine VC.skip ?_)
    refine VC.loud (Kept F []) [1, 9, 14] rfl (by kernel_rfl) (Kept.of0 hm.drew) ?_
    replace hm := hm.drew
    refine VL.pure rfl rfl rfl (p_moveI rfl) ?_
    refine VL.call rfl rfl rfl (r_call1 Try.call23 rfl) (epoch_c) ?_
    rintro _ _ ⟨rfl, rfl⟩
    refine ⟨Kept.of0 hm, ?_⟩
    refine VL.pure rfl rfl rfl (p_moveP rfl) ?_
    refine VL.pure rfl rfl rfl (p_nilCheck rfl) ?_
    refine VL.pure rfl rfl rfl (p_field (fo := 5) Try.underlying47 rfl Try.sizeOf3 rfl rfl rfl) ?_
    refine VL.read rfl rfl rfl (fun w' hw' => r_load (v := .int _ _) Try.isAgg3 rfl (hw'.fix _ _ hg) rfl) ?_
    refine VL.pure rfl rfl rfl (p_eq rfl rfl) ?_
    refine VL.pure rfl rfl rfl (p_moveB rfl) ?_
    refine VL.splitD 17 rfl (fun q7 => ?_) (fun q7 => ?_)
    refine VL.pureG rfl rfl rfl (p_moveI rfl) ?_
    refine VL.callG rfl rfl rfl (r_call1 Try.call34 rfl) (counterAny_c) ?_
    rintro _ _ ⟨⟨r9, rfl⟩, rfl⟩
    refine ⟨Kept.of0 hm, ?_⟩
    refine VL.pureG rfl rfl rfl (p_ge rfl rfl) ?_
    refine VL.pure rfl rfl rfl (p_pickT rfl rfl) ?_
    refine VL.pure rfl rfl rfl (p_moveB rfl) ?_
    refine VL.splitD 22 rfl (fun q12 => ?_) (fun q12 => ?_)
    refine VL.pureG rfl rfl rfl (p_moveI rfl) ?_
    refine VL.callG rfl rfl rfl (r_call1 Try.call34 rfl) (counterAny_c) ?_
    rintro _ _ ⟨⟨r14, rfl⟩, rfl⟩
    refine ⟨Kept.of0 hm, ?_⟩
    refine VL.pureG rfl rfl rfl (p_moveP rfl) ?_
    refine VL.pureG rfl rfl rfl (p_nilCheck rfl) ?_
    refine VL.pureG rfl rfl rfl (p_field (fo := 46) Try.underlying47 rfl Try.sizeOf3 rfl rfl rfl) ?_
    refine VL.readG rfl rfl rfl (fun w' hw' => r_load (v := .int _ _) Try.isAgg3 rfl (hw'.fix _ _ hg) rfl) ?_
    refine VL.pureG rfl rfl rfl (p_le rfl rfl) ?_
    refine VL.pure rfl rfl rfl (p_pickT rfl rfl) ?_
    refine VL.pure rfl rfl rfl (p_assignB rfl) ?_
    refine VL.nil ?_
    rotate_left 1
    refine VL.pass rfl rfl ?_
    refine VL.pass rfl rfl ?_
    refine VL.pass rfl rfl ?_
    refine VL.pass rfl rfl ?_
    refine VL.pass rfl rfl ?_
    refine VL.pass rfl rfl ?_
    refine VL.pass rfl rfl ?_
    refine VL.pure rfl rfl rfl (p_pickF rfl rfl) ?_
    refine VL.pure rfl rfl rfl (p_assignB rfl) ?_
    refine VL.nil ?_
    rotate_left 1
    refine VL.pass rfl rfl ?_
    refine VL.pass rfl rfl ?_
    refine VL.pass rfl rfl ?_
    refine VL.pure rfl rfl rfl (p_pickF rfl rfl) ?_
    refine VL.pure rfl rfl rfl (p_moveB rfl) ?_
    refine VL.pass rfl rfl ?_
    refine VL.pass rfl rfl ?_
    refine VL.pass rfl rfl ?_
    refine VL.pass rfl rfl ?_
    refine VL.pass rfl rfl ?_
    refine VL.pass rfl rfl ?_
    refine VL.pass rfl rfl ?_
    refine VL.pure rfl rfl rfl (p_pickF rfl rfl) ?_
    refine VL.pure rfl rfl rfl (p_assignB rfl) ?_
    refine VL.nil ?_
    rotate_left 1
    all_goals exact ⟨_, ⟨rfl, rfl, rfl, rfl, trivial⟩, hm⟩
  clear hm
  rintro b A1 w hm
  repeat (first | refine VC.seq ?_ | refine VC.block ?_ | refine VC.skip ?_)
  refine VC.region ?_
  refine VR.pure rfl rfl (p_moveP rfl) ?_
  refine VR.pure rfl rfl (p_nilCheck rfl) ?_
  refine VR.pure rfl rfl (p_field (fo := 4) Try.underlying47 rfl Try.sizeOf32 rfl rfl rfl) ?_
  refine VR.val rfl rfl (r_load (v := .int _ _) Try.isAgg32 rfl (hm.fix _ _ hg) rfl) ?_
  refine VR.pure rfl rfl (p_eq rfl rfl) ?_
  refine VR.pure rfl rfl (p_moveB rfl) ?_
  refine VR.knownF 36 rfl rfl ?_
  refine VR.pass rfl rfl ?_
  refine VR.pass rfl rfl ?_
  refine VR.pure rfl rfl (p_pickF rfl rfl) ?_
  refine VR.pure rfl rfl (p_moveB rfl) ?_
  refine VR.pass rfl rfl ?_
  refine VR.pass rfl rfl ?_
  refine VR.pass rfl rfl ?_
  refine VR.pass rfl rfl ?_
  refine VR.pass rfl rfl ?_
  refine VR.pass rfl rfl ?_
  refine VR.pass rfl rfl ?_
  refine VR.pass rfl rfl ?_
  refine VR.pass rfl rfl ?_
  refine VR.pass rfl rfl ?_
  refine VR.pass rfl rfl ?_
  refine VR.pass rfl rfl ?_
  refine VR.pass rfl rfl ?_
  refine VR.pure rfl rfl (p_pickF rfl rfl) ?_
  refine VR.nil ?_
  repeat (first | refine VC.seq ?_ | refine VC.block ?_ | refine VC.skip ?_)
  refine VC.condF rfl rfl ?_
  repeat (first | refine VC.seq ?_ | refine VC.block ?_ | refine VC.skip ?_)
  repeat (first | refine VC.seq ?_ | refine VC.block ?_ | refine VC.skip ?_)
  refine VC.region ?_
  refine VR.pure rfl rfl (p_moveP rfl) ?_
  refine VR.pure rfl rfl (p_nilCheck rfl) ?_
  refine VR.pure rfl rfl (p_field (fo := 47) Try.underlying47 rfl Try.sizeOf22 rfl rfl rfl) ?_
  refine VR.val rfl rfl (r_load (v := .int _ _) Try.isAgg22 rfl (hm.fix _ _ hg) rfl) ?_
  refine VR.pure rfl rfl (p_assignI rfl) ?_
  refine VR.nil ?_
  repeat (first | refine VC.seq ?_ | refine VC.block ?_ | refine VC.skip ?_)
  refine VC.ret ⟨_, ResOf.r1 (v := .int _ _) rfl rfl, ?_⟩
  exact ⟨rfl, hm⟩
theorem all_nil {s : Value} : Calls Try.prog 13 #[.slice none 0 0, s] w (Ret fun v w' => v = .bool false ∧ w' = w) := by
  refine Calls.of_vc Try.func13 rfl Try.ntmps13 rfl ?_
  repeat (first | refine VC.seq ?_ | refine VC.block ?_ | refine VC.skip ?_)
  refine VC.region ?_
  refine VR.pure rfl rfl (p_assignB rfl) ?_
  refine VR.nil ?_
  repeat (first | refine VC.seq ?_ | refine VC.block ?_ | refine VC.skip ?_)
  refine VC.region ?_
  refine VR.pure rfl rfl (p_moveL rfl) ?_
  refine VR.pure rfl rfl (p_len Try.underlying23 rfl) ?_
  refine VR.pure rfl rfl (p_moveI rfl) ?_
  refine VR.nil ?_
  repeat (first | refine VC.seq ?_ | refine VC.block ?_ | refine VC.skip ?_)
  refine VC.loop (σ := Unit) (fun _ => [(0, .slice none 0 0), (8, .int .i64 0), (9, .int .i64 0)]) (fun _ w' => w' = w) (fun _ => 0) () ⟨rfl, rfl, rfl, trivial⟩ rfl ?_
  rintro _ A' _ rfl
  repeat (first | refine VC.seq ?_ | refine VC.block ?_ | refine VC.skip ?_)
  refine VC.region ?_
  refine VR.pure rfl rfl (p_lt rfl rfl) ?_
  refine VR.nil ?_
  repeat (first | refine VC.seq ?_ | refine VC.block ?_ | refine VC.skip ?_)
  refine VC.condF rfl rfl ?_
  repeat (first | refine VC.seq ?_ | refine VC.block ?_ | refine VC.skip ?_)
  refine VC.exit ?_
  repeat (first | refine VC.seq ?_ | refine VC.block ?_ | refine VC.skip ?_)
  refine VC.region ?_
  refine VR.pure rfl rfl (p_moveL rfl) ?_
  refine VR.pure rfl rfl (p_len Try.underlying23 rfl) ?_
  refine VR.pure rfl rfl (p_gt rfl rfl) ?_
  refine VR.pure rfl rfl (p_assignB rfl) ?_
  refine VR.nil ?_
  repeat (first | refine VC.seq ?_ | refine VC.block ?_ | refine VC.skip ?_)
  refine VC.ret ⟨_, ResOf.r1 (v := .bool _) rfl rfl, ?_⟩
  exact ⟨rfl, rfl⟩
theorem enough_zero {s : Value} {A : Option Addr} {n c : Nat} (hs : s = .slice A n c) (hm : Mem F w Ls) (hg : F.heap g = some tZ) : Calls Try.prog 20 #[.pointer (some ⟨g, 0, none⟩), s] w (Ret fun v w' => v = .bool false ∧ Mem F w' Ls) := by
  subst hs
  refine Calls.of_vc Try.func20 rfl Try.ntmps20 rfl ?_
  repeat (first | refine VC.seq ?_ | refine VC.block ?_ | refine VC.skip ?_)
  refine VC.region ?_
  refine VR.pure rfl rfl (p_assignB rfl) ?_
  refine VR.nil ?_
  repeat (first | refine VC.seq ?_ | refine VC.block ?_ | refine VC.skip ?_)
  refine VC.region ?_
  refine VR.pure rfl rfl (p_moveP rfl) ?_
  refine VR.pure rfl rfl (p_neNilP Try.underlying29 rfl) ?_
  refine VR.pure rfl rfl (p_moveB rfl) ?_
  refine VR.knownT 7 rfl rfl ?_
  refine VR.pureG rfl rfl (p_moveP rfl) ?_
  refine VR.pureG rfl rfl (p_nilCheck rfl) ?_
  refine VR.pureG rfl rfl (p_field (fo := 3) Try.underlying47 rfl Try.sizeOf23 rfl rfl rfl) ?_
  refine VR.valG rfl rfl (r_load (v := .slice _ _ _) Try.isAgg23 rfl (hm.fix _ _ hg) rfl) ?_
  refine VR.pureG rfl rfl (p_moveL rfl) ?_
  refine VR.callG rfl rfl (r_call2 Try.call13 rfl rfl) (all_nil) ?_
  rintro _ _ ⟨rfl, rfl⟩
  refine VR.pure rfl rfl (p_pickT rfl rfl) ?_
  refine VR.pure rfl rfl (p_assignB rfl) ?_
  refine VR.nil ?_
  repeat (first | refine VC.seq ?_ | refine VC.block ?_ | refine VC.skip ?_)
  refine VC.ret ⟨_, ResOf.r1 (v := .bool _) rfl rfl, ?_⟩
  exact ⟨rfl, hm⟩
theorem configs_zero (hm : Mem F w Ls) (hg : F.heap g = some tZ) : Calls Try.prog 19 #[.pointer (some ⟨g, 0, none⟩)] w (Ret fun v w' => ∃ A' c', v = .slice A' 0 c' ∧ Mem F w' Ls) := by
  refine Calls.of_vc Try.func19 rfl Try.ntmps19 rfl ?_
  repeat (first | refine VC.seq ?_ | refine VC.block ?_ | refine VC.skip ?_)
  refine VC.region ?_
  refine VR.pure rfl rfl (p_assignL rfl) ?_
  refine VR.nil ?_
  repeat (first | refine VC.seq ?_ | refine VC.block ?_ | refine VC.skip ?_)
  refine VC.region ?_
  refine VR.pure rfl rfl (p_moveP rfl) ?_
  refine VR.pure rfl rfl (p_eqNilP Try.underlying29 rfl) ?_
  refine VR.nil ?_
  repeat (first | refine VC.seq ?_ | refine VC.block ?_ | refine VC.skip ?_)
  refine VC.condF rfl rfl ?_
  repeat (first | refine VC.seq ?_ | refine VC.block ?_ | refine VC.skip ?_)
  refine VC.region ?_
  refine VR.pure rfl rfl (p_moveP rfl) ?_
  refine VR.pure rfl rfl (p_nilCheck rfl) ?_
  refine VR.pure rfl rfl (p_field (fo := 3) Try.underlying47 rfl Try.sizeOf23 rfl rfl rfl) ?_
  refine VR.val rfl rfl (r_load (v := .slice _ _ _) Try.isAgg23 rfl (hm.fix _ _ hg) rfl) ?_
  refine VR.call rfl rfl (r_call1 Try.call33 rfl) (cloneE_c (es := []) hm (by decide) ⟨Row.nil _, fun e he ↦ absurd he (by simp)⟩) ?_
  rintro _ w ⟨A1, c1, L1, rfl, ho1, hm⟩
  refine VR.pure rfl rfl (p_assignL rfl) ?_
  refine VR.nil ?_
  repeat (first | refine VC.seq ?_ | refine VC.block ?_ | refine VC.skip ?_)
  refine VC.region ?_
  refine VR.pure rfl rfl (p_moveL rfl) ?_
  refine VR.pure rfl rfl (p_len Try.underlying23 rfl) ?_
  refine VR.pure rfl rfl (p_moveI rfl) ?_
  refine VR.nil ?_
  repeat (first | refine VC.seq ?_ | refine VC.block ?_ | refine VC.skip ?_)
  refine VC.loop (σ := Unit) (fun s => [(3, .slice A1 0 c1), (13, .int .i64 0), (14, .int .i64 0)]) (fun _ w => Mem F w (L1 :: Ls)) (fun _ => 0) () ⟨rfl, rfl, rfl, trivial⟩ hm ?_
  clear hm
  rintro _ A2 w hm
  repeat (first | refine VC.seq ?_ | refine VC.block ?_ | refine VC.skip ?_)
  refine VC.region ?_
  refine VR.pure rfl rfl (p_lt rfl rfl) ?_
  refine VR.nil ?_
  repeat (first | refine VC.seq ?_ | refine VC.block ?_ | refine VC.skip ?_)
  refine VC.condF rfl rfl ?_
  repeat (first | refine VC.seq ?_ | refine VC.block ?_ | refine VC.skip ?_)
  refine VC.exit ?_
  repeat (first | refine VC.seq ?_ | refine VC.block ?_ | refine VC.skip ?_)
  refine VC.region ?_
  refine VR.pure rfl rfl (p_moveL rfl) ?_
  refine VR.pure rfl rfl (p_assignL rfl) ?_
  refine VR.nil ?_
  repeat (first | refine VC.seq ?_ | refine VC.block ?_ | refine VC.skip ?_)
  refine VC.ret ⟨_, ResOf.r1 (v := .slice _ _ _) rfl rfl, ?_⟩
  exact ⟨A1, c1, rfl, hm.pop⟩
structure Dl where
  frm : Int
  n : Int
  z : Int
  A : Option Addr
  m : Nat
  c : Nat
  A' : Option Addr
  m' : Nat
  c' : Nat
structure DlAt (cs : Array Value) (d : Dl) : Prop where
  frm : cs[0 + 1]? = some (.int .i64 d.frm)
  n : cs[0 + 2]? = some (.int .i64 d.n)
  z : cs[0 + 3]? = some (.int .i64 d.z)
  mem : cs[0 + 5]? = some (.slice d.A d.m d.c)
  ids : cs[0 + 6]? = some (.slice d.A' d.m' d.c')
set_option maxHeartbeats 8000000 in
theorem lead_none_c {cs : Array Value} {d : Dl} (hd : DlAt cs d) (hm : Mem F w []) : Calls Try.prog 4 #[.agg cs] w (Ret fun v w' => v = .bool true ∧ Mem F w' []) := by
  refine Calls.of_vc Try.func4 rfl Try.ntmps4 rfl ?_
  repeat (first | refine VC.seq ?_ | refine VC.block ?_ | refine VC.skip ?_)
  refine VC.region ?_
  refine VR.new hm rfl rfl (n_boxG rfl) ?_
  intro b1 w hm
  refine VR.pure rfl rfl (p_assignB rfl) ?_
  refine VR.nil ?_
  obtain ⟨G, hu, hm, hb1⟩ := hm.freeze
  replace hb1 := hb1 _ (.head _)
  repeat (first | refine VC.seq ?_ | refine VC.block ?_ | refine VC.skip ?_)
  refine VC.region ?_
  refine VR.call rfl rfl (r_call0 Try.call5) (awake_c hm) ?_
  rintro _ w ⟨rfl, hm⟩
  refine VR.pure rfl rfl (p_not rfl) ?_
  refine VR.nil ?_
  repeat (first | refine VC.seq ?_ | refine VC.block ?_ | refine VC.skip ?_)
  refine VC.condF rfl rfl ?_
  repeat (first | refine VC.seq ?_ | refine VC.block ?_ | refine VC.skip ?_)
  refine VC.region ?_
  refine VR.pure rfl rfl (p_build (vs := []) bld47_0x rfl) ?_
  refine VR.new hm rfl rfl (n_boxG rfl) ?_
  intro g w hm
  refine VR.new hm rfl rfl (n_buildSlice1 (vs := [.pointer _, .pointer _]) Try.underlying48 inf29 rfl rfl rfl rfl rfl rfl rfl) ?_
  intro bl w hm
  refine VR.pure rfl rfl (p_assignL rfl) ?_
  refine VR.nil ?_
  obtain ⟨G1, hu1, hm, hbl⟩ := hm.freeze
  obtain ⟨G2, hu2, hm, hg⟩ := hm.freeze
  replace hg : G2.heap g = some tZ := hg _ (.head _)
  replace hbl := hu2.heap _ _ (hbl _ (.head _))
  replace hb1 := hu2.heap _ _ (hu1.heap _ _ hb1)
  have hu02 := (hu.trans hu1).trans hu2
  repeat (first | refine VC.seq ?_ | refine VC.block ?_ | refine VC.skip ?_)
  refine VC.region ?_
  refine VR.pure rfl rfl (p_assignI rfl) ?_
  refine VR.nil ?_
  repeat (first | refine VC.seq ?_ | refine VC.block ?_ | refine VC.skip ?_)
  refine VC.loop (σ := Nat) (fun k => [(1, .pointer (some ⟨b1, 0, none⟩)), (3, .slice (some ⟨bl, 0, none⟩) 2 2), (4, .int .i64 k)]) (fun k w => k ≤ 2 ∧ Mem G2 w []) (fun k => 2 - k) 0 ⟨rfl, rfl, rfl, trivial⟩ ⟨by omega, hm⟩ ?_
  clear hm
  rintro k A1 w ⟨hk, hm⟩
  repeat (first | refine VC.seq ?_ | refine VC.block ?_ | refine VC.skip ?_)
  refine VC.region ?_
  refine VR.pure rfl rfl (p_moveI rfl) ?_
  refine VR.pure rfl rfl (p_lt rfl rfl) ?_
  refine VR.nil ?_
  repeat (first | refine VC.seq ?_ | refine VC.block ?_ | refine VC.skip ?_)
  refine VC.condD rfl (fun h => ?_) (fun h => ?_)
  · rcases (by omega : k = 0 ∨ k = 1) with rfl | rfl
    · repeat (first | refine VC.seq ?_ | refine VC.block ?_ | refine VC.skip ?_)
      repeat (first | refine VC.seq ?_ | refine VC.block ?_ | refine VC.skip ?_)
      refine VC.region ?_
      refine VR.pure rfl rfl (p_moveL rfl) ?_
      refine VR.pure rfl rfl (p_moveI rfl) ?_
      refine VR.pure rfl rfl (p_idxN Try.underlying48 Try.sizeOf29 rfl rfl (show 0 < 2 by omega)) ?_
      refine VR.val rfl rfl (r_load (v := .pointer _) Try.isAgg29 rfl (hm.fix _ _ hbl) rfl) ?_
      refine VR.pure rfl rfl (p_assignP rfl) ?_
      refine VR.nil ?_
      repeat (first | refine VC.seq ?_ | refine VC.block ?_ | refine VC.skip ?_)
      refine VC.region ?_
      refine VR.pure rfl rfl (p_moveP rfl) ?_
      refine VR.call rfl rfl (r_call1 Try.call9 rfl) (stage_nil) ?_
      rintro _ _ ⟨rfl, rfl⟩
      refine VR.pure rfl rfl (p_ne rfl rfl) ?_
      refine VR.pure rfl rfl (p_moveB rfl) ?_
      refine VR.knownF 22 rfl rfl ?_
      refine VR.pureG rfl rfl (p_moveP rfl) ?_
      refine VR.callG rfl rfl (r_call1 Try.call10 rfl) (epoch_nil) ?_
      rintro _ _ ⟨rfl, rfl⟩
      refine VR.pureG rfl rfl (p_ne rfl rfl) ?_
      refine VR.pure rfl rfl (p_pickF rfl rfl) ?_
      refine VR.pure rfl rfl (p_moveB rfl) ?_
      refine VR.knownF 27 rfl rfl ?_
      refine VR.pureG rfl rfl (p_moveP rfl) ?_
      refine VR.pureG rfl rfl (p_field (fo := 1) Try.underlying42 rfl Try.sizeOf3 rfl rfl rfl) ?_
      refine VR.valG rfl rfl (r_load (v := .int _ _) Try.isAgg3 rfl (hm.fix _ _ hb1) hd.frm) ?_
      refine VR.pureG rfl rfl (p_field (fo := 2) Try.underlying42 rfl Try.sizeOf3 rfl rfl rfl) ?_
      refine VR.valG rfl rfl (r_load (v := .int _ _) Try.isAgg3 rfl (hm.fix _ _ hb1) hd.n) ?_
      refine VR.callG rfl rfl (r_call3 Try.call8 rfl rfl rfl) (info_nil) ?_
      rintro _ _ ⟨rfl, rfl⟩
      refine VR.pureG rfl rfl (p_ne rfl rfl) ?_
      refine VR.pure rfl rfl (p_pickF rfl rfl) ?_
      refine VR.pure rfl rfl (p_moveB rfl) ?_
      refine VR.knownF 36 rfl rfl ?_
      refine VR.pureG rfl rfl (p_moveP rfl) ?_
      refine VR.pureG rfl rfl (p_field (fo := 1) Try.underlying42 rfl Try.sizeOf3 rfl rfl rfl) ?_
      refine VR.valG rfl rfl (r_load (v := .int _ _) Try.isAgg3 rfl (hm.fix _ _ hb1) hd.frm) ?_
      refine VR.pureG rfl rfl (p_field (fo := 2) Try.underlying42 rfl Try.sizeOf3 rfl rfl rfl) ?_
      refine VR.valG rfl rfl (r_load (v := .int _ _) Try.isAgg3 rfl (hm.fix _ _ hb1) hd.n) ?_
      refine VR.pureG rfl rfl (p_field (fo := 3) Try.underlying42 rfl Try.sizeOf22 rfl rfl rfl) ?_
      refine VR.valG rfl rfl (r_load (v := .int _ _) Try.isAgg22 rfl (hm.fix _ _ hb1) hd.z) ?_
      refine VR.callG rfl rfl (r_call5 Try.call11 rfl rfl rfl rfl rfl) (promise_nil hm) ?_
      rintro _ w ⟨rfl, hm⟩
      refine VR.pureG rfl rfl (p_ne rfl rfl) ?_
      refine VR.pure rfl rfl (p_pickF rfl rfl) ?_
      refine VR.pure rfl rfl (p_moveB rfl) ?_
      refine VR.knownF 47 rfl rfl ?_
      refine VR.pureG rfl rfl (p_moveP rfl) ?_
      refine VR.pureG rfl rfl (p_field (fo := 1) Try.underlying42 rfl Try.sizeOf3 rfl rfl rfl) ?_
      refine VR.valG rfl rfl (r_load (v := .int _ _) Try.isAgg3 rfl (hm.fix _ _ hb1) hd.frm) ?_
      refine VR.callG rfl rfl (r_call2 Try.call12 rfl rfl) (ackNew_nil) ?_
      rintro _ _ ⟨rfl, rfl⟩
      refine VR.pureG rfl rfl (p_ne rfl rfl) ?_
      refine VR.pure rfl rfl (p_pickF rfl rfl) ?_
      refine VR.pure rfl rfl (p_moveB rfl) ?_
      refine VR.knownF 54 rfl rfl ?_
      refine VR.pureG rfl rfl (p_moveP rfl) ?_
      refine VR.callG rfl rfl (r_call1 Try.call14 rfl) (next_nil) ?_
      rintro _ _ ⟨rfl, rfl⟩
      refine VR.pureG rfl rfl (p_ne rfl rfl) ?_
      refine VR.pure rfl rfl (p_pickF rfl rfl) ?_
      refine VR.pure rfl rfl (p_moveB rfl) ?_
      refine VR.knownF 59 rfl rfl ?_
      refine VR.pureG rfl rfl (p_moveP rfl) ?_
      refine VR.pureG rfl rfl (p_field (fo := 3) Try.underlying42 rfl Try.sizeOf22 rfl rfl rfl) ?_
      refine VR.valG rfl rfl (r_load (v := .int _ _) Try.isAgg22 rfl (hm.fix _ _ hb1) hd.z) ?_
      refine VR.callG rfl rfl (r_call2 Try.call15 rfl rfl) (propose_nil) ?_
      rintro _ _ ⟨rfl, rfl⟩
      refine VR.pureG rfl rfl (p_ne rfl rfl) ?_
      refine VR.pure rfl rfl (p_pickF rfl rfl) ?_
      refine VR.pure rfl rfl (p_moveB rfl) ?_
      refine VR.knownF 66 rfl rfl ?_
      refine VR.pureG rfl rfl (p_moveP rfl) ?_
      refine VR.pureG rfl rfl (p_field (fo := 5) Try.underlying42 rfl Try.sizeOf40 rfl rfl rfl) ?_
      refine VR.valG rfl rfl (r_load (v := .slice _ _ _) Try.isAgg40 rfl (hm.fix _ _ hb1) hd.mem) ?_
      refine VR.pureG rfl rfl (p_build (vs := [(1, .slice _ _ _)]) bld54_1 rfl) ?_
      refine VR.callG rfl rfl (r_call2 Try.call16 rfl rfl) (change_nil hm) ?_
      rintro _ w ⟨rfl, hm⟩
      refine VR.pureG rfl rfl (p_ne rfl rfl) ?_
      refine VR.pure rfl rfl (p_pickF rfl rfl) ?_
      refine VR.pure rfl rfl (p_moveB rfl) ?_
      refine VR.knownF 74 rfl rfl ?_
      refine VR.pureG rfl rfl (p_moveP rfl) ?_
      refine VR.pureG rfl rfl (p_field (fo := 1) Try.underlying42 rfl Try.sizeOf3 rfl rfl rfl) ?_
      refine VR.valG rfl rfl (r_load (v := .int _ _) Try.isAgg3 rfl (hm.fix _ _ hb1) hd.frm) ?_
      refine VR.pureG rfl rfl (p_field (fo := 3) Try.underlying42 rfl Try.sizeOf22 rfl rfl rfl) ?_
      refine VR.valG rfl rfl (r_load (v := .int _ _) Try.isAgg22 rfl (hm.fix _ _ hb1) hd.z) ?_
      refine VR.callG rfl rfl (r_call3 Try.call17 rfl rfl rfl) (ack_nil) ?_
      rintro _ _ ⟨rfl, rfl⟩
      refine VR.pureG rfl rfl (p_ne rfl rfl) ?_
      refine VR.pure rfl rfl (p_pickF rfl rfl) ?_
      refine VR.pure rfl rfl (p_moveB rfl) ?_
      refine VR.knownF 83 rfl rfl ?_
      refine VR.pureG rfl rfl (p_moveP rfl) ?_
      refine VR.callG rfl rfl (r_call1 Try.call18 rfl) (committed_nil) ?_
      rintro _ _ ⟨rfl, rfl⟩
      refine VR.pureG rfl rfl (p_ne rfl rfl) ?_
      refine VR.pure rfl rfl (p_pickF rfl rfl) ?_
      refine VR.pure rfl rfl (p_moveB rfl) ?_
      refine VR.knownF 88 rfl rfl ?_
      refine VR.pureG rfl rfl (p_moveP rfl) ?_
      refine VR.callG rfl rfl (r_call1 Try.call19 rfl) (configs_nil) ?_
      rintro _ _ ⟨rfl, rfl⟩
      refine VR.pureG rfl rfl (p_len Try.underlying23 rfl) ?_
      refine VR.pureG rfl rfl (p_ne rfl rfl) ?_
      refine VR.pure rfl rfl (p_pickF rfl rfl) ?_
      refine VR.pure rfl rfl (p_moveB rfl) ?_
      refine VR.knownF 94 rfl rfl ?_
      refine VR.pureG rfl rfl (p_moveP rfl) ?_
      refine VR.pureG rfl rfl (p_field (fo := 6) Try.underlying42 rfl Try.sizeOf26 rfl rfl rfl) ?_
      refine VR.valG rfl rfl (r_load (v := .slice _ _ _) Try.isAgg26 rfl (hm.fix _ _ hb1) hd.ids) ?_
      refine VR.callG rfl rfl (r_call2 Try.call20 rfl rfl) (enough_nil) ?_
      rintro _ _ ⟨rfl, rfl⟩
      refine VR.pure rfl rfl (p_pickF rfl rfl) ?_
      refine VR.nil ?_
      repeat (first | refine VC.seq ?_ | refine VC.block ?_ | refine VC.skip ?_)
      refine VC.condF rfl rfl ?_
      repeat (first | refine VC.seq ?_ | refine VC.block ?_ | refine VC.skip ?_)
      repeat (first | refine VC.seq ?_ | refine VC.block ?_ | refine VC.skip ?_)
      refine VC.region ?_
      refine VR.pure rfl rfl (p_moveI rfl) ?_
      refine VR.pure rfl rfl (p_add64 rfl rfl (by omega)) ?_
      refine VR.pure rfl rfl (p_assignI rfl) ?_
      refine VR.nil ?_
      exact ⟨1, ⟨rfl, rfl, rfl, trivial⟩, ⟨by omega, hm⟩, by omega⟩
    · repeat (first | refine VC.seq ?_ | refine VC.block ?_ | refine VC.skip ?_)
      repeat (first | refine VC.seq ?_ | refine VC.block ?_ | refine VC.skip ?_)
      refine VC.region ?_
      refine VR.pure rfl rfl (p_moveL rfl) ?_
      refine VR.pure rfl rfl (p_moveI rfl) ?_
      refine VR.pure rfl rfl (p_idxN Try.underlying48 Try.sizeOf29 rfl rfl (show 1 < 2 by omega)) ?_
      refine VR.val rfl rfl (r_load (v := .pointer _) Try.isAgg29 rfl (hm.fix _ _ hbl) rfl) ?_
      refine VR.pure rfl rfl (p_assignP rfl) ?_
      refine VR.nil ?_
      repeat (first | refine VC.seq ?_ | refine VC.block ?_ | refine VC.skip ?_)
      refine VC.region ?_
      refine VR.pure rfl rfl (p_moveP rfl) ?_
      refine VR.call rfl rfl (r_call1 Try.call9 rfl) (stage_c (T := ⟨0, 0, 0, none, 0, 0, [], 0, 0, tdZ, 0, 0⟩) hm hg) ?_
      rintro _ w ⟨rfl, hm⟩
      refine VR.pure rfl rfl (p_ne rfl rfl) ?_
      refine VR.pure rfl rfl (p_moveB rfl) ?_
      refine VR.knownF 22 rfl rfl ?_
      refine VR.pureG rfl rfl (p_moveP rfl) ?_
      refine VR.callG rfl rfl (r_call1 Try.call10 rfl) (epochT_c (T := ⟨0, 0, 0, none, 0, 0, [], 0, 0, tdZ, 0, 0⟩) hm hg) ?_
      rintro _ w ⟨rfl, hm⟩
      refine VR.pureG rfl rfl (p_ne rfl rfl) ?_
      refine VR.pure rfl rfl (p_pickF rfl rfl) ?_
      refine VR.pure rfl rfl (p_moveB rfl) ?_
      refine VR.knownF 27 rfl rfl ?_
      refine VR.pureG rfl rfl (p_moveP rfl) ?_
      refine VR.pureG rfl rfl (p_field (fo := 1) Try.underlying42 rfl Try.sizeOf3 rfl rfl rfl) ?_
      refine VR.valG rfl rfl (r_load (v := .int _ _) Try.isAgg3 rfl (hm.fix _ _ hb1) hd.frm) ?_
      refine VR.pureG rfl rfl (p_field (fo := 2) Try.underlying42 rfl Try.sizeOf3 rfl rfl rfl) ?_
      refine VR.valG rfl rfl (r_load (v := .int _ _) Try.isAgg3 rfl (hm.fix _ _ hb1) hd.n) ?_
      refine VR.callG rfl rfl (r_call3 Try.call8 rfl rfl rfl) (info_zero hm hg) ?_
      rintro _ w ⟨rfl, hm⟩
      refine VR.pureG rfl rfl (p_ne rfl rfl) ?_
      refine VR.pure rfl rfl (p_pickF rfl rfl) ?_
      refine VR.pure rfl rfl (p_moveB rfl) ?_
      refine VR.knownF 36 rfl rfl ?_
      refine VR.pureG rfl rfl (p_moveP rfl) ?_
      refine VR.pureG rfl rfl (p_field (fo := 1) Try.underlying42 rfl Try.sizeOf3 rfl rfl rfl) ?_
      refine VR.valG rfl rfl (r_load (v := .int _ _) Try.isAgg3 rfl (hm.fix _ _ hb1) hd.frm) ?_
      refine VR.pureG rfl rfl (p_field (fo := 2) Try.underlying42 rfl Try.sizeOf3 rfl rfl rfl) ?_
      refine VR.valG rfl rfl (r_load (v := .int _ _) Try.isAgg3 rfl (hm.fix _ _ hb1) hd.n) ?_
      refine VR.pureG rfl rfl (p_field (fo := 3) Try.underlying42 rfl Try.sizeOf22 rfl rfl rfl) ?_
      refine VR.valG rfl rfl (r_load (v := .int _ _) Try.isAgg22 rfl (hm.fix _ _ hb1) hd.z) ?_
      refine VR.callG rfl rfl (r_call5 Try.call11 rfl rfl rfl rfl rfl) (promise_zero hm hg) ?_
      rintro _ w ⟨rfl, hm⟩
      refine VR.pureG rfl rfl (p_ne rfl rfl) ?_
      refine VR.pure rfl rfl (p_pickF rfl rfl) ?_
      refine VR.pure rfl rfl (p_moveB rfl) ?_
      refine VR.knownF 47 rfl rfl ?_
      refine VR.pureG rfl rfl (p_moveP rfl) ?_
      refine VR.pureG rfl rfl (p_field (fo := 1) Try.underlying42 rfl Try.sizeOf3 rfl rfl rfl) ?_
      refine VR.valG rfl rfl (r_load (v := .int _ _) Try.isAgg3 rfl (hm.fix _ _ hb1) hd.frm) ?_
      refine VR.callG rfl rfl (r_call2 Try.call12 rfl rfl) (ackNew_zero hm hg) ?_
      rintro _ w ⟨rfl, hm⟩
      refine VR.pureG rfl rfl (p_ne rfl rfl) ?_
      refine VR.pure rfl rfl (p_pickF rfl rfl) ?_
      refine VR.pure rfl rfl (p_moveB rfl) ?_
      refine VR.knownF 54 rfl rfl ?_
      refine VR.pureG rfl rfl (p_moveP rfl) ?_
      refine VR.callG rfl rfl (r_call1 Try.call14 rfl) (next_zero hm hg) ?_
      rintro _ w ⟨rfl, hm⟩
      refine VR.pureG rfl rfl (p_ne rfl rfl) ?_
      refine VR.pure rfl rfl (p_pickF rfl rfl) ?_
      refine VR.pure rfl rfl (p_moveB rfl) ?_
      refine VR.knownF 59 rfl rfl ?_
      refine VR.pureG rfl rfl (p_moveP rfl) ?_
      refine VR.pureG rfl rfl (p_field (fo := 3) Try.underlying42 rfl Try.sizeOf22 rfl rfl rfl) ?_
      refine VR.valG rfl rfl (r_load (v := .int _ _) Try.isAgg22 rfl (hm.fix _ _ hb1) hd.z) ?_
      refine VR.callG rfl rfl (r_call2 Try.call15 rfl rfl) (propose_zero hm hg) ?_
      rintro _ w ⟨rfl, hm⟩
      refine VR.pureG rfl rfl (p_ne rfl rfl) ?_
      refine VR.pure rfl rfl (p_pickF rfl rfl) ?_
      refine VR.pure rfl rfl (p_moveB rfl) ?_
      refine VR.knownF 66 rfl rfl ?_
      refine VR.pureG rfl rfl (p_moveP rfl) ?_
      refine VR.pureG rfl rfl (p_field (fo := 5) Try.underlying42 rfl Try.sizeOf40 rfl rfl rfl) ?_
      refine VR.valG rfl rfl (r_load (v := .slice _ _ _) Try.isAgg40 rfl (hm.fix _ _ hb1) hd.mem) ?_
      refine VR.pureG rfl rfl (p_build (vs := [(1, .slice _ _ _)]) bld54_1 rfl) ?_
      refine VR.callG rfl rfl (r_call2 Try.call16 rfl rfl) (change_zero hm hg) ?_
      rintro _ w ⟨rfl, hm⟩
      refine VR.pureG rfl rfl (p_ne rfl rfl) ?_
      refine VR.pure rfl rfl (p_pickF rfl rfl) ?_
      refine VR.pure rfl rfl (p_moveB rfl) ?_
      refine VR.knownF 74 rfl rfl ?_
      refine VR.pureG rfl rfl (p_moveP rfl) ?_
      refine VR.pureG rfl rfl (p_field (fo := 1) Try.underlying42 rfl Try.sizeOf3 rfl rfl rfl) ?_
      refine VR.valG rfl rfl (r_load (v := .int _ _) Try.isAgg3 rfl (hm.fix _ _ hb1) hd.frm) ?_
      refine VR.pureG rfl rfl (p_field (fo := 3) Try.underlying42 rfl Try.sizeOf22 rfl rfl rfl) ?_
      refine VR.valG rfl rfl (r_load (v := .int _ _) Try.isAgg22 rfl (hm.fix _ _ hb1) hd.z) ?_
      refine VR.callG rfl rfl (r_call3 Try.call17 rfl rfl rfl) (ack_zero hm hg) ?_
      rintro _ w ⟨rfl, hm⟩
      refine VR.pureG rfl rfl (p_ne rfl rfl) ?_
      refine VR.pure rfl rfl (p_pickF rfl rfl) ?_
      refine VR.pure rfl rfl (p_moveB rfl) ?_
      refine VR.knownF 83 rfl rfl ?_
      refine VR.pureG rfl rfl (p_moveP rfl) ?_
      refine VR.callG rfl rfl (r_call1 Try.call18 rfl) (committed_c (T := ⟨0, 0, 0, none, 0, 0, [], 0, 0, tdZ, 0, 0⟩) hm hg) ?_
      rintro _ w ⟨rfl, hm⟩
      refine VR.pureG rfl rfl (p_ne rfl rfl) ?_
      refine VR.pure rfl rfl (p_pickF rfl rfl) ?_
      refine VR.pure rfl rfl (p_moveB rfl) ?_
      refine VR.knownF 88 rfl rfl ?_
      refine VR.pureG rfl rfl (p_moveP rfl) ?_
      refine VR.callG rfl rfl (r_call1 Try.call19 rfl) (configs_zero hm hg) ?_
      rintro _ w ⟨A9, c9, rfl, hm⟩
      refine VR.pureG rfl rfl (p_len Try.underlying23 rfl) ?_
      refine VR.pureG rfl rfl (p_ne rfl rfl) ?_
      refine VR.pure rfl rfl (p_pickF rfl rfl) ?_
      refine VR.pure rfl rfl (p_moveB rfl) ?_
      refine VR.knownF 94 rfl rfl ?_
      refine VR.pureG rfl rfl (p_moveP rfl) ?_
      refine VR.pureG rfl rfl (p_field (fo := 6) Try.underlying42 rfl Try.sizeOf26 rfl rfl rfl) ?_
      refine VR.valG rfl rfl (r_load (v := .slice _ _ _) Try.isAgg26 rfl (hm.fix _ _ hb1) hd.ids) ?_
      refine VR.callG rfl rfl (r_call2 Try.call20 rfl rfl) (enough_zero rfl hm hg) ?_
      rintro _ w ⟨rfl, hm⟩
      refine VR.pure rfl rfl (p_pickF rfl rfl) ?_
      refine VR.nil ?_
      repeat (first | refine VC.seq ?_ | refine VC.block ?_ | refine VC.skip ?_)
      refine VC.condF rfl rfl ?_
      repeat (first | refine VC.seq ?_ | refine VC.block ?_ | refine VC.skip ?_)
      repeat (first | refine VC.seq ?_ | refine VC.block ?_ | refine VC.skip ?_)
      refine VC.region ?_
      refine VR.pure rfl rfl (p_moveI rfl) ?_
      refine VR.pure rfl rfl (p_add64 rfl rfl (by omega)) ?_
      refine VR.pure rfl rfl (p_assignI rfl) ?_
      refine VR.nil ?_
      exact ⟨2, ⟨rfl, rfl, rfl, trivial⟩, ⟨by omega, hm⟩, by omega⟩
  · repeat (first | refine VC.seq ?_ | refine VC.block ?_ | refine VC.skip ?_)
    refine VC.exit ?_
    repeat (first | refine VC.seq ?_ | refine VC.block ?_ | refine VC.skip ?_)
    refine VC.region ?_
    refine VR.pure rfl rfl (p_assignB rfl) ?_
    refine VR.nil ?_
    repeat (first | refine VC.seq ?_ | refine VC.block ?_ | refine VC.skip ?_)
    refine VC.ret ⟨_, ResOf.r1 (v := .bool _) rfl rfl, ?_⟩
    exact ⟨rfl, hm.shrink hu02⟩
end
theorem at_of_take {l : List Value} {k : Nat} {v : Value} (h : (l.drop k).take 1 = [v]) : l[k]? = some v := by
  have : ((l.drop k).take 1)[0]? = some v := by rw [h]; rfl
  rw [List.getElem?_take, if_pos (by decide), List.getElem?_drop] at this
  exact this
theorem cellsi : Try.prog.cellsOf 3 = 1 := by kernel_rfl
theorem cellsz : Try.prog.cellsOf 22 = 1 := by kernel_rfl
theorem cellsm : Try.prog.cellsOf 40 = 1 := by kernel_rfl
theorem cellsis : Try.prog.cellsOf 26 = 1 := by kernel_rfl
theorem slice_one {H : Type} {enc : TypeId × Value → H} {W : World} {k : Nat} {t e : TypeId} {l : List Value} {x : DataW H × List MemPlace} (ht : Try.prog.underlying t = some (.slice e)) (h : DataW.trod enc Try.prog W 0 (fun _ => true) true k t l = some x) : ∃ A n c, l = [.slice A n c] := by
  rcases DataW.trod_slice ht h with ⟨rfl, _⟩ | ⟨a, len, cap, _, _, _, _, rfl, _⟩
  · exact ⟨_, _, _, rfl⟩
  · exact ⟨_, _, _, rfl⟩
theorem open_deed23 {H : Type} {enc : TypeId × Value → H} {W : World} {v : Value} {d : DataW H} {ps : List MemPlace} {r : Reach} {base : Nat} (hv : Value.okWide Try.prog W r base 42 v)
    (h : DataW.Trod enc Try.prog W 0 (fun _ => true) true 42 v d ps) : ∃ cs D, v = .agg cs ∧ DlAt cs D := by
  obtain ⟨cs, rfl, hs⟩ := okWide_struct Try.underlying42 hv
  obtain ⟨fuel, hf⟩ := h
  obtain ⟨xs, k, _, hx, hl, hxl, hf⟩ := DataW.trod_struct Try.underlying42 hf
  have hxl' : xs.length = 7 := hxl
  match xs, hxl' with
  | [x0, x1, x2, x3, x4, x5, x6], _ =>
    have h1 : DataW.trod enc Try.prog W 0 (fun _ => true) true k 3 ((cs.toList.drop 1).take (Try.prog.cellsOf 3)) = some x1 := hf 1 _ rfl
    have h2 : DataW.trod enc Try.prog W 0 (fun _ => true) true k 3 ((cs.toList.drop 2).take (Try.prog.cellsOf 3)) = some x2 := hf 2 _ rfl
    have h3 : DataW.trod enc Try.prog W 0 (fun _ => true) true k 22 ((cs.toList.drop 3).take (Try.prog.cellsOf 22)) = some x3 := hf 3 _ rfl
    have h5 : DataW.trod enc Try.prog W 0 (fun _ => true) true k 40 ((cs.toList.drop 5).take (Try.prog.cellsOf 40)) = some x5 := hf 5 _ rfl
    have h6 : DataW.trod enc Try.prog W 0 (fun _ => true) true k 26 ((cs.toList.drop 6).take (Try.prog.cellsOf 26)) = some x6 := hf 6 _ rfl
    rw [cellsi] at h1 h2
    rw [cellsz] at h3
    rw [cellsm] at h5
    rw [cellsis] at h6
    obtain ⟨n1, e1, _⟩ := DataW.trod_int (x := x1) Try.underlying3 h1
    obtain ⟨n2, e2, _⟩ := DataW.trod_int (x := x2) Try.underlying3 h2
    obtain ⟨n3, e3, _⟩ := DataW.trod_int (x := x3) Try.underlying22 h3
    obtain ⟨A5, n5, c5, e5⟩ := slice_one Try.underlying40 h5
    obtain ⟨A6, n6, c6, e6⟩ := slice_one Try.underlying26 h6
    refine ⟨cs, ⟨n1, n2, n3, A5, n5, c5, A6, n6, c6⟩, rfl, ⟨?_, ?_, ?_, ?_, ?_⟩⟩
    · rw [← Array.getElem?_toList]
      exact at_of_take e1
    · rw [← Array.getElem?_toList]
      exact at_of_take e2
    · rw [← Array.getElem?_toList]
      exact at_of_take e3
    · rw [← Array.getElem?_toList]
      exact at_of_take e5
    · rw [← Array.getElem?_toList]
      exact at_of_take e6
end Go.Bd
namespace Go.Proofs.Ytjnplhmhkindpaa
open Go.Bd Go.ChangeShapes Go.WideShapes

set_option maxRecDepth 100000 in
theorem none_lifted (os : Os) (started : os.Started) (H : Type) (enc : TypeId × Value → H) :
    ReturnsInHanded {} Try.checked os 4 .any (Rows.leadNoneSpec.pre6 enc Try.prog Try.f4 Rows.leadNoneRow.domain false) (Rows.leadNoneSpec.post enc Try.prog Try.f4 false true false false) := by
  refine law_frame (C := Try.checked) (tb := 4) (by kernel_rfl) (by kernel_rfl) started (by kernel_rfl) Try.func4 rfl rfl Try.underlying4 (by kernel_rfl) ?_
    (ChangeSpec.witness6 (enc := enc) (C := Try.checked) false ⟨#[], #[.agg #[.int .i64 0, .int .i64 0, .int .i64 0, .int .i64 0, .bool false, .slice none 0 0, .slice none 0 0]], []⟩ 8 (by kernel_rfl) (by kernel_rfl) (by kernel_rfl) (by kernel_rfl)) ?_
  · intro ds hl
    match ds, hl with
    | [d1], _ => rfl
  · intro W base args ds p hval hA hwt
    replace hA : DataW.TrodAll enc Try.prog W 0 (fun _ => true) true Try.f4.params.toList args.toList ds p := hA
    rw [Try.params4] at hA hval
    replace hwt : (DataW.weightsEach Try.prog [42] ds).all (· ≤ reachBytes) = true := hwt
    obtain ⟨v0, vs0, d0, ds0, p0, q0, hargs, rfl, rfl, h0, r0⟩ := trodAll_cons hA
    obtain ⟨rfl, rfl, rfl⟩ := trodAll_nil r0
    obtain rfl : args = #[v0] := by cases args; simp_all
    obtain ⟨cs, D, rfl, hd⟩ := open_deed23 (hval 0 42 v0 rfl rfl) h0
    exact lead_none_c hd (Mem.of W)

theorem none : Rows.LeadNoneSaid :=
  OpenClaim.holds_of_wide 4 Try.f4 rfl rfl rfl rfl rfl rfl rfl ⟨rfl, rfl, rfl, rfl, rfl⟩ rfl rfl rfl rfl rfl (by kernel_rfl) Try.func4 (by kernel_rfl)
    (of_decide_eq_true (by kernel_rfl)) (by unfold Func.isWrapper; rw [if_neg (of_decide_eq_false (by kernel_rfl))]; exact ⟨rfl, rfl⟩)
    (fun os started H enc _ => none_lifted os started H enc)
end Go.Proofs.Ytjnplhmhkindpaa
