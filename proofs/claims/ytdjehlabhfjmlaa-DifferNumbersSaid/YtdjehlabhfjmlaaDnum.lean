/- DifferNumbers: the chapter's examples, zxids at their ends, and rows that do not rise are told as written by hand. Conditions: none. -/
import Derived.Test.Ytdjehlabhfjmlaa21b
import Derived.Test.YtdjehlabhfjmlaaFrame
namespace Go.Bd
open Go.Proofs
set_option linter.unusedVariables false

def ends : List Int := [-9223372036854775808, -1, 0, 1, 4294967296, 9223372036854775807]
theorem ends_at {i : Nat} (h : i < 6) : (ends.map (Value.int .i64)).toArray[0 + i]? = some (.int .i64 (ends.getD i 0)) := by
  match i, h with
  | 0, _ => rfl
  | 1, _ => rfl
  | 2, _ => rfl
  | 3, _ => rfl
  | 4, _ => rfl
  | 5, _ => rfl

set_option maxHeartbeats 1000000 in
theorem differ_numbers_c {F : Env} {w : World} (hm : Mem F w []) : Calls Try.prog 4 #[] w (Ret fun v w' => v = .bool true ∧ Mem F w' []) := by
  refine Calls.of_vc Try.func4 rfl Try.ntmps4 rfl ?_
  repeat (first | refine VC.seq ?_ | refine VC.block ?_ | refine VC.skip ?_)
  refine VC.region ?_
  refine VR.pure rfl rfl (p_assignB rfl) ?_
  refine VR.nil ?_
  repeat (first | refine VC.seq ?_ | refine VC.block ?_ | refine VC.skip ?_)
  refine VC.region ?_
  refine VR.new hm rfl rfl (n_buildSlice1 (vs := [.int _ _, .int _ _, .int _ _, .int _ _, .int _ _, .int _ _]) Try.underlying23 inf22 rfl rfl rfl rfl rfl rfl rfl) ?_
  intro g w hm
  refine VR.pure rfl rfl (p_assignL rfl) ?_
  refine VR.nil ?_
  replace hm : Mem F _ [[(g, .cells (ends.map (Value.int .i64)).toArray 22 (0, 0))]] := hm
  repeat (first | refine VC.seq ?_ | refine VC.block ?_ | refine VC.skip ?_)
  refine VC.region ?_
  refine VR.pure rfl rfl (p_assignI rfl) ?_
  refine VR.nil ?_
  repeat (first | refine VC.seq ?_ | refine VC.block ?_ | refine VC.skip ?_)
  refine VC.loop (σ := Nat) (fun i => [(1, .slice (some ⟨g, 0, none⟩) 6 6), (2, .int .i64 i)]) (fun i w => Mem F w [[(g, .cells (ends.map (Value.int .i64)).toArray 22 (0, 0))]] ∧ i ≤ 6) (fun i => 6 - i) 0 ⟨rfl, rfl, trivial⟩ ⟨hm, by omega⟩ ?_
  rintro i A' w ⟨hm, hi⟩
  repeat (first | refine VC.seq ?_ | refine VC.block ?_ | refine VC.skip ?_)
  refine VC.region ?_
  refine VR.pure rfl rfl (p_moveI rfl) ?_
  refine VR.pure rfl rfl (p_moveL rfl) ?_
  refine VR.pure rfl rfl (p_len Try.underlying23 rfl) ?_
  refine VR.pure rfl rfl (p_lt rfl rfl) ?_
  refine VR.nil ?_
  repeat (first | refine VC.seq ?_ | refine VC.block ?_ | refine VC.skip ?_)
  refine VC.condD rfl (fun h => ?_) (fun h => ?_)
  · have hi' : i < 6 := by omega
    repeat (first | refine VC.seq ?_ | refine VC.block ?_ | refine VC.skip ?_)
    refine VC.region ?_
    refine VR.pure rfl rfl (p_assignI rfl) ?_
    refine VR.nil ?_
    repeat (first | refine VC.seq ?_ | refine VC.block ?_ | refine VC.skip ?_)
    refine VC.loop (σ := Nat) (fun k => [(1, .slice (some ⟨g, 0, none⟩) 6 6), (2, .int .i64 i), (3, .int .i64 k)]) (fun k w => Mem F w [[(g, .cells (ends.map (Value.int .i64)).toArray 22 (0, 0))]] ∧ k ≤ 6) (fun k => 6 - k) 0 ⟨rfl, rfl, rfl, trivial⟩ ⟨hm, by omega⟩ ?_
    rintro k A2 w ⟨hm, hk⟩
    repeat (first | refine VC.seq ?_ | refine VC.block ?_ | refine VC.skip ?_)
    refine VC.region ?_
    refine VR.pure rfl rfl (p_moveI rfl) ?_
    refine VR.pure rfl rfl (p_moveL rfl) ?_
    refine VR.pure rfl rfl (p_len Try.underlying23 rfl) ?_
    refine VR.pure rfl rfl (p_lt rfl rfl) ?_
    refine VR.nil ?_
    repeat (first | refine VC.seq ?_ | refine VC.block ?_ | refine VC.skip ?_)
    refine VC.condD rfl (fun h2 => ?_) (fun h2 => ?_)
    · have hk' : k < 6 := by omega
      repeat (first | refine VC.seq ?_ | refine VC.block ?_ | refine VC.skip ?_)
      refine VC.loud (Kept F [[(g, .cells (ends.map (Value.int .i64)).toArray 22 (0, 0))]]) [8, 20, 32, 33] rfl (by kernel_rfl) (Kept.here0 hm.drew) ?_
      replace hm := hm.drew
      refine VL.pure rfl rfl rfl (p_moveL rfl) ?_
      refine VL.pure rfl rfl rfl (p_moveI rfl) ?_
      refine VL.pure rfl rfl rfl (p_idx1 Try.underlying23 Try.sizeOf22 rfl rfl hi') ?_
      refine VL.read rfl rfl rfl (fun w' hw' => r_load Try.isAgg22 rfl (hw'.at_ 0 0 rfl) (ends_at hi')) ?_
      refine VL.pure rfl rfl rfl (p_moveL rfl) ?_
      refine VL.pure rfl rfl rfl (p_moveI rfl) ?_
      refine VL.pure rfl rfl rfl (p_idx1 Try.underlying23 Try.sizeOf22 rfl rfl hk') ?_
      refine VL.read rfl rfl rfl (fun w' hw' => r_load Try.isAgg22 rfl (hw'.at_ 0 0 rfl) (ends_at hk')) ?_
      refine VL.call rfl rfl rfl (r_call3 Try.call3 rfl rfl rfl) (differ_ways_c (xs := []) hm (by decide) (Row.nil _)) ?_
      rintro _ w ⟨rfl, hm⟩
      refine ⟨Kept.here0 hm, ?_⟩
      refine VL.pure rfl rfl rfl (p_not rfl) ?_
      refine VL.pure rfl rfl rfl (p_moveB rfl) ?_
      refine VL.knownF 27 rfl rfl ?_
      refine VL.pureG rfl rfl rfl (p_moveL rfl) ?_
      refine VL.pureG rfl rfl rfl (p_moveI rfl) ?_
      refine VL.pureG rfl rfl rfl (p_idx1 Try.underlying23 Try.sizeOf22 rfl rfl hi') ?_
      refine VL.readG rfl rfl rfl (fun w' hw' => r_load Try.isAgg22 rfl (hw'.at_ 0 0 rfl) (ends_at hi')) ?_
      refine VL.pureG rfl rfl rfl (p_moveL rfl) ?_
      refine VL.pureG rfl rfl rfl (p_moveL rfl) ?_
      refine VL.pureG rfl rfl rfl (p_moveI rfl) ?_
      refine VL.pureG rfl rfl rfl (p_idx1 Try.underlying23 Try.sizeOf22 rfl rfl hk') ?_
      refine VL.readG rfl rfl rfl (fun w' hw' => r_load Try.isAgg22 rfl (hw'.at_ 0 0 rfl) (ends_at hk')) ?_
      refine VL.callG rfl rfl rfl (r_call3 Try.call3 rfl rfl rfl) (differ_ways_c hm.all (by decide) (Row.lit (cs := ends.map (Value.int .i64)) (hm.plus_at 0 0 rfl))) ?_
      rintro _ w ⟨rfl, hm'⟩
      replace hm := hm.back0 hm'
      refine ⟨Kept.here0 hm, ?_⟩
      refine VL.pureG rfl rfl rfl (p_not rfl) ?_
      refine VL.pure rfl rfl rfl (p_pickF rfl rfl) ?_
      refine VL.pure rfl rfl rfl (p_moveB rfl) ?_
      refine VL.knownF 40 rfl rfl ?_
      refine VL.pureG rfl rfl rfl (p_moveL rfl) ?_
      refine VL.pureG rfl rfl rfl (p_moveI rfl) ?_
      refine VL.pureG rfl rfl rfl (p_idx1 Try.underlying23 Try.sizeOf22 rfl rfl hi') ?_
      refine VL.readG rfl rfl rfl (fun w' hw' => r_load Try.isAgg22 rfl (hw'.at_ 0 0 rfl) (ends_at hi')) ?_
      refine VL.pureG rfl rfl rfl (p_moveL rfl) ?_
      refine VL.pureG rfl rfl rfl (p_moveI rfl) ?_
      refine VL.pureG rfl rfl rfl (p_idx1 Try.underlying23 Try.sizeOf22 rfl rfl hk') ?_
      refine VL.readG rfl rfl rfl (fun w' hw' => r_load Try.isAgg22 rfl (hw'.at_ 0 0 rfl) (ends_at hk')) ?_
      refine VL.newG hm rfl rfl rfl (n_buildSlice1 (vs := [.int _ _, .int _ _, .int _ _]) Try.underlying23 inf22 rfl rfl rfl rfl rfl rfl rfl) (fun b' w' hm' => Kept.here1 hm') ?_
      intro b w hm
      refine VL.callG rfl rfl rfl (r_call3 Try.call3 rfl rfl rfl) (differ_ways_c hm.all (by decide) (Row.lit (cs := [ends.getD k 0, 5, 3].map (Value.int .i64)) (hm.plus_at 0 0 rfl))) ?_
      rintro _ w ⟨rfl, hm'⟩
      replace hm := (hm.back0 hm').pop
      refine ⟨Kept.here0 hm, ?_⟩
      refine VL.pureG rfl rfl rfl (p_not rfl) ?_
      refine VL.pure rfl rfl rfl (p_pickF rfl rfl) ?_
      refine VL.nil ?_
      repeat (first | refine VC.seq ?_ | refine VC.block ?_ | refine VC.skip ?_)
      refine VC.condF rfl rfl ?_
      repeat (first | refine VC.seq ?_ | refine VC.block ?_ | refine VC.skip ?_)
      refine VC.region ?_
      refine VR.pure rfl rfl (p_moveI rfl) ?_
      refine VR.pure rfl rfl (p_add64 rfl rfl (by omega)) ?_
      refine VR.pure rfl rfl (p_assignI rfl) ?_
      refine VR.nil ?_
      exact ⟨k + 1, ⟨rfl, rfl, rfl, trivial⟩, ⟨hm, by omega⟩, by omega⟩
    · repeat (first | refine VC.seq ?_ | refine VC.block ?_ | refine VC.skip ?_)
      refine VC.exit ?_
      repeat (first | refine VC.seq ?_ | refine VC.block ?_ | refine VC.skip ?_)
      refine VC.region ?_
      refine VR.pure rfl rfl (p_moveI rfl) ?_
      refine VR.pure rfl rfl (p_add64 rfl rfl (by omega)) ?_
      refine VR.pure rfl rfl (p_assignI rfl) ?_
      refine VR.nil ?_
      exact ⟨i + 1, ⟨rfl, rfl, trivial⟩, ⟨hm, by omega⟩, by omega⟩
  · repeat (first | refine VC.seq ?_ | refine VC.block ?_ | refine VC.skip ?_)
    refine VC.exit ?_
    repeat (first | refine VC.seq ?_ | refine VC.block ?_ | refine VC.skip ?_)
    refine VC.region ?_
    refine VR.new hm rfl rfl (n_buildSlice1 (vs := [.int _ _, .int _ _, .int _ _]) Try.underlying23 inf22 rfl rfl rfl rfl rfl rfl rfl) ?_
    intro b53 w hm
    refine VR.call rfl rfl (r_call5 Try.call12 rfl rfl rfl rfl rfl) (is_true hm.all (by decide) (Row.lit (cs := [9, 6, 2].map (Value.int .i64)) (hm.plus_at 0 0 rfl)) (by decide)) ?_
    rintro _ w ⟨rfl, hm'⟩
    replace hm := hm.back0 hm'
    refine VR.pure rfl rfl (p_moveB rfl) ?_
    refine VR.newG hm rfl rfl (n_buildSlice1 (vs := [.int _ _]) Try.underlying23 inf22 rfl rfl rfl rfl rfl rfl rfl) ?_
    intro b56 w hm
    refine VR.callG rfl rfl (r_call5 Try.call12 rfl rfl rfl rfl rfl) (is_true hm.all (by decide) (Row.lit (cs := [3].map (Value.int .i64)) (hm.plus_at 0 0 rfl)) (by decide)) ?_
    rintro _ w ⟨rfl, hm'⟩
    replace hm := hm.back0 hm'
    refine VR.pure rfl rfl (p_pickT rfl rfl) ?_
    refine VR.pure rfl rfl (p_moveB rfl) ?_
    refine VR.newG hm rfl rfl (n_buildSlice1 (vs := [.int _ _]) Try.underlying23 inf22 rfl rfl rfl rfl rfl rfl rfl) ?_
    intro b60 w hm
    refine VR.callG rfl rfl (r_call5 Try.call12 rfl rfl rfl rfl rfl) (is_true hm.all (by decide) (Row.lit (cs := [3].map (Value.int .i64)) (hm.plus_at 0 0 rfl)) (by decide)) ?_
    rintro _ w ⟨rfl, hm'⟩
    replace hm := hm.back0 hm'
    refine VR.pure rfl rfl (p_pickT rfl rfl) ?_
    refine VR.pure rfl rfl (p_moveB rfl) ?_
    refine VR.newG hm rfl rfl (n_buildSlice1 (vs := [.int _ _]) Try.underlying23 inf22 rfl rfl rfl rfl rfl rfl rfl) ?_
    intro b64 w hm
    refine VR.callG rfl rfl (r_call5 Try.call12 rfl rfl rfl rfl rfl) (is_true hm.all (by decide) (Row.lit (cs := [3].map (Value.int .i64)) (hm.plus_at 0 0 rfl)) (by decide)) ?_
    rintro _ w ⟨rfl, hm'⟩
    replace hm := hm.back0 hm'
    refine VR.pure rfl rfl (p_pickT rfl rfl) ?_
    refine VR.pure rfl rfl (p_moveB rfl) ?_
    refine VR.callG rfl rfl (r_call0 Try.call7) (awake_c hm) ?_
    rintro _ w ⟨rfl, hm⟩
    refine VR.pure rfl rfl (p_pickT rfl rfl) ?_
    refine VR.pure rfl rfl (p_assignB rfl) ?_
    refine VR.nil ?_
    repeat (first | refine VC.seq ?_ | refine VC.block ?_ | refine VC.skip ?_)
    refine VC.ret ⟨_, ResOf.r1 (v := .bool _) rfl rfl, ?_⟩
    exact ⟨rfl, hm.none_⟩

end Go.Bd
namespace Go.Proofs.Ytdjehlabhfjmlaa
open Go.Bd Go.ChangeShapes Go.WideShapes

set_option maxRecDepth 100000 in
theorem numbers_lifted (os : Os) (started : os.Started) (H : Type) (enc : TypeId × Value → H) :
    ReturnsInHanded {} Try.checked os 4 .any (Rows.differNumbersSpec.pre6 enc Try.prog Try.f4 Rows.differNumbersRow.domain false) (Rows.differNumbersSpec.post enc Try.prog Try.f4 false true false false) := by
  refine law_frame (C := Try.checked) (tb := 4) (by kernel_rfl) (by kernel_rfl) started (by kernel_rfl) Try.func4 rfl rfl Try.underlying4 (by kernel_rfl) ?_
    (ChangeSpec.witness6 (enc := enc) (C := Try.checked) false ⟨#[], #[], []⟩ 8 (by kernel_rfl) (by kernel_rfl) (by kernel_rfl) (by kernel_rfl)) ?_
  · intro ds hl
    match ds, hl with
    | [], _ => rfl
  · intro W base args ds p hval hA hwt
    replace hA : DataW.TrodAll enc Try.prog W 0 (fun _ => true) true Try.f4.params.toList args.toList ds p := hA
    rw [Try.params4] at hA hval
    replace hwt : (DataW.weightsEach Try.prog [] ds).all (· ≤ reachBytes) = true := hwt
    obtain ⟨hargs, rfl, rfl⟩ := trodAll_nil hA
    obtain rfl : args = #[] := by cases args; simp_all
    exact differ_numbers_c (Mem.of W)

theorem numbers : Rows.DifferNumbersSaid :=
  OpenClaim.holds_of_wide 4 Try.f4 rfl rfl rfl rfl rfl rfl rfl ⟨rfl, rfl, rfl, rfl, rfl⟩ rfl rfl rfl rfl rfl (by kernel_rfl) Try.func4 (by kernel_rfl)
    (of_decide_eq_true (by kernel_rfl)) (by unfold Func.isWrapper; rw [if_neg (of_decide_eq_false (by kernel_rfl))]; exact ⟨rfl, rfl⟩)
    (fun os started H enc _ => numbers_lifted os started H enc)
end Go.Proofs.Ytdjehlabhfjmlaa
