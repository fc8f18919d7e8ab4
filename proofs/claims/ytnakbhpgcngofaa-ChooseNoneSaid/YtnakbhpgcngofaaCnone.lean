/- ChooseNone: choosers that aren't there answer nothing. Conditions: none. -/
import Derived.Test.Ytnakbhpgcngofaa20w
import Derived.Test.YtnakbhpgcngofaaOpen
import Derived.Test.YtnakbhpgcngofaaFrame
namespace Go.Bd
open Go.Proofs Go.ChangeShapes Go.WideShapes
set_option linter.unusedVariables false
set_option linter.unusedSimpArgs false
set_option maxRecDepth 20000

theorem cellsL : Try.prog.cellsOf 52 = 43 := by kernel_rfl
theorem whole_at {cs : Array Value} {s : Nat} : ∀ i, i < s → cs[0 + i]? = cs.toList[i]? := fun i _ => by
  rw [Nat.zero_add, Array.getElem?_toList]
set_option maxHeartbeats 4000000 in
theorem choose_none_c {F : Env} {w : World} {frm : Int} {cs : Array Value} (hs : cs.size = 43) (hm : Mem F w []) :
    Calls Try.prog 4 #[.int .i64 frm, .agg cs] w (Ret fun v w' => v = .bool true ∧ Mem F w' []) := by
  have hl : cs.toList.length = 43 := by rw [Array.length_toList, hs]
  refine Calls.of_vc Try.func4 rfl Try.ntmps4 rfl ?_
  repeat (first | refine VC.seq ?_ | refine VC.block ?_ | refine VC.skip ?_)
  refine VC.region ?_
  refine VR.new hm rfl rfl (n_boxG rfl) ?_
  intro b3 w hm
  refine VR.pure rfl rfl (p_assignB rfl) ?_
  refine VR.nil ?_
  obtain ⟨G, hu, hm, hb3⟩ := hm.freeze
  replace hb3 := hb3 _ (.head _)
  repeat (first | refine VC.seq ?_ | refine VC.block ?_ | refine VC.skip ?_)
  refine VC.region ?_
  refine VR.pure rfl rfl (p_assignP rfl) ?_
  refine VR.nil ?_
  repeat (first | refine VC.seq ?_ | refine VC.block ?_ | refine VC.skip ?_)
  refine VC.region ?_
  refine VR.pure rfl rfl (p_moveP rfl) ?_
  refine VR.call rfl rfl (r_call1 Try.call17 rfl) (tick_nil hm) ?_
  rintro _ w ⟨rfl, hm⟩
  refine VR.pure rfl rfl (p_moveT rfl) ?_
  refine VR.pure rfl rfl (p_extract rfl rfl) ?_
  refine VR.pure rfl rfl (p_extract rfl rfl) ?_
  refine VR.pure rfl rfl (p_assignI rfl) ?_
  refine VR.pure rfl rfl (p_assignB rfl) ?_
  refine VR.nil ?_
  repeat (first | refine VC.seq ?_ | refine VC.block ?_ | refine VC.skip ?_)
  refine VC.region ?_
  refine VR.pure rfl rfl (p_build (vs := []) bld67_0x rfl) ?_
  refine VR.new hm rfl rfl (n_boxG rfl) ?_
  intro b17 w hm
  refine VR.call rfl rfl (r_call1 Try.call17 rfl) (tick_zero hm.all (hm.plus_at 0 0 rfl) rfl) ?_
  rintro _ w ⟨rfl, hm'⟩
  replace hm := hm.back0 hm'
  refine VR.pure rfl rfl (p_moveT rfl) ?_
  refine VR.pure rfl rfl (p_extract rfl rfl) ?_
  refine VR.pure rfl rfl (p_extract rfl rfl) ?_
  refine VR.pure rfl rfl (p_assignI rfl) ?_
  refine VR.pure rfl rfl (p_assignB rfl) ?_
  refine VR.nil ?_
  repeat (first | refine VC.seq ?_ | refine VC.block ?_ | refine VC.skip ?_)
  refine VC.region ?_
  refine VR.call rfl rfl (r_call0 Try.call7) (awake_c hm.all) ?_
  rintro _ w ⟨rfl, hm'⟩
  replace hm := hm.back0 hm'
  refine VR.pure rfl rfl (p_moveB rfl) ?_
  refine VR.knownT 22 rfl rfl ?_
  refine VR.pureG rfl rfl (p_moveP rfl) ?_
  refine VR.pureG rfl rfl (p_moveI rfl) ?_
  refine VR.valG rfl rfl (r_loadAgg (vs := cs.toList) Try.isAgg52 Try.sizeOf52 rfl (hm.fix _ _ hb3) hl whole_at) ?_
  refine VR.callG rfl rfl (r_call3 Try.call15 rfl rfl rfl) (hear_nil hm) ?_
  rintro _ w ⟨rfl, hm⟩
  refine VR.pureG rfl rfl (p_not rfl) ?_
  refine VR.pure rfl rfl (p_pickT rfl rfl) ?_
  refine VR.pure rfl rfl (p_moveB rfl) ?_
  refine VR.knownT 29 rfl rfl ?_
  refine VR.pureG rfl rfl (p_build (vs := []) bld67_0x rfl) ?_
  refine VR.newG hm rfl rfl (n_boxG rfl) ?_
  intro b31 w hm
  refine VR.pureG rfl rfl (p_moveI rfl) ?_
  refine VR.valG rfl rfl (r_loadAgg (vs := cs.toList) Try.isAgg52 Try.sizeOf52 rfl (hm.fix _ _ hb3) hl whole_at) ?_
  refine VR.callG rfl rfl (r_call3 Try.call15 rfl rfl rfl) (hear_zero hm.all (hm.plus_at 0 0 rfl) rfl) ?_
  rintro _ w ⟨rfl, hm'⟩
  replace hm := hm.back0 hm'
  refine VR.pureG rfl rfl (p_not rfl) ?_
  refine VR.pure rfl rfl (p_pickT rfl rfl) ?_
  refine VR.pure rfl rfl (p_moveB rfl) ?_
  refine VR.knownT 37 rfl rfl ?_
  refine VR.pureG rfl rfl (p_moveI rfl) ?_
  refine VR.pureG rfl rfl (p_moveI rfl) ?_
  refine VR.pureG rfl rfl (p_add64 rfl rfl (by omega)) ?_
  refine VR.pureG rfl rfl (p_eq rfl rfl) ?_
  refine VR.pure rfl rfl (p_pickT rfl rfl) ?_
  refine VR.pure rfl rfl (p_moveB rfl) ?_
  refine VR.knownT 43 rfl rfl ?_
  refine VR.pureG rfl rfl (p_moveB rfl) ?_
  refine VR.pureG rfl rfl (p_not rfl) ?_
  refine VR.pure rfl rfl (p_pickT rfl rfl) ?_
  refine VR.pure rfl rfl (p_moveB rfl) ?_
  refine VR.knownT 47 rfl rfl ?_
  refine VR.pureG rfl rfl (p_moveB rfl) ?_
  refine VR.pureG rfl rfl (p_not rfl) ?_
  refine VR.pure rfl rfl (p_pickT rfl rfl) ?_
  refine VR.pure rfl rfl (p_moveB rfl) ?_
  refine VR.knownT 51 rfl rfl ?_
  refine VR.pureG rfl rfl (p_moveP rfl) ?_
  refine VR.callG rfl rfl (r_call1 Try.call22 rfl) (vote_nil hm) ?_
  rintro _ w ⟨rfl, hm⟩
  refine VR.pureG rfl rfl (p_build (vs := []) bld52_0x rfl) ?_
  refine VR.callG rfl rfl (r_call2 Try.call21 rfl rfl) (same_letter (k := 0) (s := 0) (r := 0) (v := v0) (r' := 0) (v' := v0) hm) ?_
  rintro _ w ⟨rfl, hm⟩
  refine VR.pure rfl rfl (p_pickT rfl rfl) ?_
  refine VR.pure rfl rfl (p_moveB rfl) ?_
  refine VR.knownT 57 rfl rfl ?_
  refine VR.callG rfl rfl (r_call0 Try.call24) (three_c hm) ?_
  rintro _ w ⟨q1, es1, G1, rfl, hu1, hr1, ha1, hs1, hm⟩
  refine VR.callG rfl rfl (r_call4 Try.call9 rfl rfl rfl rfl) (new_no (by decide)) ?_
  rintro _ _ ⟨rfl, rfl⟩
  refine VR.pureG rfl rfl (p_eqNilP Try.underlying27 rfl) ?_
  refine VR.pure rfl rfl (p_pickT rfl rfl) ?_
  refine VR.pure rfl rfl (p_moveB rfl) ?_
  refine VR.knownT 62 rfl rfl ?_
  refine VR.callG rfl rfl (r_call0 Try.call24) (three_c hm) ?_
  rintro _ w ⟨q2, es2, G2, rfl, hu2, hr2, ha2, hs2, hm⟩
  refine VR.callG rfl rfl (r_call4 Try.call9 rfl rfl rfl rfl) (new_no (by decide)) ?_
  rintro _ _ ⟨rfl, rfl⟩
  refine VR.pureG rfl rfl (p_eqNilP Try.underlying27 rfl) ?_
  refine VR.pure rfl rfl (p_pickT rfl rfl) ?_
  refine VR.pure rfl rfl (p_assignB rfl) ?_
  refine VR.nil ?_
  repeat (first | refine VC.seq ?_ | refine VC.block ?_ | refine VC.skip ?_)
  refine VC.ret ⟨_, ResOf.r1 (v := .bool _) rfl rfl, ?_⟩
  exact ⟨rfl, hm.none_.shrink ((hu.trans hu1).trans hu2)⟩
end Go.Bd
namespace Go.Proofs.Ytnakbhpgcngofaa
open Go.Bd Go.ChangeShapes Go.WideShapes

set_option maxRecDepth 100000 in
theorem none_lifted (os : Os) (started : os.Started) (H : Type) (enc : TypeId × Value → H) :
    ReturnsInHanded {} Try.checked os 4 .any (Rows.chooseNoneSpec.pre6 enc Try.prog Try.f4 Rows.chooseNoneRow.domain false) (Rows.chooseNoneSpec.post enc Try.prog Try.f4 false true false false) := by
  refine law_frame (C := Try.checked) (tb := 4) (by kernel_rfl) (by kernel_rfl) started (by kernel_rfl) Try.func4 rfl rfl Try.underlying4 (by kernel_rfl) ?_
    (ChangeSpec.witness6 (enc := enc) (C := Try.checked) false ⟨#[], #[.int .i64 0, .agg #[.int .u8 0, .int .u8 0, .int .i64 0, .int .i64 0, .int .i64 0, .int .i64 0, .bool false, .int .i64 0, .int .i64 0, .int .i64 0, .slice none 0 0, .slice none 0 0, .int .i64 0, .int .u8 0, .int .i64 0, .int .i64 0, .int .i64 0, .int .i64 0, .string ⟨#[]⟩, .slice none 0 0, .int .i64 0, .int .i64 0, .int .i64 0, .int .i64 0, .int .i64 0, .int .i64 0, .slice none 0 0, .slice none 0 0, .int .u8 0, .int .i64 0, .int .i64 0, .int .i64 0, .string ⟨#[]⟩, .slice none 0 0, .int .i64 0, .int .i64 0, .bool false, .int .u8 0, .int .i64 0, .int .i64 0, .int .i64 0, .slice none 0 0, .slice none 0 0]], []⟩ 8 (by kernel_rfl) (by kernel_rfl) (by kernel_rfl) (by kernel_rfl)) ?_
  · intro ds hl
    match ds, hl with
    | [d1, d2], _ => rfl
  · intro W base args ds p hval hA hwt
    replace hA : DataW.TrodAll enc Try.prog W 0 (fun _ => true) true Try.f4.params.toList args.toList ds p := hA
    rw [Try.params4] at hA hval
    replace hwt : (DataW.weightsEach Try.prog [3, 52] ds).all (· ≤ reachBytes) = true := hwt
    obtain ⟨v0, vs0, d0, ds0, p0, q0, hargs, rfl, rfl, h0, r0⟩ := trodAll_cons hA
    obtain ⟨v1, vs1, d1, ds1, p1, q1, rfl, rfl, rfl, h1, r1⟩ := trodAll_cons r0
    obtain ⟨rfl, rfl, rfl⟩ := trodAll_nil r1
    obtain rfl : args = #[v0, v1] := by cases args; simp_all
    obtain ⟨a0, rfl, _, _, w0⟩ := open_int Try.underlying3 (hval 0 3 v0 rfl rfl) h0
    obtain ⟨cs, rfl, hs⟩ := okWide_struct Try.underlying52 (hval 1 52 v1 rfl rfl)
    rw [cellsL] at hs
    exact choose_none_c hs (Mem.of W)

theorem none : Rows.ChooseNoneSaid :=
  OpenClaim.holds_of_wide 4 Try.f4 rfl rfl rfl rfl rfl rfl rfl ⟨rfl, rfl, rfl, rfl, rfl⟩ rfl rfl rfl rfl rfl (by kernel_rfl) Try.func4 (by kernel_rfl)
    (of_decide_eq_true (by kernel_rfl)) (by unfold Func.isWrapper; rw [if_neg (of_decide_eq_false (by kernel_rfl))]; exact ⟨rfl, rfl⟩)
    (fun os started H enc _ => none_lifted os started H enc)
end Go.Proofs.Ytnakbhpgcngofaa
