/- FollowNone: tables that aren't there answer nothing. Conditions: none. -/
import Derived.Test.Ytdghkiibbconeaa24a
import Derived.Test.YtdghkiibbconeaaOpen
namespace Go.Bd
open Go.Proofs Go.ChangeShapes Go.WideShapes
set_option linter.unusedVariables false
set_option linter.unusedSimpArgs false
set_option maxRecDepth 20000

theorem at_of_take {l : List Value} {k : Nat} {v : Value} (h : (l.drop k).take 1 = [v]) : l[k]? = some v := by
  have : ((l.drop k).take 1)[0]? = some v := by rw [h]; rfl
  rw [List.getElem?_take, if_pos (by decide), List.getElem?_drop] at this
  exact this
theorem cellsi : Try.prog.cellsOf 3 = 1 := by kernel_rfl
theorem cellsz : Try.prog.cellsOf 24 = 1 := by kernel_rfl
theorem cellsd : Try.prog.cellsOf 43 = 46 := by kernel_rfl
theorem open_deed24 {H : Type} {enc : TypeId × Value → H} {W : World} {v : Value} {d : DataW H} {ps : List MemPlace} {r : Reach} {base : Nat} (hv : Value.okWide Try.prog W r base 43 v)
    (h : DataW.Trod enc Try.prog W 0 (fun _ => true) true 43 v d ps) : ∃ ds e z, v = .agg ds ∧ ds.size = 46 ∧ ds[1]? = some (.int .i64 e) ∧ ds[2 + 43]? = some (.int .i64 z) := by
  obtain ⟨cs, rfl, hs⟩ := okWide_struct Try.underlying43 hv
  rw [cellsd] at hs
  obtain ⟨fuel, hf⟩ := h
  obtain ⟨xs, k, _, hx, hl, hxl, hf⟩ := DataW.trod_struct Try.underlying43 hf
  have hxl' : xs.length = 4 := hxl
  match xs, hxl' with
  | [x0, x1, x2, x3], _ =>
    have h1 : DataW.trod enc Try.prog W 0 (fun _ => true) true k 3 ((cs.toList.drop 1).take (Try.prog.cellsOf 3)) = some x1 := hf 1 _ rfl
    have h3 : DataW.trod enc Try.prog W 0 (fun _ => true) true k 24 ((cs.toList.drop (2 + 43)).take (Try.prog.cellsOf 24)) = some x3 := hf 3 _ rfl
    rw [cellsi] at h1
    rw [cellsz] at h3
    obtain ⟨e, e1, _⟩ := DataW.trod_int (x := x1) Try.underlying3 h1
    obtain ⟨z, e3, _⟩ := DataW.trod_int (x := x3) Try.underlying24 h3
    refine ⟨cs, e, z, rfl, hs, ?_, ?_⟩
    · rw [← Array.getElem?_toList]
      exact at_of_take e1
    · rw [← Array.getElem?_toList]
      exact at_of_take e3

theorem new24_c {F : Env} {w : World} {Ls : List Blks} (hm : Mem F w Ls) : Calls Try.prog 15 #[.int .i64 3, .int .i64 2, .int .i64 8589934597] w
    (Ret fun v w' => ∃ g, v = .pointer (some ⟨g, 0, none⟩) ∧ Mem F w' ([(g, .cells (tb 3 2 8589934597 0 1) 48 (0, 0))] :: Ls)) := by
  refine Calls.of_vc Try.func15 rfl Try.ntmps15 rfl ?_
  repeat (first | refine VC.seq ?_ | refine VC.block ?_ | refine VC.skip ?_)
  refine VC.region ?_
  refine VR.pure rfl rfl (p_assignP rfl) ?_
  refine VR.nil ?_
  repeat (first | refine VC.seq ?_ | refine VC.block ?_ | refine VC.skip ?_)
  refine VC.region ?_
  refine VR.pure rfl rfl (p_moveI rfl) ?_
  refine VR.call rfl rfl (r_call3 Try.call17 rfl rfl rfl) (within_c) ?_
  rintro _ _ ⟨rfl, rfl⟩
  refine VR.pure rfl rfl (p_notD rfl) ?_
  refine VR.pure rfl rfl (p_moveB rfl) ?_
  refine VR.knownF 10 rfl (by decide) ?_
  refine VR.pureG rfl rfl (p_moveI rfl) ?_
  refine VR.pureG rfl rfl (p_moveI rfl) ?_
  refine VR.callG rfl rfl (r_call3 Try.call17 rfl rfl rfl) (within_c) ?_
  rintro _ _ ⟨rfl, rfl⟩
  refine VR.pureG rfl rfl (p_notD rfl) ?_
  refine VR.pure rfl rfl (p_pickF rfl rfl) ?_
  refine VR.pure rfl rfl (p_moveB rfl) ?_
  refine VR.knownF 16 rfl (by decide) ?_
  refine VR.pureG rfl rfl (p_moveI rfl) ?_
  refine VR.callG rfl rfl (r_call3 Try.call20 rfl rfl rfl) (withinZ_c) ?_
  rintro _ _ ⟨rfl, rfl⟩
  refine VR.pureG rfl rfl (p_notD rfl) ?_
  refine VR.pure rfl rfl (p_pickF rfl rfl) ?_
  refine VR.pure rfl rfl (p_moveB rfl) ?_
  refine VR.knownF 21 rfl (by decide) ?_
  refine VR.pureG rfl rfl (p_moveI rfl) ?_
  refine VR.callG rfl rfl (r_call1 Try.call18 rfl) (epoch_c) ?_
  rintro _ _ ⟨rfl, rfl⟩
  refine VR.pureG rfl rfl (p_moveI rfl) ?_
  refine VR.pureG rfl rfl (p_gt rfl rfl) ?_
  refine VR.pure rfl rfl (p_pickF rfl rfl) ?_
  refine VR.nil ?_
  repeat (first | refine VC.seq ?_ | refine VC.block ?_ | refine VC.skip ?_)
  refine VC.condF rfl (by decide) ?_
  repeat (first | refine VC.seq ?_ | refine VC.block ?_ | refine VC.skip ?_)
  refine VC.region ?_
  refine VR.pure rfl rfl (p_moveI rfl) ?_
  refine VR.pure rfl rfl (p_moveI rfl) ?_
  refine VR.pure rfl rfl (p_moveI rfl) ?_
  refine VR.pure rfl rfl (p_build (vs := [(0, .int _ _), (1, .int _ _), (2, .int _ _), (4, .int _ _)]) bld48_0_1_2_4 rfl) ?_
  refine VR.new hm rfl rfl (n_boxG rfl) ?_
  intro g w hm
  refine VR.pure rfl rfl (p_assignP rfl) ?_
  refine VR.nil ?_
  repeat (first | refine VC.seq ?_ | refine VC.block ?_ | refine VC.skip ?_)
  refine VC.ret ⟨_, ResOf.r1 (v := .pointer _) rfl rfl, ?_⟩
  exact ⟨g, rfl, hm⟩
theorem epoch24_c {F : Env} {w : World} {Ls : List Blks} {g : Nat} (hm : Mem F w ([(g, .cells (tb 3 2 8589934597 0 1) 48 (0, 0))] :: Ls)) : Calls Try.prog 5 #[.pointer (some ⟨g, 0, none⟩), .int .i64 4] w
    (Ret fun v w' => v = .tuple #[.bool true, .int .u8 2] ∧ Mem F w' ([(g, .cells (tb 4 2 8589934597 0 2) 48 (0, 0))] :: Ls)) := by
  refine Calls.of_vc Try.func5 rfl Try.ntmps5 rfl ?_
  repeat (first | refine VC.seq ?_ | refine VC.block ?_ | refine VC.skip ?_)
  refine VC.region ?_
  refine VR.pure rfl rfl (p_assignB rfl) ?_
  refine VR.pure rfl rfl (p_assignI rfl) ?_
  refine VR.nil ?_
  repeat (first | refine VC.seq ?_ | refine VC.block ?_ | refine VC.skip ?_)
  refine VC.region ?_
  refine VR.pure rfl rfl (p_moveP rfl) ?_
  refine VR.pure rfl rfl (p_eqNilP Try.underlying45 rfl) ?_
  refine VR.pure rfl rfl (p_moveB rfl) ?_
  refine VR.knownF 8 rfl rfl ?_
  refine VR.pureG rfl rfl (p_moveP rfl) ?_
  refine VR.pureG rfl rfl (p_nilCheck rfl) ?_
  refine VR.pureG rfl rfl (p_field (fo := 4) Try.underlying48 rfl Try.sizeOf46 rfl rfl rfl) ?_
  refine VR.valG rfl rfl (r_load (v := .int _ _) Try.isAgg46 rfl (hm.at_ 0 0 rfl) rfl) ?_
  refine VR.pureG rfl rfl (p_eq rfl rfl) ?_
  refine VR.pure rfl rfl (p_pickF rfl rfl) ?_
  refine VR.nil ?_
  repeat (first | refine VC.seq ?_ | refine VC.block ?_ | refine VC.skip ?_)
  refine VC.condF rfl (by decide) ?_
  repeat (first | refine VC.seq ?_ | refine VC.block ?_ | refine VC.skip ?_)
  refine VC.region ?_
  refine VR.pure rfl rfl (p_moveP rfl) ?_
  refine VR.pure rfl rfl (p_moveP rfl) ?_
  refine VR.pure rfl rfl (p_nilCheck rfl) ?_
  refine VR.pure rfl rfl (p_field (fo := 4) Try.underlying48 rfl Try.sizeOf46 rfl rfl rfl) ?_
  refine VR.val rfl rfl (r_load (v := .int _ _) Try.isAgg46 rfl (hm.at_ 0 0 rfl) rfl) ?_
  refine VR.pure rfl rfl (p_eq rfl rfl) ?_
  refine VR.pure rfl rfl (p_moveB rfl) ?_
  refine VR.knownT 21 rfl (by decide) ?_
  refine VR.pureG rfl rfl (p_moveI rfl) ?_
  refine VR.pureG rfl rfl (p_moveP rfl) ?_
  refine VR.pureG rfl rfl (p_nilCheck rfl) ?_
  refine VR.pureG rfl rfl (p_field (fo := 0) Try.underlying48 rfl Try.sizeOf3 rfl rfl rfl) ?_
  refine VR.valG rfl rfl (r_load (v := .int _ _) Try.isAgg3 rfl (hm.at_ 0 0 rfl) rfl) ?_
  refine VR.callG rfl rfl (r_call3 Try.call17 rfl rfl rfl) (within_c) ?_
  rintro _ _ ⟨rfl, rfl⟩
  refine VR.pure rfl rfl (p_pickT rfl rfl) ?_
  refine VR.call rfl rfl (r_call3 Try.call16 rfl rfl rfl) (to_c hm) ?_
  rintro _ w ⟨rfl, hm⟩
  refine VR.nil ?_
  replace hm : Mem F w ([(g, .cells (tb 3 2 8589934597 0 2) 48 (0, 0))] :: Ls) := hm
  repeat (first | refine VC.seq ?_ | refine VC.block ?_ | refine VC.skip ?_)
  refine VC.condT rfl (by decide) ?_
  repeat (first | refine VC.seq ?_ | refine VC.block ?_ | refine VC.skip ?_)
  refine VC.region ?_
  refine VR.pure rfl rfl (p_moveP rfl) ?_
  refine VR.pure rfl rfl (p_moveI rfl) ?_
  refine VR.pure rfl rfl (p_moveP rfl) ?_
  refine VR.pure rfl rfl (p_nilCheck rfl) ?_
  refine VR.pure rfl rfl (p_field (fo := 0) Try.underlying48 rfl Try.sizeOf3 rfl rfl rfl) ?_
  refine VR.val rfl rfl (r_load (v := .int _ _) Try.isAgg3 rfl (hm.at_ 0 0 rfl) rfl) ?_
  refine VR.pure rfl rfl (p_gt rfl rfl) ?_
  refine VR.pure rfl rfl (p_moveI rfl) ?_
  refine VR.pure rfl rfl (p_assignB rfl) ?_
  refine VR.pure rfl rfl (p_nilCheck rfl) ?_
  refine VR.pure rfl rfl (p_field (fo := 0) Try.underlying48 rfl Try.sizeOf3 rfl rfl rfl) ?_
  refine VR.store (cs' := (tb 4 2 8589934597 0 2)) (v := .int _ _) Try.sizeOf3 rfl rfl rfl rfl rfl hm 0 0 rfl (Nat.ble_eq.mp rfl) rfl ?_
  intro w hm
  refine VR.nil ?_
  repeat (first | refine VC.seq ?_ | refine VC.block ?_ | refine VC.skip ?_)
  refine VC.loud (Kept F ([(g, .cells (tb 4 2 8589934597 0 2) 48 (0, 0))] :: Ls)) [] rfl (by kernel_rfl) (Kept.here0 hm.drew) ?_
  replace hm := hm.drew
  refine VL.pure rfl rfl rfl (p_moveB rfl) ?_
  refine VL.pure rfl rfl rfl (p_moveP rfl) ?_
  refine VL.pure rfl rfl rfl (p_nilCheck rfl) ?_
  refine VL.pure rfl rfl rfl (p_field (fo := 4) Try.underlying48 rfl Try.sizeOf46 rfl rfl rfl) ?_
  refine VL.read rfl rfl rfl (fun w' hw' => r_load (v := .int _ _) Try.isAgg46 rfl (hw'.at_ 0 0 rfl) rfl) ?_
  refine VL.pure rfl rfl rfl (p_assignB rfl) ?_
  refine VL.pure rfl rfl rfl (p_assignI rfl) ?_
  refine VL.nil ?_
  repeat (first | refine VC.seq ?_ | refine VC.block ?_ | refine VC.skip ?_)
  refine VC.ret ⟨_, ResOf.r2 (v := .bool _) (u := .int _ _) rfl rfl rfl, ?_⟩
  exact ⟨rfl, hm⟩
theorem learn24_c {F : Env} {w : World} {Ls : List Blks} {g : Nat} {cs : Array Value} (h0 : cs[0]? = some (.int .u8 8)) (h4 : cs[4]? = some (.int .i64 4)) (h7 : cs[7]? = some (.int .i64 0)) (hm : Mem F w ([(g, .cells (tb 4 2 8589934597 0 2) 48 (0, 0))] :: Ls)) :
    Calls Try.prog 6 #[.pointer (some ⟨g, 0, none⟩), .agg cs] w
    (Ret fun v w' => v = .int .u8 4 ∧ Mem F w' ([(g, .cells (tb 4 4 8589934597 0 4) 48 (0, 0))] :: Ls)) := by
  refine Calls.of_vc Try.func6 rfl Try.ntmps6 rfl ?_
  repeat (first | refine VC.seq ?_ | refine VC.block ?_ | refine VC.skip ?_)
  refine VC.region ?_
  refine VR.new hm rfl rfl (n_boxG rfl) ?_
  intro b3 w hm
  refine VR.pure rfl rfl (p_assignI rfl) ?_
  refine VR.nil ?_
  repeat (first | refine VC.seq ?_ | refine VC.block ?_ | refine VC.skip ?_)
  refine VC.region ?_
  refine VR.pure rfl rfl (p_moveP rfl) ?_
  refine VR.pure rfl rfl (p_eqNilP Try.underlying45 rfl) ?_
  refine VR.pure rfl rfl (p_moveB rfl) ?_
  refine VR.knownF 9 rfl rfl ?_
  refine VR.pureG rfl rfl (p_moveP rfl) ?_
  refine VR.pureG rfl rfl (p_nilCheck rfl) ?_
  refine VR.pureG rfl rfl (p_field (fo := 4) Try.underlying48 rfl Try.sizeOf46 rfl rfl rfl) ?_
  refine VR.valG rfl rfl (r_load (v := .int _ _) Try.isAgg46 rfl (hm.at_ 1 0 rfl) rfl) ?_
  refine VR.pureG rfl rfl (p_eq rfl rfl) ?_
  refine VR.pure rfl rfl (p_pickF rfl rfl) ?_
  refine VR.nil ?_
  repeat (first | refine VC.seq ?_ | refine VC.block ?_ | refine VC.skip ?_)
  refine VC.condF rfl (by decide) ?_
  repeat (first | refine VC.seq ?_ | refine VC.block ?_ | refine VC.skip ?_)
  refine VC.loud (Kept F ([(b3, .cells cs 41 (0, 0))] :: [(g, .cells (tb 4 2 8589934597 0 2) 48 (0, 0))] :: Ls)) [] rfl (by kernel_rfl) (Kept.here0 hm.drew) ?_
  replace hm := hm.drew
  refine VL.pure rfl rfl rfl (p_moveP rfl) ?_
  refine VL.pure rfl rfl rfl (p_nilCheck rfl) ?_
  refine VL.pure rfl rfl rfl (p_field (fo := 4) Try.underlying48 rfl Try.sizeOf46 rfl rfl rfl) ?_
  refine VL.read rfl rfl rfl (fun w' hw' => r_load (v := .int _ _) Try.isAgg46 rfl (hw'.at_ 1 0 rfl) rfl) ?_
  refine VL.pure rfl rfl rfl (p_eq rfl rfl) ?_
  refine VL.pure rfl rfl rfl (p_field (fo := 7) Try.underlying41 rfl Try.sizeOf24 rfl rfl rfl) ?_
  refine VL.read rfl rfl rfl (fun w' hw' => r_load (v := .int _ _) Try.isAgg24 rfl (hw'.at_ 0 0 rfl) h7) ?_
  refine VL.pure rfl rfl rfl (p_assignB rfl) ?_
  refine VL.pure rfl rfl rfl (p_assignI rfl) ?_
  refine VL.nil ?_
  repeat (first | refine VC.seq ?_ | refine VC.block ?_ | refine VC.skip ?_)
  refine VC.region ?_
  refine VR.pure rfl rfl (p_field (fo := 0) Try.underlying41 rfl Try.sizeOf22 rfl rfl rfl) ?_
  refine VR.val rfl rfl (r_load (v := .int _ _) Try.isAgg22 rfl (hm.at_ 0 0 rfl) h0) ?_
  refine VR.nil ?_
  repeat (first | refine VC.seq ?_ | refine VC.block ?_ | refine VC.skip ?_)
  refine VC.region ?_
  refine VR.pure rfl rfl (p_eq rfl rfl) ?_
  refine VR.pure rfl rfl (p_assignB rfl) ?_
  refine VR.nil ?_
  repeat (first | refine VC.seq ?_ | refine VC.block ?_ | refine VC.skip ?_)
  refine VC.condF rfl (by decide) ?_
  repeat (first | refine VC.seq ?_ | refine VC.block ?_ | refine VC.skip ?_)
  refine VC.region ?_
  refine VR.pure rfl rfl (p_eq rfl rfl) ?_
  refine VR.pure rfl rfl (p_assignB rfl) ?_
  refine VR.nil ?_
  repeat (first | refine VC.seq ?_ | refine VC.block ?_ | refine VC.skip ?_)
  refine VC.condF rfl (by decide) ?_
  repeat (first | refine VC.seq ?_ | refine VC.block ?_ | refine VC.skip ?_)
  refine VC.region ?_
  refine VR.pure rfl rfl (p_eq rfl rfl) ?_
  refine VR.pure rfl rfl (p_assignB rfl) ?_
  refine VR.nil ?_
  repeat (first | refine VC.seq ?_ | refine VC.block ?_ | refine VC.skip ?_)
  refine VC.condF rfl (by decide) ?_
  repeat (first | refine VC.seq ?_ | refine VC.block ?_ | refine VC.skip ?_)
  refine VC.region ?_
  refine VR.pure rfl rfl (p_eq rfl rfl) ?_
  refine VR.pure rfl rfl (p_assignB rfl) ?_
  refine VR.nil ?_
  repeat (first | refine VC.seq ?_ | refine VC.block ?_ | refine VC.skip ?_)
  refine VC.condT rfl (by decide) ?_
  refine VC.exit ?_
  repeat (first | refine VC.seq ?_ | refine VC.block ?_ | refine VC.skip ?_)
  refine VC.loud (fun w' => ∃ st, Mem F w' ([(b3, .cells cs 41 (0, 0))] :: [(g, .cells (tb 4 2 8589934597 0 st) 48 (0, 0))] :: Ls)) [18] rfl (by kernel_rfl) (⟨2, hm.drew⟩) ?_
  replace hm := hm.drew
  refine VL.pure rfl rfl rfl (p_moveP rfl) ?_
  refine VL.pure rfl rfl rfl (p_moveB rfl) ?_
  refine VL.pure rfl rfl rfl (p_moveB rfl) ?_
  refine VL.knownT 97 rfl (by decide) ?_
  refine VL.pass rfl rfl ?_
  refine VL.pass rfl rfl ?_
  refine VL.pass rfl rfl ?_
  refine VL.pass rfl rfl ?_
  refine VL.pass rfl rfl ?_
  refine VL.pure rfl rfl rfl (p_pickT rfl rfl) ?_
  refine VL.pure rfl rfl rfl (p_moveB rfl) ?_
  refine VL.pureG rfl rfl rfl (p_field (fo := 4) Try.underlying41 rfl Try.sizeOf3 rfl rfl rfl) ?_
  refine VL.readG rfl rfl rfl (fun w' ⟨st, hw'⟩ => r_load (v := .int _ _) Try.isAgg3 rfl (hw'.at_ 0 0 rfl) h4) ?_
  refine VL.pureG rfl rfl rfl (p_moveP rfl) ?_
  refine VL.pureG rfl rfl rfl (p_nilCheck rfl) ?_
  refine VL.pureG rfl rfl rfl (p_field (fo := 0) Try.underlying48 rfl Try.sizeOf3 rfl rfl rfl) ?_
  refine VL.readG rfl rfl rfl (fun w' ⟨st, hw'⟩ => r_load (v := .int _ _) Try.isAgg3 rfl (hw'.at_ 1 0 rfl) rfl) ?_
  refine VL.pureG rfl rfl rfl (p_eq rfl rfl) ?_
  refine VL.pure rfl rfl rfl (p_pickT rfl rfl) ?_
  replace hm := hm.swap
  refine VL.call rfl rfl rfl (r_call3 Try.call16 rfl rfl rfl) (to_c hm) ?_
  rintro _ w ⟨rfl, hm⟩
  replace hm := hm.swap
  refine ⟨⟨_, hm⟩, ?_⟩
  refine VL.nil ?_
  replace hm : Mem F w ([(b3, .cells cs 41 (0, 0))] :: [(g, .cells (tb 4 2 8589934597 0 4) 48 (0, 0))] :: Ls) := hm
  repeat (first | refine VC.seq ?_ | refine VC.block ?_ | refine VC.skip ?_)
  refine VC.condT rfl (by decide) ?_
  repeat (first | refine VC.seq ?_ | refine VC.block ?_ | refine VC.skip ?_)
  refine VC.region ?_
  refine VR.pure rfl rfl (p_moveP rfl) ?_
  refine VR.pure rfl rfl (p_field (fo := 4) Try.underlying41 rfl Try.sizeOf3 rfl rfl rfl) ?_
  refine VR.val rfl rfl (r_load (v := .int _ _) Try.isAgg3 rfl (hm.at_ 0 0 rfl) h4) ?_
  refine VR.pure rfl rfl (p_nilCheck rfl) ?_
  refine VR.pure rfl rfl (p_field (fo := 1) Try.underlying48 rfl Try.sizeOf3 rfl rfl rfl) ?_
  refine VR.store (cs' := (tb 4 4 8589934597 0 4)) (v := .int _ _) Try.sizeOf3 rfl rfl rfl rfl rfl hm 1 0 rfl (Nat.ble_eq.mp rfl) rfl ?_
  intro w hm
  refine VR.nil ?_
  repeat (first | refine VC.seq ?_ | refine VC.block ?_ | refine VC.skip ?_)
  refine VC.exit ?_
  repeat (first | refine VC.seq ?_ | refine VC.block ?_ | refine VC.skip ?_)
  refine VC.region ?_
  refine VR.pure rfl rfl (p_moveP rfl) ?_
  refine VR.pure rfl rfl (p_nilCheck rfl) ?_
  refine VR.pure rfl rfl (p_field (fo := 4) Try.underlying48 rfl Try.sizeOf46 rfl rfl rfl) ?_
  refine VR.val rfl rfl (r_load (v := .int _ _) Try.isAgg46 rfl (hm.at_ 1 0 rfl) rfl) ?_
  refine VR.pure rfl rfl (p_assignI rfl) ?_
  refine VR.nil ?_
  repeat (first | refine VC.seq ?_ | refine VC.block ?_ | refine VC.skip ?_)
  refine VC.ret ⟨_, ResOf.r1 (v := .int _ _) rfl rfl, ?_⟩
  exact ⟨rfl, hm.pop⟩
theorem propose24_c {F : Env} {w : World} {Ls : List Blks} {g : Nat} (hm : Mem F w ([(g, .cells (tb 4 4 8589934597 0 4) 48 (0, 0))] :: Ls)) : Calls Try.prog 7 #[.pointer (some ⟨g, 0, none⟩), .int .i64 17179869185] w
    (Ret fun v w' => v = .int .u8 4 ∧ Mem F w' ([(g, .cells (tb 4 4 17179869185 0 4) 48 (0, 0))] :: Ls)) := by
  refine Calls.of_vc Try.func7 rfl Try.ntmps7 rfl ?_
  repeat (first | refine VC.seq ?_ | refine VC.block ?_ | refine VC.skip ?_)
  refine VC.region ?_
  refine VR.pure rfl rfl (p_assignI rfl) ?_
  refine VR.nil ?_
  repeat (first | refine VC.seq ?_ | refine VC.block ?_ | refine VC.skip ?_)
  refine VC.region ?_
  refine VR.pure rfl rfl (p_moveP rfl) ?_
  refine VR.pure rfl rfl (p_eqNilP Try.underlying45 rfl) ?_
  refine VR.pure rfl rfl (p_moveB rfl) ?_
  refine VR.knownF 7 rfl rfl ?_
  refine VR.pureG rfl rfl (p_moveP rfl) ?_
  refine VR.pureG rfl rfl (p_nilCheck rfl) ?_
  refine VR.pureG rfl rfl (p_field (fo := 4) Try.underlying48 rfl Try.sizeOf46 rfl rfl rfl) ?_
  refine VR.valG rfl rfl (r_load (v := .int _ _) Try.isAgg46 rfl (hm.at_ 0 0 rfl) rfl) ?_
  refine VR.pureG rfl rfl (p_eq rfl rfl) ?_
  refine VR.pure rfl rfl (p_pickF rfl rfl) ?_
  refine VR.nil ?_
  repeat (first | refine VC.seq ?_ | refine VC.block ?_ | refine VC.skip ?_)
  refine VC.condF rfl (by decide) ?_
  repeat (first | refine VC.seq ?_ | refine VC.block ?_ | refine VC.skip ?_)
  refine VC.free (fun w' => ∃ st, Mem F w' ([(g, .cells (tb 4 4 8589934597 0 st) 48 (0, 0))] :: Ls)) [4, 5, 16, 26, 27] rfl (by kernel_rfl) (⟨4, hm.drew⟩) ?_
  replace hm := hm.drew
  refine VD.pure 0 rfl (by kernel_rfl) rfl rfl (p_moveP rfl) ?_
  refine VD.pure 1 rfl (by kernel_rfl) rfl rfl (p_moveP rfl) ?_
  refine VD.pure 2 rfl (by kernel_rfl) rfl rfl (p_nilCheck rfl) ?_
  refine VD.pure 3 rfl (by kernel_rfl) rfl rfl (p_field (fo := 4) Try.underlying48 rfl Try.sizeOf46 rfl rfl rfl) ?_
  refine VD.pure 23 rfl (by kernel_rfl) rfl rfl (p_moveP rfl) ?_
  refine VD.pure 24 rfl (by kernel_rfl) rfl rfl (p_nilCheck rfl) ?_
  refine VD.pure 25 rfl (by kernel_rfl) rfl rfl (p_field (fo := 4) Try.underlying48 rfl Try.sizeOf46 rfl rfl rfl) ?_
  refine VD.turn2 4 26 (by kernel_rfl) ?_ ?_
  refine VDT.val rfl rfl rfl (r_load (v := .int _ _) Try.isAgg46 rfl (hm.at_ 0 0 rfl) rfl) (⟨_, hm⟩) ?_
  refine VD.turn2 5 26 (by kernel_rfl) ?_ ?_
  refine VDT.call rfl rfl rfl (r_call3 Try.call19 rfl rfl rfl) (withinS_c) ?_
  rintro _ _ ⟨rfl, rfl⟩
  refine ⟨⟨_, hm⟩, ?_⟩
  refine VD.pure 6 rfl (by kernel_rfl) rfl rfl (p_moveB rfl) ?_
  refine VD.knownT 20 rfl (by decide) ?_
  refine VD.pureG 7 rfl (by kernel_rfl) rfl rfl (p_moveI rfl) ?_
  refine VD.pureG 8 rfl (by kernel_rfl) rfl rfl (p_moveP rfl) ?_
  refine VD.pureG 9 rfl (by kernel_rfl) rfl rfl (p_nilCheck rfl) ?_
  refine VD.pureG 10 rfl (by kernel_rfl) rfl rfl (p_field (fo := 2) Try.underlying48 rfl Try.sizeOf24 rfl rfl rfl) ?_
  refine VD.readG 11 rfl (by kernel_rfl) rfl rfl (fun w' ⟨st, hw'⟩ => r_load (v := .int _ _) Try.isAgg24 rfl (hw'.at_ 0 0 rfl) rfl) ?_
  refine VD.pureG 12 rfl (by kernel_rfl) rfl rfl (p_gt rfl rfl) ?_
  refine VD.pure 13 rfl (by kernel_rfl) rfl rfl (p_pickT rfl rfl) ?_
  refine VD.pure 14 rfl (by kernel_rfl) rfl rfl (p_moveB rfl) ?_
  refine VD.knownT 28 rfl (by decide) ?_
  refine VD.pureG 15 rfl (by kernel_rfl) rfl rfl (p_moveI rfl) ?_
  refine VD.pureG 17 rfl (by kernel_rfl) rfl rfl (p_moveP rfl) ?_
  refine VD.pureG 18 rfl (by kernel_rfl) rfl rfl (p_nilCheck rfl) ?_
  refine VD.pureG 19 rfl (by kernel_rfl) rfl rfl (p_field (fo := 0) Try.underlying48 rfl Try.sizeOf3 rfl rfl rfl) ?_
  refine VD.readG 20 rfl (by kernel_rfl) rfl rfl (fun w' ⟨st, hw'⟩ => r_load (v := .int _ _) Try.isAgg3 rfl (hw'.at_ 0 0 rfl) rfl) ?_
  refine VD.turn2 16 26 (by kernel_rfl) ?_ ?_
  refine VDT.callG rfl rfl rfl (r_call1 Try.call18 rfl) (epoch_c) ?_
  rintro _ _ ⟨rfl, rfl⟩
  refine ⟨⟨_, hm⟩, ?_⟩
  refine VD.pureG 21 rfl (by kernel_rfl) rfl rfl (p_eq rfl rfl) ?_
  refine VD.pure 22 rfl (by kernel_rfl) rfl rfl (p_pickT rfl rfl) ?_
  refine VD.turn1 26 (by kernel_rfl) ?_
  refine VDT.val rfl rfl rfl (r_load (v := .int _ _) Try.isAgg46 rfl (hm.at_ 0 0 rfl) rfl) (⟨_, hm⟩) ?_
  refine VD.turn1 27 (by kernel_rfl) ?_
  refine VDT.call rfl rfl rfl (r_call3 Try.call16 rfl rfl rfl) (to_c hm) ?_
  rintro _ w ⟨rfl, hm⟩
  refine ⟨⟨_, hm⟩, ?_⟩
  refine VD.nil (by kernel_rfl) rfl ?_
  rotate_left 1
  refine VDT.val rfl rfl rfl (r_load (v := .int _ _) Try.isAgg46 rfl (hm.at_ 0 0 rfl) rfl) (⟨_, hm⟩) ?_
  refine VD.turn1 16 (by kernel_rfl) ?_
  refine VDT.callG rfl rfl rfl (r_call1 Try.call18 rfl) (epoch_c) ?_
  rintro _ _ ⟨rfl, rfl⟩
  refine ⟨⟨_, hm⟩, ?_⟩
  refine VD.pureG 21 rfl (by kernel_rfl) rfl rfl (p_eq rfl rfl) ?_
  refine VD.pure 22 rfl (by kernel_rfl) rfl rfl (p_pickT rfl rfl) ?_
  refine VD.turn1 27 (by kernel_rfl) ?_
  refine VDT.call rfl rfl rfl (r_call3 Try.call16 rfl rfl rfl) (to_c hm) ?_
  rintro _ w ⟨rfl, hm⟩
  refine ⟨⟨_, hm⟩, ?_⟩
  refine VD.nil (by kernel_rfl) rfl ?_
  rotate_left 1
  refine VDT.val rfl rfl rfl (r_load (v := .int _ _) Try.isAgg46 rfl (hm.at_ 0 0 rfl) rfl) (⟨_, hm⟩) ?_
  refine VD.turn1 5 (by kernel_rfl) ?_
  refine VDT.call rfl rfl rfl (r_call3 Try.call19 rfl rfl rfl) (withinS_c) ?_
  rintro _ _ ⟨rfl, rfl⟩
  refine ⟨⟨_, hm⟩, ?_⟩
  refine VD.pure 6 rfl (by kernel_rfl) rfl rfl (p_moveB rfl) ?_
  refine VD.knownT 20 rfl (by decide) ?_
  refine VD.pureG 7 rfl (by kernel_rfl) rfl rfl (p_moveI rfl) ?_
  refine VD.pureG 8 rfl (by kernel_rfl) rfl rfl (p_moveP rfl) ?_
  refine VD.pureG 9 rfl (by kernel_rfl) rfl rfl (p_nilCheck rfl) ?_
  refine VD.pureG 10 rfl (by kernel_rfl) rfl rfl (p_field (fo := 2) Try.underlying48 rfl Try.sizeOf24 rfl rfl rfl) ?_
  refine VD.readG 11 rfl (by kernel_rfl) rfl rfl (fun w' ⟨st, hw'⟩ => r_load (v := .int _ _) Try.isAgg24 rfl (hw'.at_ 0 0 rfl) rfl) ?_
  refine VD.pureG 12 rfl (by kernel_rfl) rfl rfl (p_gt rfl rfl) ?_
  refine VD.pure 13 rfl (by kernel_rfl) rfl rfl (p_pickT rfl rfl) ?_
  refine VD.pure 14 rfl (by kernel_rfl) rfl rfl (p_moveB rfl) ?_
  refine VD.knownT 28 rfl (by decide) ?_
  refine VD.pureG 15 rfl (by kernel_rfl) rfl rfl (p_moveI rfl) ?_
  refine VD.pureG 17 rfl (by kernel_rfl) rfl rfl (p_moveP rfl) ?_
  refine VD.pureG 18 rfl (by kernel_rfl) rfl rfl (p_nilCheck rfl) ?_
  refine VD.pureG 19 rfl (by kernel_rfl) rfl rfl (p_field (fo := 0) Try.underlying48 rfl Try.sizeOf3 rfl rfl rfl) ?_
  refine VD.readG 20 rfl (by kernel_rfl) rfl rfl (fun w' ⟨st, hw'⟩ => r_load (v := .int _ _) Try.isAgg3 rfl (hw'.at_ 0 0 rfl) rfl) ?_
  refine VD.turn1 16 (by kernel_rfl) ?_
  refine VDT.callG rfl rfl rfl (r_call1 Try.call18 rfl) (epoch_c) ?_
  rintro _ _ ⟨rfl, rfl⟩
  refine ⟨⟨_, hm⟩, ?_⟩
  refine VD.pureG 21 rfl (by kernel_rfl) rfl rfl (p_eq rfl rfl) ?_
  refine VD.pure 22 rfl (by kernel_rfl) rfl rfl (p_pickT rfl rfl) ?_
  refine VD.turn1 27 (by kernel_rfl) ?_
  refine VDT.call rfl rfl rfl (r_call3 Try.call16 rfl rfl rfl) (to_c hm) ?_
  rintro _ w ⟨rfl, hm⟩
  refine ⟨⟨_, hm⟩, ?_⟩
  refine VD.nil (by kernel_rfl) rfl ?_
  rotate_left 1
  refine VDT.val rfl rfl rfl (r_load (v := .int _ _) Try.isAgg46 rfl (hm.at_ 0 0 rfl) rfl) (⟨_, hm⟩) ?_
  refine VD.turn1 4 (by kernel_rfl) ?_
  refine VDT.val rfl rfl rfl (r_load (v := .int _ _) Try.isAgg46 rfl (hm.at_ 0 0 rfl) rfl) (⟨_, hm⟩) ?_
  refine VD.turn1 5 (by kernel_rfl) ?_
  refine VDT.call rfl rfl rfl (r_call3 Try.call19 rfl rfl rfl) (withinS_c) ?_
  rintro _ _ ⟨rfl, rfl⟩
  refine ⟨⟨_, hm⟩, ?_⟩
  refine VD.pure 6 rfl (by kernel_rfl) rfl rfl (p_moveB rfl) ?_
  refine VD.knownT 20 rfl (by decide) ?_
  refine VD.pureG 7 rfl (by kernel_rfl) rfl rfl (p_moveI rfl) ?_
  refine VD.pureG 8 rfl (by kernel_rfl) rfl rfl (p_moveP rfl) ?_
  refine VD.pureG 9 rfl (by kernel_rfl) rfl rfl (p_nilCheck rfl) ?_
  refine VD.pureG 10 rfl (by kernel_rfl) rfl rfl (p_field (fo := 2) Try.underlying48 rfl Try.sizeOf24 rfl rfl rfl) ?_
  refine VD.readG 11 rfl (by kernel_rfl) rfl rfl (fun w' ⟨st, hw'⟩ => r_load (v := .int _ _) Try.isAgg24 rfl (hw'.at_ 0 0 rfl) rfl) ?_
  refine VD.pureG 12 rfl (by kernel_rfl) rfl rfl (p_gt rfl rfl) ?_
  refine VD.pure 13 rfl (by kernel_rfl) rfl rfl (p_pickT rfl rfl) ?_
  refine VD.pure 14 rfl (by kernel_rfl) rfl rfl (p_moveB rfl) ?_
  refine VD.knownT 28 rfl (by decide) ?_
  refine VD.pureG 15 rfl (by kernel_rfl) rfl rfl (p_moveI rfl) ?_
  refine VD.pureG 17 rfl (by kernel_rfl) rfl rfl (p_moveP rfl) ?_
  refine VD.pureG 18 rfl (by kernel_rfl) rfl rfl (p_nilCheck rfl) ?_
  refine VD.pureG 19 rfl (by kernel_rfl) rfl rfl (p_field (fo := 0) Try.underlying48 rfl Try.sizeOf3 rfl rfl rfl) ?_
  refine VD.readG 20 rfl (by kernel_rfl) rfl rfl (fun w' ⟨st, hw'⟩ => r_load (v := .int _ _) Try.isAgg3 rfl (hw'.at_ 0 0 rfl) rfl) ?_
  refine VD.turn1 16 (by kernel_rfl) ?_
  refine VDT.callG rfl rfl rfl (r_call1 Try.call18 rfl) (epoch_c) ?_
  rintro _ _ ⟨rfl, rfl⟩
  refine ⟨⟨_, hm⟩, ?_⟩
  refine VD.pureG 21 rfl (by kernel_rfl) rfl rfl (p_eq rfl rfl) ?_
  refine VD.pure 22 rfl (by kernel_rfl) rfl rfl (p_pickT rfl rfl) ?_
  refine VD.turn1 27 (by kernel_rfl) ?_
  refine VDT.call rfl rfl rfl (r_call3 Try.call16 rfl rfl rfl) (to_c hm) ?_
  rintro _ w ⟨rfl, hm⟩
  refine ⟨⟨_, hm⟩, ?_⟩
  refine VD.nil (by kernel_rfl) rfl ?_
  rotate_left 1
  all_goals
    replace hm : Mem F w ([(g, .cells (tb 4 4 8589934597 0 4) 48 (0, 0))] :: Ls) := hm
    repeat (first | refine VC.seq ?_ | refine VC.block ?_ | refine VC.skip ?_)
    refine VC.condT rfl (by decide) ?_
    repeat (first | refine VC.seq ?_ | refine VC.block ?_ | refine VC.skip ?_)
    refine VC.region ?_
    refine VR.pure rfl rfl (p_moveP rfl) ?_
    refine VR.pure rfl rfl (p_moveI rfl) ?_
    refine VR.pure rfl rfl (p_nilCheck rfl) ?_
    refine VR.pure rfl rfl (p_field (fo := 2) Try.underlying48 rfl Try.sizeOf24 rfl rfl rfl) ?_
    refine VR.store (cs' := (tb 4 4 17179869185 0 4)) (v := .int _ _) Try.sizeOf24 rfl rfl rfl rfl rfl hm 0 0 rfl (Nat.ble_eq.mp rfl) rfl ?_
    intro w hm
    refine VR.nil ?_
    repeat (first | refine VC.seq ?_ | refine VC.block ?_ | refine VC.skip ?_)
    refine VC.region ?_
    refine VR.pure rfl rfl (p_moveP rfl) ?_
    refine VR.pure rfl rfl (p_nilCheck rfl) ?_
    refine VR.pure rfl rfl (p_field (fo := 4) Try.underlying48 rfl Try.sizeOf46 rfl rfl rfl) ?_
    refine VR.val rfl rfl (r_load (v := .int _ _) Try.isAgg46 rfl (hm.at_ 0 0 rfl) rfl) ?_
    refine VR.pure rfl rfl (p_assignI rfl) ?_
    refine VR.nil ?_
    repeat (first | refine VC.seq ?_ | refine VC.block ?_ | refine VC.skip ?_)
    refine VC.ret ⟨_, ResOf.r1 (v := .int _ _) rfl rfl, ?_⟩
    exact ⟨rfl, hm⟩
theorem ready24_c {F : Env} {w : World} {Ls : List Blks} {g : Nat} (hm : Mem F w ([(g, .cells (tb 4 4 17179869185 0 4) 48 (0, 0))] :: Ls)) : Calls Try.prog 8 #[.pointer (some ⟨g, 0, none⟩), .int .i64 8589934597] w
    (Ret fun v w' => v = .int .u8 5 ∧ Mem F w' ([(g, .cells (tb 4 4 17179869185 8589934597 5) 48 (0, 0))] :: Ls)) := by
  refine Calls.of_vc Try.func8 rfl Try.ntmps8 rfl ?_
  repeat (first | refine VC.seq ?_ | refine VC.block ?_ | refine VC.skip ?_)
  refine VC.region ?_
  refine VR.pure rfl rfl (p_assignI rfl) ?_
  refine VR.nil ?_
  repeat (first | refine VC.seq ?_ | refine VC.block ?_ | refine VC.skip ?_)
  refine VC.region ?_
  refine VR.pure rfl rfl (p_moveP rfl) ?_
  refine VR.pure rfl rfl (p_eqNilP Try.underlying45 rfl) ?_
  refine VR.pure rfl rfl (p_moveB rfl) ?_
  refine VR.knownF 7 rfl rfl ?_
  refine VR.pureG rfl rfl (p_moveP rfl) ?_
  refine VR.pureG rfl rfl (p_nilCheck rfl) ?_
  refine VR.pureG rfl rfl (p_field (fo := 4) Try.underlying48 rfl Try.sizeOf46 rfl rfl rfl) ?_
  refine VR.valG rfl rfl (r_load (v := .int _ _) Try.isAgg46 rfl (hm.at_ 0 0 rfl) rfl) ?_
  refine VR.pureG rfl rfl (p_eq rfl rfl) ?_
  refine VR.pure rfl rfl (p_pickF rfl rfl) ?_
  refine VR.nil ?_
  repeat (first | refine VC.seq ?_ | refine VC.block ?_ | refine VC.skip ?_)
  refine VC.condF rfl (by decide) ?_
  repeat (first | refine VC.seq ?_ | refine VC.block ?_ | refine VC.skip ?_)
  refine VC.region ?_
  refine VR.pure rfl rfl (p_moveP rfl) ?_
  refine VR.pure rfl rfl (p_moveP rfl) ?_
  refine VR.pure rfl rfl (p_nilCheck rfl) ?_
  refine VR.pure rfl rfl (p_field (fo := 4) Try.underlying48 rfl Try.sizeOf46 rfl rfl rfl) ?_
  refine VR.val rfl rfl (r_load (v := .int _ _) Try.isAgg46 rfl (hm.at_ 0 0 rfl) rfl) ?_
  refine VR.pure rfl rfl (p_eq rfl rfl) ?_
  refine VR.pure rfl rfl (p_moveB rfl) ?_
  refine VR.knownT 20 rfl (by decide) ?_
  refine VR.pureG rfl rfl (p_moveI rfl) ?_
  refine VR.pureG rfl rfl (p_moveP rfl) ?_
  refine VR.pureG rfl rfl (p_nilCheck rfl) ?_
  refine VR.pureG rfl rfl (p_field (fo := 2) Try.underlying48 rfl Try.sizeOf24 rfl rfl rfl) ?_
  refine VR.valG rfl rfl (r_load (v := .int _ _) Try.isAgg24 rfl (hm.at_ 0 0 rfl) rfl) ?_
  refine VR.callG rfl rfl (r_call3 Try.call20 rfl rfl rfl) (withinZ_c) ?_
  rintro _ _ ⟨rfl, rfl⟩
  refine VR.pure rfl rfl (p_pickT rfl rfl) ?_
  refine VR.call rfl rfl (r_call3 Try.call16 rfl rfl rfl) (to_c hm) ?_
  rintro _ w ⟨rfl, hm⟩
  refine VR.nil ?_
  replace hm : Mem F w ([(g, .cells (tb 4 4 17179869185 0 5) 48 (0, 0))] :: Ls) := hm
  repeat (first | refine VC.seq ?_ | refine VC.block ?_ | refine VC.skip ?_)
  refine VC.condT rfl (by decide) ?_
  repeat (first | refine VC.seq ?_ | refine VC.block ?_ | refine VC.skip ?_)
  refine VC.region ?_
  refine VR.pure rfl rfl (p_moveP rfl) ?_
  refine VR.pure rfl rfl (p_moveI rfl) ?_
  refine VR.pure rfl rfl (p_nilCheck rfl) ?_
  refine VR.pure rfl rfl (p_field (fo := 3) Try.underlying48 rfl Try.sizeOf24 rfl rfl rfl) ?_
  refine VR.store (cs' := (tb 4 4 17179869185 8589934597 5)) (v := .int _ _) Try.sizeOf24 rfl rfl rfl rfl rfl hm 0 0 rfl (Nat.ble_eq.mp rfl) rfl ?_
  intro w hm
  refine VR.nil ?_
  repeat (first | refine VC.seq ?_ | refine VC.block ?_ | refine VC.skip ?_)
  refine VC.region ?_
  refine VR.pure rfl rfl (p_moveP rfl) ?_
  refine VR.pure rfl rfl (p_nilCheck rfl) ?_
  refine VR.pure rfl rfl (p_field (fo := 4) Try.underlying48 rfl Try.sizeOf46 rfl rfl rfl) ?_
  refine VR.val rfl rfl (r_load (v := .int _ _) Try.isAgg46 rfl (hm.at_ 0 0 rfl) rfl) ?_
  refine VR.pure rfl rfl (p_assignI rfl) ?_
  refine VR.nil ?_
  repeat (first | refine VC.seq ?_ | refine VC.block ?_ | refine VC.skip ?_)
  refine VC.ret ⟨_, ResOf.r1 (v := .int _ _) rfl rfl, ?_⟩
  exact ⟨rfl, hm⟩
theorem commit24_c {F : Env} {w : World} {Ls : List Blks} {g : Nat} (hm : Mem F w ([(g, .cells (tb 4 4 17179869185 8589934597 5) 48 (0, 0))] :: Ls)) : Calls Try.prog 9 #[.pointer (some ⟨g, 0, none⟩), .int .i64 17179869185] w
    (Ret fun v w' => v = .int .u8 5 ∧ Mem F w' ([(g, .cells (tb 4 4 17179869185 17179869185 5) 48 (0, 0))] :: Ls)) := by
  refine Calls.of_vc Try.func9 rfl Try.ntmps9 rfl ?_
  repeat (first | refine VC.seq ?_ | refine VC.block ?_ | refine VC.skip ?_)
  refine VC.region ?_
  refine VR.pure rfl rfl (p_assignI rfl) ?_
  refine VR.nil ?_
  repeat (first | refine VC.seq ?_ | refine VC.block ?_ | refine VC.skip ?_)
  refine VC.region ?_
  refine VR.pure rfl rfl (p_moveP rfl) ?_
  refine VR.pure rfl rfl (p_eqNilP Try.underlying45 rfl) ?_
  refine VR.pure rfl rfl (p_moveB rfl) ?_
  refine VR.knownF 7 rfl rfl ?_
  refine VR.pureG rfl rfl (p_moveP rfl) ?_
  refine VR.pureG rfl rfl (p_nilCheck rfl) ?_
  refine VR.pureG rfl rfl (p_field (fo := 4) Try.underlying48 rfl Try.sizeOf46 rfl rfl rfl) ?_
  refine VR.valG rfl rfl (r_load (v := .int _ _) Try.isAgg46 rfl (hm.at_ 0 0 rfl) rfl) ?_
  refine VR.pureG rfl rfl (p_eq rfl rfl) ?_
  refine VR.pure rfl rfl (p_pickF rfl rfl) ?_
  refine VR.nil ?_
  repeat (first | refine VC.seq ?_ | refine VC.block ?_ | refine VC.skip ?_)
  refine VC.condF rfl (by decide) ?_
  repeat (first | refine VC.seq ?_ | refine VC.block ?_ | refine VC.skip ?_)
  refine VC.free (fun w' => ∃ st, Mem F w' ([(g, .cells (tb 4 4 17179869185 8589934597 st) 48 (0, 0))] :: Ls)) [4, 17, 19] rfl (by kernel_rfl) (⟨5, hm.drew⟩) ?_
  replace hm := hm.drew
  refine VD.pure 0 rfl (by kernel_rfl) rfl rfl (p_moveP rfl) ?_
  refine VD.pure 1 rfl (by kernel_rfl) rfl rfl (p_moveP rfl) ?_
  refine VD.pure 2 rfl (by kernel_rfl) rfl rfl (p_nilCheck rfl) ?_
  refine VD.pure 3 rfl (by kernel_rfl) rfl rfl (p_field (fo := 4) Try.underlying48 rfl Try.sizeOf46 rfl rfl rfl) ?_
  refine VD.turn1 4 (by kernel_rfl) ?_
  refine VDT.val rfl rfl rfl (r_load (v := .int _ _) Try.isAgg46 rfl (hm.at_ 0 0 rfl) rfl) (⟨_, hm⟩) ?_
  refine VD.pure 5 rfl (by kernel_rfl) rfl rfl (p_eq rfl rfl) ?_
  refine VD.pure 6 rfl (by kernel_rfl) rfl rfl (p_moveB rfl) ?_
  refine VD.knownT 20 rfl (by decide) ?_
  refine VD.pureG 7 rfl (by kernel_rfl) rfl rfl (p_moveI rfl) ?_
  refine VD.pureG 8 rfl (by kernel_rfl) rfl rfl (p_moveP rfl) ?_
  refine VD.pureG 9 rfl (by kernel_rfl) rfl rfl (p_nilCheck rfl) ?_
  refine VD.pureG 10 rfl (by kernel_rfl) rfl rfl (p_field (fo := 3) Try.underlying48 rfl Try.sizeOf24 rfl rfl rfl) ?_
  refine VD.readG 11 rfl (by kernel_rfl) rfl rfl (fun w' ⟨st, hw'⟩ => r_load (v := .int _ _) Try.isAgg24 rfl (hw'.at_ 0 0 rfl) rfl) ?_
  refine VD.pureG 12 rfl (by kernel_rfl) rfl rfl (p_add64 rfl rfl (by omega)) ?_
  refine VD.pureG 13 rfl (by kernel_rfl) rfl rfl (p_moveP rfl) ?_
  refine VD.pureG 14 rfl (by kernel_rfl) rfl rfl (p_nilCheck rfl) ?_
  refine VD.pureG 15 rfl (by kernel_rfl) rfl rfl (p_field (fo := 2) Try.underlying48 rfl Try.sizeOf24 rfl rfl rfl) ?_
  refine VD.readG 16 rfl (by kernel_rfl) rfl rfl (fun w' ⟨st, hw'⟩ => r_load (v := .int _ _) Try.isAgg24 rfl (hw'.at_ 0 0 rfl) rfl) ?_
  refine VD.turn1 17 (by kernel_rfl) ?_
  refine VDT.callG rfl rfl rfl (r_call3 Try.call20 rfl rfl rfl) (withinZ_c) ?_
  rintro _ _ ⟨rfl, rfl⟩
  refine ⟨⟨_, hm⟩, ?_⟩
  refine VD.pure 18 rfl (by kernel_rfl) rfl rfl (p_pickT rfl rfl) ?_
  refine VD.turn1 19 (by kernel_rfl) ?_
  refine VDT.call rfl rfl rfl (r_call3 Try.call16 rfl rfl rfl) (to_c hm) ?_
  rintro _ w ⟨rfl, hm⟩
  refine ⟨⟨_, hm⟩, ?_⟩
  refine VD.nil (by kernel_rfl) rfl ?_
  all_goals
    replace hm : Mem F w ([(g, .cells (tb 4 4 17179869185 8589934597 5) 48 (0, 0))] :: Ls) := hm
    repeat (first | refine VC.seq ?_ | refine VC.block ?_ | refine VC.skip ?_)
    refine VC.condT rfl (by decide) ?_
    repeat (first | refine VC.seq ?_ | refine VC.block ?_ | refine VC.skip ?_)
    refine VC.region ?_
    refine VR.pure rfl rfl (p_moveP rfl) ?_
    refine VR.pure rfl rfl (p_moveI rfl) ?_
    refine VR.pure rfl rfl (p_nilCheck rfl) ?_
    refine VR.pure rfl rfl (p_field (fo := 3) Try.underlying48 rfl Try.sizeOf24 rfl rfl rfl) ?_
    refine VR.store (cs' := (tb 4 4 17179869185 17179869185 5)) (v := .int _ _) Try.sizeOf24 rfl rfl rfl rfl rfl hm 0 0 rfl (Nat.ble_eq.mp rfl) rfl ?_
    intro w hm
    refine VR.nil ?_
    repeat (first | refine VC.seq ?_ | refine VC.block ?_ | refine VC.skip ?_)
    refine VC.region ?_
    refine VR.pure rfl rfl (p_moveP rfl) ?_
    refine VR.pure rfl rfl (p_nilCheck rfl) ?_
    refine VR.pure rfl rfl (p_field (fo := 4) Try.underlying48 rfl Try.sizeOf46 rfl rfl rfl) ?_
    refine VR.val rfl rfl (r_load (v := .int _ _) Try.isAgg46 rfl (hm.at_ 0 0 rfl) rfl) ?_
    refine VR.pure rfl rfl (p_assignI rfl) ?_
    refine VR.nil ?_
    repeat (first | refine VC.seq ?_ | refine VC.block ?_ | refine VC.skip ?_)
    refine VC.ret ⟨_, ResOf.r1 (v := .int _ _) rfl rfl, ?_⟩
    exact ⟨rfl, hm⟩

theorem awake_c {F : Env} {w : World} {Ls : List Blks} (hm : Mem F w Ls) : Calls Try.prog 4 #[] w (Ret fun v w' => v = .bool true ∧ Mem F w' Ls) := by
  refine Calls.of_vc Try.func4 rfl Try.ntmps4 rfl ?_
  repeat (first | refine VC.seq ?_ | refine VC.block ?_ | refine VC.skip ?_)
  refine VC.region ?_
  refine VR.pure rfl rfl (p_assignB rfl) ?_
  refine VR.nil ?_
  repeat (first | refine VC.seq ?_ | refine VC.block ?_ | refine VC.skip ?_)
  refine VC.region ?_
  refine VR.call rfl rfl (r_call3 Try.call15 rfl rfl rfl) (new24_c hm) ?_
  rintro _ w ⟨g, rfl, hm⟩
  refine VR.pure rfl rfl (p_assignP rfl) ?_
  refine VR.nil ?_
  repeat (first | refine VC.seq ?_ | refine VC.block ?_ | refine VC.skip ?_)
  refine VC.region ?_
  refine VR.pure rfl rfl (p_moveP rfl) ?_
  refine VR.call rfl rfl (r_call2 Try.call5 rfl rfl) (epoch24_c hm) ?_
  rintro _ w ⟨rfl, hm⟩
  refine VR.pure rfl rfl (p_moveT rfl) ?_
  refine VR.pure rfl rfl (p_extract rfl rfl) ?_
  refine VR.pure rfl rfl (p_extract rfl rfl) ?_
  refine VR.pure rfl rfl (p_assignB rfl) ?_
  refine VR.pure rfl rfl (p_assignI rfl) ?_
  refine VR.nil ?_
  repeat (first | refine VC.seq ?_ | refine VC.block ?_ | refine VC.skip ?_)
  refine VC.region ?_
  refine VR.pure rfl rfl (p_moveP rfl) ?_
  refine VR.pure rfl rfl (p_eqNilP Try.underlying45 rfl) ?_
  refine VR.pure rfl rfl (p_moveB rfl) ?_
  refine VR.knownF 12 rfl rfl ?_
  refine VR.pureG rfl rfl (p_moveB rfl) ?_
  refine VR.pureG rfl rfl (p_not rfl) ?_
  refine VR.pure rfl rfl (p_pickF rfl rfl) ?_
  refine VR.pure rfl rfl (p_moveB rfl) ?_
  refine VR.knownF 16 rfl rfl ?_
  refine VR.pureG rfl rfl (p_moveI rfl) ?_
  refine VR.pureG rfl rfl (p_ne rfl rfl) ?_
  refine VR.pure rfl rfl (p_pickF rfl rfl) ?_
  refine VR.pure rfl rfl (p_moveB rfl) ?_
  refine VR.knownF 20 rfl (by decide) ?_
  refine VR.pureG rfl rfl (p_moveP rfl) ?_
  refine VR.pureG rfl rfl (p_build (vs := [(0, .int _ _), (4, .int _ _)]) bld41_0_4 rfl) ?_
  refine VR.callG rfl rfl (r_call2 Try.call6 rfl rfl) (learn24_c rfl rfl rfl hm) ?_
  rintro _ w ⟨rfl, hm⟩
  refine VR.pureG rfl rfl (p_ne rfl rfl) ?_
  refine VR.pure rfl rfl (p_pickF rfl rfl) ?_
  refine VR.pure rfl rfl (p_moveB rfl) ?_
  refine VR.knownF 26 rfl (by decide) ?_
  refine VR.pureG rfl rfl (p_moveP rfl) ?_
  refine VR.callG rfl rfl (r_call2 Try.call7 rfl rfl) (propose24_c hm) ?_
  rintro _ w ⟨rfl, hm⟩
  refine VR.pureG rfl rfl (p_ne rfl rfl) ?_
  refine VR.pure rfl rfl (p_pickF rfl rfl) ?_
  refine VR.pure rfl rfl (p_moveB rfl) ?_
  refine VR.knownF 31 rfl (by decide) ?_
  refine VR.pureG rfl rfl (p_moveP rfl) ?_
  refine VR.callG rfl rfl (r_call2 Try.call8 rfl rfl) (ready24_c hm) ?_
  rintro _ w ⟨rfl, hm⟩
  refine VR.pureG rfl rfl (p_ne rfl rfl) ?_
  refine VR.pure rfl rfl (p_pickF rfl rfl) ?_
  refine VR.pure rfl rfl (p_moveB rfl) ?_
  refine VR.knownF 36 rfl (by decide) ?_
  refine VR.pureG rfl rfl (p_moveP rfl) ?_
  refine VR.callG rfl rfl (r_call2 Try.call9 rfl rfl) (commit24_c hm) ?_
  rintro _ w ⟨rfl, hm⟩
  refine VR.pureG rfl rfl (p_ne rfl rfl) ?_
  refine VR.pure rfl rfl (p_pickF rfl rfl) ?_
  refine VR.nil ?_
  repeat (first | refine VC.seq ?_ | refine VC.block ?_ | refine VC.skip ?_)
  refine VC.condF rfl (by decide) ?_
  repeat (first | refine VC.seq ?_ | refine VC.block ?_ | refine VC.skip ?_)
  refine VC.region ?_
  refine VR.pure rfl rfl (p_moveP rfl) ?_
  refine VR.call rfl rfl (r_call1 Try.call13 rfl) (last_c hm) ?_
  rintro _ _ ⟨rfl, rfl⟩
  refine VR.pure rfl rfl (p_eq rfl rfl) ?_
  refine VR.pure rfl rfl (p_moveB rfl) ?_
  refine VR.knownT 44 rfl (by decide) ?_
  refine VR.pureG rfl rfl (p_moveP rfl) ?_
  refine VR.callG rfl rfl (r_call1 Try.call14 rfl) (committed_c hm) ?_
  rintro _ _ ⟨rfl, rfl⟩
  refine VR.pureG rfl rfl (p_eq rfl rfl) ?_
  refine VR.pure rfl rfl (p_pickT rfl rfl) ?_
  refine VR.pure rfl rfl (p_moveB rfl) ?_
  refine VR.knownT 49 rfl (by decide) ?_
  refine VR.pureG rfl rfl (p_moveP rfl) ?_
  refine VR.callG rfl rfl (r_call1 Try.call12 rfl) (current_c hm) ?_
  rintro _ _ ⟨rfl, rfl⟩
  refine VR.pureG rfl rfl (p_eq rfl rfl) ?_
  refine VR.pure rfl rfl (p_pickT rfl rfl) ?_
  refine VR.pure rfl rfl (p_moveB rfl) ?_
  refine VR.knownT 54 rfl (by decide) ?_
  refine VR.pureG rfl rfl (p_moveP rfl) ?_
  refine VR.callG rfl rfl (r_call1 Try.call11 rfl) (accepted_c hm) ?_
  rintro _ _ ⟨rfl, rfl⟩
  refine VR.pureG rfl rfl (p_eq rfl rfl) ?_
  refine VR.pure rfl rfl (p_pickT rfl rfl) ?_
  refine VR.pure rfl rfl (p_assignB rfl) ?_
  refine VR.nil ?_
  repeat (first | refine VC.seq ?_ | refine VC.block ?_ | refine VC.skip ?_)
  refine VC.ret ⟨_, ResOf.r1 (v := .bool _) rfl rfl, ?_⟩
  exact ⟨rfl, hm.pop⟩

set_option maxHeartbeats 2000000 in
theorem follow_none_c {F : Env} {w : World} {ds : Array Value} {e z : Int} {lc : List Value} (h1 : ds[1]? = some (.int .i64 e)) (hl : lc.length = 43) (h2 : ∀ i, i < 43 → ds[2 + i]? = lc[i]?) (h3 : ds[2 + 43]? = some (.int .i64 z)) (hm : Mem F w []) :
    Calls Try.prog 3 #[.agg ds] w (Ret fun v w' => v = .bool true ∧ Mem F w' []) := by
  refine Calls.of_vc Try.func3 rfl Try.ntmps3 rfl ?_
  repeat (first | refine VC.seq ?_ | refine VC.block ?_ | refine VC.skip ?_)
  refine VC.region ?_
  refine VR.new hm rfl rfl (n_boxG rfl) ?_
  intro b1 w hm
  refine VR.pure rfl rfl (p_assignB rfl) ?_
  refine VR.nil ?_
  repeat (first | refine VC.seq ?_ | refine VC.block ?_ | refine VC.skip ?_)
  refine VC.region ?_
  refine VR.call rfl rfl (r_call0 Try.call4) (awake_c hm) ?_
  rintro _ w ⟨rfl, hm⟩
  refine VR.pure rfl rfl (p_not rfl) ?_
  refine VR.nil ?_
  repeat (first | refine VC.seq ?_ | refine VC.block ?_ | refine VC.skip ?_)
  refine VC.condF rfl rfl ?_
  repeat (first | refine VC.seq ?_ | refine VC.block ?_ | refine VC.skip ?_)
  refine VC.region ?_
  refine VR.pure rfl rfl (p_build (vs := []) bld48_0x rfl) ?_
  refine VR.new hm rfl rfl (n_boxG rfl) ?_
  intro g w hm
  refine VR.new hm rfl rfl (n_buildSlice1 (vs := [.pointer _, .pointer _]) Try.underlying49 inf45 rfl rfl rfl rfl rfl rfl rfl) ?_
  intro bs w hm
  refine VR.pure rfl rfl (p_assignL rfl) ?_
  refine VR.nil ?_
  replace hm := hm.swap
  repeat (first | refine VC.seq ?_ | refine VC.block ?_ | refine VC.skip ?_)
  refine VC.region ?_
  refine VR.pure rfl rfl (p_assignI rfl) ?_
  refine VR.nil ?_
  repeat (first | refine VC.seq ?_ | refine VC.block ?_ | refine VC.skip ?_)
  refine VC.loop (σ := Nat) (fun k => [(1, .pointer (some ⟨b1, 0, none⟩)), (3, .slice (some ⟨bs, 0, none⟩) 2 2), (4, .int .i64 k)])
    (fun k w => k ≤ 2 ∧ Mem F w ([(g, .cells (tb 0 0 0 0 0) 48 (0, 0))] :: [(bs, .cells #[.pointer none, .pointer (some ⟨g, 0, none⟩)] 45 (0, 0))] :: [(b1, .cells ds 43 (0, 0))] :: [])) (fun k => 2 - k) 0 ⟨rfl, rfl, rfl, trivial⟩ ⟨by omega, hm⟩ ?_
  clear hm
  rintro k A' w ⟨hk, hm⟩
  repeat (first | refine VC.seq ?_ | refine VC.block ?_ | refine VC.skip ?_)
  refine VC.region ?_
  refine VR.pure rfl rfl (p_moveI rfl) ?_
  refine VR.pure rfl rfl (p_lt rfl rfl) ?_
  refine VR.nil ?_
  repeat (first | refine VC.seq ?_ | refine VC.block ?_ | refine VC.skip ?_)
  refine VC.condD rfl (fun h => ?_) (fun h => ?_)
  · rcases (show k = 0 ∨ k = 1 by omega) with rfl | rfl
    · repeat (first | refine VC.seq ?_ | refine VC.block ?_ | refine VC.skip ?_)
      refine VC.region ?_
      refine VR.pure rfl rfl (p_moveL rfl) ?_
      refine VR.pure rfl rfl (p_moveI rfl) ?_
      refine VR.pure rfl rfl (p_idx1 Try.underlying49 Try.sizeOf45 rfl rfl (by decide : 0 < 2)) ?_
      refine VR.val rfl rfl (r_load (v := .pointer _) Try.isAgg45 rfl (hm.at_ 1 0 rfl) rfl) ?_
      refine VR.pure rfl rfl (p_assignP rfl) ?_
      refine VR.nil ?_
      repeat (first | refine VC.seq ?_ | refine VC.block ?_ | refine VC.skip ?_)
      refine VC.region ?_
      refine VR.pure rfl rfl (p_moveP rfl) ?_
      refine VR.pure rfl rfl (p_field (fo := 1) Try.underlying43 rfl Try.sizeOf3 rfl rfl rfl) ?_
      refine VR.val rfl rfl (r_load (v := .int _ _) Try.isAgg3 rfl (hm.at_ 2 0 rfl) h1) ?_
      refine VR.call rfl rfl (r_call2 Try.call5 rfl rfl) (epoch_nil) ?_
      rintro _ _ ⟨rfl, rfl⟩
      refine VR.pure rfl rfl (p_moveT rfl) ?_
      refine VR.pure rfl rfl (p_extract rfl rfl) ?_
      refine VR.pure rfl rfl (p_extract rfl rfl) ?_
      refine VR.pure rfl rfl (p_assignB rfl) ?_
      refine VR.pure rfl rfl (p_assignI rfl) ?_
      refine VR.nil ?_
      repeat (first | refine VC.seq ?_ | refine VC.block ?_ | refine VC.skip ?_)
      refine VC.region ?_
      refine VR.pure rfl rfl (p_moveB rfl) ?_
      refine VR.pure rfl rfl (p_moveB rfl) ?_
      refine VR.knownF 29 rfl rfl ?_
      refine VR.pureG rfl rfl (p_moveI rfl) ?_
      refine VR.pureG rfl rfl (p_ne rfl rfl) ?_
      refine VR.pure rfl rfl (p_pickF rfl rfl) ?_
      refine VR.pure rfl rfl (p_moveB rfl) ?_
      refine VR.knownF 33 rfl rfl ?_
      refine VR.pureG rfl rfl (p_moveP rfl) ?_
      refine VR.pureG rfl rfl (p_field (fo := 2) Try.underlying43 rfl Try.sizeOf41 rfl rfl rfl) ?_
      refine VR.valG rfl rfl (r_loadAgg (vs := lc) Try.isAgg41 Try.sizeOf41 rfl (hm.at_ 2 0 rfl) hl h2) ?_
      refine VR.callG rfl rfl (r_call2 Try.call6 rfl rfl) (learn_nil hm) ?_
      rintro _ w ⟨rfl, hm⟩
      refine VR.pureG rfl rfl (p_ne rfl rfl) ?_
      refine VR.pure rfl rfl (p_pickF rfl rfl) ?_
      refine VR.pure rfl rfl (p_moveB rfl) ?_
      refine VR.knownF 40 rfl rfl ?_
      refine VR.pureG rfl rfl (p_moveP rfl) ?_
      refine VR.pureG rfl rfl (p_field (fo := 45) Try.underlying43 rfl Try.sizeOf24 rfl rfl rfl) ?_
      refine VR.valG rfl rfl (r_load (v := .int _ _) Try.isAgg24 rfl (hm.at_ 2 0 rfl) h3) ?_
      refine VR.callG rfl rfl (r_call2 Try.call7 rfl rfl) (propose_nil) ?_
      rintro _ _ ⟨rfl, rfl⟩
      refine VR.pureG rfl rfl (p_ne rfl rfl) ?_
      refine VR.pure rfl rfl (p_pickF rfl rfl) ?_
      refine VR.pure rfl rfl (p_moveB rfl) ?_
      refine VR.knownF 47 rfl rfl ?_
      refine VR.pureG rfl rfl (p_moveP rfl) ?_
      refine VR.pureG rfl rfl (p_field (fo := 45) Try.underlying43 rfl Try.sizeOf24 rfl rfl rfl) ?_
      refine VR.valG rfl rfl (r_load (v := .int _ _) Try.isAgg24 rfl (hm.at_ 2 0 rfl) h3) ?_
      refine VR.callG rfl rfl (r_call2 Try.call8 rfl rfl) (ready_nil) ?_
      rintro _ _ ⟨rfl, rfl⟩
      refine VR.pureG rfl rfl (p_ne rfl rfl) ?_
      refine VR.pure rfl rfl (p_pickF rfl rfl) ?_
      refine VR.pure rfl rfl (p_moveB rfl) ?_
      refine VR.knownF 54 rfl rfl ?_
      refine VR.pureG rfl rfl (p_moveP rfl) ?_
      refine VR.pureG rfl rfl (p_field (fo := 45) Try.underlying43 rfl Try.sizeOf24 rfl rfl rfl) ?_
      refine VR.valG rfl rfl (r_load (v := .int _ _) Try.isAgg24 rfl (hm.at_ 2 0 rfl) h3) ?_
      refine VR.callG rfl rfl (r_call2 Try.call9 rfl rfl) (commit_nil) ?_
      rintro _ _ ⟨rfl, rfl⟩
      refine VR.pureG rfl rfl (p_ne rfl rfl) ?_
      refine VR.pure rfl rfl (p_pickF rfl rfl) ?_
      refine VR.pure rfl rfl (p_moveB rfl) ?_
      refine VR.knownF 61 rfl rfl ?_
      refine VR.pureG rfl rfl (p_moveP rfl) ?_
      refine VR.callG rfl rfl (r_call1 Try.call10 rfl) (stage_nil) ?_
      rintro _ _ ⟨rfl, rfl⟩
      refine VR.pureG rfl rfl (p_ne rfl rfl) ?_
      refine VR.pure rfl rfl (p_pickF rfl rfl) ?_
      refine VR.pure rfl rfl (p_moveB rfl) ?_
      refine VR.knownF 66 rfl rfl ?_
      refine VR.pureG rfl rfl (p_moveP rfl) ?_
      refine VR.callG rfl rfl (r_call1 Try.call11 rfl) (accepted_nil) ?_
      rintro _ _ ⟨rfl, rfl⟩
      refine VR.pureG rfl rfl (p_moveP rfl) ?_
      refine VR.callG rfl rfl (r_call1 Try.call12 rfl) (current_nil) ?_
      rintro _ _ ⟨rfl, rfl⟩
      refine VR.pureG rfl rfl (p_add64 rfl rfl (by omega)) ?_
      refine VR.pureG rfl rfl (p_ne rfl rfl) ?_
      refine VR.pure rfl rfl (p_pickF rfl rfl) ?_
      refine VR.pure rfl rfl (p_moveB rfl) ?_
      refine VR.knownF 74 rfl rfl ?_
      refine VR.pureG rfl rfl (p_moveP rfl) ?_
      refine VR.callG rfl rfl (r_call1 Try.call13 rfl) (last_nil) ?_
      rintro _ _ ⟨rfl, rfl⟩
      refine VR.pureG rfl rfl (p_moveP rfl) ?_
      refine VR.callG rfl rfl (r_call1 Try.call14 rfl) (committed_nil) ?_
      rintro _ _ ⟨rfl, rfl⟩
      refine VR.pureG rfl rfl (p_add64 rfl rfl (by omega)) ?_
      refine VR.pureG rfl rfl (p_ne rfl rfl) ?_
      refine VR.pure rfl rfl (p_pickF rfl rfl) ?_
      refine VR.nil ?_
      repeat (first | refine VC.seq ?_ | refine VC.block ?_ | refine VC.skip ?_)
      refine VC.condF rfl rfl ?_
      repeat (first | refine VC.seq ?_ | refine VC.block ?_ | refine VC.skip ?_)
      repeat (first | refine VC.seq ?_ | refine VC.block ?_ | refine VC.skip ?_)
      refine VC.region ?_
      refine VR.pure rfl rfl (p_moveI rfl) ?_
      refine VR.pure rfl rfl (p_add64 rfl rfl (by omega)) ?_
      refine VR.pure rfl rfl (p_assignI rfl) ?_
      refine VR.nil ?_
      exact ⟨1, ⟨rfl, rfl, rfl, trivial⟩, ⟨by omega, hm⟩, by omega⟩
    · repeat (first | refine VC.seq ?_ | refine VC.block ?_ | refine VC.skip ?_)
      refine VC.region ?_
      refine VR.pure rfl rfl (p_moveL rfl) ?_
      refine VR.pure rfl rfl (p_moveI rfl) ?_
      refine VR.pure rfl rfl (p_idx1 Try.underlying49 Try.sizeOf45 rfl rfl (by decide : 1 < 2)) ?_
      refine VR.val rfl rfl (r_load (v := .pointer _) Try.isAgg45 rfl (hm.at_ 1 0 rfl) rfl) ?_
      refine VR.pure rfl rfl (p_assignP rfl) ?_
      refine VR.nil ?_
      repeat (first | refine VC.seq ?_ | refine VC.block ?_ | refine VC.skip ?_)
      refine VC.region ?_
      refine VR.pure rfl rfl (p_moveP rfl) ?_
      refine VR.pure rfl rfl (p_field (fo := 1) Try.underlying43 rfl Try.sizeOf3 rfl rfl rfl) ?_
      refine VR.val rfl rfl (r_load (v := .int _ _) Try.isAgg3 rfl (hm.at_ 2 0 rfl) h1) ?_
      refine VR.call rfl rfl (r_call2 Try.call5 rfl rfl) (epoch_zero hm) ?_
      rintro _ _ ⟨rfl, rfl⟩
      refine VR.pure rfl rfl (p_moveT rfl) ?_
      refine VR.pure rfl rfl (p_extract rfl rfl) ?_
      refine VR.pure rfl rfl (p_extract rfl rfl) ?_
      refine VR.pure rfl rfl (p_assignB rfl) ?_
      refine VR.pure rfl rfl (p_assignI rfl) ?_
      refine VR.nil ?_
      repeat (first | refine VC.seq ?_ | refine VC.block ?_ | refine VC.skip ?_)
      refine VC.region ?_
      refine VR.pure rfl rfl (p_moveB rfl) ?_
      refine VR.pure rfl rfl (p_moveB rfl) ?_
      refine VR.knownF 29 rfl rfl ?_
      refine VR.pureG rfl rfl (p_moveI rfl) ?_
      refine VR.pureG rfl rfl (p_ne rfl rfl) ?_
      refine VR.pure rfl rfl (p_pickF rfl rfl) ?_
      refine VR.pure rfl rfl (p_moveB rfl) ?_
      refine VR.knownF 33 rfl rfl ?_
      refine VR.pureG rfl rfl (p_moveP rfl) ?_
      refine VR.pureG rfl rfl (p_field (fo := 2) Try.underlying43 rfl Try.sizeOf41 rfl rfl rfl) ?_
      refine VR.valG rfl rfl (r_loadAgg (vs := lc) Try.isAgg41 Try.sizeOf41 rfl (hm.at_ 2 0 rfl) hl h2) ?_
      refine VR.callG rfl rfl (r_call2 Try.call6 rfl rfl) (learn_zero hm) ?_
      rintro _ w ⟨rfl, hm⟩
      refine VR.pureG rfl rfl (p_ne rfl rfl) ?_
      refine VR.pure rfl rfl (p_pickF rfl rfl) ?_
      refine VR.pure rfl rfl (p_moveB rfl) ?_
      refine VR.knownF 40 rfl rfl ?_
      refine VR.pureG rfl rfl (p_moveP rfl) ?_
      refine VR.pureG rfl rfl (p_field (fo := 45) Try.underlying43 rfl Try.sizeOf24 rfl rfl rfl) ?_
      refine VR.valG rfl rfl (r_load (v := .int _ _) Try.isAgg24 rfl (hm.at_ 2 0 rfl) h3) ?_
      refine VR.callG rfl rfl (r_call2 Try.call7 rfl rfl) (propose_zero hm) ?_
      rintro _ _ ⟨rfl, rfl⟩
      refine VR.pureG rfl rfl (p_ne rfl rfl) ?_
      refine VR.pure rfl rfl (p_pickF rfl rfl) ?_
      refine VR.pure rfl rfl (p_moveB rfl) ?_
      refine VR.knownF 47 rfl rfl ?_
      refine VR.pureG rfl rfl (p_moveP rfl) ?_
      refine VR.pureG rfl rfl (p_field (fo := 45) Try.underlying43 rfl Try.sizeOf24 rfl rfl rfl) ?_
      refine VR.valG rfl rfl (r_load (v := .int _ _) Try.isAgg24 rfl (hm.at_ 2 0 rfl) h3) ?_
      refine VR.callG rfl rfl (r_call2 Try.call8 rfl rfl) (ready_zero hm) ?_
      rintro _ _ ⟨rfl, rfl⟩
      refine VR.pureG rfl rfl (p_ne rfl rfl) ?_
      refine VR.pure rfl rfl (p_pickF rfl rfl) ?_
      refine VR.pure rfl rfl (p_moveB rfl) ?_
      refine VR.knownF 54 rfl rfl ?_
      refine VR.pureG rfl rfl (p_moveP rfl) ?_
      refine VR.pureG rfl rfl (p_field (fo := 45) Try.underlying43 rfl Try.sizeOf24 rfl rfl rfl) ?_
      refine VR.valG rfl rfl (r_load (v := .int _ _) Try.isAgg24 rfl (hm.at_ 2 0 rfl) h3) ?_
      refine VR.callG rfl rfl (r_call2 Try.call9 rfl rfl) (commit_zero hm) ?_
      rintro _ _ ⟨rfl, rfl⟩
      refine VR.pureG rfl rfl (p_ne rfl rfl) ?_
      refine VR.pure rfl rfl (p_pickF rfl rfl) ?_
      refine VR.pure rfl rfl (p_moveB rfl) ?_
      refine VR.knownF 61 rfl rfl ?_
      refine VR.pureG rfl rfl (p_moveP rfl) ?_
      refine VR.callG rfl rfl (r_call1 Try.call10 rfl) (stage_c hm) ?_
      rintro _ _ ⟨rfl, rfl⟩
      refine VR.pureG rfl rfl (p_ne rfl rfl) ?_
      refine VR.pure rfl rfl (p_pickF rfl rfl) ?_
      refine VR.pure rfl rfl (p_moveB rfl) ?_
      refine VR.knownF 66 rfl rfl ?_
      refine VR.pureG rfl rfl (p_moveP rfl) ?_
      refine VR.callG rfl rfl (r_call1 Try.call11 rfl) (accepted_c hm) ?_
      rintro _ _ ⟨rfl, rfl⟩
      refine VR.pureG rfl rfl (p_moveP rfl) ?_
      refine VR.callG rfl rfl (r_call1 Try.call12 rfl) (current_c hm) ?_
      rintro _ _ ⟨rfl, rfl⟩
      refine VR.pureG rfl rfl (p_add64 rfl rfl (by omega)) ?_
      refine VR.pureG rfl rfl (p_ne rfl rfl) ?_
      refine VR.pure rfl rfl (p_pickF rfl rfl) ?_
      refine VR.pure rfl rfl (p_moveB rfl) ?_
      refine VR.knownF 74 rfl rfl ?_
      refine VR.pureG rfl rfl (p_moveP rfl) ?_
      refine VR.callG rfl rfl (r_call1 Try.call13 rfl) (last_c hm) ?_
      rintro _ _ ⟨rfl, rfl⟩
      refine VR.pureG rfl rfl (p_moveP rfl) ?_
      refine VR.callG rfl rfl (r_call1 Try.call14 rfl) (committed_c hm) ?_
      rintro _ _ ⟨rfl, rfl⟩
      refine VR.pureG rfl rfl (p_add64 rfl rfl (by omega)) ?_
      refine VR.pureG rfl rfl (p_ne rfl rfl) ?_
      refine VR.pure rfl rfl (p_pickF rfl rfl) ?_
      refine VR.nil ?_
      repeat (first | refine VC.seq ?_ | refine VC.block ?_ | refine VC.skip ?_)
      refine VC.condF rfl rfl ?_
      repeat (first | refine VC.seq ?_ | refine VC.block ?_ | refine VC.skip ?_)
      repeat (first | refine VC.seq ?_ | refine VC.block ?_ | refine VC.skip ?_)
      refine VC.region ?_
      refine VR.pure rfl rfl (p_moveI rfl) ?_
      refine VR.pure rfl rfl (p_add64 rfl rfl (by omega)) ?_
      refine VR.pure rfl rfl (p_assignI rfl) ?_
      refine VR.nil ?_
      exact ⟨2, ⟨rfl, rfl, rfl, trivial⟩, ⟨by omega, hm⟩, by omega⟩
  · repeat (first | refine VC.seq ?_ | refine VC.block ?_ | refine VC.skip ?_)
    refine VC.exit ?_
    repeat (first | refine VC.seq ?_ | refine VC.block ?_ | refine VC.skip ?_)
    refine VC.region ?_
    refine VR.pure rfl rfl (p_assignB rfl) ?_
    refine VR.nil ?_
    repeat (first | refine VC.seq ?_ | refine VC.block ?_ | refine VC.skip ?_)
    refine VC.ret ⟨_, ResOf.r1 (v := .bool _) rfl rfl, ?_⟩
    exact ⟨rfl, hm.none_⟩
end Go.Bd
namespace Go.Proofs.Ytdghkiibbconeaa
open Go.Bd Go.ChangeShapes Go.WideShapes

set_option maxRecDepth 100000 in
theorem none_lifted (os : Os) (started : os.Started) (H : Type) (enc : TypeId × Value → H) :
    ReturnsInHanded {} Try.checked os 3 .any (Rows.followNoneSpec.pre6 enc Try.prog Try.f3 Rows.followNoneRow.domain false) (Rows.followNoneSpec.post enc Try.prog Try.f3 false true false false) := by
  refine law_frame (C := Try.checked) (tb := 4) (by kernel_rfl) (by kernel_rfl) started (by kernel_rfl) Try.func3 rfl rfl Try.underlying4 (by kernel_rfl) ?_
    (ChangeSpec.witness6 (enc := enc) (C := Try.checked) false ⟨#[], #[.agg #[.int .i64 0, .int .i64 0, .int .u8 0, .int .u8 0, .int .i64 0, .int .i64 0, .int .i64 0, .int .i64 0, .bool false, .int .i64 0, .int .i64 0, .int .i64 0, .slice none 0 0, .slice none 0 0, .int .i64 0, .int .u8 0, .int .i64 0, .int .i64 0, .int .i64 0, .int .i64 0, .string ⟨#[]⟩, .slice none 0 0, .int .i64 0, .int .i64 0, .int .i64 0, .int .i64 0, .int .i64 0, .int .i64 0, .slice none 0 0, .slice none 0 0, .int .u8 0, .int .i64 0, .int .i64 0, .int .i64 0, .string ⟨#[]⟩, .slice none 0 0, .int .i64 0, .int .i64 0, .bool false, .int .u8 0, .int .i64 0, .int .i64 0, .int .i64 0, .slice none 0 0, .slice none 0 0, .int .i64 0]], []⟩ 8 (by kernel_rfl) (by kernel_rfl) (by kernel_rfl) (by kernel_rfl)) ?_
  · intro ds hl
    match ds, hl with
    | [d1], _ => rfl
  · intro W base args ds p hval hA hwt
    replace hA : DataW.TrodAll enc Try.prog W 0 (fun _ => true) true Try.f3.params.toList args.toList ds p := hA
    rw [Try.params3] at hA hval
    replace hwt : (DataW.weightsEach Try.prog [43] ds).all (· ≤ reachBytes) = true := hwt
    obtain ⟨v0, vs0, d0, ds0, p0, q0, hargs, rfl, rfl, h0, r0⟩ := trodAll_cons hA
    obtain ⟨rfl, rfl, rfl⟩ := trodAll_nil r0
    obtain rfl : args = #[v0] := by cases args; simp_all
    obtain ⟨ds, e, z, rfl, hs, e1, e3⟩ := open_deed24 (hval 0 43 v0 rfl rfl) h0
    exact follow_none_c e1 (lc := (ds.toList.drop 2).take 43) (by rw [List.length_take, List.length_drop, Array.length_toList, hs]; rfl) (agg_at rfl) e3 (Mem.of W)

theorem none : Rows.FollowNoneSaid :=
  OpenClaim.holds_of_wide 3 Try.f3 rfl rfl rfl rfl rfl rfl rfl ⟨rfl, rfl, rfl, rfl, rfl⟩ rfl rfl rfl rfl rfl (by kernel_rfl) Try.func3 (by kernel_rfl)
    (of_decide_eq_true (by kernel_rfl)) (by unfold Func.isWrapper; rw [if_neg (of_decide_eq_false (by kernel_rfl))]; exact ⟨rfl, rfl⟩)
    (fun os started H enc _ => none_lifted os started H enc)
end Go.Proofs.Ytdghkiibbconeaa
