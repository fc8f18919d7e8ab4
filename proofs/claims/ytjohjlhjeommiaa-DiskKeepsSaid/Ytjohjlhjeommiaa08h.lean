/- The chapter's example of layer 8, as a call. Conditions: none. -/
import Derived.Test.Ytjohjlhjeommiaa08g
namespace Go.Bd
open Go.Proofs
set_option linter.unusedVariables false
set_option maxRecDepth 20000

abbrev nA : ByteArray := ⟨#[97]⟩
abbrev nB : ByteArray := ⟨#[98]⟩
theorem Mem.unL {F : Env} {w w' : World} {As As' Bs : List Blks} (h : Mem F w (As ++ Bs)) (h' : Mem (F.plus Bs) w' As') : Mem F w' (As' ++ Bs) := h.unfocus h'
theorem aw1 : appD ⟨10, []⟩ nA [1, 2, 3, 4] = (0, ⟨10, [(nA, [1, 2, 3, 4], 0)]⟩) := by kernel_rfl
theorem aw2 : syncD ⟨10, [(nA, [1, 2, 3, 4], 0)]⟩ nA = (0, ⟨10, [(nA, [1, 2, 3, 4], 4)]⟩) := by kernel_rfl
theorem aw3 : appD ⟨10, [(nA, [1, 2, 3, 4], 4)]⟩ nA [5, 6, 7] = (0, ⟨10, [(nA, [1, 2, 3, 4, 5, 6, 7], 4)]⟩) := by kernel_rfl
theorem aw4 : crashD ⟨10, [(nA, [1, 2, 3, 4, 5, 6, 7], 4)]⟩ 1 = ⟨10, [(nA, [1, 2, 3, 4, 5], 5)]⟩ := by kernel_rfl
theorem aw5 : readA ⟨10, [(nA, [1, 2, 3, 4, 5], 5)]⟩ nA = (0, [1, 2, 3, 4, 5]) := by kernel_rfl
theorem aw6 : appD ⟨10, [(nA, [1, 2, 3, 4, 5], 5)]⟩ nB [0, 0, 0, 0, 0, 0] = (5, ⟨10, [(nA, [1, 2, 3, 4, 5], 5)]⟩) := by kernel_rfl
theorem made6 : madeCells (Value.int IntKind.u8 0).cells (Int.toNat 6 * 1) = (bytes [0, 0, 0, 0, 0, 0]).toArray := by kernel_rfl
theorem sort1 (x : ByteArray) : sortN [x] = [x] := by
  unfold sortN
  rw [List.map_singleton, List.mergeSort_singleton, List.map_singleton]
  show [(⟨x.data.toList.toArray⟩ : ByteArray)] = [x]
  rw [Array.toArray_toList]

set_option maxHeartbeats 4000000 in
theorem awake_c {F : Env} {w : World} {Ls : List Blks} (hm : Mem F w Ls) : Calls Try.prog 10 #[] w (Ret fun v w' => v = .bool true ∧ Mem F w' Ls) := by
  refine Calls.of_vc Try.func10 rfl Try.ntmps10 rfl ?_
  repeat (first | refine VC.seq ?_ | refine VC.block ?_ | refine VC.skip ?_)
  refine VC.region ?_
  refine VR.pure rfl rfl (p_assignB rfl) ?_
  refine VR.nil ?_
  repeat (first | refine VC.seq ?_ | refine VC.block ?_ | refine VC.skip ?_)
  refine VC.region ?_
  refine VR.call rfl rfl (r_call1 Try.call11 rfl) (new_c hm (by decide)) ?_
  rintro _ w ⟨g, m, D0, rfl, ha0, hD0, hm⟩
  refine VR.pure rfl rfl (p_assignP rfl) ?_
  refine VR.nil ?_
  have e0 : D0.abs = ⟨10, []⟩ := ha0
  repeat (first | refine VC.seq ?_ | refine VC.block ?_ | refine VC.skip ?_)
  refine VC.region ?_
  refine VR.pure rfl rfl (p_moveP rfl) ?_
  refine VR.new hm rfl rfl (n_buildSlice1 (vs := [.int _ _, .int _ _, .int _ _, .int _ _]) Try.underlying22 inf5 rfl rfl rfl rfl rfl rfl rfl) ?_
  intro b7 w hm
  obtain ⟨F1, hu1, hm, hb7⟩ := hm.freeze
  refine VR.call rfl rfl (r_call3 Try.call12 rfl rfl rfl) (append_c hm.focus hD0 (by decide) (by omega) ((Row.lit (cs := bytes [1, 2, 3, 4]) (hb7 _ (.head _))).mono hm.leR)) ?_
  rintro _ w ⟨D1, rfl, ha1, hD1, hm'⟩
  replace hm := hm.unL hm'
  refine VR.pure rfl rfl (p_assignI rfl) ?_
  refine VR.nil ?_
  have e1 : D1.abs = ⟨10, [(nA, [1, 2, 3, 4], 0)]⟩ := by rw [ha1, e0, aw1]
  have k1 : (appD D0.abs nA [1, 2, 3, 4]).1 = 0 := by rw [e0, aw1]
  repeat (first | refine VC.seq ?_ | refine VC.block ?_ | refine VC.skip ?_)
  refine VC.region ?_
  refine VR.pure rfl rfl (p_moveP rfl) ?_
  refine VR.call rfl rfl (r_call2 Try.call13 rfl rfl) (sync_c hm.focus hD1) ?_
  rintro _ w ⟨D2, rfl, ha2, hD2, hm'⟩
  replace hm := hm.unL hm'
  refine VR.nil ?_
  have e2 : D2.abs = ⟨10, [(nA, [1, 2, 3, 4], 4)]⟩ := by rw [ha2, e1, aw2]
  repeat (first | refine VC.seq ?_ | refine VC.block ?_ | refine VC.skip ?_)
  refine VC.region ?_
  refine VR.pure rfl rfl (p_moveP rfl) ?_
  refine VR.new hm rfl rfl (n_buildSlice1 (vs := [.int _ _, .int _ _, .int _ _]) Try.underlying22 inf5 rfl rfl rfl rfl rfl rfl rfl) ?_
  intro b12 w hm
  obtain ⟨F2, hu2, hm, hb12⟩ := hm.freeze
  refine VR.call rfl rfl (r_call3 Try.call12 rfl rfl rfl) (append_c hm.focus hD2 (by decide) (by omega) ((Row.lit (cs := bytes [5, 6, 7]) (hb12 _ (.head _))).mono hm.leR)) ?_
  rintro _ w ⟨D3, rfl, ha3, hD3, hm'⟩
  replace hm := hm.unL hm'
  refine VR.nil ?_
  have e3 : D3.abs = ⟨10, [(nA, [1, 2, 3, 4, 5, 6, 7], 4)]⟩ := by rw [ha3, e2, aw3]
  repeat (first | refine VC.seq ?_ | refine VC.block ?_ | refine VC.skip ?_)
  refine VC.region ?_
  refine VR.pure rfl rfl (p_moveP rfl) ?_
  refine VR.call rfl rfl (r_call2 Try.call15 rfl rfl) (crash_c (keep := 1) hm.focus hD3) ?_
  rintro v5 w ⟨D4, ha4, hD4, hm'⟩
  replace hm := hm.unL hm'
  refine VR.nil ?_
  have e4 : D4.abs = ⟨10, [(nA, [1, 2, 3, 4, 5], 5)]⟩ := by rw [ha4, e3, aw4]
  repeat (first | refine VC.seq ?_ | refine VC.block ?_ | refine VC.skip ?_)
  refine VC.region ?_
  refine VR.pure rfl rfl (p_moveP rfl) ?_
  refine VR.call rfl rfl (r_call2 Try.call16 rfl rfl) (read_c hm.focus hD4) ?_
  rintro _ w ⟨A6, n6, c6, L6, rfl, ho6, hn6, hm'⟩
  replace hm := hm.unL hm'
  refine VR.pure rfl rfl (p_moveT rfl) ?_
  refine VR.pure rfl rfl (p_extract rfl rfl) ?_
  refine VR.pure rfl rfl (p_extract rfl rfl) ?_
  refine VR.pure rfl rfl (p_assignL rfl) ?_
  refine VR.pure rfl rfl (p_assignI rfl) ?_
  refine VR.nil ?_
  have e5 : readA D4.abs nA = (0, [1, 2, 3, 4, 5]) := by rw [e4, aw5]
  rw [e5] at ho6
  have k5 : (readA D4.abs nA).1 = 0 := by rw [e5]
  obtain ⟨F3, hu3, hm, hL6⟩ := (show Mem F2 w (L6 :: (dkB g m D4 ++ Ls)) from hm).freeze
  have hr6 := ho6.row1 hL6
  repeat (first | refine VC.seq ?_ | refine VC.block ?_ | refine VC.skip ?_)
  refine VC.region ?_
  refine VR.pure rfl rfl (p_moveI rfl) ?_
  refine VR.pure rfl rfl (p_eq rfl rfl) ?_
  refine VR.pure rfl rfl (p_moveB rfl) ?_
  refine VR.knownT 23 rfl (decide_eq_true k1) ?_
  refine VR.pureG rfl rfl (p_moveI rfl) ?_
  refine VR.pureG rfl rfl (p_eq rfl rfl) ?_
  refine VR.pure rfl rfl (p_pickT rfl rfl) ?_
  refine VR.pure rfl rfl (p_moveB rfl) ?_
  refine VR.knownT 27 rfl (decide_eq_true k5) ?_
  refine VR.pureG rfl rfl (p_moveL rfl) ?_
  refine VR.newG hm rfl rfl (n_buildSlice1 (vs := [.int _ _, .int _ _, .int _ _, .int _ _, .int _ _]) Try.underlying22 inf5 rfl rfl rfl rfl rfl rfl rfl) ?_
  intro b29 w hm
  obtain ⟨F4, hu4, hm, hb29⟩ := hm.freeze
  refine VR.callG rfl rfl (r_call2 Try.call17 rfl rfl) (same_bytes_c hm (by unfold maxLen; omega) (hr6.mono hu4.heap) (Row.lit (cs := bytes [1, 2, 3, 4, 5]) (hb29 _ (.head _)))) ?_
  rintro _ w ⟨rfl, hm⟩
  refine VR.pure rfl rfl (p_pickT rfl rfl) ?_
  refine VR.pure rfl rfl (p_moveB rfl) ?_
  refine VR.knownT 32 rfl (decide_eq_true rfl) ?_
  refine VR.pureG rfl rfl (p_moveP rfl) ?_
  refine VR.callG rfl rfl (r_call1 Try.call24 rfl) (used_c hm.focus hD4) ?_
  rintro _ w ⟨rfl, hm'⟩
  replace hm := hm.unL hm'
  refine VR.pureG rfl rfl (p_eq rfl rfl) ?_
  refine VR.pure rfl rfl (p_pickT rfl rfl) ?_
  refine VR.pure rfl rfl (p_moveB rfl) ?_
  refine VR.knownT 37 rfl (decide_eq_true (by rw [e4]; rfl)) ?_
  refine VR.pureG rfl rfl (p_moveP rfl) ?_
  refine VR.newG hm rfl rfl (n_makeSlice (s := 1) (bytes := 1) Try.underlying22 inf5 rfl rfl rfl rfl rfl (by omega) (by omega)) ?_
  intro b39 w hm
  obtain ⟨F5, hu5, hm, hb39⟩ := hm.freeze
  have hb39' : F5.heap b39 = some (.cells (bytes [0, 0, 0, 0, 0, 0]).toArray 5 (0, 0)) := by
    rw [← made6]
    exact hb39 _ (.head _)
  refine VR.callG rfl rfl (r_call3 Try.call12 rfl rfl rfl) (append_c hm.focus hD4 (by decide) (by omega) ((Row.lit (cs := bytes [0, 0, 0, 0, 0, 0]) hb39').mono hm.leR)) ?_
  rintro _ w ⟨D5, rfl, ha5, hD5, hm'⟩
  replace hm := hm.unL hm'
  refine VR.pureG rfl rfl (p_eq rfl rfl) ?_
  refine VR.pure rfl rfl (p_pickT rfl rfl) ?_
  refine VR.pure rfl rfl (p_moveB rfl) ?_
  refine VR.knownT 43 rfl (decide_eq_true (by rw [e4, aw6])) ?_
  refine VR.pureG rfl rfl (p_moveP rfl) ?_
  have hl5 : D5.fs.length ≤ 1000000 := by
    have h := congrArg (fun d => d.fs.length) ha5
    rw [e4, aw6] at h
    have h2 : (D5.fs.map Fl.abs).length = 1 := h
    rw [List.length_map] at h2
    omega
  refine VR.callG rfl rfl (r_call1 Try.call20 rfl) (list_c hm.focus hD5 hl5) ?_
  rintro _ w ⟨A7, c7, L7, rfl, ho7, hm'⟩
  replace hm := hm.unL hm'
  refine VR.newG hm rfl rfl (n_buildSlice1 (vs := [.string _]) Try.underlying36 inf9 rfl rfl rfl rfl rfl rfl rfl) ?_
  intro b46 w hm
  obtain ⟨F6, hu6, hm, hb46⟩ := hm.freeze
  obtain ⟨F7, hu7, hm, hL7⟩ := (show Mem F6 w (L7 :: (dkB g m D5 ++ Ls)) from hm).freeze
  refine VR.callG rfl rfl (r_call2 Try.call19 rfl rfl) (same_texts_c hm (Nat.le_trans ho7.le.1 ho7.le.2) (ho7.row1 hL7) ((Row.lit (cs := texts [nA]) (hb46 _ (.head _))).mono hu7.heap)) ?_
  rintro _ w ⟨rfl, hm⟩
  refine VR.pure rfl rfl (p_pickT rfl rfl) ?_
  refine VR.pure rfl rfl (p_assignB rfl) ?_
  refine VR.nil ?_
  repeat (first | refine VC.seq ?_ | refine VC.block ?_ | refine VC.skip ?_)
  refine VC.ret ⟨_, ResOf.r1 (v := .bool _) rfl rfl, ?_⟩
  refine ⟨congrArg Value.bool (decide_eq_true ?_), (hm.subF (by simp)).shrink ((((((hu1.trans hu2).trans hu3).trans hu4).trans hu5).trans hu6).trans hu7)⟩
  rw [ha5, e4, aw6]
  exact sort1 nA
end Go.Bd
