/- SittingNumbers: times, timeouts and sessions at their ends, ends that fall together, and refusals are told as written by hand. Conditions: none. -/
import Derived.Test.Ytknmjfdemfknaaa17c
import Derived.Test.YtknmjfdemfknaaaOpen
namespace Go.Bd
open Go.Proofs Go.ChangeShapes Go.WideShapes
set_option linter.unusedVariables false
set_option maxRecDepth 20000

theorem sorted2 {x y : Int} (h : x ≤ y) : sortI [x, y] = [x, y] := sortI_is (List.Perm.refl _) (by simp [h])
set_option maxHeartbeats 4000000 in
theorem sitting_numbers_c {F : Env} {w : World} (hm : Mem F w []) : Calls Try.prog 4 #[] w (Ret fun v w' => v = .bool true ∧ Mem F w' []) := by
  refine Calls.of_vc Try.func4 rfl Try.ntmps4 rfl ?_
  repeat (first | refine VC.seq ?_ | refine VC.block ?_ | refine VC.skip ?_)
  refine VC.region ?_
  refine VR.pure rfl rfl (p_assignB rfl) ?_
  refine VR.nil ?_
  repeat (first | refine VC.seq ?_ | refine VC.block ?_ | refine VC.skip ?_)
  refine VC.region ?_
  refine VR.call rfl rfl (r_call1 Try.call9 rfl) (newK hm (c := 0) (by decide)) ?_
  rintro _ w ⟨g, m, B0, rfl, e0, hB0, hm⟩
  refine VR.pure rfl rfl (p_assignP rfl) ?_
  refine VR.nil ?_
  repeat (first | refine VC.seq ?_ | refine VC.block ?_ | refine VC.skip ?_)
  refine VC.region ?_
  refine VR.pure rfl rfl (p_moveP rfl) ?_
  refine VR.call rfl rfl (r_call3 Try.call11 rfl rfl rfl) (addK hm hB0 e0 (b' := ⟨0, []⟩) (c := 2) (by kernel_rfl)) ?_
  rintro _ w ⟨B1, rfl, e1, hB1, hm⟩
  refine VR.pure rfl rfl (p_ne rfl rfl) ?_
  refine VR.pure rfl rfl (p_moveB rfl) ?_
  refine VR.knownF 13 rfl (decide_eq_false (by decide)) ?_
  refine VR.pureG rfl rfl (p_moveP rfl) ?_
  refine VR.callG rfl rfl (r_call3 Try.call11 rfl rfl rfl) (addK hm hB1 e1 (b' := ⟨0, []⟩) (c := 2) (by kernel_rfl)) ?_
  rintro _ w ⟨B2, rfl, e2, hB2, hm⟩
  refine VR.pureG rfl rfl (p_ne rfl rfl) ?_
  refine VR.pure rfl rfl (p_pickF rfl rfl) ?_
  refine VR.pure rfl rfl (p_moveB rfl) ?_
  refine VR.knownF 18 rfl (decide_eq_false (by decide)) ?_
  refine VR.pureG rfl rfl (p_moveP rfl) ?_
  refine VR.callG rfl rfl (r_call3 Try.call11 rfl rfl rfl) (addK hm hB2 e2 (b' := ⟨0, []⟩) (c := 2) (by kernel_rfl)) ?_
  rintro _ w ⟨B3, rfl, e3, hB3, hm⟩
  refine VR.pureG rfl rfl (p_ne rfl rfl) ?_
  refine VR.pure rfl rfl (p_pickF rfl rfl) ?_
  refine VR.pure rfl rfl (p_moveB rfl) ?_
  refine VR.knownF 23 rfl (decide_eq_false (by decide)) ?_
  refine VR.pureG rfl rfl (p_moveP rfl) ?_
  refine VR.callG rfl rfl (r_call3 Try.call11 rfl rfl rfl) (addK hm hB3 e3 (b' := ⟨0, []⟩) (c := 2) (by kernel_rfl)) ?_
  rintro _ w ⟨B4, rfl, e4, hB4, hm⟩
  refine VR.pureG rfl rfl (p_ne rfl rfl) ?_
  refine VR.pure rfl rfl (p_pickF rfl rfl) ?_
  refine VR.pure rfl rfl (p_moveB rfl) ?_
  refine VR.knownF 28 rfl (decide_eq_false (by decide)) ?_
  refine VR.pureG rfl rfl (p_moveP rfl) ?_
  refine VR.callG rfl rfl (r_call3 Try.call11 rfl rfl rfl) (addK hm hB4 e4 (b' := ⟨0, [(1, 1, 4)]⟩) (c := 0) (by kernel_rfl)) ?_
  rintro _ w ⟨B5, rfl, e5, hB5, hm⟩
  refine VR.pureG rfl rfl (p_ne rfl rfl) ?_
  refine VR.pure rfl rfl (p_pickF rfl rfl) ?_
  refine VR.pure rfl rfl (p_moveB rfl) ?_
  refine VR.knownF 33 rfl (decide_eq_false (by decide)) ?_
  refine VR.pureG rfl rfl (p_moveP rfl) ?_
  refine VR.callG rfl rfl (r_call3 Try.call11 rfl rfl rfl) (addK hm hB5 e5 (b' := ⟨0, [(1, 1, 4), (9223372036854775807, 4, 4)]⟩) (c := 0) (by kernel_rfl)) ?_
  rintro _ w ⟨B6, rfl, e6, hB6, hm⟩
  refine VR.pureG rfl rfl (p_ne rfl rfl) ?_
  refine VR.pure rfl rfl (p_pickF rfl rfl) ?_
  refine VR.pure rfl rfl (p_moveB rfl) ?_
  refine VR.knownF 38 rfl (decide_eq_false (by decide)) ?_
  refine VR.pureG rfl rfl (p_moveP rfl) ?_
  refine VR.callG rfl rfl (r_call3 Try.call11 rfl rfl rfl) (addK hm hB6 e6 (b' := ⟨0, [(1, 1, 4), (9223372036854775807, 4, 4), (5, 5, 8)]⟩) (c := 0) (by kernel_rfl)) ?_
  rintro _ w ⟨B7, rfl, e7, hB7, hm⟩
  refine VR.pureG rfl rfl (p_ne rfl rfl) ?_
  refine VR.pure rfl rfl (p_pickF rfl rfl) ?_
  refine VR.pure rfl rfl (p_moveB rfl) ?_
  refine VR.knownF 43 rfl (decide_eq_false (by decide)) ?_
  refine VR.pureG rfl rfl (p_moveP rfl) ?_
  refine VR.callG rfl rfl (r_call3 Try.call11 rfl rfl rfl) (addK hm hB7 e7 (b' := ⟨0, [(1, 1, 4), (9223372036854775807, 4, 4), (5, 5, 8), (9, 1000, 1000)]⟩) (c := 0) (by kernel_rfl)) ?_
  rintro _ w ⟨B8, rfl, e8, hB8, hm⟩
  refine VR.pureG rfl rfl (p_ne rfl rfl) ?_
  refine VR.pure rfl rfl (p_pickF rfl rfl) ?_
  refine VR.nil ?_
  repeat (first | refine VC.seq ?_ | refine VC.block ?_ | refine VC.skip ?_)
  refine VC.condF rfl (decide_eq_false (by decide)) ?_
  repeat (first | refine VC.seq ?_ | refine VC.block ?_ | refine VC.skip ?_)
  refine VC.region ?_
  refine VR.pure rfl rfl (p_moveP rfl) ?_
  refine VR.call rfl rfl (r_call2 Try.call14 rfl rfl) (tickK hm hB8 e8 (by decide) sorted0 (b' := ⟨3, [(1, 1, 4), (9223372036854775807, 4, 4), (5, 5, 8), (9, 1000, 1000)]⟩) (by kernel_rfl)) ?_
  rintro _ w ⟨A9, d9, F9, B9, rfl, _, _, hu9, hr9, e9, hB9, hm⟩
  refine VR.pure rfl rfl (p_len Try.underlying33 rfl) ?_
  refine VR.pure rfl rfl (p_ne rfl rfl) ?_
  refine VR.pure rfl rfl (p_moveB rfl) ?_
  refine VR.knownF 52 rfl (decide_eq_false (by decide)) ?_
  refine VR.pureG rfl rfl (p_moveP rfl) ?_
  refine VR.callG rfl rfl (r_call2 Try.call14 rfl rfl) (tickK hm hB9 e9 (by decide) sorted0 (b' := ⟨3, [(1, 1, 4), (9223372036854775807, 4, 4), (5, 5, 8), (9, 1000, 1000)]⟩) (by kernel_rfl)) ?_
  rintro _ w ⟨A10, d10, F10, B10, rfl, _, _, hu10, hr10, e10, hB10, hm⟩
  refine VR.pureG rfl rfl (p_len Try.underlying33 rfl) ?_
  refine VR.pureG rfl rfl (p_ne rfl rfl) ?_
  refine VR.pure rfl rfl (p_pickF rfl rfl) ?_
  refine VR.pure rfl rfl (p_moveB rfl) ?_
  refine VR.knownF 58 rfl (decide_eq_false (by decide)) ?_
  refine VR.pureG rfl rfl (p_moveP rfl) ?_
  refine VR.callG rfl rfl (r_call2 Try.call14 rfl rfl) (tickK hm hB10 e10 (by decide) sorted0 (b' := ⟨3, [(1, 1, 4), (9223372036854775807, 4, 4), (5, 5, 8), (9, 1000, 1000)]⟩) (by kernel_rfl)) ?_
  rintro _ w ⟨A11, d11, F11, B11, rfl, _, _, hu11, hr11, e11, hB11, hm⟩
  refine VR.pureG rfl rfl (p_len Try.underlying33 rfl) ?_
  refine VR.pureG rfl rfl (p_ne rfl rfl) ?_
  refine VR.pure rfl rfl (p_pickF rfl rfl) ?_
  refine VR.pure rfl rfl (p_moveB rfl) ?_
  refine VR.knownF 64 rfl (decide_eq_false (by decide)) ?_
  refine VR.pureG rfl rfl (p_moveP rfl) ?_
  refine VR.callG rfl rfl (r_call2 Try.call14 rfl rfl) (tickK hm hB11 e11 (by decide) (sorted2 (x := 1) (y := 9223372036854775807) (by decide)) (b' := ⟨4, [(5, 5, 8), (9, 1000, 1000)]⟩) (by kernel_rfl)) ?_
  rintro _ w ⟨A12, d12, F12, B12, rfl, _, _, hu12, hr12, e12, hB12, hm⟩
  refine VR.newG hm rfl rfl (n_buildSlice1 (vs := [.int _ _, .int _ _]) Try.underlying33 inf2 rfl rfl rfl rfl rfl rfl rfl) ?_
  intro b67 w hm
  obtain ⟨F13, hu13, hm, hb67⟩ := hm.freeze
  refine VR.callG rfl rfl (r_call2 Try.call15 rfl rfl) (same_longs_c hm (by decide) (hr12.mono hu13.heap) (Row.lit (cs := longs [1, 9223372036854775807]) (hb67 _ (.head _)))) ?_
  rintro _ w ⟨rfl, hm⟩
  refine VR.pureG rfl rfl (p_not rfl) ?_
  refine VR.pure rfl rfl (p_pickF rfl rfl) ?_
  refine VR.pure rfl rfl (p_moveB rfl) ?_
  refine VR.knownF 71 rfl (by rw [decide_eq_true rfl]; rfl) ?_
  refine VR.pureG rfl rfl (p_moveP rfl) ?_
  refine VR.callG rfl rfl (r_call2 Try.call14 rfl rfl) (tickK hm hB12 e12 (by decide) sorted0 (b' := ⟨4, [(5, 5, 8), (9, 1000, 1000)]⟩) (by kernel_rfl)) ?_
  rintro _ w ⟨A14, d14, F14, B14, rfl, _, _, hu14, hr14, e14, hB14, hm⟩
  refine VR.callG rfl rfl (r_call2 Try.call15 rfl rfl) (same_longs_c (ys := []) hm (by decide) hr14 (Row.nil _)) ?_
  rintro _ w ⟨rfl, hm⟩
  refine VR.pureG rfl rfl (p_not rfl) ?_
  refine VR.pure rfl rfl (p_pickF rfl rfl) ?_
  refine VR.pure rfl rfl (p_moveB rfl) ?_
  refine VR.knownF 77 rfl (by rw [decide_eq_true rfl]; rfl) ?_
  refine VR.pureG rfl rfl (p_moveP rfl) ?_
  refine VR.callG rfl rfl (r_call2 Try.call14 rfl rfl) (tickK hm hB14 e14 (by decide) (sorted1 5) (b' := ⟨8, [(9, 1000, 1000)]⟩) (by kernel_rfl)) ?_
  rintro _ w ⟨A15, d15, F15, B15, rfl, _, _, hu15, hr15, e15, hB15, hm⟩
  refine VR.newG hm rfl rfl (n_buildSlice1 (vs := [.int _ _]) Try.underlying33 inf2 rfl rfl rfl rfl rfl rfl rfl) ?_
  intro b80 w hm
  obtain ⟨F16, hu16, hm, hb80⟩ := hm.freeze
  refine VR.callG rfl rfl (r_call2 Try.call15 rfl rfl) (same_longs_c hm (by decide) (hr15.mono hu16.heap) (Row.lit (cs := longs [5]) (hb80 _ (.head _)))) ?_
  rintro _ w ⟨rfl, hm⟩
  refine VR.pureG rfl rfl (p_not rfl) ?_
  refine VR.pure rfl rfl (p_pickF rfl rfl) ?_
  refine VR.pure rfl rfl (p_moveB rfl) ?_
  refine VR.knownF 84 rfl (by rw [decide_eq_true rfl]; rfl) ?_
  refine VR.pureG rfl rfl (p_moveP rfl) ?_
  refine VR.callG rfl rfl (r_call1 Try.call16 rfl) (allK hm hB15 e15 (by decide) (sorted1 9)) ?_
  rintro _ w ⟨A17, d17, F17, rfl, _, _, hu17, hr17, hm⟩
  refine VR.newG hm rfl rfl (n_buildSlice1 (vs := [.int _ _]) Try.underlying33 inf2 rfl rfl rfl rfl rfl rfl rfl) ?_
  intro b87 w hm
  obtain ⟨F18, hu18, hm, hb87⟩ := hm.freeze
  refine VR.callG rfl rfl (r_call2 Try.call15 rfl rfl) (same_longs_c hm (by decide) (hr17.mono hu18.heap) (Row.lit (cs := longs [9]) (hb87 _ (.head _)))) ?_
  rintro _ w ⟨rfl, hm⟩
  refine VR.pureG rfl rfl (p_not rfl) ?_
  refine VR.pure rfl rfl (p_pickF rfl rfl) ?_
  refine VR.nil ?_
  repeat (first | refine VC.seq ?_ | refine VC.block ?_ | refine VC.skip ?_)
  refine VC.condF rfl (by rw [decide_eq_true rfl]; rfl) ?_
  have hv1 := ((((((((hu9.trans hu10).trans hu11).trans hu12).trans hu13).trans hu14).trans hu15).trans hu16).trans hu17).trans hu18
  repeat (first | refine VC.seq ?_ | refine VC.block ?_ | refine VC.skip ?_)
  refine VC.region ?_
  refine VR.call rfl rfl (r_call1 Try.call9 rfl) (newK hm (c := 1152921504606846976) (by decide)) ?_
  rintro _ w ⟨g2, m2, C0, rfl, c0, hC0, hm⟩
  refine VR.pure rfl rfl (p_assignP rfl) ?_
  refine VR.nil ?_
  repeat (first | refine VC.seq ?_ | refine VC.block ?_ | refine VC.skip ?_)
  refine VC.region ?_
  refine VR.pure rfl rfl (p_moveP rfl) ?_
  refine VR.call rfl rfl (r_call3 Try.call11 rfl rfl rfl) (addK hm hC0 c0 (b' := ⟨1152921504606846976, [(3, 1, 1152921504606846980)]⟩) (c := 0) (by kernel_rfl)) ?_
  rintro _ w ⟨C1, rfl, c1, hC1, hm⟩
  refine VR.nil ?_
  repeat (first | refine VC.seq ?_ | refine VC.block ?_ | refine VC.skip ?_)
  refine VC.region ?_
  refine VR.pure rfl rfl (p_moveP rfl) ?_
  refine VR.call rfl rfl (r_call2 Try.call14 rfl rfl) (tickK hm hC1 c1 (by decide) sorted0 (b' := ⟨1152921504606846976, [(3, 1, 1152921504606846980)]⟩) (by kernel_rfl)) ?_
  rintro _ w ⟨A20, d20, F20, C2, rfl, _, _, hu20, hr20, c2, hC2, hm⟩
  refine VR.pure rfl rfl (p_assignL rfl) ?_
  refine VR.nil ?_
  repeat (first | refine VC.seq ?_ | refine VC.block ?_ | refine VC.skip ?_)
  refine VC.region ?_
  refine VR.call rfl rfl (r_call1 Try.call9 rfl) (newK hm (c := 1152921504606846968) (by decide)) ?_
  rintro _ w ⟨g3, m3, D0, rfl, d0, hD0, hm⟩
  refine VR.pure rfl rfl (p_assignP rfl) ?_
  refine VR.nil ?_
  repeat (first | refine VC.seq ?_ | refine VC.block ?_ | refine VC.skip ?_)
  refine VC.region ?_
  refine VR.pure rfl rfl (p_moveP rfl) ?_
  refine VR.call rfl rfl (r_call3 Try.call11 rfl rfl rfl) (addK hm hD0 d0 (b' := ⟨1152921504606846968, [(3, 8, 1152921504606846976)]⟩) (c := 0) (by kernel_rfl)) ?_
  rintro _ w ⟨D1, rfl, d1, hD1, hm⟩
  refine VR.nil ?_
  repeat (first | refine VC.seq ?_ | refine VC.block ?_ | refine VC.skip ?_)
  refine VC.region ?_
  refine VR.pure rfl rfl (p_moveP rfl) ?_
  refine VR.call rfl rfl (r_call3 Try.call11 rfl rfl rfl) (addK hm hD1 d1 (b' := ⟨1152921504606846968, [(3, 8, 1152921504606846976), (4, 9, 1152921504606846980)]⟩) (c := 0) (by kernel_rfl)) ?_
  rintro _ w ⟨D2, rfl, d2, hD2, hm⟩
  refine VR.nil ?_
  repeat (first | refine VC.seq ?_ | refine VC.block ?_ | refine VC.skip ?_)
  refine VC.region ?_
  refine VR.pure rfl rfl (p_moveP rfl) ?_
  refine VR.call rfl rfl (r_call2 Try.call14 rfl rfl) (tickK hm hD2 d2 (by decide) (sorted1 3) (b' := ⟨1152921504606846976, [(4, 9, 1152921504606846980)]⟩) (by kernel_rfl)) ?_
  rintro _ w ⟨A21, e21, F21, D3, rfl, _, _, hu21, hr21, d3, hD3, hm⟩
  refine VR.pure rfl rfl (p_assignL rfl) ?_
  refine VR.nil ?_
  repeat (first | refine VC.seq ?_ | refine VC.block ?_ | refine VC.skip ?_)
  refine VC.region ?_
  refine VR.call rfl rfl (r_call1 Try.call9 rfl) (newK hm (c := 10) (by decide)) ?_
  rintro _ w ⟨g4, m4, E0, rfl, f0, hE0, hm⟩
  refine VR.pure rfl rfl (p_assignP rfl) ?_
  refine VR.nil ?_
  repeat (first | refine VC.seq ?_ | refine VC.block ?_ | refine VC.skip ?_)
  refine VC.region ?_
  refine VR.pure rfl rfl (p_moveP rfl) ?_
  refine VR.call rfl rfl (r_call3 Try.call11 rfl rfl rfl) (addK hm hE0 f0 (b' := ⟨10, [(2, 4, 16)]⟩) (c := 0) (by kernel_rfl)) ?_
  rintro _ w ⟨E1, rfl, f1, hE1, hm⟩
  refine VR.nil ?_
  repeat (first | refine VC.seq ?_ | refine VC.block ?_ | refine VC.skip ?_)
  refine VC.region ?_
  refine VR.pure rfl rfl (p_moveP rfl) ?_
  refine VR.call rfl rfl (r_call3 Try.call11 rfl rfl rfl) (addK hm hE1 f1 (b' := ⟨10, [(2, 9, 20)]⟩) (c := 0) (by kernel_rfl)) ?_
  rintro _ w ⟨E2, rfl, f2, hE2, hm⟩
  refine VR.nil ?_
  repeat (first | refine VC.seq ?_ | refine VC.block ?_ | refine VC.skip ?_)
  refine VC.region ?_
  refine VR.pure rfl rfl (p_moveP rfl) ?_
  refine VR.call rfl rfl (r_call2 Try.call14 rfl rfl) (tickK hm hE2 f2 (by decide) sorted0 (b' := ⟨16, [(2, 9, 20)]⟩) (by kernel_rfl)) ?_
  rintro _ w ⟨A22, e22, F22, E3, rfl, _, _, hu22, hr22, f3, hE3, hm⟩
  refine VR.pure rfl rfl (p_assignL rfl) ?_
  refine VR.nil ?_
  repeat (first | refine VC.seq ?_ | refine VC.block ?_ | refine VC.skip ?_)
  refine VC.region ?_
  refine VR.pure rfl rfl (p_moveP rfl) ?_
  refine VR.call rfl rfl (r_call2 Try.call14 rfl rfl) (tickK hm hE3 f3 (by decide) (sorted1 2) (b' := ⟨20, []⟩) (by kernel_rfl)) ?_
  rintro _ w ⟨A23, e23, F23, E4, rfl, _, _, hu23, hr23, f4, hE4, hm⟩
  refine VR.pure rfl rfl (p_assignL rfl) ?_
  refine VR.nil ?_
  repeat (first | refine VC.seq ?_ | refine VC.block ?_ | refine VC.skip ?_)
  refine VC.region ?_
  refine VR.pure rfl rfl (p_moveL rfl) ?_
  refine VR.pure rfl rfl (p_len Try.underlying33 rfl) ?_
  refine VR.pure rfl rfl (p_eq rfl rfl) ?_
  refine VR.pure rfl rfl (p_moveB rfl) ?_
  refine VR.knownT 115 rfl (decide_eq_true rfl) ?_
  refine VR.pureG rfl rfl (p_moveL rfl) ?_
  refine VR.newG hm rfl rfl (n_buildSlice1 (vs := [.int _ _]) Try.underlying33 inf2 rfl rfl rfl rfl rfl rfl rfl) ?_
  intro b117 w hm
  obtain ⟨F24, hu24, hm, hb117⟩ := hm.freeze
  refine VR.callG rfl rfl (r_call2 Try.call15 rfl rfl) (same_longs_c hm (by decide) (((hr21.mono hu22.heap).mono hu23.heap).mono hu24.heap) (Row.lit (cs := longs [3]) (hb117 _ (.head _)))) ?_
  rintro _ w ⟨rfl, hm⟩
  refine VR.pure rfl rfl (p_pickT rfl rfl) ?_
  refine VR.pure rfl rfl (p_moveB rfl) ?_
  refine VR.knownT 120 rfl (decide_eq_true rfl) ?_
  refine VR.pureG rfl rfl (p_moveL rfl) ?_
  refine VR.pureG rfl rfl (p_len Try.underlying33 rfl) ?_
  refine VR.pureG rfl rfl (p_eq rfl rfl) ?_
  refine VR.pure rfl rfl (p_pickT rfl rfl) ?_
  refine VR.pure rfl rfl (p_moveB rfl) ?_
  refine VR.knownT 125 rfl (decide_eq_true rfl) ?_
  refine VR.pureG rfl rfl (p_moveL rfl) ?_
  refine VR.newG hm rfl rfl (n_buildSlice1 (vs := [.int _ _]) Try.underlying33 inf2 rfl rfl rfl rfl rfl rfl rfl) ?_
  intro b127 w hm
  obtain ⟨F25, hu25, hm, hb127⟩ := hm.freeze
  refine VR.callG rfl rfl (r_call2 Try.call15 rfl rfl) (same_longs_c hm (by decide) ((hr23.mono hu24.heap).mono hu25.heap) (Row.lit (cs := longs [2]) (hb127 _ (.head _)))) ?_
  rintro _ w ⟨rfl, hm⟩
  refine VR.pure rfl rfl (p_pickT rfl rfl) ?_
  refine VR.knownT 129 rfl (decide_eq_true rfl) ?_
  refine VR.pure rfl rfl (p_moveB rfl) ?_
  refine VR.pure rfl rfl (p_pickT rfl rfl) ?_
  refine VR.pure rfl rfl (p_moveB rfl) ?_
  refine VR.knownT 132 rfl rfl ?_
  refine VR.callG rfl rfl (r_call0 Try.call8) (awake_c hm) ?_
  rintro _ w ⟨rfl, hm⟩
  refine VR.pure rfl rfl (p_pickT rfl rfl) ?_
  refine VR.pure rfl rfl (p_assignB rfl) ?_
  refine VR.nil ?_
  repeat (first | refine VC.seq ?_ | refine VC.block ?_ | refine VC.skip ?_)
  refine VC.ret ⟨_, ResOf.r1 (v := .bool _) rfl rfl, ?_⟩
  exact ⟨rfl, (hm.subF (by simp)).shrink ((((((hv1.trans hu20).trans hu21).trans hu22).trans hu23).trans hu24).trans hu25)⟩
end Go.Bd
namespace Go.Proofs.Ytknmjfdemfknaaa
open Go.Bd Go.ChangeShapes Go.WideShapes

set_option maxRecDepth 100000 in
theorem numbers_lifted (os : Os) (started : os.Started) (H : Type) (enc : TypeId × Value → H) :
    ReturnsInHanded {} Try.checked os 4 .any (Rows.sittingNumbersSpec.pre6 enc Try.prog Try.f4 Rows.sittingNumbersRow.domain false) (Rows.sittingNumbersSpec.post enc Try.prog Try.f4 false true false false) := by
  refine law_frame (C := Try.checked) (tb := 4) (by kernel_rfl) (by kernel_rfl) started (by kernel_rfl) Try.func4 rfl rfl Try.underlying4 (by kernel_rfl) ?_
    (ChangeSpec.witness6 (enc := enc) (C := Try.checked) false ⟨#[], #[], []⟩ 8 (by kernel_rfl) (by kernel_rfl) (by kernel_rfl) (by kernel_rfl)) ?_
  · intro ds hl
    match ds, hl with
    | [], _ => rfl
  · intro W base args ds p hval hA hwt
    replace hA : DataW.TrodAll enc Try.prog W 0 (fun _ => true) true Try.f4.params.toList args.toList ds p := hA
    rw [Try.params4] at hA hval
    replace hwt : (DataW.weightsEach Try.prog [] ds).all (· ≤ reachBytes) = true := hwt
    obtain ⟨hargs, rfl, rfl⟩ := trodAll_nil hA
    obtain rfl : args = #[] := by cases args; simp_all
    exact sitting_numbers_c (Mem.of W)

theorem numbers : Rows.SittingNumbersSaid :=
  OpenClaim.holds_of_wide 4 Try.f4 rfl rfl rfl rfl rfl rfl rfl ⟨rfl, rfl, rfl, rfl, rfl⟩ rfl rfl rfl rfl rfl (by kernel_rfl) Try.func4 (by kernel_rfl)
    (of_decide_eq_true (by kernel_rfl)) (by unfold Func.isWrapper; rw [if_neg (of_decide_eq_false (by kernel_rfl))]; exact ⟨rfl, rfl⟩)
    (fun os started H enc _ => numbers_lifted os started H enc)
end Go.Proofs.Ytknmjfdemfknaaa
