/- Contracts of layer 23: a table comes to rule, and commits. Conditions: as each states. -/
import Derived.Test.Ytjnplhmhkindpaa23z
namespace Go.Bd
open Go.Proofs
set_option linter.unusedVariables false
set_option maxRecDepth 20000

def w0 : Ta := onA (newA 1 3 2 7 [(0, m123)] (tdN 1 3))
def w1 : Ta := infoA w0 2 5
def w2 : Ta := promA w1 2
def w3 : Ta := ackA w2 1
def w4 : Ta := ackA w3 2
def w5 : Ta := propA w4
def w6 : Ta := ackZ w5 1 25769803777
def w7 : Ta := ackZ w6 3 25769803777
theorem three_ok {es : List En} (h : es.map En.abs = [(0, m123)]) : NewOk 1 3 2 7 es := by
  have hl : es.length = 1 := by
    have := congrArg List.length h
    rwa [List.length_map] at this
  refine ⟨by decide, by decide, by decide, ⟨by decide, by decide, by decide⟩, by omega, fun e he => ?_, fun i a b _ hb => ?_⟩
  · have h1 : e.abs ∈ es.map En.abs := List.mem_map_of_mem he
    rw [h, List.mem_singleton] at h1
    have h2 : e.ver = 0 := congrArg Prod.fst h1
    have h3 : e.ms = m123 := congrArg Prod.snd h1
    rw [h2, h3]
    decide
  · have := (List.getElem?_eq_some_iff.1 hb).1
    omega
theorem one_small7 {H : Nat → Option Obj} {T : Tb} (hT : TOk H T) (h : T.es.map En.abs = [(0, m123)]) : ∀ e ∈ T.es, e.n * 32 ≤ 140737488355328 := fun e he => by
  have h1 : e.abs ∈ T.es.map En.abs := List.mem_map_of_mem he
  rw [h, List.mem_singleton] at h1
  have h3 : e.ms = m123 := congrArg Prod.snd h1
  have h4 := (hT.row.each e he).1.len
  rw [h3] at h4
  have h5 : m123.length = 3 := rfl
  omega
section
variable {F : Env} {w : World} {Ls : List Blks}
set_option maxHeartbeats 4000000 in
theorem awake_c (hm : Mem F w []) : Calls Try.prog 5 #[] w (Ret fun v w' => v = .bool true ∧ Mem F w' []) := by
  have k0 : w0.stage = 1 := by kernel_rfl
  have k1 : w1.stage = 2 ∧ w1.ep = 6 ∧ w1.cur = 2 ∧ w1.last = 7 := ⟨by kernel_rfl, by kernel_rfl, by kernel_rfl, by kernel_rfl⟩
  have k2 : w2.stage = 3 := by kernel_rfl
  have k3 : w3.stage = 3 := by kernel_rfl
  have k4 : w4.stage = 4 ∧ w4.ep = 6 ∧ w4.prop = 0 := ⟨by kernel_rfl, by kernel_rfl, by kernel_rfl⟩
  have k6 : w6.stage = 4 ∧ w6.ep = 6 ∧ w6.prop = 1 ∧ w6.com = 7 := ⟨by kernel_rfl, by kernel_rfl, by kernel_rfl, by kernel_rfl⟩
  have k7 : w7.com = 25769803777 ∧ w7.es = [(0, m123)] := ⟨by kernel_rfl, by kernel_rfl⟩
  refine Calls.of_vc Try.func5 rfl Try.ntmps5 rfl ?_
  repeat (first | refine VC.seq ?_ | refine VC.block ?_ | refine VC.skip ?_)
  refine VC.region ?_
  refine VR.pure rfl rfl (p_assignB rfl) ?_
  refine VR.nil ?_
  repeat (first | refine VC.seq ?_ | refine VC.block ?_ | refine VC.skip ?_)
  refine VC.region ?_
  refine VR.call rfl rfl (r_call0 Try.call21) (three_c hm) ?_
  rintro _ w ⟨q1, es, G1, rfl, hu1, hr, ha, hs, hm⟩
  refine VR.call rfl rfl (r_call5 Try.call6 rfl rfl rfl rfl rfl) (new_c (id := 1) (acc := 3) (cur := 2) (last := 7) hm hr (by decide) hs) ?_
  rintro v4 w hnew
  obtain ⟨g, T0, G2, rfl, hu2, hT0, hab0, hm⟩ := (hnew.resolve_right (fun h => h.1 (three_ok ha))).2
  refine VR.pure rfl rfl (p_assignP rfl) ?_
  refine VR.nil ?_
  have hI0 : AInv T0.abs := by
    rw [hab0]
    exact (AInv.new (three_ok ha)).on
  have hw0 : T0.abs = w0 := by
    rw [hab0, ha]
    rfl
  clear hnew
  have s0 : T0.stage = 1 := (congrArg Ta.stage hw0).trans k0
  repeat (first | refine VC.seq ?_ | refine VC.block ?_ | refine VC.skip ?_)
  refine VC.region ?_
  refine VR.pure rfl rfl (p_moveP rfl) ?_
  refine VR.pure rfl rfl (p_eqNilP Try.underlying29 rfl) ?_
  refine VR.pure rfl rfl (p_moveB rfl) ?_
  refine VR.knownF 7 rfl rfl ?_
  refine VR.pureG rfl rfl (p_moveP rfl) ?_
  refine VR.callG rfl rfl (r_call1 Try.call9 rfl) (stage_c (T := T0) hm.all (hm.plus_at 0 0 rfl)) ?_
  rintro _ w ⟨rfl, hm'⟩
  replace hm := hm.back0 hm'
  refine VR.pureG rfl rfl (p_ne rfl rfl) ?_
  refine VR.pure rfl rfl (p_pickF rfl rfl) ?_
  refine VR.pure rfl rfl (p_moveB rfl) ?_
  refine VR.knownF 12 rfl (decide_eq_false (not_not_intro s0)) ?_
  refine VR.pureG rfl rfl (p_moveP rfl) ?_
  refine VR.callG rfl rfl (r_call3 Try.call8 rfl rfl rfl) (info_c hm hT0 hI0) ?_
  rintro _ w ⟨T1, rfl, hab1, hT1, hm⟩
  have hw1 : T1.abs = w1 := by rw [hab1, hw0]; rfl
  have s1 : T1.stage = 2 := (congrArg Ta.stage hw1).trans k1.1
  have p1 : T1.ep = 6 := (congrArg Ta.ep hw1).trans k1.2.1
  have c1 : T1.cur = 2 := (congrArg Ta.cur hw1).trans k1.2.2.1
  have l1 : T1.last = 7 := (congrArg Ta.last hw1).trans k1.2.2.2
  have hI1 : AInv T1.abs := by rw [hab1]; exact hI0.info 2 5
  refine VR.pureG rfl rfl (p_ne rfl rfl) ?_
  refine VR.pure rfl rfl (p_pickF rfl rfl) ?_
  refine VR.pure rfl rfl (p_moveB rfl) ?_
  refine VR.knownF 17 rfl (decide_eq_false (not_not_intro s1)) ?_
  refine VR.pureG rfl rfl (p_moveP rfl) ?_
  refine VR.callG rfl rfl (r_call1 Try.call10 rfl) (epochT_c (T := T1) hm.all (hm.plus_at 0 0 rfl)) ?_
  rintro _ w ⟨rfl, hm'⟩
  replace hm := hm.back0 hm'
  refine VR.pureG rfl rfl (p_ne rfl rfl) ?_
  refine VR.pure rfl rfl (p_pickF rfl rfl) ?_
  refine VR.pure rfl rfl (p_moveB rfl) ?_
  refine VR.knownF 22 rfl (decide_eq_false (not_not_intro p1)) ?_
  refine VR.pureG rfl rfl (p_moveP rfl) ?_
  refine VR.callG rfl rfl (r_call5 Try.call11 rfl rfl rfl rfl rfl) (prom_c (cu := 2) (la := 7) hm hT1 hI1 (by omega)) ?_
  rintro _ w ⟨T2, rfl, hab2, hT2, hm⟩
  have hw2 : T2.abs = w2 := by rw [hab2, hw1]; rfl
  have s2 : T2.stage = 3 := (congrArg Ta.stage hw2).trans k2
  have hI2 : AInv T2.abs := by rw [hab2]; exact hI1.prom 2
  refine VR.pureG rfl rfl (p_ne rfl rfl) ?_
  refine VR.pure rfl rfl (p_pickF rfl rfl) ?_
  refine VR.pure rfl rfl (p_moveB rfl) ?_
  refine VR.knownF 27 rfl (decide_eq_false (not_not_intro s2)) ?_
  refine VR.pureG rfl rfl (p_moveP rfl) ?_
  refine VR.callG rfl rfl (r_call2 Try.call12 rfl rfl) (ackNew_c hm hT2 hI2) ?_
  rintro _ w ⟨T3, rfl, hab3, hT3, hm⟩
  have hw3 : T3.abs = w3 := by rw [hab3, hw2]; rfl
  have s3 : T3.stage = 3 := (congrArg Ta.stage hw3).trans k3
  have hI3 : AInv T3.abs := by rw [hab3]; exact hI2.ackN 1
  refine VR.pureG rfl rfl (p_ne rfl rfl) ?_
  refine VR.pure rfl rfl (p_pickF rfl rfl) ?_
  refine VR.pure rfl rfl (p_moveB rfl) ?_
  refine VR.knownF 32 rfl (decide_eq_false (not_not_intro s3)) ?_
  refine VR.pureG rfl rfl (p_moveP rfl) ?_
  refine VR.callG rfl rfl (r_call2 Try.call12 rfl rfl) (ackNew_c hm hT3 hI3) ?_
  rintro _ w ⟨T4, rfl, hab4, hT4, hm⟩
  refine VR.pureG rfl rfl (p_ne rfl rfl) ?_
  refine VR.pure rfl rfl (p_pickF rfl rfl) ?_
  refine VR.nil ?_
  have hw4 : T4.abs = w4 := by rw [hab4, hw3]; rfl
  have s4 : T4.stage = 4 := (congrArg Ta.stage hw4).trans k4.1
  have p4 : T4.ep = 6 := (congrArg Ta.ep hw4).trans k4.2.1
  have r4 : T4.prop = 0 := (congrArg Ta.prop hw4).trans k4.2.2
  have hI4 : AInv T4.abs := by rw [hab4]; exact hI3.ackN 2
  repeat (first | refine VC.seq ?_ | refine VC.block ?_ | refine VC.skip ?_)
  refine VC.condF rfl (decide_eq_false (not_not_intro s4)) ?_
  repeat (first | refine VC.seq ?_ | refine VC.block ?_ | refine VC.skip ?_)
  refine VC.region ?_
  refine VR.pure rfl rfl (p_moveP rfl) ?_
  refine VR.call rfl rfl (r_call1 Try.call14 rfl) (next_c (T := T4) hm.all (hm.plus_at 0 0 rfl) hI4 s4) ?_
  rintro _ w ⟨rfl, hm'⟩
  replace hm := hm.back0 hm'
  refine VR.pure rfl rfl (p_assignI rfl) ?_
  refine VR.nil ?_
  have hz : T4.ep * 4294967296 + (T4.prop + 1) = 25769803777 := by omega
  repeat (first | refine VC.seq ?_ | refine VC.block ?_ | refine VC.skip ?_)
  refine VC.region ?_
  refine VR.pure rfl rfl (p_moveI rfl) ?_
  refine VR.pure rfl rfl (p_eq rfl rfl) ?_
  refine VR.pure rfl rfl (p_moveB rfl) ?_
  refine VR.knownT 41 rfl (decide_eq_true hz) ?_
  refine VR.pureG rfl rfl (p_moveP rfl) ?_
  refine VR.pureG rfl rfl (p_moveI rfl) ?_
  refine VR.callG rfl rfl (r_call2 Try.call15 rfl rfl) (propose_c hm hT4 hI4 s4 r4 (by omega)) ?_
  rintro _ w ⟨T5, rfl, hab5, hT5, hm⟩
  have hw5 : T5.abs = w5 := by rw [hab5, hw4]; rfl
  have s5 : T5.stage = 4 := (congrArg Ta.stage hw5).trans (by kernel_rfl)
  have p5 : T5.ep = 6 := (congrArg Ta.ep hw5).trans (by kernel_rfl)
  have r5 : T5.prop = 1 := (congrArg Ta.prop hw5).trans (by kernel_rfl)
  have hI5 : AInv T5.abs := by rw [hab5]; exact hI4.propose
  refine VR.pureG rfl rfl (p_eq rfl rfl) ?_
  refine VR.pure rfl rfl (p_pickT rfl rfl) ?_
  refine VR.pure rfl rfl (p_moveB rfl) ?_
  refine VR.knownT 47 rfl rfl ?_
  refine VR.pureG rfl rfl (p_moveP rfl) ?_
  refine VR.pureG rfl rfl (p_moveI rfl) ?_
  refine VR.callG rfl rfl (r_call3 Try.call17 rfl rfl rfl) (ack_c hm hT5 hI5 s5 r5 (by omega) (by decide)) ?_
  rintro _ w ⟨T6, rfl, hab6, hT6, hm⟩
  have hw6 : T6.abs = w6 := by rw [hab6, hw5, hz]; rfl
  have s6 : T6.stage = 4 := (congrArg Ta.stage hw6).trans k6.1
  have p6 : T6.ep = 6 := (congrArg Ta.ep hw6).trans k6.2.1
  have r6 : T6.prop = 1 := (congrArg Ta.prop hw6).trans k6.2.2.1
  have m6 : T6.com = 7 := (congrArg Ta.com hw6).trans k6.2.2.2
  have hI6 : AInv T6.abs := by rw [hab6]; exact hI5.ackZ _ _
  refine VR.pureG rfl rfl (p_eq rfl rfl) ?_
  refine VR.pure rfl rfl (p_pickT rfl rfl) ?_
  refine VR.pure rfl rfl (p_moveB rfl) ?_
  refine VR.knownT 53 rfl (decide_eq_true m6) ?_
  refine VR.pureG rfl rfl (p_moveP rfl) ?_
  refine VR.pureG rfl rfl (p_moveI rfl) ?_
  refine VR.callG rfl rfl (r_call3 Try.call17 rfl rfl rfl) (ack_c hm hT6 hI6 s6 r6 (by omega) (by decide)) ?_
  rintro _ w ⟨T7, rfl, hab7, hT7, hm⟩
  have hw7 : T7.abs = w7 := by rw [hab7, hw6, hz]; rfl
  have m7 : T7.com = 25769803777 := (congrArg Ta.com hw7).trans k7.1
  have hes7 : T7.es.map En.abs = [(0, m123)] := (congrArg Ta.es hw7).trans k7.2
  have hn7 : T7.n = 1 := by rw [← hT7.row.len]; have := congrArg List.length hes7; rwa [List.length_map] at this
  refine VR.pureG rfl rfl (p_moveI rfl) ?_
  refine VR.pureG rfl rfl (p_eq rfl rfl) ?_
  refine VR.pure rfl rfl (p_pickT rfl rfl) ?_
  refine VR.pure rfl rfl (p_moveB rfl) ?_
  refine VR.knownT 60 rfl (decide_eq_true (m7.trans hz.symm)) ?_
  refine VR.pureG rfl rfl (p_moveP rfl) ?_
  refine VR.callG rfl rfl (r_call1 Try.call18 rfl) (committed_c (T := T7) hm.all (hm.plus_at 0 0 rfl)) ?_
  rintro _ w ⟨rfl, hm'⟩
  replace hm := hm.back0 hm'
  refine VR.pureG rfl rfl (p_moveI rfl) ?_
  refine VR.pureG rfl rfl (p_eq rfl rfl) ?_
  refine VR.pure rfl rfl (p_pickT rfl rfl) ?_
  refine VR.pure rfl rfl (p_moveB rfl) ?_
  refine VR.knownT 66 rfl (decide_eq_true (m7.trans hz.symm)) ?_
  refine VR.pureG rfl rfl (p_moveP rfl) ?_
  refine VR.callG rfl rfl (r_call1 Try.call19 rfl) (configs_c (T := T7) hm.all (hm.plus_at 0 0 rfl) (hT7.mono hm.le) (by omega) (one_small7 hT7 hes7)) ?_
  rintro _ w ⟨A9, c9, rfl, hm'⟩
  replace hm := hm.back0 hm'
  refine VR.pureG rfl rfl (p_len Try.underlying23 rfl) ?_
  refine VR.pureG rfl rfl (p_eq rfl rfl) ?_
  refine VR.pure rfl rfl (p_pickT rfl rfl) ?_
  refine VR.pure rfl rfl (p_assignB rfl) ?_
  refine VR.nil ?_
  repeat (first | refine VC.seq ?_ | refine VC.block ?_ | refine VC.skip ?_)
  refine VC.ret ⟨_, ResOf.r1 (v := .bool _) rfl rfl, ?_⟩
  refine ⟨congrArg Value.bool (decide_eq_true (by rw [hn7]; rfl)), (hm.none_.shrink hu2).shrink hu1⟩
end
end Go.Bd
