/- ReformLast: the last config binds always, at most two do, they are the end of the row; with more committed no more bind. Conditions: none. -/
import Derived.Test.Ytinddgigjecofaa22d
import Derived.Test.Ytinddgigjecofaa22o
namespace Go.Bd
open Go.Proofs
set_option linter.unusedVariables false
set_option maxRecDepth 20000

theorem ERow.dropE {H : Nat → Option Obj} {A : Option Addr} {n c l : Nat} {es : List En} (h : ERow H A n es) (hl : l ≤ n) (hnc : n ≤ c) :
    ∃ A', (if c = l then A else A.map (·.add (l * 2))) = A' ∧ ERow H A' (n - l) (es.drop l) := by
  obtain ⟨A', hA, hr⟩ := h.row.dropE hl hnc
  have hlen := h.len
  have hd : (ecells es).drop (l * 2) = ecells (es.drop l) := by
    have h1 : ecells es = ecells (es.take l) ++ ecells (es.drop l) := by
      show es.flatMap En.cells = (es.take l).flatMap En.cells ++ (es.drop l).flatMap En.cells
      rw [← List.flatMap_append, List.take_append_drop]
    rw [h1, List.drop_left' (by rw [flat_len En.len, List.length_take, hlen, Nat.min_eq_left hl])]
  rw [hd] at hr
  exact ⟨A', hA, hr, fun e he => h.each e (List.mem_of_mem_drop he)⟩
theorem n_le_sum {es : List En} {e : En} (h : e ∈ es) : e.n ≤ (es.map En.n).sum := by
  induction es with
  | nil => simp at h
  | cons x r ih =>
    rw [List.map_cons, List.sum_cons]
    rcases List.mem_cons.1 h with rfl | h
    · omega
    · have := ih h; omega
theorem fromOf_last {es : List En} {e : En} (h : es.getLast? = some e) (committed : Int) : fromOf (es.map En.abs) committed = if e.ver ≤ committed then es.length - 1 else es.length - 2 := by
  unfold fromOf
  rw [List.getLast?_map, h, List.length_map]
  rfl

set_option maxHeartbeats 4000000 in
theorem reform_last_c {F : Env} {w : World} {A : Option Addr} {n c : Nat} {es : List En} {committed more : Int} (hm : Mem F w []) (hnc : n ≤ c ∧ c ≤ maxLen) (hc : c * 32 ≤ reachBytes) (hr : ERow F.heap A n es) (hsm : ∀ e ∈ es, e.c * 32 ≤ reachBytes) :
    Calls Try.prog 6 #[.slice A n c, .int .i64 committed, .int .i64 more] w (Ret fun v w' => v = .bool true ∧ Mem F w' []) := by
  have hl := hr.len
  unfold reachBytes at hc hsm
  have hsm1 : ∀ e ∈ es, e.n ≤ 4611686018427387904 := fun e he => by
    have h1 := hsm e he
    have h2 := (hr.each e he).2.1
    omega
  refine Calls.of_vc Try.func6 rfl Try.ntmps6 rfl ?_
  repeat (first | refine VC.seq ?_ | refine VC.block ?_ | refine VC.skip ?_)
  refine VC.region ?_
  refine VR.pure rfl rfl (p_assignB rfl) ?_
  refine VR.nil ?_
  repeat (first | refine VC.seq ?_ | refine VC.block ?_ | refine VC.skip ?_)
  refine VC.region ?_
  refine VR.call rfl rfl (r_call0 Try.call9) (awake_c hm) ?_
  rintro _ w ⟨rfl, hm⟩
  refine VR.pure rfl rfl (p_not rfl) ?_
  refine VR.nil ?_
  repeat (first | refine VC.seq ?_ | refine VC.block ?_ | refine VC.skip ?_)
  refine VC.condF rfl rfl ?_
  repeat (first | refine VC.seq ?_ | refine VC.block ?_ | refine VC.skip ?_)
  refine VC.region ?_
  refine VR.pure rfl rfl (p_moveL rfl) ?_
  refine VR.call rfl rfl (r_call1 Try.call8 rfl) (great_c hm (by omega) hr hsm1) ?_
  rintro v w ⟨hv, hm⟩
  refine VR.nil ?_
  rcases hv with rfl | ⟨rfl, hn3, hs3⟩
  · repeat (first | refine VC.seq ?_ | refine VC.block ?_ | refine VC.skip ?_)
    refine VC.condT rfl rfl ?_
    repeat (first | refine VC.seq ?_ | refine VC.block ?_ | refine VC.skip ?_)
    refine VC.region ?_
    refine VR.pure rfl rfl (p_assignB rfl) ?_
    refine VR.nil ?_
    repeat (first | refine VC.seq ?_ | refine VC.block ?_ | refine VC.skip ?_)
    refine VC.ret ⟨_, ResOf.r1 (v := .bool _) rfl rfl, ?_⟩
    exact ⟨rfl, hm⟩
  · repeat (first | refine VC.seq ?_ | refine VC.block ?_ | refine VC.skip ?_)
    refine VC.condF rfl rfl ?_
    have hsmall : ∀ e ∈ es, e.n * 32 ≤ 140737488355328 := fun e he => by have := n_le_sum he; omega
    repeat (first | refine VC.seq ?_ | refine VC.block ?_ | refine VC.skip ?_)
    refine VC.region ?_
    refine VR.pure rfl rfl (p_moveL rfl) ?_
    refine VR.pure rfl rfl (p_moveI rfl) ?_
    refine VR.call rfl rfl (r_call2 Try.call21 rfl rfl) (active_c hm hnc hr hsmall) ?_
    rintro _ w ⟨A7, c7, outs, L, bs, rfl, ho, hown, hmap, ho2, hm⟩
    refine VR.pure rfl rfl (p_assignL rfl) ?_
    refine VR.nil ?_
    have hle : F.le (F.plus (L :: (bs ++ []))) := hm.le
    have hrx : ERow (F.plus (L :: (bs ++ []))).heap A7 outs.length outs := ⟨ho.row (hm.plus_mem (.head _)), hown.each fun M hM => hm.plus_mem (by simp [hM])⟩
    have hu : F.under (F.plus (L :: (bs ++ []))) := ⟨rfl, rfl, rfl, hle⟩
    replace hm := hm.all
    replace hr := hr.le hle
    generalize F.plus (L :: (bs ++ [])) = G at hle hrx hu hm hr
    have hox := ho.le
    have hmapl := congrArg List.length hmap
    rw [List.length_map, List.length_drop, List.length_map, hl] at hmapl
    repeat (first | refine VC.seq ?_ | refine VC.block ?_ | refine VC.skip ?_)
    refine VC.region ?_
    refine VR.pure rfl rfl (p_moveL rfl) ?_
    refine VR.pure rfl rfl (p_len Try.underlying33 rfl) ?_
    refine VR.pure rfl rfl (p_eq rfl rfl) ?_
    refine VR.nil ?_
    repeat (first | refine VC.seq ?_ | refine VC.block ?_ | refine VC.skip ?_)
    refine VC.condD rfl (fun h0 => ?_) (fun h0 => ?_)
    · repeat (first | refine VC.seq ?_ | refine VC.block ?_ | refine VC.skip ?_)
      refine VC.region ?_
      refine VR.pure rfl rfl (p_moveL rfl) ?_
      refine VR.pure rfl rfl (p_len Try.underlying33 rfl) ?_
      refine VR.pure rfl rfl (p_eq rfl rfl) ?_
      refine VR.pure rfl rfl (p_assignB rfl) ?_
      refine VR.nil ?_
      repeat (first | refine VC.seq ?_ | refine VC.block ?_ | refine VC.skip ?_)
      refine VC.ret ⟨_, ResOf.r1 (v := .bool _) rfl rfl, ?_⟩
      refine ⟨congrArg Value.bool (decide_eq_true ?_), hm.shrink hu⟩
      have h1 : n = 0 := by omega
      omega
    · have hn1 : 0 < n := by omega
      obtain ⟨e, he, hlast⟩ := last_at (es := es) (by omega)
      have hf1 := fromOf_last hlast committed
      have hf2 := fromOf_last hlast (max committed more)
      rw [hl] at hf1 hf2 he
      have hfrom : fromOf (es.map En.abs) committed = n - outs.length ∧ 1 ≤ outs.length ∧ outs.length ≤ n := by
        by_cases hh : e.ver ≤ committed
        · rw [if_pos hh] at hf1
          rw [hf1] at hmapl ⊢
          omega
        · rw [if_neg hh] at hf1
          rw [hf1] at hmapl ⊢
          omega
      rw [hfrom.1, ← List.map_drop] at hmap
      obtain ⟨A45, hA45, hr45⟩ := hr.dropE (l := n - outs.length) (c := c) (by omega) hnc.1
      repeat (first | refine VC.seq ?_ | refine VC.block ?_ | refine VC.skip ?_)
      refine VC.region ?_
      refine VR.pure rfl rfl (p_moveL rfl) ?_
      refine VR.pure rfl rfl (p_len Try.underlying33 rfl) ?_
      refine VR.pure rfl rfl (p_lt rfl rfl) ?_
      refine VR.pure rfl rfl (p_moveB rfl) ?_
      refine VR.knownF 25 rfl (decide_eq_false (by omega)) ?_
      refine VR.pureG rfl rfl (p_moveL rfl) ?_
      refine VR.pureG rfl rfl (p_len Try.underlying33 rfl) ?_
      refine VR.pureG rfl rfl (p_gt rfl rfl) ?_
      refine VR.pure rfl rfl (p_pickF rfl rfl) ?_
      refine VR.pure rfl rfl (p_moveB rfl) ?_
      refine VR.knownF 30 rfl (decide_eq_false (by omega)) ?_
      refine VR.pureG rfl rfl (p_moveL rfl) ?_
      refine VR.pureG rfl rfl (p_len Try.underlying33 rfl) ?_
      refine VR.pureG rfl rfl (p_moveL rfl) ?_
      refine VR.pureG rfl rfl (p_len Try.underlying33 rfl) ?_
      refine VR.pureG rfl rfl (p_gt rfl rfl) ?_
      refine VR.pure rfl rfl (p_pickF rfl rfl) ?_
      refine VR.pure rfl rfl (p_moveB rfl) ?_
      refine VR.knownF 37 rfl (decide_eq_false (by omega)) ?_
      refine VR.pureG rfl rfl (p_moveL rfl) ?_
      refine VR.pureG rfl rfl (p_moveL rfl) ?_
      refine VR.pureG rfl rfl (p_moveL rfl) ?_
      refine VR.pureG rfl rfl (p_len Try.underlying33 rfl) ?_
      refine VR.pureG rfl rfl (p_moveL rfl) ?_
      refine VR.pureG rfl rfl (p_len Try.underlying33 rfl) ?_
      refine VR.pureG rfl rfl (p_sub64E (r := ((n - outs.length : Nat) : Int)) rfl rfl (by omega) (by omega)) ?_
      refine VR.pureG rfl rfl (p_sliceLE Try.underlying33 Try.sizeOf25 rfl rfl (by omega) hA45 rfl rfl) ?_
      refine VR.callG rfl rfl (r_call2 Try.call25 rfl rfl) (same_ensembles_c hm (by unfold maxLen; omega) hrx hr45) ?_
      rintro _ w ⟨rfl, hm⟩
      refine VR.pureG rfl rfl (p_notD rfl) ?_
      refine VR.pure rfl rfl (p_pickF rfl rfl) ?_
      refine VR.nil ?_
      repeat (first | refine VC.seq ?_ | refine VC.block ?_ | refine VC.skip ?_)
      refine VC.condF rfl (decide_eq_false (not_not_intro hmap)) ?_
      repeat (first | refine VC.seq ?_ | refine VC.block ?_ | refine VC.skip ?_)
      refine VC.region ?_
      refine VR.pure rfl rfl (p_moveL rfl) ?_
      refine VR.pure rfl rfl (p_moveI rfl) ?_
      refine VR.pure rfl rfl (p_moveI rfl) ?_
      refine VR.pure rfl rfl (p_max rfl rfl) ?_
      refine VR.call rfl rfl (r_call2 Try.call21 rfl rfl) (active_c hm hnc hr hsmall) ?_
      rintro _ w ⟨A8, c8, outs8, L8, bs8, rfl, ho8, hown8, hmap8, ho28, hm⟩
      refine VR.pure rfl rfl (p_assignL rfl) ?_
      refine VR.nil ?_
      have hm8 := congrArg List.length hmap8
      rw [List.length_map, List.length_drop, List.length_map, hl, hf2] at hm8
      have hc1 : outs8.length ≤ outs.length := by
        rw [hf1] at hmapl
        split at hmapl <;> split at hm8 <;> omega
      obtain ⟨b, off, blk, T, fr, rfl, hb, hcc⟩ := hr.row.elem En.len (by decide) hn1
      by_cases h2 : 1 < n
      · have hc2 : (outs.length = 2) ↔ committed < e.ver := by
          rw [hf1] at hmapl
          split at hmapl <;> omega
        repeat (first | refine VC.seq ?_ | refine VC.block ?_ | refine VC.skip ?_)
        refine VC.region ?_
        refine VR.pure rfl rfl (p_moveL rfl) ?_
        refine VR.pure rfl rfl (p_len Try.underlying33 rfl) ?_
        refine VR.pure rfl rfl (p_moveL rfl) ?_
        refine VR.pure rfl rfl (p_len Try.underlying33 rfl) ?_
        refine VR.pure rfl rfl (p_le rfl rfl) ?_
        refine VR.pure rfl rfl (p_moveB rfl) ?_
        refine VR.knownT 59 rfl (decide_eq_true (by omega)) ?_
        refine VR.pureG rfl rfl (p_moveL rfl) ?_
        refine VR.pureG rfl rfl (p_len Try.underlying33 rfl) ?_
        refine VR.pureG rfl rfl (p_eq rfl rfl) ?_
        refine VR.pureG rfl rfl (p_moveL rfl) ?_
        refine VR.pureG rfl rfl (p_len Try.underlying33 rfl) ?_
        refine VR.pureG rfl rfl (p_gt rfl rfl) ?_
        refine VR.pureG rfl rfl (p_moveB rfl) ?_
        refine VR.knownT 66 rfl (decide_eq_true (by omega)) ?_
        refine VR.pureG rfl rfl (p_moveL rfl) ?_
        refine VR.pureG rfl rfl (p_moveL rfl) ?_
        refine VR.pureG rfl rfl (p_len Try.underlying33 rfl) ?_
        refine VR.pureG rfl rfl (p_sub64E (r := ((n - 1 : Nat) : Int)) rfl rfl (by omega) (by omega)) ?_
        refine VR.pureG rfl rfl (p_idxN Try.underlying33 Try.sizeOf25 rfl rfl (Nat.sub_lt hn1 Nat.one_pos)) ?_
        refine VR.pureG rfl rfl (p_field (fo := 0) Try.underlying25 rfl Try.sizeOf22 rfl rfl rfl) ?_
        refine VR.valG rfl rfl (r_load (v := .int _ _) Try.isAgg22 rfl (hm.fix _ _ hb) (hcc (n - 1) e he 0 (by omega))) ?_
        refine VR.pureG rfl rfl (p_moveI rfl) ?_
        refine VR.pureG rfl rfl (p_gt rfl rfl) ?_
        refine VR.pureG rfl rfl (p_pickT rfl rfl) ?_
        refine VR.pureG rfl rfl (p_eqB Try.underlying4 rfl rfl) ?_
        refine VR.pure rfl rfl (p_pickT rfl rfl) ?_
        refine VR.pure rfl rfl (p_assignB rfl) ?_
        refine VR.nil ?_
        repeat (first | refine VC.seq ?_ | refine VC.block ?_ | refine VC.skip ?_)
        refine VC.ret ⟨_, ResOf.r1 (v := .bool _) rfl rfl, ?_⟩
        refine ⟨congrArg Value.bool ?_, ?_⟩
        · by_cases h3 : committed < e.ver
          · rw [decide_eq_true h3, decide_eq_true (by have := hc2.2 h3; omega)]
            rfl
          · rw [decide_eq_false h3, decide_eq_false (fun h4 => h3 (hc2.1 (by omega)))]
            rfl
        · exact (hm.none_).shrink hu
      · have hc2 : ¬ outs.length = 2 := by omega
        repeat (first | refine VC.seq ?_ | refine VC.block ?_ | refine VC.skip ?_)
        refine VC.region ?_
        refine VR.pure rfl rfl (p_moveL rfl) ?_
        refine VR.pure rfl rfl (p_len Try.underlying33 rfl) ?_
        refine VR.pure rfl rfl (p_moveL rfl) ?_
        refine VR.pure rfl rfl (p_len Try.underlying33 rfl) ?_
        refine VR.pure rfl rfl (p_le rfl rfl) ?_
        refine VR.pure rfl rfl (p_moveB rfl) ?_
        refine VR.knownT 59 rfl (decide_eq_true (by omega)) ?_
        refine VR.pureG rfl rfl (p_moveL rfl) ?_
        refine VR.pureG rfl rfl (p_len Try.underlying33 rfl) ?_
        refine VR.pureG rfl rfl (p_eq rfl rfl) ?_
        refine VR.pureG rfl rfl (p_moveL rfl) ?_
        refine VR.pureG rfl rfl (p_len Try.underlying33 rfl) ?_
        refine VR.pureG rfl rfl (p_gt rfl rfl) ?_
        refine VR.pureG rfl rfl (p_moveB rfl) ?_
        refine VR.knownF 66 rfl (decide_eq_false (by omega)) ?_
        refine VR.pass rfl rfl ?_
        refine VR.pass rfl rfl ?_
        refine VR.pass rfl rfl ?_
        refine VR.pass rfl rfl ?_
        refine VR.pass rfl rfl ?_
        refine VR.pass rfl rfl ?_
        refine VR.pass rfl rfl ?_
        refine VR.pass rfl rfl ?_
        refine VR.pass rfl rfl ?_
        refine VR.pureG rfl rfl (p_pickF rfl rfl) ?_
        refine VR.pureG rfl rfl (p_eqB Try.underlying4 rfl rfl) ?_
        refine VR.pure rfl rfl (p_pickT rfl rfl) ?_
        refine VR.pure rfl rfl (p_assignB rfl) ?_
        refine VR.nil ?_
        repeat (first | refine VC.seq ?_ | refine VC.block ?_ | refine VC.skip ?_)
        refine VC.ret ⟨_, ResOf.r1 (v := .bool _) rfl rfl, ?_⟩
        refine ⟨congrArg Value.bool ?_, ?_⟩
        · rw [decide_eq_false (by omega)]
          rfl
        · exact (hm.none_).shrink hu

end Go.Bd
namespace Go.Proofs.Ytinddgigjecofaa
open Go.Bd Go.ChangeShapes Go.WideShapes

set_option maxRecDepth 100000 in
theorem last_lifted (os : Os) (started : os.Started) (H : Type) (enc : TypeId × Value → H) :
    ReturnsInHanded {} Try.checked os 6 .any (Rows.reformLastSpec.pre6 enc Try.prog Try.f6 Rows.reformLastRow.domain false) (Rows.reformLastSpec.post enc Try.prog Try.f6 false true false false) := by
  refine law_frame (C := Try.checked) (tb := 4) (by kernel_rfl) (by kernel_rfl) started (by kernel_rfl) Try.func6 rfl rfl Try.underlying4 (by kernel_rfl) ?_
    (ChangeSpec.witness6 (enc := enc) (C := Try.checked) false ⟨#[], #[.slice none 0 0, .int .i64 0, .int .i64 0], []⟩ 8 (by kernel_rfl) (by kernel_rfl) (by kernel_rfl) (by kernel_rfl)) ?_
  · intro ds hl
    match ds, hl with
    | [d1, d2, d3], _ => rfl
  · intro W base args ds p hval hA hwt
    replace hA : DataW.TrodAll enc Try.prog W 0 (fun _ => true) true Try.f6.params.toList args.toList ds p := hA
    rw [Try.params6] at hA hval
    replace hwt : (DataW.weightsEach Try.prog [33, 22, 22] ds).all (· ≤ reachBytes) = true := hwt
    obtain ⟨v0, vs0, d0, ds0, p0, q0, hargs, rfl, rfl, h0, r0⟩ := trodAll_cons hA
    obtain ⟨v1, vs1, d1, ds1, p1, q1, rfl, rfl, rfl, h1, r1⟩ := trodAll_cons r0
    obtain ⟨v2, vs2, d2, ds2, p2, q2, rfl, rfl, rfl, h2, r2⟩ := trodAll_cons r1
    obtain ⟨rfl, rfl, rfl⟩ := trodAll_nil r2
    obtain rfl : args = #[v0, v1, v2] := by cases args; simp_all
    obtain ⟨a1, rfl, _, _, w1⟩ := open_int Try.underlying22 (hval 1 22 v1 rfl rfl) h1
    obtain ⟨a2, rfl, _, _, w2⟩ := open_int Try.underlying22 (hval 2 22 v2 rfl rfl) h2
    obtain ⟨A0, n0, c0, es, rfl, hn0, hc0, hc32, hr0, he0⟩ := open_enss (hval 0 33 v0 rfl rfl) h0 (LightAll.cons hwt).1
    exact reform_last_c (Mem.of W) ⟨hn0, hc0⟩ hc32 hr0 he0

theorem last : Rows.ReformLastSaid :=
  OpenClaim.holds_of_wide 6 Try.f6 rfl rfl rfl rfl rfl rfl rfl ⟨rfl, rfl, rfl, rfl, rfl⟩ rfl rfl rfl rfl rfl (by kernel_rfl) Try.func6 (by kernel_rfl)
    (of_decide_eq_true (by kernel_rfl)) (by unfold Func.isWrapper; rw [if_neg (of_decide_eq_false (by kernel_rfl))]; exact ⟨rfl, rfl⟩)
    (fun os started H enc _ => last_lifted os started H enc)
end Go.Proofs.Ytinddgigjecofaa
