/- DiskLives: whatever is done to a disk, each answer, and all that can be read behind each step, is what the document tells. Conditions: none. -/
import Derived.Test.Ytjohjlhjeommiaa08v
namespace Go.Bd
open Go.Proofs Go.ChangeShapes Go.WideShapes
set_option linter.unusedVariables false
set_option maxRecDepth 20000

theorem int_top {x : Int} (h : (Lit.int .i64 x).wf = true) : x ≤ 9223372036854775807 := by
  unfold Lit.wf at h
  rw [Bool.and_eq_true] at h
  exact of_decide_eq_true h.2
theorem sm_new {D : Dk} {room : Int} (h : D.abs = ⟨room, []⟩) : Sm D.abs room [] := by
  rw [h]
  exact ⟨rfl, List.Perm.refl _, List.Pairwise.nil⟩

set_option maxHeartbeats 8000000 in
theorem disk_lives_c {F : Env} {w : World} {A : Option Addr} {n c : Nat} {xs : List Dd} {room : Int} (hm : Mem F w []) (hnc : n ≤ c ∧ c ≤ maxLen) (hr : Row F.heap A (n * 5) (xs.flatMap Dd.cells)) (hx : ∀ x ∈ xs, DdOk F.heap x) (hl : xs.length = n) (hroom : room ≤ 9223372036854775807) :
    Calls Try.prog 7 #[.int .i64 room, .slice A n c] w (Ret fun v w' => v = .bool true ∧ Mem F w' []) := by
  refine Calls.of_vc Try.func7 rfl Try.ntmps7 rfl ?_
  repeat (first | refine VC.seq ?_ | refine VC.block ?_ | refine VC.skip ?_)
  refine VC.region ?_
  refine VR.pure rfl rfl (p_assignB rfl) ?_
  refine VR.nil ?_
  repeat (first | refine VC.seq ?_ | refine VC.block ?_ | refine VC.skip ?_)
  refine VC.region ?_
  refine VR.pure rfl rfl (p_moveL rfl) ?_
  refine VR.pure rfl rfl (p_len Try.underlying50 rfl) ?_
  refine VR.pure rfl rfl (p_gt rfl rfl) ?_
  refine VR.nil ?_
  repeat (first | refine VC.seq ?_ | refine VC.block ?_ | refine VC.skip ?_)
  refine VC.meet (σ := Nat × List Dd) (fun s => [(0, .int .i64 room), (1, .slice A s.1 c)]) (fun s w => Mem F w [] ∧ s.1 ≤ 60 ∧ s.2.length = s.1 ∧ Row F.heap A (s.1 * 5) (s.2.flatMap Dd.cells) ∧ ∀ x ∈ s.2, DdOk F.heap x) ?_ ?_
  · repeat (first | refine VC.seq ?_ | refine VC.block ?_ | refine VC.skip ?_)
    refine VC.condD rfl (fun h3 => ?_) (fun h3 => ?_)
    · repeat (first | refine VC.seq ?_ | refine VC.block ?_ | refine VC.skip ?_)
      refine VC.region ?_
      refine VR.pure rfl rfl (p_moveL rfl) ?_
      refine VR.pure rfl rfl (p_sliceHN (h := 60) Try.underlying50 Try.sizeOf55 rfl rfl (by omega)) ?_
      refine VR.pure rfl rfl (p_assignL rfl) ?_
      refine VR.nil ?_
      exact ⟨(60, xs.take 60), ⟨rfl, rfl, trivial⟩, hm, Nat.le_refl _, by show (xs.take 60).length = 60; rw [List.length_take]; omega, hr.heads Dd.len hl (by omega), fun x h => hx x (List.mem_of_mem_take h)⟩
    · repeat (first | refine VC.seq ?_ | refine VC.block ?_ | refine VC.skip ?_)
      exact ⟨(n, xs), ⟨rfl, rfl, trivial⟩, hm, by show n ≤ 60; omega, hl, hr, hx⟩
  clear hm hr hnc hl hx
  rintro ⟨n, xs⟩ A0 w ⟨hm, hn, hl, hr, hx⟩
  dsimp only at hn hl hr hx ⊢
  repeat (first | refine VC.seq ?_ | refine VC.block ?_ | refine VC.skip ?_)
  refine VC.region ?_
  refine VR.pure rfl rfl (p_moveI rfl) ?_
  refine VR.call rfl rfl (r_call1 Try.call11 rfl) (new_c hm hroom) ?_
  rintro _ w ⟨g, m, D0, rfl, e0, hD0, hm⟩
  refine VR.pure rfl rfl (p_moveI rfl) ?_
  refine VR.call rfl rfl (r_call1 Try.call33 rfl) (rnew_c hm) ?_
  rintro _ w ⟨gr, rfl, hm⟩
  refine VR.pure rfl rfl (p_assignP rfl) ?_
  refine VR.pure rfl rfl (p_assignP rfl) ?_
  refine VR.nil ?_
  obtain ⟨A3, c3, L3, ho3, hok3, hm⟩ := RMem.to (D := D0) (g := g) (m := m) (Ls := []) hm
  have hrm : max room 0 ≤ 9223372036854775807 := by omega
  have hb0 : Both F w g m gr (max room 0) 0 [] := ⟨D0, [], A3, c3, L3, hD0, sm_new e0, by rw [fs_len e0]; exact Nat.le_refl _, ho3, hok3, hm⟩
  repeat (first | refine VC.seq ?_ | refine VC.block ?_ | refine VC.skip ?_)
  refine VC.region ?_
  refine VR.pure rfl rfl (p_assignI rfl) ?_
  refine VR.nil ?_
  repeat (first | refine VC.seq ?_ | refine VC.block ?_ | refine VC.skip ?_)
  refine VC.loop (σ := Nat × Env) (fun s => [(1, .slice A n c), (5, .pointer (some ⟨g, 0, none⟩)), (6, .pointer (some ⟨gr, 0, none⟩)), (7, .int .i64 s.1)])
    (fun s w => s.1 ≤ n ∧ F.under s.2 ∧ Both s.2 w g m gr (max room 0) s.1 []) (fun s => n - s.1) (0, F) ⟨rfl, rfl, rfl, rfl, trivial⟩ ⟨by omega, Env.under_refl _, hb0⟩ ?_
  clear hm hb0 ho3 hok3
  rintro ⟨i, G⟩ A1 w ⟨hi, hu, hb⟩
  dsimp only at hi hu hb ⊢
  repeat (first | refine VC.seq ?_ | refine VC.block ?_ | refine VC.skip ?_)
  refine VC.region ?_
  refine VR.pure rfl rfl (p_moveI rfl) ?_
  refine VR.pure rfl rfl (p_moveL rfl) ?_
  refine VR.pure rfl rfl (p_len Try.underlying50 rfl) ?_
  refine VR.pure rfl rfl (p_lt rfl rfl) ?_
  refine VR.nil ?_
  repeat (first | refine VC.seq ?_ | refine VC.block ?_ | refine VC.skip ?_)
  refine VC.condD rfl (fun h5 => ?_) (fun h5 => ?_)
  · have hi' : i < n := by omega
    obtain ⟨x, hxi, hxm⟩ := get_of (xs := xs) (k := i) (by omega)
    have hxo := hx x hxm
    obtain ⟨b, off, blk, T, fr, rfl, hbk, hc⟩ := hr.elem Dd.len (by decide) (by omega)
    obtain ⟨D, rs, A4, c4, L4, hD, hs, hlen, ho, hok, hm⟩ := hb
    repeat (first | refine VC.seq ?_ | refine VC.block ?_ | refine VC.skip ?_)
    refine VC.region ?_
    refine VR.pure rfl rfl (p_moveP rfl) ?_
    refine VR.pure rfl rfl (p_moveP rfl) ?_
    refine VR.pure rfl rfl (p_moveL rfl) ?_
    refine VR.pure rfl rfl (p_moveI rfl) ?_
    refine VR.pure rfl rfl (p_idxN Try.underlying50 Try.sizeOf55 rfl rfl hi') ?_
    refine VR.val rfl rfl (r_loadAgg (vs := [.int .i64 x.op, .string x.name, .string x.dest, .slice x.A x.n x.c, .int .i64 x.k]) Try.isAgg55 Try.sizeOf55 rfl (hm.fix _ _ (hu.heap _ _ hbk)) rfl (hc i x hxi)) ?_
    refine VR.call rfl rfl (r_call3 Try.call34 rfl rfl rfl) (step_c (x := x) ⟨D, rs, A4, c4, L4, hD, hs, hlen, ho, hok, hm⟩ (by omega) (hxo.mono hu.heap) hrm) ?_
    rintro _ w ⟨rfl, G1, hu1, hb⟩
    refine VR.pure rfl rfl (p_not rfl) ?_
    refine VR.pure rfl rfl (p_moveB rfl) ?_
    refine VR.knownF 35 rfl rfl ?_
    refine VR.pureG rfl rfl (p_moveP rfl) ?_
    refine VR.pureG rfl rfl (p_moveP rfl) ?_
    refine VR.callG rfl rfl (r_call2 Try.call35 rfl rfl) (like_c hb (by omega)) ?_
    rintro _ w ⟨rfl, G2, hu2, hb⟩
    refine VR.pureG rfl rfl (p_not rfl) ?_
    refine VR.pure rfl rfl (p_pickF rfl rfl) ?_
    refine VR.nil ?_
    clear hm hok ho hlen hs hD
    repeat (first | refine VC.seq ?_ | refine VC.block ?_ | refine VC.skip ?_)
    refine VC.condF rfl rfl ?_
    obtain ⟨D, rs, A4, c4, L4, hD, hs, hlen, ho, hok, hm⟩ := hb
    have hrl := hs.len
    have hu3 := (hu.trans hu1).trans hu2
    obtain ⟨e1, l1, hq1⟩ : ∃ e1 l1, readA D.abs x.dest = (e1, l1) := ⟨_, _, rfl⟩
    have hq2 := hs.read (s := x.dest)
    rw [hq1] at hq2
    repeat (first | refine VC.seq ?_ | refine VC.block ?_ | refine VC.skip ?_)
    refine VC.region ?_
    refine VR.pure rfl rfl (p_moveP rfl) ?_
    refine VR.pure rfl rfl (p_moveL rfl) ?_
    refine VR.pure rfl rfl (p_moveI rfl) ?_
    refine VR.pure rfl rfl (p_idxN Try.underlying50 Try.sizeOf55 rfl rfl hi') ?_
    refine VR.pure rfl rfl (p_field (fo := 2) Try.underlying55 rfl Try.sizeOf9 rfl rfl rfl) ?_
    refine VR.val rfl rfl (r_load (v := .string _) Try.isAgg9 rfl (hm.fix _ _ (hu3.heap _ _ hbk)) (hc i x hxi 2 (by decide))) ?_
    refine VR.call rfl rfl (r_call2 Try.call16 rfl rfl) (readK hm hD rfl hq1) ?_
    rintro _ w ⟨A5, k5, q5, G5, rfl, hk5, hk5b, hu5, hr5, hm⟩
    refine VR.pure rfl rfl (p_moveT rfl) ?_
    refine VR.pure rfl rfl (p_extract rfl rfl) ?_
    refine VR.pure rfl rfl (p_extract rfl rfl) ?_
    refine VR.pure rfl rfl (p_assignL rfl) ?_
    refine VR.pure rfl rfl (p_assignI rfl) ?_
    refine VR.nil ?_
    repeat (first | refine VC.seq ?_ | refine VC.block ?_ | refine VC.skip ?_)
    refine VC.region ?_
    refine VR.pure rfl rfl (p_moveP rfl) ?_
    refine VR.pure rfl rfl (p_moveL rfl) ?_
    refine VR.pure rfl rfl (p_moveI rfl) ?_
    refine VR.pure rfl rfl (p_idxN Try.underlying50 Try.sizeOf55 rfl rfl hi') ?_
    refine VR.pure rfl rfl (p_field (fo := 2) Try.underlying55 rfl Try.sizeOf9 rfl rfl rfl) ?_
    refine VR.val rfl rfl (r_load (v := .string _) Try.isAgg9 rfl (hm.fix _ _ (hu5.heap _ _ (hu3.heap _ _ hbk))) (hc i x hxi 2 (by decide))) ?_
    refine VR.call rfl rfl (r_call2 Try.call36 rfl rfl) (rread2 ho (oks hok hu5.heap) hm (by omega) hs.asc) ?_
    rintro _ w ⟨A6, k6, q6, G6, rfl, hu6, hr6, hm⟩
    refine VR.pure rfl rfl (p_moveT rfl) ?_
    refine VR.pure rfl rfl (p_extract rfl rfl) ?_
    refine VR.pure rfl rfl (p_extract rfl rfl) ?_
    refine VR.pure rfl rfl (p_assignL rfl) ?_
    refine VR.pure rfl rfl (p_assignI rfl) ?_
    refine VR.nil ?_
    repeat (first | refine VC.seq ?_ | refine VC.block ?_ | refine VC.skip ?_)
    refine VC.region ?_
    refine VR.pure rfl rfl (p_moveI rfl) ?_
    refine VR.pure rfl rfl (p_moveI rfl) ?_
    refine VR.pure rfl rfl (p_ne rfl rfl) ?_
    refine VR.pure rfl rfl (p_moveB rfl) ?_
    refine VR.knownF 64 rfl (decide_eq_false (not_not_intro (by rw [← hq2]))) ?_
    refine VR.pureG rfl rfl (p_moveL rfl) ?_
    refine VR.pureG rfl rfl (p_moveL rfl) ?_
    refine VR.callG rfl rfl (r_call2 Try.call17 rfl rfl) (same_bytes_c hm (by unfold maxLen; omega) (hr5.mono hu6.heap) hr6) ?_
    rintro _ w ⟨rfl, hm⟩
    refine VR.pureG rfl rfl (p_not rfl) ?_
    refine VR.pure rfl rfl (p_pickF rfl rfl) ?_
    refine VR.nil ?_
    repeat (first | refine VC.seq ?_ | refine VC.block ?_ | refine VC.skip ?_)
    refine VC.condF rfl (by rw [decide_eq_true (by rw [← hq2])]; rfl) ?_
    repeat (first | refine VC.seq ?_ | refine VC.block ?_ | refine VC.skip ?_)
    repeat (first | refine VC.seq ?_ | refine VC.block ?_ | refine VC.skip ?_)
    refine VC.region ?_
    refine VR.pure rfl rfl (p_moveI rfl) ?_
    refine VR.pure rfl rfl (p_add64 rfl rfl (by omega)) ?_
    refine VR.pure rfl rfl (p_assignI rfl) ?_
    refine VR.nil ?_
    exact ⟨(i + 1, G6), ⟨rfl, rfl, rfl, rfl, trivial⟩, ⟨by omega, (hu3.trans hu5).trans hu6, D, rs, A4, c4, L4, hD, hs, hlen, ho, oks (oks hok hu5.heap) hu6.heap, hm⟩, by omega⟩
  · repeat (first | refine VC.seq ?_ | refine VC.block ?_ | refine VC.skip ?_)
    refine VC.exit ?_
    obtain ⟨D, rs, A4, c4, L4, hD, hs, hlen, ho, hok, hm⟩ := hb
    repeat (first | refine VC.seq ?_ | refine VC.block ?_ | refine VC.skip ?_)
    refine VC.region ?_
    refine VR.call rfl rfl (r_call0 Try.call10) (awake_c hm) ?_
    rintro _ w ⟨rfl, hm⟩
    refine VR.pure rfl rfl (p_assignB rfl) ?_
    refine VR.nil ?_
    repeat (first | refine VC.seq ?_ | refine VC.block ?_ | refine VC.skip ?_)
    refine VC.ret ⟨_, ResOf.r1 (v := .bool _) rfl rfl, ?_⟩
    exact ⟨rfl, (show Mem G w [] from hm.subF (List.nil_sublist _)).shrink hu⟩
end Go.Bd
namespace Go.Proofs.Ytjohjlhjeommiaa
open Go.Bd Go.ChangeShapes Go.WideShapes

set_option maxRecDepth 100000 in
theorem lives_lifted (os : Os) (started : os.Started) (H : Type) (enc : TypeId × Value → H) :
    ReturnsInHanded {} Try.checked os 7 .any (Rows.diskLivesSpec.pre6 enc Try.prog Try.f7 Rows.diskLivesRow.domain false) (Rows.diskLivesSpec.post enc Try.prog Try.f7 false true false false) := by
  refine law_frame (C := Try.checked) (tb := 4) (by kernel_rfl) (by kernel_rfl) started (by kernel_rfl) Try.func7 rfl rfl Try.underlying4 (by kernel_rfl) ?_
    (ChangeSpec.witness6 (enc := enc) (C := Try.checked) false ⟨#[], #[.int .i64 0, .slice none 0 0], []⟩ 8 (by kernel_rfl) (by kernel_rfl) (by kernel_rfl) (by kernel_rfl)) ?_
  · intro ds hl
    match ds, hl with
    | [d1, d2], _ => rfl
  · intro W base args ds p hval hA hwt
    replace hA : DataW.TrodAll enc Try.prog W 0 (fun _ => true) true Try.f7.params.toList args.toList ds p := hA
    rw [Try.params7] at hA hval
    replace hwt : (DataW.weightsEach Try.prog [3, 50] ds).all (· ≤ reachBytes) = true := hwt
    obtain ⟨v0, vs0, d0, ds0, p0, q0, hargs, rfl, rfl, h0, r0⟩ := trodAll_cons hA
    obtain ⟨v1, vs1, d1, ds1, p1, q1, rfl, rfl, rfl, h1, r1⟩ := trodAll_cons r0
    obtain ⟨rfl, rfl, rfl⟩ := trodAll_nil r1
    obtain rfl : args = #[v0, v1] := by cases args; simp_all
    obtain ⟨a0, rfl, _, _, w0⟩ := open_int Try.underlying3 (hval 0 3 v0 rfl rfl) h0
    obtain ⟨_, _, _, rfl⟩ := okWide_slice Try.underlying50 (hval 1 50 v1 rfl rfl)
    obtain ⟨fuel, hf⟩ := h1
    obtain ⟨A, n, c, xs, e1, hnc, hcm, _, hr, hx, hxl⟩ := open_rows (cells := Dd.cells) (Q := fun x => DdOk (Env.of W).heap x) Try.underlying50 cel55 (by decide) Dd.len open_do hf (LightAll.cons (LightAll.cons hwt).2).1
    simp [Value.cells] at e1
    obtain ⟨rfl, rfl, rfl⟩ := e1
    exact disk_lives_c (Mem.of W) ⟨hnc, hcm⟩ hr hx hxl (int_top w0)

theorem lives : Rows.DiskLivesSaid :=
  OpenClaim.holds_of_wide 7 Try.f7 rfl rfl rfl rfl rfl rfl rfl ⟨rfl, rfl, rfl, rfl, rfl⟩ rfl rfl rfl rfl rfl (by kernel_rfl) Try.func7 (by kernel_rfl)
    (of_decide_eq_true (by kernel_rfl)) (by unfold Func.isWrapper; rw [if_neg (of_decide_eq_false (by kernel_rfl))]; exact ⟨rfl, rfl⟩)
    (fun os started H enc _ => lives_lifted os started H enc)
end Go.Proofs.Ytjohjlhjeommiaa
