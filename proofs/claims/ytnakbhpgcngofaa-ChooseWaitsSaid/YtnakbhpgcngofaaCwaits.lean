/- ChooseWaits: nobody is taken but by a quorum of each config, nor ahead of two ticks. Conditions: none. -/
import Derived.Test.Ytnakbhpgcngofaa20v
namespace Go.Bd
open Go.Proofs Go.ChangeShapes Go.WideShapes
set_option linter.unusedVariables false
set_option linter.unusedSimpArgs false
set_option maxRecDepth 20000

set_option maxHeartbeats 8000000 in
theorem choose_waits_c {F : Env} {w : World} {A0 A2 : Option Addr} {n0 c0 n2 c2 : Nat} {a1 : Int} {es : List En} {ds : List Dd} (hes : ERow F.heap A0 n0 es) (hsm : ∀ e ∈ es, e.n * 32 ≤ 140737488355328)
    (hrd : Row F.heap A2 (n2 * 46) (ds.flatMap Dd.cells)) (hdl : ds.length = n2) (hn2 : n2 ≤ maxLen) (hn0 : n0 ≤ maxLen) (hm : Mem F w []) :
    Calls Try.prog 6 #[.slice A0 n0 c0, .int .i64 a1, .slice A2 n2 c2] w (Ret fun v w' => v = .bool true ∧ Mem F w' []) := by
  have hel := hes.len
  unfold maxLen at hn2 hn0
  refine Calls.of_vc Try.func6 rfl Try.ntmps6 rfl ?_
  repeat (first | refine VC.seq ?_ | refine VC.block ?_ | refine VC.skip ?_)
  refine VC.region ?_
  refine VR.pure rfl rfl (p_assignB rfl) ?_
  refine VR.nil ?_
  repeat (first | refine VC.seq ?_ | refine VC.block ?_ | refine VC.skip ?_)
  refine VC.region ?_
  refine VR.call rfl rfl (r_call0 Try.call7) (awake_c hm) ?_
  rintro _ w ⟨rfl, hm⟩
  refine VR.pure rfl rfl (p_not rfl) ?_
  refine VR.nil ?_
  repeat (first | refine VC.seq ?_ | refine VC.block ?_ | refine VC.skip ?_)
  refine VC.condF rfl rfl ?_
  repeat (first | refine VC.seq ?_ | refine VC.block ?_ | refine VC.skip ?_)
  refine VC.region ?_
  refine VR.pure rfl rfl (p_moveL rfl) ?_
  refine VR.pure rfl rfl (p_len Try.underlying23 rfl) ?_
  refine VR.pure rfl rfl (p_gt rfl rfl) ?_
  refine VR.pure rfl rfl (p_moveB rfl) ?_
  refine VR.splitD 24 rfl (fun h3 => ?_) (fun h3 => ?_)
  refine VR.pass rfl rfl ?_
  refine VR.pass rfl rfl ?_
  refine VR.pass rfl rfl ?_
  refine VR.pure rfl rfl (p_pickT rfl rfl) ?_
  refine VR.nil ?_
  rotate_left 1
  refine VR.pureG rfl rfl (p_moveL rfl) ?_
  refine VR.pureG rfl rfl (p_len Try.underlying24 rfl) ?_
  refine VR.pureG rfl rfl (p_gt rfl rfl) ?_
  refine VR.pure rfl rfl (p_pickF rfl rfl) ?_
  refine VR.nil ?_
  rotate_left 1
  · repeat (first | refine VC.seq ?_ | refine VC.block ?_ | refine VC.skip ?_)
    refine VC.condT rfl rfl ?_
    repeat (first | refine VC.seq ?_ | refine VC.block ?_ | refine VC.skip ?_)
    refine VC.region ?_
    refine VR.pure rfl rfl (p_assignB rfl) ?_
    refine VR.nil ?_
    repeat (first | refine VC.seq ?_ | refine VC.block ?_ | refine VC.skip ?_)
    refine VC.ret ⟨_, ResOf.r1 (v := .bool _) rfl rfl, ?_⟩
    exact ⟨rfl, hm⟩
  repeat (first | refine VC.seq ?_ | refine VC.block ?_ | refine VC.skip ?_)
  refine VC.condD rfl (fun h7 => ?_) (fun h7 => ?_)
  · repeat (first | refine VC.seq ?_ | refine VC.block ?_ | refine VC.skip ?_)
    refine VC.region ?_
    refine VR.pure rfl rfl (p_assignB rfl) ?_
    refine VR.nil ?_
    repeat (first | refine VC.seq ?_ | refine VC.block ?_ | refine VC.skip ?_)
    refine VC.ret ⟨_, ResOf.r1 (v := .bool _) rfl rfl, ?_⟩
    exact ⟨rfl, hm⟩
  repeat (first | refine VC.seq ?_ | refine VC.block ?_ | refine VC.skip ?_)
  refine VC.region ?_
  refine VR.pure rfl rfl (p_moveI rfl) ?_
  refine VR.call rfl rfl (r_call2 Try.call14 rfl rfl) (pick_c (n := 7) (by decide)) ?_
  rintro _ _ ⟨⟨i, hi, rfl⟩, rfl⟩
  refine VR.pure rfl rfl (p_add64 rfl rfl (by omega)) ?_
  refine VR.pure rfl rfl (p_assignI rfl) ?_
  refine VR.nil ?_
  have hme : 1 ≤ 1 + (i : Int) ∧ 1 + (i : Int) ≤ 7 := by omega
  generalize 1 + (i : Int) = me at hme
  repeat (first | refine VC.seq ?_ | refine VC.block ?_ | refine VC.skip ?_)
  refine VC.region ?_
  refine VR.pure rfl rfl (p_moveI rfl) ?_
  refine VR.pure rfl rfl (p_moveL rfl) ?_
  refine VR.call rfl rfl (r_call4 Try.call9 rfl rfl rfl rfl) (new_c (id := me) hm hme (by omega) hes hsm) ?_
  rintro _ w ⟨g, m0, C0, G, rfl, hu, hC0, hab0, hm⟩
  refine VR.pure rfl rfl (p_assignP rfl) ?_
  refine VR.nil ?_
  repeat (first | refine VC.seq ?_ | refine VC.block ?_ | refine VC.skip ?_)
  refine VC.region ?_
  refine VR.new hm rfl rfl (n_makeSlice (s := 43) (bytes := 472) Try.underlying77 inf52 rfl rfl rfl rfl rfl (by omega) (by omega)) ?_
  intro gl w hm
  refine VR.pure rfl rfl (p_assignL rfl) ?_
  refine VR.nil ?_
  repeat (first | refine VC.seq ?_ | refine VC.block ?_ | refine VC.skip ?_)
  refine VC.region ?_
  refine VR.pure rfl rfl (p_assignI rfl) ?_
  refine VR.nil ?_
  repeat (first | refine VC.seq ?_ | refine VC.block ?_ | refine VC.skip ?_)
  refine VC.region ?_
  refine VR.pure rfl rfl (p_assignI rfl) ?_
  refine VR.nil ?_
  have hesG := hes.mono hu.heap
  have hab1 : C0.es.map En.abs = es.map En.abs := congrArg Ca.es hab0
  have hcalm0 : C0.calm = 0 := congrArg Ca.calm hab0
  have hinv0 : WInv me C0.abs ((List.replicate 8 lc0).map Lc.t) := by
    rw [hab0]
    exact ⟨rfl, rfl, fun f hf => absurd hf (by simp [newA, turnA])⟩
  repeat (first | refine VC.seq ?_ | refine VC.block ?_ | refine VC.skip ?_)
  refine VC.loop (σ := Nat × Nat × Ch × Array Value × List Lc) (fun s => [(0, .slice A0 n0 c0), (2, .slice A2 n2 c2), (7, .int .i64 me), (8, .pointer (some ⟨g, 0, none⟩)), (9, .slice (some ⟨gl, 0, none⟩) 8 8), (10, .int .i64 s.2.2.1.calm), (11, .int .i64 s.1)])
    (fun s w => s.1 ≤ n2 ∧ Mem G w ([(g, s.2.2.1.obj s.2.1)] :: [(s.2.1, s.2.2.1.map)] :: [(gl, .cells s.2.2.2.1 52 (0, 0))] :: []) ∧ ChOk G.heap s.2.2.1 ∧ s.2.2.1.es.map En.abs = es.map En.abs ∧ WInv me s.2.2.1.abs (s.2.2.2.2.map Lc.t) ∧ LastAt s.2.2.2.1 s.2.2.2.2 ∧ 0 ≤ s.2.2.1.calm ∧ s.2.2.1.calm ≤ s.1)
    (fun s => n2 - s.1) (0, m0, C0, _, List.replicate 8 lc0) ⟨rfl, rfl, rfl, rfl, rfl, congrArg (Value.int .i64) hcalm0.symm, rfl, trivial⟩ ⟨by omega, ((hm.pull 2 rfl).pull 2 rfl), hC0, hab1, hinv0, LastAt.made rfl, by show 0 ≤ C0.calm; omega, by show C0.calm ≤ _; omega⟩ ?_
  clear hm
  rintro ⟨k, m, C, cur, ls⟩ AA w ⟨hk, hm, hC, hab, hinv, hla, hcl, hcu⟩
  dsimp only at hk hm hC hab hinv hla hcl hcu ⊢
  have hid := hC.id
  repeat (first | refine VC.seq ?_ | refine VC.block ?_ | refine VC.skip ?_)
  refine VC.region ?_
  refine VR.pure rfl rfl (p_moveI rfl) ?_
  refine VR.pure rfl rfl (p_moveL rfl) ?_
  refine VR.pure rfl rfl (p_len Try.underlying24 rfl) ?_
  refine VR.pure rfl rfl (p_lt rfl rfl) ?_
  refine VR.nil ?_
  repeat (first | refine VC.seq ?_ | refine VC.block ?_ | refine VC.skip ?_)
  refine VC.condD rfl (fun hlt => ?_) (fun hlt => ?_)
  · have hk' : k < n2 := by omega
    obtain ⟨x, hx, hxm⟩ := get_of (xs := ds) (k := k) (by omega)
    obtain ⟨b, off, blk, T, fr, rfl, hb, hcc⟩ := hrd.elem Dd.len (by decide) (by omega)
    replace hb := hu.heap _ _ hb
    have hx0 : blk[off + k * 46 + 0]? = some (.int .i64 x.kind) := hcc k x hx 0 (by decide)
    have hx1 : blk[off + k * 46 + 1]? = some (.int .i64 x.frm) := hcc k x hx 1 (by decide)
    have hxl : ∀ j, j < 43 → blk[off + k * 46 + 2 + j]? = x.l.cs[j]? := fun j hj => by
      have := hcc k x hx (2 + j) (by omega)
      rw [Dd.let_ x hj] at this
      rw [Nat.add_assoc]
      exact this
    refine VC.skip ?_
    refine VC.seq ?_
    refine VC.meet (σ := Nat × Ch × Array Value × List Lc) (fun s => [(0, .slice A0 n0 c0), (2, .slice (some ⟨b, off, none⟩) n2 c2), (7, .int .i64 me), (8, .pointer (some ⟨g, 0, none⟩)), (9, .slice (some ⟨gl, 0, none⟩) 8 8), (10, .int .i64 s.2.1.calm), (11, .int .i64 k)])
      (fun s w => Mem G w ([(g, s.2.1.obj s.1)] :: [(s.1, s.2.1.map)] :: [(gl, .cells s.2.2.1 52 (0, 0))] :: []) ∧ ChOk G.heap s.2.1 ∧ s.2.1.es.map En.abs = es.map En.abs ∧ WInv me s.2.1.abs (s.2.2.2.map Lc.t) ∧ LastAt s.2.2.1 s.2.2.2 ∧ 0 ≤ s.2.1.calm ∧ s.2.1.calm ≤ (k + 1 : Nat)) ?_ ?_
    rotate_left
    · rintro ⟨m', C', cur', ls'⟩ A3 w ⟨hm', hC', hab', hinv', hla', hcl', hcu'⟩
      dsimp only at hm' hC' hab' hinv' hla' hcl' hcu' ⊢
      repeat (first | refine VC.seq ?_ | refine VC.block ?_ | refine VC.skip ?_)
      refine VC.region ?_
      refine VR.pure rfl rfl (p_moveI rfl) ?_
      refine VR.pure rfl rfl (p_add64 rfl rfl (by omega)) ?_
      refine VR.pure rfl rfl (p_assignI rfl) ?_
      refine VR.nil ?_
      exact ⟨(k + 1, m', C', cur', ls'), ⟨rfl, rfl, rfl, rfl, rfl, rfl, rfl, trivial⟩, ⟨by show k + 1 ≤ n2; omega, hm', hC', hab', hinv', hla', hcl', hcu'⟩, by show n2 - (k + 1) < n2 - k; omega⟩
    repeat (first | refine VC.seq ?_ | refine VC.block ?_ | refine VC.skip ?_)
    repeat (first | refine VC.seq ?_ | refine VC.block ?_ | refine VC.skip ?_)
    refine VC.region ?_
    refine VR.pure rfl rfl (p_moveL rfl) ?_
    refine VR.pure rfl rfl (p_moveI rfl) ?_
    refine VR.pure rfl rfl (p_idxN Try.underlying24 Try.sizeOf54 rfl rfl hk') ?_
    refine VR.pure rfl rfl (p_field (fo := 0) Try.underlying54 rfl Try.sizeOf3 rfl rfl rfl) ?_
    refine VR.val rfl rfl (r_load (v := .int _ _) Try.isAgg3 rfl (hm.fix _ _ hb) hx0) ?_
    refine VR.pure rfl rfl (p_rem rfl rfl (by omega)) ?_
    refine VR.pure rfl rfl (p_eq rfl rfl) ?_
    refine VR.nil ?_
    repeat (first | refine VC.seq ?_ | refine VC.block ?_ | refine VC.skip ?_)
    refine VC.condD rfl (fun h12 => ?_) (fun h12 => ?_)
    · obtain ⟨w1, w2, w3, w4, w5, w6⟩ := tick_waits hinv (a := C.abs) (ls := ls.map Lc.t) ⟨hcl, by show C.calm ≤ 900; omega⟩
      replace w1 : (tickA C.abs).2.calm = C.calm + 1 := w1
      repeat (first | refine VC.seq ?_ | refine VC.block ?_ | refine VC.skip ?_)
      refine VC.region ?_
      refine VR.pure rfl rfl (p_moveP rfl) ?_
      refine VR.call rfl rfl (r_call1 Try.call17 rfl) (tick_c hm hC) ?_
      rintro _ w ⟨C', rfl, hC', hab', hm⟩
      refine VR.pure rfl rfl (p_moveT rfl) ?_
      refine VR.pure rfl rfl (p_extract rfl rfl) ?_
      refine VR.pure rfl rfl (p_extract rfl rfl) ?_
      refine VR.pure rfl rfl (p_assignI rfl) ?_
      refine VR.pure rfl rfl (p_assignB rfl) ?_
      refine VR.nil ?_
      have hcal : C'.calm = C.calm + 1 := (congrArg Ca.calm hab').trans w1
      have hes' : C'.es.map En.abs = es.map En.abs := ((congrArg Ca.es hab').trans w5).trans hab
      rw [← hab'] at w2
      have hrd' : C'.round = C.round := (congrArg Ca.round hab').trans w3
      have hv' : C'.v = C.v := (congrArg Ca.v hab').trans w4
      repeat (first | refine VC.seq ?_ | refine VC.block ?_ | refine VC.skip ?_)
      refine VC.region ?_
      refine VR.pure rfl rfl (p_moveI rfl) ?_
      refine VR.pure rfl rfl (p_add64 rfl rfl (by omega)) ?_
      refine VR.pure rfl rfl (p_assignI rfl) ?_
      refine VR.nil ?_
      repeat (first | refine VC.seq ?_ | refine VC.block ?_ | refine VC.skip ?_)
      refine VC.region ?_
      refine VR.pure rfl rfl (p_moveB rfl) ?_
      refine VR.pure rfl rfl (p_not rfl) ?_
      refine VR.nil ?_
      by_cases hok : (tickA C.abs).1.2 = true
      · obtain ⟨h2, hxv, hq⟩ := w6 hok
        replace h2 : 2 ≤ C.calm + 1 := h2
        replace hxv : (tickA C.abs).1.1 = C.v.l := hxv
        repeat (first | refine VC.seq ?_ | refine VC.block ?_ | refine VC.skip ?_)
        refine VC.condF rfl (by rw [hok]; rfl) ?_
        repeat (first | refine VC.seq ?_ | refine VC.block ?_ | refine VC.skip ?_)
        refine VC.region ?_
        refine VR.pure rfl rfl (p_moveI rfl) ?_
        refine VR.new hm rfl rfl (n_buildSlice1 (vs := [.int _ _]) Try.underlying70 inf3 rfl rfl rfl rfl rfl rfl rfl) ?_
        intro b59 w hm
        refine VR.pure rfl rfl (p_assignL rfl) ?_
        refine VR.nil ?_
        have ho0 : OwnS 3 1 (some ⟨b59, 0, none⟩) 1 1 (intsV [me]) [(b59, .cells #[.int .i64 me] 3 (0, 0))] := OwnS.whole (by decide) rfl
        repeat (first | refine VC.seq ?_ | refine VC.block ?_ | refine VC.skip ?_)
        refine VC.region ?_
        refine VR.pure rfl rfl (p_assignI rfl) ?_
        refine VR.nil ?_
        repeat (first | refine VC.seq ?_ | refine VC.block ?_ | refine VC.skip ?_)
        refine VC.loop (σ := Nat × Option Addr × Nat × List Int × Blks) (fun s => [(0, .slice A0 n0 c0), (2, .slice (some ⟨b, off, none⟩) n2 c2), (7, .int .i64 me), (8, .pointer (some ⟨g, 0, none⟩)), (9, .slice (some ⟨gl, 0, none⟩) 8 8), (10, .int .i64 (C.calm + 1)), (11, .int .i64 k), (12, .int .i64 C.v.l), (14, .slice s.2.1 s.2.2.2.1.length s.2.2.1), (15, .int .i64 s.1)])
          (fun s w => Mem G w (s.2.2.2.2 :: [(g, C'.obj m)] :: [(m, C'.map)] :: [(gl, .cells cur 52 (0, 0))] :: []) ∧ OwnS 3 1 s.2.1 s.2.2.2.1.length s.2.2.1 (intsV s.2.2.2.1) s.2.2.2.2 ∧ 1 ≤ s.1 ∧ s.1 ≤ 8 ∧ s.2.2.2.1.length ≤ s.1 ∧ me ∈ s.2.2.2.1 ∧
            ∀ (q : Nat) (t : Lt), 1 ≤ q → q < s.1 → (ls.map Lc.t)[q]? = some t → t.k = 1 → t.l = C.v.l → t.r = C.round → (q : Int) ∈ s.2.2.2.1)
          (fun s => 8 - s.1) (1, _, 1, [me], _) ⟨rfl, rfl, rfl, rfl, rfl, rfl, rfl, congrArg (Value.int .i64) hxv, rfl, rfl, trivial⟩ ⟨hm, ho0, Nat.le_refl _, by show 1 ≤ 8; omega, Nat.le_refl _, .head _, fun q t h1 h2 => by dsimp only at h2; omega⟩ ?_
        clear hm ho0
        rintro ⟨j, A, c, ns, L⟩ A4 w ⟨hm, ho, hj1, hj8, hnl, hmem, hall⟩
        dsimp only at hm ho hj1 hj8 hnl hmem hall ⊢
        repeat (first | refine VC.seq ?_ | refine VC.block ?_ | refine VC.skip ?_)
        refine VC.region ?_
        refine VR.pure rfl rfl (p_moveI rfl) ?_
        refine VR.pure rfl rfl (p_le rfl rfl) ?_
        refine VR.nil ?_
        repeat (first | refine VC.seq ?_ | refine VC.block ?_ | refine VC.skip ?_)
        refine VC.condD rfl (fun hj => ?_) (fun hj => ?_)
        · have hj7 : j ≤ 7 := by omega
          obtain ⟨l, hl, _⟩ := get_of (xs := ls) (k := j) (by rw [hla.len]; omega)
          have hlt : (ls.map Lc.t)[j]? = some l.t := by rw [List.getElem?_map, hl]; rfl
          have hl0 := (hla.at_ j l hl 0 (by decide)).trans l.k
          have hl2 := (hla.at_ j l hl 2 (by decide)).trans l.r
          have hl3 := (hla.at_ j l hl 3 (by decide)).trans l.ld
          repeat (first | refine VC.seq ?_ | refine VC.block ?_ | refine VC.skip ?_)
          refine VC.loud (Kept G ([(gl, .cells cur 52 (0, 0))] :: [])) [22] rfl (by kernel_rfl) (Kept.mem hm.drew (by simp)) ?_
          replace hm := hm.drew
          refine VL.pure rfl rfl rfl (p_moveL rfl) ?_
          refine VL.pure rfl rfl rfl (p_moveI rfl) ?_
          refine VL.pure rfl rfl rfl (p_idxN Try.underlying77 Try.sizeOf52 rfl rfl (show j < 8 by omega)) ?_
          refine VL.pure rfl rfl rfl (p_field (fo := 0) Try.underlying52 rfl Try.sizeOf34 rfl rfl rfl) ?_
          refine VL.read rfl rfl rfl (fun w' hw' => r_load (v := .int _ _) Try.isAgg34 rfl (hw'.at_ 0 0 rfl) hl0) ?_
          refine VL.pure rfl rfl rfl (p_eq rfl rfl) ?_
          refine VL.pure rfl rfl rfl (p_moveB rfl) ?_
          refine VL.splitD 70 rfl (fun q6 => ?_) (fun q6 => ?_)
          refine VL.pureG rfl rfl rfl (p_moveL rfl) ?_
          refine VL.pureG rfl rfl rfl (p_moveI rfl) ?_
          refine VL.pureG rfl rfl rfl (p_idxN Try.underlying77 Try.sizeOf52 rfl rfl (show j < 8 by omega)) ?_
          refine VL.pureG rfl rfl rfl (p_field (fo := 3) Try.underlying52 rfl Try.sizeOf3 rfl rfl rfl) ?_
          refine VL.readG rfl rfl rfl (fun w' hw' => r_load (v := .int _ _) Try.isAgg3 rfl (hw'.at_ 0 0 rfl) hl3) ?_
          refine VL.pureG rfl rfl rfl (p_moveI rfl) ?_
          refine VL.pureG rfl rfl rfl (p_eq rfl rfl) ?_
          refine VL.pure rfl rfl rfl (p_pickT rfl rfl) ?_
          refine VL.pure rfl rfl rfl (p_moveB rfl) ?_
          refine VL.splitD 79 rfl (fun q15 => ?_) (fun q15 => ?_)
          refine VL.pureG rfl rfl rfl (p_moveL rfl) ?_
          refine VL.pureG rfl rfl rfl (p_moveI rfl) ?_
          refine VL.pureG rfl rfl rfl (p_idxN Try.underlying77 Try.sizeOf52 rfl rfl (show j < 8 by omega)) ?_
          refine VL.pureG rfl rfl rfl (p_field (fo := 2) Try.underlying52 rfl Try.sizeOf3 rfl rfl rfl) ?_
          refine VL.readG rfl rfl rfl (fun w' hw' => r_load (v := .int _ _) Try.isAgg3 rfl (hw'.at_ 0 0 rfl) hl2) ?_
          refine VL.pureG rfl rfl rfl (p_moveP rfl) ?_
          refine VL.callG rfl rfl rfl (r_call1 Try.call22 rfl) (vote_f (C := C') hm.all (hm.plus_at 1 0 rfl) hC'.id.1) ?_
          rintro _ w ⟨rfl, hm'⟩
          replace hm := hm.back0 hm'
          refine ⟨Kept.mem hm (by simp), ?_⟩
          refine VL.pureG rfl rfl rfl (p_fieldO Try.underlying52 rfl Try.isAgg3 rfl rfl) ?_
          refine VL.pureG rfl rfl rfl (p_eq rfl rfl) ?_
          refine VL.pure rfl rfl rfl (p_pickT rfl rfl) ?_
          refine VL.nil ?_
          rotate_left 1
          refine VL.pass rfl rfl ?_
          refine VL.pass rfl rfl ?_
          refine VL.pass rfl rfl ?_
          refine VL.pass rfl rfl ?_
          refine VL.pass rfl rfl ?_
          refine VL.pass rfl rfl ?_
          refine VL.pass rfl rfl ?_
          refine VL.pass rfl rfl ?_
          refine VL.pass rfl rfl ?_
          refine VL.pure rfl rfl rfl (p_pickF rfl rfl) ?_
          refine VL.nil ?_
          rotate_left 1
          refine VL.pass rfl rfl ?_
          refine VL.pass rfl rfl ?_
          refine VL.pass rfl rfl ?_
          refine VL.pass rfl rfl ?_
          refine VL.pass rfl rfl ?_
          refine VL.pass rfl rfl ?_
          refine VL.pass rfl rfl ?_
          refine VL.pure rfl rfl rfl (p_pickF rfl rfl) ?_
          refine VL.pure rfl rfl rfl (p_moveB rfl) ?_
          refine VL.pass rfl rfl ?_
          refine VL.pass rfl rfl ?_
          refine VL.pass rfl rfl ?_
          refine VL.pass rfl rfl ?_
          refine VL.pass rfl rfl ?_
          refine VL.pass rfl rfl ?_
          refine VL.pass rfl rfl ?_
          refine VL.pass rfl rfl ?_
          refine VL.pass rfl rfl ?_
          refine VL.pure rfl rfl rfl (p_pickF rfl rfl) ?_
          refine VL.nil ?_
          rotate_left 1
          · repeat (first | refine VC.seq ?_ | refine VC.block ?_ | refine VC.skip ?_)
            refine VC.condD rfl (fun q25 => ?_) (fun q25 => ?_)
            · repeat (first | refine VC.seq ?_ | refine VC.block ?_ | refine VC.skip ?_)
              refine VC.region ?_
              refine VR.pure rfl rfl (p_moveL rfl) ?_
              refine VR.pure rfl rfl (p_moveI rfl) ?_
              refine VR.new hm rfl rfl (n_buildSlice1 (vs := [.int _ _]) Try.underlying70 inf3 rfl rfl rfl rfl rfl rfl rfl) ?_
              intro b92 w hm
              replace hm := hm.pull 1 rfl
              refine VR.append (s := 1) (bytes := 8) Try.underlying70 inf3 rfl rfl rfl rfl rfl rfl rfl rfl rfl hm ho (Row.lit (cs := [.int .i64 j]) (hm.at_ 1 0 rfl)) (intsV_one [(j : Int)]) rfl ⟨by unfold maxLen; omega, by omega⟩ ?_
              intro A3 c3 w L3 ho3 hm
              refine VR.pure rfl rfl (p_assignL rfl) ?_
              refine VR.nil ?_
              repeat (first | refine VC.seq ?_ | refine VC.block ?_ | refine VC.skip ?_)
              refine VC.region ?_
              refine VR.pure rfl rfl (p_moveI rfl) ?_
              refine VR.pure rfl rfl (p_add64 rfl rfl (by omega)) ?_
              refine VR.pure rfl rfl (p_assignI rfl) ?_
              refine VR.nil ?_
              have ho4 : OwnS 3 1 A3 (ns ++ [(j : Int)]).length c3 (intsV (ns ++ [(j : Int)])) L3 := by
                unfold intsV
                rw [List.map_append, List.length_append]
                exact ho3
              refine ⟨(j + 1, A3, c3, ns ++ [(j : Int)], L3), ⟨rfl, rfl, rfl, rfl, rfl, rfl, rfl, rfl, by rw [List.length_append]; rfl, rfl, trivial⟩, ⟨hm.pop2, ho4, by omega, by show j + 1 ≤ 8; omega, by rw [List.length_append]; show ns.length + 1 ≤ j + 1; omega, List.mem_append_left _ hmem, fun q t h1 h2 h3 h4 h5 h6 => ?_⟩, by show 8 - (j + 1) < 8 - j; omega⟩
              by_cases hqj : q = j
              · subst hqj
                exact List.mem_append_right _ (.head _)
              · exact List.mem_append_left _ (hall q t h1 (by dsimp only at h2; omega) h3 h4 h5 h6)
            · repeat (first | refine VC.seq ?_ | refine VC.block ?_ | refine VC.skip ?_)
              have q26 : ¬ l.t.r = C.round := fun h => q25 (h.trans hrd'.symm)
              repeat (first | refine VC.seq ?_ | refine VC.block ?_ | refine VC.skip ?_)
              refine VC.region ?_
              refine VR.pure rfl rfl (p_moveI rfl) ?_
              refine VR.pure rfl rfl (p_add64 rfl rfl (by omega)) ?_
              refine VR.pure rfl rfl (p_assignI rfl) ?_
              refine VR.nil ?_
              refine ⟨(j + 1, A, c, ns, L), ⟨rfl, rfl, rfl, rfl, rfl, rfl, rfl, rfl, rfl, rfl, trivial⟩, ⟨hm, ho, by omega, by show j + 1 ≤ 8; omega, by show ns.length ≤ j + 1; omega, hmem, fun q t h1 h2 h3 h4 h5 h6 => ?_⟩, by show 8 - (j + 1) < 8 - j; omega⟩
              by_cases hqj : q = j
              · subst hqj
                rw [hlt] at h3
                obtain rfl := Option.some.inj h3
                exact absurd h6 q26
              · exact hall q t h1 (by dsimp only at h2; omega) h3 h4 h5 h6
          · repeat (first | refine VC.seq ?_ | refine VC.block ?_ | refine VC.skip ?_)
            refine VC.condF rfl rfl ?_
            repeat (first | refine VC.seq ?_ | refine VC.block ?_ | refine VC.skip ?_)
            refine VC.region ?_
            refine VR.pure rfl rfl (p_moveI rfl) ?_
            refine VR.pure rfl rfl (p_add64 rfl rfl (by omega)) ?_
            refine VR.pure rfl rfl (p_assignI rfl) ?_
            refine VR.nil ?_
            refine ⟨(j + 1, A, c, ns, L), ⟨rfl, rfl, rfl, rfl, rfl, rfl, rfl, rfl, rfl, rfl, trivial⟩, ⟨hm, ho, by omega, by show j + 1 ≤ 8; omega, by show ns.length ≤ j + 1; omega, hmem, fun q t h1 h2 h3 h4 h5 h6 => ?_⟩, by show 8 - (j + 1) < 8 - j; omega⟩
            by_cases hqj : q = j
            · subst hqj
              rw [hlt] at h3
              obtain rfl := Option.some.inj h3
              exact absurd h5 q15
            · exact hall q t h1 (by dsimp only at h2; omega) h3 h4 h5 h6
          · repeat (first | refine VC.seq ?_ | refine VC.block ?_ | refine VC.skip ?_)
            refine VC.condF rfl rfl ?_
            repeat (first | refine VC.seq ?_ | refine VC.block ?_ | refine VC.skip ?_)
            refine VC.region ?_
            refine VR.pure rfl rfl (p_moveI rfl) ?_
            refine VR.pure rfl rfl (p_add64 rfl rfl (by omega)) ?_
            refine VR.pure rfl rfl (p_assignI rfl) ?_
            refine VR.nil ?_
            refine ⟨(j + 1, A, c, ns, L), ⟨rfl, rfl, rfl, rfl, rfl, rfl, rfl, rfl, rfl, rfl, trivial⟩, ⟨hm, ho, by omega, by show j + 1 ≤ 8; omega, by show ns.length ≤ j + 1; omega, hmem, fun q t h1 h2 h3 h4 h5 h6 => ?_⟩, by show 8 - (j + 1) < 8 - j; omega⟩
            by_cases hqj : q = j
            · subst hqj
              rw [hlt] at h3
              obtain rfl := Option.some.inj h3
              exact absurd h4 q6
            · exact hall q t h1 (by dsimp only at h2; omega) h3 h4 h5 h6
        · repeat (first | refine VC.seq ?_ | refine VC.block ?_ | refine VC.skip ?_)
          refine VC.exit ?_
          have hqq := hq ns hmem fun q t h1 h2 h3 h4 h5 h6 => hall q t h1 (by omega) h3 h4 h5 h6
          have hqe : allA (es.map En.abs) ns = true := by
            rw [← hab]
            exact hqq
          repeat (first | refine VC.seq ?_ | refine VC.block ?_ | refine VC.skip ?_)
          refine VC.region ?_
          refine VR.pure rfl rfl (p_moveI rfl) ?_
          refine VR.pure rfl rfl (p_lt rfl rfl) ?_
          refine VR.pure rfl rfl (p_moveB rfl) ?_
          refine VR.knownF 96 rfl (decide_eq_false (by omega)) ?_
          refine VR.pureG rfl rfl (p_moveI rfl) ?_
          refine VR.pureG rfl rfl (p_moveP rfl) ?_
          refine VR.callG rfl rfl (r_call1 Try.call22 rfl) (vote_f (C := C') hm.all (hm.plus_at 1 0 rfl) hC'.id.1) ?_
          rintro _ w ⟨rfl, hm'⟩
          replace hm := hm.back0 hm'
          refine VR.pureG rfl rfl (p_fieldO Try.underlying52 rfl Try.isAgg3 rfl rfl) ?_
          refine VR.pureG rfl rfl (p_ne rfl rfl) ?_
          refine VR.pure rfl rfl (p_pickF rfl rfl) ?_
          refine VR.pure rfl rfl (p_moveB rfl) ?_
          refine VR.knownF 103 rfl (decide_eq_false (not_not_intro (by rw [hv']))) ?_
          refine VR.pureG rfl rfl (p_moveL rfl) ?_
          refine VR.pureG rfl rfl (p_moveL rfl) ?_
          refine VR.callG rfl rfl (r_call2 Try.call27 rfl rfl) (all2_c (es := es) (ids := ns) hm.all (by unfold maxLen; omega) (hesG.mono hm.le) (by unfold maxLen; omega) (ho.row1 (hm.plus_i 0 rfl))) ?_
          rintro _ w ⟨rfl, hm'⟩
          replace hm := hm.back0 hm'
          refine VR.pureG rfl rfl (p_not rfl) ?_
          refine VR.pure rfl rfl (p_pickF rfl rfl) ?_
          refine VR.nil ?_
          repeat (first | refine VC.seq ?_ | refine VC.block ?_ | refine VC.skip ?_)
          refine VC.condF rfl (by rw [hqe]; rfl) ?_
          repeat (first | refine VC.seq ?_ | refine VC.block ?_ | refine VC.skip ?_)
          refine VC.exit ?_
          exact ⟨(m, C', cur, ls), ⟨rfl, rfl, rfl, rfl, rfl, congrArg (Value.int .i64) hcal.symm, rfl, trivial⟩, hm.pop, hC', hes', w2, hla, by show 0 ≤ C'.calm; omega, by show C'.calm ≤ _; omega⟩
      · repeat (first | refine VC.seq ?_ | refine VC.block ?_ | refine VC.skip ?_)
        refine VC.condT rfl (by rw [Bool.not_eq_true _ |>.mp hok]; rfl) ?_
        repeat (first | refine VC.seq ?_ | refine VC.block ?_ | refine VC.skip ?_)
        refine VC.exit ?_
        exact ⟨(m, C', cur, ls), ⟨rfl, rfl, rfl, rfl, rfl, congrArg (Value.int .i64) hcal.symm, rfl, trivial⟩, hm, hC', hes', w2, hla, by show 0 ≤ C'.calm; omega, by show C'.calm ≤ _; omega⟩
    · repeat (first | refine VC.seq ?_ | refine VC.block ?_ | refine VC.skip ?_)
      repeat (first | refine VC.seq ?_ | refine VC.block ?_ | refine VC.skip ?_)
      refine VC.region ?_
      refine VR.pure rfl rfl (p_moveP rfl) ?_
      refine VR.call rfl rfl (r_call1 Try.call22 rfl) (vote_f (C := C) hm.all (hm.plus_at 0 0 rfl) hC.id.1) ?_
      rintro _ w ⟨rfl, hm'⟩
      replace hm := hm.back0 hm'
      refine VR.new hm rfl rfl (n_allocG Try.zeroValue52) ?_
      intro b16 w hm
      refine VR.store (cs' := (letA C.round C.v)) (v := .agg _) Try.sizeOf52 rfl rfl rfl rfl rfl hm 0 0 rfl (Nat.ble_eq.mp rfl) (lay_whole rfl) ?_
      intro w hm
      refine VR.nil ?_
      replace hm := (((hm.pull 3 rfl).pull 3 rfl).pull 3 rfl)
      repeat (first | refine VC.seq ?_ | refine VC.block ?_ | refine VC.skip ?_)
      refine VC.loud (Kept G []) [11] rfl (by kernel_rfl) (Kept.of0 hm.drew) ?_
      replace hm := hm.drew
      refine VL.pure rfl rfl rfl (p_moveP rfl) ?_
      refine VL.pure rfl rfl rfl (p_moveL rfl) ?_
      refine VL.pure rfl rfl rfl (p_moveI rfl) ?_
      refine VL.pure rfl rfl rfl (p_idxN Try.underlying24 Try.sizeOf54 rfl rfl hk') ?_
      refine VL.pure rfl rfl rfl (p_field (fo := 1) Try.underlying54 rfl Try.sizeOf3 rfl rfl rfl) ?_
      refine VL.read rfl rfl rfl (fun w' hw' => r_load (v := .int _ _) Try.isAgg3 rfl (hw'.fix _ _ hb) hx1) ?_
      refine VL.pure rfl rfl rfl (p_moveL rfl) ?_
      refine VL.pure rfl rfl rfl (p_moveI rfl) ?_
      refine VL.pure rfl rfl rfl (p_idxN Try.underlying24 Try.sizeOf54 rfl rfl hk') ?_
      refine VL.pure rfl rfl rfl (p_field (fo := 2) Try.underlying54 rfl Try.sizeOf52 rfl rfl rfl) ?_
      refine VL.read rfl rfl rfl (fun w' hw' => r_loadAgg (vs := x.l.cs) Try.isAgg52 Try.sizeOf52 rfl (hw'.fix _ _ hb) x.l.hl hxl) ?_
      refine VL.call rfl rfl rfl (r_call3 Try.call15 rfl rfl rfl) (hear_c (t := x.l.t) hm hC x.l.at_) ?_
      rintro _ w ⟨m', C', rfl, hC', hab', hm⟩
      refine ⟨Kept.of0 hm, ?_⟩
      refine VL.pure rfl rfl rfl (p_assignB rfl) ?_
      refine VL.nil ?_
      replace hm := (hm.pull 3 rfl)
      obtain ⟨G1, hu1, hm, hb16⟩ := hm.freeze
      replace hb16 := hb16 _ (.head _)
      have hb1 := hu1.heap _ _ hb
      have hab2 : C'.es.map En.abs = es.map En.abs := ((congrArg Ca.es hab').trans (hearA_es _ _ _).1).trans hab
      have hinv' := hinv.hear x.frm x.l.t
      obtain ⟨t1, t2, t3⟩ := hear_turned C.abs x.frm x.l.t
      rw [← hab'] at t1 t2 t3 hinv'
      generalize (hearA C.abs x.frm x.l.t).1 = trn at t1 t3
      replace t1 : trn = !decide (C.round = C'.round ∧ C.v = C'.v) := t1
      replace t2 : C.round ≤ C'.round := t2
      replace t3 : C'.calm = if trn = true then 0 else C.calm := t3
      repeat (first | refine VC.seq ?_ | refine VC.block ?_ | refine VC.skip ?_)
      refine VC.region ?_
      refine VR.pure rfl rfl (p_moveP rfl) ?_
      refine VR.call rfl rfl (r_call1 Try.call22 rfl) (vote_f (C := C') hm.all (hm.plus_at 0 0 rfl) hC'.id.1) ?_
      rintro _ w ⟨rfl, hm'⟩
      replace hm := hm.back0 hm'
      refine VR.new hm rfl rfl (n_allocG Try.zeroValue52) ?_
      intro b18 w hm
      refine VR.store (cs' := (letA C'.round C'.v)) (v := .agg _) Try.sizeOf52 rfl rfl rfl rfl rfl hm 0 0 rfl (Nat.ble_eq.mp rfl) (lay_whole rfl) ?_
      intro w hm
      refine VR.nil ?_
      obtain ⟨G2, hu2, hm, hb18⟩ := hm.freeze
      replace hb18 := hb18 _ (.head _)
      replace hb16 := hu2.heap _ _ hb16
      have hb2 := hu2.heap _ _ hb1
      have hu12 := hu1.trans hu2
      repeat (first | refine VC.seq ?_ | refine VC.block ?_ | refine VC.skip ?_)
      refine VC.region ?_
      refine VR.pure rfl rfl (p_moveB rfl) ?_
      refine VR.nil ?_
      repeat (first | refine VC.seq ?_ | refine VC.block ?_ | refine VC.skip ?_)
      refine VC.meet (σ := Unit) (fun s => [(0, .slice A0 n0 c0), (2, .slice (some ⟨b, off, none⟩) n2 c2), (7, .int .i64 me), (8, .pointer (some ⟨g, 0, none⟩)), (9, .slice (some ⟨gl, 0, none⟩) 8 8), (10, .int .i64 C'.calm), (11, .int .i64 k), (16, .pointer (some ⟨b16, 0, none⟩)), (17, .bool trn), (18, .pointer (some ⟨b18, 0, none⟩))])
        (fun _ w => Mem G2 w ([(g, C'.obj m')] :: [(m', C'.map)] :: [(gl, .cells cur 52 (0, 0))] :: [])) ?_ ?_
      · by_cases ht : trn = true
        · repeat (first | refine VC.seq ?_ | refine VC.block ?_ | refine VC.skip ?_)
          refine VC.condT rfl ht ?_
          repeat (first | refine VC.seq ?_ | refine VC.block ?_ | refine VC.skip ?_)
          refine VC.region ?_
          refine VR.pure rfl rfl (p_assignI rfl) ?_
          refine VR.nil ?_
          exact ⟨(), ⟨rfl, rfl, rfl, rfl, rfl, congrArg (Value.int .i64) (by rw [t3, if_pos ht]), rfl, rfl, rfl, rfl, trivial⟩, hm⟩
        · repeat (first | refine VC.seq ?_ | refine VC.block ?_ | refine VC.skip ?_)
          refine VC.condF rfl (Bool.not_eq_true _ |>.mp ht) ?_
          repeat (first | refine VC.seq ?_ | refine VC.block ?_ | refine VC.skip ?_)
          exact ⟨(), ⟨rfl, rfl, rfl, rfl, rfl, congrArg (Value.int .i64) (by rw [t3, if_neg ht]), rfl, rfl, rfl, rfl, trivial⟩, hm⟩
      clear hm
      rintro _ A5 w hm
      repeat (first | refine VC.seq ?_ | refine VC.block ?_ | refine VC.skip ?_)
      refine VC.region ?_
      refine VR.pure rfl rfl (p_moveB rfl) ?_
      refine VR.val rfl rfl (r_loadAgg (vs := (letA C.round C.v).toList) Try.isAgg52 Try.sizeOf52 rfl (hm.fix _ _ hb16) rfl (agg_at rfl)) ?_
      refine VR.val rfl rfl (r_loadAgg (vs := (letA C'.round C'.v).toList) Try.isAgg52 Try.sizeOf52 rfl (hm.fix _ _ hb18) rfl (agg_at rfl)) ?_
      refine VR.call rfl rfl (r_call2 Try.call21 rfl rfl) (same_letter (k := 1) (s := 1) hm) ?_
      rintro _ w ⟨rfl, hm⟩
      refine VR.pure rfl rfl (p_eqB Try.underlying4 rfl rfl) ?_
      refine VR.pure rfl rfl (p_moveB rfl) ?_
      refine VR.knownF 131 rfl (by rw [t1]; cases decide (C.round = C'.round ∧ C.v = C'.v) <;> rfl) ?_
      refine VR.pureG rfl rfl (p_field (fo := 2) Try.underlying52 rfl Try.sizeOf3 rfl rfl rfl) ?_
      refine VR.valG rfl rfl (r_load (v := .int _ _) Try.isAgg3 rfl (hm.fix _ _ hb18) rfl) ?_
      refine VR.pureG rfl rfl (p_field (fo := 2) Try.underlying52 rfl Try.sizeOf3 rfl rfl rfl) ?_
      refine VR.valG rfl rfl (r_load (v := .int _ _) Try.isAgg3 rfl (hm.fix _ _ hb16) rfl) ?_
      refine VR.pureG rfl rfl (p_lt rfl rfl) ?_
      refine VR.pure rfl rfl (p_pickF rfl rfl) ?_
      refine VR.nil ?_
      repeat (first | refine VC.seq ?_ | refine VC.block ?_ | refine VC.skip ?_)
      refine VC.condF rfl (decide_eq_false (by omega)) ?_
      have hcl' : 0 ≤ C'.calm ∧ C'.calm ≤ (k + 1 : Nat) := by
        rw [t3]
        split <;> omega
      repeat (first | refine VC.seq ?_ | refine VC.block ?_ | refine VC.skip ?_)
      refine VC.loud (Kept G2 []) [] rfl (by kernel_rfl) (Kept.of0 hm.drew) ?_
      replace hm := hm.drew
      refine VL.pure rfl rfl rfl (p_moveL rfl) ?_
      refine VL.pure rfl rfl rfl (p_moveI rfl) ?_
      refine VL.pure rfl rfl rfl (p_idxN Try.underlying24 Try.sizeOf54 rfl rfl hk') ?_
      refine VL.pure rfl rfl rfl (p_field (fo := 1) Try.underlying54 rfl Try.sizeOf3 rfl rfl rfl) ?_
      refine VL.read rfl rfl rfl (fun w' hw' => r_load (v := .int _ _) Try.isAgg3 rfl (hw'.fix _ _ hb2) hx1) ?_
      refine VL.pure rfl rfl rfl (p_ge rfl rfl) ?_
      refine VL.pure rfl rfl rfl (p_moveB rfl) ?_
      refine VL.splitD 144 rfl (fun q6 => ?_) (fun q6 => ?_)
      refine VL.pureG rfl rfl rfl (p_moveL rfl) ?_
      refine VL.pureG rfl rfl rfl (p_moveI rfl) ?_
      refine VL.pureG rfl rfl rfl (p_idxN Try.underlying24 Try.sizeOf54 rfl rfl hk') ?_
      refine VL.pureG rfl rfl rfl (p_field (fo := 1) Try.underlying54 rfl Try.sizeOf3 rfl rfl rfl) ?_
      refine VL.readG rfl rfl rfl (fun w' hw' => r_load (v := .int _ _) Try.isAgg3 rfl (hw'.fix _ _ hb2) hx1) ?_
      refine VL.pureG rfl rfl rfl (p_le rfl rfl) ?_
      refine VL.pure rfl rfl rfl (p_pickT rfl rfl) ?_
      refine VL.pure rfl rfl rfl (p_moveB rfl) ?_
      refine VL.splitD 152 rfl (fun q14 => ?_) (fun q14 => ?_)
      refine VL.pureG rfl rfl rfl (p_moveL rfl) ?_
      refine VL.pureG rfl rfl rfl (p_moveI rfl) ?_
      refine VL.pureG rfl rfl rfl (p_idxN Try.underlying24 Try.sizeOf54 rfl rfl hk') ?_
      refine VL.pureG rfl rfl rfl (p_field (fo := 2) Try.underlying54 rfl Try.sizeOf52 rfl rfl rfl) ?_
      refine VL.pureG rfl rfl rfl (p_field (fo := 1) Try.underlying52 rfl Try.sizeOf35 rfl rfl rfl) ?_
      refine VL.readG rfl rfl rfl (fun w' hw' => r_load (v := .int _ _) Try.isAgg35 rfl (hw'.fix _ _ hb2) ((hxl 1 (by decide)).trans x.l.s)) ?_
      refine VL.pureG rfl rfl rfl (p_eq rfl rfl) ?_
      refine VL.pure rfl rfl rfl (p_pickT rfl rfl) ?_
      refine VL.pure rfl rfl rfl (p_moveB rfl) ?_
      refine VL.splitD 161 rfl (fun q23 => ?_) (fun q23 => ?_)
      refine VL.pureG rfl rfl rfl (p_moveL rfl) ?_
      refine VL.pureG rfl rfl rfl (p_moveI rfl) ?_
      refine VL.pureG rfl rfl rfl (p_idxN Try.underlying24 Try.sizeOf54 rfl rfl hk') ?_
      refine VL.pureG rfl rfl rfl (p_field (fo := 2) Try.underlying54 rfl Try.sizeOf52 rfl rfl rfl) ?_
      refine VL.pureG rfl rfl rfl (p_field (fo := 0) Try.underlying52 rfl Try.sizeOf34 rfl rfl rfl) ?_
      refine VL.readG rfl rfl rfl (fun w' hw' => r_load (v := .int _ _) Try.isAgg34 rfl (hw'.fix _ _ hb2) ((hxl 0 (by decide)).trans x.l.k)) ?_
      refine VL.pureG rfl rfl rfl (p_eq rfl rfl) ?_
      refine VL.pure rfl rfl rfl (p_pickT rfl rfl) ?_
      refine VL.pure rfl rfl rfl (p_moveB rfl) ?_
      refine VL.splitD 170 rfl (fun q32 => ?_) (fun q32 => ?_)
      refine VL.pureG rfl rfl rfl (p_moveL rfl) ?_
      refine VL.pureG rfl rfl rfl (p_moveI rfl) ?_
      refine VL.pureG rfl rfl rfl (p_idxN Try.underlying24 Try.sizeOf54 rfl rfl hk') ?_
      refine VL.pureG rfl rfl rfl (p_field (fo := 2) Try.underlying54 rfl Try.sizeOf52 rfl rfl rfl) ?_
      refine VL.pureG rfl rfl rfl (p_field (fo := 2) Try.underlying52 rfl Try.sizeOf3 rfl rfl rfl) ?_
      refine VL.readG rfl rfl rfl (fun w' hw' => r_load (v := .int _ _) Try.isAgg3 rfl (hw'.fix _ _ hb2) ((hxl 2 (by decide)).trans x.l.r)) ?_
      refine VL.pureG rfl rfl rfl (p_field (fo := 2) Try.underlying52 rfl Try.sizeOf3 rfl rfl rfl) ?_
      refine VL.readG rfl rfl rfl (fun w' hw' => r_load (v := .int _ _) Try.isAgg3 rfl (hw'.fix _ _ hb16) rfl) ?_
      refine VL.pureG rfl rfl rfl (p_ge rfl rfl) ?_
      refine VL.pure rfl rfl rfl (p_pickT rfl rfl) ?_
      refine VL.nil ?_
      rotate_left 1
      refine VL.pass rfl rfl ?_
      refine VL.pass rfl rfl ?_
      refine VL.pass rfl rfl ?_
      refine VL.pass rfl rfl ?_
      refine VL.pass rfl rfl ?_
      refine VL.pass rfl rfl ?_
      refine VL.pass rfl rfl ?_
      refine VL.pass rfl rfl ?_
      refine VL.pass rfl rfl ?_
      refine VL.pure rfl rfl rfl (p_pickF rfl rfl) ?_
      refine VL.nil ?_
      rotate_left 1
      refine VL.pass rfl rfl ?_
      refine VL.pass rfl rfl ?_
      refine VL.pass rfl rfl ?_
      refine VL.pass rfl rfl ?_
      refine VL.pass rfl rfl ?_
      refine VL.pass rfl rfl ?_
      refine VL.pass rfl rfl ?_
      refine VL.pure rfl rfl rfl (p_pickF rfl rfl) ?_
      refine VL.pure rfl rfl rfl (p_moveB rfl) ?_
      refine VL.pass rfl rfl ?_
      refine VL.pass rfl rfl ?_
      refine VL.pass rfl rfl ?_
      refine VL.pass rfl rfl ?_
      refine VL.pass rfl rfl ?_
      refine VL.pass rfl rfl ?_
      refine VL.pass rfl rfl ?_
      refine VL.pass rfl rfl ?_
      refine VL.pass rfl rfl ?_
      refine VL.pure rfl rfl rfl (p_pickF rfl rfl) ?_
      refine VL.nil ?_
      rotate_left 1
      refine VL.pass rfl rfl ?_
      refine VL.pass rfl rfl ?_
      refine VL.pass rfl rfl ?_
      refine VL.pass rfl rfl ?_
      refine VL.pass rfl rfl ?_
      refine VL.pass rfl rfl ?_
      refine VL.pass rfl rfl ?_
      refine VL.pure rfl rfl rfl (p_pickF rfl rfl) ?_
      refine VL.pure rfl rfl rfl (p_moveB rfl) ?_
      refine VL.pass rfl rfl ?_
      refine VL.pass rfl rfl ?_
      refine VL.pass rfl rfl ?_
      refine VL.pass rfl rfl ?_
      refine VL.pass rfl rfl ?_
      refine VL.pass rfl rfl ?_
      refine VL.pass rfl rfl ?_
      refine VL.pure rfl rfl rfl (p_pickF rfl rfl) ?_
      refine VL.pure rfl rfl rfl (p_moveB rfl) ?_
      refine VL.pass rfl rfl ?_
      refine VL.pass rfl rfl ?_
      refine VL.pass rfl rfl ?_
      refine VL.pass rfl rfl ?_
      refine VL.pass rfl rfl ?_
      refine VL.pass rfl rfl ?_
      refine VL.pass rfl rfl ?_
      refine VL.pass rfl rfl ?_
      refine VL.pass rfl rfl ?_
      refine VL.pure rfl rfl rfl (p_pickF rfl rfl) ?_
      refine VL.nil ?_
      rotate_left 1
      refine VL.pass rfl rfl ?_
      refine VL.pass rfl rfl ?_
      refine VL.pass rfl rfl ?_
      refine VL.pass rfl rfl ?_
      refine VL.pass rfl rfl ?_
      refine VL.pass rfl rfl ?_
      refine VL.pure rfl rfl rfl (p_pickF rfl rfl) ?_
      refine VL.pure rfl rfl rfl (p_moveB rfl) ?_
      refine VL.pass rfl rfl ?_
      refine VL.pass rfl rfl ?_
      refine VL.pass rfl rfl ?_
      refine VL.pass rfl rfl ?_
      refine VL.pass rfl rfl ?_
      refine VL.pass rfl rfl ?_
      refine VL.pass rfl rfl ?_
      refine VL.pure rfl rfl rfl (p_pickF rfl rfl) ?_
      refine VL.pure rfl rfl rfl (p_moveB rfl) ?_
      refine VL.pass rfl rfl ?_
      refine VL.pass rfl rfl ?_
      refine VL.pass rfl rfl ?_
      refine VL.pass rfl rfl ?_
      refine VL.pass rfl rfl ?_
      refine VL.pass rfl rfl ?_
      refine VL.pass rfl rfl ?_
      refine VL.pure rfl rfl rfl (p_pickF rfl rfl) ?_
      refine VL.pure rfl rfl rfl (p_moveB rfl) ?_
      refine VL.pass rfl rfl ?_
      refine VL.pass rfl rfl ?_
      refine VL.pass rfl rfl ?_
      refine VL.pass rfl rfl ?_
      refine VL.pass rfl rfl ?_
      refine VL.pass rfl rfl ?_
      refine VL.pass rfl rfl ?_
      refine VL.pass rfl rfl ?_
      refine VL.pass rfl rfl ?_
      refine VL.pure rfl rfl rfl (p_pickF rfl rfl) ?_
      refine VL.nil ?_
      rotate_left 1
      · have hx1' : ∃ q : Nat, x.frm = q ∧ q < 8 := ⟨x.frm.toNat, by omega, by omega⟩
        obtain ⟨q, hq, hq8⟩ := hx1'
        repeat (first | refine VC.seq ?_ | refine VC.block ?_ | refine VC.skip ?_)
        refine VC.condD rfl (fun h42 => ?_) (fun h42 => ?_)
        · have hsz := hla.size
          have hxl2 := x.l.hl
          rw [hq] at hx1
          rw [noteL, if_pos (by show 1 ≤ x.frm ∧ x.frm ≤ 7 ∧ x.l.t.s = 1 ∧ x.l.t.k = 1 ∧ C.round ≤ x.l.t.r; omega)] at hinv'
          have hset : (ls.map Lc.t).set x.frm.toNat x.l.t = (ls.set q x.l).map Lc.t := by
            rw [hq, Int.toNat_natCast, List.map_set]
          rw [hset] at hinv'
          repeat (first | refine VC.seq ?_ | refine VC.block ?_ | refine VC.skip ?_)
          refine VC.loud (Kept G2 []) [12] rfl (by kernel_rfl) (Kept.of0 hm.drew) ?_
          replace hm := hm.drew
          refine VL.pure rfl rfl rfl (p_moveL rfl) ?_
          refine VL.pure rfl rfl rfl (p_moveL rfl) ?_
          refine VL.pure rfl rfl rfl (p_moveI rfl) ?_
          refine VL.pure rfl rfl rfl (p_idxN Try.underlying24 Try.sizeOf54 rfl rfl hk') ?_
          refine VL.pure rfl rfl rfl (p_field (fo := 1) Try.underlying54 rfl Try.sizeOf3 rfl rfl rfl) ?_
          refine VL.read rfl rfl rfl (fun w' hw' => r_load (v := .int _ _) Try.isAgg3 rfl (hw'.fix _ _ hb2) hx1) ?_
          refine VL.pure rfl rfl rfl (p_moveL rfl) ?_
          refine VL.pure rfl rfl rfl (p_moveI rfl) ?_
          refine VL.pure rfl rfl rfl (p_idxN Try.underlying24 Try.sizeOf54 rfl rfl hk') ?_
          refine VL.pure rfl rfl rfl (p_field (fo := 2) Try.underlying54 rfl Try.sizeOf52 rfl rfl rfl) ?_
          refine VL.read rfl rfl rfl (fun w' hw' => r_loadAgg (vs := x.l.cs) Try.isAgg52 Try.sizeOf52 rfl (hw'.fix _ _ hb2) x.l.hl hxl) ?_
          refine VL.pure rfl rfl rfl (p_idxN Try.underlying77 Try.sizeOf52 rfl rfl hq8) ?_
          refine VL.store (cs' := lay cur (0 + q * 43) x.l.cs) (v := .agg x.l.cs.toArray) Try.sizeOf52 rfl rfl rfl rfl x.l.hl (List.all_eq_true.2 x.l.one) hm 2 0 rfl (by omega) rfl (fun w' hm' => Kept.of0 hm') ?_
          intro w hm
          refine VL.nil ?_
          repeat (first | refine VC.seq ?_ | refine VC.block ?_ | refine VC.skip ?_)
          exact ⟨(m', C', _, ls.set q x.l), ⟨rfl, rfl, rfl, rfl, rfl, rfl, rfl, trivial⟩, hm.shrink hu12, hC', hab2, hinv', hla.set hq8 x.l, hcl'.1, hcl'.2⟩
        · repeat (first | refine VC.seq ?_ | refine VC.block ?_ | refine VC.skip ?_)
          rw [noteL, if_neg (by show ¬ (1 ≤ x.frm ∧ x.frm ≤ 7 ∧ x.l.t.s = 1 ∧ x.l.t.k = 1 ∧ C.round ≤ x.l.t.r); omega)] at hinv'
          exact ⟨(m', C', cur, ls), ⟨rfl, rfl, rfl, rfl, rfl, rfl, rfl, trivial⟩, hm.shrink hu12, hC', hab2, hinv', hla, hcl'.1, hcl'.2⟩
      · repeat (first | refine VC.seq ?_ | refine VC.block ?_ | refine VC.skip ?_)
        refine VC.condF rfl rfl ?_
        repeat (first | refine VC.seq ?_ | refine VC.block ?_ | refine VC.skip ?_)
        rw [noteL, if_neg (by show ¬ (1 ≤ x.frm ∧ x.frm ≤ 7 ∧ x.l.t.s = 1 ∧ x.l.t.k = 1 ∧ C.round ≤ x.l.t.r); omega)] at hinv'
        exact ⟨(m', C', cur, ls), ⟨rfl, rfl, rfl, rfl, rfl, rfl, rfl, trivial⟩, hm.shrink hu12, hC', hab2, hinv', hla, hcl'.1, hcl'.2⟩
      · repeat (first | refine VC.seq ?_ | refine VC.block ?_ | refine VC.skip ?_)
        refine VC.condF rfl rfl ?_
        repeat (first | refine VC.seq ?_ | refine VC.block ?_ | refine VC.skip ?_)
        rw [noteL, if_neg (by show ¬ (1 ≤ x.frm ∧ x.frm ≤ 7 ∧ x.l.t.s = 1 ∧ x.l.t.k = 1 ∧ C.round ≤ x.l.t.r); omega)] at hinv'
        exact ⟨(m', C', cur, ls), ⟨rfl, rfl, rfl, rfl, rfl, rfl, rfl, trivial⟩, hm.shrink hu12, hC', hab2, hinv', hla, hcl'.1, hcl'.2⟩
      · repeat (first | refine VC.seq ?_ | refine VC.block ?_ | refine VC.skip ?_)
        refine VC.condF rfl rfl ?_
        repeat (first | refine VC.seq ?_ | refine VC.block ?_ | refine VC.skip ?_)
        rw [noteL, if_neg (by show ¬ (1 ≤ x.frm ∧ x.frm ≤ 7 ∧ x.l.t.s = 1 ∧ x.l.t.k = 1 ∧ C.round ≤ x.l.t.r); omega)] at hinv'
        exact ⟨(m', C', cur, ls), ⟨rfl, rfl, rfl, rfl, rfl, rfl, rfl, trivial⟩, hm.shrink hu12, hC', hab2, hinv', hla, hcl'.1, hcl'.2⟩
      · repeat (first | refine VC.seq ?_ | refine VC.block ?_ | refine VC.skip ?_)
        refine VC.condF rfl rfl ?_
        repeat (first | refine VC.seq ?_ | refine VC.block ?_ | refine VC.skip ?_)
        rw [noteL, if_neg (by show ¬ (1 ≤ x.frm ∧ x.frm ≤ 7 ∧ x.l.t.s = 1 ∧ x.l.t.k = 1 ∧ C.round ≤ x.l.t.r); omega)] at hinv'
        exact ⟨(m', C', cur, ls), ⟨rfl, rfl, rfl, rfl, rfl, rfl, rfl, trivial⟩, hm.shrink hu12, hC', hab2, hinv', hla, hcl'.1, hcl'.2⟩
  · repeat (first | refine VC.seq ?_ | refine VC.block ?_ | refine VC.skip ?_)
    refine VC.exit ?_
    repeat (first | refine VC.seq ?_ | refine VC.block ?_ | refine VC.skip ?_)
    refine VC.region ?_
    refine VR.pure rfl rfl (p_assignB rfl) ?_
    refine VR.nil ?_
    repeat (first | refine VC.seq ?_ | refine VC.block ?_ | refine VC.skip ?_)
    refine VC.ret ⟨_, ResOf.r1 (v := .bool _) rfl rfl, ?_⟩
    exact ⟨rfl, hm.none_.shrink hu⟩
end Go.Bd
namespace Go.Proofs.Ytnakbhpgcngofaa
open Go.Bd Go.ChangeShapes Go.WideShapes

set_option maxRecDepth 100000 in
theorem waits_lifted (os : Os) (started : os.Started) (H : Type) (enc : TypeId × Value → H) :
    ReturnsInHanded {} Try.checked os 6 .any (Rows.chooseWaitsSpec.pre6 enc Try.prog Try.f6 Rows.chooseWaitsRow.domain false) (Rows.chooseWaitsSpec.post enc Try.prog Try.f6 false true false false) := by
  refine law_frame (C := Try.checked) (tb := 4) (by kernel_rfl) (by kernel_rfl) started (by kernel_rfl) Try.func6 rfl rfl Try.underlying4 (by kernel_rfl) ?_
    (ChangeSpec.witness6 (enc := enc) (C := Try.checked) false ⟨#[], #[.slice none 0 0, .int .i64 0, .slice none 0 0], []⟩ 8 (by kernel_rfl) (by kernel_rfl) (by kernel_rfl) (by kernel_rfl)) ?_
  · intro ds hl
    match ds, hl with
    | [d1, d2, d3], _ => rfl
  · intro W base args ds p hval hA hwt
    replace hA : DataW.TrodAll enc Try.prog W 0 (fun _ => true) true Try.f6.params.toList args.toList ds p := hA
    rw [Try.params6] at hA hval
    replace hwt : (DataW.weightsEach Try.prog [23, 3, 24] ds).all (· ≤ reachBytes) = true := hwt
    obtain ⟨v0, vs0, d0, ds0, p0, q0, hargs, rfl, rfl, h0, r0⟩ := trodAll_cons hA
    obtain ⟨v1, vs1, d1, ds1, p1, q1, rfl, rfl, rfl, h1, r1⟩ := trodAll_cons r0
    obtain ⟨v2, vs2, d2, ds2, p2, q2, rfl, rfl, rfl, h2, r2⟩ := trodAll_cons r1
    obtain ⟨rfl, rfl, rfl⟩ := trodAll_nil r2
    obtain rfl : args = #[v0, v1, v2] := by cases args; simp_all
    obtain ⟨a1, rfl, _, _, w1⟩ := open_int Try.underlying3 (hval 1 3 v1 rfl rfl) h1
    obtain ⟨A0, n0, c0, es, rfl, hn0, hc0, hb0, hes, hsm⟩ := open_enss (hval 0 23 v0 rfl rfl) h0 (LightAll.cons hwt).1
    obtain ⟨A2, n2, c2, ds, rfl, hn2, hc2, hrd, hdd, hdl⟩ := open_deeds (hval 2 24 v2 rfl rfl) h2 (LightAll.cons (LightAll.cons (LightAll.cons hwt).2).2).1
    exact choose_waits_c hes (fun e he => by have h1 := hsm e he; have h3 := (hes.each e he).2.1; unfold reachBytes at h1; omega) hrd hdl (by unfold maxLen at *; omega) (by unfold maxLen at *; omega) (Mem.of W)

theorem waits : Rows.ChooseWaitsSaid :=
  OpenClaim.holds_of_wide 6 Try.f6 rfl rfl rfl rfl rfl rfl rfl ⟨rfl, rfl, rfl, rfl, rfl⟩ rfl rfl rfl rfl rfl (by kernel_rfl) Try.func6 (by kernel_rfl)
    (of_decide_eq_true (by kernel_rfl)) (by unfold Func.isWrapper; rw [if_neg (of_decide_eq_false (by kernel_rfl))]; exact ⟨rfl, rfl⟩)
    (fun os started H enc _ => waits_lifted os started H enc)
end Go.Proofs.Ytnakbhpgcngofaa
