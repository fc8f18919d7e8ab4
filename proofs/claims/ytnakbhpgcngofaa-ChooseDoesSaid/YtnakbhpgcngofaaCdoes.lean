/- ChooseDoes: whatever a chooser hears, it votes and tells whom it takes just as the document says; letters and configs stay. Conditions: none. -/
import Derived.Test.Ytnakbhpgcngofaa20j
namespace Go.Bd
open Go.Proofs Go.ChangeShapes Go.WideShapes
set_option linter.unusedVariables false
set_option linter.unusedSimpArgs false
set_option maxRecDepth 20000

theorem hs_rng {H : Nat → Option Obj} {C : Ch} (h : ChOk H C) : ∀ f ∈ C.abs.hs, 1 ≤ f.1 ∧ f.1 ≤ 7 := fun f hf => by
  obtain ⟨x, hx, rfl⟩ := List.mem_map.1 hf
  exact h.heard x hx
theorem Dd.one (x : Dd) : ∀ v ∈ x.cells, v.oneCell' = true := fun v hv => by
  unfold Dd.cells at hv
  rcases List.mem_append.1 hv with hv | hv
  · rcases List.mem_cons.1 hv with rfl | hv
    · rfl
    · rw [List.mem_singleton.1 hv]
      rfl
  · rcases List.mem_append.1 hv with hv | hv
    · exact x.l.one v hv
    · rw [List.mem_singleton.1 hv]
      rfl
theorem Dd.a0 (x : Dd) : x.cells.toArray[0 + 0]? = some (.int .i64 x.kind) := by
  rw [List.getElem?_toArray]
  rfl
theorem Dd.a1 (x : Dd) : x.cells.toArray[0 + 1]? = some (.int .i64 x.frm) := by
  rw [List.getElem?_toArray]
  rfl
theorem Dd.aL (x : Dd) (i : Nat) (hi : i < 43) : x.cells.toArray[0 + 2 + i]? = x.l.cs[i]? := by
  rw [List.getElem?_toArray, Nat.zero_add]
  exact x.let_ hi
theorem Dd.aC (x : Dd) : x.cells.toArray[0 + (2 + 43)]? = some (.slice x.A x.n x.c) := by
  rw [List.getElem?_toArray, Nat.zero_add]
  exact x.cfg
set_option maxHeartbeats 8000000 in
theorem choose_does_c {F : Env} {w : World} {A0 A2 : Option Addr} {n0 c0 n2 c2 : Nat} {id ep zx : Int} {es : List En} {ds : List Dd} (hes : ERow F.heap A0 n0 es) (hsm : ∀ e ∈ es, e.n * 32 ≤ 140737488355328)
    (hrd : Row F.heap A2 (n2 * 46) (ds.flatMap Dd.cells)) (hdd : ∀ x ∈ ds, DdOk F.heap x) (hdl : ds.length = n2) (hn2 : n2 ≤ maxLen) (hn0 : n0 ≤ maxLen) (hm : Mem F w []) :
    Calls Try.prog 3 #[.int .i64 id, .int .i64 ep, .int .i64 zx, .slice A0 n0 c0, .slice A2 n2 c2] w (Ret fun v w' => v = .bool true ∧ Mem F w' []) := by
  have hel := hes.len
  unfold maxLen at hn2 hn0
  refine Calls.of_vc Try.func3 rfl Try.ntmps3 rfl ?_
  repeat (first | refine VC.seq ?_ | refine VC.block ?_ | refine VC.skip ?_)
  refine VC.region ?_
  refine VR.pure rfl rfl (p_assignB rfl) ?_
  refine VR.nil ?_
  repeat (first | refine VC.seq ?_ | refine VC.block ?_ | refine VC.skip ?_)
  refine VC.region ?_
  refine VR.call rfl rfl (r_call0 Try.call7) (awake_c hm) ?_
  rintro _ w ⟨rfl, hm⟩
  refine VR.pure rfl rfl (p_not rfl) ?_
  refine VR.nil ?_
  repeat (first | refine VC.seq ?_ | refine VC.block ?_ | refine VC.skip ?_)
  refine VC.condF rfl rfl ?_
  repeat (first | refine VC.seq ?_ | refine VC.block ?_ | refine VC.skip ?_)
  refine VC.region ?_
  refine VR.pure rfl rfl (p_moveL rfl) ?_
  refine VR.pure rfl rfl (p_len Try.underlying24 rfl) ?_
  refine VR.pure rfl rfl (p_gt rfl rfl) ?_
  refine VR.pure rfl rfl (p_moveB rfl) ?_
  refine VR.splitD 26 rfl (fun h3 => ?_) (fun h3 => ?_)
  refine VR.pass rfl rfl ?_
  refine VR.pass rfl rfl ?_
  refine VR.pass rfl rfl ?_
  refine VR.pure rfl rfl (p_pickT rfl rfl) ?_
  refine VR.nil ?_
  rotate_left 1
  refine VR.pureG rfl rfl (p_moveL rfl) ?_
  refine VR.pureG rfl rfl (p_len Try.underlying23 rfl) ?_
  refine VR.pureG rfl rfl (p_gt rfl rfl) ?_
  refine VR.pure rfl rfl (p_pickF rfl rfl) ?_
  refine VR.nil ?_
  rotate_left 1
  · repeat (first | refine VC.seq ?_ | refine VC.block ?_ | refine VC.skip ?_)
    refine VC.condT rfl rfl ?_
    repeat (first | refine VC.seq ?_ | refine VC.block ?_ | refine VC.skip ?_)
    refine VC.region ?_
    refine VR.pure rfl rfl (p_assignB rfl) ?_
    refine VR.nil ?_
    repeat (first | refine VC.seq ?_ | refine VC.block ?_ | refine VC.skip ?_)
    refine VC.ret ⟨_, ResOf.r1 (v := .bool _) rfl rfl, ?_⟩
    exact ⟨rfl, hm⟩
  repeat (first | refine VC.seq ?_ | refine VC.block ?_ | refine VC.skip ?_)
  refine VC.condD rfl (fun h7 => ?_) (fun h7 => ?_)
  · repeat (first | refine VC.seq ?_ | refine VC.block ?_ | refine VC.skip ?_)
    refine VC.region ?_
    refine VR.pure rfl rfl (p_assignB rfl) ?_
    refine VR.nil ?_
    repeat (first | refine VC.seq ?_ | refine VC.block ?_ | refine VC.skip ?_)
    refine VC.ret ⟨_, ResOf.r1 (v := .bool _) rfl rfl, ?_⟩
    exact ⟨rfl, hm⟩
  repeat (first | refine VC.seq ?_ | refine VC.block ?_ | refine VC.skip ?_)
  refine VC.region ?_
  refine VR.pure rfl rfl (p_moveL rfl) ?_
  refine VR.call rfl rfl (r_call1 Try.call8 rfl) (lentEs_c hm (by omega) hes hsm) ?_
  rintro _ w ⟨A1, c1, os, bs, L, rfl, ho, hls, hm⟩
  refine VR.pure rfl rfl (p_assignL rfl) ?_
  refine VR.nil ?_
  have hle5 := ho.le
  have hlen := hls.len
  have hems : ∀ e ∈ es, e.ms.length = e.n := fun e he => (hes.each e he).1.len
  have rowIn : ∀ (E : Nat → Option Obj), (∀ p ∈ L, E p.1 = some p.2) → (∀ L ∈ bs, ∀ p ∈ L, E p.1 = some p.2) → ERow E A1 n0 os := fun E h1 h2 => by
    refine ⟨?_, fun o ho => (hls.ok h2 hems o ho).1⟩
    have h3 := Row.take (ho.row h1) (k := n0 * 2) (by omega)
    rwa [ecells_app, List.take_left' (by rw [flat_len En.len]; omega)] at h3
  have hrow := rowIn _ (hm.plus_mem (.head _)) fun L hL => hm.plus_mem (.tail _ (List.mem_append_left _ hL))
  have ho32 := small_abs hes hrow hls.abs hsm
  by_cases hid : 1 ≤ id ∧ id ≤ 7
  · repeat (first | refine VC.seq ?_ | refine VC.block ?_ | refine VC.skip ?_)
    refine VC.region ?_
    refine VR.pure rfl rfl (p_moveI rfl) ?_
    refine VR.pure rfl rfl (p_moveI rfl) ?_
    refine VR.pure rfl rfl (p_moveI rfl) ?_
    refine VR.pure rfl rfl (p_moveL rfl) ?_
    refine VR.call rfl rfl (r_call4 Try.call9 rfl rfl rfl rfl) (new_t (id := id) hm hid (by omega) hrow ho32) ?_
    rintro _ w ⟨g, m0, C0, G, rfl, hu, hC0, hab0, hm⟩
    refine VR.pure rfl rfl (p_assignP rfl) ?_
    refine VR.nil ?_
    rw [hls.abs] at hab0
    repeat (first | refine VC.seq ?_ | refine VC.block ?_ | refine VC.skip ?_)
    refine VC.region ?_
    refine VR.pure rfl rfl (p_moveI rfl) ?_
    refine VR.pure rfl rfl (p_moveI rfl) ?_
    refine VR.pure rfl rfl (p_moveI rfl) ?_
    refine VR.pure rfl rfl (p_moveL rfl) ?_
    refine VR.call rfl rfl (r_call1 Try.call11 rfl) (copyEs_c hm (by omega) (hes.mono hu.heap) hsm) ?_
    rintro _ w ⟨A3, c3, ps, G1, rfl, hu1, hps, hpa, hm⟩
    refine VR.call rfl rfl (r_call4 Try.call10 rfl rfl rfl rfl) (rnew_c (id := id) (ep := ep) (zx := zx) hm (by unfold maxLen; omega) hps) ?_
    rintro _ w ⟨gr, rfl, hm⟩
    refine VR.pure rfl rfl (p_moveT rfl) ?_
    refine VR.pure rfl rfl (p_extract rfl rfl) ?_
    refine VR.pure rfl rfl (p_extract rfl rfl) ?_
    refine VR.pure rfl rfl (p_assignP rfl) ?_
    refine VR.pure rfl rfl (p_assignB rfl) ?_
    refine VR.nil ?_
    have hu01 := hu.trans hu1
    replace hC0 := hC0.mono hu1.heap
    repeat (first | refine VC.seq ?_ | refine VC.block ?_ | refine VC.skip ?_)
    refine VC.region ?_
    refine VR.pure rfl rfl (p_moveL rfl) ?_
    refine VR.pure rfl rfl (p_moveL rfl) ?_
    refine VR.call rfl rfl (r_call2 Try.call12 rfl rfl) (keptEs_c (d := c0) hm.all (by omega) hle5.1 (ho.row (hm.plus_mem (.tail _ (.tail _ (.tail _ (.head _)))))) hls (fun L hL ↦ hm.plus_mem (.tail _ (.tail _ (.tail _ (.tail _ (List.mem_append_left _ hL)))))) ((hes.mono hu01.heap).mono hm.le) hsm) ?_
    rintro _ w ⟨rfl, hm'⟩
    replace hm := hm.back0 hm'
    refine VR.pure rfl rfl (p_not rfl) ?_
    refine VR.pure rfl rfl (p_moveB rfl) ?_
    refine VR.knownF 51 rfl rfl ?_
    refine VR.pureG rfl rfl (p_moveP rfl) ?_
    refine VR.pureG rfl rfl (p_neNilP Try.underlying27 rfl) ?_
    refine VR.pureG rfl rfl (p_moveB rfl) ?_
    refine VR.pureG rfl rfl (p_neB Try.underlying4 rfl rfl) ?_
    refine VR.pure rfl rfl (p_pickF rfl rfl) ?_
    refine VR.nil ?_
    repeat (first | refine VC.seq ?_ | refine VC.block ?_ | refine VC.skip ?_)
    refine VC.condF rfl (by rw [decide_eq_true hid]; rfl) ?_
    have hm2 : Mem G1 w (L :: (bs ++ ([(gr, rO (rNew id ep zx A3 n0 c3 ps))] :: [(g, C0.obj m0)] :: [(m0, C0.map)] :: []))) := hm.permF (by
      have := List.perm_append_comm (l₁ := [(gr, rO (rNew id ep zx A3 n0 c3 ps)), (g, C0.obj m0), (m0, C0.map)]) (l₂ := L ++ bs.flatten)
      simpa using this)
    replace hm := hm2
    clear hm2
    repeat (first | refine VC.seq ?_ | refine VC.block ?_ | refine VC.skip ?_)
    refine VC.region ?_
    refine VR.pure rfl rfl (p_moveL rfl) ?_
    refine VR.call rfl rfl (r_call1 Try.call13 rfl) (overEs_c hm (by omega) ho hls hel hsm) ?_
    rintro _ w hm
    refine VR.nil ?_
    repeat (first | refine VC.seq ?_ | refine VC.block ?_ | refine VC.skip ?_)
    refine VC.region ?_
    refine VR.pure rfl rfl (p_assignI rfl) ?_
    refine VR.nil ?_
    repeat (first | refine VC.seq ?_ | refine VC.block ?_ | refine VC.skip ?_)
    refine VC.loop (σ := Nat × Nat × Ch × Rc) (fun s => [(4, .slice A2 n2 c2), (12, .pointer (some ⟨g, 0, none⟩)), (13, .pointer (some ⟨gr, 0, none⟩)), (14, .bool true), (15, .int .i64 s.1)])
      (fun s w => s.1 ≤ n2 ∧ ∃ G, F.under G ∧ Mem G w ([(gr, rO s.2.2.2)] :: [(g, s.2.2.1.obj s.2.1)] :: [(s.2.1, s.2.2.1.map)] :: []) ∧ ChOk G.heap s.2.2.1 ∧ ERow G.heap s.2.2.2.A s.2.2.2.n s.2.2.2.es ∧ s.2.2.2.n ≤ 100000 ∧ Rel s.2.2.1.abs s.2.2.2)
      (fun s => n2 - s.1) (0, m0, C0, rNew id ep zx A3 n0 c3 ps) ⟨rfl, rfl, rfl, congrArg Value.bool (decide_eq_true hid), rfl, trivial⟩ ⟨by omega, G1, hu01, hm, hC0, hps, by show n0 ≤ 100000; omega, by
        show Rel C0.abs _
        rw [hab0]
        exact Rel.new hpa⟩ ?_
    clear hm
    rintro ⟨k, m, C, R⟩ AA w ⟨hk, G, hu, hm, hC, hR, hRn, hrel⟩
    dsimp only at hk hm hC hR hRn hrel ⊢
    repeat (first | refine VC.seq ?_ | refine VC.block ?_ | refine VC.skip ?_)
    refine VC.region ?_
    refine VR.pure rfl rfl (p_moveI rfl) ?_
    refine VR.pure rfl rfl (p_moveL rfl) ?_
    refine VR.pure rfl rfl (p_len Try.underlying24 rfl) ?_
    refine VR.pure rfl rfl (p_lt rfl rfl) ?_
    refine VR.pure rfl rfl (p_moveB rfl) ?_
    refine VR.splitD 63 rfl (fun hlt => ?_) (fun hlt => ?_)
    refine VR.pureG rfl rfl (p_moveB rfl) ?_
    refine VR.pure rfl rfl (p_pickT rfl rfl) ?_
    refine VR.nil ?_
    rotate_left 1
    refine VR.pass rfl rfl ?_
    refine VR.pure rfl rfl (p_pickF rfl rfl) ?_
    refine VR.nil ?_
    rotate_left 1
    · repeat (first | refine VC.seq ?_ | refine VC.block ?_ | refine VC.skip ?_)
      refine VC.condT rfl rfl ?_
      have hk' : k < n2 := by omega
      obtain ⟨x, hx, hxm⟩ := get_of (xs := ds) (k := k) (by omega)
      obtain ⟨b, off, blk, T, fr, rfl, hb, hcc⟩ := hrd.elem Dd.len (by decide) (by omega)
      replace hb := hu.heap _ _ hb
      obtain ⟨hxe, hxn, hxc, hxr, hxs⟩ := hdd x hxm
      have hxsm : ∀ e ∈ x.es, e.n * 32 ≤ 140737488355328 := fun e he => by have h1 := hxs e he; have h3 := (hxe.each e he).2.1; unfold reachBytes at h1; omega
      have hxl := x.l.hl
      repeat (first | refine VC.seq ?_ | refine VC.block ?_ | refine VC.skip ?_)
      repeat (first | refine VC.seq ?_ | refine VC.block ?_ | refine VC.skip ?_)
      refine VC.region ?_
      refine VR.pure rfl rfl (p_moveL rfl) ?_
      refine VR.pure rfl rfl (p_moveI rfl) ?_
      refine VR.pure rfl rfl (p_idxN Try.underlying24 Try.sizeOf54 rfl rfl hk') ?_
      refine VR.valG rfl rfl (r_loadAgg (vs := x.cells) Try.isAgg54 Try.sizeOf54 rfl (hm.fix _ _ hb) x.len (hcc k x hx)) ?_
      refine VR.new hm rfl rfl (n_allocG Try.zeroValue54) ?_
      intro b16 w hm
      refine VR.store (cs' := x.cells.toArray) (v := .agg x.cells.toArray) Try.sizeOf54 rfl rfl rfl x.len (List.all_eq_true.2 x.one) hm 0 0 rfl (Nat.ble_eq.mp rfl) (lay_whole x.len.symm) ?_
      intro w hm
      refine VR.nil ?_
      obtain ⟨G2, hu2, hm, hb16⟩ := hm.freeze
      replace hb16 := hb16 _ (.head _)
      have huG := hu.trans hu2
      replace hC := hC.mono hu2.heap
      replace hR := hR.mono hu2.heap
      repeat (first | refine VC.seq ?_ | refine VC.block ?_ | refine VC.skip ?_)
      refine VC.region ?_
      refine VR.pure rfl rfl (p_field (fo := 45) Try.underlying54 rfl Try.sizeOf23 rfl rfl rfl) ?_
      refine VR.val rfl rfl (r_load (v := .slice _ _ _) Try.isAgg23 rfl (hm.fix _ _ hb16) x.aC) ?_
      refine VR.pure rfl rfl (p_len Try.underlying23 rfl) ?_
      refine VR.pure rfl rfl (p_gt rfl rfl) ?_
      refine VR.nil ?_
      repeat (first | refine VC.seq ?_ | refine VC.block ?_ | refine VC.skip ?_)
      refine VC.condD rfl (fun h15 => ?_) (fun h15 => ?_)
      · repeat (first | refine VC.seq ?_ | refine VC.block ?_ | refine VC.skip ?_)
        refine VC.region ?_
        refine VR.pure rfl rfl (p_assignB rfl) ?_
        refine VR.nil ?_
        repeat (first | refine VC.seq ?_ | refine VC.block ?_ | refine VC.skip ?_)
        refine VC.ret ⟨_, ResOf.r1 (v := .bool _) rfl rfl, ?_⟩
        exact ⟨rfl, hm.none_.shrink huG⟩
      have hx4 : x.n ≤ 4 := by omega
      repeat (first | refine VC.seq ?_ | refine VC.block ?_ | refine VC.skip ?_)
      refine VC.region ?_
      refine VR.pure rfl rfl (p_field (fo := 0) Try.underlying54 rfl Try.sizeOf3 rfl rfl rfl) ?_
      refine VR.val rfl rfl (r_load (v := .int _ _) Try.isAgg3 rfl (hm.fix _ _ hb16) x.a0) ?_
      refine VR.call rfl rfl (r_call2 Try.call14 rfl rfl) (pick_c (n := 4) (by decide)) ?_
      rintro _ _ ⟨⟨i, hi, rfl⟩, rfl⟩
      refine VR.nil ?_
      refine VC.meet (σ := Nat × Ch × Rc) (fun s => [(4, .slice (some ⟨b, off, none⟩) n2 c2), (12, .pointer (some ⟨g, 0, none⟩)), (13, .pointer (some ⟨gr, 0, none⟩)), (14, .bool true), (15, .int .i64 k)])
        (fun s w => ∃ G, F.under G ∧ Mem G w ([(gr, rO s.2.2)] :: [(g, s.2.1.obj s.1)] :: [(s.1, s.2.1.map)] :: []) ∧ ChOk G.heap s.2.1 ∧ ERow G.heap s.2.2.A s.2.2.n s.2.2.es ∧ s.2.2.n ≤ 100000 ∧ Rel s.2.1.abs s.2.2) ?_ ?_
      rotate_left
      · clear hm hC hR hRn hrel hu2 huG hb16
        rintro ⟨m', C', R'⟩ A5 w ⟨G3, hu3, hm, hC, hR, hRn, hrel⟩
        dsimp only at hm hC hR hRn hrel ⊢
        replace hm := ((hm.pull 2 rfl).pull 2 rfl)
        repeat (first | refine VC.seq ?_ | refine VC.block ?_ | refine VC.skip ?_)
        refine VC.region ?_
        refine VR.pure rfl rfl (p_moveP rfl) ?_
        refine VR.call rfl rfl (r_call1 Try.call22 rfl) (vote_c hm hC) ?_
        rintro _ w ⟨rfl, hm⟩
        refine VR.pure rfl rfl (p_moveP rfl) ?_
        replace hm := (hm.pull 2 rfl)
        refine VR.call rfl rfl (r_call1 Try.call23 rfl) (rvote_c hm) ?_
        rintro _ w ⟨rfl, hm⟩
        refine VR.call rfl rfl (r_call2 Try.call21 rfl rfl) (same_letter (k := 1) (s := 1) hm) ?_
        rintro _ w ⟨rfl, hm⟩
        refine VR.pure rfl rfl (p_notD rfl) ?_
        refine VR.nil ?_
        have hr1 : C'.round = R'.round := hrel.round.symm
        have hv1 : C'.v = R'.v := hrel.v.symm
        repeat (first | refine VC.seq ?_ | refine VC.block ?_ | refine VC.skip ?_)
        refine VC.condF rfl (decide_eq_false (not_not_intro ⟨hr1, hv1⟩)) ?_
        repeat (first | refine VC.seq ?_ | refine VC.block ?_ | refine VC.skip ?_)
        repeat (first | refine VC.seq ?_ | refine VC.block ?_ | refine VC.skip ?_)
        refine VC.region ?_
        refine VR.pure rfl rfl (p_moveI rfl) ?_
        refine VR.pure rfl rfl (p_add64 rfl rfl (by omega)) ?_
        refine VR.pure rfl rfl (p_assignI rfl) ?_
        refine VR.nil ?_
        exact ⟨(k + 1, m', C', R'), ⟨rfl, rfl, rfl, rfl, rfl, trivial⟩, ⟨by show k + 1 ≤ n2; omega, G3, hu3, hm, hC, hR, hRn, hrel⟩, by show n2 - (k + 1) < n2 - k; omega⟩
      obtain ⟨hh1, hh2⟩ := hrel.hear x.frm x.l.t
      obtain ⟨hk1, hk2⟩ := hrel.tick hC.apart (hs_rng hC)
      have hRes : ∀ t : Lt, (rHear R x.frm t).2.A = R.A ∧ (rHear R x.frm t).2.n = R.n ∧ (rHear R x.frm t).2.es = R.es := fun t => by
        have h1 : (rRound R t).A = R.A ∧ (rRound R t).n = R.n ∧ (rRound R t).es = R.es := by
          unfold rRound
          split <;> exact ⟨rfl, rfl, rfl⟩
        unfold rHear
        split
        · split <;> exact h1
        · exact ⟨rfl, rfl, rfl⟩
      rcases (by omega : i = 0 ∨ i = 1 ∨ i = 2 ∨ i = 3) with rfl | rfl | rfl | rfl
      · repeat (first | refine VC.seq ?_ | refine VC.block ?_ | refine VC.skip ?_)
        refine VC.region ?_
        refine VR.pure rfl rfl (p_eq rfl rfl) ?_
        refine VR.pure rfl rfl (p_assignB rfl) ?_
        refine VR.nil ?_
        repeat (first | refine VC.seq ?_ | refine VC.block ?_ | refine VC.skip ?_)
        refine VC.condT rfl rfl ?_
        repeat (first | refine VC.seq ?_ | refine VC.block ?_ | refine VC.skip ?_)
        refine VC.condT rfl rfl ?_
        repeat (first | refine VC.seq ?_ | refine VC.block ?_ | refine VC.skip ?_)
        refine VC.loud (Kept G2 []) [5, 11] rfl (by kernel_rfl) (Kept.of0 hm.drew) ?_
        replace hm := hm.drew
        refine VL.pure rfl rfl rfl (p_moveP rfl) ?_
        refine VL.pure rfl rfl rfl (p_field (fo := 1) Try.underlying54 rfl Try.sizeOf3 rfl rfl rfl) ?_
        refine VL.read rfl rfl rfl (fun w' hw' => r_load (v := .int _ _) Try.isAgg3 rfl (hw'.fix _ _ hb16) x.a1) ?_
        refine VL.pure rfl rfl rfl (p_field (fo := 2) Try.underlying54 rfl Try.sizeOf52 rfl rfl rfl) ?_
        refine VL.read rfl rfl rfl (fun w' hw' => r_loadAgg (vs := x.l.cs) Try.isAgg52 Try.sizeOf52 rfl (hw'.fix _ _ hb16) x.l.hl x.aL) ?_
        replace hm := ((hm.pull 2 rfl).pull 2 rfl)
        refine VL.call rfl rfl rfl (r_call3 Try.call15 rfl rfl rfl) (hear_c (t := x.l.t) hm hC x.l.at_) ?_
        rintro _ w ⟨m', C', rfl, hC', hab', hm⟩
        refine ⟨Kept.of0 hm, ?_⟩
        refine VL.pure rfl rfl rfl (p_moveP rfl) ?_
        refine VL.pure rfl rfl rfl (p_field (fo := 1) Try.underlying54 rfl Try.sizeOf3 rfl rfl rfl) ?_
        refine VL.read rfl rfl rfl (fun w' hw' => r_load (v := .int _ _) Try.isAgg3 rfl (hw'.fix _ _ hb16) x.a1) ?_
        refine VL.pure rfl rfl rfl (p_field (fo := 2) Try.underlying54 rfl Try.sizeOf52 rfl rfl rfl) ?_
        refine VL.read rfl rfl rfl (fun w' hw' => r_loadAgg (vs := x.l.cs) Try.isAgg52 Try.sizeOf52 rfl (hw'.fix _ _ hb16) x.l.hl x.aL) ?_
        replace hm := (hm.pull 2 rfl)
        refine VL.call rfl rfl rfl (r_call3 Try.call16 rfl rfl rfl) (rhear_c (t := x.l.t) hm x.l.at_ (by unfold maxLen; omega) hR) ?_
        rintro _ w ⟨rfl, hm⟩
        refine ⟨Kept.of0 hm, ?_⟩
        refine VL.pure rfl rfl rfl (p_neB Try.underlying4 rfl rfl) ?_
        refine VL.nil ?_
        repeat (first | refine VC.seq ?_ | refine VC.block ?_ | refine VC.skip ?_)
        refine VC.condF rfl (by rw [hh1]; cases (rHear R x.frm x.l.t).1 <;> rfl) ?_
        repeat (first | refine VC.seq ?_ | refine VC.block ?_ | refine VC.skip ?_)
        obtain ⟨e1, e2, e3⟩ := hRes x.l.t
        exact ⟨(m', C', (rHear R x.frm x.l.t).2), ⟨rfl, rfl, rfl, rfl, rfl, trivial⟩, G2, huG, hm, hC', by show ERow _ (rHear R x.frm x.l.t).2.A (rHear R x.frm x.l.t).2.n (rHear R x.frm x.l.t).2.es; rw [e1, e2, e3]; exact hR, by show (rHear R x.frm x.l.t).2.n ≤ _; rw [e2]; exact hRn, by show Rel C'.abs _; rw [hab']; exact hh2⟩
      · repeat (first | refine VC.seq ?_ | refine VC.block ?_ | refine VC.skip ?_)
        refine VC.region ?_
        refine VR.pure rfl rfl (p_eq rfl rfl) ?_
        refine VR.pure rfl rfl (p_assignB rfl) ?_
        refine VR.nil ?_
        repeat (first | refine VC.seq ?_ | refine VC.block ?_ | refine VC.skip ?_)
        refine VC.condF rfl rfl ?_
        repeat (first | refine VC.seq ?_ | refine VC.block ?_ | refine VC.skip ?_)
        refine VC.region ?_
        refine VR.pure rfl rfl (p_eq rfl rfl) ?_
        refine VR.pure rfl rfl (p_assignB rfl) ?_
        refine VR.nil ?_
        repeat (first | refine VC.seq ?_ | refine VC.block ?_ | refine VC.skip ?_)
        refine VC.condT rfl rfl ?_
        repeat (first | refine VC.seq ?_ | refine VC.block ?_ | refine VC.skip ?_)
        refine VC.loud (Kept G2 []) [5, 11] rfl (by kernel_rfl) (Kept.of0 hm.drew) ?_
        replace hm := hm.drew
        refine VL.pure rfl rfl rfl (p_moveP rfl) ?_
        refine VL.pure rfl rfl rfl (p_field (fo := 1) Try.underlying54 rfl Try.sizeOf3 rfl rfl rfl) ?_
        refine VL.read rfl rfl rfl (fun w' hw' => r_load (v := .int _ _) Try.isAgg3 rfl (hw'.fix _ _ hb16) x.a1) ?_
        refine VL.pure rfl rfl rfl (p_field (fo := 2) Try.underlying54 rfl Try.sizeOf52 rfl rfl rfl) ?_
        refine VL.read rfl rfl rfl (fun w' hw' => r_loadAgg (vs := x.l.cs) Try.isAgg52 Try.sizeOf52 rfl (hw'.fix _ _ hb16) x.l.hl x.aL) ?_
        replace hm := ((hm.pull 2 rfl).pull 2 rfl)
        refine VL.call rfl rfl rfl (r_call3 Try.call15 rfl rfl rfl) (hear_c (t := x.l.t) hm hC x.l.at_) ?_
        rintro _ w ⟨m', C', rfl, hC', hab', hm⟩
        refine ⟨Kept.of0 hm, ?_⟩
        refine VL.pure rfl rfl rfl (p_moveP rfl) ?_
        refine VL.pure rfl rfl rfl (p_field (fo := 1) Try.underlying54 rfl Try.sizeOf3 rfl rfl rfl) ?_
        refine VL.read rfl rfl rfl (fun w' hw' => r_load (v := .int _ _) Try.isAgg3 rfl (hw'.fix _ _ hb16) x.a1) ?_
        refine VL.pure rfl rfl rfl (p_field (fo := 2) Try.underlying54 rfl Try.sizeOf52 rfl rfl rfl) ?_
        refine VL.read rfl rfl rfl (fun w' hw' => r_loadAgg (vs := x.l.cs) Try.isAgg52 Try.sizeOf52 rfl (hw'.fix _ _ hb16) x.l.hl x.aL) ?_
        replace hm := (hm.pull 2 rfl)
        refine VL.call rfl rfl rfl (r_call3 Try.call16 rfl rfl rfl) (rhear_c (t := x.l.t) hm x.l.at_ (by unfold maxLen; omega) hR) ?_
        rintro _ w ⟨rfl, hm⟩
        refine ⟨Kept.of0 hm, ?_⟩
        refine VL.pure rfl rfl rfl (p_neB Try.underlying4 rfl rfl) ?_
        refine VL.nil ?_
        repeat (first | refine VC.seq ?_ | refine VC.block ?_ | refine VC.skip ?_)
        refine VC.condF rfl (by rw [hh1]; cases (rHear R x.frm x.l.t).1 <;> rfl) ?_
        repeat (first | refine VC.seq ?_ | refine VC.block ?_ | refine VC.skip ?_)
        obtain ⟨e1, e2, e3⟩ := hRes x.l.t
        exact ⟨(m', C', (rHear R x.frm x.l.t).2), ⟨rfl, rfl, rfl, rfl, rfl, trivial⟩, G2, huG, hm, hC', by show ERow _ (rHear R x.frm x.l.t).2.A (rHear R x.frm x.l.t).2.n (rHear R x.frm x.l.t).2.es; rw [e1, e2, e3]; exact hR, by show (rHear R x.frm x.l.t).2.n ≤ _; rw [e2]; exact hRn, by show Rel C'.abs _; rw [hab']; exact hh2⟩
      · repeat (first | refine VC.seq ?_ | refine VC.block ?_ | refine VC.skip ?_)
        refine VC.region ?_
        refine VR.pure rfl rfl (p_eq rfl rfl) ?_
        refine VR.pure rfl rfl (p_assignB rfl) ?_
        refine VR.nil ?_
        repeat (first | refine VC.seq ?_ | refine VC.block ?_ | refine VC.skip ?_)
        refine VC.condF rfl rfl ?_
        repeat (first | refine VC.seq ?_ | refine VC.block ?_ | refine VC.skip ?_)
        refine VC.region ?_
        refine VR.pure rfl rfl (p_eq rfl rfl) ?_
        refine VR.pure rfl rfl (p_assignB rfl) ?_
        refine VR.nil ?_
        repeat (first | refine VC.seq ?_ | refine VC.block ?_ | refine VC.skip ?_)
        refine VC.condF rfl rfl ?_
        repeat (first | refine VC.seq ?_ | refine VC.block ?_ | refine VC.skip ?_)
        refine VC.region ?_
        refine VR.pure rfl rfl (p_eq rfl rfl) ?_
        refine VR.pure rfl rfl (p_assignB rfl) ?_
        refine VR.nil ?_
        repeat (first | refine VC.seq ?_ | refine VC.block ?_ | refine VC.skip ?_)
        refine VC.condT rfl rfl ?_
        replace hm := ((hm.pull 2 rfl).pull 2 rfl)
        repeat (first | refine VC.seq ?_ | refine VC.block ?_ | refine VC.skip ?_)
        refine VC.region ?_
        refine VR.pure rfl rfl (p_moveP rfl) ?_
        refine VR.call rfl rfl (r_call1 Try.call17 rfl) (tick_c hm hC) ?_
        rintro _ w ⟨C', rfl, hC', hab', hm⟩
        refine VR.pure rfl rfl (p_moveT rfl) ?_
        refine VR.pure rfl rfl (p_extract rfl rfl) ?_
        refine VR.pure rfl rfl (p_extract rfl rfl) ?_
        refine VR.pure rfl rfl (p_assignI rfl) ?_
        refine VR.pure rfl rfl (p_assignB rfl) ?_
        refine VR.nil ?_
        replace hm := (hm.pull 2 rfl)
        repeat (first | refine VC.seq ?_ | refine VC.block ?_ | refine VC.skip ?_)
        refine VC.region ?_
        refine VR.pure rfl rfl (p_moveP rfl) ?_
        refine VR.call rfl rfl (r_call1 Try.call18 rfl) (rtick_c hm (by unfold maxLen; omega) hR) ?_
        rintro _ w ⟨rfl, hm⟩
        refine VR.pure rfl rfl (p_moveT rfl) ?_
        refine VR.pure rfl rfl (p_extract rfl rfl) ?_
        refine VR.pure rfl rfl (p_extract rfl rfl) ?_
        refine VR.pure rfl rfl (p_assignI rfl) ?_
        refine VR.pure rfl rfl (p_assignB rfl) ?_
        refine VR.nil ?_
        repeat (first | refine VC.seq ?_ | refine VC.block ?_ | refine VC.skip ?_)
        refine VC.region ?_
        refine VR.pure rfl rfl (p_moveI rfl) ?_
        refine VR.pure rfl rfl (p_moveI rfl) ?_
        refine VR.pure rfl rfl (p_ne rfl rfl) ?_
        refine VR.pure rfl rfl (p_moveB rfl) ?_
        refine VR.knownF 132 rfl (decide_eq_false (not_not_intro (congrArg Prod.fst hk1))) ?_
        refine VR.pureG rfl rfl (p_moveB rfl) ?_
        refine VR.pureG rfl rfl (p_moveB rfl) ?_
        refine VR.pureG rfl rfl (p_neB Try.underlying4 rfl rfl) ?_
        refine VR.pure rfl rfl (p_pickF rfl rfl) ?_
        refine VR.nil ?_
        repeat (first | refine VC.seq ?_ | refine VC.block ?_ | refine VC.skip ?_)
        refine VC.condF rfl (by rw [hk1]; cases (rTick R).1.2 <;> rfl) ?_
        repeat (first | refine VC.seq ?_ | refine VC.block ?_ | refine VC.skip ?_)
        exact ⟨(m, C', (rTick R).2), ⟨rfl, rfl, rfl, rfl, rfl, trivial⟩, G2, huG, hm, hC', hR, hRn, by show Rel C'.abs _; rw [hab']; exact hk2⟩
      · repeat (first | refine VC.seq ?_ | refine VC.block ?_ | refine VC.skip ?_)
        refine VC.region ?_
        refine VR.pure rfl rfl (p_eq rfl rfl) ?_
        refine VR.pure rfl rfl (p_assignB rfl) ?_
        refine VR.nil ?_
        repeat (first | refine VC.seq ?_ | refine VC.block ?_ | refine VC.skip ?_)
        refine VC.condF rfl rfl ?_
        repeat (first | refine VC.seq ?_ | refine VC.block ?_ | refine VC.skip ?_)
        refine VC.region ?_
        refine VR.pure rfl rfl (p_eq rfl rfl) ?_
        refine VR.pure rfl rfl (p_assignB rfl) ?_
        refine VR.nil ?_
        repeat (first | refine VC.seq ?_ | refine VC.block ?_ | refine VC.skip ?_)
        refine VC.condF rfl rfl ?_
        repeat (first | refine VC.seq ?_ | refine VC.block ?_ | refine VC.skip ?_)
        refine VC.region ?_
        refine VR.pure rfl rfl (p_eq rfl rfl) ?_
        refine VR.pure rfl rfl (p_assignB rfl) ?_
        refine VR.nil ?_
        repeat (first | refine VC.seq ?_ | refine VC.block ?_ | refine VC.skip ?_)
        refine VC.condF rfl rfl ?_
        have hxG := hxe.mono huG.heap
        replace hm := ((hm.pull 2 rfl).pull 2 rfl)
        repeat (first | refine VC.seq ?_ | refine VC.block ?_ | refine VC.skip ?_)
        refine VC.loud (Kept G2 []) [9, 10] rfl (by kernel_rfl) (Kept.of0 hm.drew) ?_
        replace hm := hm.drew
        refine VL.pure rfl rfl rfl (p_moveP rfl) ?_
        refine VL.pure rfl rfl rfl (p_field (fo := 2) Try.underlying54 rfl Try.sizeOf52 rfl rfl rfl) ?_
        refine VL.pure rfl rfl rfl (p_field (fo := 4) Try.underlying52 rfl Try.sizeOf3 rfl rfl rfl) ?_
        refine VL.read rfl rfl rfl (fun w' hw' => r_load (v := .int _ _) Try.isAgg3 rfl (hw'.fix _ _ hb16) ((x.aL 4 (by decide)).trans x.l.e)) ?_
        refine VL.pure rfl rfl rfl (p_field (fo := 2) Try.underlying54 rfl Try.sizeOf52 rfl rfl rfl) ?_
        refine VL.pure rfl rfl rfl (p_field (fo := 7) Try.underlying52 rfl Try.sizeOf22 rfl rfl rfl) ?_
        refine VL.read rfl rfl rfl (fun w' hw' => r_load (v := .int _ _) Try.isAgg22 rfl (hw'.fix _ _ hb16) ((x.aL 7 (by decide)).trans x.l.z)) ?_
        refine VL.pure rfl rfl rfl (p_field (fo := 45) Try.underlying54 rfl Try.sizeOf23 rfl rfl rfl) ?_
        refine VL.read rfl rfl rfl (fun w' hw' => r_load (v := .slice _ _ _) Try.isAgg23 rfl (hw'.fix _ _ hb16) x.aC) ?_
        refine VL.call rfl rfl rfl (r_call1 Try.call11 rfl) (copyEs_c hm (by omega) hxG hxsm) ?_
        rintro _ w ⟨A6, c6, qs, G3, rfl, hu3, hqs, hqa, hm⟩
        refine ⟨Kept.of0 (hm.shrink hu3), ?_⟩
        refine VL.call rfl rfl rfl (r_call4 Try.call19 rfl rfl rfl rfl) (begin_c hm (hC.mono hu3.heap) (by omega) hqs (small_abs hxG hqs hqa hxsm)) ?_
        rintro _ w ⟨m', C', G4, hu4, hC', hab', hm⟩
        refine ⟨Kept.of0 ((hm.shrink hu4).shrink hu3), ?_⟩
        refine VL.nil ?_
        have hb17 := hu4.heap _ _ (hu3.heap _ _ hb16)
        have hu34 := hu3.trans hu4
        replace hm := (hm.pull 2 rfl)
        repeat (first | refine VC.seq ?_ | refine VC.block ?_ | refine VC.skip ?_)
        refine VC.loud (Kept G4 []) [9, 10] rfl (by kernel_rfl) (Kept.of0 hm.drew) ?_
        replace hm := hm.drew
        refine VL.pure rfl rfl rfl (p_moveP rfl) ?_
        refine VL.pure rfl rfl rfl (p_field (fo := 2) Try.underlying54 rfl Try.sizeOf52 rfl rfl rfl) ?_
        refine VL.pure rfl rfl rfl (p_field (fo := 4) Try.underlying52 rfl Try.sizeOf3 rfl rfl rfl) ?_
        refine VL.read rfl rfl rfl (fun w' hw' => r_load (v := .int _ _) Try.isAgg3 rfl (hw'.fix _ _ hb17) ((x.aL 4 (by decide)).trans x.l.e)) ?_
        refine VL.pure rfl rfl rfl (p_field (fo := 2) Try.underlying54 rfl Try.sizeOf52 rfl rfl rfl) ?_
        refine VL.pure rfl rfl rfl (p_field (fo := 7) Try.underlying52 rfl Try.sizeOf22 rfl rfl rfl) ?_
        refine VL.read rfl rfl rfl (fun w' hw' => r_load (v := .int _ _) Try.isAgg22 rfl (hw'.fix _ _ hb17) ((x.aL 7 (by decide)).trans x.l.z)) ?_
        refine VL.pure rfl rfl rfl (p_field (fo := 45) Try.underlying54 rfl Try.sizeOf23 rfl rfl rfl) ?_
        refine VL.read rfl rfl rfl (fun w' hw' => r_load (v := .slice _ _ _) Try.isAgg23 rfl (hw'.fix _ _ hb17) x.aC) ?_
        refine VL.call rfl rfl rfl (r_call1 Try.call11 rfl) (copyEs_c hm (by omega) (hxG.mono hu34.heap) hxsm) ?_
        rintro _ w ⟨A7, c7, rs, G5, rfl, hu5, hrs, hra, hm⟩
        refine ⟨Kept.of0 (hm.shrink hu5), ?_⟩
        refine VL.call rfl rfl rfl (r_call4 Try.call20 rfl rfl rfl rfl) (rbegin_c hm (by unfold maxLen; omega) hrs) ?_
        rintro _ w hm
        refine ⟨Kept.of0 (hm.shrink hu5), ?_⟩
        refine VL.nil ?_
        repeat (first | refine VC.seq ?_ | refine VC.block ?_ | refine VC.skip ?_)
        exact ⟨(m', C', rBegin R x.l.t.e x.l.t.z A7 x.n c7 rs), ⟨rfl, rfl, rfl, rfl, rfl, trivial⟩, G5, (huG.trans hu34).trans hu5, hm, hC'.mono hu5.heap, hrs, by show x.n ≤ 100000; omega, by
          show Rel C'.abs _
          rw [hab', hqa, ← hra]
          exact hrel.begin rfl⟩
    · repeat (first | refine VC.seq ?_ | refine VC.block ?_ | refine VC.skip ?_)
      refine VC.condF rfl rfl ?_
      repeat (first | refine VC.seq ?_ | refine VC.block ?_ | refine VC.skip ?_)
      refine VC.exit ?_
      repeat (first | refine VC.seq ?_ | refine VC.block ?_ | refine VC.skip ?_)
      refine VC.region ?_
      refine VR.pure rfl rfl (p_assignB rfl) ?_
      refine VR.nil ?_
      repeat (first | refine VC.seq ?_ | refine VC.block ?_ | refine VC.skip ?_)
      refine VC.ret ⟨_, ResOf.r1 (v := .bool _) rfl rfl, ?_⟩
      exact ⟨rfl, hm.none_.shrink hu⟩
  · repeat (first | refine VC.seq ?_ | refine VC.block ?_ | refine VC.skip ?_)
    refine VC.region ?_
    refine VR.pure rfl rfl (p_moveI rfl) ?_
    refine VR.pure rfl rfl (p_moveI rfl) ?_
    refine VR.pure rfl rfl (p_moveI rfl) ?_
    refine VR.pure rfl rfl (p_moveL rfl) ?_
    refine VR.call rfl rfl (r_call4 Try.call9 rfl rfl rfl rfl) (new_no (id := id) hid) ?_
    rintro _ _ ⟨rfl, rfl⟩
    refine VR.pure rfl rfl (p_assignP rfl) ?_
    refine VR.nil ?_
    repeat (first | refine VC.seq ?_ | refine VC.block ?_ | refine VC.skip ?_)
    refine VC.region ?_
    refine VR.pure rfl rfl (p_moveI rfl) ?_
    refine VR.pure rfl rfl (p_moveI rfl) ?_
    refine VR.pure rfl rfl (p_moveI rfl) ?_
    refine VR.pure rfl rfl (p_moveL rfl) ?_
    refine VR.call rfl rfl (r_call1 Try.call11 rfl) (copyEs_c hm (by omega) hes hsm) ?_
    rintro _ w ⟨A3, c3, ps, G1, rfl, hu1, hps, hpa, hm⟩
    refine VR.call rfl rfl (r_call4 Try.call10 rfl rfl rfl rfl) (rnew_c (id := id) (ep := ep) (zx := zx) hm (by unfold maxLen; omega) hps) ?_
    rintro _ w ⟨gr, rfl, hm⟩
    refine VR.pure rfl rfl (p_moveT rfl) ?_
    refine VR.pure rfl rfl (p_extract rfl rfl) ?_
    refine VR.pure rfl rfl (p_extract rfl rfl) ?_
    refine VR.pure rfl rfl (p_assignP rfl) ?_
    refine VR.pure rfl rfl (p_assignB rfl) ?_
    refine VR.nil ?_
    repeat (first | refine VC.seq ?_ | refine VC.block ?_ | refine VC.skip ?_)
    refine VC.region ?_
    refine VR.pure rfl rfl (p_moveL rfl) ?_
    refine VR.pure rfl rfl (p_moveL rfl) ?_
    refine VR.call rfl rfl (r_call2 Try.call12 rfl rfl) (keptEs_c (d := c0) hm.all (by omega) hle5.1 (ho.row (hm.plus_mem (.tail _ (.head _)))) hls (fun L hL ↦ hm.plus_mem (.tail _ (.tail _ (List.mem_append_left _ hL)))) ((hes.mono hu1.heap).mono hm.le) hsm) ?_
    rintro _ w ⟨rfl, hm'⟩
    replace hm := hm.back0 hm'
    refine VR.pure rfl rfl (p_not rfl) ?_
    refine VR.pure rfl rfl (p_moveB rfl) ?_
    refine VR.knownF 51 rfl rfl ?_
    refine VR.pureG rfl rfl (p_moveP rfl) ?_
    refine VR.pureG rfl rfl (p_neNilP Try.underlying27 rfl) ?_
    refine VR.pureG rfl rfl (p_moveB rfl) ?_
    refine VR.pureG rfl rfl (p_neB Try.underlying4 rfl rfl) ?_
    refine VR.pure rfl rfl (p_pickF rfl rfl) ?_
    refine VR.nil ?_
    repeat (first | refine VC.seq ?_ | refine VC.block ?_ | refine VC.skip ?_)
    refine VC.condF rfl (by rw [decide_eq_false hid]; rfl) ?_
    have hm2 := hm.pop
    clear hm
    repeat (first | refine VC.seq ?_ | refine VC.block ?_ | refine VC.skip ?_)
    refine VC.region ?_
    refine VR.pure rfl rfl (p_moveL rfl) ?_
    refine VR.call rfl rfl (r_call1 Try.call13 rfl) (overEs_c hm2 (by omega) ho hls hel hsm) ?_
    rintro _ w hm
    refine VR.nil ?_
    repeat (first | refine VC.seq ?_ | refine VC.block ?_ | refine VC.skip ?_)
    refine VC.region ?_
    refine VR.pure rfl rfl (p_assignI rfl) ?_
    refine VR.nil ?_
    repeat (first | refine VC.seq ?_ | refine VC.block ?_ | refine VC.skip ?_)
    refine VC.loop (σ := Unit) (fun s => [(4, .slice A2 n2 c2), (14, .bool false), (15, .int .i64 0)])
      (fun s w => Mem G1 w []) (fun s => 0) () ⟨rfl, congrArg Value.bool (decide_eq_false hid), rfl, trivial⟩ hm ?_
    clear hm
    rintro _ AA w hm
    repeat (first | refine VC.seq ?_ | refine VC.block ?_ | refine VC.skip ?_)
    refine VC.region ?_
    refine VR.pure rfl rfl (p_moveI rfl) ?_
    refine VR.pure rfl rfl (p_moveL rfl) ?_
    refine VR.pure rfl rfl (p_len Try.underlying24 rfl) ?_
    refine VR.pure rfl rfl (p_lt rfl rfl) ?_
    refine VR.pure rfl rfl (p_moveB rfl) ?_
    refine VR.splitD 63 rfl (fun hlt => ?_) (fun hlt => ?_)
    refine VR.pureG rfl rfl (p_moveB rfl) ?_
    refine VR.pure rfl rfl (p_pickT rfl rfl) ?_
    refine VR.nil ?_
    rotate_left 1
    refine VR.pass rfl rfl ?_
    refine VR.pure rfl rfl (p_pickF rfl rfl) ?_
    refine VR.nil ?_
    rotate_left 1
    · repeat (first | refine VC.seq ?_ | refine VC.block ?_ | refine VC.skip ?_)
      refine VC.condF rfl rfl ?_
      repeat (first | refine VC.seq ?_ | refine VC.block ?_ | refine VC.skip ?_)
      refine VC.exit ?_
      repeat (first | refine VC.seq ?_ | refine VC.block ?_ | refine VC.skip ?_)
      refine VC.region ?_
      refine VR.pure rfl rfl (p_assignB rfl) ?_
      refine VR.nil ?_
      repeat (first | refine VC.seq ?_ | refine VC.block ?_ | refine VC.skip ?_)
      refine VC.ret ⟨_, ResOf.r1 (v := .bool _) rfl rfl, ?_⟩
      exact ⟨rfl, hm.shrink hu1⟩
    · repeat (first | refine VC.seq ?_ | refine VC.block ?_ | refine VC.skip ?_)
      refine VC.condF rfl rfl ?_
      repeat (first | refine VC.seq ?_ | refine VC.block ?_ | refine VC.skip ?_)
      refine VC.exit ?_
      repeat (first | refine VC.seq ?_ | refine VC.block ?_ | refine VC.skip ?_)
      refine VC.region ?_
      refine VR.pure rfl rfl (p_assignB rfl) ?_
      refine VR.nil ?_
      repeat (first | refine VC.seq ?_ | refine VC.block ?_ | refine VC.skip ?_)
      refine VC.ret ⟨_, ResOf.r1 (v := .bool _) rfl rfl, ?_⟩
      exact ⟨rfl, hm.shrink hu1⟩
end Go.Bd
namespace Go.Proofs.Ytnakbhpgcngofaa
open Go.Bd Go.ChangeShapes Go.WideShapes

set_option maxRecDepth 100000 in
theorem does_lifted (os : Os) (started : os.Started) (H : Type) (enc : TypeId × Value → H) :
    ReturnsInHanded {} Try.checked os 3 .any (Rows.chooseDoesSpec.pre6 enc Try.prog Try.f3 Rows.chooseDoesRow.domain false) (Rows.chooseDoesSpec.post enc Try.prog Try.f3 false true false false) := by
  refine law_frame (C := Try.checked) (tb := 4) (by kernel_rfl) (by kernel_rfl) started (by kernel_rfl) Try.func3 rfl rfl Try.underlying4 (by kernel_rfl) ?_
    (ChangeSpec.witness6 (enc := enc) (C := Try.checked) false ⟨#[], #[.int .i64 0, .int .i64 0, .int .i64 0, .slice none 0 0, .slice none 0 0], []⟩ 8 (by kernel_rfl) (by kernel_rfl) (by kernel_rfl) (by kernel_rfl)) ?_
  · intro ds hl
    match ds, hl with
    | [d1, d2, d3, d4, d5], _ => rfl
  · intro W base args ds p hval hA hwt
    replace hA : DataW.TrodAll enc Try.prog W 0 (fun _ => true) true Try.f3.params.toList args.toList ds p := hA
    rw [Try.params3] at hA hval
    replace hwt : (DataW.weightsEach Try.prog [3, 3, 22, 23, 24] ds).all (· ≤ reachBytes) = true := hwt
    obtain ⟨v0, vs0, d0, ds0, p0, q0, hargs, rfl, rfl, h0, r0⟩ := trodAll_cons hA
    obtain ⟨v1, vs1, d1, ds1, p1, q1, rfl, rfl, rfl, h1, r1⟩ := trodAll_cons r0
    obtain ⟨v2, vs2, d2, ds2, p2, q2, rfl, rfl, rfl, h2, r2⟩ := trodAll_cons r1
    obtain ⟨v3, vs3, d3, ds3, p3, q3, rfl, rfl, rfl, h3, r3⟩ := trodAll_cons r2
    obtain ⟨v4, vs4, d4, ds4, p4, q4, rfl, rfl, rfl, h4, r4⟩ := trodAll_cons r3
    obtain ⟨rfl, rfl, rfl⟩ := trodAll_nil r4
    obtain rfl : args = #[v0, v1, v2, v3, v4] := by cases args; simp_all
    obtain ⟨a0, rfl, _, _, w0⟩ := open_int Try.underlying3 (hval 0 3 v0 rfl rfl) h0
    obtain ⟨a1, rfl, _, _, w1⟩ := open_int Try.underlying3 (hval 1 3 v1 rfl rfl) h1
    obtain ⟨a2, rfl, _, _, w2⟩ := open_int Try.underlying22 (hval 2 22 v2 rfl rfl) h2
    obtain ⟨A3, n3, c3, es, rfl, hn3, hc3, hb3, hes, hsm⟩ := open_enss (hval 3 23 v3 rfl rfl) h3 (LightAll.cons (LightAll.cons (LightAll.cons (LightAll.cons hwt).2).2).2).1
    obtain ⟨A4, n4, c4, ds, rfl, hn4, hc4, hrd, hdd, hdl⟩ := open_deeds (hval 4 24 v4 rfl rfl) h4 (LightAll.cons (LightAll.cons (LightAll.cons (LightAll.cons (LightAll.cons hwt).2).2).2).2).1
    exact choose_does_c hes (fun e he => by have h1 := hsm e he; have h3 := (hes.each e he).2.1; unfold reachBytes at h1; omega) hrd hdd hdl (by unfold maxLen at *; omega) (by unfold maxLen at *; omega) (Mem.of W)

theorem does : Rows.ChooseDoesSaid :=
  OpenClaim.holds_of_wide 3 Try.f3 rfl rfl rfl rfl rfl rfl rfl ⟨rfl, rfl, rfl, rfl, rfl⟩ rfl rfl rfl rfl rfl (by kernel_rfl) Try.func3 (by kernel_rfl)
    (of_decide_eq_true (by kernel_rfl)) (by unfold Func.isWrapper; rw [if_neg (of_decide_eq_false (by kernel_rfl))]; exact ⟨rfl, rfl⟩)
    (fun os started H enc _ => does_lifted os started H enc)
end Go.Proofs.Ytnakbhpgcngofaa
