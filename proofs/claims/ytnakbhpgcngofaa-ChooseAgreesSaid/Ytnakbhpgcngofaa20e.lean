/- Contracts of layer 20: configs copied; whether one of them lets a server vote; a chooser, and how it turns and begins. Conditions: as each states. -/
import Derived.Test.Ytnakbhpgcngofaa20c
import Derived.Test.Ytnakbhpgcngofaa20m
namespace Go.Bd
open Go.Proofs
set_option linter.unusedVariables false
set_option maxRecDepth 20000

section
variable {F : Env} {w : World} {Ls : List Blks}
theorem cloneE_c {A : Option Addr} {n c : Nat} {es : List En} (hm : Mem F w Ls) (hn : n * 32 ≤ 140737488355328) (hr : ERow F.heap A n es) :
    Calls Try.prog 61 #[.slice A n c] w (Ret fun v w' => ∃ A' c' L, v = .slice A' n c' ∧ OwnS 42 2 A' n c' (ecells es) L ∧ Mem F w' (L :: Ls)) := by
  refine Calls.of_vc Try.func61 rfl Try.ntmps61 rfl ?_
  repeat (first | refine VC.seq ?_ | refine VC.block ?_ | refine VC.skip ?_)
  refine VC.region ?_
  refine VR.pure rfl rfl (p_assignL rfl) ?_
  refine VR.nil ?_
  repeat (first | refine VC.seq ?_ | refine VC.block ?_ | refine VC.skip ?_)
  refine VC.region ?_
  refine VR.pure rfl rfl (p_moveL rfl) ?_
  refine VR.pure rfl rfl (p_eqNil Try.underlying23 rfl) ?_
  refine VR.nil ?_
  cases A with
  | none =>
    repeat (first | refine VC.seq ?_ | refine VC.block ?_ | refine VC.skip ?_)
    refine VC.condT rfl rfl ?_
    repeat (first | refine VC.seq ?_ | refine VC.block ?_ | refine VC.skip ?_)
    refine VC.region ?_
    refine VR.pure rfl rfl (p_assignL rfl) ?_
    refine VR.nil ?_
    repeat (first | refine VC.seq ?_ | refine VC.block ?_ | refine VC.skip ?_)
    refine VC.ret ⟨_, ResOf.r1 (v := .slice _ _ _) rfl rfl, ?_⟩
    have hn0 : n = 0 := by
      rcases Nat.eq_zero_or_pos n with h0 | h0
      · exact h0
      · obtain ⟨b, off, blk, T, fr, e, _⟩ := hr.row.get (by omega)
        cases e
    subst hn0
    have hms : es = [] := List.eq_nil_of_length_eq_zero hr.len
    subst hms
    exact ⟨none, 0, [], rfl, OwnS.nil _ _, hm.nil_⟩
  | some a =>
    repeat (first | refine VC.seq ?_ | refine VC.block ?_ | refine VC.skip ?_)
    refine VC.condF rfl rfl ?_
    repeat (first | refine VC.seq ?_ | refine VC.block ?_ | refine VC.skip ?_)
    refine VC.region ?_
    refine VR.new hm rfl rfl (n_buildSlice0 Try.underlying23 inf42) ?_
    intro g w hm
    refine VR.pure rfl rfl (p_moveL rfl) ?_
    refine VR.append (s := 2) (bytes := 32) Try.underlying23 inf42 rfl rfl rfl rfl rfl rfl rfl rfl rfl hm (OwnS.made (c := 0) (by unfold maxLen; omega) rfl) (hr.row.mono hm.fix) (ecells_one es) (Nat.zero_add n) ⟨by unfold maxLen; omega, by omega⟩ ?_
    intro A' c' w' L' ho' hm'
    refine VR.pure rfl rfl (p_assignL rfl) ?_
    refine VR.nil ?_
    repeat (first | refine VC.seq ?_ | refine VC.block ?_ | refine VC.skip ?_)
    refine VC.ret ⟨_, ResOf.r1 (v := .slice _ _ _) rfl rfl, ?_⟩
    exact ⟨A', c', L', rfl, ho', hm'⟩
theorem ecells_set {e o : En} (hv : o.ver = e.ver) : ∀ {es : List En} {k : Nat}, es[k]? = some e → ecells (es.set k o) = (ecells es).set (k * 2 + 1) (.slice o.A o.n o.c)
  | [], _, h => by simp at h
  | x :: r, 0, h => by
    obtain rfl := Option.some.inj (show some x = some e from h)
    show o.cells ++ ecells r = (x.cells ++ ecells r).set 1 _
    unfold En.cells
    rw [hv]
    rfl
  | x :: r, k + 1, h => by
    have := ecells_set hv (es := r) (k := k) h
    show x.cells ++ ecells (r.set k o) = (x.cells ++ ecells r).set ((k + 1) * 2 + 1) _
    rw [this]
    have e2 : (k + 1) * 2 + 1 = (k * 2 + 1) + 1 + 1 := by omega
    rw [e2]
    rfl
/-- One field of an element stored anew. -/
theorem OwnS.setE {g n c : Nat} {cur : Array Value} {es : List En} {k : Nat} {e o : En} (ho : OwnS 42 2 (some ⟨g, 0, none⟩) n c (ecells es) [(g, .cells cur 42 (0, 0))]) (he : es[k]? = some e) (hk : k < n) (hv : o.ver = e.ver) :
    OwnS 42 2 (some ⟨g, 0, none⟩) n c (ecells (es.set k o)) [(g, .cells (cur.setIfInBounds (0 + k * 2 + 1) (.slice o.A o.n o.c)) 42 (0, 0))] := by
  obtain ⟨h1, h2⟩ := ho
  rw [Nat.zero_add]
  refine ⟨by rw [ecells_set hv he, List.length_set]; exact h1, .inr ⟨g, _, rfl, rfl, ?_⟩⟩
  rcases h2 with ⟨h, _⟩ | ⟨g', cur', e1, e2, h3, h4, h5, h6⟩
  · cases h
  · simp only [List.cons.injEq, Prod.mk.injEq, Obj.cells.injEq] at e2
    obtain rfl := e2.1.2.1
    refine ⟨h3, h4, by rw [Array.size_setIfInBounds]; exact h5, ?_⟩
    rw [ecells_set hv he, ← h6, Array.toList_setIfInBounds, List.take_set]
/-- Configs that are copies of others. -/
structure Copies (H : Nat → Option Obj) (os es : List En) (k : Nat) : Prop where
  len : os.length = es.length
  done : ∀ j o, j < k → os[j]? = some o → EnOk H o
  rest : ∀ j, k ≤ j → os[j]? = es[j]?
  abs : os.map En.abs = es.map En.abs

set_option maxHeartbeats 2000000 in
theorem copied_c {A : Option Addr} {n c : Nat} {es : List En} (hm : Mem F w Ls) (hn : n ≤ 100000) (hr : ERow F.heap A n es) (hsm : ∀ e ∈ es, e.n * 32 ≤ 140737488355328) :
    Calls Try.prog 40 #[.slice A n c] w (Ret fun v w' => ∃ A' c' os G, v = .slice A' n c' ∧ F.under G ∧ ERow G.heap A' n os ∧ os.map En.abs = es.map En.abs ∧ Mem G w' Ls) := by
  have hl := hr.len
  refine Calls.of_vc Try.func40 rfl Try.ntmps40 rfl ?_
  repeat (first | refine VC.seq ?_ | refine VC.block ?_ | refine VC.skip ?_)
  refine VC.region ?_
  refine VR.pure rfl rfl (p_assignL rfl) ?_
  refine VR.nil ?_
  repeat (first | refine VC.seq ?_ | refine VC.block ?_ | refine VC.skip ?_)
  refine VC.region ?_
  refine VR.pure rfl rfl (p_moveL rfl) ?_
  refine VR.call rfl rfl (r_call1 Try.call61 rfl) (cloneE_c hm (by omega) hr) ?_
  rintro _ w ⟨A1, c1, L1, rfl, ho1, hm⟩
  refine VR.pure rfl rfl (p_assignL rfl) ?_
  refine VR.nil ?_
  repeat (first | refine VC.seq ?_ | refine VC.block ?_ | refine VC.skip ?_)
  refine VC.region ?_
  refine VR.pure rfl rfl (p_moveL rfl) ?_
  refine VR.pure rfl rfl (p_len Try.underlying23 rfl) ?_
  refine VR.pure rfl rfl (p_moveI rfl) ?_
  refine VR.nil ?_
  repeat (first | refine VC.seq ?_ | refine VC.block ?_ | refine VC.skip ?_)
  refine VC.loop (σ := Nat × List En × Blks) (fun s => [(3, .slice A1 n c1), (8, .int .i64 n), (9, .int .i64 s.1)])
    (fun s w => s.1 ≤ n ∧ ∃ G, F.under G ∧ OwnS 42 2 A1 n c1 (ecells s.2.1) s.2.2 ∧ Copies G.heap s.2.1 es s.1 ∧ Mem G w (s.2.2 :: Ls)) (fun s => n - s.1) (0, es, L1) ⟨rfl, rfl, rfl, trivial⟩
    ⟨by omega, F, Env.under_refl F, ho1, ⟨rfl, fun j o h => by omega, fun j _ => rfl, rfl⟩, hm⟩ ?_
  clear hm ho1
  rintro ⟨k, os, L⟩ A2 w ⟨hk, G, hu, ho, hcp, hm⟩
  dsimp only at hk ho hcp hm ⊢
  repeat (first | refine VC.seq ?_ | refine VC.block ?_ | refine VC.skip ?_)
  refine VC.region ?_
  refine VR.pure rfl rfl (p_lt rfl rfl) ?_
  refine VR.nil ?_
  repeat (first | refine VC.seq ?_ | refine VC.block ?_ | refine VC.skip ?_)
  refine VC.condD rfl (fun h => ?_) (fun h => ?_)
  · have hk' : k < n := by omega
    obtain ⟨e, he, hem⟩ := get_of (xs := es) (k := k) (by omega)
    have hek : os[k]? = some e := by rw [hcp.rest k (Nat.le_refl _), he]
    have hen := hsm e hem
    have hok := (hr.each e hem).mono hu.heap
    have hokc := ho
    rcases ho.2 with ⟨_, h0, _⟩ | ⟨g, cur, rfl, rfl, h1, h2, h3, h4⟩
    · omega
    have hcell : cur[0 + k * 2 + 1]? = some (.slice e.A e.n e.c) := by
      obtain ⟨b, off, cur', e1, e2, hcc⟩ := ho.toO.elem En.len (by decide) (by omega)
      simp only [Option.some.injEq, Addr.mk.injEq] at e1
      obtain ⟨rfl, rfl, _⟩ := e1
      simp only [List.cons.injEq, Prod.mk.injEq, Obj.cells.injEq] at e2
      obtain rfl := e2.1.2.1
      exact hcc k e hek 1 (by decide)
    repeat (first | refine VC.seq ?_ | refine VC.block ?_ | refine VC.skip ?_)
    repeat (first | refine VC.seq ?_ | refine VC.block ?_ | refine VC.skip ?_)
    refine VC.region ?_
    refine VR.pure rfl rfl (p_moveI rfl) ?_
    refine VR.pure rfl rfl (p_assignI rfl) ?_
    refine VR.nil ?_
    repeat (first | refine VC.seq ?_ | refine VC.block ?_ | refine VC.skip ?_)
    refine VC.region ?_
    refine VR.pure rfl rfl (p_moveL rfl) ?_
    refine VR.pure rfl rfl (p_moveI rfl) ?_
    refine VR.pure rfl rfl (p_moveL rfl) ?_
    refine VR.pure rfl rfl (p_moveI rfl) ?_
    refine VR.pure rfl rfl (p_idxN Try.underlying23 Try.sizeOf42 rfl rfl hk') ?_
    refine VR.pure rfl rfl (p_field (fo := 1) Try.underlying42 rfl Try.sizeOf40 rfl rfl rfl) ?_
    refine VR.val rfl rfl (r_load (v := .slice _ _ _) Try.isAgg40 rfl (hm.at_ 0 0 rfl) hcell) ?_
    refine VR.call rfl rfl (r_call1 Try.call62 rfl) (clone_c hm hen hok.1) ?_
    rintro _ w ⟨A7, c7, L7, rfl, ho7, hm⟩
    refine VR.pure rfl rfl (p_idxN Try.underlying23 Try.sizeOf42 rfl rfl hk') ?_
    refine VR.pure rfl rfl (p_field (fo := 1) Try.underlying42 rfl Try.sizeOf40 rfl rfl rfl) ?_
    refine VR.store (cs' := (cur.setIfInBounds (0 + k * 2 + 1) (.slice A7 e.n c7))) (v := .slice _ _ _) Try.sizeOf40 rfl rfl rfl rfl rfl hm 1 0 rfl (by omega) rfl ?_
    intro w hm
    refine VR.nil ?_
    repeat (first | refine VC.seq ?_ | refine VC.block ?_ | refine VC.skip ?_)
    refine VC.region ?_
    refine VR.pure rfl rfl (p_add64 rfl rfl (by omega)) ?_
    refine VR.pure rfl rfl (p_moveI rfl) ?_
    refine VR.nil ?_
    obtain ⟨G2, hu2, hm, h7⟩ := hm.freeze
    have hset := OwnS.setE (o := ⟨e.ver, A7, e.n, c7, e.ms⟩) ho hek hk' rfl
    refine ⟨(k + 1, os.set k ⟨e.ver, A7, e.n, c7, e.ms⟩, _), ⟨rfl, rfl, rfl, trivial⟩, ⟨by omega, G2, hu.trans hu2, hset, ⟨by rw [List.length_set]; exact hcp.len, fun j o hj hjo => ?_, fun j hj => ?_, ?_⟩, hm⟩, by omega⟩
    · rw [List.getElem?_set] at hjo
      by_cases e1 : k = j
      · rw [if_pos e1, if_pos (by rw [hcp.len]; omega)] at hjo
        obtain rfl := Option.some.inj hjo
        exact ⟨ho7.row h7, ho7.le⟩
      · rw [if_neg e1] at hjo
        exact (hcp.done j o (by omega) hjo).mono hu2.heap
    · rw [List.getElem?_set, if_neg (by omega)]
      exact hcp.rest j (by omega)
    · rw [List.map_set, ← hcp.abs]
      apply List.ext_getElem?
      intro j
      rw [List.getElem?_set]
      by_cases e1 : k = j
      · subst e1
        rw [if_pos rfl, if_pos (by rw [List.length_map, hcp.len]; omega), List.getElem?_map, hek]
        rfl
      · rw [if_neg e1]
  · repeat (first | refine VC.seq ?_ | refine VC.block ?_ | refine VC.skip ?_)
    refine VC.exit ?_
    have hkn : k = n := by omega
    subst hkn
    obtain ⟨G2, hu2, hm, h7⟩ := hm.freeze
    repeat (first | refine VC.seq ?_ | refine VC.block ?_ | refine VC.skip ?_)
    refine VC.region ?_
    refine VR.pure rfl rfl (p_moveL rfl) ?_
    refine VR.pure rfl rfl (p_assignL rfl) ?_
    refine VR.nil ?_
    repeat (first | refine VC.seq ?_ | refine VC.block ?_ | refine VC.skip ?_)
    refine VC.ret ⟨_, ResOf.r1 (v := .slice _ _ _) rfl rfl, ?_⟩
    refine ⟨A1, c1, os, G2, rfl, hu.trans hu2, ⟨ho.row h7, fun o hx => ?_⟩, hcp.abs, hm⟩
    obtain ⟨j, hj, rfl⟩ := List.mem_iff_getElem.1 hx
    exact (hcp.done j _ (by rw [hcp.len, hl] at hj; omega) (List.getElem?_eq_getElem hj)).mono hu2.heap

/-! ### Whether a server may vote -/
theorem turnf_c {b g : Nat} {id : Int} {cur : Array Value} {T : TypeId} {e : En} (hm : Mem F w Ls) (hb : F.heap b = some (.cells #[.pointer (some ⟨g, 0, none⟩)] 27 (0, 0))) (hg : F.heap g = some (.cells cur T (0, 0))) (hid : cur[0]? = some (.int .i64 id)) (hok : EnOk F.heap e) :
    Calls Try.prog 56 #[.agg #[.int .i64 e.ver, .slice e.A e.n e.c], .pointer (some ⟨b, 0, none⟩)] w (Ret fun v w' => v = .bool (voterE e.ms id) ∧ Mem F w' Ls) := by
  refine Calls.of_vc Try.func56 rfl Try.ntmps56 rfl ?_
  repeat (first | refine VC.seq ?_ | refine VC.block ?_ | refine VC.skip ?_)
  refine VC.region ?_
  refine VR.new hm rfl rfl (n_boxG rfl) ?_
  intro b2 w hm
  refine VR.pure rfl rfl (p_assignB rfl) ?_
  refine VR.nil ?_
  obtain ⟨G, hu, hm, hb2⟩ := hm.freeze
  replace hb2 := hb2 _ (.head _)
  have hbG := hu.heap _ _ hb
  have hgG := hu.heap _ _ hg
  repeat (first | refine VC.seq ?_ | refine VC.block ?_ | refine VC.skip ?_)
  refine VC.loud (Kept G []) [5] rfl (by kernel_rfl) (Kept.of0 hm.drew) ?_
  replace hm := hm.drew
  refine VL.read rfl rfl rfl (fun w' hw' => r_loadAgg (vs := [.int _ _, .slice _ _ _]) Try.isAgg42 Try.sizeOf42 rfl (hw'.fix _ _ hb2) rfl (agg_at rfl)) ?_
  refine VL.read rfl rfl rfl (fun w' hw' => r_load (v := .pointer _) Try.isAgg27 rfl (hw'.fix _ _ hbG) rfl) ?_
  refine VL.pure rfl rfl rfl (p_nilCheck rfl) ?_
  refine VL.pure rfl rfl rfl (p_field (fo := 0) Try.underlying67 rfl Try.sizeOf3 rfl rfl rfl) ?_
  refine VL.read rfl rfl rfl (fun w' hw' => r_load (v := .int _ _) Try.isAgg3 rfl (hw'.fix _ _ hgG) hid) ?_
  refine VL.call rfl rfl rfl (r_call2 Try.call26 rfl rfl) (voter_c (e := e) hm (Nat.le_trans hok.2.1 hok.2.2) (hok.1.mono hu.heap)) ?_
  rintro _ w ⟨rfl, hm⟩
  refine ⟨Kept.of0 hm, ?_⟩
  refine VL.pure rfl rfl rfl (p_assignB rfl) ?_
  refine VL.nil ?_
  repeat (first | refine VC.seq ?_ | refine VC.block ?_ | refine VC.skip ?_)
  refine VC.ret ⟨_, ResOf.r1 (v := .bool _) rfl rfl, ?_⟩
  exact ⟨rfl, hm.shrink hu⟩
theorem indexT_c {b g : Nat} {id : Int} {cur : Array Value} {T : TypeId} {A : Option Addr} {n c : Nat} {es : List En} (hm : Mem F w Ls) (hb : F.heap b = some (.cells #[.pointer (some ⟨g, 0, none⟩)] 27 (0, 0))) (hg : F.heap g = some (.cells cur T (0, 0))) (hid : cur[0]? = some (.int .i64 id)) (hn : n ≤ maxLen) (hr : ERow F.heap A n es) :
    Calls Try.prog 70 #[.slice A n c, .func (.func 56) #[] #[.pointer (some ⟨b, 0, none⟩)]] w
      (Ret fun v w' => (∃ z, v = .int .i64 z ∧ decide (0 ≤ z) = es.any fun e => voterE e.ms id) ∧ Mem F w' Ls) := by
  have hl := hr.len
  unfold maxLen at hn
  refine Calls.of_vc Try.func70 rfl Try.ntmps70 rfl ?_
  repeat (first | refine VC.seq ?_ | refine VC.block ?_ | refine VC.skip ?_)
  refine VC.region ?_
  refine VR.pure rfl rfl (p_assignI rfl) ?_
  refine VR.nil ?_
  repeat (first | refine VC.seq ?_ | refine VC.block ?_ | refine VC.skip ?_)
  refine VC.region ?_
  refine VR.pure rfl rfl (p_moveL rfl) ?_
  refine VR.pure rfl rfl (p_len Try.underlying23 rfl) ?_
  refine VR.pure rfl rfl (p_moveI rfl) ?_
  refine VR.nil ?_
  repeat (first | refine VC.seq ?_ | refine VC.block ?_ | refine VC.skip ?_)
  refine VC.loop (σ := Nat) (fun k => [(0, .slice A n c), (1, .func (.func 56) #[] #[.pointer (some ⟨b, 0, none⟩)]), (7, .int .i64 n), (8, .int .i64 k)]) (fun k w => Mem F w Ls ∧ k ≤ n ∧ (es.take k).any (fun e => voterE e.ms id) = false) (fun k => n - k) 0 ⟨rfl, rfl, rfl, rfl, trivial⟩ ⟨hm, by omega, rfl⟩ ?_
  clear hm
  rintro k A' w ⟨hm, hk, hno⟩
  repeat (first | refine VC.seq ?_ | refine VC.block ?_ | refine VC.skip ?_)
  refine VC.region ?_
  refine VR.pure rfl rfl (p_lt rfl rfl) ?_
  refine VR.nil ?_
  repeat (first | refine VC.seq ?_ | refine VC.block ?_ | refine VC.skip ?_)
  refine VC.condD rfl (fun h => ?_) (fun h => ?_)
  · have hk' : k < n := by omega
    obtain ⟨e, he, hem⟩ := get_of (xs := es) (k := k) (by omega)
    obtain ⟨b', off, blk, T', fr, rfl, hb', hcc⟩ := hr.row.elem En.len (by decide) (by omega)
    repeat (first | refine VC.seq ?_ | refine VC.block ?_ | refine VC.skip ?_)
    refine VC.region ?_
    refine VR.pure rfl rfl (p_moveI rfl) ?_
    refine VR.pure rfl rfl (p_assignI rfl) ?_
    refine VR.nil ?_
    repeat (first | refine VC.seq ?_ | refine VC.block ?_ | refine VC.skip ?_)
    refine VC.region ?_
    refine VR.pure rfl rfl (p_moveF rfl) ?_
    refine VR.pure rfl rfl (p_moveL rfl) ?_
    refine VR.pure rfl rfl (p_moveI rfl) ?_
    refine VR.pure rfl rfl (p_idxN Try.underlying23 Try.sizeOf42 rfl rfl hk') ?_
    refine VR.val rfl rfl (r_loadAgg (vs := [.int .i64 e.ver, .slice e.A e.n e.c]) Try.isAgg42 Try.sizeOf42 rfl (hm.fix _ _ hb') rfl (hcc k e he)) ?_
    refine VR.call rfl rfl (r_callV Try.call56 rfl rfl) (turnf_c (e := e) hm hb hg hid (hr.each e hem)) ?_
    rintro _ w ⟨rfl, hm⟩
    refine VR.nil ?_
    by_cases hv : voterE e.ms id = true
    · repeat (first | refine VC.seq ?_ | refine VC.block ?_ | refine VC.skip ?_)
      refine VC.condT rfl hv ?_
      repeat (first | refine VC.seq ?_ | refine VC.block ?_ | refine VC.skip ?_)
      refine VC.region ?_
      refine VR.pure rfl rfl (p_moveI rfl) ?_
      refine VR.pure rfl rfl (p_assignI rfl) ?_
      refine VR.nil ?_
      repeat (first | refine VC.seq ?_ | refine VC.block ?_ | refine VC.skip ?_)
      refine VC.ret ⟨_, ResOf.r1 (v := .int _ _) rfl rfl, ?_⟩
      refine ⟨⟨_, rfl, ?_⟩, hm⟩
      rw [decide_eq_true (by omega)]
      exact (List.any_eq_true.2 ⟨e, hem, hv⟩).symm
    · repeat (first | refine VC.seq ?_ | refine VC.block ?_ | refine VC.skip ?_)
      refine VC.condF rfl (Bool.not_eq_true _ |>.mp hv) ?_
      repeat (first | refine VC.seq ?_ | refine VC.block ?_ | refine VC.skip ?_)
      refine VC.region ?_
      refine VR.pure rfl rfl (p_add64 rfl rfl (by omega)) ?_
      refine VR.pure rfl rfl (p_moveI rfl) ?_
      refine VR.nil ?_
      refine ⟨k + 1, ⟨rfl, rfl, rfl, rfl, trivial⟩, ⟨hm, by omega, ?_⟩, by omega⟩
      rw [List.take_add_one, he, List.any_append, hno]
      show (false || (voterE e.ms id || false)) = false
      rw [Bool.not_eq_true _ |>.mp hv]
      rfl
  · repeat (first | refine VC.seq ?_ | refine VC.block ?_ | refine VC.skip ?_)
    refine VC.exit ?_
    rw [List.take_of_length_le (by omega)] at hno
    repeat (first | refine VC.seq ?_ | refine VC.block ?_ | refine VC.skip ?_)
    refine VC.region ?_
    refine VR.pure rfl rfl (p_assignI rfl) ?_
    refine VR.nil ?_
    repeat (first | refine VC.seq ?_ | refine VC.block ?_ | refine VC.skip ?_)
    refine VC.ret ⟨_, ResOf.r1 (v := .int _ _) rfl rfl, ?_⟩
    exact ⟨⟨_, rfl, by rw [hno]; rfl⟩, hm⟩
theorem containsT_c {b g : Nat} {id : Int} {cur : Array Value} {T : TypeId} {A : Option Addr} {n c : Nat} {es : List En} (hm : Mem F w Ls) (hb : F.heap b = some (.cells #[.pointer (some ⟨g, 0, none⟩)] 27 (0, 0))) (hg : F.heap g = some (.cells cur T (0, 0))) (hid : cur[0]? = some (.int .i64 id)) (hn : n ≤ maxLen) (hr : ERow F.heap A n es) :
    Calls Try.prog 55 #[.slice A n c, .func (.func 56) #[] #[.pointer (some ⟨b, 0, none⟩)]] w
      (Ret fun v w' => v = .bool (es.any fun e => voterE e.ms id) ∧ Mem F w' Ls) := by
  refine Calls.of_vc Try.func55 rfl Try.ntmps55 rfl ?_
  repeat (first | refine VC.seq ?_ | refine VC.block ?_ | refine VC.skip ?_)
  refine VC.region ?_
  refine VR.pure rfl rfl (p_assignB rfl) ?_
  refine VR.nil ?_
  repeat (first | refine VC.seq ?_ | refine VC.block ?_ | refine VC.skip ?_)
  refine VC.region ?_
  refine VR.pure rfl rfl (p_moveL rfl) ?_
  refine VR.pure rfl rfl (p_moveF rfl) ?_
  refine VR.call rfl rfl (r_call2 Try.call70 rfl rfl) (indexT_c hm hb hg hid hn hr) ?_
  rintro _ w ⟨⟨z, rfl, hz⟩, hm⟩
  refine VR.pure rfl rfl (p_ge rfl rfl) ?_
  refine VR.pure rfl rfl (p_assignB rfl) ?_
  refine VR.nil ?_
  repeat (first | refine VC.seq ?_ | refine VC.block ?_ | refine VC.skip ?_)
  refine VC.ret ⟨_, ResOf.r1 (v := .bool _) rfl rfl, ?_⟩
  exact ⟨congrArg Value.bool hz, hm⟩

/-! ### A chooser -/
def v0 : Vt := ⟨0, 0, 0⟩
/-- One that was heard: who, what, and when it was laid. -/
structure He where
  id : Int
  v : Vt
  born : Nat
abbrev He.ent (x : He) : MapEntry := ⟨.int .i64 x.id, .agg #[.int .i64 x.v.l, .int .i64 x.v.e, .int .i64 x.v.z], x.born⟩
abbrev chO (id : Int) (me : Vt) (A : Option Addr) (n c : Nat) (round : Int) (v : Vt) (mo : Option Nat) (calm : Int) : Obj :=
  .cells #[.int .i64 id, .int .i64 me.l, .int .i64 me.e, .int .i64 me.z, .slice A n c, .int .i64 round, .int .i64 v.l, .int .i64 v.e, .int .i64 v.z, .map mo, .int .i64 calm] 67 (0, 0)
def ownV (es : List En) (id : Int) (me : Vt) : Vt := if es.any fun e => voterE e.ms id then me else v0

set_option maxHeartbeats 2000000 in
theorem turn_c {g : Nat} {id : Int} {me : Vt} {A : Option Addr} {n c : Nat} {round : Int} {v : Vt} {mo : Option Nat} {calm r : Int} {es : List En} (hm : Mem F w ([(g, chO id me A n c round v mo calm)] :: Ls)) (hn : n ≤ maxLen) (hr : ERow F.heap A n es) :
    Calls Try.prog 36 #[.pointer (some ⟨g, 0, none⟩), .int .i64 r] w
      (Ret fun _ w' => ∃ m, Mem F w' ([(g, chO id me A n c r (ownV es id me) (some m) 0)] :: [(m, .map #[] 0)] :: Ls)) := by
  refine Calls.of_vc Try.func36 rfl Try.ntmps36 rfl ?_
  repeat (first | refine VC.seq ?_ | refine VC.block ?_ | refine VC.skip ?_)
  refine VC.region ?_
  refine VR.new hm rfl rfl (n_box1 (v := .pointer _) rfl rfl) ?_
  intro b2 w hm
  refine VR.nil ?_
  obtain ⟨G, hu, hm, hb2⟩ := hm.freeze
  replace hb2 := hb2 _ (.head _)
  repeat (first | refine VC.seq ?_ | refine VC.block ?_ | refine VC.skip ?_)
  refine VC.meet (σ := Nat) (fun _ => [(0, .pointer (some ⟨g, 0, none⟩)), (2, .pointer (some ⟨b2, 0, none⟩))]) (fun m w => Mem G w ([(m, .map #[] 0)] :: [(g, chO id me A n c r v0 (some m) 0)] :: Ls)) ?_ ?_
  · repeat (first | refine VC.seq ?_ | refine VC.block ?_ | refine VC.skip ?_)
    refine VC.free (Kept G []) [6, 9, 12, 15, 18] rfl (by kernel_rfl) (Kept.of0 hm.drew) ?_
    replace hm := hm.drew
    refine VD.read 0 rfl (by kernel_rfl) rfl rfl (fun w' hw' => r_load (v := .pointer _) Try.isAgg27 rfl (hw'.fix _ _ hb2) rfl) ?_
    refine VD.read 1 rfl (by kernel_rfl) rfl rfl (fun w' hw' => r_load (v := .pointer _) Try.isAgg27 rfl (hw'.fix _ _ hb2) rfl) ?_
    refine VD.read 2 rfl (by kernel_rfl) rfl rfl (fun w' hw' => r_load (v := .pointer _) Try.isAgg27 rfl (hw'.fix _ _ hb2) rfl) ?_
    refine VD.read 3 rfl (by kernel_rfl) rfl rfl (fun w' hw' => r_load (v := .pointer _) Try.isAgg27 rfl (hw'.fix _ _ hb2) rfl) ?_
    refine VD.pure 4 rfl (by kernel_rfl) rfl rfl (p_moveI rfl) ?_
    refine VD.pure 5 rfl (by kernel_rfl) rfl rfl (p_build (vs := []) bld64_0x rfl) ?_
    refine VD.pure 7 rfl (by kernel_rfl) rfl rfl (p_nilCheck rfl) ?_
    refine VD.pure 8 rfl (by kernel_rfl) rfl rfl (p_field (fo := 5) Try.underlying67 rfl Try.sizeOf3 rfl rfl rfl) ?_
    refine VD.turn2 6 9 (by kernel_rfl) ?_ ?_
    refine VDT.new hm rfl rfl rfl (n_makeMap) (fun b' w' hm' => Kept.of0 hm') ?_
    intro m w hm
    refine VD.turn1 9 (by kernel_rfl) ?_
    refine VDT.store (v := .int _ _) Try.sizeOf3 rfl rfl rfl rfl rfl rfl hm 1 0 rfl (Nat.ble_eq.mp rfl) rfl (fun w' hm' => Kept.of0 hm') ?_
    intro w hm
    refine VD.pure 10 rfl (by kernel_rfl) rfl rfl (p_nilCheck rfl) ?_
    refine VD.pure 11 rfl (by kernel_rfl) rfl rfl (p_field (fo := 6) Try.underlying67 rfl Try.sizeOf64 rfl rfl rfl) ?_
    refine VD.turn1 12 (by kernel_rfl) ?_
    refine VDT.store (cs' := #[.int .i64 id, .int .i64 me.l, .int .i64 me.e, .int .i64 me.z, .slice A n c, .int .i64 r, .int .i64 0, .int .i64 0, .int .i64 0, .map mo, .int .i64 calm]) (v := .agg _) Try.sizeOf64 rfl rfl rfl rfl rfl rfl hm 1 0 rfl (Nat.ble_eq.mp rfl) rfl (fun w' hm' => Kept.of0 hm') ?_
    intro w hm
    refine VD.pure 13 rfl (by kernel_rfl) rfl rfl (p_nilCheck rfl) ?_
    refine VD.pure 14 rfl (by kernel_rfl) rfl rfl (p_field (fo := 9) Try.underlying67 rfl Try.sizeOf65 rfl rfl rfl) ?_
    refine VD.turn1 15 (by kernel_rfl) ?_
    refine VDT.store (v := .map _) Try.sizeOf65 rfl rfl rfl rfl rfl rfl hm 1 0 rfl (Nat.ble_eq.mp rfl) rfl (fun w' hm' => Kept.of0 hm') ?_
    intro w hm
    refine VD.pure 16 rfl (by kernel_rfl) rfl rfl (p_nilCheck rfl) ?_
    refine VD.pure 17 rfl (by kernel_rfl) rfl rfl (p_field (fo := 10) Try.underlying67 rfl Try.sizeOf3 rfl rfl rfl) ?_
    refine VD.turn1 18 (by kernel_rfl) ?_
    refine VDT.store (v := .int _ _) Try.sizeOf3 rfl rfl rfl rfl rfl rfl hm 1 0 rfl (Nat.ble_eq.mp rfl) rfl (fun w' hm' => Kept.of0 hm') ?_
    intro w hm
    refine VD.nil (by kernel_rfl) rfl ?_
    rotate_left 1
    refine VDT.store (v := .int _ _) Try.sizeOf3 rfl rfl rfl rfl rfl rfl hm 0 0 rfl (Nat.ble_eq.mp rfl) rfl (fun w' hm' => Kept.of0 hm') ?_
    intro w hm
    refine VD.pure 10 rfl (by kernel_rfl) rfl rfl (p_nilCheck rfl) ?_
    refine VD.pure 11 rfl (by kernel_rfl) rfl rfl (p_field (fo := 6) Try.underlying67 rfl Try.sizeOf64 rfl rfl rfl) ?_
    refine VD.turn2 6 12 (by kernel_rfl) ?_ ?_
    refine VDT.new hm rfl rfl rfl (n_makeMap) (fun b' w' hm' => Kept.of0 hm') ?_
    intro m w hm
    refine VD.turn1 12 (by kernel_rfl) ?_
    refine VDT.store (cs' := #[.int .i64 id, .int .i64 me.l, .int .i64 me.e, .int .i64 me.z, .slice A n c, .int .i64 r, .int .i64 0, .int .i64 0, .int .i64 0, .map mo, .int .i64 calm]) (v := .agg _) Try.sizeOf64 rfl rfl rfl rfl rfl rfl hm 1 0 rfl (Nat.ble_eq.mp rfl) rfl (fun w' hm' => Kept.of0 hm') ?_
    intro w hm
    refine VD.pure 13 rfl (by kernel_rfl) rfl rfl (p_nilCheck rfl) ?_
    refine VD.pure 14 rfl (by kernel_rfl) rfl rfl (p_field (fo := 9) Try.underlying67 rfl Try.sizeOf65 rfl rfl rfl) ?_
    refine VD.turn1 15 (by kernel_rfl) ?_
    refine VDT.store (v := .map _) Try.sizeOf65 rfl rfl rfl rfl rfl rfl hm 1 0 rfl (Nat.ble_eq.mp rfl) rfl (fun w' hm' => Kept.of0 hm') ?_
    intro w hm
    refine VD.pure 16 rfl (by kernel_rfl) rfl rfl (p_nilCheck rfl) ?_
    refine VD.pure 17 rfl (by kernel_rfl) rfl rfl (p_field (fo := 10) Try.underlying67 rfl Try.sizeOf3 rfl rfl rfl) ?_
    refine VD.turn1 18 (by kernel_rfl) ?_
    refine VDT.store (v := .int _ _) Try.sizeOf3 rfl rfl rfl rfl rfl rfl hm 1 0 rfl (Nat.ble_eq.mp rfl) rfl (fun w' hm' => Kept.of0 hm') ?_
    intro w hm
    refine VD.nil (by kernel_rfl) rfl ?_
    rotate_left 1
    refine VDT.store (cs' := #[.int .i64 id, .int .i64 me.l, .int .i64 me.e, .int .i64 me.z, .slice A n c, .int .i64 r, .int .i64 0, .int .i64 0, .int .i64 0, .map mo, .int .i64 calm]) (v := .agg _) Try.sizeOf64 rfl rfl rfl rfl rfl rfl hm 0 0 rfl (Nat.ble_eq.mp rfl) rfl (fun w' hm' => Kept.of0 hm') ?_
    intro w hm
    refine VD.turn1 6 (by kernel_rfl) ?_
    refine VDT.new hm rfl rfl rfl (n_makeMap) (fun b' w' hm' => Kept.of0 hm') ?_
    intro m w hm
    refine VD.pure 13 rfl (by kernel_rfl) rfl rfl (p_nilCheck rfl) ?_
    refine VD.pure 14 rfl (by kernel_rfl) rfl rfl (p_field (fo := 9) Try.underlying67 rfl Try.sizeOf65 rfl rfl rfl) ?_
    refine VD.turn1 15 (by kernel_rfl) ?_
    refine VDT.store (v := .map _) Try.sizeOf65 rfl rfl rfl rfl rfl rfl hm 1 0 rfl (Nat.ble_eq.mp rfl) rfl (fun w' hm' => Kept.of0 hm') ?_
    intro w hm
    refine VD.pure 16 rfl (by kernel_rfl) rfl rfl (p_nilCheck rfl) ?_
    refine VD.pure 17 rfl (by kernel_rfl) rfl rfl (p_field (fo := 10) Try.underlying67 rfl Try.sizeOf3 rfl rfl rfl) ?_
    refine VD.turn1 18 (by kernel_rfl) ?_
    refine VDT.store (v := .int _ _) Try.sizeOf3 rfl rfl rfl rfl rfl rfl hm 1 0 rfl (Nat.ble_eq.mp rfl) rfl (fun w' hm' => Kept.of0 hm') ?_
    intro w hm
    refine VD.nil (by kernel_rfl) rfl ?_
    rotate_left 1
    all_goals exact ⟨m, ⟨rfl, rfl, trivial⟩, hm⟩
  clear hm
  rintro m A1 w hm
  repeat (first | refine VC.seq ?_ | refine VC.block ?_ | refine VC.skip ?_)
  refine VC.region ?_
  refine VR.val rfl rfl (r_load (v := .pointer _) Try.isAgg27 rfl (hm.fix _ _ hb2) rfl) ?_
  refine VR.pure rfl rfl (p_nilCheck rfl) ?_
  refine VR.pure rfl rfl (p_field (fo := 4) Try.underlying67 rfl Try.sizeOf23 rfl rfl rfl) ?_
  refine VR.val rfl rfl (r_load (v := .slice _ _ _) Try.isAgg23 rfl (hm.at_ 1 0 rfl) rfl) ?_
  refine VR.pure rfl rfl (p_makeFunc (vs := []) (cs := [.pointer _]) rfl rfl) ?_
  refine VR.call rfl rfl (r_call2 Try.call55 rfl rfl) (containsT_c (id := id) (es := es) hm.all (hm.le _ _ hb2) (hm.plus_at 1 0 rfl) rfl hn (hr.mono (Env.le_trans hu.heap hm.le))) ?_
  rintro _ w ⟨rfl, hm'⟩
  replace hm := hm.back0 hm'
  refine VR.nil ?_
  unfold ownV
  by_cases hv : (es.any fun e => voterE e.ms id) = true
  · repeat (first | refine VC.seq ?_ | refine VC.block ?_ | refine VC.skip ?_)
    refine VC.condT rfl hv ?_
    repeat (first | refine VC.seq ?_ | refine VC.block ?_ | refine VC.skip ?_)
    refine VC.free (Kept G []) [4, 7] rfl (by kernel_rfl) (Kept.of0 hm.drew) ?_
    replace hm := hm.drew
    refine VD.read 0 rfl (by kernel_rfl) rfl rfl (fun w' hw' => r_load (v := .pointer _) Try.isAgg27 rfl (hw'.fix _ _ hb2) rfl) ?_
    refine VD.read 1 rfl (by kernel_rfl) rfl rfl (fun w' hw' => r_load (v := .pointer _) Try.isAgg27 rfl (hw'.fix _ _ hb2) rfl) ?_
    refine VD.pure 2 rfl (by kernel_rfl) rfl rfl (p_nilCheck rfl) ?_
    refine VD.pure 3 rfl (by kernel_rfl) rfl rfl (p_field (fo := 1) Try.underlying67 rfl Try.sizeOf64 rfl rfl rfl) ?_
    refine VD.turn1 4 (by kernel_rfl) ?_
    refine VDT.val rfl rfl rfl (r_loadAgg (vs := [.int _ _, .int _ _, .int _ _]) Try.isAgg64 Try.sizeOf64 rfl (hm.at_ 1 0 rfl) rfl (agg_at rfl)) (Kept.of0 hm) ?_
    refine VD.pure 5 rfl (by kernel_rfl) rfl rfl (p_nilCheck rfl) ?_
    refine VD.pure 6 rfl (by kernel_rfl) rfl rfl (p_field (fo := 6) Try.underlying67 rfl Try.sizeOf64 rfl rfl rfl) ?_
    refine VD.turn1 7 (by kernel_rfl) ?_
    refine VDT.store (cs' := #[.int .i64 id, .int .i64 me.l, .int .i64 me.e, .int .i64 me.z, .slice A n c, .int .i64 r, .int .i64 me.l, .int .i64 me.e, .int .i64 me.z, .map (some m), .int .i64 0]) (v := .agg _) Try.sizeOf64 rfl rfl rfl rfl rfl rfl hm 1 0 rfl (Nat.ble_eq.mp rfl) rfl (fun w' hm' => Kept.of0 hm') ?_
    intro w hm
    refine VD.nil (by kernel_rfl) rfl ?_
    refine ⟨_, ResOf.r0 rfl, m, ?_⟩
    rw [if_pos hv]
    exact (hm.shrink hu).swap
  · repeat (first | refine VC.seq ?_ | refine VC.block ?_ | refine VC.skip ?_)
    refine VC.condF rfl (Bool.not_eq_true _ |>.mp hv) ?_
    repeat (first | refine VC.seq ?_ | refine VC.block ?_ | refine VC.skip ?_)
    refine ⟨_, ResOf.r0 rfl, m, ?_⟩
    rw [if_neg hv]
    exact (hm.shrink hu).swap
end
end Go.Bd
