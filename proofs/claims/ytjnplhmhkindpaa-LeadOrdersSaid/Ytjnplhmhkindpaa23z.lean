/- Contracts of layer 23: what is proposed and acknowledged; three voters; a table comes to rule, and commits. Conditions: as each states. -/
import Derived.Test.Ytjnplhmhkindpaa23y
namespace Go.Bd
open Go.Proofs
set_option linter.unusedVariables false
set_option maxRecDepth 20000

section
variable {F : Env} {w : World} {Ls : List Blks}
theorem cloneE_c {A : Option Addr} {n c : Nat} {es : List En} (hm : Mem F w Ls) (hn : n * 32 ≤ 140737488355328) (hr : ERow F.heap A n es) :
    Calls Try.prog 33 #[.slice A n c] w (Ret fun v w' => ∃ A' c' L, v = .slice A' n c' ∧ OwnS 54 2 A' n c' (ecells es) L ∧ Mem F w' (L :: Ls)) := by
  refine Calls.of_vc Try.func33 rfl Try.ntmps33 rfl ?_
  repeat (first | refine VC.seq ?_ | refine VC.block ?_ | refine VC.skip ?_)
  refine VC.region ?_
  refine VR.pure rfl rfl (p_assignL rfl) ?_
  refine VR.nil ?_
  repeat (first | refine VC.seq ?_ | refine VC.block ?_ | refine VC.skip ?_)
  refine VC.region ?_
  refine VR.pure rfl rfl (p_moveL rfl) ?_
  refine VR.pure rfl rfl (p_eqNil Try.underlying23 rfl) ?_
  refine VR.nil ?_
  cases A with
  | none =>
    repeat (first | refine VC.seq ?_ | refine VC.block ?_ | refine VC.skip ?_)
    refine VC.condT rfl rfl ?_
    repeat (first | refine VC.seq ?_ | refine VC.block ?_ | refine VC.skip ?_)
    refine VC.region ?_
    refine VR.pure rfl rfl (p_assignL rfl) ?_
    refine VR.nil ?_
    repeat (first | refine VC.seq ?_ | refine VC.block ?_ | refine VC.skip ?_)
    refine VC.ret ⟨_, ResOf.r1 (v := .slice _ _ _) rfl rfl, ?_⟩
    have hn0 : n = 0 := by
      rcases Nat.eq_zero_or_pos n with h0 | h0
      · exact h0
      · obtain ⟨b, off, blk, T, fr, e, _⟩ := hr.row.get (by omega)
        cases e
    subst hn0
    have hms : es = [] := List.eq_nil_of_length_eq_zero hr.len
    subst hms
    exact ⟨none, 0, [], rfl, OwnS.nil _ _, hm.nil_⟩
  | some a =>
    repeat (first | refine VC.seq ?_ | refine VC.block ?_ | refine VC.skip ?_)
    refine VC.condF rfl rfl ?_
    repeat (first | refine VC.seq ?_ | refine VC.block ?_ | refine VC.skip ?_)
    refine VC.region ?_
    refine VR.new hm rfl rfl (n_buildSlice0 Try.underlying23 inf54) ?_
    intro g w hm
    refine VR.pure rfl rfl (p_moveL rfl) ?_
    refine VR.append (s := 2) (bytes := 32) Try.underlying23 inf54 rfl rfl rfl rfl rfl rfl rfl rfl rfl hm (OwnS.made (c := 0) (by unfold maxLen; omega) rfl) (hr.row.mono hm.fix) (ecells_one es) (Nat.zero_add n) ⟨by unfold maxLen; omega, by omega⟩ ?_
    intro A' c' w' L' ho' hm'
    refine VR.pure rfl rfl (p_assignL rfl) ?_
    refine VR.nil ?_
    repeat (first | refine VC.seq ?_ | refine VC.block ?_ | refine VC.skip ?_)
    refine VC.ret ⟨_, ResOf.r1 (v := .slice _ _ _) rfl rfl, ?_⟩
    exact ⟨A', c', L', rfl, ho', hm'⟩
theorem ecells_set {e o : En} (hv : o.ver = e.ver) : ∀ {es : List En} {k : Nat}, es[k]? = some e → ecells (es.set k o) = (ecells es).set (k * 2 + 1) (.slice o.A o.n o.c)
  | [], _, h => by simp at h
  | x :: r, 0, h => by
    obtain rfl := Option.some.inj (show some x = some e from h)
    show o.cells ++ ecells r = (x.cells ++ ecells r).set 1 _
    unfold En.cells
    rw [hv]
    rfl
  | x :: r, k + 1, h => by
    have := ecells_set hv (es := r) (k := k) h
    show x.cells ++ ecells (r.set k o) = (x.cells ++ ecells r).set ((k + 1) * 2 + 1) _
    rw [this]
    have e2 : (k + 1) * 2 + 1 = (k * 2 + 1) + 1 + 1 := by omega
    rw [e2]
    rfl
/-- One field of an element stored anew. -/
theorem OwnS.setE {g n c : Nat} {cur : Array Value} {es : List En} {k : Nat} {e o : En} (ho : OwnS 54 2 (some ⟨g, 0, none⟩) n c (ecells es) [(g, .cells cur 54 (0, 0))]) (he : es[k]? = some e) (hk : k < n) (hv : o.ver = e.ver) :
    OwnS 54 2 (some ⟨g, 0, none⟩) n c (ecells (es.set k o)) [(g, .cells (cur.setIfInBounds (0 + k * 2 + 1) (.slice o.A o.n o.c)) 54 (0, 0))] := by
  obtain ⟨h1, h2⟩ := ho
  rw [Nat.zero_add]
  refine ⟨by rw [ecells_set hv he, List.length_set]; exact h1, .inr ⟨g, _, rfl, rfl, ?_⟩⟩
  rcases h2 with ⟨h, _⟩ | ⟨g', cur', e1, e2, h3, h4, h5, h6⟩
  · cases h
  · simp only [List.cons.injEq, Prod.mk.injEq, Obj.cells.injEq] at e2
    obtain rfl := e2.1.2.1
    refine ⟨h3, h4, by rw [Array.size_setIfInBounds]; exact h5, ?_⟩
    rw [ecells_set hv he, ← h6, Array.toList_setIfInBounds, List.take_set]
/-- Configs that are copies of others. -/
structure Copies (H : Nat → Option Obj) (os es : List En) (k : Nat) : Prop where
  len : os.length = es.length
  done : ∀ j o, j < k → os[j]? = some o → EnOk H o
  rest : ∀ j, k ≤ j → os[j]? = es[j]?
  abs : os.map En.abs = es.map En.abs

set_option maxHeartbeats 2000000 in
theorem configs_c {g : Nat} {T : Tb} (hm : Mem F w Ls) (hg : F.heap g = some T.ob) (hT : TOk F.heap T) (hn : T.n ≤ 100000) (hsm : ∀ e ∈ T.es, e.n * 32 ≤ 140737488355328) :
    Calls Try.prog 19 #[.pointer (some ⟨g, 0, none⟩)] w (Ret fun v w' => ∃ A' c', v = .slice A' T.n c' ∧ Mem F w' Ls) := by
  obtain ⟨id, cur, last, A, n, c, es, stage, ep, td, prop, com⟩ := T
  have hr := hT.row
  dsimp only at hr hn hsm ⊢
  have hl := hr.len
  replace hg : F.heap g = some (tOb id cur last A n c stage ep td prop com) := hg
  refine Calls.of_vc Try.func19 rfl Try.ntmps19 rfl ?_
  repeat (first | refine VC.seq ?_ | refine VC.block ?_ | refine VC.skip ?_)
  refine VC.region ?_
  refine VR.pure rfl rfl (p_assignL rfl) ?_
  refine VR.nil ?_
  repeat (first | refine VC.seq ?_ | refine VC.block ?_ | refine VC.skip ?_)
  refine VC.region ?_
  refine VR.pure rfl rfl (p_moveP rfl) ?_
  refine VR.pure rfl rfl (p_eqNilP Try.underlying29 rfl) ?_
  refine VR.nil ?_
  repeat (first | refine VC.seq ?_ | refine VC.block ?_ | refine VC.skip ?_)
  refine VC.condF rfl rfl ?_
  repeat (first | refine VC.seq ?_ | refine VC.block ?_ | refine VC.skip ?_)
  refine VC.region ?_
  refine VR.pure rfl rfl (p_moveP rfl) ?_
  refine VR.pure rfl rfl (p_nilCheck rfl) ?_
  refine VR.pure rfl rfl (p_field (fo := 3) Try.underlying47 rfl Try.sizeOf23 rfl rfl rfl) ?_
  refine VR.val rfl rfl (r_load (v := .slice _ _ _) Try.isAgg23 rfl (hm.fix _ _ hg) rfl) ?_
  refine VR.call rfl rfl (r_call1 Try.call33 rfl) (cloneE_c hm (by omega) hr) ?_
  rintro _ w ⟨A1, c1, L1, rfl, ho1, hm⟩
  refine VR.pure rfl rfl (p_assignL rfl) ?_
  refine VR.nil ?_
  repeat (first | refine VC.seq ?_ | refine VC.block ?_ | refine VC.skip ?_)
  refine VC.region ?_
  refine VR.pure rfl rfl (p_moveL rfl) ?_
  refine VR.pure rfl rfl (p_len Try.underlying23 rfl) ?_
  refine VR.pure rfl rfl (p_moveI rfl) ?_
  refine VR.nil ?_
  repeat (first | refine VC.seq ?_ | refine VC.block ?_ | refine VC.skip ?_)
  refine VC.loop (σ := Nat × List En × Blks) (fun s => [(3, .slice A1 n c1), (13, .int .i64 n), (14, .int .i64 s.1)])
    (fun s w => s.1 ≤ n ∧ ∃ G, F.under G ∧ OwnS 54 2 A1 n c1 (ecells s.2.1) s.2.2 ∧ Copies G.heap s.2.1 es s.1 ∧ Mem G w (s.2.2 :: Ls)) (fun s => n - s.1) (0, es, L1) ⟨rfl, rfl, rfl, trivial⟩
    ⟨by omega, F, Env.under_refl F, ho1, ⟨rfl, fun j o h => by omega, fun j _ => rfl, rfl⟩, hm⟩ ?_
  clear hm ho1
  rintro ⟨k, os, L⟩ A2 w ⟨hk, G, hu, ho, hcp, hm⟩
  dsimp only at hk ho hcp hm ⊢
  repeat (first | refine VC.seq ?_ | refine VC.block ?_ | refine VC.skip ?_)
  refine VC.region ?_
  refine VR.pure rfl rfl (p_lt rfl rfl) ?_
  refine VR.nil ?_
  repeat (first | refine VC.seq ?_ | refine VC.block ?_ | refine VC.skip ?_)
  refine VC.condD rfl (fun h => ?_) (fun h => ?_)
  · have hk' : k < n := by omega
    obtain ⟨e, he, hem⟩ := get_of (xs := es) (k := k) (by omega)
    have hek : os[k]? = some e := by rw [hcp.rest k (Nat.le_refl _), he]
    have hen := hsm e hem
    have hok := (hr.each e hem).mono hu.heap
    rcases ho.2 with ⟨_, h0, _⟩ | ⟨gg, curr, rfl, rfl, h1, h2, h3, h4⟩
    · omega
    have hcell : curr[0 + k * 2 + 1]? = some (.slice e.A e.n e.c) := by
      have h5 : (curr.toList.take (n * 2))[k * 2 + 1]? = (ecells os)[k * 2 + 1]? := by rw [h4]
      rw [List.getElem?_take, if_pos (by omega), Array.getElem?_toList] at h5
      rw [Nat.zero_add, h5, flat_at En.len hek (by decide)]
      rfl
    repeat (first | refine VC.seq ?_ | refine VC.block ?_ | refine VC.skip ?_)
    repeat (first | refine VC.seq ?_ | refine VC.block ?_ | refine VC.skip ?_)
    refine VC.region ?_
    refine VR.pure rfl rfl (p_moveI rfl) ?_
    refine VR.pure rfl rfl (p_assignI rfl) ?_
    refine VR.nil ?_
    repeat (first | refine VC.seq ?_ | refine VC.block ?_ | refine VC.skip ?_)
    refine VC.region ?_
    refine VR.pure rfl rfl (p_moveL rfl) ?_
    refine VR.pure rfl rfl (p_moveI rfl) ?_
    refine VR.pure rfl rfl (p_moveL rfl) ?_
    refine VR.pure rfl rfl (p_moveI rfl) ?_
    refine VR.pure rfl rfl (p_idxN Try.underlying23 Try.sizeOf54 rfl rfl hk') ?_
    refine VR.pure rfl rfl (p_field (fo := 1) Try.underlying54 rfl Try.sizeOf40 rfl rfl rfl) ?_
    refine VR.val rfl rfl (r_load (v := .slice _ _ _) Try.isAgg40 rfl (hm.at_ 0 0 rfl) hcell) ?_
    refine VR.call rfl rfl (r_call1 Try.call25 rfl) (clone_c hm hen hok.1) ?_
    rintro _ w ⟨A7, c7, L7, rfl, ho7, hm⟩
    refine VR.pure rfl rfl (p_idxN Try.underlying23 Try.sizeOf54 rfl rfl hk') ?_
    refine VR.pure rfl rfl (p_field (fo := 1) Try.underlying54 rfl Try.sizeOf40 rfl rfl rfl) ?_
    refine VR.store (cs' := (curr.setIfInBounds (0 + k * 2 + 1) (.slice A7 e.n c7))) (v := .slice _ _ _) Try.sizeOf40 rfl rfl rfl rfl rfl hm 1 0 rfl (by omega) rfl ?_
    intro w hm
    refine VR.nil ?_
    repeat (first | refine VC.seq ?_ | refine VC.block ?_ | refine VC.skip ?_)
    refine VC.region ?_
    refine VR.pure rfl rfl (p_add64 rfl rfl (by omega)) ?_
    refine VR.pure rfl rfl (p_moveI rfl) ?_
    refine VR.nil ?_
    obtain ⟨G2, hu2, hm, h7⟩ := hm.freeze
    have hset := OwnS.setE (o := ⟨e.ver, A7, e.n, c7, e.ms⟩) ho hek hk' rfl
    refine ⟨(k + 1, os.set k ⟨e.ver, A7, e.n, c7, e.ms⟩, _), ⟨rfl, rfl, rfl, trivial⟩, ⟨by show k + 1 ≤ n; omega, G2, hu.trans hu2, hset, ⟨by rw [List.length_set]; exact hcp.len, fun j o hj hjo => ?_, fun j hj => ?_, ?_⟩, hm⟩, by show n - (k + 1) < n - k; omega⟩
    · rw [List.getElem?_set] at hjo
      by_cases e1 : k = j
      · rw [if_pos e1, if_pos (by rw [hcp.len]; omega)] at hjo
        obtain rfl := Option.some.inj hjo
        exact ⟨ho7.row h7, ho7.le⟩
      · rw [if_neg e1] at hjo
        exact (hcp.done j o (by dsimp only at hj; omega) hjo).mono hu2.heap
    · rw [List.getElem?_set, if_neg (by dsimp only at hj; omega)]
      exact hcp.rest j (by dsimp only at hj; omega)
    · rw [List.map_set, ← hcp.abs]
      apply List.ext_getElem?
      intro j
      rw [List.getElem?_set]
      by_cases e1 : k = j
      · subst e1
        rw [if_pos rfl, if_pos (by rw [List.length_map, hcp.len]; omega), List.getElem?_map, hek]
        rfl
      · rw [if_neg e1]
  · repeat (first | refine VC.seq ?_ | refine VC.block ?_ | refine VC.skip ?_)
    refine VC.exit ?_
    repeat (first | refine VC.seq ?_ | refine VC.block ?_ | refine VC.skip ?_)
    refine VC.region ?_
    refine VR.pure rfl rfl (p_moveL rfl) ?_
    refine VR.pure rfl rfl (p_assignL rfl) ?_
    refine VR.nil ?_
    repeat (first | refine VC.seq ?_ | refine VC.block ?_ | refine VC.skip ?_)
    refine VC.ret ⟨_, ResOf.r1 (v := .slice _ _ _) rfl rfl, ?_⟩
    exact ⟨A1, c1, rfl, hm.pop.shrink hu⟩
def m123 : List Mb := [⟨1, 1, 1, 0⟩, ⟨2, 1, 1, 0⟩, ⟨3, 1, 1, 0⟩]
theorem three_c (hm : Mem F w Ls) : Calls Try.prog 21 #[] w
    (Ret fun v w' => ∃ b es G, v = .slice (some ⟨b, 0, none⟩) 1 1 ∧ F.under G ∧ ERow G.heap (some ⟨b, 0, none⟩) 1 es ∧ es.map En.abs = [(0, m123)] ∧ (∀ e ∈ es, e.n * 32 ≤ 140737488355328) ∧ Mem G w' Ls) := by
  refine Calls.of_vc Try.func21 rfl Try.ntmps21 rfl ?_
  repeat (first | refine VC.seq ?_ | refine VC.block ?_ | refine VC.skip ?_)
  refine VC.region ?_
  refine VR.pure rfl rfl (p_assignL rfl) ?_
  refine VR.nil ?_
  repeat (first | refine VC.seq ?_ | refine VC.block ?_ | refine VC.skip ?_)
  refine VC.region ?_
  refine VR.pure rfl rfl (p_build (vs := [(0, .int _ _), (1, .int _ _), (2, .int _ _)]) bld64_0_1_2 rfl) ?_
  refine VR.pure rfl rfl (p_build (vs := [(0, .int _ _), (1, .int _ _), (2, .int _ _)]) bld64_0_1_2 rfl) ?_
  refine VR.pure rfl rfl (p_build (vs := [(0, .int _ _), (1, .int _ _), (2, .int _ _)]) bld64_0_1_2 rfl) ?_
  refine VR.new hm rfl rfl (n_buildSlice (vs := [.agg _, .agg _, .agg _]) Try.underlying40 inf64 rfl rfl rfl rfl rfl rfl) ?_
  intro b3 w hm
  refine VR.pure rfl rfl (p_build (vs := [(1, .slice _ _ _)]) bld54_1 rfl) ?_
  refine VR.new hm rfl rfl (n_buildSlice (vs := [.agg _]) Try.underlying23 inf54 rfl rfl rfl rfl rfl rfl) ?_
  intro b5 w hm
  refine VR.pure rfl rfl (p_assignL rfl) ?_
  refine VR.nil ?_
  repeat (first | refine VC.seq ?_ | refine VC.block ?_ | refine VC.skip ?_)
  refine VC.ret ⟨_, ResOf.r1 (v := .slice _ _ _) rfl rfl, ?_⟩
  obtain ⟨G1, hu1, hm, hb5⟩ := hm.freeze
  obtain ⟨G, hu, hm, hb3⟩ := hm.freeze
  replace hb5 := hu.heap _ _ (hb5 _ (.head _))
  replace hb3 := hb3 _ (.head _)
  refine ⟨b5, [⟨0, some ⟨b3, 0, none⟩, 3, 3, m123⟩], G, rfl, hu1.trans hu, ⟨Row.lit (cs := [.int .i64 0, .slice (some ⟨b3, 0, none⟩) 3 3]) hb5, fun e he => ?_⟩, rfl, fun e he => ?_, hm⟩
  · obtain rfl := List.mem_singleton.1 he
    exact ⟨Row.lit (cs := mcells m123) hb3, Nat.le_refl _, by unfold maxLen; show 3 ≤ _; omega⟩
  · obtain rfl := List.mem_singleton.1 he
    show 3 * 32 ≤ _
    omega
theorem next_c {g : Nat} {T : Tb} (hm : Mem F w Ls) (hg : F.heap g = some T.ob) (hI : AInv T.abs) (h4 : T.stage = 4) :
    Calls Try.prog 14 #[.pointer (some ⟨g, 0, none⟩)] w (Ret fun v w' => v = .int .i64 (T.ep * 4294967296 + (T.prop + 1)) ∧ Mem F w' Ls) := by
  obtain ⟨id, cur, last, A, n, c, es, stage, ep, td, prop, com⟩ := T
  have hep : 0 ≤ ep ∧ ep ≤ 1073741823 := hI.ep
  have hpr : prop = 0 ∨ prop = 1 := hI.prop
  replace hg : F.heap g = some (tOb id cur last A n c stage ep td prop com) := hg
  replace h4 : stage = 4 := h4
  subst h4
  refine Calls.of_vc Try.func14 rfl Try.ntmps14 rfl ?_
  repeat (first | refine VC.seq ?_ | refine VC.block ?_ | refine VC.skip ?_)
  refine VC.region ?_
  refine VR.pure rfl rfl (p_assignI rfl) ?_
  refine VR.nil ?_
  repeat (first | refine VC.seq ?_ | refine VC.block ?_ | refine VC.skip ?_)
  refine VC.region ?_
  refine VR.pure rfl rfl (p_moveP rfl) ?_
  refine VR.pure rfl rfl (p_eqNilP Try.underlying29 rfl) ?_
  refine VR.pure rfl rfl (p_moveB rfl) ?_
  refine VR.knownF 5 rfl rfl ?_
  refine VR.pureG rfl rfl (p_moveP rfl) ?_
  refine VR.pureG rfl rfl (p_nilCheck rfl) ?_
  refine VR.pureG rfl rfl (p_field (fo := 4) Try.underlying47 rfl Try.sizeOf32 rfl rfl rfl) ?_
  refine VR.valG rfl rfl (r_load (v := .int _ _) Try.isAgg32 rfl (hm.fix _ _ hg) rfl) ?_
  refine VR.pureG rfl rfl (p_ne rfl rfl) ?_
  refine VR.pure rfl rfl (p_pickF rfl rfl) ?_
  refine VR.pure rfl rfl (p_moveB rfl) ?_
  refine VR.knownF 12 rfl rfl ?_
  refine VR.pureG rfl rfl (p_moveP rfl) ?_
  refine VR.pureG rfl rfl (p_nilCheck rfl) ?_
  refine VR.pureG rfl rfl (p_field (fo := 46) Try.underlying47 rfl Try.sizeOf3 rfl rfl rfl) ?_
  refine VR.valG rfl rfl (r_load (v := .int _ _) Try.isAgg3 rfl (hm.fix _ _ hg) rfl) ?_
  refine VR.pureG rfl rfl (p_add64 rfl rfl (by omega)) ?_
  refine VR.pureG rfl rfl (p_ge rfl rfl) ?_
  refine VR.pure rfl rfl (p_pickF rfl rfl) ?_
  refine VR.nil ?_
  repeat (first | refine VC.seq ?_ | refine VC.block ?_ | refine VC.skip ?_)
  refine VC.condF rfl (decide_eq_false (by omega)) ?_
  repeat (first | refine VC.seq ?_ | refine VC.block ?_ | refine VC.skip ?_)
  refine VC.loud (Kept F []) [9] rfl (by kernel_rfl) (Kept.of0 hm.drew) ?_
  replace hm := hm.drew
  refine VL.pure rfl rfl rfl (p_moveP rfl) ?_
  refine VL.pure rfl rfl rfl (p_nilCheck rfl) ?_
  refine VL.pure rfl rfl rfl (p_field (fo := 5) Try.underlying47 rfl Try.sizeOf3 rfl rfl rfl) ?_
  refine VL.read rfl rfl rfl (fun w' hw' => r_load (v := .int _ _) Try.isAgg3 rfl (hw'.fix _ _ hg) rfl) ?_
  refine VL.pure rfl rfl rfl (p_moveP rfl) ?_
  refine VL.pure rfl rfl rfl (p_nilCheck rfl) ?_
  refine VL.pure rfl rfl rfl (p_field (fo := 46) Try.underlying47 rfl Try.sizeOf3 rfl rfl rfl) ?_
  refine VL.read rfl rfl rfl (fun w' hw' => r_load (v := .int _ _) Try.isAgg3 rfl (hw'.fix _ _ hg) rfl) ?_
  refine VL.pure rfl rfl rfl (p_add64 rfl rfl (by omega)) ?_
  refine VL.call rfl rfl rfl (r_call2 Try.call32 rfl rfl) (make_c (by omega) (by omega)) ?_
  rintro _ _ ⟨rfl, rfl⟩
  refine ⟨Kept.of0 hm, ?_⟩
  refine VL.pure rfl rfl rfl (p_assignI rfl) ?_
  refine VL.nil ?_
  repeat (first | refine VC.seq ?_ | refine VC.block ?_ | refine VC.skip ?_)
  refine VC.ret ⟨_, ResOf.r1 (v := .int _ _) rfl rfl, ?_⟩
  exact ⟨rfl, hm⟩
def propA (a : Ta) : Ta := ⟨a.id, a.cur, a.last, a.es, a.stage, a.ep, a.td, 1, a.com⟩
theorem AInv.propose {a : Ta} (h : AInv a) : AInv (propA a) := ⟨h.id, h.stage, h.last, h.acc, h.ep, h.two, .inr rfl, h.com, h.four, h.len⟩
theorem propose_c {g : Nat} {T : Tb} {z : Int} (hm : Mem F w ([(g, T.ob)] :: Ls)) (hT : TOk F.heap T) (hI : AInv T.abs) (h4 : T.stage = 4) (hp : T.prop = 0) (hz : z = T.ep * 4294967296 + 1) :
    Calls Try.prog 15 #[.pointer (some ⟨g, 0, none⟩), .int .i64 z] w (Ret fun v w' => ∃ T', v = .int .i64 0 ∧ T'.abs = propA T.abs ∧ TOk F.heap T' ∧ Mem F w' ([(g, T'.ob)] :: Ls)) := by
  obtain ⟨id, cur, last, A, n, c, es, stage, ep, td, prop, com⟩ := T
  have hep : 0 ≤ ep ∧ ep ≤ 1073741823 := hI.ep
  replace hm : Mem F w ([(g, tOb id cur last A n c stage ep td prop com)] :: Ls) := hm
  replace h4 : stage = 4 := h4
  replace hp : prop = 0 := hp
  replace hz : z = ep * 4294967296 + 1 := hz
  subst h4 hp
  refine Calls.of_vc Try.func15 rfl Try.ntmps15 rfl ?_
  repeat (first | refine VC.seq ?_ | refine VC.block ?_ | refine VC.skip ?_)
  refine VC.region ?_
  refine VR.pure rfl rfl (p_assignI rfl) ?_
  refine VR.nil ?_
  repeat (first | refine VC.seq ?_ | refine VC.block ?_ | refine VC.skip ?_)
  repeat (first | refine VC.seq ?_ | refine VC.block ?_ | refine VC.skip ?_)
  refine VC.region ?_
  refine VR.pure rfl rfl (p_moveP rfl) ?_
  refine VR.pure rfl rfl (p_eqNilP Try.underlying29 rfl) ?_
  refine VR.pure rfl rfl (p_moveB rfl) ?_
  refine VR.knownF 8 rfl rfl ?_
  refine VR.pureG rfl rfl (p_moveP rfl) ?_
  refine VR.pureG rfl rfl (p_nilCheck rfl) ?_
  refine VR.pureG rfl rfl (p_field (fo := 4) Try.underlying47 rfl Try.sizeOf32 rfl rfl rfl) ?_
  refine VR.valG rfl rfl (r_load (v := .int _ _) Try.isAgg32 rfl (hm.at_ 0 0 rfl) rfl) ?_
  refine VR.pureG rfl rfl (p_eq rfl rfl) ?_
  refine VR.pure rfl rfl (p_pickF rfl rfl) ?_
  refine VR.pure rfl rfl (p_assignB rfl) ?_
  refine VR.nil ?_
  repeat (first | refine VC.seq ?_ | refine VC.block ?_ | refine VC.skip ?_)
  refine VC.condF rfl rfl ?_
  repeat (first | refine VC.seq ?_ | refine VC.block ?_ | refine VC.skip ?_)
  refine VC.region ?_
  refine VR.pure rfl rfl (p_moveP rfl) ?_
  refine VR.pure rfl rfl (p_nilCheck rfl) ?_
  refine VR.pure rfl rfl (p_field (fo := 4) Try.underlying47 rfl Try.sizeOf32 rfl rfl rfl) ?_
  refine VR.val rfl rfl (r_load (v := .int _ _) Try.isAgg32 rfl (hm.at_ 0 0 rfl) rfl) ?_
  refine VR.pure rfl rfl (p_ne rfl rfl) ?_
  refine VR.pure rfl rfl (p_assignB rfl) ?_
  refine VR.nil ?_
  repeat (first | refine VC.seq ?_ | refine VC.block ?_ | refine VC.skip ?_)
  refine VC.condF rfl rfl ?_
  repeat (first | refine VC.seq ?_ | refine VC.block ?_ | refine VC.skip ?_)
  refine VC.region ?_
  refine VR.pure rfl rfl (p_moveI rfl) ?_
  refine VR.pure rfl rfl (p_eq rfl rfl) ?_
  refine VR.pure rfl rfl (p_moveB rfl) ?_
  refine VR.knownF 24 rfl (decide_eq_false (by omega)) ?_
  refine VR.pureG rfl rfl (p_moveI rfl) ?_
  refine VR.pureG rfl rfl (p_moveP rfl) ?_
  refine VR.callG rfl rfl (r_call1 Try.call14 rfl) (next_c (T := ⟨id, cur, last, A, n, c, es, 4, ep, td, 0, com⟩) hm.all (hm.plus_at 0 0 rfl) hI rfl) ?_
  rintro _ w ⟨rfl, hm'⟩
  replace hm := hm.back0 hm'
  refine VR.pureG rfl rfl (p_ne rfl rfl) ?_
  refine VR.pure rfl rfl (p_pickF rfl rfl) ?_
  refine VR.pure rfl rfl (p_assignB rfl) ?_
  refine VR.nil ?_
  repeat (first | refine VC.seq ?_ | refine VC.block ?_ | refine VC.skip ?_)
  refine VC.condF rfl (decide_eq_false (by show ¬ (z ≠ ep * 4294967296 + (0 + 1)); omega)) ?_
  repeat (first | refine VC.seq ?_ | refine VC.block ?_ | refine VC.skip ?_)
  repeat (first | refine VC.seq ?_ | refine VC.block ?_ | refine VC.skip ?_)
  refine VC.region ?_
  refine VR.pure rfl rfl (p_moveP rfl) ?_
  refine VR.pure rfl rfl (p_nilCheck rfl) ?_
  refine VR.pure rfl rfl (p_field (fo := 46) Try.underlying47 rfl Try.sizeOf3 rfl rfl rfl) ?_
  refine VR.val rfl rfl (r_load (v := .int _ _) Try.isAgg3 rfl (hm.at_ 0 0 rfl) rfl) ?_
  refine VR.pure rfl rfl (p_add64 rfl rfl (by omega)) ?_
  refine VR.pure rfl rfl (p_nilCheck rfl) ?_
  refine VR.pure rfl rfl (p_field (fo := 46) Try.underlying47 rfl Try.sizeOf3 rfl rfl rfl) ?_
  refine VR.store (cs' := (tcl id cur last A n c 4 ep td (0 + 1) com)) (v := .int _ _) Try.sizeOf3 rfl rfl rfl rfl rfl hm 0 0 rfl (Nat.ble_eq.mp rfl) rfl ?_
  intro w hm
  refine VR.nil ?_
  repeat (first | refine VC.seq ?_ | refine VC.block ?_ | refine VC.skip ?_)
  refine VC.region ?_
  refine VR.pure rfl rfl (p_assignI rfl) ?_
  refine VR.nil ?_
  repeat (first | refine VC.seq ?_ | refine VC.block ?_ | refine VC.skip ?_)
  refine VC.ret ⟨_, ResOf.r1 (v := .int _ _) rfl rfl, ?_⟩
  exact ⟨⟨id, cur, last, A, n, c, es, 4, ep, td, 1, com⟩, rfl, rfl, ⟨hT.row, hT.n, hT.nc, hT.c, hT.id, hT.acc⟩, hm⟩
def tAck (d : Td) (z : Int) : Td := ⟨d.info, d.acc, d.pr, d.nw, max d.ack z⟩
def ackZ (a : Ta) (frm z : Int) : Ta := comA (a.tell (updT a.td frm.toNat (tAck (a.td frm.toNat) z)))
theorem AInv.ackZ {a : Ta} (h : AInv a) (frm z : Int) : AInv (ackZ a frm z) :=
  (h.tell (td := updT a.td frm.toNat (tAck (a.td frm.toNat) z)) (updT_same (d := tAck (a.td frm.toNat) z) rfl _) fun k hk => by rw [updT_same (d := tAck (a.td frm.toNat) z) rfl]; exact h.acc k hk).com_
set_option maxHeartbeats 4000000 in
theorem ack_c {g : Nat} {T : Tb} {frm z : Int} (hm : Mem F w ([(g, T.ob)] :: Ls)) (hT : TOk F.heap T) (hI : AInv T.abs) (h4 : T.stage = 4) (hp : T.prop = 1) (hz : z = T.ep * 4294967296 + 1) (hfrm : 1 ≤ frm ∧ frm ≤ 7) :
    Calls Try.prog 17 #[.pointer (some ⟨g, 0, none⟩), .int .i64 frm, .int .i64 z] w (Ret fun v w' => ∃ T', v = .int .i64 T'.com ∧ T'.abs = ackZ T.abs frm z ∧ TOk F.heap T' ∧ Mem F w' ([(g, T'.ob)] :: Ls)) := by
  obtain ⟨id, cur, last, A, n, c, es, stage, ep, td, prop, com⟩ := T
  have hep : 0 ≤ ep ∧ ep ≤ 1073741823 := hI.ep
  have hacc : ∀ k, k < 8 → 0 ≤ (td k).acc ∧ (td k).acc ≤ 1073741822 := hI.acc
  replace hm : Mem F w ([(g, tOb id cur last A n c stage ep td prop com)] :: Ls) := hm
  replace h4 : stage = 4 := h4
  replace hp : prop = 1 := hp
  replace hz : z = ep * 4294967296 + 1 := hz
  subst h4 hp
  have hlt : last < ep * 4294967296 := hI.two (by show (2 : Int) ≤ 4; omega)
  have hla : 0 ≤ last := hI.last.1
  have hez : epochZ z = ep := by rw [hz]; exact epoch_of (by omega) (by omega)
  obtain ⟨kf, rfl, hk8⟩ : ∃ q : Nat, frm = q ∧ q < 8 := ⟨frm.toNat, by omega, by omega⟩
  have hst1 := ts_ack (id := id) (cur := cur) (last := last) (A := A) (n := n) (c := c) (stage := 4) (ep := ep) (td := td) (prop := 1) (com := com) (max (td kf).ack z) kf hk8
  have htd : updT td kf { td kf with ack := max (td kf).ack z } = updT td kf (tAck (td kf) z) := rfl
  rw [htd] at hst1
  have hak := tc_ack (id := id) (cur := cur) (last := last) (A := A) (n := n) (c := c) (stage := 4) (ep := ep) (td := td) (prop := 1) (com := com) kf hk8
  have hIt : AInv ((Tb.abs ⟨id, cur, last, A, n, c, es, 4, ep, td, 1, com⟩).tell (updT td kf (tAck (td kf) z))) := hI.tell (td := updT td kf (tAck (td kf) z)) (updT_same (d := tAck (td kf) z) rfl _) fun k hk => by rw [updT_same (d := tAck (td kf) z) rfl]; exact hacc k hk
  refine Calls.of_vc Try.func17 rfl Try.ntmps17 rfl ?_
  repeat (first | refine VC.seq ?_ | refine VC.block ?_ | refine VC.skip ?_)
  refine VC.region ?_
  refine VR.pure rfl rfl (p_assignI rfl) ?_
  refine VR.nil ?_
  repeat (first | refine VC.seq ?_ | refine VC.block ?_ | refine VC.skip ?_)
  refine VC.region ?_
  refine VR.pure rfl rfl (p_moveP rfl) ?_
  refine VR.pure rfl rfl (p_eqNilP Try.underlying29 rfl) ?_
  refine VR.nil ?_
  repeat (first | refine VC.seq ?_ | refine VC.block ?_ | refine VC.skip ?_)
  refine VC.condF rfl rfl ?_
  repeat (first | refine VC.seq ?_ | refine VC.block ?_ | refine VC.skip ?_)
  refine VC.loud (Kept F ([(g, tOb id cur last A n c 4 ep td 1 com)] :: [])) [1, 9, 14] rfl (by kernel_rfl) (Kept.one hm.drew 0 rfl) ?_
  replace hm := hm.drew
  refine VL.pure rfl rfl rfl (p_moveI rfl) ?_
  refine VL.call rfl rfl rfl (r_call1 Try.call23 rfl) (epoch_c) ?_
  rintro _ _ ⟨rfl, rfl⟩
  refine ⟨Kept.one hm 0 rfl, ?_⟩
  refine VL.pure rfl rfl rfl (p_moveP rfl) ?_
  refine VL.pure rfl rfl rfl (p_nilCheck rfl) ?_
  refine VL.pure rfl rfl rfl (p_field (fo := 5) Try.underlying47 rfl Try.sizeOf3 rfl rfl rfl) ?_
  refine VL.read rfl rfl rfl (fun w' hw' => r_load (v := .int _ _) Try.isAgg3 rfl (hw'.at_ 0 0 rfl) rfl) ?_
  refine VL.pure rfl rfl rfl (p_eq rfl rfl) ?_
  refine VL.pure rfl rfl rfl (p_moveB rfl) ?_
  refine VL.knownT 17 rfl (decide_eq_true hez) ?_
  refine VL.pureG rfl rfl rfl (p_moveI rfl) ?_
  refine VL.callG rfl rfl rfl (r_call1 Try.call34 rfl) (counter_c (by omega)) ?_
  rintro _ _ ⟨rfl, rfl⟩
  refine ⟨Kept.one hm 0 rfl, ?_⟩
  refine VL.pureG rfl rfl rfl (p_ge rfl rfl) ?_
  refine VL.pure rfl rfl rfl (p_pickT rfl rfl) ?_
  refine VL.pure rfl rfl rfl (p_moveB rfl) ?_
  refine VL.knownT 22 rfl (decide_eq_true (by omega)) ?_
  refine VL.pureG rfl rfl rfl (p_moveI rfl) ?_
  refine VL.callG rfl rfl rfl (r_call1 Try.call34 rfl) (counter_c (by omega)) ?_
  rintro _ _ ⟨rfl, rfl⟩
  refine ⟨Kept.one hm 0 rfl, ?_⟩
  refine VL.pureG rfl rfl rfl (p_moveP rfl) ?_
  refine VL.pureG rfl rfl rfl (p_nilCheck rfl) ?_
  refine VL.pureG rfl rfl rfl (p_field (fo := 46) Try.underlying47 rfl Try.sizeOf3 rfl rfl rfl) ?_
  refine VL.readG rfl rfl rfl (fun w' hw' => r_load (v := .int _ _) Try.isAgg3 rfl (hw'.at_ 0 0 rfl) rfl) ?_
  refine VL.pureG rfl rfl rfl (p_le rfl rfl) ?_
  refine VL.pure rfl rfl rfl (p_pickT rfl rfl) ?_
  refine VL.pure rfl rfl rfl (p_assignB rfl) ?_
  refine VL.nil ?_
  repeat (first | refine VC.seq ?_ | refine VC.block ?_ | refine VC.skip ?_)
  refine VC.region ?_
  refine VR.pure rfl rfl (p_moveP rfl) ?_
  refine VR.pure rfl rfl (p_nilCheck rfl) ?_
  refine VR.pure rfl rfl (p_field (fo := 4) Try.underlying47 rfl Try.sizeOf32 rfl rfl rfl) ?_
  refine VR.val rfl rfl (r_load (v := .int _ _) Try.isAgg32 rfl (hm.at_ 0 0 rfl) rfl) ?_
  refine VR.pure rfl rfl (p_eq rfl rfl) ?_
  refine VR.pure rfl rfl (p_moveB rfl) ?_
  refine VR.knownT 36 rfl rfl ?_
  refine VR.pureG rfl rfl (p_moveI rfl) ?_
  refine VR.callG rfl rfl (r_call1 Try.call22 rfl) (server_c) ?_
  rintro _ _ ⟨rfl, rfl⟩
  refine VR.pure rfl rfl (p_pickT rfl rfl) ?_
  refine VR.pure rfl rfl (p_moveB rfl) ?_
  refine VR.knownT 40 rfl (decide_eq_true hfrm) ?_
  refine VR.pureG rfl rfl (p_moveI rfl) ?_
  refine VR.pureG rfl rfl (p_moveP rfl) ?_
  refine VR.pureG rfl rfl (p_nilCheck rfl) ?_
  refine VR.pureG rfl rfl (p_field (fo := 2) Try.underlying47 rfl Try.sizeOf22 rfl rfl rfl) ?_
  refine VR.valG rfl rfl (r_load (v := .int _ _) Try.isAgg22 rfl (hm.at_ 0 0 rfl) rfl) ?_
  refine VR.pureG rfl rfl (p_eq rfl rfl) ?_
  refine VR.pureG rfl rfl (p_moveB rfl) ?_
  refine VR.knownF 47 rfl (decide_eq_false (by omega)) ?_
  refine VR.pureG rfl rfl (p_moveI rfl) ?_
  refine VR.pureG rfl rfl (p_gt rfl rfl) ?_
  refine VR.pureG rfl rfl (p_moveB rfl) ?_
  refine VR.knownT 50 rfl (decide_eq_true (by omega)) ?_
  refine VR.pureG rfl rfl (p_moveB rfl) ?_
  refine VR.pureG rfl rfl (p_pickT rfl rfl) ?_
  refine VR.pureG rfl rfl (p_pickF rfl rfl) ?_
  refine VR.pure rfl rfl (p_pickT rfl rfl) ?_
  refine VR.nil ?_
  repeat (first | refine VC.seq ?_ | refine VC.block ?_ | refine VC.skip ?_)
  refine VC.condT rfl (decide_eq_true (by omega)) ?_
  repeat (first | refine VC.seq ?_ | refine VC.block ?_ | refine VC.skip ?_)
  repeat (first | refine VC.seq ?_ | refine VC.block ?_ | refine VC.skip ?_)
  refine VC.free (Kept F []) [8, 15] rfl (by kernel_rfl) (Kept.of0 hm.drew) ?_
  replace hm := hm.drew
  refine VD.pure 0 rfl (by kernel_rfl) rfl rfl (p_moveP rfl) ?_
  refine VD.pure 1 rfl (by kernel_rfl) rfl rfl (p_moveI rfl) ?_
  refine VD.pure 2 rfl (by kernel_rfl) rfl rfl (p_moveP rfl) ?_
  refine VD.pure 3 rfl (by kernel_rfl) rfl rfl (p_moveI rfl) ?_
  refine VD.pure 4 rfl (by kernel_rfl) rfl rfl (p_nilCheck rfl) ?_
  refine VD.pure 5 rfl (by kernel_rfl) rfl rfl (p_field (fo := 6) Try.underlying47 rfl Try.sizeOf45 rfl rfl rfl) ?_
  refine VD.pure 6 rfl (by kernel_rfl) rfl rfl (p_idxA Try.underlying45 Try.sizeOf44 rfl rfl hk8) ?_
  refine VD.pure 7 rfl (by kernel_rfl) rfl rfl (p_field (fo := 4) Try.underlying44 rfl Try.sizeOf22 rfl rfl rfl) ?_
  refine VD.pure 9 rfl (by kernel_rfl) rfl rfl (p_moveI rfl) ?_
  refine VD.pure 11 rfl (by kernel_rfl) rfl rfl (p_nilCheck rfl) ?_
  refine VD.pure 12 rfl (by kernel_rfl) rfl rfl (p_field (fo := 6) Try.underlying47 rfl Try.sizeOf45 rfl rfl rfl) ?_
  refine VD.turn1 8 (by kernel_rfl) ?_
  refine VDT.val rfl rfl rfl (r_load (v := .int _ _) Try.isAgg22 rfl (hm.at_ 0 0 rfl) hak) (Kept.of0 hm) ?_
  refine VD.pure 10 rfl (by kernel_rfl) rfl rfl (p_max rfl rfl) ?_
  refine VD.pure 13 rfl (by kernel_rfl) rfl rfl (p_idxA Try.underlying45 Try.sizeOf44 rfl rfl hk8) ?_
  refine VD.pure 14 rfl (by kernel_rfl) rfl rfl (p_field (fo := 4) Try.underlying44 rfl Try.sizeOf22 rfl rfl rfl) ?_
  refine VD.turn1 15 (by kernel_rfl) ?_
  refine VDT.store (cs' := (tcl id cur last A n c 4 ep (updT td kf (tAck (td kf) z)) 1 com)) (v := .int _ _) Try.sizeOf22 rfl rfl rfl rfl rfl rfl hm 0 0 rfl (by show 0 + 6 + kf * 5 + 4 + 1 ≤ 48; omega) hst1 (fun w' hm' => Kept.of0 hm') ?_
  intro w hm
  refine VD.nil (by kernel_rfl) rfl ?_
  have hn1 : (4 : Int) = 4 → n = 1 := fun h => by
    have h1 := (hI.four rfl).1
    have h2 := hT.row.len
    have h3 : (es.map En.abs).length = 1 := h1
    rw [List.length_map] at h3
    exact h2.symm.trans h3
  repeat (first | refine VC.seq ?_ | refine VC.block ?_ | refine VC.skip ?_)
  refine VC.region ?_
  refine VR.pure rfl rfl (p_moveP rfl) ?_
  refine VR.call rfl rfl (r_call1 Try.call30 rfl) (commit_c (T0 := ⟨id, cur, last, A, n, c, es, 4, ep, updT td kf (tAck (td kf) z), 1, com⟩) hm ⟨hT.row, hT.n, hT.nc, hT.c, hT.id, hIt.acc⟩ hn1 hep (.inr rfl) ⟨hI.com, fun h ↦ (hI.four rfl).2⟩) ?_
  rintro _ w ⟨T2, hab2, hT2, hm⟩
  refine VR.nil ?_
  repeat (first | refine VC.seq ?_ | refine VC.block ?_ | refine VC.skip ?_)
  repeat (first | refine VC.seq ?_ | refine VC.block ?_ | refine VC.skip ?_)
  refine VC.region ?_
  refine VR.pure rfl rfl (p_moveP rfl) ?_
  refine VR.pure rfl rfl (p_nilCheck rfl) ?_
  refine VR.pure rfl rfl (p_field (fo := 47) Try.underlying47 rfl Try.sizeOf22 rfl rfl rfl) ?_
  refine VR.val rfl rfl (r_load (v := .int _ _) Try.isAgg22 rfl (hm.at_ 0 0 rfl) rfl) ?_
  refine VR.pure rfl rfl (p_assignI rfl) ?_
  refine VR.nil ?_
  repeat (first | refine VC.seq ?_ | refine VC.block ?_ | refine VC.skip ?_)
  refine VC.ret ⟨_, ResOf.r1 (v := .int _ _) rfl rfl, ?_⟩
  exact ⟨T2, rfl, hab2, hT2, hm⟩
end
end Go.Bd
