/- ReformBinds: which configs bind is what the document tells, of any row of configs; what is handed in stays, the answers lie apart. Conditions: none. -/
import Derived.Test.Ytinddgigjecofaa22m
import Derived.Test.Ytinddgigjecofaa22o
namespace Go.Bd
open Go.Proofs Go.ChangeShapes Go.WideShapes
set_option linter.unusedVariables false
set_option maxRecDepth 20000

theorem copied_c {F : Env} {w : World} {Ls : List Blks} {e : En} (hm : Mem F w Ls) (hn : e.n * 32 ≤ 140737488355328) (hr : MRow F.heap e.A e.n e.ms) :
    Calls Try.prog 47 #[.agg #[.int .i64 e.ver, .slice e.A e.n e.c]] w (Ret fun v w' => ∃ A' c' L, v = .agg #[.int .i64 e.ver, .slice A' e.n c'] ∧ OwnS 65 4 A' e.n c' (mcells e.ms) L ∧ Mem F w' (L :: Ls)) := by
  refine Calls.of_vc Try.func47 rfl Try.ntmps47 rfl ?_
  repeat (first | refine VC.seq ?_ | refine VC.block ?_ | refine VC.skip ?_)
  refine VC.region ?_
  refine VR.new hm rfl rfl (n_boxG rfl) ?_
  intro b1 w hm
  refine VR.new hm rfl rfl (n_allocG Try.zeroValue25) ?_
  intro b2 w hm
  refine VR.nil ?_
  repeat (first | refine VC.seq ?_ | refine VC.block ?_ | refine VC.skip ?_)
  refine VC.region ?_
  refine VR.new hm rfl rfl (n_buildSlice0 Try.underlying23 inf65) ?_
  intro g3 w hm
  refine VR.pure rfl rfl (p_field (fo := 1) Try.underlying25 rfl Try.sizeOf23 rfl rfl rfl) ?_
  refine VR.val rfl rfl (r_load (v := .slice _ _ _) Try.isAgg23 rfl (hm.at_ 2 0 rfl) rfl) ?_
  refine VR.append (s := 4) (bytes := 32) Try.underlying23 inf65 rfl rfl rfl rfl rfl rfl rfl rfl rfl hm (OwnS.made (c := 0) (by unfold maxLen; omega) rfl) (hr.mono hm.fix) (mcells_one e.ms) (Nat.zero_add e.n) ⟨by unfold maxLen; omega, by omega⟩ ?_
  intro A' c' w L' ho' hm
  refine VR.pure rfl rfl (p_field (fo := 1) Try.underlying25 rfl Try.sizeOf23 rfl rfl rfl) ?_
  refine VR.store (cs' := #[.int .i64 e.ver, .slice A' e.n c']) (v := .slice _ _ _) Try.sizeOf23 rfl rfl rfl rfl rfl hm 2 0 rfl (Nat.ble_eq.mp rfl) rfl ?_
  intro w hm
  refine VR.nil ?_
  repeat (first | refine VC.seq ?_ | refine VC.block ?_ | refine VC.skip ?_)
  refine VC.region ?_
  refine VR.val rfl rfl (r_loadAgg (vs := [.int _ _, .slice _ _ _]) Try.isAgg25 Try.sizeOf25 rfl (hm.at_ 2 0 rfl) rfl (agg_at rfl)) ?_
  refine VR.store (cs' := #[.int .i64 e.ver, .slice A' e.n c']) (v := .agg _) Try.sizeOf25 rfl rfl rfl rfl rfl hm 1 0 rfl (Nat.ble_eq.mp rfl) rfl ?_
  intro w hm
  refine VR.nil ?_
  repeat (first | refine VC.seq ?_ | refine VC.block ?_ | refine VC.skip ?_)
  refine VC.ret ⟨_, ResOf.r1 (v := .agg _) rfl ⟨_, rfl, run_loadVarAgg Try.isAgg25 Try.sizeOf25 (hm.at_ 1 0 rfl) (vs := [.int .i64 e.ver, .slice A' e.n c']) rfl (agg_at rfl)⟩, ?_⟩
  exact ⟨A', c', L', rfl, ho', hm.pop2.pop2⟩

set_option maxHeartbeats 2000000 in
theorem ref_active_c {F : Env} {w : World} {Ls : List Blks} {A : Option Addr} {n c : Nat} {es : List En} {committed : Int} (hm : Mem F w Ls) (hn : n ≤ 3000) (hr : ERow F.heap A n es) (hsm : ∀ e ∈ es, e.n ≤ 3000) :
    Calls Try.prog 24 #[.slice A n c, .int .i64 committed] w
      (Ret fun v w' => ∃ G A' c' outs, v = .slice A' outs.length c' ∧ F.under G ∧ ERow G.heap A' outs.length outs ∧ outs.map En.abs = (es.map En.abs).drop (fromOf (es.map En.abs) committed) ∧ Mem G w' Ls) := by
  have hl := hr.len
  refine Calls.of_vc Try.func24 rfl Try.ntmps24 rfl ?_
  repeat (first | refine VC.seq ?_ | refine VC.block ?_ | refine VC.skip ?_)
  refine VC.region ?_
  refine VR.pure rfl rfl (p_assignL rfl) ?_
  refine VR.nil ?_
  repeat (first | refine VC.seq ?_ | refine VC.block ?_ | refine VC.skip ?_)
  refine VC.region ?_
  refine VR.pure rfl rfl (p_moveL rfl) ?_
  refine VR.pure rfl rfl (p_len Try.underlying33 rfl) ?_
  refine VR.pure rfl rfl (p_assignI rfl) ?_
  refine VR.nil ?_
  repeat (first | refine VC.seq ?_ | refine VC.block ?_ | refine VC.skip ?_)
  refine VC.region ?_
  refine VR.pure rfl rfl (p_moveI rfl) ?_
  refine VR.pure rfl rfl (p_eq rfl rfl) ?_
  refine VR.nil ?_
  repeat (first | refine VC.seq ?_ | refine VC.block ?_ | refine VC.skip ?_)
  refine VC.condD rfl (fun h0 => ?_) (fun h0 => ?_)
  · repeat (first | refine VC.seq ?_ | refine VC.block ?_ | refine VC.skip ?_)
    refine VC.region ?_
    refine VR.pure rfl rfl (p_assignL rfl) ?_
    refine VR.nil ?_
    repeat (first | refine VC.seq ?_ | refine VC.block ?_ | refine VC.skip ?_)
    refine VC.ret ⟨_, ResOf.r1 (v := .slice _ _ _) rfl rfl, ?_⟩
    have hes : es = [] := List.eq_nil_of_length_eq_zero (by omega)
    subst hes
    exact ⟨F, none, 0, [], rfl, Env.under_refl F, ⟨Row.nil _, by simp⟩, by simp, hm⟩
  · obtain ⟨e, he, hlast⟩ := last_at (es := es) (by omega)
    rw [hl] at he
    have hem := List.mem_of_getElem? he
    have hen := hsm e hem
    have hfrom : fromOf (es.map En.abs) committed = if e.ver ≤ committed then n - 1 else n - 2 := by
      unfold fromOf
      rw [List.getLast?_map, hlast, List.length_map, hl]
      rfl
    obtain ⟨b, off, blk, T, fr, hA, hb, hc⟩ := hr.row.elem En.len (by decide) (by omega)
    rw [hA]
    repeat (first | refine VC.seq ?_ | refine VC.block ?_ | refine VC.skip ?_)
    refine VC.region ?_
    refine VR.pure rfl rfl (p_moveL rfl) ?_
    refine VR.pure rfl rfl (p_moveI rfl) ?_
    refine VR.pure rfl rfl (p_sub64E (r := ((n - 1 : Nat) : Int)) rfl rfl (by omega) (by omega)) ?_
    refine VR.pure rfl rfl (p_idxN Try.underlying33 Try.sizeOf25 rfl rfl (by omega : n - 1 < n)) ?_
    refine VR.val rfl rfl (r_loadAgg (vs := [.int _ _, .slice _ _ _]) Try.isAgg25 Try.sizeOf25 rfl (hm.fix _ _ hb) rfl (hc (n - 1) e he)) ?_
    refine VR.call rfl rfl (r_call1 Try.call47 rfl) (copied_c hm (by omega) (hr.each e hem).1) ?_
    rintro _ w ⟨A1, c1, L1, rfl, ho1, hm⟩
    refine VR.new hm rfl rfl (n_allocG Try.zeroValue25) ?_
    intro b6 w hm
    refine VR.store (cs' := #[.int .i64 e.ver, .slice A1 e.n c1]) (v := .agg _) Try.sizeOf25 rfl rfl rfl rfl rfl hm 0 0 rfl (Nat.ble_eq.mp rfl) rfl ?_
    intro w hm
    refine VR.nil ?_
    have hone : ∀ {G : Env}, F.under G → (∀ p ∈ L1, G.heap p.1 = some p.2) → EnOk G.heap ⟨e.ver, A1, e.n, c1, e.ms⟩ := fun hu h1 => ⟨ho1.row h1, ho1.le.1, ho1.le.2⟩
    by_cases h1 : n = 1
    · have hwhich : (if e.ver ≤ committed then n - 1 else n - 2) = n - 1 := by split <;> omega
      repeat (first | refine VC.seq ?_ | refine VC.block ?_ | refine VC.skip ?_)
      refine VC.region ?_
      refine VR.pure rfl rfl (p_moveI rfl) ?_
      refine VR.pure rfl rfl (p_eq rfl rfl) ?_
      refine VR.pure rfl rfl (p_moveB rfl) ?_
      refine VR.knownT 19 rfl (decide_eq_true (by omega)) ?_
      refine VR.pass rfl rfl ?_
      refine VR.pass rfl rfl ?_
      refine VR.pass rfl rfl ?_
      refine VR.pass rfl rfl ?_
      refine VR.pure rfl rfl (p_pickT rfl rfl) ?_
      refine VR.nil ?_
      repeat (first | refine VC.seq ?_ | refine VC.block ?_ | refine VC.skip ?_)
      refine VC.condT rfl rfl ?_
      repeat (first | refine VC.seq ?_ | refine VC.block ?_ | refine VC.skip ?_)
      refine VC.region ?_
      refine VR.val rfl rfl (r_loadAgg (vs := [.int _ _, .slice _ _ _]) Try.isAgg25 Try.sizeOf25 rfl (hm.at_ 0 0 rfl) rfl (agg_at rfl)) ?_
      refine VR.new hm rfl rfl (n_buildSlice (vs := [.agg _]) Try.underlying33 inf25 rfl rfl rfl rfl rfl rfl) ?_
      intro b8 w hm
      refine VR.pure rfl rfl (p_assignL rfl) ?_
      refine VR.nil ?_
      repeat (first | refine VC.seq ?_ | refine VC.block ?_ | refine VC.skip ?_)
      refine VC.ret ⟨_, ResOf.r1 (v := .slice _ _ _) rfl rfl, ?_⟩
      have hm2 : Mem F w ([(b8, .cells #[.int .i64 e.ver, .slice A1 e.n c1] 25 (0, 0))] :: [(b6, .cells #[.int .i64 e.ver, .slice A1 e.n c1] 25 (0, 0))] :: L1 :: Ls) := hm
      obtain ⟨G1, hu1, hm3, hG1⟩ := hm2.freeze
      obtain ⟨G2, hu2, hm4, hG2⟩ := hm3.pop.freeze
      have hd : es.drop (n - 1) = [e] := by
        obtain ⟨hlt, hx⟩ := List.getElem?_eq_some_iff.1 he
        rw [List.drop_eq_getElem_cons hlt, hx, List.drop_eq_nil_of_le (by omega)]
      refine ⟨G2, some ⟨b8, 0, none⟩, 1, [⟨e.ver, A1, e.n, c1, e.ms⟩], rfl, hu1.trans hu2, ⟨Row.lit (cs := [.int .i64 e.ver, .slice A1 e.n c1]) (hu2.heap _ _ (hG1 _ (.head _))), fun x hx => ?_⟩, ?_, hm4⟩
      · simp only [List.mem_singleton] at hx
        subst hx
        exact hone (hu1.trans hu2) hG2
      · rw [hfrom, ← List.map_drop, hwhich, hd]
        rfl
    · by_cases h2 : e.ver ≤ committed
      · have hwhich : (if e.ver ≤ committed then n - 1 else n - 2) = n - 1 := if_pos h2
        repeat (first | refine VC.seq ?_ | refine VC.block ?_ | refine VC.skip ?_)
        refine VC.region ?_
        refine VR.pure rfl rfl (p_moveI rfl) ?_
        refine VR.pure rfl rfl (p_eq rfl rfl) ?_
        refine VR.pure rfl rfl (p_moveB rfl) ?_
        refine VR.knownF 19 rfl (decide_eq_false (by omega)) ?_
        refine VR.pureG rfl rfl (p_field (fo := 0) Try.underlying25 rfl Try.sizeOf22 rfl rfl rfl) ?_
        refine VR.valG rfl rfl (r_load (v := .int _ _) Try.isAgg22 rfl (hm.at_ 0 0 rfl) rfl) ?_
        refine VR.pureG rfl rfl (p_moveI rfl) ?_
        refine VR.pureG rfl rfl (p_le rfl rfl) ?_
        refine VR.pure rfl rfl (p_pickF rfl rfl) ?_
        refine VR.nil ?_
        repeat (first | refine VC.seq ?_ | refine VC.block ?_ | refine VC.skip ?_)
        refine VC.condT rfl (decide_eq_true h2) ?_
        repeat (first | refine VC.seq ?_ | refine VC.block ?_ | refine VC.skip ?_)
        refine VC.region ?_
        refine VR.val rfl rfl (r_loadAgg (vs := [.int _ _, .slice _ _ _]) Try.isAgg25 Try.sizeOf25 rfl (hm.at_ 0 0 rfl) rfl (agg_at rfl)) ?_
        refine VR.new hm rfl rfl (n_buildSlice (vs := [.agg _]) Try.underlying33 inf25 rfl rfl rfl rfl rfl rfl) ?_
        intro b8 w hm
        refine VR.pure rfl rfl (p_assignL rfl) ?_
        refine VR.nil ?_
        repeat (first | refine VC.seq ?_ | refine VC.block ?_ | refine VC.skip ?_)
        refine VC.ret ⟨_, ResOf.r1 (v := .slice _ _ _) rfl rfl, ?_⟩
        have hm2 : Mem F w ([(b8, .cells #[.int .i64 e.ver, .slice A1 e.n c1] 25 (0, 0))] :: [(b6, .cells #[.int .i64 e.ver, .slice A1 e.n c1] 25 (0, 0))] :: L1 :: Ls) := hm
        obtain ⟨G1, hu1, hm3, hG1⟩ := hm2.freeze
        obtain ⟨G2, hu2, hm4, hG2⟩ := hm3.pop.freeze
        have hd : es.drop (n - 1) = [e] := by
          obtain ⟨hlt, hx⟩ := List.getElem?_eq_some_iff.1 he
          rw [List.drop_eq_getElem_cons hlt, hx, List.drop_eq_nil_of_le (by omega)]
        refine ⟨G2, some ⟨b8, 0, none⟩, 1, [⟨e.ver, A1, e.n, c1, e.ms⟩], rfl, hu1.trans hu2, ⟨Row.lit (cs := [.int .i64 e.ver, .slice A1 e.n c1]) (hu2.heap _ _ (hG1 _ (.head _))), fun x hx => ?_⟩, ?_, hm4⟩
        · simp only [List.mem_singleton] at hx
          subst hx
          exact hone (hu1.trans hu2) hG2
        · rw [hfrom, ← List.map_drop, hwhich, hd]
          rfl
      · obtain ⟨d, hd0, hdm⟩ := get_of (xs := es) (k := n - 2) (by omega)
        have hdn := hsm d hdm
        repeat (first | refine VC.seq ?_ | refine VC.block ?_ | refine VC.skip ?_)
        refine VC.region ?_
        refine VR.pure rfl rfl (p_moveI rfl) ?_
        refine VR.pure rfl rfl (p_eq rfl rfl) ?_
        refine VR.pure rfl rfl (p_moveB rfl) ?_
        refine VR.knownF 19 rfl (decide_eq_false (by omega)) ?_
        refine VR.pureG rfl rfl (p_field (fo := 0) Try.underlying25 rfl Try.sizeOf22 rfl rfl rfl) ?_
        refine VR.valG rfl rfl (r_load (v := .int _ _) Try.isAgg22 rfl (hm.at_ 0 0 rfl) rfl) ?_
        refine VR.pureG rfl rfl (p_moveI rfl) ?_
        refine VR.pureG rfl rfl (p_le rfl rfl) ?_
        refine VR.pure rfl rfl (p_pickF rfl rfl) ?_
        refine VR.nil ?_
        repeat (first | refine VC.seq ?_ | refine VC.block ?_ | refine VC.skip ?_)
        refine VC.condF rfl (decide_eq_false h2) ?_
        repeat (first | refine VC.seq ?_ | refine VC.block ?_ | refine VC.skip ?_)
        refine VC.loud (Kept F ([(b6, .cells #[.int .i64 e.ver, .slice A1 e.n c1] 25 (0, 0))] :: [])) [5, 7] rfl (by kernel_rfl) (Kept.one hm.drew 0 rfl) ?_
        replace hm := hm.drew
        refine VL.pure rfl rfl rfl (p_moveL rfl) ?_
        refine VL.pure rfl rfl rfl (p_moveI rfl) ?_
        refine VL.pure rfl rfl rfl (p_sub64E (r := ((n - 2 : Nat) : Int)) rfl rfl (by omega) (by omega)) ?_
        refine VL.pure rfl rfl rfl (p_idxN Try.underlying33 Try.sizeOf25 rfl rfl (by omega : n - 2 < n)) ?_
        refine VL.read rfl rfl rfl (fun w' hw' => r_loadAgg (vs := [.int _ _, .slice _ _ _]) Try.isAgg25 Try.sizeOf25 rfl (hw'.fix _ _ hb) rfl (hc (n - 2) d hd0)) ?_
        refine VL.call rfl rfl rfl (r_call1 Try.call47 rfl) (copied_c hm (by omega) (hr.each d hdm).1) ?_
        rintro _ w ⟨A2, c2, L2, rfl, ho2, hm⟩
        refine ⟨Kept.one hm 1 rfl, ?_⟩
        refine VL.read rfl rfl rfl (fun w' hw' => r_loadAgg (vs := [.int _ _, .slice _ _ _]) Try.isAgg25 Try.sizeOf25 rfl (hw'.at_ 0 0 rfl) rfl (agg_at rfl)) ?_
        refine VL.new hm rfl rfl rfl (n_buildSlice (vs := [.agg _, .agg _]) Try.underlying33 inf25 rfl rfl rfl rfl rfl rfl) (fun b' w' hm' => Kept.one hm' 2 rfl) ?_
        intro b8 w hm
        refine VL.pure rfl rfl rfl (p_assignL rfl) ?_
        refine VL.nil ?_
        repeat (first | refine VC.seq ?_ | refine VC.block ?_ | refine VC.skip ?_)
        refine VC.ret ⟨_, ResOf.r1 (v := .slice _ _ _) rfl rfl, ?_⟩
        have hm2 : Mem F w ([(b8, .cells #[.int .i64 d.ver, .slice A2 d.n c2, .int .i64 e.ver, .slice A1 e.n c1] 25 (0, 0))] :: L2 :: [(b6, .cells #[.int .i64 e.ver, .slice A1 e.n c1] 25 (0, 0))] :: L1 :: Ls) := hm
        obtain ⟨G1, hu1, hm3, hG1⟩ := hm2.freeze
        obtain ⟨G2, hu2, hm4, hG2⟩ := hm3.freeze
        obtain ⟨G3, hu3, hm5, hG3⟩ := hm4.pop.freeze
        have hd : es.drop (n - 2) = [d, e] := by
          obtain ⟨hlt, hx⟩ := List.getElem?_eq_some_iff.1 hd0
          obtain ⟨hlt2, hx2⟩ := List.getElem?_eq_some_iff.1 he
          rw [List.drop_eq_getElem_cons hlt, hx, show n - 2 + 1 = n - 1 by omega, List.drop_eq_getElem_cons hlt2, hx2, List.drop_eq_nil_of_le (by omega)]
        refine ⟨G3, some ⟨b8, 0, none⟩, 2, [⟨d.ver, A2, d.n, c2, d.ms⟩, ⟨e.ver, A1, e.n, c1, e.ms⟩], rfl, (hu1.trans hu2).trans hu3, ⟨Row.lit (cs := [.int .i64 d.ver, .slice A2 d.n c2, .int .i64 e.ver, .slice A1 e.n c1]) (hu3.heap _ _ (hu2.heap _ _ (hG1 _ (.head _)))), fun x hx => ?_⟩, ?_, hm5⟩
        · simp only [List.mem_cons, List.not_mem_nil, or_false] at hx
          rcases hx with rfl | rfl
          · exact ⟨ho2.row fun p hp => hu3.heap _ _ (hG2 p hp), ho2.le.1, ho2.le.2⟩
          · exact hone ((hu1.trans hu2).trans hu3) hG3
        · rw [hfrom, if_neg h2, ← List.map_drop, hd]
          rfl

theorem n_le_sum {es : List En} {e : En} (h : e ∈ es) : e.n ≤ (es.map En.n).sum := by
  induction es with
  | nil => simp at h
  | cons x r ih =>
    rw [List.map_cons, List.sum_cons]
    rcases List.mem_cons.1 h with rfl | h
    · omega
    · have := ih h; omega
theorem sz2 {a b : Sl} (ha : a.n ≤ 1000) (hb : b.n ≤ 1000) : ∀ (k : Nat) (it : Sl), [a, b][k]? = some it → it.n ≤ 1000 := fun k it hk => by
  rcases k with _ | _ | k
  · obtain rfl := Option.some.inj (show some a = some it from hk)
    exact ha
  · obtain rfl := Option.some.inj (show some b = some it from hk)
    exact hb
  · simp at hk
theorem ens2 {A B : Option Addr} {c d : Nat} {xs ys : List En} {Lx Ly : Blks} (hx : OwnS 25 2 A xs.length c (ecells xs) Lx) (hy : OwnS 25 2 B ys.length d (ecells ys) Ly) :
    All [⟨A, xs.length, c⟩, ⟨B, ys.length, d⟩] [Lx, Ly] (fun k (it : Sl) L => OwnS 25 2 it.A it.n it.c (ecells ([xs, ys].getD k [])) L) := ⟨rfl, fun k it L hk hL => by
  rcases k with _ | _ | k
  · obtain rfl := Option.some.inj (show some (Sl.mk A xs.length c) = some it from hk)
    obtain rfl := Option.some.inj (show some Lx = some L from hL)
    exact hx
  · obtain rfl := Option.some.inj (show some (Sl.mk B ys.length d) = some it from hk)
    obtain rfl := Option.some.inj (show some Ly = some L from hL)
    exact hy
  · simp at hk⟩
theorem All.app {its its' : List Sl} {Ms Ms' : List Blks} {Φ : Sl → Blks → Prop} (h : All its Ms (fun _ => Φ)) (h' : All its' Ms' (fun _ => Φ)) : All (its ++ its') (Ms ++ Ms') (fun _ => Φ) := by
  have h1 := h.1
  have h2 := h'.1
  refine ⟨by rw [List.length_append, List.length_append]; omega, fun k it L hk hL => ?_⟩
  by_cases hlt : k < its.length
  · rw [List.getElem?_append_left hlt] at hk
    rw [List.getElem?_append_left (by omega)] at hL
    exact h.2 k it L hk hL
  · rw [List.getElem?_append_right (by omega)] at hk hL
    rw [h1] at hL
    exact h'.2 _ it L hk hL
theorem All.one {it : Sl} {L : Blks} {Φ : Sl → Blks → Prop} (h : Φ it L) : All [it] [L] (fun _ => Φ) := ⟨rfl, fun k x M hk hM => by
  rcases k with _ | k
  · obtain rfl := Option.some.inj (show some it = some x from hk)
    obtain rfl := Option.some.inj (show some L = some M from hM)
    exact h
  · simp at hk⟩
theorem Owns.all {es : List En} {bs : List Blks} (h : Owns es bs) (hn : ∀ e ∈ es, e.n ≤ 1000000000000) : All (es.map En.sl) bs (fun _ (it : Sl) L => it.n ≤ 1000000000000 ∧ ∃ xs, OwnS 65 4 it.A it.n it.c xs L) := by
  induction h with
  | nil => exact ⟨rfl, fun k it L hk _ => by simp at hk⟩
  | @snoc es bs e L h ho ih =>
    rw [List.map_append]
    exact (ih fun x hx => hn x (by simp [hx])).app (All.one (Φ := fun (it : Sl) L => it.n ≤ 1000000000000 ∧ ∃ xs, OwnS 65 4 it.A it.n it.c xs L) ⟨hn e (by simp), _, ho⟩)
theorem Owns.cnt {es : List En} {bs : List Blks} (h : Owns es bs) : ∀ e ∈ es, e.ms.length = e.n := by
  induction h with
  | nil => intro e he; simp at he
  | @snoc es bs e L h ho ih =>
    intro x hx
    rcases List.mem_append.1 hx with hx | hx
    · exact ih x hx
    · simp only [List.mem_singleton] at hx
      subst hx
      have := ho.1
      rw [flat_len Mb.len] at this
      omega
theorem last_perm (Y X Z : List Blks) : (Y ++ (X ++ Z)).flatten.Perm (Z ++ (Y ++ X)).flatten := by
  simp only [List.flatten_append]
  rw [← List.append_assoc]
  exact List.perm_append_comm
theorem two_perm (Lx Ly : Blks) (bx byy : List Blks) : (Ly :: (byy ++ []) ++ (Lx :: (bx ++ []))).flatten.Perm ((bx ++ byy) ++ ([Lx, Ly] ++ [])).flatten := by
  simp only [List.append_nil, List.flatten_append, List.flatten_cons, List.flatten_nil, List.cons_append]
  have h1 : (Ly ++ (byy.flatten ++ (Lx ++ bx.flatten))).Perm ((Lx ++ bx.flatten) ++ (Ly ++ byy.flatten)) := by
    have := List.perm_append_comm (l₁ := Ly ++ byy.flatten) (l₂ := Lx ++ bx.flatten)
    simpa only [List.append_assoc] using this
  refine h1.trans ?_
  have h2 : ((Lx ++ bx.flatten) ++ (Ly ++ byy.flatten)).Perm ((bx.flatten ++ Lx) ++ (byy.flatten ++ Ly)) := (List.perm_append_comm).append List.perm_append_comm
  refine h2.trans ?_
  simp only [List.append_assoc]
  refine (List.Perm.refl _).append ?_
  have h3 : (Lx ++ (byy.flatten ++ Ly)).Perm ((byy.flatten ++ Ly) ++ Lx) := List.perm_append_comm
  refine h3.trans ?_
  simp only [List.append_assoc]
  exact (List.Perm.refl _).append List.perm_append_comm

set_option maxHeartbeats 8000000 in
theorem reform_binds_c {F : Env} {w : World} {A : Option Addr} {n c : Nat} {es : List En} {committed : Int} (hm : Mem F w []) (hnc : n ≤ c ∧ c ≤ maxLen) (hc : c * 32 ≤ reachBytes) (hr : ERow F.heap A n es) (hsm : ∀ e ∈ es, e.c * 32 ≤ reachBytes) :
    Calls Try.prog 4 #[.slice A n c, .int .i64 committed] w (Ret fun v w' => v = .bool true ∧ Mem F w' []) := by
  have hl := hr.len
  unfold reachBytes at hc hsm
  have hsm1 : ∀ e ∈ es, e.n ≤ 4611686018427387904 := fun e he => by
    have h1 := hsm e he
    have h2 := (hr.each e he).2.1
    omega
  refine Calls.of_vc Try.func4 rfl Try.ntmps4 rfl ?_
  repeat (first | refine VC.seq ?_ | refine VC.block ?_ | refine VC.skip ?_)
  refine VC.region ?_
  refine VR.pure rfl rfl (p_assignB rfl) ?_
  refine VR.nil ?_
  repeat (first | refine VC.seq ?_ | refine VC.block ?_ | refine VC.skip ?_)
  refine VC.region ?_
  refine VR.pure rfl rfl (p_moveL rfl) ?_
  refine VR.call rfl rfl (r_call1 Try.call8 rfl) (great_c hm (by omega) hr hsm1) ?_
  rintro v w ⟨hv, hm⟩
  refine VR.nil ?_
  rcases hv with rfl | ⟨rfl, hn3, hs3⟩
  · repeat (first | refine VC.seq ?_ | refine VC.block ?_ | refine VC.skip ?_)
    refine VC.condT rfl rfl ?_
    repeat (first | refine VC.seq ?_ | refine VC.block ?_ | refine VC.skip ?_)
    refine VC.region ?_
    refine VR.call rfl rfl (r_call0 Try.call9) (awake_c hm) ?_
    rintro _ w ⟨rfl, hm⟩
    refine VR.pure rfl rfl (p_assignB rfl) ?_
    refine VR.nil ?_
    repeat (first | refine VC.seq ?_ | refine VC.block ?_ | refine VC.skip ?_)
    refine VC.ret ⟨_, ResOf.r1 (v := .bool _) rfl rfl, ?_⟩
    exact ⟨rfl, hm⟩
  · repeat (first | refine VC.seq ?_ | refine VC.block ?_ | refine VC.skip ?_)
    refine VC.condF rfl rfl ?_
    have h30 : ∀ e ∈ es, e.n ≤ 3000 := fun e he => by have := n_le_sum he; omega
    have h32 : ∀ e ∈ es, e.n * 32 ≤ 140737488355328 := fun e he => by have := h30 e he; omega
    have hems : ∀ e ∈ es, e.ms.length = e.n := fun e he => (hr.each e he).1.len
    repeat (first | refine VC.seq ?_ | refine VC.block ?_ | refine VC.skip ?_)
    refine VC.region ?_
    refine VR.pure rfl rfl (p_moveL rfl) ?_
    refine VR.call rfl rfl (r_call1 Try.call20 rfl) (lentEs_c hm (by omega) hr h32) ?_
    rintro _ w ⟨A5, c5, os, bs, L5, rfl, ho5, hls, hm⟩
    refine VR.pure rfl rfl (p_assignL rfl) ?_
    refine VR.nil ?_
    have hle5 := ho5.le
    have hlen := hls.len
    have rowIn : ∀ (E : Nat → Option Obj), (∀ p ∈ L5, E p.1 = some p.2) → (∀ L ∈ bs, ∀ p ∈ L, E p.1 = some p.2) → ERow E A5 n os := fun E h1 h2 => by
      refine ⟨?_, fun o ho => (hls.ok h2 hems o ho).1⟩
      have h3 := Row.take (ho5.row h1) (k := n * 2) (by omega)
      rwa [ecells_app, List.take_left' (by rw [flat_len En.len]; omega)] at h3
    have ho32 : ∀ o ∈ os, o.n * 32 ≤ 140737488355328 := fun o ho => by
      obtain ⟨_, e, he, hoe⟩ := hls.ok (H := (F.plus (L5 :: (bs ++ []))).heap) (fun L hL => hm.plus_mem (.tail _ (List.mem_append_left _ hL))) hems o ho
      have := h30 e he
      omega
    have hact1 := active_c (committed := committed) hm.all (n := n) (c := c5) ⟨by omega, hle5.2⟩ (rowIn _ (hm.plus_mem (.head _)) fun L hL => hm.plus_mem (.tail _ (List.mem_append_left _ hL))) ho32
    repeat (first | refine VC.seq ?_ | refine VC.block ?_ | refine VC.skip ?_)
    refine VC.region ?_
    refine VR.pure rfl rfl (p_moveL rfl) ?_
    refine VR.pure rfl rfl (p_moveI rfl) ?_
    refine VR.call rfl rfl (r_call2 Try.call21 rfl rfl) (hact1) ?_
    rintro _ w ⟨A6, c6, xs, Lx, bx, rfl, hox, hownx, hmapx, hx2, hm'⟩
    replace hm := hm.back hm'
    refine VR.pure rfl rfl (p_moveL rfl) ?_
    refine VR.pure rfl rfl (p_moveI rfl) ?_
    have hact2 := active_c (committed := committed) hm.all (n := n) (c := c5) ⟨by omega, hle5.2⟩ (rowIn _ (hm.plus_mem (List.mem_append_right _ (.head _))) fun L hL => hm.plus_mem (List.mem_append_right _ (.tail _ (List.mem_append_left _ hL)))) ho32
    refine VR.call rfl rfl (r_call2 Try.call21 rfl rfl) (hact2) ?_
    rintro _ w ⟨A7, c7, ys, Ly, byy, rfl, hoy, howny, hmapy, hy2, hm''⟩
    replace hm := hm.back hm''
    refine VR.pure rfl rfl (p_assignL rfl) ?_
    refine VR.pure rfl rfl (p_assignL rfl) ?_
    refine VR.nil ?_
    clear hact1 hact2 hm' hm''
    have hkept := keptEs_c (d := c) hm.all (by omega) hle5.1 (ho5.row (hm.plus_mem (List.mem_append_right _ (List.mem_append_right _ (.head _))))) hls (fun L hL => hm.plus_mem (List.mem_append_right _ (List.mem_append_right _ (.tail _ (List.mem_append_left _ hL))))) (hr.mono hm.le) h32
    repeat (first | refine VC.seq ?_ | refine VC.block ?_ | refine VC.skip ?_)
    refine VC.region ?_
    refine VR.pure rfl rfl (p_moveL rfl) ?_
    refine VR.pure rfl rfl (p_moveL rfl) ?_
    refine VR.call rfl rfl (r_call2 Try.call22 rfl rfl) (hkept) ?_
    rintro _ w ⟨rfl, hm'⟩
    replace hm := hm.back0 hm'
    refine VR.pure rfl rfl (p_not rfl) ?_
    refine VR.nil ?_
    clear hkept hm'
    repeat (first | refine VC.seq ?_ | refine VC.block ?_ | refine VC.skip ?_)
    refine VC.condF rfl rfl ?_
    have hm2 : Mem F w (L5 :: (bs ++ ((Ly :: (byy ++ [])) ++ (Lx :: (bx ++ []))))) := (hm.permF (last_perm _ _ _)).flat (by simp)
    repeat (first | refine VC.seq ?_ | refine VC.block ?_ | refine VC.skip ?_)
    refine VC.region ?_
    refine VR.pure rfl rfl (p_moveL rfl) ?_
    refine VR.call rfl rfl (r_call1 Try.call23 rfl) (overEs_c hm2 (by omega) ho5 hls hl h32) ?_
    rintro v w hm2
    refine VR.nil ?_
    repeat (first | refine VC.seq ?_ | refine VC.block ?_ | refine VC.skip ?_)
    refine VC.region ?_
    refine VR.pure rfl rfl (p_moveL rfl) ?_
    refine VR.pure rfl rfl (p_moveI rfl) ?_
    refine VR.call rfl rfl (r_call2 Try.call24 rfl rfl) (ref_active_c hm2 hn3 hr h30) ?_
    rintro _ w ⟨G, A8, c8, zs, rfl, hu, hz, hzm, hm2⟩
    refine VR.pure rfl rfl (p_assignL rfl) ?_
    refine VR.nil ?_
    have hxe : xs.map En.abs = zs.map En.abs := by rw [hmapx, hzm, hls.abs]
    have hye : ys.map En.abs = zs.map En.abs := by rw [hmapy, hzm, hls.abs]
    have small : ∀ (ts : List En) (bt : List Blks), Owns ts bt → ts.map En.abs = zs.map En.abs → ∀ e ∈ ts, e.n ≤ 1000000000000 := fun ts bt how hte e he => by
      have h1 : e.abs ∈ (es.map En.abs) := by
        have : e.abs ∈ ts.map En.abs := List.mem_map.2 ⟨e, he, rfl⟩
        rw [hte, hzm] at this
        exact List.mem_of_mem_drop this
      obtain ⟨e', he', heq⟩ := List.mem_map.1 h1
      have h2 : e'.ms = e.ms := (Prod.mk.inj heq).2
      have h3 := how.cnt e he
      have h4 := hems e' he'
      have h5 := h30 e' he'
      rw [← h3, ← h2, h4]
      omega
    have hsx := small xs bx hownx hxe
    have hsy := small ys byy howny hye
    have hrx : ∀ (E : Nat → Option Obj), (∀ p ∈ Lx, E p.1 = some p.2) → (∀ L ∈ bx, ∀ p ∈ L, E p.1 = some p.2) → ERow E A6 xs.length xs := fun E h1 h2 => ⟨hox.row h1, hownx.each h2⟩
    have hry : ∀ (E : Nat → Option Obj), (∀ p ∈ Ly, E p.1 = some p.2) → (∀ L ∈ byy, ∀ p ∈ L, E p.1 = some p.2) → ERow E A7 ys.length ys := fun E h1 h2 => ⟨hoy.row h1, howny.each h2⟩
    have hs1 := same_ensembles_c (c := c6) (d := c8) hm2.all (by unfold maxLen; omega) (hrx _ (hm2.plus_mem (List.mem_append_right _ (.head _))) fun L hL => hm2.plus_mem (List.mem_append_right _ (.tail _ (List.mem_append_left _ hL)))) (hz.mono hm2.le)
    repeat (first | refine VC.seq ?_ | refine VC.block ?_ | refine VC.skip ?_)
    refine VC.region ?_
    refine VR.pure rfl rfl (p_moveL rfl) ?_
    refine VR.pure rfl rfl (p_moveL rfl) ?_
    refine VR.call rfl rfl (r_call2 Try.call25 rfl rfl) (hs1) ?_
    rintro _ w ⟨rfl, hm'⟩
    replace hm2 := hm2.back0 hm'
    refine VR.pure rfl rfl (p_moveB rfl) ?_
    refine VR.knownT 32 rfl (decide_eq_true hxe) ?_
    refine VR.pureG rfl rfl (p_moveL rfl) ?_
    refine VR.pureG rfl rfl (p_moveL rfl) ?_
    have hs2 := same_ensembles_c (c := c7) (d := c8) hm2.all (by unfold maxLen; omega) (hry _ (hm2.plus_mem (List.mem_append_left _ (.head _))) fun L hL => hm2.plus_mem (List.mem_append_left _ (.tail _ (List.mem_append_left _ hL)))) (hz.mono hm2.le)
    refine VR.callG rfl rfl (r_call2 Try.call25 rfl rfl) (hs2) ?_
    rintro _ w ⟨rfl, hm'⟩
    replace hm2 := hm2.back0 hm'
    refine VR.pure rfl rfl (p_pickT rfl rfl) ?_
    refine VR.pure rfl rfl (p_moveB rfl) ?_
    refine VR.knownT 37 rfl (decide_eq_true hye) ?_
    refine VR.pureG rfl rfl (p_moveL rfl) ?_
    refine VR.pureG rfl rfl (p_moveL rfl) ?_
    refine VR.newG hm2 rfl rfl (n_buildSlice1 (vs := [.slice _ _ _, .slice _ _ _]) Try.underlying45 inf33 rfl rfl rfl rfl rfl rfl rfl) ?_
    intro b11 w hm2
    obtain ⟨G1, hu1, hm3, hG1⟩ := hm2.freeze
    have hap := apart_ens_c (d := 2) (its := [⟨A6, xs.length, c6⟩, ⟨A7, ys.length, c7⟩]) (ess := [xs, ys]) (hm3.permF (two_perm _ _ _ _)) (O := some ⟨b11, 0, none⟩) (m := 2) (Row.lit (cs := [.slice A6 xs.length c6, .slice A7 ys.length c7]) (hG1 _ (.head _))) (by omega) rfl (sz2 (by show xs.length ≤ 1000; omega) (by show ys.length ≤ 1000; omega)) (ens2 hox hoy) (by simpa using (hownx.all hsx).app (howny.all hsy))
    refine VR.callG rfl rfl (r_call1 Try.call19 rfl) (hap) ?_
    rintro _ w ⟨rfl, hm3⟩
    refine VR.pure rfl rfl (p_pickT rfl rfl) ?_
    refine VR.pure rfl rfl (p_moveB rfl) ?_
    refine VR.knownT 43 rfl rfl ?_
    refine VR.callG rfl rfl (r_call0 Try.call9) (awake_c hm3) ?_
    rintro _ w ⟨rfl, hm3⟩
    refine VR.pure rfl rfl (p_pickT rfl rfl) ?_
    refine VR.pure rfl rfl (p_assignB rfl) ?_
    refine VR.nil ?_
    repeat (first | refine VC.seq ?_ | refine VC.block ?_ | refine VC.skip ?_)
    refine VC.ret ⟨_, ResOf.r1 (v := .bool _) rfl rfl, ?_⟩
    exact ⟨rfl, hm3.shrink (hu.trans hu1)⟩
end Go.Bd
namespace Go.Proofs.Ytinddgigjecofaa
open Go.Bd Go.ChangeShapes Go.WideShapes

set_option maxRecDepth 100000 in
theorem binds_lifted (os : Os) (started : os.Started) (H : Type) (enc : TypeId × Value → H) :
    ReturnsInHanded {} Try.checked os 4 .any (Rows.reformBindsSpec.pre6 enc Try.prog Try.f4 Rows.reformBindsRow.domain false) (Rows.reformBindsSpec.post enc Try.prog Try.f4 false true false false) := by
  refine law_frame (C := Try.checked) (tb := 4) (by kernel_rfl) (by kernel_rfl) started (by kernel_rfl) Try.func4 rfl rfl Try.underlying4 (by kernel_rfl) ?_
    (ChangeSpec.witness6 (enc := enc) (C := Try.checked) false ⟨#[], #[.slice none 0 0, .int .i64 0], []⟩ 8 (by kernel_rfl) (by kernel_rfl) (by kernel_rfl) (by kernel_rfl)) ?_
  · intro ds hl
    match ds, hl with
    | [d1, d2], _ => rfl
  · intro W base args ds p hval hA hwt
    replace hA : DataW.TrodAll enc Try.prog W 0 (fun _ => true) true Try.f4.params.toList args.toList ds p := hA
    rw [Try.params4] at hA hval
    replace hwt : (DataW.weightsEach Try.prog [33, 22] ds).all (· ≤ reachBytes) = true := hwt
    obtain ⟨v0, vs0, d0, ds0, p0, q0, hargs, rfl, rfl, h0, r0⟩ := trodAll_cons hA
    obtain ⟨v1, vs1, d1, ds1, p1, q1, rfl, rfl, rfl, h1, r1⟩ := trodAll_cons r0
    obtain ⟨rfl, rfl, rfl⟩ := trodAll_nil r1
    obtain rfl : args = #[v0, v1] := by cases args; simp_all
    obtain ⟨a1, rfl, _, _, w1⟩ := open_int Try.underlying22 (hval 1 22 v1 rfl rfl) h1
    obtain ⟨A0, n0, c0, es, rfl, hn0, hc0, hc32, hr0, he0⟩ := open_enss (hval 0 33 v0 rfl rfl) h0 (LightAll.cons hwt).1
    exact reform_binds_c (Mem.of W) ⟨hn0, hc0⟩ hc32 hr0 he0

theorem binds : Rows.ReformBindsSaid :=
  OpenClaim.holds_of_wide 4 Try.f4 rfl rfl rfl rfl rfl rfl rfl ⟨rfl, rfl, rfl, rfl, rfl⟩ rfl rfl rfl rfl rfl (by kernel_rfl) Try.func4 (by kernel_rfl)
    (of_decide_eq_true (by kernel_rfl)) (by unfold Func.isWrapper; rw [if_neg (of_decide_eq_false (by kernel_rfl))]; exact ⟨rfl, rfl⟩)
    (fun os started H enc _ => binds_lifted os started H enc)
end Go.Proofs.Ytinddgigjecofaa
