/- Contracts of layer 22: what binds. Conditions: as each states. -/
import Derived.Test.Ytinddgigjecofaa22a
namespace Go.Bd
open Go.Proofs
set_option linter.unusedVariables false

/-- A config as it lies: its version, and the slice of its members. -/
structure En where
  ver : Int
  A : Option Addr
  n : Nat
  c : Nat
  ms : List Mb
def En.cells (e : En) : List Value := [.int .i64 e.ver, .slice e.A e.n e.c]
theorem En.len (e : En) : e.cells.length = 2 := rfl
def En.abs (e : En) : Int × List Mb := (e.ver, e.ms)
def EnOk (H : Nat → Option Obj) (e : En) : Prop := MRow H e.A e.n e.ms ∧ e.n ≤ e.c ∧ e.c ≤ maxLen
theorem EnOk.mono {H K : Nat → Option Obj} {e : En} (h : EnOk H e) (hle : ∀ b o, H b = some o → K b = some o) : EnOk K e := ⟨h.1.mono hle, h.2⟩
abbrev ecells (es : List En) : List Value := es.flatMap En.cells
/-- A row of configs that can be read. -/
structure ERow (H : Nat → Option Obj) (A : Option Addr) (n : Nat) (es : List En) : Prop where
  row : Row H A (n * 2) (ecells es)
  each : ∀ e ∈ es, EnOk H e
theorem ERow.len {H : Nat → Option Obj} {A : Option Addr} {n : Nat} {es : List En} (h : ERow H A n es) : es.length = n := Row.count En.len (by decide) h.row
theorem ERow.mono {H K : Nat → Option Obj} {A : Option Addr} {n : Nat} {es : List En} (h : ERow H A n es) (hle : ∀ b o, H b = some o → K b = some o) : ERow K A n es :=
  ⟨h.row.mono hle, fun e he => (h.each e he).mono hle⟩
theorem ERow.le {F G : Env} {A : Option Addr} {n : Nat} {es : List En} (h : ERow F.heap A n es) (hle : F.le G) : ERow G.heap A n es := h.mono hle
theorem ecells_one (es : List En) : ∀ u ∈ ecells es, u.oneCell' = true := by
  intro u hu
  obtain ⟨m, _, hm⟩ := List.mem_flatMap.1 hu
  simp only [En.cells, List.mem_cons, List.not_mem_nil, or_false] at hm
  rcases hm with rfl | rfl <;> rfl

/-- Configs with members in memory of their own: the blocks, one for each. -/
inductive Owns : List En → List Blks → Prop
  | nil : Owns [] []
  | snoc {es bs e L} : Owns es bs → OwnS 65 4 e.A e.n e.c (mcells e.ms) L → Owns (es ++ [e]) (bs ++ [L])
theorem Owns.each {es : List En} {bs : List Blks} (h : Owns es bs) {H : Nat → Option Obj} (hH : ∀ L ∈ bs, ∀ p ∈ L, H p.1 = some p.2) : ∀ e ∈ es, EnOk H e := by
  induction h with
  | nil => intro e he; simp at he
  | snoc h ho ih =>
    intro e he
    rcases List.mem_append.1 he with he | he
    · exact ih (fun L hL => hH L (by simp [hL])) e he
    · simp only [List.mem_singleton] at he
      subst he
      exact ⟨ho.row (hH _ (by simp)), ho.le⟩

/-- From which one on the configs bind. -/
def fromOf (es : List (Int × List Mb)) (committed : Int) : Nat :=
  match es.getLast? with
  | some e => if e.1 ≤ committed then es.length - 1 else es.length - 2
  | none => 0

theorem last_at {α : Type} {es : List α} (h : 0 < es.length) : ∃ e, es[es.length - 1]? = some e ∧ es.getLast? = some e := by
  refine ⟨es[es.length - 1], List.getElem?_eq_getElem (by omega), ?_⟩
  rw [List.getLast?_eq_getElem?, List.getElem?_eq_getElem (by omega)]

set_option maxHeartbeats 4000000 in
theorem active_c {F : Env} {w : World} {Ls : List Blks} {A : Option Addr} {n c : Nat} {es : List En} {committed : Int} (hm : Mem F w Ls) (hnc : n ≤ c ∧ c ≤ maxLen) (hr : ERow F.heap A n es) (hsmall : ∀ e ∈ es, e.n * 32 ≤ 140737488355328) :
    Calls Try.prog 21 #[.slice A n c, .int .i64 committed] w
      (Ret fun v w' => ∃ A' c' outs L bs, v = .slice A' outs.length c' ∧ OwnS 25 2 A' outs.length c' (ecells outs) L ∧ Owns outs bs ∧ outs.map En.abs = (es.map En.abs).drop (fromOf (es.map En.abs) committed) ∧
        outs.length ≤ 2 ∧ Mem F w' (L :: (bs ++ Ls))) := by
  have hl := hr.len
  have hc2 := hnc.2
  unfold maxLen at hc2
  refine Calls.of_vc Try.func21 rfl Try.ntmps21 rfl ?_
  repeat (first | refine VC.seq ?_ | refine VC.block ?_ | refine VC.skip ?_)
  refine VC.region ?_
  refine VR.pure rfl rfl (p_assignL rfl) ?_
  refine VR.nil ?_
  repeat (first | refine VC.seq ?_ | refine VC.block ?_ | refine VC.skip ?_)
  refine VC.region ?_
  refine VR.pure rfl rfl (p_moveL rfl) ?_
  refine VR.pure rfl rfl (p_len Try.underlying33 rfl) ?_
  refine VR.pure rfl rfl (p_assignI rfl) ?_
  refine VR.nil ?_
  repeat (first | refine VC.seq ?_ | refine VC.block ?_ | refine VC.skip ?_)
  refine VC.region ?_
  refine VR.pure rfl rfl (p_moveI rfl) ?_
  refine VR.pure rfl rfl (p_sub64 rfl rfl (by omega)) ?_
  refine VR.pure rfl rfl (p_max rfl rfl) ?_
  refine VR.pure rfl rfl (p_assignI rfl) ?_
  refine VR.nil ?_
  have hfl : 0 < es.length → ∃ e, es[es.length - 1]? = some e ∧ fromOf (es.map En.abs) committed = if e.ver ≤ committed then es.length - 1 else es.length - 2 := fun h => by
    obtain ⟨e, h1, h2⟩ := last_at h
    refine ⟨e, h1, ?_⟩
    unfold fromOf
    rw [List.getLast?_map, h2, List.length_map]
    rfl
  by_cases hn0 : 0 < n
  · obtain ⟨e, he, hfe⟩ := hfl (by omega)
    rw [hl] at he hfe
    obtain ⟨b, off, blk, T, fr, rfl, hb, hcc⟩ := hr.row.elem En.len (by decide) hn0
    repeat (first | refine VC.seq ?_ | refine VC.block ?_ | refine VC.skip ?_)
    refine VC.region ?_
    refine VR.pure rfl rfl (p_moveI rfl) ?_
    refine VR.pure rfl rfl (p_gt rfl rfl) ?_
    refine VR.pure rfl rfl (p_moveB rfl) ?_
    refine VR.knownT 17 rfl (decide_eq_true (by omega)) ?_
    refine VR.pureG rfl rfl (p_moveL rfl) ?_
    refine VR.pureG rfl rfl (p_moveI rfl) ?_
    refine VR.pureG rfl rfl (p_sub64E (r := ((n - 1 : Nat) : Int)) rfl rfl (by omega) (by omega)) ?_
    refine VR.pureG rfl rfl (p_idxN Try.underlying33 Try.sizeOf25 rfl rfl (Nat.sub_lt hn0 Nat.one_pos)) ?_
    refine VR.pureG rfl rfl (p_field (fo := 0) Try.underlying25 rfl Try.sizeOf22 rfl rfl rfl) ?_
    refine VR.valG rfl rfl (r_load (v := .int _ _) Try.isAgg22 rfl (hm.fix _ _ hb) (hcc (n - 1) e he 0 (by omega))) ?_
    refine VR.pureG rfl rfl (p_moveI rfl) ?_
    refine VR.pureG rfl rfl (p_le rfl rfl) ?_
    refine VR.pure rfl rfl (p_pickT rfl rfl) ?_
    refine VR.nil ?_
    repeat (first | refine VC.seq ?_ | refine VC.block ?_ | refine VC.skip ?_)
    refine VC.condD rfl (fun h4 => ?_) (fun h4 => ?_)
    · rw [if_pos h4] at hfe
      repeat (first | refine VC.seq ?_ | refine VC.block ?_ | refine VC.skip ?_)
      refine VC.region ?_
      refine VR.pure rfl rfl (p_moveI rfl) ?_
      refine VR.pure rfl rfl (p_sub64E (r := ((n - 1 : Nat) : Int)) rfl rfl (by omega) (by omega)) ?_
      refine VR.pure rfl rfl (p_assignI rfl) ?_
      refine VR.nil ?_
      generalize hfr : n - 1 = fr0 at hfe
      have hfrom := hfe
      have hq2 : n - fr0 ≤ 2 := by omega
      have hle0 : fr0 ≤ n := by omega
      obtain ⟨A33, hA33, hr33⟩ := hr.row.dropE (l := fr0) (c := n) (by omega) (Nat.le_refl n)
      have hlen33 : (es.drop fr0).length = n - fr0 := by rw [List.length_drop, hl]
      have hd33 : (ecells es).drop (fr0 * 2) = ecells (es.drop fr0) := by
        have h1 : ecells es = ecells (es.take fr0) ++ ecells (es.drop fr0) := by
          show es.flatMap En.cells = (es.take fr0).flatMap En.cells ++ (es.drop fr0).flatMap En.cells
          rw [← List.flatMap_append, List.take_append_drop]
        rw [h1, List.drop_left' (by rw [flat_len En.len, List.length_take, hl, Nat.min_eq_left (by omega)])]
      rw [hd33] at hr33
      have hfin : ∀ k, n - fr0 ≤ k → (es.drop fr0).take k = es.drop fr0 := fun k hk => List.take_of_length_le (by omega)
      have hsub : ∀ e ∈ es.drop fr0, e ∈ es := fun e he => List.mem_of_mem_drop he
      generalize hds : es.drop fr0 = ds at hr33 hlen33 hfin hsub
      have hgoal : ds.map En.abs = (es.map En.abs).drop (fromOf (es.map En.abs) committed) := by
        rw [← hds, hfrom, List.map_drop]
      generalize hq : n - fr0 = q at hr33 hlen33 hfin hq2
      repeat (first | refine VC.seq ?_ | refine VC.block ?_ | refine VC.skip ?_)
      refine VC.region ?_
      refine VR.pure rfl rfl (p_assignL rfl) ?_
      refine VR.nil ?_
      repeat (first | refine VC.seq ?_ | refine VC.block ?_ | refine VC.skip ?_)
      refine VC.region ?_
      refine VR.pure rfl rfl (p_moveL rfl) ?_
      refine VR.pure rfl rfl (p_moveI rfl) ?_
      refine VR.pure rfl rfl (p_moveI rfl) ?_
      refine VR.pure rfl rfl (p_moveI rfl) ?_
      refine VR.pure rfl rfl (p_slice3E Try.underlying33 Try.sizeOf25 rfl rfl rfl rfl (by omega) hA33 hq hq) ?_
      refine VR.pure rfl rfl (p_len Try.underlying33 rfl) ?_
      refine VR.pure rfl rfl (p_moveI rfl) ?_
      refine VR.nil ?_
      repeat (first | refine VC.seq ?_ | refine VC.block ?_ | refine VC.skip ?_)
      refine VC.loop (σ := Nat × Option Addr × Nat × List En × Blks × List Blks) (fun s => [(7, .slice s.2.1 s.1 s.2.2.1), (33, .slice A33 q q), (34, .int .i64 q), (35, .int .i64 s.1)])
        (fun s w => Mem F w (s.2.2.2.2.1 :: (s.2.2.2.2.2 ++ Ls)) ∧ s.1 ≤ q ∧ s.2.2.2.1.length = s.1 ∧ OwnS 25 2 s.2.1 s.1 s.2.2.1 (ecells s.2.2.2.1) s.2.2.2.2.1 ∧ Owns s.2.2.2.1 s.2.2.2.2.2 ∧ s.2.2.2.1.map En.abs = (ds.take s.1).map En.abs)
        (fun s => q - s.1) (0, none, 0, [], [], []) ⟨rfl, rfl, rfl, rfl, trivial⟩ ⟨hm.nil_, by omega, rfl, OwnS.nil _ _, Owns.nil, rfl⟩ ?_
      rintro ⟨k, A7, c7, outs, L, bs⟩ A' w ⟨hm, hk, hol, ho, hown, hmap⟩
      dsimp only at hm hk hol ho hown hmap ⊢
      repeat (first | refine VC.seq ?_ | refine VC.block ?_ | refine VC.skip ?_)
      refine VC.region ?_
      refine VR.pure rfl rfl (p_lt rfl rfl) ?_
      refine VR.nil ?_
      repeat (first | refine VC.seq ?_ | refine VC.block ?_ | refine VC.skip ?_)
      refine VC.condD rfl (fun h7 => ?_) (fun h7 => ?_)
      · have hk' : k < q := by omega
        obtain ⟨e, hek⟩ : ∃ e, ds[k]? = some e := ⟨ds[k], List.getElem?_eq_getElem (by omega)⟩
        have heok := hr.each e (hsub e (List.mem_of_getElem? hek))
        have hes := hsmall e (hsub e (List.mem_of_getElem? hek))
        obtain ⟨b, off, blk, T, fr, rfl, hb, hcc⟩ := hr33.elem En.len (by decide) (by omega)
        repeat (first | refine VC.seq ?_ | refine VC.block ?_ | refine VC.skip ?_)
        refine VC.region ?_
        refine VR.pure rfl rfl (p_idxN Try.underlying33 Try.sizeOf25 rfl rfl hk') ?_
        refine VR.val rfl rfl (r_loadAgg (vs := [.int _ _, .slice _ _ _]) Try.isAgg25 Try.sizeOf25 rfl (hm.fix _ _ hb) rfl (hcc k e hek)) ?_
        refine VR.new hm rfl rfl (n_allocG Try.zeroValue25) ?_
        intro b9 w hm
        refine VR.store (cs' := #[.int .i64 e.ver, .slice e.A e.n e.c]) (v := .agg _) Try.sizeOf25 rfl rfl rfl rfl rfl hm 0 0 rfl (Nat.ble_eq.mp rfl) rfl ?_
        intro w hm
        refine VR.nil ?_
        repeat (first | refine VC.seq ?_ | refine VC.block ?_ | refine VC.skip ?_)
        refine VC.region ?_
        refine VR.pure rfl rfl (p_field (fo := 1) Try.underlying25 rfl Try.sizeOf23 rfl rfl rfl) ?_
        refine VR.val rfl rfl (r_load (v := .slice _ _ _) Try.isAgg23 rfl (hm.at_ 0 0 rfl) rfl) ?_
        refine VR.call rfl rfl (r_call1 Try.call34 rfl) (clone_c hm hes heok.1) ?_
        rintro _ w ⟨A1, c1, L1, rfl, ho1, hm⟩
        refine VR.pure rfl rfl (p_field (fo := 1) Try.underlying25 rfl Try.sizeOf23 rfl rfl rfl) ?_
        refine VR.store (cs' := #[.int .i64 e.ver, .slice A1 e.n c1]) (v := .slice _ _ _) Try.sizeOf23 rfl rfl rfl rfl rfl hm 1 0 rfl (Nat.ble_eq.mp rfl) rfl ?_
        intro w hm
        refine VR.nil ?_
        replace hm : Mem F w (L1 :: [(b9, .cells #[.int .i64 e.ver, .slice A1 e.n c1] 25 (0, 0))] :: L :: (bs ++ Ls)) := hm
        replace hm : Mem F w ([(b9, .cells #[.int .i64 e.ver, .slice A1 e.n c1] 25 (0, 0))] :: L :: ((bs ++ [L1]) ++ Ls)) := hm.permF (by
          simp only [List.flatten_cons, List.flatten_append, List.flatten_nil, List.append_nil, List.append_assoc]
          have e1 : ∀ (a b c d f : Blks), (a ++ (b ++ (c ++ (d ++ f)))).Perm (b ++ (c ++ (d ++ (a ++ f)))) := fun a b c d f => by
            have := (List.perm_append_comm (l₁ := a) (l₂ := b ++ (c ++ d))).append_right f
            simpa only [List.append_assoc] using this
          exact e1 _ _ _ _ _)
        repeat (first | refine VC.seq ?_ | refine VC.block ?_ | refine VC.skip ?_)
        refine VC.region ?_
        refine VR.pure rfl rfl (p_moveL rfl) ?_
        refine VR.val rfl rfl (r_loadAgg (vs := [.int _ _, .slice _ _ _]) Try.isAgg25 Try.sizeOf25 rfl (hm.at_ 0 0 rfl) rfl (agg_at rfl)) ?_
        refine VR.new hm rfl rfl (n_buildSlice (vs := [.agg _]) Try.underlying33 inf25 rfl rfl rfl rfl rfl rfl) ?_
        intro g w hm
        replace hm := hm.pop2'
        refine VR.append (s := 2) (bytes := 32) Try.underlying33 inf25 rfl rfl rfl rfl rfl rfl rfl rfl rfl hm ho (Row.lit (cs := [.int .i64 e.ver, .slice A1 e.n c1]) (hm.at_ 1 0 rfl)) (by simp [Value.oneCell']) rfl ⟨by unfold maxLen; omega, by omega⟩ ?_
        intro A8 c8 w L8 ho8 hm
        refine VR.pure rfl rfl (p_assignL rfl) ?_
        refine VR.nil ?_
        repeat (first | refine VC.seq ?_ | refine VC.block ?_ | refine VC.skip ?_)
        refine VC.region ?_
        refine VR.pure rfl rfl (p_add64 rfl rfl (by omega)) ?_
        refine VR.pure rfl rfl (p_moveI rfl) ?_
        refine VR.nil ?_
        refine ⟨(k + 1, A8, c8, outs ++ [⟨e.ver, A1, e.n, c1, e.ms⟩], L8, bs ++ [L1]), ⟨rfl, rfl, rfl, rfl, trivial⟩, ⟨hm.pop2, by simp only; omega, by simp [hol], ?_, Owns.snoc hown ho1, ?_⟩, by simp only; omega⟩
        · show OwnS _ 2 A8 (k + 1) c8 (ecells (outs ++ [_])) L8
          have e2 : ecells (outs ++ [⟨e.ver, A1, e.n, c1, e.ms⟩]) = ecells outs ++ [.int .i64 e.ver, .slice A1 e.n c1] := by
            show (outs ++ [_]).flatMap En.cells = outs.flatMap En.cells ++ _
            rw [List.flatMap_append]
            rfl
          rw [e2]
          exact ho8
        · dsimp only
          rw [List.map_append, hmap, List.take_add_one, hek, List.map_append]
          rfl
      · repeat (first | refine VC.seq ?_ | refine VC.block ?_ | refine VC.skip ?_)
        refine VC.exit ?_
        have hkq : k = q := by omega
        subst hkq
        repeat (first | refine VC.seq ?_ | refine VC.block ?_ | refine VC.skip ?_)
        refine VC.region ?_
        refine VR.pure rfl rfl (p_moveL rfl) ?_
        refine VR.pure rfl rfl (p_assignL rfl) ?_
        refine VR.nil ?_
        repeat (first | refine VC.seq ?_ | refine VC.block ?_ | refine VC.skip ?_)
        refine VC.ret ⟨_, ResOf.r1 (v := .slice _ _ _) rfl rfl, ?_⟩
        subst hol
        rw [hfin _ (Nat.le_refl _), hgoal] at hmap
        exact ⟨A7, c7, outs, L, bs, rfl, ho, hown, hmap, hq2, hm⟩
    · rw [if_neg h4] at hfe
      have e0 : max ((n : Int) - 2) 0 = ((n - 2 : Nat) : Int) := by omega
      generalize hfr : n - 2 = fr0 at hfe e0
      have hfrom := hfe
      have hq2 : n - fr0 ≤ 2 := by omega
      have hle0 : fr0 ≤ n := by omega
      repeat (first | refine VC.seq ?_ | refine VC.block ?_ | refine VC.skip ?_)
      skip
      rw [e0]
      obtain ⟨A33, hA33, hr33⟩ := hr.row.dropE (l := fr0) (c := n) (by omega) (Nat.le_refl n)
      have hlen33 : (es.drop fr0).length = n - fr0 := by rw [List.length_drop, hl]
      have hd33 : (ecells es).drop (fr0 * 2) = ecells (es.drop fr0) := by
        have h1 : ecells es = ecells (es.take fr0) ++ ecells (es.drop fr0) := by
          show es.flatMap En.cells = (es.take fr0).flatMap En.cells ++ (es.drop fr0).flatMap En.cells
          rw [← List.flatMap_append, List.take_append_drop]
        rw [h1, List.drop_left' (by rw [flat_len En.len, List.length_take, hl, Nat.min_eq_left (by omega)])]
      rw [hd33] at hr33
      have hfin : ∀ k, n - fr0 ≤ k → (es.drop fr0).take k = es.drop fr0 := fun k hk => List.take_of_length_le (by omega)
      have hsub : ∀ e ∈ es.drop fr0, e ∈ es := fun e he => List.mem_of_mem_drop he
      generalize hds : es.drop fr0 = ds at hr33 hlen33 hfin hsub
      have hgoal : ds.map En.abs = (es.map En.abs).drop (fromOf (es.map En.abs) committed) := by
        rw [← hds, hfrom, List.map_drop]
      generalize hq : n - fr0 = q at hr33 hlen33 hfin hq2
      repeat (first | refine VC.seq ?_ | refine VC.block ?_ | refine VC.skip ?_)
      refine VC.region ?_
      refine VR.pure rfl rfl (p_assignL rfl) ?_
      refine VR.nil ?_
      repeat (first | refine VC.seq ?_ | refine VC.block ?_ | refine VC.skip ?_)
      refine VC.region ?_
      refine VR.pure rfl rfl (p_moveL rfl) ?_
      refine VR.pure rfl rfl (p_moveI rfl) ?_
      refine VR.pure rfl rfl (p_moveI rfl) ?_
      refine VR.pure rfl rfl (p_moveI rfl) ?_
      refine VR.pure rfl rfl (p_slice3E Try.underlying33 Try.sizeOf25 rfl rfl rfl rfl (by omega) hA33 hq hq) ?_
      refine VR.pure rfl rfl (p_len Try.underlying33 rfl) ?_
      refine VR.pure rfl rfl (p_moveI rfl) ?_
      refine VR.nil ?_
      repeat (first | refine VC.seq ?_ | refine VC.block ?_ | refine VC.skip ?_)
      refine VC.loop (σ := Nat × Option Addr × Nat × List En × Blks × List Blks) (fun s => [(7, .slice s.2.1 s.1 s.2.2.1), (33, .slice A33 q q), (34, .int .i64 q), (35, .int .i64 s.1)])
        (fun s w => Mem F w (s.2.2.2.2.1 :: (s.2.2.2.2.2 ++ Ls)) ∧ s.1 ≤ q ∧ s.2.2.2.1.length = s.1 ∧ OwnS 25 2 s.2.1 s.1 s.2.2.1 (ecells s.2.2.2.1) s.2.2.2.2.1 ∧ Owns s.2.2.2.1 s.2.2.2.2.2 ∧ s.2.2.2.1.map En.abs = (ds.take s.1).map En.abs)
        (fun s => q - s.1) (0, none, 0, [], [], []) ⟨rfl, rfl, rfl, rfl, trivial⟩ ⟨hm.nil_, by omega, rfl, OwnS.nil _ _, Owns.nil, rfl⟩ ?_
      rintro ⟨k, A7, c7, outs, L, bs⟩ A' w ⟨hm, hk, hol, ho, hown, hmap⟩
      dsimp only at hm hk hol ho hown hmap ⊢
      repeat (first | refine VC.seq ?_ | refine VC.block ?_ | refine VC.skip ?_)
      refine VC.region ?_
      refine VR.pure rfl rfl (p_lt rfl rfl) ?_
      refine VR.nil ?_
      repeat (first | refine VC.seq ?_ | refine VC.block ?_ | refine VC.skip ?_)
      refine VC.condD rfl (fun h7 => ?_) (fun h7 => ?_)
      · have hk' : k < q := by omega
        obtain ⟨e, hek⟩ : ∃ e, ds[k]? = some e := ⟨ds[k], List.getElem?_eq_getElem (by omega)⟩
        have heok := hr.each e (hsub e (List.mem_of_getElem? hek))
        have hes := hsmall e (hsub e (List.mem_of_getElem? hek))
        obtain ⟨b, off, blk, T, fr, rfl, hb, hcc⟩ := hr33.elem En.len (by decide) (by omega)
        repeat (first | refine VC.seq ?_ | refine VC.block ?_ | refine VC.skip ?_)
        refine VC.region ?_
        refine VR.pure rfl rfl (p_idxN Try.underlying33 Try.sizeOf25 rfl rfl hk') ?_
        refine VR.val rfl rfl (r_loadAgg (vs := [.int _ _, .slice _ _ _]) Try.isAgg25 Try.sizeOf25 rfl (hm.fix _ _ hb) rfl (hcc k e hek)) ?_
        refine VR.new hm rfl rfl (n_allocG Try.zeroValue25) ?_
        intro b9 w hm
        refine VR.store (cs' := #[.int .i64 e.ver, .slice e.A e.n e.c]) (v := .agg _) Try.sizeOf25 rfl rfl rfl rfl rfl hm 0 0 rfl (Nat.ble_eq.mp rfl) rfl ?_
        intro w hm
        refine VR.nil ?_
        repeat (first | refine VC.seq ?_ | refine VC.block ?_ | refine VC.skip ?_)
        refine VC.region ?_
        refine VR.pure rfl rfl (p_field (fo := 1) Try.underlying25 rfl Try.sizeOf23 rfl rfl rfl) ?_
        refine VR.val rfl rfl (r_load (v := .slice _ _ _) Try.isAgg23 rfl (hm.at_ 0 0 rfl) rfl) ?_
        refine VR.call rfl rfl (r_call1 Try.call34 rfl) (clone_c hm hes heok.1) ?_
        rintro _ w ⟨A1, c1, L1, rfl, ho1, hm⟩
        refine VR.pure rfl rfl (p_field (fo := 1) Try.underlying25 rfl Try.sizeOf23 rfl rfl rfl) ?_
        refine VR.store (cs' := #[.int .i64 e.ver, .slice A1 e.n c1]) (v := .slice _ _ _) Try.sizeOf23 rfl rfl rfl rfl rfl hm 1 0 rfl (Nat.ble_eq.mp rfl) rfl ?_
        intro w hm
        refine VR.nil ?_
        replace hm : Mem F w (L1 :: [(b9, .cells #[.int .i64 e.ver, .slice A1 e.n c1] 25 (0, 0))] :: L :: (bs ++ Ls)) := hm
        replace hm : Mem F w ([(b9, .cells #[.int .i64 e.ver, .slice A1 e.n c1] 25 (0, 0))] :: L :: ((bs ++ [L1]) ++ Ls)) := hm.permF (by
          simp only [List.flatten_cons, List.flatten_append, List.flatten_nil, List.append_nil, List.append_assoc]
          have e1 : ∀ (a b c d f : Blks), (a ++ (b ++ (c ++ (d ++ f)))).Perm (b ++ (c ++ (d ++ (a ++ f)))) := fun a b c d f => by
            have := (List.perm_append_comm (l₁ := a) (l₂ := b ++ (c ++ d))).append_right f
            simpa only [List.append_assoc] using this
          exact e1 _ _ _ _ _)
        repeat (first | refine VC.seq ?_ | refine VC.block ?_ | refine VC.skip ?_)
        refine VC.region ?_
        refine VR.pure rfl rfl (p_moveL rfl) ?_
        refine VR.val rfl rfl (r_loadAgg (vs := [.int _ _, .slice _ _ _]) Try.isAgg25 Try.sizeOf25 rfl (hm.at_ 0 0 rfl) rfl (agg_at rfl)) ?_
        refine VR.new hm rfl rfl (n_buildSlice (vs := [.agg _]) Try.underlying33 inf25 rfl rfl rfl rfl rfl rfl) ?_
        intro g w hm
        replace hm := hm.pop2'
        refine VR.append (s := 2) (bytes := 32) Try.underlying33 inf25 rfl rfl rfl rfl rfl rfl rfl rfl rfl hm ho (Row.lit (cs := [.int .i64 e.ver, .slice A1 e.n c1]) (hm.at_ 1 0 rfl)) (by simp [Value.oneCell']) rfl ⟨by unfold maxLen; omega, by omega⟩ ?_
        intro A8 c8 w L8 ho8 hm
        refine VR.pure rfl rfl (p_assignL rfl) ?_
        refine VR.nil ?_
        repeat (first | refine VC.seq ?_ | refine VC.block ?_ | refine VC.skip ?_)
        refine VC.region ?_
        refine VR.pure rfl rfl (p_add64 rfl rfl (by omega)) ?_
        refine VR.pure rfl rfl (p_moveI rfl) ?_
        refine VR.nil ?_
        refine ⟨(k + 1, A8, c8, outs ++ [⟨e.ver, A1, e.n, c1, e.ms⟩], L8, bs ++ [L1]), ⟨rfl, rfl, rfl, rfl, trivial⟩, ⟨hm.pop2, by simp only; omega, by simp [hol], ?_, Owns.snoc hown ho1, ?_⟩, by simp only; omega⟩
        · show OwnS _ 2 A8 (k + 1) c8 (ecells (outs ++ [_])) L8
          have e2 : ecells (outs ++ [⟨e.ver, A1, e.n, c1, e.ms⟩]) = ecells outs ++ [.int .i64 e.ver, .slice A1 e.n c1] := by
            show (outs ++ [_]).flatMap En.cells = outs.flatMap En.cells ++ _
            rw [List.flatMap_append]
            rfl
          rw [e2]
          exact ho8
        · dsimp only
          rw [List.map_append, hmap, List.take_add_one, hek, List.map_append]
          rfl
      · repeat (first | refine VC.seq ?_ | refine VC.block ?_ | refine VC.skip ?_)
        refine VC.exit ?_
        have hkq : k = q := by omega
        subst hkq
        repeat (first | refine VC.seq ?_ | refine VC.block ?_ | refine VC.skip ?_)
        refine VC.region ?_
        refine VR.pure rfl rfl (p_moveL rfl) ?_
        refine VR.pure rfl rfl (p_assignL rfl) ?_
        refine VR.nil ?_
        repeat (first | refine VC.seq ?_ | refine VC.block ?_ | refine VC.skip ?_)
        refine VC.ret ⟨_, ResOf.r1 (v := .slice _ _ _) rfl rfl, ?_⟩
        subst hol
        rw [hfin _ (Nat.le_refl _), hgoal] at hmap
        exact ⟨A7, c7, outs, L, bs, rfl, ho, hown, hmap, hq2, hm⟩
  · have hn00 : n = 0 := by omega
    have hes : es = [] := List.eq_nil_of_length_eq_zero (by omega)
    repeat (first | refine VC.seq ?_ | refine VC.block ?_ | refine VC.skip ?_)
    refine VC.region ?_
    refine VR.pure rfl rfl (p_moveI rfl) ?_
    refine VR.pure rfl rfl (p_gt rfl rfl) ?_
    refine VR.pure rfl rfl (p_moveB rfl) ?_
    refine VR.knownF 17 rfl (decide_eq_false (by omega)) ?_
    refine VR.pass rfl rfl ?_
    refine VR.pass rfl rfl ?_
    refine VR.pass rfl rfl ?_
    refine VR.pass rfl rfl ?_
    refine VR.pass rfl rfl ?_
    refine VR.pass rfl rfl ?_
    refine VR.pass rfl rfl ?_
    refine VR.pass rfl rfl ?_
    refine VR.pure rfl rfl (p_pickF rfl rfl) ?_
    refine VR.nil ?_
    repeat (first | refine VC.seq ?_ | refine VC.block ?_ | refine VC.skip ?_)
    refine VC.condF rfl rfl ?_
    obtain ⟨fr0, hfr⟩ : ∃ fr0 : Nat, fr0 = 0 := ⟨0, rfl⟩
    have hfrom : fromOf (es.map En.abs) committed = fr0 := by rw [hes, hfr]; rfl
    have hq2 : n - fr0 ≤ 2 := by omega
    have hle0 : fr0 ≤ n := by omega
    have e0 : max ((n : Int) - 2) 0 = ((fr0 : Nat) : Int) := by omega
    repeat (first | refine VC.seq ?_ | refine VC.block ?_ | refine VC.skip ?_)
    skip
    rw [e0]
    obtain ⟨A33, hA33, hr33⟩ := hr.row.dropE (l := fr0) (c := n) (by omega) (Nat.le_refl n)
    have hlen33 : (es.drop fr0).length = n - fr0 := by rw [List.length_drop, hl]
    have hd33 : (ecells es).drop (fr0 * 2) = ecells (es.drop fr0) := by
      have h1 : ecells es = ecells (es.take fr0) ++ ecells (es.drop fr0) := by
        show es.flatMap En.cells = (es.take fr0).flatMap En.cells ++ (es.drop fr0).flatMap En.cells
        rw [← List.flatMap_append, List.take_append_drop]
      rw [h1, List.drop_left' (by rw [flat_len En.len, List.length_take, hl, Nat.min_eq_left (by omega)])]
    rw [hd33] at hr33
    have hfin : ∀ k, n - fr0 ≤ k → (es.drop fr0).take k = es.drop fr0 := fun k hk => List.take_of_length_le (by omega)
    have hsub : ∀ e ∈ es.drop fr0, e ∈ es := fun e he => List.mem_of_mem_drop he
    generalize hds : es.drop fr0 = ds at hr33 hlen33 hfin hsub
    have hgoal : ds.map En.abs = (es.map En.abs).drop (fromOf (es.map En.abs) committed) := by
      rw [← hds, hfrom, List.map_drop]
    generalize hq : n - fr0 = q at hr33 hlen33 hfin hq2
    repeat (first | refine VC.seq ?_ | refine VC.block ?_ | refine VC.skip ?_)
    refine VC.region ?_
    refine VR.pure rfl rfl (p_assignL rfl) ?_
    refine VR.nil ?_
    repeat (first | refine VC.seq ?_ | refine VC.block ?_ | refine VC.skip ?_)
    refine VC.region ?_
    refine VR.pure rfl rfl (p_moveL rfl) ?_
    refine VR.pure rfl rfl (p_moveI rfl) ?_
    refine VR.pure rfl rfl (p_moveI rfl) ?_
    refine VR.pure rfl rfl (p_moveI rfl) ?_
    refine VR.pure rfl rfl (p_slice3E Try.underlying33 Try.sizeOf25 rfl rfl rfl rfl (by omega) hA33 hq hq) ?_
    refine VR.pure rfl rfl (p_len Try.underlying33 rfl) ?_
    refine VR.pure rfl rfl (p_moveI rfl) ?_
    refine VR.nil ?_
    repeat (first | refine VC.seq ?_ | refine VC.block ?_ | refine VC.skip ?_)
    refine VC.loop (σ := Nat × Option Addr × Nat × List En × Blks × List Blks) (fun s => [(7, .slice s.2.1 s.1 s.2.2.1), (33, .slice A33 q q), (34, .int .i64 q), (35, .int .i64 s.1)])
      (fun s w => Mem F w (s.2.2.2.2.1 :: (s.2.2.2.2.2 ++ Ls)) ∧ s.1 ≤ q ∧ s.2.2.2.1.length = s.1 ∧ OwnS 25 2 s.2.1 s.1 s.2.2.1 (ecells s.2.2.2.1) s.2.2.2.2.1 ∧ Owns s.2.2.2.1 s.2.2.2.2.2 ∧ s.2.2.2.1.map En.abs = (ds.take s.1).map En.abs)
      (fun s => q - s.1) (0, none, 0, [], [], []) ⟨rfl, rfl, rfl, rfl, trivial⟩ ⟨hm.nil_, by omega, rfl, OwnS.nil _ _, Owns.nil, rfl⟩ ?_
    rintro ⟨k, A7, c7, outs, L, bs⟩ A' w ⟨hm, hk, hol, ho, hown, hmap⟩
    dsimp only at hm hk hol ho hown hmap ⊢
    repeat (first | refine VC.seq ?_ | refine VC.block ?_ | refine VC.skip ?_)
    refine VC.region ?_
    refine VR.pure rfl rfl (p_lt rfl rfl) ?_
    refine VR.nil ?_
    repeat (first | refine VC.seq ?_ | refine VC.block ?_ | refine VC.skip ?_)
    refine VC.condD rfl (fun h7 => ?_) (fun h7 => ?_)
    · have hk' : k < q := by omega
      obtain ⟨e, hek⟩ : ∃ e, ds[k]? = some e := ⟨ds[k], List.getElem?_eq_getElem (by omega)⟩
      have heok := hr.each e (hsub e (List.mem_of_getElem? hek))
      have hes := hsmall e (hsub e (List.mem_of_getElem? hek))
      obtain ⟨b, off, blk, T, fr, rfl, hb, hcc⟩ := hr33.elem En.len (by decide) (by omega)
      repeat (first | refine VC.seq ?_ | refine VC.block ?_ | refine VC.skip ?_)
      refine VC.region ?_
      refine VR.pure rfl rfl (p_idxN Try.underlying33 Try.sizeOf25 rfl rfl hk') ?_
      refine VR.val rfl rfl (r_loadAgg (vs := [.int _ _, .slice _ _ _]) Try.isAgg25 Try.sizeOf25 rfl (hm.fix _ _ hb) rfl (hcc k e hek)) ?_
      refine VR.new hm rfl rfl (n_allocG Try.zeroValue25) ?_
      intro b9 w hm
      refine VR.store (cs' := #[.int .i64 e.ver, .slice e.A e.n e.c]) (v := .agg _) Try.sizeOf25 rfl rfl rfl rfl rfl hm 0 0 rfl (Nat.ble_eq.mp rfl) rfl ?_
      intro w hm
      refine VR.nil ?_
      repeat (first | refine VC.seq ?_ | refine VC.block ?_ | refine VC.skip ?_)
      refine VC.region ?_
      refine VR.pure rfl rfl (p_field (fo := 1) Try.underlying25 rfl Try.sizeOf23 rfl rfl rfl) ?_
      refine VR.val rfl rfl (r_load (v := .slice _ _ _) Try.isAgg23 rfl (hm.at_ 0 0 rfl) rfl) ?_
      refine VR.call rfl rfl (r_call1 Try.call34 rfl) (clone_c hm hes heok.1) ?_
      rintro _ w ⟨A1, c1, L1, rfl, ho1, hm⟩
      refine VR.pure rfl rfl (p_field (fo := 1) Try.underlying25 rfl Try.sizeOf23 rfl rfl rfl) ?_
      refine VR.store (cs' := #[.int .i64 e.ver, .slice A1 e.n c1]) (v := .slice _ _ _) Try.sizeOf23 rfl rfl rfl rfl rfl hm 1 0 rfl (Nat.ble_eq.mp rfl) rfl ?_
      intro w hm
      refine VR.nil ?_
      replace hm : Mem F w (L1 :: [(b9, .cells #[.int .i64 e.ver, .slice A1 e.n c1] 25 (0, 0))] :: L :: (bs ++ Ls)) := hm
      replace hm : Mem F w ([(b9, .cells #[.int .i64 e.ver, .slice A1 e.n c1] 25 (0, 0))] :: L :: ((bs ++ [L1]) ++ Ls)) := hm.permF (by
        simp only [List.flatten_cons, List.flatten_append, List.flatten_nil, List.append_nil, List.append_assoc]
        have e1 : ∀ (a b c d f : Blks), (a ++ (b ++ (c ++ (d ++ f)))).Perm (b ++ (c ++ (d ++ (a ++ f)))) := fun a b c d f => by
          have := (List.perm_append_comm (l₁ := a) (l₂ := b ++ (c ++ d))).append_right f
          simpa only [List.append_assoc] using this
        exact e1 _ _ _ _ _)
      repeat (first | refine VC.seq ?_ | refine VC.block ?_ | refine VC.skip ?_)
      refine VC.region ?_
      refine VR.pure rfl rfl (p_moveL rfl) ?_
      refine VR.val rfl rfl (r_loadAgg (vs := [.int _ _, .slice _ _ _]) Try.isAgg25 Try.sizeOf25 rfl (hm.at_ 0 0 rfl) rfl (agg_at rfl)) ?_
      refine VR.new hm rfl rfl (n_buildSlice (vs := [.agg _]) Try.underlying33 inf25 rfl rfl rfl rfl rfl rfl) ?_
      intro g w hm
      replace hm := hm.pop2'
      refine VR.append (s := 2) (bytes := 32) Try.underlying33 inf25 rfl rfl rfl rfl rfl rfl rfl rfl rfl hm ho (Row.lit (cs := [.int .i64 e.ver, .slice A1 e.n c1]) (hm.at_ 1 0 rfl)) (by simp [Value.oneCell']) rfl ⟨by unfold maxLen; omega, by omega⟩ ?_
      intro A8 c8 w L8 ho8 hm
      refine VR.pure rfl rfl (p_assignL rfl) ?_
      refine VR.nil ?_
      repeat (first | refine VC.seq ?_ | refine VC.block ?_ | refine VC.skip ?_)
      refine VC.region ?_
      refine VR.pure rfl rfl (p_add64 rfl rfl (by omega)) ?_
      refine VR.pure rfl rfl (p_moveI rfl) ?_
      refine VR.nil ?_
      refine ⟨(k + 1, A8, c8, outs ++ [⟨e.ver, A1, e.n, c1, e.ms⟩], L8, bs ++ [L1]), ⟨rfl, rfl, rfl, rfl, trivial⟩, ⟨hm.pop2, by simp only; omega, by simp [hol], ?_, Owns.snoc hown ho1, ?_⟩, by simp only; omega⟩
      · show OwnS _ 2 A8 (k + 1) c8 (ecells (outs ++ [_])) L8
        have e2 : ecells (outs ++ [⟨e.ver, A1, e.n, c1, e.ms⟩]) = ecells outs ++ [.int .i64 e.ver, .slice A1 e.n c1] := by
          show (outs ++ [_]).flatMap En.cells = outs.flatMap En.cells ++ _
          rw [List.flatMap_append]
          rfl
        rw [e2]
        exact ho8
      · dsimp only
        rw [List.map_append, hmap, List.take_add_one, hek, List.map_append]
        rfl
    · repeat (first | refine VC.seq ?_ | refine VC.block ?_ | refine VC.skip ?_)
      refine VC.exit ?_
      have hkq : k = q := by omega
      subst hkq
      repeat (first | refine VC.seq ?_ | refine VC.block ?_ | refine VC.skip ?_)
      refine VC.region ?_
      refine VR.pure rfl rfl (p_moveL rfl) ?_
      refine VR.pure rfl rfl (p_assignL rfl) ?_
      refine VR.nil ?_
      repeat (first | refine VC.seq ?_ | refine VC.block ?_ | refine VC.skip ?_)
      refine VC.ret ⟨_, ResOf.r1 (v := .slice _ _ _) rfl rfl, ?_⟩
      subst hol
      rw [hfin _ (Nat.le_refl _), hgoal] at hmap
      exact ⟨A7, c7, outs, L, bs, rfl, ho, hown, hmap, hq2, hm⟩

end Go.Bd
