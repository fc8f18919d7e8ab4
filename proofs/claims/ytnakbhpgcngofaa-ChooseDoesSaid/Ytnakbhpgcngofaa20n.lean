/- Contracts of layer 20: a chooser made of configs that are one's own: what it keeps is new memory. Conditions: as each states. -/
import Derived.Test.Ytnakbhpgcngofaa20z
namespace Go.Bd
open Go.Proofs
set_option linter.unusedVariables false
set_option maxRecDepth 20000

/-- What is fixed in one and not in the other. -/
def Env.fresh (F G : Env) : Nat → Option Obj := fun b => match F.heap b with
  | none => G.heap b
  | some _ => none
theorem fresh_at {F G : Env} {b : Nat} {o : Obj} : F.fresh G b = some o ↔ F.heap b = none ∧ G.heap b = some o := by
  unfold Env.fresh
  cases F.heap b with
  | none => simp
  | some x => simp
theorem fresh_le {F G : Env} : ∀ b o, F.fresh G b = some o → G.heap b = some o := fun b o h => (fresh_at.1 h).2
theorem fresh_mono {F G K : Env} (h : G.le K) : ∀ b o, F.fresh G b = some o → F.fresh K b = some o := fun b o e => fresh_at.2 ⟨(fresh_at.1 e).1, h b o (fresh_at.1 e).2⟩
theorem freeze_f {F G : Env} {w : World} {Ls : List Blks} {L : Blks} (hu : F.under G) (h : Mem G w (L :: Ls)) : ∃ K, G.under K ∧ Mem K w Ls ∧ ∀ p ∈ L, F.fresh K p.1 = some p.2 := by
  have hs := h.shrink hu
  obtain ⟨K, h1, h2, h3⟩ := h.freeze
  exact ⟨K, h1, h2, fun p hp => fresh_at.2 ⟨hs.sep p (List.mem_flatten.2 ⟨L, .head _, hp⟩), h3 p hp⟩⟩
theorem Mem.thaw {F G : Env} {w w' : World} {Ls As : List Blks} (h : Mem F w Ls) (hu : (F.plus Ls).under G) (h' : Mem G w' As) : ∃ K, F.under K ∧ Mem K w' (As ++ Ls) ∧ ∀ b o, (F.plus Ls).fresh G b = some o → K.heap b = some o := by
  have hp : ∀ p ∈ Ls.flatten, (F.plus Ls).heap p.1 = some p.2 := fun p hp => by
    obtain ⟨L, hL, hpL⟩ := List.mem_flatten.1 hp
    exact h.plus_mem hL p hpL
  have hb : ∀ b o, F.heap b = some o → blk Ls.flatten b = none := fun b o e => by
    cases hx : blk Ls.flatten b with
    | none => rfl
    | some x =>
      have := h.sep _ (mem_of_blk hx)
      rw [show F.heap b = none from this] at e
      cases e
  refine ⟨{ G with heap := fun b => match blk Ls.flatten b with | some _ => none | none => G.heap b }, ⟨hu.os, hu.tape, hu.output, fun b o e => ?_⟩, ⟨h'.os, h'.tape, h'.output, fun b o e => ?_, fun p hpm => ?_, fun p hpm => ?_, ?_⟩, fun b o e => ?_⟩
  · show (match blk Ls.flatten b with | some _ => none | none => G.heap b) = some o
    rw [hb b o e]
    exact hu.heap b o (h.le b o e)
  · replace e : (match blk Ls.flatten b with | some _ => none | none => G.heap b) = some o := e
    cases hx : blk Ls.flatten b with
    | none =>
      rw [hx] at e
      exact h'.fix b o e
    | some x =>
      rw [hx] at e
      cases e
  · rw [List.flatten_append] at hpm
    rcases List.mem_append.1 hpm with hpm | hpm
    · exact h'.own p hpm
    · exact h'.fix _ _ (hu.heap _ _ (hp p hpm))
  · show (match blk Ls.flatten p.1 with | some _ => none | none => G.heap p.1) = none
    cases hx : blk Ls.flatten p.1 with
    | some x => rfl
    | none =>
      rw [List.flatten_append] at hpm
      rcases List.mem_append.1 hpm with hpm | hpm
      · exact h'.sep p hpm
      · rw [blk_of_mem (o := p.2) h.nodup hpm] at hx
        cases hx
  · rw [List.flatten_append, List.map_append]
    refine List.nodup_append.2 ⟨h'.nodup, h.nodup, fun a ha b hb' => ?_⟩
    obtain ⟨p, hpm, rfl⟩ := List.mem_map.1 ha
    obtain ⟨q, hqm, rfl⟩ := List.mem_map.1 hb'
    intro e
    have h1 := h'.sep p hpm
    rw [e, hu.heap _ _ (hp q hqm)] at h1
    cases h1
  · show (match blk Ls.flatten b with | some _ => none | none => G.heap b) = some o
    obtain ⟨h1, h2⟩ := fresh_at.1 e
    replace h1 : (match blk Ls.flatten b with | some o => some o | none => F.heap b) = none := h1
    cases hx : blk Ls.flatten b with
    | none => exact h2
    | some x =>
      rw [hx] at h1
      cases h1
section
variable {F : Env} {w : World} {Ls : List Blks}
set_option maxHeartbeats 2000000 in
theorem copied_f {A : Option Addr} {n c : Nat} {es : List En} (hm : Mem F w Ls) (hn : n ≤ 100000) (hr : ERow F.heap A n es) (hsm : ∀ e ∈ es, e.n * 32 ≤ 140737488355328) :
    Calls Try.prog 40 #[.slice A n c] w (Ret fun v w' => ∃ A' c' os G, v = .slice A' n c' ∧ F.under G ∧ ERow (F.fresh G) A' n os ∧ os.map En.abs = es.map En.abs ∧ Mem G w' Ls) := by
  have hl := hr.len
  refine Calls.of_vc Try.func40 rfl Try.ntmps40 rfl ?_
  repeat (first | refine VC.seq ?_ | refine VC.block ?_ | refine VC.skip ?_)
  refine VC.region ?_
  refine VR.pure rfl rfl (p_assignL rfl) ?_
  refine VR.nil ?_
  repeat (first | refine VC.seq ?_ | refine VC.block ?_ | refine VC.skip ?_)
  refine VC.region ?_
  refine VR.pure rfl rfl (p_moveL rfl) ?_
  refine VR.call rfl rfl (r_call1 Try.call61 rfl) (cloneE_c hm (by omega) hr) ?_
  rintro _ w ⟨A1, c1, L1, rfl, ho1, hm⟩
  refine VR.pure rfl rfl (p_assignL rfl) ?_
  refine VR.nil ?_
  repeat (first | refine VC.seq ?_ | refine VC.block ?_ | refine VC.skip ?_)
  refine VC.region ?_
  refine VR.pure rfl rfl (p_moveL rfl) ?_
  refine VR.pure rfl rfl (p_len Try.underlying23 rfl) ?_
  refine VR.pure rfl rfl (p_moveI rfl) ?_
  refine VR.nil ?_
  repeat (first | refine VC.seq ?_ | refine VC.block ?_ | refine VC.skip ?_)
  refine VC.loop (σ := Nat × List En × Blks) (fun s => [(3, .slice A1 n c1), (8, .int .i64 n), (9, .int .i64 s.1)])
    (fun s w => s.1 ≤ n ∧ ∃ G, F.under G ∧ OwnS 42 2 A1 n c1 (ecells s.2.1) s.2.2 ∧ Copies (F.fresh G) s.2.1 es s.1 ∧ Mem G w (s.2.2 :: Ls)) (fun s => n - s.1) (0, es, L1) ⟨rfl, rfl, rfl, trivial⟩
    ⟨by omega, F, Env.under_refl F, ho1, ⟨rfl, fun j o h => by omega, fun j _ => rfl, rfl⟩, hm⟩ ?_
  clear hm ho1
  rintro ⟨k, os, L⟩ A2 w ⟨hk, G, hu, ho, hcp, hm⟩
  dsimp only at hk ho hcp hm ⊢
  repeat (first | refine VC.seq ?_ | refine VC.block ?_ | refine VC.skip ?_)
  refine VC.region ?_
  refine VR.pure rfl rfl (p_lt rfl rfl) ?_
  refine VR.nil ?_
  repeat (first | refine VC.seq ?_ | refine VC.block ?_ | refine VC.skip ?_)
  refine VC.condD rfl (fun h => ?_) (fun h => ?_)
  · have hk' : k < n := by omega
    obtain ⟨e, he, hem⟩ := get_of (xs := es) (k := k) (by omega)
    have hek : os[k]? = some e := by rw [hcp.rest k (Nat.le_refl _), he]
    have hen := hsm e hem
    have hok := (hr.each e hem).mono hu.heap
    have hokc := ho
    rcases ho.2 with ⟨_, h0, _⟩ | ⟨g, cur, rfl, rfl, h1, h2, h3, h4⟩
    · omega
    have hcell : cur[0 + k * 2 + 1]? = some (.slice e.A e.n e.c) := by
      obtain ⟨b, off, cur', e1, e2, hcc⟩ := ho.toO.elem En.len (by decide) (by omega)
      simp only [Option.some.injEq, Addr.mk.injEq] at e1
      obtain ⟨rfl, rfl, _⟩ := e1
      simp only [List.cons.injEq, Prod.mk.injEq, Obj.cells.injEq] at e2
      obtain rfl := e2.1.2.1
      exact hcc k e hek 1 (by decide)
    repeat (first | refine VC.seq ?_ | refine VC.block ?_ | refine VC.skip ?_)
    repeat (first | refine VC.seq ?_ | refine VC.block ?_ | refine VC.skip ?_)
    refine VC.region ?_
    refine VR.pure rfl rfl (p_moveI rfl) ?_
    refine VR.pure rfl rfl (p_assignI rfl) ?_
    refine VR.nil ?_
    repeat (first | refine VC.seq ?_ | refine VC.block ?_ | refine VC.skip ?_)
    refine VC.region ?_
    refine VR.pure rfl rfl (p_moveL rfl) ?_
    refine VR.pure rfl rfl (p_moveI rfl) ?_
    refine VR.pure rfl rfl (p_moveL rfl) ?_
    refine VR.pure rfl rfl (p_moveI rfl) ?_
    refine VR.pure rfl rfl (p_idxN Try.underlying23 Try.sizeOf42 rfl rfl hk') ?_
    refine VR.pure rfl rfl (p_field (fo := 1) Try.underlying42 rfl Try.sizeOf40 rfl rfl rfl) ?_
    refine VR.val rfl rfl (r_load (v := .slice _ _ _) Try.isAgg40 rfl (hm.at_ 0 0 rfl) hcell) ?_
    refine VR.call rfl rfl (r_call1 Try.call62 rfl) (clone_c hm hen hok.1) ?_
    rintro _ w ⟨A7, c7, L7, rfl, ho7, hm⟩
    refine VR.pure rfl rfl (p_idxN Try.underlying23 Try.sizeOf42 rfl rfl hk') ?_
    refine VR.pure rfl rfl (p_field (fo := 1) Try.underlying42 rfl Try.sizeOf40 rfl rfl rfl) ?_
    refine VR.store (cs' := (cur.setIfInBounds (0 + k * 2 + 1) (.slice A7 e.n c7))) (v := .slice _ _ _) Try.sizeOf40 rfl rfl rfl rfl rfl hm 1 0 rfl (by omega) rfl ?_
    intro w hm
    refine VR.nil ?_
    repeat (first | refine VC.seq ?_ | refine VC.block ?_ | refine VC.skip ?_)
    refine VC.region ?_
    refine VR.pure rfl rfl (p_add64 rfl rfl (by omega)) ?_
    refine VR.pure rfl rfl (p_moveI rfl) ?_
    refine VR.nil ?_
    obtain ⟨G2, hu2, hm, h8⟩ := freeze_f hu hm
    have hset := OwnS.setE (o := ⟨e.ver, A7, e.n, c7, e.ms⟩) ho hek hk' rfl
    refine ⟨(k + 1, os.set k ⟨e.ver, A7, e.n, c7, e.ms⟩, _), ⟨rfl, rfl, rfl, trivial⟩, ⟨by omega, G2, hu.trans hu2, hset, ⟨by rw [List.length_set]; exact hcp.len, fun j o hj hjo => ?_, fun j hj => ?_, ?_⟩, hm⟩, by omega⟩
    · rw [List.getElem?_set] at hjo
      by_cases e1 : k = j
      · rw [if_pos e1, if_pos (by rw [hcp.len]; omega)] at hjo
        obtain rfl := Option.some.inj hjo
        exact ⟨ho7.row h8, ho7.le⟩
      · rw [if_neg e1] at hjo
        exact (hcp.done j o (by omega) hjo).mono (fresh_mono hu2.heap)
    · rw [List.getElem?_set, if_neg (by omega)]
      exact hcp.rest j (by omega)
    · rw [List.map_set, ← hcp.abs]
      apply List.ext_getElem?
      intro j
      rw [List.getElem?_set]
      by_cases e1 : k = j
      · subst e1
        rw [if_pos rfl, if_pos (by rw [List.length_map, hcp.len]; omega), List.getElem?_map, hek]
        rfl
      · rw [if_neg e1]
  · repeat (first | refine VC.seq ?_ | refine VC.block ?_ | refine VC.skip ?_)
    refine VC.exit ?_
    have hkn : k = n := by omega
    subst hkn
    obtain ⟨G2, hu2, hm, h8⟩ := freeze_f hu hm
    repeat (first | refine VC.seq ?_ | refine VC.block ?_ | refine VC.skip ?_)
    refine VC.region ?_
    refine VR.pure rfl rfl (p_moveL rfl) ?_
    refine VR.pure rfl rfl (p_assignL rfl) ?_
    refine VR.nil ?_
    repeat (first | refine VC.seq ?_ | refine VC.block ?_ | refine VC.skip ?_)
    refine VC.ret ⟨_, ResOf.r1 (v := .slice _ _ _) rfl rfl, ?_⟩
    refine ⟨A1, c1, os, G2, rfl, hu.trans hu2, ⟨ho.row h8, fun o hx => ?_⟩, hcp.abs, hm⟩
    obtain ⟨j, hj, rfl⟩ := List.mem_iff_getElem.1 hx
    exact (hcp.done j _ (by rw [hcp.len, hl] at hj; omega) (List.getElem?_eq_getElem hj)).mono (fresh_mono hu2.heap)

theorem begin_f {g : Nat} {id : Int} {me : Vt} {A : Option Addr} {n c : Nat} {round : Int} {v : Vt} {mo : Option Nat} {calm ep zx : Int} {A1 : Option Addr} {n1 c1 : Nat} {es : List En} (hm : Mem F w ([(g, chO id me A n c round v mo calm)] :: Ls)) (hid : 0 < id)
    (hn : n1 ≤ 100000) (hr : ERow F.heap A1 n1 es) (hsm : ∀ e ∈ es, e.n * 32 ≤ 140737488355328) :
    Calls Try.prog 19 #[.pointer (some ⟨g, 0, none⟩), .int .i64 ep, .int .i64 zx, .slice A1 n1 c1] w
      (Ret fun _ w' => ∃ m' A' c' os G, F.under G ∧ ERow (F.fresh G) A' n1 os ∧ os.map En.abs = es.map En.abs ∧ Mem G w' ([(g, chO id ⟨id, ep, zx⟩ A' n1 c' (IntKind.i64.wrap (round + 1)) (ownV os id ⟨id, ep, zx⟩) (some m') 0)] :: [(m', .map #[] 0)] :: Ls)) := by
  refine Calls.of_vc Try.func19 rfl Try.ntmps19 rfl ?_
  repeat (first | refine VC.seq ?_ | refine VC.block ?_ | refine VC.skip ?_)
  refine VC.region ?_
  refine VR.pure rfl rfl (p_moveP rfl) ?_
  refine VR.call rfl rfl (r_call1 Try.call35 rfl) (there_c (id := id) hm.all (hm.plus_at 0 0 rfl) rfl) ?_
  rintro _ w ⟨rfl, hm'⟩
  replace hm := hm.back0 hm'
  refine VR.pure rfl rfl (p_notD rfl) ?_
  refine VR.nil ?_
  repeat (first | refine VC.seq ?_ | refine VC.block ?_ | refine VC.skip ?_)
  refine VC.condF rfl (decide_eq_false (not_not_intro hid)) ?_
  repeat (first | refine VC.seq ?_ | refine VC.block ?_ | refine VC.skip ?_)
  refine VC.meet (σ := Unit) (fun _ => [(0, .pointer (some ⟨g, 0, none⟩))]) (fun _ w => ∃ A' c' os G, F.under G ∧ ERow (F.fresh G) A' n1 os ∧ os.map En.abs = es.map En.abs ∧ Mem G w ([(g, chO id ⟨id, ep, zx⟩ A' n1 c' round v mo calm)] :: Ls)) ?_ ?_
  · repeat (first | refine VC.seq ?_ | refine VC.block ?_ | refine VC.skip ?_)
    refine VC.free (Kept F []) [5, 10, 13, 16] rfl (by kernel_rfl) (Kept.of0 hm.drew) ?_
    replace hm := hm.drew
    refine VD.pure 0 rfl (by kernel_rfl) rfl rfl (p_moveP rfl) ?_
    refine VD.pure 1 rfl (by kernel_rfl) rfl rfl (p_moveP rfl) ?_
    refine VD.pure 2 rfl (by kernel_rfl) rfl rfl (p_moveP rfl) ?_
    refine VD.pure 3 rfl (by kernel_rfl) rfl rfl (p_nilCheck rfl) ?_
    refine VD.pure 4 rfl (by kernel_rfl) rfl rfl (p_field (fo := 0) Try.underlying67 rfl Try.sizeOf3 rfl rfl rfl) ?_
    refine VD.pure 6 rfl (by kernel_rfl) rfl rfl (p_moveI rfl) ?_
    refine VD.pure 7 rfl (by kernel_rfl) rfl rfl (p_moveI rfl) ?_
    refine VD.pure 9 rfl (by kernel_rfl) rfl rfl (p_moveL rfl) ?_
    refine VD.turn2 5 10 (by kernel_rfl) ?_ ?_
    refine VDT.val rfl rfl rfl (r_load (v := .int _ _) Try.isAgg3 rfl (hm.at_ 0 0 rfl) rfl) (Kept.of0 hm) ?_
    refine VD.pure 8 rfl (by kernel_rfl) rfl rfl (p_build (vs := [(0, .int _ _), (1, .int _ _), (2, .int _ _)]) bld64_0_1_2 rfl) ?_
    refine VD.turn1 10 (by kernel_rfl) ?_
    refine VDT.call rfl rfl rfl (r_call1 Try.call40 rfl) (copied_f hm hn hr hsm) ?_
    rintro _ w ⟨A', c', os, G, rfl, hu, hr', habs, hm⟩
    refine ⟨Kept.of0 (hm.shrink hu), ?_⟩
    refine VD.pure 11 rfl (by kernel_rfl) rfl rfl (p_nilCheck rfl) ?_
    refine VD.pure 12 rfl (by kernel_rfl) rfl rfl (p_field (fo := 1) Try.underlying67 rfl Try.sizeOf64 rfl rfl rfl) ?_
    refine VD.turn1 13 (by kernel_rfl) ?_
    refine VDT.store (cs' := #[.int .i64 id, .int .i64 id, .int .i64 ep, .int .i64 zx, .slice A n c, .int .i64 round, .int .i64 v.l, .int .i64 v.e, .int .i64 v.z, .map mo, .int .i64 calm]) (v := .agg _) Try.sizeOf64 rfl rfl rfl rfl rfl rfl hm 0 0 rfl (Nat.ble_eq.mp rfl) rfl (fun w' hm' => Kept.of0 (hm'.shrink hu)) ?_
    intro w hm
    refine VD.pure 14 rfl (by kernel_rfl) rfl rfl (p_nilCheck rfl) ?_
    refine VD.pure 15 rfl (by kernel_rfl) rfl rfl (p_field (fo := 4) Try.underlying67 rfl Try.sizeOf23 rfl rfl rfl) ?_
    refine VD.turn1 16 (by kernel_rfl) ?_
    refine VDT.store (cs' := #[.int .i64 id, .int .i64 id, .int .i64 ep, .int .i64 zx, .slice A' n1 c', .int .i64 round, .int .i64 v.l, .int .i64 v.e, .int .i64 v.z, .map mo, .int .i64 calm]) (v := .slice _ _ _) Try.sizeOf23 rfl rfl rfl rfl rfl rfl hm 0 0 rfl (Nat.ble_eq.mp rfl) rfl (fun w' hm' => Kept.of0 (hm'.shrink hu)) ?_
    intro w hm
    refine VD.nil (by kernel_rfl) rfl ?_
    rotate_left 1
    refine VDT.call rfl rfl rfl (r_call1 Try.call40 rfl) (copied_f hm hn hr hsm) ?_
    rintro _ w ⟨A', c', os, G, rfl, hu, hr', habs, hm⟩
    refine ⟨Kept.of0 (hm.shrink hu), ?_⟩
    refine VD.turn1 5 (by kernel_rfl) ?_
    refine VDT.val rfl rfl rfl (r_load (v := .int _ _) Try.isAgg3 rfl (hm.at_ 0 0 rfl) rfl) (Kept.of0 (hm.shrink hu)) ?_
    refine VD.pure 8 rfl (by kernel_rfl) rfl rfl (p_build (vs := [(0, .int _ _), (1, .int _ _), (2, .int _ _)]) bld64_0_1_2 rfl) ?_
    refine VD.pure 11 rfl (by kernel_rfl) rfl rfl (p_nilCheck rfl) ?_
    refine VD.pure 12 rfl (by kernel_rfl) rfl rfl (p_field (fo := 1) Try.underlying67 rfl Try.sizeOf64 rfl rfl rfl) ?_
    refine VD.turn1 13 (by kernel_rfl) ?_
    refine VDT.store (cs' := #[.int .i64 id, .int .i64 id, .int .i64 ep, .int .i64 zx, .slice A n c, .int .i64 round, .int .i64 v.l, .int .i64 v.e, .int .i64 v.z, .map mo, .int .i64 calm]) (v := .agg _) Try.sizeOf64 rfl rfl rfl rfl rfl rfl hm 0 0 rfl (Nat.ble_eq.mp rfl) rfl (fun w' hm' => Kept.of0 (hm'.shrink hu)) ?_
    intro w hm
    refine VD.pure 14 rfl (by kernel_rfl) rfl rfl (p_nilCheck rfl) ?_
    refine VD.pure 15 rfl (by kernel_rfl) rfl rfl (p_field (fo := 4) Try.underlying67 rfl Try.sizeOf23 rfl rfl rfl) ?_
    refine VD.turn1 16 (by kernel_rfl) ?_
    refine VDT.store (cs' := #[.int .i64 id, .int .i64 id, .int .i64 ep, .int .i64 zx, .slice A' n1 c', .int .i64 round, .int .i64 v.l, .int .i64 v.e, .int .i64 v.z, .map mo, .int .i64 calm]) (v := .slice _ _ _) Try.sizeOf23 rfl rfl rfl rfl rfl rfl hm 0 0 rfl (Nat.ble_eq.mp rfl) rfl (fun w' hm' => Kept.of0 (hm'.shrink hu)) ?_
    intro w hm
    refine VD.nil (by kernel_rfl) rfl ?_
    rotate_left 1
    all_goals exact ⟨(), ⟨rfl, trivial⟩, A', c', os, G, hu, hr', habs, hm⟩
  clear hm
  rintro _ A2 w ⟨A', c', os, G, hu, hr', habs, hm⟩
  repeat (first | refine VC.seq ?_ | refine VC.block ?_ | refine VC.skip ?_)
  refine VC.region ?_
  refine VR.pure rfl rfl (p_moveP rfl) ?_
  refine VR.pure rfl rfl (p_moveP rfl) ?_
  refine VR.pure rfl rfl (p_nilCheck rfl) ?_
  refine VR.pure rfl rfl (p_field (fo := 5) Try.underlying67 rfl Try.sizeOf3 rfl rfl rfl) ?_
  refine VR.val rfl rfl (r_load (v := .int _ _) Try.isAgg3 rfl (hm.at_ 0 0 rfl) rfl) ?_
  refine VR.pure rfl rfl (p_add rfl rfl) ?_
  refine VR.call rfl rfl (r_call2 Try.call36 rfl rfl) (turn_c hm (by unfold maxLen; omega) (hr'.mono fresh_le)) ?_
  rintro _ w ⟨m', hm⟩
  refine VR.nil ?_
  repeat (first | refine VC.seq ?_ | refine VC.block ?_ | refine VC.skip ?_)
  exact ⟨_, ResOf.r0 rfl, m', A', c', os, G, hu, hr', habs, hm⟩
theorem new_f {id ep zx : Int} {A1 : Option Addr} {n1 c1 : Nat} {es : List En} (hm : Mem F w Ls) (hid : 1 ≤ id ∧ id ≤ 7)
    (hn : n1 ≤ 100000) (hr : ERow F.heap A1 n1 es) (hsm : ∀ e ∈ es, e.n * 32 ≤ 140737488355328) :
    Calls Try.prog 9 #[.int .i64 id, .int .i64 ep, .int .i64 zx, .slice A1 n1 c1] w
      (Ret fun v w' => ∃ g m' C' G, v = .pointer (some ⟨g, 0, none⟩) ∧ F.under G ∧ ChOk (F.fresh G) C' ∧ C'.abs = newA id ep zx (es.map En.abs) ∧ Mem G w' ([(g, C'.obj m')] :: [(m', C'.map)] :: Ls)) := by
  refine Calls.of_vc Try.func9 rfl Try.ntmps9 rfl ?_
  repeat (first | refine VC.seq ?_ | refine VC.block ?_ | refine VC.skip ?_)
  refine VC.region ?_
  refine VR.pure rfl rfl (p_assignP rfl) ?_
  refine VR.nil ?_
  repeat (first | refine VC.seq ?_ | refine VC.block ?_ | refine VC.skip ?_)
  refine VC.region ?_
  refine VR.pure rfl rfl (p_moveI rfl) ?_
  refine VR.pure rfl rfl (p_lt rfl rfl) ?_
  refine VR.pure rfl rfl (p_moveB rfl) ?_
  refine VR.knownF 12 rfl (decide_eq_false (by omega)) ?_
  refine VR.pureG rfl rfl (p_moveI rfl) ?_
  refine VR.pureG rfl rfl (p_gt rfl rfl) ?_
  refine VR.pure rfl rfl (p_pickF rfl rfl) ?_
  refine VR.nil ?_
  repeat (first | refine VC.seq ?_ | refine VC.block ?_ | refine VC.skip ?_)
  refine VC.condF rfl (decide_eq_false (by omega)) ?_
  repeat (first | refine VC.seq ?_ | refine VC.block ?_ | refine VC.skip ?_)
  refine VC.region ?_
  refine VR.pure rfl rfl (p_moveI rfl) ?_
  refine VR.pure rfl rfl (p_build (vs := [(0, .int _ _)]) bld67_0 rfl) ?_
  refine VR.new hm rfl rfl (n_boxG rfl) ?_
  intro g w hm
  refine VR.pure rfl rfl (p_assignP rfl) ?_
  refine VR.nil ?_
  repeat (first | refine VC.seq ?_ | refine VC.block ?_ | refine VC.skip ?_)
  refine VC.region ?_
  refine VR.pure rfl rfl (p_moveP rfl) ?_
  refine VR.pure rfl rfl (p_moveI rfl) ?_
  refine VR.pure rfl rfl (p_moveI rfl) ?_
  refine VR.pure rfl rfl (p_moveL rfl) ?_
  refine VR.call rfl rfl (r_call4 Try.call19 rfl rfl rfl rfl) (begin_f (v := v0) (me := v0) (round := 0) (mo := none) (A := none) (n := 0) (c := 0) (calm := 0) hm (by omega) hn hr hsm) ?_
  rintro _ w ⟨m', A', c', os, G, hu, hr', habs, hm⟩
  refine VR.nil ?_
  repeat (first | refine VC.seq ?_ | refine VC.block ?_ | refine VC.skip ?_)
  refine VC.region ?_
  refine VR.pure rfl rfl (p_moveP rfl) ?_
  refine VR.pure rfl rfl (p_assignP rfl) ?_
  refine VR.nil ?_
  repeat (first | refine VC.seq ?_ | refine VC.block ?_ | refine VC.skip ?_)
  refine VC.ret ⟨_, ResOf.r1 (v := .pointer _) rfl rfl, ?_⟩
  refine ⟨g, m', ⟨id, ⟨id, ep, zx⟩, A', n1, c', os, IntKind.i64.wrap (0 + 1), ownV os id ⟨id, ep, zx⟩, 0, [], 0⟩, G, rfl, hu, ⟨hr', hn, Ents.nil _ _, hid, by simp⟩, ?_, ?_⟩
  rotate_left
  · exact hm
  unfold Ch.abs newA turnA
  dsimp only
  rw [own_abs, habs]
  rfl
theorem new_t {id ep zx : Int} {A1 : Option Addr} {n1 c1 : Nat} {es : List En} (hm : Mem F w Ls) (hid : 1 ≤ id ∧ id ≤ 7)
    (hn : n1 ≤ 100000) (hr : ERow (F.plus Ls).heap A1 n1 es) (hsm : ∀ e ∈ es, e.n * 32 ≤ 140737488355328) :
    Calls Try.prog 9 #[.int .i64 id, .int .i64 ep, .int .i64 zx, .slice A1 n1 c1] w
      (Ret fun v w' => ∃ g m' C' G, v = .pointer (some ⟨g, 0, none⟩) ∧ F.under G ∧ ChOk G.heap C' ∧ C'.abs = newA id ep zx (es.map En.abs) ∧ Mem G w' ([(g, C'.obj m')] :: [(m', C'.map)] :: Ls)) :=
  (new_f hm.all hid hn hr hsm).mono fun ws w' ⟨v, hv, g, m', C', G, hvv, hu, hC, hab, hm'⟩ => by
    obtain ⟨K, h1, h2, h3⟩ := hm.thaw hu hm'
    exact ⟨v, hv, g, m', C', K, hvv, h1, hC.mono h3, hab, h2⟩
end
end Go.Bd
