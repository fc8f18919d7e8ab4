/- ReformChain: along a row of configs that are made one behind the other, any quorum of all that bind meets any quorum of all that bound when the config before was made. Conditions: none. -/
import Derived.Test.Ytinddgigjecofaa22s
import Derived.Test.Ytinddgigjecofaa22t
import Derived.Test.Ytinddgigjecofaa22v
namespace Go.Bd
open Go.Proofs Go.ChangeShapes Go.WideShapes
set_option linter.unusedVariables false
set_option maxRecDepth 20000

theorem Mem.freezeL {F : Env} {w : World} {A B : List Blks} (h : Mem F w (A ++ B)) : ∃ G, F.under G ∧ Mem G w B ∧ ∀ L ∈ A, ∀ p ∈ L, G.heap p.1 = some p.2 := by
  have h2 : Mem F w (B ++ A) := h.permF (by simp only [List.flatten_append]; exact List.perm_append_comm)
  have h1 : Mem F w A := h2.subF (by simp)
  exact ⟨F.plus A, ⟨rfl, rfl, rfl, h1.le⟩, h2.focus, fun L hL => h1.plus_mem hL⟩
theorem Mem.aside {F : Env} {w : World} {Ls : List Blks} (h : Mem F w Ls) : ∃ K, F.under K ∧ Mem K w [] ∧ (∀ L ∈ Ls, ∀ p ∈ L, K.heap p.1 = some p.2) ∧ ∀ {w' : World} {As : List Blks}, Mem K w' As → Mem F w' (As ++ Ls) :=
  ⟨F.plus Ls, ⟨rfl, rfl, rfl, h.le⟩, h.all, fun L hL => h.plus_mem hL, fun h' => h.back h'⟩
theorem tree_members {H : Nat → Option Obj} : ∀ {k : Nat} {a : Ak}, Tree H k a → MRow H a.h.mA a.h.c.mn a.h.c.ms ∧ Small a.h.c
  | 0, _, h => False.elim h
  | k + 1, .mk x ps, ⟨h1, _, h3, _⟩ => ⟨h3, h1⟩
theorem last_in {outs es : List En} {q i : Nat} {e : En} (h : outs.map En.abs = (es.map En.abs).drop q) (hq : q ≤ i) (he : es[i]? = some e) : ∃ o ∈ outs, o.abs = e.abs := by
  have h1 : (outs.map En.abs)[i - q]? = some e.abs := by
    rw [h, List.getElem?_drop, show q + (i - q) = i by omega, List.getElem?_map, he]
    rfl
  obtain ⟨o, ho, hoe⟩ := List.mem_map.1 (List.mem_of_getElem? h1)
  exact ⟨o, ho, hoe⟩
theorem from_le (es : List En) (c : Int) : fromOf (es.map En.abs) c ≤ es.length - 1 := by
  unfold fromOf
  split
  · split <;> (rw [List.length_map]; omega)
  · omega
theorem from_two {es : List En} {x : En} {c : Int} (h : c < x.ver) : fromOf ((es ++ [x]).map En.abs) c = es.length - 1 := by
  unfold fromOf
  rw [List.map_append, List.map_singleton, List.getLast?_append]
  show (if x.ver ≤ c then _ else _) = _
  rw [if_neg (by omega), List.length_append, List.length_map, List.length_singleton]
  omega
theorem quorum_of {o e : En} {ids : List Int} (h : o.abs = e.abs) (hq : quorumE o.ver o.ms ids = true) : quorumE e.ver e.ms ids = true := by
  have h1 : o.ver = e.ver := congrArg Prod.fst h
  have h2 : o.ms = e.ms := congrArg Prod.snd h
  rwa [h1, h2] at hq
theorem ecells_app1 (es : List En) (x : En) : ecells (es ++ [x]) = ecells es ++ x.cells := by
  show (es ++ [x]).flatMap En.cells = es.flatMap En.cells ++ x.cells
  rw [List.flatMap_append]
  simp
theorem x_one (x : En) : ∀ u ∈ x.cells, u.oneCell' = true := by
  intro u hu
  simp only [En.cells, List.mem_cons, List.not_mem_nil, or_false] at hu
  rcases hu with rfl | rfl <;> rfl

set_option maxHeartbeats 8000000 in
theorem reform_chain_c {F : Env} {w : World} {A B C : Option Addr} {n c m d r f : Nat} {ps : List Ak} {before after : List Int} {committed : Int} (hm : Mem F w []) (hn : n * 168 ≤ 140737488355328) (hr : Row F.heap A (n * 15) (acells ps)) (hp : ∀ p ∈ ps, ∃ k, Tree F.heap k p)
    (hmm : m ≤ maxLen) (hrm : Row F.heap B m (before.map (Value.int .i64))) (hrr : r ≤ maxLen) (hra : Row F.heap C r (after.map (Value.int .i64))) :
    Calls Try.prog 7 #[.slice A n c, .slice B m d, .slice C r f, .int .i64 committed] w (Ret fun v w' => v = .bool true ∧ Mem F w' []) := by
  have hl := acells_len hr
  refine Calls.of_vc Try.func7 rfl Try.ntmps7 rfl ?_
  repeat (first | refine VC.seq ?_ | refine VC.block ?_ | refine VC.skip ?_)
  refine VC.region ?_
  refine VR.pure rfl rfl (p_assignB rfl) ?_
  refine VR.nil ?_
  repeat (first | refine VC.seq ?_ | refine VC.block ?_ | refine VC.skip ?_)
  refine VC.region ?_
  refine VR.call rfl rfl (r_call0 Try.call9) (awake_c hm) ?_
  rintro _ w ⟨rfl, hm⟩
  refine VR.pure rfl rfl (p_not rfl) ?_
  refine VR.nil ?_
  repeat (first | refine VC.seq ?_ | refine VC.block ?_ | refine VC.skip ?_)
  refine VC.condF rfl rfl ?_
  repeat (first | refine VC.seq ?_ | refine VC.block ?_ | refine VC.skip ?_)
  refine VC.region ?_
  refine VR.pure rfl rfl (p_moveL rfl) ?_
  refine VR.pure rfl rfl (p_len Try.underlying29 rfl) ?_
  refine VR.pure rfl rfl (p_gt rfl rfl) ?_
  refine VR.pure rfl rfl (p_moveB rfl) ?_
  refine VR.splitD 21 rfl (fun h3 => ?_) (fun h3 => ?_)
  refine VR.pass rfl rfl ?_
  refine VR.pass rfl rfl ?_
  refine VR.pass rfl rfl ?_
  refine VR.pure rfl rfl (p_pickT rfl rfl) ?_
  refine VR.pure rfl rfl (p_moveB rfl) ?_
  refine VR.pass rfl rfl ?_
  refine VR.pass rfl rfl ?_
  refine VR.pass rfl rfl ?_
  refine VR.pure rfl rfl (p_pickT rfl rfl) ?_
  refine VR.nil ?_
  rotate_left 1
  refine VR.pureG rfl rfl (p_moveL rfl) ?_
  refine VR.pureG rfl rfl (p_len Try.underlying54 rfl) ?_
  refine VR.pureG rfl rfl (p_gt rfl rfl) ?_
  refine VR.pure rfl rfl (p_pickF rfl rfl) ?_
  refine VR.pure rfl rfl (p_moveB rfl) ?_
  refine VR.splitD 26 rfl (fun h8 => ?_) (fun h8 => ?_)
  refine VR.pass rfl rfl ?_
  refine VR.pass rfl rfl ?_
  refine VR.pass rfl rfl ?_
  refine VR.pure rfl rfl (p_pickT rfl rfl) ?_
  refine VR.nil ?_
  rotate_left 1
  refine VR.pureG rfl rfl (p_moveL rfl) ?_
  refine VR.pureG rfl rfl (p_len Try.underlying54 rfl) ?_
  refine VR.pureG rfl rfl (p_gt rfl rfl) ?_
  refine VR.pure rfl rfl (p_pickF rfl rfl) ?_
  refine VR.nil ?_
  rotate_left 1
  · repeat (first | refine VC.seq ?_ | refine VC.block ?_ | refine VC.skip ?_)
    refine VC.condT rfl rfl ?_
    repeat (first | refine VC.seq ?_ | refine VC.block ?_ | refine VC.skip ?_)
    refine VC.region ?_
    refine VR.pure rfl rfl (p_assignB rfl) ?_
    refine VR.nil ?_
    repeat (first | refine VC.seq ?_ | refine VC.block ?_ | refine VC.skip ?_)
    refine VC.ret ⟨_, ResOf.r1 (v := .bool _) rfl rfl, ?_⟩
    exact ⟨rfl, hm⟩
  · repeat (first | refine VC.seq ?_ | refine VC.block ?_ | refine VC.skip ?_)
    refine VC.condT rfl rfl ?_
    repeat (first | refine VC.seq ?_ | refine VC.block ?_ | refine VC.skip ?_)
    refine VC.region ?_
    refine VR.pure rfl rfl (p_assignB rfl) ?_
    refine VR.nil ?_
    repeat (first | refine VC.seq ?_ | refine VC.block ?_ | refine VC.skip ?_)
    refine VC.ret ⟨_, ResOf.r1 (v := .bool _) rfl rfl, ?_⟩
    exact ⟨rfl, hm⟩
  · repeat (first | refine VC.seq ?_ | refine VC.block ?_ | refine VC.skip ?_)
    refine VC.condD rfl (fun h12 => ?_) (fun h12 => ?_)
    · repeat (first | refine VC.seq ?_ | refine VC.block ?_ | refine VC.skip ?_)
      refine VC.region ?_
      refine VR.pure rfl rfl (p_assignB rfl) ?_
      refine VR.nil ?_
      repeat (first | refine VC.seq ?_ | refine VC.block ?_ | refine VC.skip ?_)
      refine VC.ret ⟨_, ResOf.r1 (v := .bool _) rfl rfl, ?_⟩
      exact ⟨rfl, hm⟩
    · repeat (first | refine VC.seq ?_ | refine VC.block ?_ | refine VC.skip ?_)
      refine VC.region ?_
      refine VR.call rfl rfl (r_call0 Try.call26) (one_c hm) ?_
      rintro _ w ⟨b0, rfl, hm⟩
      refine VR.pure rfl rfl (p_build (vs := [(1, .slice _ _ _)]) bld25_1 rfl) ?_
      refine VR.new hm rfl rfl (n_buildSlice (vs := [.agg _]) Try.underlying33 inf25 rfl rfl rfl rfl rfl rfl) ?_
      intro b33 w hm
      refine VR.pure rfl rfl (p_assignL rfl) ?_
      refine VR.nil ?_
      repeat (first | refine VC.seq ?_ | refine VC.block ?_ | refine VC.skip ?_)
      refine VC.region ?_
      refine VR.pure rfl rfl (p_assignI rfl) ?_
      refine VR.nil ?_
      have hm0 : Mem F w ([(b33, .cells #[.int .i64 0, .slice (some ⟨b0, 0, none⟩) 1 1] 25 (0, 0))] :: [[(b0, .cells (mcells [⟨1, 1, 1, 0⟩]).toArray 65 (0, 0))]]) := hm
      obtain ⟨G0, hu0, hm1, hb0⟩ := hm0.swap.freeze
      repeat (first | refine VC.seq ?_ | refine VC.block ?_ | refine VC.skip ?_)
      refine VC.loop (σ := Nat × Env × Nat × Nat × Array Value × List En) (fun s => [(0, .slice A n c), (1, .slice B m d), (2, .slice C r f), (3, .int .i64 committed), (9, .slice (some ⟨s.2.2.1, 0, none⟩) s.2.2.2.2.2.length s.2.2.2.1), (10, .int .i64 s.1)])
        (fun s w => s.1 ≤ n ∧ F.under s.2.1 ∧ OwnS 25 2 (some ⟨s.2.2.1, 0, none⟩) s.2.2.2.2.2.length s.2.2.2.1 (ecells s.2.2.2.2.2) [(s.2.2.1, .cells s.2.2.2.2.1 25 (0, 0))] ∧ Mem s.2.1 w [[(s.2.2.1, .cells s.2.2.2.2.1 25 (0, 0))]]
          ∧ (∀ e ∈ s.2.2.2.2.2, EnOk s.2.1.heap e ∧ e.n ≤ 1000) ∧ 0 < s.2.2.2.2.2.length ∧ s.2.2.2.2.2.length ≤ s.1 + 1)
        (fun s => n - s.1) (0, G0, b33, 1, _, [⟨0, some ⟨b0, 0, none⟩, 1, 1, [⟨1, 1, 1, 0⟩]⟩]) ⟨rfl, rfl, rfl, rfl, rfl, rfl, trivial⟩ ⟨by omega, hu0, OwnS.whole (show (1 : Nat) ≤ maxLen by unfold maxLen; omega) rfl, hm1, fun e he => by
          rw [List.mem_singleton.1 he]
          exact ⟨⟨Row.lit (cs := mcells [⟨1, 1, 1, 0⟩]) (hb0 _ (.head _)), Nat.le_refl _, by unfold maxLen; show (1 : Nat) ≤ _; omega⟩, by show (1 : Nat) ≤ _; omega⟩, by show (0 : Nat) < 1; omega, by show (1 : Nat) ≤ _; omega⟩ ?_
      clear hm hm0 hm1
      rintro ⟨k, G, g, cap, cur, es⟩ A' w ⟨hk, hu, ho, hm, hes, hpos, hlen⟩
      dsimp only at hk hu ho hm hes hpos hlen ⊢
      repeat (first | refine VC.seq ?_ | refine VC.block ?_ | refine VC.skip ?_)
      refine VC.region ?_
      refine VR.pure rfl rfl (p_moveI rfl) ?_
      refine VR.pure rfl rfl (p_moveL rfl) ?_
      refine VR.pure rfl rfl (p_len Try.underlying29 rfl) ?_
      refine VR.pure rfl rfl (p_lt rfl rfl) ?_
      refine VR.nil ?_
      repeat (first | refine VC.seq ?_ | refine VC.block ?_ | refine VC.skip ?_)
      refine VC.condD rfl (fun hlt => ?_) (fun hlt => ?_)
      · have hk' : k < n := by omega
        have hcapc := ho.le
        obtain ⟨p, hpk, hpm⟩ := get_of (xs := ps) (k := k) (by omega)
        obtain ⟨b, off, blk, T, fr, rfl, hb, hc⟩ := Row.elem Ak.len hr (by decide) (by omega)
        have hbG := hu.heap _ _ hb
        obtain ⟨q, htq⟩ := hp p hpm
        obtain ⟨hma, hsa⟩ := tree_members (Tree.mono hu.heap q p htq)
        obtain ⟨hs1, hs2, hs3⟩ := hsa
        obtain ⟨e, he⟩ : ∃ e, es[es.length - 1]? = some e := ⟨_, List.getElem?_eq_getElem (by omega)⟩
        have hem := List.mem_of_getElem? he
        have hat : ∀ i x, es[i]? = some x → ∀ j, j < 2 → cur[0 + i * 2 + j]? = x.cells[j]? := fun i x hx j hj => by
          obtain ⟨b', off', cur', e1, e2, hcc⟩ := ho.toO.elem En.len (by decide) (by omega)
          simp only [Option.some.injEq, Addr.mk.injEq] at e1
          obtain ⟨rfl, rfl, _⟩ := e1
          simp only [List.cons.injEq, Prod.mk.injEq, Obj.cells.injEq] at e2
          obtain rfl := e2.1.2.1
          exact hcc i x hx j hj
        repeat (first | refine VC.seq ?_ | refine VC.block ?_ | refine VC.skip ?_)
        refine VC.region ?_
        refine VR.pure rfl rfl (p_moveL rfl) ?_
        refine VR.pure rfl rfl (p_moveI rfl) ?_
        refine VR.pure rfl rfl (p_idxN Try.underlying29 Try.sizeOf31 rfl rfl hk') ?_
        refine VR.pure rfl rfl (p_field (fo := 13) Try.underlying31 rfl Try.sizeOf23 rfl rfl rfl) ?_
        refine VR.val rfl rfl (r_load (v := .slice _ _ _) Try.isAgg23 rfl (hm.fix _ _ hbG) (hc k p hpk 13 (by decide))) ?_
        refine VR.pure rfl rfl (p_len Try.underlying23 rfl) ?_
        refine VR.pure rfl rfl (p_gt rfl rfl) ?_
        refine VR.nil ?_
        repeat (first | refine VC.seq ?_ | refine VC.block ?_ | refine VC.skip ?_)
        refine VC.condD rfl (fun h9 => ?_) (fun h9 => ?_)
        · repeat (first | refine VC.seq ?_ | refine VC.block ?_ | refine VC.skip ?_)
          refine VC.region ?_
          refine VR.pure rfl rfl (p_assignB rfl) ?_
          refine VR.nil ?_
          repeat (first | refine VC.seq ?_ | refine VC.block ?_ | refine VC.skip ?_)
          refine VC.ret ⟨_, ResOf.r1 (v := .bool _) rfl rfl, ?_⟩
          exact ⟨rfl, hm.pop.shrink hu⟩
        · have hmn : p.h.c.mn ≤ 100 := by omega
          have hml : p.h.c.ms.length = p.h.c.mn := MRow.len hma
          repeat (first | refine VC.seq ?_ | refine VC.block ?_ | refine VC.skip ?_)
          refine VC.region ?_
          refine VR.pure rfl rfl (p_moveL rfl) ?_
          refine VR.pure rfl rfl (p_moveI rfl) ?_
          refine VR.pure rfl rfl (p_idxN Try.underlying29 Try.sizeOf31 rfl rfl hk') ?_
          refine VR.val rfl rfl (r_loadAgg (vs := p.h.cs) Try.isAgg31 Try.sizeOf31 rfl (hm.fix _ _ hbG) rfl (hc k p hpk)) ?_
          refine VR.new hm rfl rfl (n_allocG Try.zeroValue31) ?_
          intro b11 w hm
          refine VR.store (cs' := p.h.arr) (v := .agg _) Try.sizeOf31 rfl rfl rfl rfl rfl hm 0 0 rfl (Nat.ble_eq.mp rfl) (lay_all rfl) ?_
          intro w hm
          refine VR.nil ?_
          repeat (first | refine VC.seq ?_ | refine VC.block ?_ | refine VC.skip ?_)
          refine VC.region ?_
          refine VR.pure rfl rfl (p_field (fo := 12) Try.underlying31 rfl Try.sizeOf22 rfl rfl rfl) ?_
          refine VR.store (cs' := (Ah.arr { p.h with c := { p.h.c with from_ := 0 } })) (v := .int _ _) Try.sizeOf22 rfl rfl rfl rfl rfl hm 0 0 rfl (Nat.ble_eq.mp rfl) rfl ?_
          intro w hm
          refine VR.nil ?_
          replace hm : Mem G w ([(b11, .cells (Ah.arr { p.h with c := { p.h.c with from_ := 0 } }) 31 (0, 0))] :: [(g, .cells cur 25 (0, 0))] :: []) := hm
          obtain ⟨K, huK, hm1, hKl, hback⟩ := hm.aside
          have hbl : K.heap b11 = some (.cells (Ah.arr { p.h with c := { p.h.c with from_ := 0 } }) 31 (0, 0)) := hKl _ (.head _) _ (.head _)
          have hbg : K.heap g = some (.cells cur 25 (0, 0)) := hKl _ (.tail _ (.head _)) _ (.head _)
          have hmaK := hma.mono huK.heap
          repeat (first | refine VC.seq ?_ | refine VC.block ?_ | refine VC.skip ?_)
          refine VC.meet (σ := Nat × En × Blks) (fun s => [(0, .slice (some ⟨b, off, none⟩) n c), (1, .slice B m d), (2, .slice C r f), (3, .int .i64 committed), (9, .slice (some ⟨g, 0, none⟩) es.length cap), (10, .int .i64 k), (12, .pointer (some ⟨s.1, 0, none⟩)), (13, .int .i64 (makeCode e.ver 0 (10 * ((k : Int) + 1)) p.h.c.ms))])
            (fun s w => Mem K w ([(s.1, .cells #[.int .i64 s.2.1.ver, .slice s.2.1.A s.2.1.n s.2.1.c] 25 (0, 0))] :: s.2.2 :: []) ∧ s.2.1.abs = makeRes e.ver 0 (10 * ((k : Int) + 1)) p.h.c.ms ∧ s.2.1.n ≤ p.h.c.ms.length ∧ OwnE s.2.1 s.2.2) ?_ ?_
          · repeat (first | refine VC.seq ?_ | refine VC.block ?_ | refine VC.skip ?_)
            refine VC.free (Kept K []) [10, 14, 15] rfl (by kernel_rfl) (Kept.of0 hm1.drew) ?_
            replace hm1 := hm1.drew
            refine VD.pure 0 rfl (by kernel_rfl) rfl rfl (p_moveL rfl) ?_
            refine VD.pure 1 rfl (by kernel_rfl) rfl rfl (p_moveL rfl) ?_
            refine VD.pure 2 rfl (by kernel_rfl) rfl rfl (p_len Try.underlying33 rfl) ?_
            refine VD.pure 3 rfl (by kernel_rfl) rfl rfl (p_sub64E (r := ((es.length - 1 : Nat) : Int)) rfl rfl (by omega) (by omega)) ?_
            refine VD.pure 4 rfl (by kernel_rfl) rfl rfl (p_idxN Try.underlying33 Try.sizeOf25 rfl rfl (by omega : es.length - 1 < es.length)) ?_
            refine VD.read 5 rfl (by kernel_rfl) rfl rfl (fun w' hw' => r_loadAgg (vs := [.int _ _, .slice _ _ _]) Try.isAgg25 Try.sizeOf25 rfl (hw'.fix _ _ hbg) rfl (hat _ e he)) ?_
            refine VD.read 6 rfl (by kernel_rfl) rfl rfl (fun w' hw' => r_loadAgg (vs := (Ah.cs { p.h with c := { p.h.c with from_ := 0 } })) Try.isAgg31 Try.sizeOf31 rfl (hw'.fix _ _ hbl) rfl (agg_at rfl)) ?_
            refine VD.pure 7 rfl (by kernel_rfl) rfl rfl (p_moveI rfl) ?_
            refine VD.pure 8 rfl (by kernel_rfl) rfl rfl (p_add64 rfl rfl (by omega)) ?_
            refine VD.pure 9 rfl (by kernel_rfl) rfl rfl (p_mul64 rfl rfl (by omega)) ?_
            refine VD.turn2 10 14 (by kernel_rfl) ?_ ?_
            refine VDT.call rfl rfl rfl (r_call3 Try.call12 rfl rfl rfl) (make2_c (now := e.ver) (from_ := 0) (n := p.h.c.mn) (c := p.h.mc) (ver := 10 * ((k : Int) + 1)) hm1 hs2 hmaK rfl rfl) ?_
            rintro _ w ⟨x, Lx, rfl, hxa, hxn, hox, hm1⟩
            refine ⟨Kept.of0 hm1, ?_⟩
            refine VD.pure 11 rfl (by kernel_rfl) rfl rfl (p_moveT rfl) ?_
            refine VD.pure 12 rfl (by kernel_rfl) rfl rfl (p_extract rfl rfl) ?_
            refine VD.pure 13 rfl (by kernel_rfl) rfl rfl (p_extract rfl rfl) ?_
            refine VD.turn1 14 (by kernel_rfl) ?_
            refine VDT.new hm1 rfl rfl rfl (n_allocG Try.zeroValue25) (fun b' w' hm' => Kept.of0 hm') ?_
            intro b12 w hm1
            refine VD.turn1 15 (by kernel_rfl) ?_
            refine VDT.store (cs' := #[.int .i64 x.ver, .slice x.A x.n x.c]) (v := .agg _) Try.sizeOf25 rfl rfl rfl rfl rfl rfl hm1 0 0 rfl (Nat.ble_eq.mp rfl) rfl (fun w' hm' => Kept.of0 hm') ?_
            intro w hm1
            refine VD.pure 16 rfl (by kernel_rfl) rfl rfl (p_assignI rfl) ?_
            refine VD.nil (by kernel_rfl) rfl ?_
            rotate_left 1
            refine VDT.new hm1 rfl rfl rfl (n_allocG Try.zeroValue25) (fun b' w' hm' => Kept.of0 hm') ?_
            intro b12 w hm1
            refine VD.turn1 10 (by kernel_rfl) ?_
            refine VDT.call rfl rfl rfl (r_call3 Try.call12 rfl rfl rfl) (make2_c (now := e.ver) (from_ := 0) (n := p.h.c.mn) (c := p.h.mc) (ver := 10 * ((k : Int) + 1)) hm1 hs2 hmaK rfl rfl) ?_
            rintro _ w ⟨x, Lx, rfl, hxa, hxn, hox, hm1⟩
            refine ⟨Kept.of0 hm1, ?_⟩
            refine VD.pure 11 rfl (by kernel_rfl) rfl rfl (p_moveT rfl) ?_
            refine VD.pure 12 rfl (by kernel_rfl) rfl rfl (p_extract rfl rfl) ?_
            refine VD.pure 13 rfl (by kernel_rfl) rfl rfl (p_extract rfl rfl) ?_
            refine VD.turn1 15 (by kernel_rfl) ?_
            refine VDT.store (cs' := #[.int .i64 x.ver, .slice x.A x.n x.c]) (v := .agg _) Try.sizeOf25 rfl rfl rfl rfl rfl rfl hm1 1 0 rfl (Nat.ble_eq.mp rfl) rfl (fun w' hm' => Kept.of0 hm') ?_
            intro w hm1
            refine VD.pure 16 rfl (by kernel_rfl) rfl rfl (p_assignI rfl) ?_
            refine VD.nil (by kernel_rfl) rfl ?_
            rotate_left 1
            · exact ⟨(b12, x, Lx), ⟨rfl, rfl, rfl, rfl, rfl, rfl, rfl, rfl, trivial⟩, hm1, hxa, hxn, hox⟩
            · exact ⟨(b12, x, Lx), ⟨rfl, rfl, rfl, rfl, rfl, rfl, rfl, rfl, trivial⟩, hm1.swap, hxa, hxn, hox⟩
          clear hm1
          rintro ⟨b12, x, Lx⟩ A3 w ⟨hm1, hxa, hxn, hox⟩
          dsimp only at hm1 hxa hxn hox ⊢
          replace hm := hback hm1
          clear hm1 hback hKl hbl hbg hmaK huK
          replace hm : Mem G w ([(b12, .cells #[.int .i64 x.ver, .slice x.A x.n x.c] 25 (0, 0))] :: Lx :: [(b11, .cells (Ah.arr { p.h with c := { p.h.c with from_ := 0 } }) 31 (0, 0))] :: [(g, .cells cur 25 (0, 0))] :: []) := hm
          repeat (first | refine VC.seq ?_ | refine VC.block ?_ | refine VC.skip ?_)
          refine VC.region ?_
          refine VR.pure rfl rfl (p_moveI rfl) ?_
          refine VR.pure rfl rfl (p_ne rfl rfl) ?_
          refine VR.nil ?_
          repeat (first | refine VC.seq ?_ | refine VC.block ?_ | refine VC.skip ?_)
          refine VC.condD rfl (fun h14 => ?_) (fun h14 => ?_)
          · repeat (first | refine VC.seq ?_ | refine VC.block ?_ | refine VC.skip ?_)
            refine VC.exit ?_
            repeat (first | refine VC.seq ?_ | refine VC.block ?_ | refine VC.skip ?_)
            refine VC.region ?_
            refine VR.pure rfl rfl (p_moveI rfl) ?_
            refine VR.pure rfl rfl (p_add64 rfl rfl (by omega)) ?_
            refine VR.pure rfl rfl (p_assignI rfl) ?_
            refine VR.nil ?_
            exact ⟨(k + 1, G, g, cap, cur, es), ⟨rfl, rfl, rfl, rfl, rfl, rfl, trivial⟩, ⟨by simp only; omega, hu, ho, hm.pop.pop.pop, hes, hpos, by simp only; omega⟩, by simp only; omega⟩
          · have h0 : makeCode e.ver 0 (10 * ((k : Int) + 1)) p.h.c.ms = 0 := Classical.not_not.1 h14
            have hx : x.abs = (10 * ((k : Int) + 1), p.h.c.ms) := by rw [hxa]; unfold makeRes; rw [if_pos h0]
            have hxv : x.ver = 10 * ((k : Int) + 1) := congrArg Prod.fst hx
            have hxm : x.ms = p.h.c.ms := congrArg Prod.snd hx
            have hck : checkE x.ver x.ms = 0 := by
              rw [hxv, hxm]
              unfold makeCode at h0
              rw [if_neg (fun h => h.1 rfl)] at h0
              by_cases h1 : checkE (10 * ((k : Int) + 1)) p.h.c.ms ≠ 0
              · rw [if_pos h1] at h0
                omega
              · exact Classical.not_not.1 h1
            have hxc := OwnS.le hox
            obtain ⟨G1, hv1, hm, hG1⟩ := Mem.freezeL (A := [[(b12, .cells #[.int .i64 x.ver, .slice x.A x.n x.c] 25 (0, 0))], Lx, [(b11, .cells (Ah.arr { p.h with c := { p.h.c with from_ := 0 } }) 31 (0, 0))]]) (B := [[(g, .cells cur 25 (0, 0))]]) hm
            have hb12 : G1.heap b12 = some (.cells #[.int .i64 x.ver, .slice x.A x.n x.c] 25 (0, 0)) := hG1 _ (.head _) _ (.head _)
            have hxok : EnOk G1.heap x := ⟨hox.row (hG1 _ (.tail _ (.head _))), hxc.1, hxc.2⟩
            have hes1 : ∀ e ∈ es, EnOk G1.heap e ∧ e.n ≤ 1000 := fun e he => ⟨(hes e he).1.mono hv1.heap, (hes e he).2⟩
            repeat (first | refine VC.seq ?_ | refine VC.block ?_ | refine VC.skip ?_)
            refine VC.region ?_
            refine VR.val rfl rfl (r_loadAgg (vs := [.int _ _, .slice _ _ _]) Try.isAgg25 Try.sizeOf25 rfl (hm.fix _ _ hb12) rfl (agg_at rfl)) ?_
            refine VR.call rfl rfl (r_call1 Try.call27 rfl) (check_c hm (Nat.le_trans hxok.2.1 hxok.2.2) hxok.1) ?_
            rintro _ w ⟨rfl, hm⟩
            refine VR.pure rfl rfl (p_ne rfl rfl) ?_
            refine VR.pure rfl rfl (p_moveB rfl) ?_
            refine VR.knownF 71 rfl (decide_eq_false (not_not_intro hck)) ?_
            refine VR.pureG rfl rfl (p_field (fo := 0) Try.underlying25 rfl Try.sizeOf22 rfl rfl rfl) ?_
            refine VR.valG rfl rfl (r_load (v := .int _ _) Try.isAgg22 rfl (hm.fix _ _ hb12) rfl) ?_
            refine VR.pureG rfl rfl (p_moveI rfl) ?_
            refine VR.pureG rfl rfl (p_add64 rfl rfl (by omega)) ?_
            refine VR.pureG rfl rfl (p_mul64 rfl rfl (by omega)) ?_
            refine VR.pureG rfl rfl (p_ne rfl rfl) ?_
            refine VR.pure rfl rfl (p_pickF rfl rfl) ?_
            refine VR.nil ?_
            repeat (first | refine VC.seq ?_ | refine VC.block ?_ | refine VC.skip ?_)
            refine VC.condF rfl (decide_eq_false (not_not_intro hxv)) ?_
            repeat (first | refine VC.seq ?_ | refine VC.block ?_ | refine VC.skip ?_)
            refine VC.region ?_
            refine VR.pure rfl rfl (p_moveL rfl) ?_
            refine VR.pure rfl rfl (p_moveI rfl) ?_
            refine VR.call rfl rfl (r_call2 Try.call28 rfl rfl) (pick_c (by omega)) ?_
            rintro _ w ⟨⟨i1, hi1, rfl⟩, rfl⟩
            have hact := active_c (committed := i1) hm.all (n := es.length) (c := cap) hcapc (⟨ho.row (hm.plus_mem (.head _)), fun e he => (hes1 e he).1.mono hm.le⟩) (fun e he => by have := (hes1 e he).2; omega)
            refine VR.call rfl rfl (r_call2 Try.call21 rfl rfl) (hact) ?_
            rintro _ w ⟨A14, c14, outs1, L1, bs1, rfl, ho1, hw1, hmap1, hlen1, hm'⟩
            replace hm := hm.back hm'
            refine VR.pure rfl rfl (p_assignL rfl) ?_
            refine VR.nil ?_
            clear hact hm'
            obtain ⟨G2, hv2, hm, hG2⟩ := hm.freezeL
            have hrow1 : ERow G2.heap A14 outs1.length outs1 := ⟨ho1.row (hG2 _ (.head _)), hw1.each fun L hL => hG2 _ (.tail _ (List.mem_append_left _ hL))⟩
            replace hb12 := hv2.heap _ _ hb12
            replace hxok := hxok.mono hv2.heap
            replace hes1 : ∀ e ∈ es, EnOk G2.heap e ∧ e.n ≤ 1000 := fun e he => ⟨(hes1 e he).1.mono hv2.heap, (hes1 e he).2⟩
            repeat (first | refine VC.seq ?_ | refine VC.block ?_ | refine VC.skip ?_)
            refine VC.region ?_
            refine VR.pure rfl rfl (p_moveL rfl) ?_
            refine VR.val rfl rfl (r_loadAgg (vs := [.int _ _, .slice _ _ _]) Try.isAgg25 Try.sizeOf25 rfl (hm.fix _ _ hb12) rfl (agg_at rfl)) ?_
            refine VR.new hm rfl rfl (n_buildSlice (vs := [.agg _]) Try.underlying33 inf25 rfl rfl rfl rfl rfl rfl) ?_
            intro b85 w hm
            replace hm := hm.swap
            refine VR.append (s := 2) (bytes := 32) Try.underlying33 inf25 rfl rfl rfl rfl rfl rfl rfl rfl rfl hm ho (Row.lit (cs := x.cells) (hm.at_ 1 0 rfl)) (x_one x) rfl ⟨by unfold maxLen; omega, by omega⟩ ?_
            intro A9 c9 w L9 ho9 hm
            refine VR.pure rfl rfl (p_assignL rfl) ?_
            refine VR.nil ?_
            replace hm := hm.swap.pop
            have ho2 : OwnS 25 2 A9 (es ++ [x]).length c9 (ecells (es ++ [x])) L9 := by
              rw [ecells_app1, List.length_append]
              exact ho9
            have hslot : Value.slice A9 (es.length + 1) c9 = Value.slice A9 (es ++ [x]).length c9 := by rw [List.length_append]; rfl
            have hesx : ∀ y ∈ es ++ [x], EnOk G2.heap y ∧ y.n ≤ 1000 := fun y hy => by
              rcases List.mem_append.1 hy with hy | hy
              · exact hes1 y hy
              · rw [List.mem_singleton.1 hy]
                exact ⟨hxok, by omega⟩
            have hlx : (es ++ [x]).length = es.length + 1 := by rw [List.length_append]; rfl
            have ho9l := ho9.le
            repeat (first | refine VC.seq ?_ | refine VC.block ?_ | refine VC.skip ?_)
            refine VC.region ?_
            refine VR.pure rfl rfl (p_moveL rfl) ?_
            refine VR.pure rfl rfl (p_moveI rfl) ?_
            refine VR.pure rfl rfl (p_moveI rfl) ?_
            refine VR.pure rfl rfl (p_add64 rfl rfl (by omega)) ?_
            refine VR.pure rfl rfl (p_mul64 rfl rfl (by omega)) ?_
            refine VR.call rfl rfl (r_call2 Try.call28 rfl rfl) (pick_c (by omega)) ?_
            rintro _ w ⟨⟨i2, hi2, rfl⟩, rfl⟩
            have hact := active_c (committed := i2) hm.all (n := es.length + 1) (c := c9) ho9l (⟨by have h1 := ho2.row (hm.plus_mem (.head _)); rwa [hlx] at h1, fun e he => (hesx e he).1.mono hm.le⟩) (fun e he => by have := (hesx e he).2; omega)
            refine VR.call rfl rfl (r_call2 Try.call21 rfl rfl) (hact) ?_
            rintro _ w ⟨A15, c15, outs2, L2, bs2, rfl, ho3, hw2, hmap2, hlen2, hm'⟩
            replace hm := hm.back hm'
            refine VR.pure rfl rfl (p_assignL rfl) ?_
            refine VR.nil ?_
            clear hact hm'
            obtain ⟨G3, hv3, hm, hG3⟩ := hm.freezeL
            have hrow2 : ERow G3.heap A15 outs2.length outs2 := ⟨ho3.row (hG3 _ (.head _)), hw2.each fun L hL => hG3 _ (.tail _ (List.mem_append_left _ hL))⟩
            have hu3 := ((hu.trans hv1).trans hv2).trans hv3
            obtain ⟨o1, ho1m, ho1e⟩ := last_in hmap1 (from_le es i1) he
            have he2 : (es ++ [x])[es.length - 1]? = some e := by rw [List.getElem?_append_left (by omega)]; exact he
            obtain ⟨o2, ho2m, ho2e⟩ := last_in hmap2 (Nat.le_of_eq (from_two (es := es) (x := x) (by omega))) he2
            repeat (first | refine VC.seq ?_ | refine VC.block ?_ | refine VC.skip ?_)
            refine VC.region ?_
            refine VR.pure rfl rfl (p_moveL rfl) ?_
            refine VR.pure rfl rfl (p_moveL rfl) ?_
            refine VR.call rfl rfl (r_call2 Try.call29 rfl rfl) (all_c (ids := before) hm (by unfold maxLen; omega) (hrow1.mono hv3.heap) hmm (hrm.mono hu3.heap)) ?_
            rintro _ w ⟨⟨q1, rfl, hq1⟩, hm⟩
            refine VR.pure rfl rfl (p_moveB rfl) ?_
            refine VR.splitB 97 rfl (fun h20 => ?_) (fun h20 => ?_)
            refine VR.pureG rfl rfl (p_moveL rfl) ?_
            refine VR.pureG rfl rfl (p_moveL rfl) ?_
            refine VR.callG rfl rfl (r_call2 Try.call29 rfl rfl) (all_c (ids := after) hm (by unfold maxLen; omega) hrow2 hrr (hra.mono hu3.heap)) ?_
            rintro _ w ⟨⟨q2, rfl, hq2⟩, hm⟩
            refine VR.pure rfl rfl (p_pickT rfl rfl) ?_
            refine VR.pure rfl rfl (p_moveB rfl) ?_
            refine VR.splitB 102 rfl (fun h21 => ?_) (fun h21 => ?_)
            refine VR.pureG rfl rfl (p_moveL rfl) ?_
            refine VR.pureG rfl rfl (p_moveL rfl) ?_
            refine VR.callG rfl rfl (r_call2 Try.call30 rfl rfl) (meet_c hm hmm hrr (hrm.mono hu3.heap) (hra.mono hu3.heap)) ?_
            rintro _ w ⟨⟨q3, rfl, hq3⟩, hm⟩
            refine VR.pureG rfl rfl (p_not rfl) ?_
            refine VR.pure rfl rfl (p_pickT rfl rfl) ?_
            refine VR.nil ?_
            rotate_left 1
            refine VR.pass rfl rfl ?_
            refine VR.pass rfl rfl ?_
            refine VR.pass rfl rfl ?_
            refine VR.pass rfl rfl ?_
            refine VR.pure rfl rfl (p_pickF rfl rfl) ?_
            refine VR.nil ?_
            rotate_left 1
            refine VR.pass rfl rfl ?_
            refine VR.pass rfl rfl ?_
            refine VR.pass rfl rfl ?_
            refine VR.pure rfl rfl (p_pickF rfl rfl) ?_
            refine VR.pure rfl rfl (p_moveB rfl) ?_
            refine VR.pass rfl rfl ?_
            refine VR.pass rfl rfl ?_
            refine VR.pass rfl rfl ?_
            refine VR.pass rfl rfl ?_
            refine VR.pure rfl rfl (p_pickF rfl rfl) ?_
            refine VR.nil ?_
            rotate_left 1
            · have hmeet := hq3 (quorums_meet (quorum_of ho1e (hq1 h20 o1 ho1m)) (quorum_of ho2e (hq2 h21 o2 ho2m)))
              subst hmeet
              repeat (first | refine VC.seq ?_ | refine VC.block ?_ | refine VC.skip ?_)
              refine VC.condF rfl rfl ?_
              repeat (first | refine VC.seq ?_ | refine VC.block ?_ | refine VC.skip ?_)
              refine VC.region ?_
              refine VR.pure rfl rfl (p_moveI rfl) ?_
              refine VR.pure rfl rfl (p_add64 rfl rfl (by omega)) ?_
              refine VR.pure rfl rfl (p_assignI rfl) ?_
              refine VR.nil ?_
              rcases ho2.2 with ⟨_, hz, _⟩ | ⟨g9, cur9, rfl, rfl, _⟩
              · omega
              · exact ⟨(k + 1, G3, g9, c9, cur9, es ++ [x]), ⟨rfl, rfl, rfl, rfl, hslot, rfl, trivial⟩, ⟨by simp only; omega, hu3, ho2, hm, fun y hy => ⟨(hesx y hy).1.mono hv3.heap, (hesx y hy).2⟩, by simp only; omega, by simp only; omega⟩, by simp only; omega⟩
            · repeat (first | refine VC.seq ?_ | refine VC.block ?_ | refine VC.skip ?_)
              refine VC.condF rfl rfl ?_
              repeat (first | refine VC.seq ?_ | refine VC.block ?_ | refine VC.skip ?_)
              refine VC.region ?_
              refine VR.pure rfl rfl (p_moveI rfl) ?_
              refine VR.pure rfl rfl (p_add64 rfl rfl (by omega)) ?_
              refine VR.pure rfl rfl (p_assignI rfl) ?_
              refine VR.nil ?_
              rcases ho2.2 with ⟨_, hz, _⟩ | ⟨g9, cur9, rfl, rfl, _⟩
              · omega
              · exact ⟨(k + 1, G3, g9, c9, cur9, es ++ [x]), ⟨rfl, rfl, rfl, rfl, hslot, rfl, trivial⟩, ⟨by simp only; omega, hu3, ho2, hm, fun y hy => ⟨(hesx y hy).1.mono hv3.heap, (hesx y hy).2⟩, by simp only; omega, by simp only; omega⟩, by simp only; omega⟩
            · repeat (first | refine VC.seq ?_ | refine VC.block ?_ | refine VC.skip ?_)
              refine VC.condF rfl rfl ?_
              repeat (first | refine VC.seq ?_ | refine VC.block ?_ | refine VC.skip ?_)
              refine VC.region ?_
              refine VR.pure rfl rfl (p_moveI rfl) ?_
              refine VR.pure rfl rfl (p_add64 rfl rfl (by omega)) ?_
              refine VR.pure rfl rfl (p_assignI rfl) ?_
              refine VR.nil ?_
              rcases ho2.2 with ⟨_, hz, _⟩ | ⟨g9, cur9, rfl, rfl, _⟩
              · omega
              · exact ⟨(k + 1, G3, g9, c9, cur9, es ++ [x]), ⟨rfl, rfl, rfl, rfl, hslot, rfl, trivial⟩, ⟨by simp only; omega, hu3, ho2, hm, fun y hy => ⟨(hesx y hy).1.mono hv3.heap, (hesx y hy).2⟩, by simp only; omega, by simp only; omega⟩, by simp only; omega⟩
      · repeat (first | refine VC.seq ?_ | refine VC.block ?_ | refine VC.skip ?_)
        refine VC.exit ?_
        repeat (first | refine VC.seq ?_ | refine VC.block ?_ | refine VC.skip ?_)
        refine VC.region ?_
        refine VR.pure rfl rfl (p_assignB rfl) ?_
        refine VR.nil ?_
        repeat (first | refine VC.seq ?_ | refine VC.block ?_ | refine VC.skip ?_)
        refine VC.ret ⟨_, ResOf.r1 (v := .bool _) rfl rfl, ?_⟩
        exact ⟨rfl, (hm.pop).shrink hu⟩
end Go.Bd
namespace Go.Proofs.Ytinddgigjecofaa
open Go.Bd Go.ChangeShapes Go.WideShapes

set_option maxRecDepth 100000 in
theorem chain_lifted (os : Os) (started : os.Started) (H : Type) (enc : TypeId × Value → H) :
    ReturnsInHanded {} Try.checked os 7 .any (Rows.reformChainSpec.pre6 enc Try.prog Try.f7 Rows.reformChainRow.domain false) (Rows.reformChainSpec.post enc Try.prog Try.f7 false true false false) := by
  refine law_frame (C := Try.checked) (tb := 4) (by kernel_rfl) (by kernel_rfl) started (by kernel_rfl) Try.func7 rfl rfl Try.underlying4 (by kernel_rfl) ?_
    (ChangeSpec.witness6 (enc := enc) (C := Try.checked) false ⟨#[], #[.slice none 0 0, .slice none 0 0, .slice none 0 0, .int .i64 0], []⟩ 8 (by kernel_rfl) (by kernel_rfl) (by kernel_rfl) (by kernel_rfl)) ?_
  · intro ds hl
    match ds, hl with
    | [d1, d2, d3, d4], _ => rfl
  · intro W base args ds p hval hA hwt
    replace hA : DataW.TrodAll enc Try.prog W 0 (fun _ => true) true Try.f7.params.toList args.toList ds p := hA
    rw [Try.params7] at hA hval
    replace hwt : (DataW.weightsEach Try.prog [29, 54, 54, 3] ds).all (· ≤ reachBytes) = true := hwt
    obtain ⟨v0, vs0, d0, ds0, p0, q0, hargs, rfl, rfl, h0, r0⟩ := trodAll_cons hA
    obtain ⟨v1, vs1, d1, ds1, p1, q1, rfl, rfl, rfl, h1, r1⟩ := trodAll_cons r0
    obtain ⟨v2, vs2, d2, ds2, p2, q2, rfl, rfl, rfl, h2, r2⟩ := trodAll_cons r1
    obtain ⟨v3, vs3, d3, ds3, p3, q3, rfl, rfl, rfl, h3, r3⟩ := trodAll_cons r2
    obtain ⟨rfl, rfl, rfl⟩ := trodAll_nil r3
    obtain rfl : args = #[v0, v1, v2, v3] := by cases args; simp_all
    obtain ⟨A1, n1, c1, xs1, rfl, hn1, hc1, hr1, w1, hd1⟩ := arg_ints Try.underlying54 Try.underlying3 (by kernel_rfl) (hval 1 54 v1 rfl rfl) h1
    obtain ⟨A2, n2, c2, xs2, rfl, hn2, hc2, hr2, w2, hd2⟩ := arg_ints Try.underlying54 Try.underlying3 (by kernel_rfl) (hval 2 54 v2 rfl rfl) h2
    obtain ⟨a3, rfl, _, _, w3⟩ := open_int Try.underlying3 (hval 3 3 v3 rfl rfl) h3
    obtain ⟨_, _, _, rfl⟩ := okWide_slice Try.underlying29 (hval 0 29 v0 rfl rfl)
    obtain ⟨fuel, hf⟩ := h0
    obtain ⟨A, n, c, ps, e1, hnc, _, hb, hr, hx, _⟩ := open_rows (cells := Ak.cells) (Q := fun a => ∃ k, Tree (Env.of W).heap k a) Try.underlying29 cells_Ak (by decide) Ak.len (fun n cs y h hw => by
    obtain ⟨a, h1, h2⟩ := open_ask n cs y h hw
    exact ⟨a, h1, n, h2⟩) hf (LightAll.cons hwt).1
    simp [Value.cells] at e1
    obtain ⟨rfl, rfl, rfl⟩ := e1
    rw [bytes_Ak] at hb
    unfold reachBytes at hb
    exact reform_chain_c (Mem.of W) (by omega) hr hx (Nat.le_trans hn1 hc1) hr1 (Nat.le_trans hn2 hc2) hr2

theorem chain : Rows.ReformChainSaid :=
  OpenClaim.holds_of_wide 7 Try.f7 rfl rfl rfl rfl rfl rfl rfl ⟨rfl, rfl, rfl, rfl, rfl⟩ rfl rfl rfl rfl rfl (by kernel_rfl) Try.func7 (by kernel_rfl)
    (of_decide_eq_true (by kernel_rfl)) (by unfold Func.isWrapper; rw [if_neg (of_decide_eq_false (by kernel_rfl))]; exact ⟨rfl, rfl⟩)
    (fun os started H enc _ => chain_lifted os started H enc)
end Go.Proofs.Ytinddgigjecofaa
