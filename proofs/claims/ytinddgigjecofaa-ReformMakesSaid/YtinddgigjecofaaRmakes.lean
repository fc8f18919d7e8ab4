/- ReformMakes: the next config, or why there is none, is what the document tells, of any config, call and version; what is handed in stays, the answers lie apart. Conditions: none. -/
import Derived.Test.Ytinddgigjecofaa22m
import Derived.Test.Ytinddgigjecofaa22s
import Derived.Test.Ytinddgigjecofaa22t
namespace Go.Bd
open Go.Proofs Go.ChangeShapes Go.WideShapes
set_option linter.unusedVariables false
set_option maxRecDepth 20000

theorem m_sz2 {a b : Sl} (ha : a.n ≤ 1000) (hb : b.n ≤ 1000) : ∀ (k : Nat) (it : Sl), [a, b][k]? = some it → it.n ≤ 1000 := fun k it hk => by
  rcases k with _ | _ | k
  · obtain rfl := Option.some.inj (show some a = some it from hk)
    exact ha
  · obtain rfl := Option.some.inj (show some b = some it from hk)
    exact hb
  · simp at hk
theorem m_ens2 {A B : Option Addr} {c d : Nat} {xs ys : List En} {Lx Ly : Blks} (hx : OwnS 25 2 A xs.length c (ecells xs) Lx) (hy : OwnS 25 2 B ys.length d (ecells ys) Ly) :
    All [⟨A, xs.length, c⟩, ⟨B, ys.length, d⟩] [Lx, Ly] (fun k (it : Sl) L => OwnS 25 2 it.A it.n it.c (ecells ([xs, ys].getD k [])) L) := ⟨rfl, fun k it L hk hL => by
  rcases k with _ | _ | k
  · obtain rfl := Option.some.inj (show some (Sl.mk A xs.length c) = some it from hk)
    obtain rfl := Option.some.inj (show some Lx = some L from hL)
    exact hx
  · obtain rfl := Option.some.inj (show some (Sl.mk B ys.length d) = some it from hk)
    obtain rfl := Option.some.inj (show some Ly = some L from hL)
    exact hy
  · simp at hk⟩
theorem m_mem2 {x y : Sl} {Lx Ly : Blks} {Φ : Sl → Blks → Prop} (hx : Φ x Lx) (hy : Φ y Ly) : All [x, y] [Lx, Ly] (fun _ => Φ) := ⟨rfl, fun k it L hk hL => by
  rcases k with _ | _ | k
  · obtain rfl := Option.some.inj (show some x = some it from hk)
    obtain rfl := Option.some.inj (show some Lx = some L from hL)
    exact hx
  · obtain rfl := Option.some.inj (show some y = some it from hk)
    obtain rfl := Option.some.inj (show some Ly = some L from hL)
    exact hy
  · simp at hk⟩
theorem Mem.tailB {F : Env} {w : World} {A B : List Blks} (h : Mem F w (A ++ B)) : Mem F w (B ++ A) := h.permF (by
  simp only [List.flatten_append]
  exact List.perm_append_comm)
theorem Tree.members {H : Nat → Option Obj} : ∀ {k : Nat} {a : Ak}, Tree H k a → MRow H a.h.mA a.h.c.mn a.h.c.ms ∧ Small a.h.c
  | 0, _, h => False.elim h
  | k + 1, .mk x ps, ⟨h1, _, h3, _⟩ => ⟨h3, h1⟩
theorem LentA.kept : ∀ {k : Nat} {a o : Ak} {bs : List Blks}, LentA k a o bs → o.h.c = a.h.c
  | 0, _, _, _, h => False.elim h
  | k + 1, .mk x ps, .mk x' os, bs, h => h.1

theorem great1_c {F : Env} {w : World} {Ls : List Blks} {A : Option Addr} {n c : Nat} {es : List En} (hm : Mem F w Ls) (hn : n ≤ 4611686018427387904) (hr : ERow F.heap A n es) (hsm : ∀ e ∈ es, e.n ≤ 4611686018427387904) :
    Calls Try.prog 8 #[.slice A n c] w (Ret fun v w' => ∃ b : Bool, v = .bool b ∧ (b = false → n ≤ 3000 ∧ (es.map En.n).sum ≤ 3000) ∧ Mem F w' Ls) :=
  Ret.mono (great_c hm hn hr hsm) fun v w' h => by
    obtain ⟨hv, hm⟩ := h
    rcases hv with rfl | ⟨rfl, h1, h2⟩
    · exact ⟨true, rfl, (fun h => by cases h), hm⟩
    · exact ⟨false, rfl, (fun _ => ⟨h1, h2⟩), hm⟩
set_option maxHeartbeats 8000000 in
theorem reform_makes_c {F : Env} {w : World} {e : En} {k : Nat} {a : Ak} {ver : Int} (hm : Mem F w []) (he : EnOk F.heap e) (hc : e.c * 32 ≤ reachBytes) (ht : Tree F.heap k a) :
    Calls Try.prog 3 #[.agg #[.int .i64 e.ver, .slice e.A e.n e.c], .agg a.h.arr, .int .i64 ver] w (Ret fun v w' => v = .bool true ∧ Mem F w' []) := by
  unfold reachBytes at hc
  obtain ⟨her, hen, hec⟩ := he
  refine Calls.of_vc Try.func3 rfl Try.ntmps3 rfl ?_
  repeat (first | refine VC.seq ?_ | refine VC.block ?_ | refine VC.skip ?_)
  refine VC.region ?_
  refine VR.new hm rfl rfl (n_boxG rfl) ?_
  intro b3 w hm
  refine VR.new hm rfl rfl (n_boxG rfl) ?_
  intro b4 w hm
  refine VR.pure rfl rfl (p_assignB rfl) ?_
  refine VR.nil ?_
  obtain ⟨F1, hu1, hm, hb4'⟩ := hm.freeze
  obtain ⟨G, hu2, hm, hb3'⟩ := hm.freeze
  have hb3 : G.heap b3 = some (.cells #[.int .i64 e.ver, .slice e.A e.n e.c] 25 (0, 0)) := hb3' _ (.head _)
  have hb4 : G.heap b4 = some (.cells a.h.arr 31 (0, 0)) := hu2.heap _ _ (hb4' _ (.head _))
  have hu := hu1.trans hu2
  clear hb3' hb4'
  have htG : Tree G.heap k a := Tree.mono hu.heap k a ht
  have herG := her.mono hu.heap
  have done : ∀ {w' : World}, Mem G w' [] → Mem F w' [] := fun h => h.shrink hu
  obtain ⟨hma, hsm⟩ := htG.members
  obtain ⟨hs1, hs2, hs3⟩ := hsm
  repeat (first | refine VC.seq ?_ | refine VC.block ?_ | refine VC.skip ?_)
  refine VC.region ?_
  refine VR.val rfl rfl (r_loadAgg (vs := [.int _ _, .slice _ _ _]) Try.isAgg25 Try.sizeOf25 rfl (hm.fix _ _ hb3) rfl (agg_at rfl)) ?_
  refine VR.new hm rfl rfl (n_buildSlice (vs := [.agg _]) Try.underlying33 inf25 rfl rfl rfl rfl rfl rfl) ?_
  intro b16 w hm
  have hgc := great1_c (es := [e]) (c := 1) hm.all (by decide) ⟨(Row.lit (cs := [.int .i64 e.ver, .slice e.A e.n e.c]) (hm.plus_at 0 0 rfl)), fun x hx => by rw [List.mem_singleton.1 hx]; exact ⟨herG.mono hm.le, hen, hec⟩⟩ (fun x hx => by rw [List.mem_singleton.1 hx]; omega)
  refine VR.call rfl rfl (r_call1 Try.call8 rfl) (hgc) ?_
  rintro _ w ⟨gb, rfl, hgb, hm'⟩
  replace hm := hm.back0 hm'
  refine VR.pure rfl rfl (p_moveB rfl) ?_
  refine VR.splitB 18 rfl (fun h3 => ?_) (fun h3 => ?_)
  refine VR.pass rfl rfl ?_
  refine VR.pass rfl rfl ?_
  refine VR.pass rfl rfl ?_
  refine VR.pass rfl rfl ?_
  refine VR.pure rfl rfl (p_pickT rfl rfl) ?_
  refine VR.pure rfl rfl (p_moveB rfl) ?_
  refine VR.pass rfl rfl ?_
  refine VR.pass rfl rfl ?_
  refine VR.pass rfl rfl ?_
  refine VR.pass rfl rfl ?_
  refine VR.pure rfl rfl (p_pickT rfl rfl) ?_
  refine VR.pure rfl rfl (p_moveB rfl) ?_
  refine VR.pass rfl rfl ?_
  refine VR.pass rfl rfl ?_
  refine VR.pass rfl rfl ?_
  refine VR.pass rfl rfl ?_
  refine VR.pure rfl rfl (p_pickT rfl rfl) ?_
  refine VR.nil ?_
  rotate_left 1
  refine VR.pureG rfl rfl (p_field (fo := 13) Try.underlying31 rfl Try.sizeOf23 rfl rfl rfl) ?_
  refine VR.valG rfl rfl (r_load (v := .slice _ _ _) Try.isAgg23 rfl (hm.fix _ _ hb4) rfl) ?_
  refine VR.pureG rfl rfl (p_len Try.underlying23 rfl) ?_
  refine VR.pureG rfl rfl (p_gt rfl rfl) ?_
  refine VR.pure rfl rfl (p_pickF rfl rfl) ?_
  refine VR.pure rfl rfl (p_moveB rfl) ?_
  refine VR.splitD 24 rfl (fun h9 => ?_) (fun h9 => ?_)
  refine VR.pass rfl rfl ?_
  refine VR.pass rfl rfl ?_
  refine VR.pass rfl rfl ?_
  refine VR.pass rfl rfl ?_
  refine VR.pure rfl rfl (p_pickT rfl rfl) ?_
  refine VR.pure rfl rfl (p_moveB rfl) ?_
  refine VR.pass rfl rfl ?_
  refine VR.pass rfl rfl ?_
  refine VR.pass rfl rfl ?_
  refine VR.pass rfl rfl ?_
  refine VR.pure rfl rfl (p_pickT rfl rfl) ?_
  refine VR.nil ?_
  rotate_left 1
  refine VR.pureG rfl rfl (p_field (fo := 14) Try.underlying31 rfl Try.sizeOf29 rfl rfl rfl) ?_
  refine VR.valG rfl rfl (r_load (v := .slice _ _ _) Try.isAgg29 rfl (hm.fix _ _ hb4) rfl) ?_
  refine VR.pureG rfl rfl (p_len Try.underlying29 rfl) ?_
  refine VR.pureG rfl rfl (p_gt rfl rfl) ?_
  refine VR.pure rfl rfl (p_pickF rfl rfl) ?_
  refine VR.pure rfl rfl (p_moveB rfl) ?_
  refine VR.splitD 30 rfl (fun h15 => ?_) (fun h15 => ?_)
  refine VR.pass rfl rfl ?_
  refine VR.pass rfl rfl ?_
  refine VR.pass rfl rfl ?_
  refine VR.pass rfl rfl ?_
  refine VR.pure rfl rfl (p_pickT rfl rfl) ?_
  refine VR.nil ?_
  rotate_left 1
  refine VR.pureG rfl rfl (p_field (fo := 5) Try.underlying31 rfl Try.sizeOf27 rfl rfl rfl) ?_
  refine VR.valG rfl rfl (r_load (v := .slice _ _ _) Try.isAgg27 rfl (hm.fix _ _ hb4) rfl) ?_
  refine VR.pureG rfl rfl (p_len Try.underlying27 rfl) ?_
  refine VR.pureG rfl rfl (p_gt rfl rfl) ?_
  refine VR.pure rfl rfl (p_pickF rfl rfl) ?_
  refine VR.nil ?_
  rotate_left 1
  · repeat (first | refine VC.seq ?_ | refine VC.block ?_ | refine VC.skip ?_)
    refine VC.condT rfl rfl ?_
    repeat (first | refine VC.seq ?_ | refine VC.block ?_ | refine VC.skip ?_)
    refine VC.region ?_
    refine VR.call rfl rfl (r_call0 Try.call9) (awake_c hm) ?_
    rintro _ w ⟨rfl, hm⟩
    refine VR.pure rfl rfl (p_assignB rfl) ?_
    refine VR.nil ?_
    repeat (first | refine VC.seq ?_ | refine VC.block ?_ | refine VC.skip ?_)
    refine VC.ret ⟨_, ResOf.r1 (v := .bool _) rfl rfl, ?_⟩
    exact ⟨rfl, done hm.pop⟩
  · repeat (first | refine VC.seq ?_ | refine VC.block ?_ | refine VC.skip ?_)
    refine VC.condT rfl rfl ?_
    repeat (first | refine VC.seq ?_ | refine VC.block ?_ | refine VC.skip ?_)
    refine VC.region ?_
    refine VR.call rfl rfl (r_call0 Try.call9) (awake_c hm) ?_
    rintro _ w ⟨rfl, hm⟩
    refine VR.pure rfl rfl (p_assignB rfl) ?_
    refine VR.nil ?_
    repeat (first | refine VC.seq ?_ | refine VC.block ?_ | refine VC.skip ?_)
    refine VC.ret ⟨_, ResOf.r1 (v := .bool _) rfl rfl, ?_⟩
    exact ⟨rfl, done hm.pop⟩
  · repeat (first | refine VC.seq ?_ | refine VC.block ?_ | refine VC.skip ?_)
    refine VC.condT rfl rfl ?_
    repeat (first | refine VC.seq ?_ | refine VC.block ?_ | refine VC.skip ?_)
    refine VC.region ?_
    refine VR.call rfl rfl (r_call0 Try.call9) (awake_c hm) ?_
    rintro _ w ⟨rfl, hm⟩
    refine VR.pure rfl rfl (p_assignB rfl) ?_
    refine VR.nil ?_
    repeat (first | refine VC.seq ?_ | refine VC.block ?_ | refine VC.skip ?_)
    refine VC.ret ⟨_, ResOf.r1 (v := .bool _) rfl rfl, ?_⟩
    exact ⟨rfl, done hm.pop⟩
  · repeat (first | refine VC.seq ?_ | refine VC.block ?_ | refine VC.skip ?_)
    refine VC.condD rfl (fun h20 => ?_) (fun h20 => ?_)
    · repeat (first | refine VC.seq ?_ | refine VC.block ?_ | refine VC.skip ?_)
      refine VC.region ?_
      refine VR.call rfl rfl (r_call0 Try.call9) (awake_c hm) ?_
      rintro _ w ⟨rfl, hm⟩
      refine VR.pure rfl rfl (p_assignB rfl) ?_
      refine VR.nil ?_
      repeat (first | refine VC.seq ?_ | refine VC.block ?_ | refine VC.skip ?_)
      refine VC.ret ⟨_, ResOf.r1 (v := .bool _) rfl rfl, ?_⟩
      exact ⟨rfl, done hm.pop⟩
    · have hm0 := hm.pop
      clear hm
      have hn3 : e.n ≤ 3000 := by
        have := (hgb h3).2
        simpa using this
      have hpn : a.h.c.pn ≤ 100 := by omega
      repeat (first | refine VC.seq ?_ | refine VC.block ?_ | refine VC.skip ?_)
      refine VC.meet (σ := En × Blks × Ak × List Blks × Nat × Nat) (fun s => [(2, .int .i64 ver), (3, .pointer (some ⟨b3, 0, none⟩)), (4, .pointer (some ⟨b4, 0, none⟩)), (6, .bool false), (7, .pointer (some ⟨s.2.2.2.2.1, 0, none⟩)), (8, .pointer (some ⟨s.2.2.2.2.2, 0, none⟩))])
        (fun s w => Mem G w ([(s.2.2.2.2.1, .cells #[.int .i64 s.1.ver, .slice s.1.A s.1.n s.1.c] 25 (0, 0))] :: [(s.2.2.2.2.2, .cells s.2.2.1.h.arr 31 (0, 0))] :: s.2.1 :: s.2.2.2.1) ∧ LentE e s.1 s.2.1 ∧ LentA k a s.2.2.1 s.2.2.2.1) ?_ ?_
      · repeat (first | refine VC.seq ?_ | refine VC.block ?_ | refine VC.skip ?_)
        refine VC.free (Kept G []) [1, 3, 4, 5, 6, 7] rfl (by kernel_rfl) (Kept.of0 hm0.drew) ?_
        replace hm0 := hm0.drew
        refine VD.read 0 rfl (by kernel_rfl) rfl rfl (fun w' hw' => r_loadAgg (vs := [.int _ _, .slice _ _ _]) Try.isAgg25 Try.sizeOf25 rfl (hw'.fix _ _ hb3) rfl (agg_at rfl)) ?_
        refine VD.read 2 rfl (by kernel_rfl) rfl rfl (fun w' hw' => r_loadAgg (vs := a.h.cs) Try.isAgg31 Try.sizeOf31 rfl (hw'.fix _ _ hb4) rfl (agg_at rfl)) ?_
        refine VD.turn3 1 4 5 (by kernel_rfl) ?_ ?_ ?_
        refine VDT.call rfl rfl rfl (r_call1 Try.call10 rfl) (lentE_c hm0 (by omega) herG) ?_
        rintro _ w ⟨o, L, rfl, hlo, hm0⟩
        refine ⟨Kept.of0 hm0, ?_⟩
        refine VD.turn3 3 4 5 (by kernel_rfl) ?_ ?_ ?_
        refine VDT.call rfl rfl rfl (r_call1 Try.call11 rfl) (lentA_c k _ _ _ a hm0 htG) ?_
        rintro _ w ⟨ao, bs, rfl, hla, hm0⟩
        replace hm0 := hm0.tailB
        simp only [List.cons_append, List.nil_append] at hm0
        refine ⟨Kept.of0 hm0, ?_⟩
        refine VD.turn2 4 5 (by kernel_rfl) ?_ ?_
        refine VDT.new hm0 rfl rfl rfl (n_allocG Try.zeroValue25) (fun b' w' hm' => Kept.of0 hm') ?_
        intro b7 w hm0
        refine VD.turn1 5 (by kernel_rfl) ?_
        refine VDT.new hm0 rfl rfl rfl (n_allocG Try.zeroValue31) (fun b' w' hm' => Kept.of0 hm') ?_
        intro b8 w hm0
        refine VD.turn1 6 (by kernel_rfl) ?_
        refine VDT.store (cs' := #[.int .i64 o.ver, .slice o.A o.n o.c]) (v := .agg _) Try.sizeOf25 rfl rfl rfl rfl rfl rfl hm0 1 0 rfl (Nat.ble_eq.mp rfl) rfl (fun w' hm' => Kept.of0 hm') ?_
        intro w hm0
        refine VD.turn1 7 (by kernel_rfl) ?_
        refine VDT.store (cs' := ao.h.arr) (v := .agg _) Try.sizeOf31 rfl rfl rfl rfl rfl rfl hm0 0 0 rfl (Nat.ble_eq.mp rfl) (lay_all rfl) (fun w' hm' => Kept.of0 hm') ?_
        intro w hm0
        refine VD.nil (by kernel_rfl) rfl ?_
        rotate_left 1
        refine VDT.new hm0 rfl rfl rfl (n_allocG Try.zeroValue31) (fun b' w' hm' => Kept.of0 hm') ?_
        intro b8 w hm0
        refine VD.turn1 4 (by kernel_rfl) ?_
        refine VDT.new hm0 rfl rfl rfl (n_allocG Try.zeroValue25) (fun b' w' hm' => Kept.of0 hm') ?_
        intro b7 w hm0
        refine VD.turn1 6 (by kernel_rfl) ?_
        refine VDT.store (cs' := #[.int .i64 o.ver, .slice o.A o.n o.c]) (v := .agg _) Try.sizeOf25 rfl rfl rfl rfl rfl rfl hm0 0 0 rfl (Nat.ble_eq.mp rfl) rfl (fun w' hm' => Kept.of0 hm') ?_
        intro w hm0
        refine VD.turn1 7 (by kernel_rfl) ?_
        refine VDT.store (cs' := ao.h.arr) (v := .agg _) Try.sizeOf31 rfl rfl rfl rfl rfl rfl hm0 1 0 rfl (Nat.ble_eq.mp rfl) (lay_all rfl) (fun w' hm' => Kept.of0 hm') ?_
        intro w hm0
        refine VD.nil (by kernel_rfl) rfl ?_
        rotate_left 1
        refine VDT.new hm0 rfl rfl rfl (n_allocG Try.zeroValue25) (fun b' w' hm' => Kept.of0 hm') ?_
        intro b7 w hm0
        refine VD.turn2 3 5 (by kernel_rfl) ?_ ?_
        refine VDT.call rfl rfl rfl (r_call1 Try.call11 rfl) (lentA_c k _ _ _ a hm0 htG) ?_
        rintro _ w ⟨ao, bs, rfl, hla, hm0⟩
        replace hm0 := hm0.tailB
        simp only [List.cons_append, List.nil_append] at hm0
        refine ⟨Kept.of0 hm0, ?_⟩
        refine VD.turn1 5 (by kernel_rfl) ?_
        refine VDT.new hm0 rfl rfl rfl (n_allocG Try.zeroValue31) (fun b' w' hm' => Kept.of0 hm') ?_
        intro b8 w hm0
        refine VD.turn1 6 (by kernel_rfl) ?_
        refine VDT.store (cs' := #[.int .i64 o.ver, .slice o.A o.n o.c]) (v := .agg _) Try.sizeOf25 rfl rfl rfl rfl rfl rfl hm0 1 0 rfl (Nat.ble_eq.mp rfl) rfl (fun w' hm' => Kept.of0 hm') ?_
        intro w hm0
        refine VD.turn1 7 (by kernel_rfl) ?_
        refine VDT.store (cs' := ao.h.arr) (v := .agg _) Try.sizeOf31 rfl rfl rfl rfl rfl rfl hm0 0 0 rfl (Nat.ble_eq.mp rfl) (lay_all rfl) (fun w' hm' => Kept.of0 hm') ?_
        intro w hm0
        refine VD.nil (by kernel_rfl) rfl ?_
        rotate_left 1
        refine VDT.new hm0 rfl rfl rfl (n_allocG Try.zeroValue31) (fun b' w' hm' => Kept.of0 hm') ?_
        intro b8 w hm0
        refine VD.turn1 3 (by kernel_rfl) ?_
        refine VDT.call rfl rfl rfl (r_call1 Try.call11 rfl) (lentA_c k _ _ _ a hm0 htG) ?_
        rintro _ w ⟨ao, bs, rfl, hla, hm0⟩
        replace hm0 := hm0.tailB
        simp only [List.cons_append, List.nil_append] at hm0
        refine ⟨Kept.of0 hm0, ?_⟩
        refine VD.turn1 6 (by kernel_rfl) ?_
        refine VDT.store (cs' := #[.int .i64 o.ver, .slice o.A o.n o.c]) (v := .agg _) Try.sizeOf25 rfl rfl rfl rfl rfl rfl hm0 1 0 rfl (Nat.ble_eq.mp rfl) rfl (fun w' hm' => Kept.of0 hm') ?_
        intro w hm0
        refine VD.turn1 7 (by kernel_rfl) ?_
        refine VDT.store (cs' := ao.h.arr) (v := .agg _) Try.sizeOf31 rfl rfl rfl rfl rfl rfl hm0 0 0 rfl (Nat.ble_eq.mp rfl) (lay_all rfl) (fun w' hm' => Kept.of0 hm') ?_
        intro w hm0
        refine VD.nil (by kernel_rfl) rfl ?_
        rotate_left 1
        refine VDT.new hm0 rfl rfl rfl (n_allocG Try.zeroValue31) (fun b' w' hm' => Kept.of0 hm') ?_
        intro b8 w hm0
        refine VD.turn2 3 4 (by kernel_rfl) ?_ ?_
        refine VDT.call rfl rfl rfl (r_call1 Try.call11 rfl) (lentA_c k _ _ _ a hm0 htG) ?_
        rintro _ w ⟨ao, bs, rfl, hla, hm0⟩
        replace hm0 := hm0.tailB
        simp only [List.cons_append, List.nil_append] at hm0
        refine ⟨Kept.of0 hm0, ?_⟩
        refine VD.turn1 4 (by kernel_rfl) ?_
        refine VDT.new hm0 rfl rfl rfl (n_allocG Try.zeroValue25) (fun b' w' hm' => Kept.of0 hm') ?_
        intro b7 w hm0
        refine VD.turn1 6 (by kernel_rfl) ?_
        refine VDT.store (cs' := #[.int .i64 o.ver, .slice o.A o.n o.c]) (v := .agg _) Try.sizeOf25 rfl rfl rfl rfl rfl rfl hm0 0 0 rfl (Nat.ble_eq.mp rfl) rfl (fun w' hm' => Kept.of0 hm') ?_
        intro w hm0
        refine VD.turn1 7 (by kernel_rfl) ?_
        refine VDT.store (cs' := ao.h.arr) (v := .agg _) Try.sizeOf31 rfl rfl rfl rfl rfl rfl hm0 1 0 rfl (Nat.ble_eq.mp rfl) (lay_all rfl) (fun w' hm' => Kept.of0 hm') ?_
        intro w hm0
        refine VD.nil (by kernel_rfl) rfl ?_
        rotate_left 1
        refine VDT.new hm0 rfl rfl rfl (n_allocG Try.zeroValue25) (fun b' w' hm' => Kept.of0 hm') ?_
        intro b7 w hm0
        refine VD.turn1 3 (by kernel_rfl) ?_
        refine VDT.call rfl rfl rfl (r_call1 Try.call11 rfl) (lentA_c k _ _ _ a hm0 htG) ?_
        rintro _ w ⟨ao, bs, rfl, hla, hm0⟩
        replace hm0 := hm0.tailB
        simp only [List.cons_append, List.nil_append] at hm0
        refine ⟨Kept.of0 hm0, ?_⟩
        refine VD.turn1 6 (by kernel_rfl) ?_
        refine VDT.store (cs' := #[.int .i64 o.ver, .slice o.A o.n o.c]) (v := .agg _) Try.sizeOf25 rfl rfl rfl rfl rfl rfl hm0 0 0 rfl (Nat.ble_eq.mp rfl) rfl (fun w' hm' => Kept.of0 hm') ?_
        intro w hm0
        refine VD.turn1 7 (by kernel_rfl) ?_
        refine VDT.store (cs' := ao.h.arr) (v := .agg _) Try.sizeOf31 rfl rfl rfl rfl rfl rfl hm0 1 0 rfl (Nat.ble_eq.mp rfl) (lay_all rfl) (fun w' hm' => Kept.of0 hm') ?_
        intro w hm0
        refine VD.nil (by kernel_rfl) rfl ?_
        rotate_left 1
        refine VDT.new hm0 rfl rfl rfl (n_allocG Try.zeroValue25) (fun b' w' hm' => Kept.of0 hm') ?_
        intro b7 w hm0
        refine VD.turn2 1 5 (by kernel_rfl) ?_ ?_
        refine VDT.call rfl rfl rfl (r_call1 Try.call10 rfl) (lentE_c hm0 (by omega) herG) ?_
        rintro _ w ⟨o, L, rfl, hlo, hm0⟩
        refine ⟨Kept.of0 hm0, ?_⟩
        refine VD.turn2 3 5 (by kernel_rfl) ?_ ?_
        refine VDT.call rfl rfl rfl (r_call1 Try.call11 rfl) (lentA_c k _ _ _ a hm0 htG) ?_
        rintro _ w ⟨ao, bs, rfl, hla, hm0⟩
        replace hm0 := hm0.tailB
        simp only [List.cons_append, List.nil_append] at hm0
        refine ⟨Kept.of0 hm0, ?_⟩
        refine VD.turn1 5 (by kernel_rfl) ?_
        refine VDT.new hm0 rfl rfl rfl (n_allocG Try.zeroValue31) (fun b' w' hm' => Kept.of0 hm') ?_
        intro b8 w hm0
        refine VD.turn1 6 (by kernel_rfl) ?_
        refine VDT.store (cs' := #[.int .i64 o.ver, .slice o.A o.n o.c]) (v := .agg _) Try.sizeOf25 rfl rfl rfl rfl rfl rfl hm0 2 0 rfl (Nat.ble_eq.mp rfl) rfl (fun w' hm' => Kept.of0 hm') ?_
        intro w hm0
        refine VD.turn1 7 (by kernel_rfl) ?_
        refine VDT.store (cs' := ao.h.arr) (v := .agg _) Try.sizeOf31 rfl rfl rfl rfl rfl rfl hm0 0 0 rfl (Nat.ble_eq.mp rfl) (lay_all rfl) (fun w' hm' => Kept.of0 hm') ?_
        intro w hm0
        refine VD.nil (by kernel_rfl) rfl ?_
        rotate_left 1
        refine VDT.new hm0 rfl rfl rfl (n_allocG Try.zeroValue31) (fun b' w' hm' => Kept.of0 hm') ?_
        intro b8 w hm0
        refine VD.turn1 3 (by kernel_rfl) ?_
        refine VDT.call rfl rfl rfl (r_call1 Try.call11 rfl) (lentA_c k _ _ _ a hm0 htG) ?_
        rintro _ w ⟨ao, bs, rfl, hla, hm0⟩
        replace hm0 := hm0.tailB
        simp only [List.cons_append, List.nil_append] at hm0
        refine ⟨Kept.of0 hm0, ?_⟩
        refine VD.turn1 6 (by kernel_rfl) ?_
        refine VDT.store (cs' := #[.int .i64 o.ver, .slice o.A o.n o.c]) (v := .agg _) Try.sizeOf25 rfl rfl rfl rfl rfl rfl hm0 2 0 rfl (Nat.ble_eq.mp rfl) rfl (fun w' hm' => Kept.of0 hm') ?_
        intro w hm0
        refine VD.turn1 7 (by kernel_rfl) ?_
        refine VDT.store (cs' := ao.h.arr) (v := .agg _) Try.sizeOf31 rfl rfl rfl rfl rfl rfl hm0 0 0 rfl (Nat.ble_eq.mp rfl) (lay_all rfl) (fun w' hm' => Kept.of0 hm') ?_
        intro w hm0
        refine VD.nil (by kernel_rfl) rfl ?_
        rotate_left 1
        refine VDT.new hm0 rfl rfl rfl (n_allocG Try.zeroValue31) (fun b' w' hm' => Kept.of0 hm') ?_
        intro b8 w hm0
        refine VD.turn1 1 (by kernel_rfl) ?_
        refine VDT.call rfl rfl rfl (r_call1 Try.call10 rfl) (lentE_c hm0 (by omega) herG) ?_
        rintro _ w ⟨o, L, rfl, hlo, hm0⟩
        refine ⟨Kept.of0 hm0, ?_⟩
        refine VD.turn1 3 (by kernel_rfl) ?_
        refine VDT.call rfl rfl rfl (r_call1 Try.call11 rfl) (lentA_c k _ _ _ a hm0 htG) ?_
        rintro _ w ⟨ao, bs, rfl, hla, hm0⟩
        replace hm0 := hm0.tailB
        simp only [List.cons_append, List.nil_append] at hm0
        refine ⟨Kept.of0 hm0, ?_⟩
        refine VD.turn1 6 (by kernel_rfl) ?_
        refine VDT.store (cs' := #[.int .i64 o.ver, .slice o.A o.n o.c]) (v := .agg _) Try.sizeOf25 rfl rfl rfl rfl rfl rfl hm0 2 0 rfl (Nat.ble_eq.mp rfl) rfl (fun w' hm' => Kept.of0 hm') ?_
        intro w hm0
        refine VD.turn1 7 (by kernel_rfl) ?_
        refine VDT.store (cs' := ao.h.arr) (v := .agg _) Try.sizeOf31 rfl rfl rfl rfl rfl rfl hm0 1 0 rfl (Nat.ble_eq.mp rfl) (lay_all rfl) (fun w' hm' => Kept.of0 hm') ?_
        intro w hm0
        refine VD.nil (by kernel_rfl) rfl ?_
        rotate_left 1
        refine VDT.new hm0 rfl rfl rfl (n_allocG Try.zeroValue31) (fun b' w' hm' => Kept.of0 hm') ?_
        intro b8 w hm0
        refine VD.turn2 1 4 (by kernel_rfl) ?_ ?_
        refine VDT.call rfl rfl rfl (r_call1 Try.call10 rfl) (lentE_c hm0 (by omega) herG) ?_
        rintro _ w ⟨o, L, rfl, hlo, hm0⟩
        refine ⟨Kept.of0 hm0, ?_⟩
        refine VD.turn2 3 4 (by kernel_rfl) ?_ ?_
        refine VDT.call rfl rfl rfl (r_call1 Try.call11 rfl) (lentA_c k _ _ _ a hm0 htG) ?_
        rintro _ w ⟨ao, bs, rfl, hla, hm0⟩
        replace hm0 := hm0.tailB
        simp only [List.cons_append, List.nil_append] at hm0
        refine ⟨Kept.of0 hm0, ?_⟩
        refine VD.turn1 4 (by kernel_rfl) ?_
        refine VDT.new hm0 rfl rfl rfl (n_allocG Try.zeroValue25) (fun b' w' hm' => Kept.of0 hm') ?_
        intro b7 w hm0
        refine VD.turn1 6 (by kernel_rfl) ?_
        refine VDT.store (cs' := #[.int .i64 o.ver, .slice o.A o.n o.c]) (v := .agg _) Try.sizeOf25 rfl rfl rfl rfl rfl rfl hm0 0 0 rfl (Nat.ble_eq.mp rfl) rfl (fun w' hm' => Kept.of0 hm') ?_
        intro w hm0
        refine VD.turn1 7 (by kernel_rfl) ?_
        refine VDT.store (cs' := ao.h.arr) (v := .agg _) Try.sizeOf31 rfl rfl rfl rfl rfl rfl hm0 2 0 rfl (Nat.ble_eq.mp rfl) (lay_all rfl) (fun w' hm' => Kept.of0 hm') ?_
        intro w hm0
        refine VD.nil (by kernel_rfl) rfl ?_
        rotate_left 1
        refine VDT.new hm0 rfl rfl rfl (n_allocG Try.zeroValue25) (fun b' w' hm' => Kept.of0 hm') ?_
        intro b7 w hm0
        refine VD.turn1 3 (by kernel_rfl) ?_
        refine VDT.call rfl rfl rfl (r_call1 Try.call11 rfl) (lentA_c k _ _ _ a hm0 htG) ?_
        rintro _ w ⟨ao, bs, rfl, hla, hm0⟩
        replace hm0 := hm0.tailB
        simp only [List.cons_append, List.nil_append] at hm0
        refine ⟨Kept.of0 hm0, ?_⟩
        refine VD.turn1 6 (by kernel_rfl) ?_
        refine VDT.store (cs' := #[.int .i64 o.ver, .slice o.A o.n o.c]) (v := .agg _) Try.sizeOf25 rfl rfl rfl rfl rfl rfl hm0 0 0 rfl (Nat.ble_eq.mp rfl) rfl (fun w' hm' => Kept.of0 hm') ?_
        intro w hm0
        refine VD.turn1 7 (by kernel_rfl) ?_
        refine VDT.store (cs' := ao.h.arr) (v := .agg _) Try.sizeOf31 rfl rfl rfl rfl rfl rfl hm0 2 0 rfl (Nat.ble_eq.mp rfl) (lay_all rfl) (fun w' hm' => Kept.of0 hm') ?_
        intro w hm0
        refine VD.nil (by kernel_rfl) rfl ?_
        rotate_left 1
        refine VDT.new hm0 rfl rfl rfl (n_allocG Try.zeroValue25) (fun b' w' hm' => Kept.of0 hm') ?_
        intro b7 w hm0
        refine VD.turn1 1 (by kernel_rfl) ?_
        refine VDT.call rfl rfl rfl (r_call1 Try.call10 rfl) (lentE_c hm0 (by omega) herG) ?_
        rintro _ w ⟨o, L, rfl, hlo, hm0⟩
        refine ⟨Kept.of0 hm0, ?_⟩
        refine VD.turn1 3 (by kernel_rfl) ?_
        refine VDT.call rfl rfl rfl (r_call1 Try.call11 rfl) (lentA_c k _ _ _ a hm0 htG) ?_
        rintro _ w ⟨ao, bs, rfl, hla, hm0⟩
        replace hm0 := hm0.tailB
        simp only [List.cons_append, List.nil_append] at hm0
        refine ⟨Kept.of0 hm0, ?_⟩
        refine VD.turn1 6 (by kernel_rfl) ?_
        refine VDT.store (cs' := #[.int .i64 o.ver, .slice o.A o.n o.c]) (v := .agg _) Try.sizeOf25 rfl rfl rfl rfl rfl rfl hm0 1 0 rfl (Nat.ble_eq.mp rfl) rfl (fun w' hm' => Kept.of0 hm') ?_
        intro w hm0
        refine VD.turn1 7 (by kernel_rfl) ?_
        refine VDT.store (cs' := ao.h.arr) (v := .agg _) Try.sizeOf31 rfl rfl rfl rfl rfl rfl hm0 2 0 rfl (Nat.ble_eq.mp rfl) (lay_all rfl) (fun w' hm' => Kept.of0 hm') ?_
        intro w hm0
        refine VD.nil (by kernel_rfl) rfl ?_
        rotate_left 1
        all_goals
          refine ⟨(o, L, ao, bs, b7, b8), ⟨rfl, rfl, rfl, rfl, rfl, rfl, trivial⟩, ?_, hlo, hla⟩
          simp only [mset, bset] at hm0
          first
            | exact hm0
            | exact hm0.pull 1 rfl
            | exact hm0.pull 2 rfl
            | exact (hm0.pull 2 rfl).pull 2 rfl
            | exact (hm0.pull 1 rfl).pull 2 rfl
            | exact (hm0.pull 2 rfl).pull 1 rfl
      clear hm0
      rintro ⟨o, L, ao, bs, b7, b8⟩ A' w ⟨hm, hlo, hla⟩
      dsimp only at hm hlo hla ⊢
      obtain ⟨G1, hv1, hm, hb7'⟩ := hm.freeze
      obtain ⟨G2, hv2, hm, hb8'⟩ := hm.freeze
      have hb7 : G2.heap b7 = some (.cells #[.int .i64 o.ver, .slice o.A o.n o.c] 25 (0, 0)) := hv2.heap _ _ (hb7' _ (.head _))
      have hb8 : G2.heap b8 = some (.cells ao.h.arr 31 (0, 0)) := hb8' _ (.head _)
      have hv := hv1.trans hv2
      replace hb3 := hv.heap _ _ hb3
      replace hb4 := hv.heap _ _ hb4
      replace hma := hma.mono hv.heap
      replace htG := Tree.mono hv.heap k a htG
      replace herG := herG.mono hv.heap
      replace done : ∀ {w' : World}, Mem G2 w' [] → Mem F w' [] := fun h => h.shrink (hu.trans hv)
      clear hb7' hb8' hv1 hv2 ht her
      have hov := hlo.ver
      have hon := hlo.n
      have hoc := hla.kept
      have hmn : ao.h.c.mn * 32 ≤ 140737488355328 := by rw [hoc]; exact hs2
      have aoM : ∀ (Ls : List Blks), Mem G2 w (Ls) → (∀ B ∈ bs, B ∈ Ls) → MRow (G2.plus Ls).heap ao.h.mA ao.h.c.mn ao.h.c.ms := fun Ls h hin => (Tree.members (LentA.tree k a ao bs hla fun B hB => h.plus_mem (hin B hB))).1
      have mk1 := make2_c (A0 := o.A) (n0 := o.n) (c0 := o.c) (n := ao.h.c.mn) (c := ao.h.mc) (now := o.ver) (from_ := ao.h.c.from_) (ver := ver) (acs := ao.h.arr) hm.all hmn (aoM _ hm fun B hB => .tail _ hB) rfl rfl
      repeat (first | refine VC.seq ?_ | refine VC.block ?_ | refine VC.skip ?_)
      refine VC.region ?_
      refine VR.val rfl rfl (r_loadAgg (vs := [.int _ _, .slice _ _ _]) Try.isAgg25 Try.sizeOf25 rfl (hm.fix _ _ hb7) rfl (agg_at rfl)) ?_
      refine VR.val rfl rfl (r_loadAgg (vs := ao.h.cs) Try.isAgg31 Try.sizeOf31 rfl (hm.fix _ _ hb8) rfl (agg_at rfl)) ?_
      refine VR.pure rfl rfl (p_moveI rfl) ?_
      refine VR.call rfl rfl (r_call3 Try.call12 rfl rfl rfl) (mk1) ?_
      rintro _ w ⟨x, Lx, rfl, hxa, hxn, hox, hm'⟩
      replace hm := hm.back hm'
      refine VR.pure rfl rfl (p_moveT rfl) ?_
      refine VR.pure rfl rfl (p_extract rfl rfl) ?_
      refine VR.pure rfl rfl (p_extract rfl rfl) ?_
      refine VR.new hm rfl rfl (n_allocG Try.zeroValue25) ?_
      intro b9 w hm
      refine VR.store (cs' := #[.int .i64 x.ver, .slice x.A x.n x.c]) (v := .agg _) Try.sizeOf25 rfl rfl rfl rfl rfl hm 0 0 rfl (Nat.ble_eq.mp rfl) rfl ?_
      intro w hm
      refine VR.pure rfl rfl (p_assignI rfl) ?_
      refine VR.nil ?_
      clear mk1 hm'
      replace hm : Mem G2 w ([(b9, .cells #[.int .i64 x.ver, .slice x.A x.n x.c] 25 (0, 0))] :: Lx :: L :: bs) := hm
      have mk2 := make2_c (A0 := o.A) (n0 := o.n) (c0 := o.c) (n := ao.h.c.mn) (c := ao.h.mc) (now := o.ver) (from_ := ao.h.c.from_) (ver := ver) (acs := ao.h.arr) hm.all hmn (Tree.members (LentA.tree k a ao bs hla fun B hB => hm.plus_mem (.tail _ (.tail _ (.tail _ hB))))).1 rfl rfl
      repeat (first | refine VC.seq ?_ | refine VC.block ?_ | refine VC.skip ?_)
      refine VC.region ?_
      refine VR.val rfl rfl (r_loadAgg (vs := [.int _ _, .slice _ _ _]) Try.isAgg25 Try.sizeOf25 rfl (hm.fix _ _ hb7) rfl (agg_at rfl)) ?_
      refine VR.val rfl rfl (r_loadAgg (vs := ao.h.cs) Try.isAgg31 Try.sizeOf31 rfl (hm.fix _ _ hb8) rfl (agg_at rfl)) ?_
      refine VR.pure rfl rfl (p_moveI rfl) ?_
      refine VR.call rfl rfl (r_call3 Try.call12 rfl rfl rfl) (mk2) ?_
      rintro _ w ⟨y, Ly, rfl, hya, hyn, hoy, hm'⟩
      replace hm := hm.back hm'
      refine VR.pure rfl rfl (p_moveT rfl) ?_
      refine VR.pure rfl rfl (p_extract rfl rfl) ?_
      refine VR.pure rfl rfl (p_extract rfl rfl) ?_
      refine VR.new hm rfl rfl (n_allocG Try.zeroValue25) ?_
      intro b11 w hm
      refine VR.store (cs' := #[.int .i64 y.ver, .slice y.A y.n y.c]) (v := .agg _) Try.sizeOf25 rfl rfl rfl rfl rfl hm 0 0 rfl (Nat.ble_eq.mp rfl) rfl ?_
      intro w hm
      refine VR.pure rfl rfl (p_assignI rfl) ?_
      refine VR.nil ?_
      clear mk2 hm' aoM
      replace hm : Mem G2 w ([(b11, .cells #[.int .i64 y.ver, .slice y.A y.n y.c] 25 (0, 0))] :: Ly :: [(b9, .cells #[.int .i64 x.ver, .slice x.A x.n x.c] 25 (0, 0))] :: Lx :: L :: bs) := hm
      have kp1 := keptE_c (e := e) (o := o) (L := L) hm.all hlo (hm.plus_mem (.tail _ (.tail _ (.tail _ (.tail _ (.head _)))))) (by omega) (herG.mono hm.le)
      have kp2 : ∀ w', Mem G2 w' ([(b11, .cells #[.int .i64 y.ver, .slice y.A y.n y.c] 25 (0, 0))] :: Ly :: [(b9, .cells #[.int .i64 x.ver, .slice x.A x.n x.c] 25 (0, 0))] :: Lx :: L :: bs) → _ := fun w' hm => keptA_c k _ w' [] a ao bs hm.all (Tree.mono hm.le k a htG) hla (fun B hB => hm.plus_mem (.tail _ (.tail _ (.tail _ (.tail _ (.tail _ hB))))))
      repeat (first | refine VC.seq ?_ | refine VC.block ?_ | refine VC.skip ?_)
      refine VC.region ?_
      refine VR.val rfl rfl (r_loadAgg (vs := [.int _ _, .slice _ _ _]) Try.isAgg25 Try.sizeOf25 rfl (hm.fix _ _ hb7) rfl (agg_at rfl)) ?_
      refine VR.val rfl rfl (r_loadAgg (vs := [.int _ _, .slice _ _ _]) Try.isAgg25 Try.sizeOf25 rfl (hm.fix _ _ hb3) rfl (agg_at rfl)) ?_
      refine VR.call rfl rfl (r_call2 Try.call13 rfl rfl) (kp1) ?_
      rintro _ w ⟨rfl, hm'⟩
      replace hm := hm.back0 hm'
      refine VR.pure rfl rfl (p_not rfl) ?_
      refine VR.pure rfl rfl (p_moveB rfl) ?_
      refine VR.knownF 59 rfl rfl ?_
      refine VR.valG rfl rfl (r_loadAgg (vs := ao.h.cs) Try.isAgg31 Try.sizeOf31 rfl (hm.fix _ _ hb8) rfl (agg_at rfl)) ?_
      refine VR.valG rfl rfl (r_loadAgg (vs := a.h.cs) Try.isAgg31 Try.sizeOf31 rfl (hm.fix _ _ hb4) rfl (agg_at rfl)) ?_
      refine VR.callG rfl rfl (r_call2 Try.call14 rfl rfl) ((kp2 w hm)) ?_
      rintro _ w ⟨rfl, hm'⟩
      replace hm := hm.back0 hm'
      refine VR.pureG rfl rfl (p_not rfl) ?_
      refine VR.pure rfl rfl (p_pickF rfl rfl) ?_
      refine VR.nil ?_
      clear kp1 kp2 hm'
      repeat (first | refine VC.seq ?_ | refine VC.block ?_ | refine VC.skip ?_)
      refine VC.condF rfl rfl ?_
      replace hm := Mem.bring (A := [[(b11, .cells #[.int .i64 y.ver, .slice y.A y.n y.c] 25 (0, 0))], Ly, [(b9, .cells #[.int .i64 x.ver, .slice x.A x.n x.c] 25 (0, 0))], Lx]) (x := L) (B := bs) hm
      repeat (first | refine VC.seq ?_ | refine VC.block ?_ | refine VC.skip ?_)
      refine VC.region ?_
      refine VR.val rfl rfl (r_loadAgg (vs := [.int _ _, .slice _ _ _]) Try.isAgg25 Try.sizeOf25 rfl (hm.fix _ _ hb7) rfl (agg_at rfl)) ?_
      refine VR.call rfl rfl (r_call1 Try.call15 rfl) (overE_c hm hlo (by omega)) ?_
      rintro v1 w hm
      refine VR.nil ?_
      replace hm := Mem.tailB (A := [[(b11, .cells #[.int .i64 y.ver, .slice y.A y.n y.c] 25 (0, 0))], Ly, [(b9, .cells #[.int .i64 x.ver, .slice x.A x.n x.c] 25 (0, 0))], Lx]) (B := bs) hm
      repeat (first | refine VC.seq ?_ | refine VC.block ?_ | refine VC.skip ?_)
      refine VC.region ?_
      refine VR.val rfl rfl (r_loadAgg (vs := ao.h.cs) Try.isAgg31 Try.sizeOf31 rfl (hm.fix _ _ hb8) rfl (agg_at rfl)) ?_
      refine VR.call rfl rfl (r_call1 Try.call16 rfl) (overA_c k _ _ _ a ao bs hm hla) ?_
      rintro v2 w hm
      refine VR.nil ?_
      repeat (first | refine VC.seq ?_ | refine VC.block ?_ | refine VC.skip ?_)
      refine VC.region ?_
      refine VR.val rfl rfl (r_loadAgg (vs := [.int _ _, .slice _ _ _]) Try.isAgg25 Try.sizeOf25 rfl (hm.fix _ _ hb3) rfl (agg_at rfl)) ?_
      refine VR.val rfl rfl (r_loadAgg (vs := a.h.cs) Try.isAgg31 Try.sizeOf31 rfl (hm.fix _ _ hb4) rfl (agg_at rfl)) ?_
      refine VR.pure rfl rfl (p_moveI rfl) ?_
      refine VR.call rfl rfl (r_call3 Try.call17 rfl rfl rfl) (ref_make2_c (n := a.h.c.mn) (c := a.h.mc) (from_ := a.h.c.from_) hm hs2 hma rfl rfl) ?_
      rintro _ w ⟨z, Lz, rfl, hza, hzn, hoz, hm⟩
      refine VR.pure rfl rfl (p_moveT rfl) ?_
      refine VR.pure rfl rfl (p_extract rfl rfl) ?_
      refine VR.pure rfl rfl (p_extract rfl rfl) ?_
      refine VR.new hm rfl rfl (n_allocG Try.zeroValue25) ?_
      intro b13 w hm
      refine VR.store (cs' := #[.int .i64 z.ver, .slice z.A z.n z.c]) (v := .agg _) Try.sizeOf25 rfl rfl rfl rfl rfl hm 0 0 rfl (Nat.ble_eq.mp rfl) rfl ?_
      intro w hm
      refine VR.pure rfl rfl (p_assignI rfl) ?_
      refine VR.nil ?_
      replace hm : Mem G2 w ([(b13, .cells #[.int .i64 z.ver, .slice z.A z.n z.c] 25 (0, 0))] :: Lz :: [(b11, .cells #[.int .i64 y.ver, .slice y.A y.n y.c] 25 (0, 0))] :: Ly :: [(b9, .cells #[.int .i64 x.ver, .slice x.A x.n x.c] 25 (0, 0))] :: [Lx]) := hm
      have hms : ao.h.c.ms = a.h.c.ms := by rw [hoc]
      have hfr : ao.h.c.from_ = a.h.c.from_ := by rw [hoc]
      rw [hms, hfr, hov] at hxa hya
      rw [hms] at hxn hyn
      have hxz : x.abs = z.abs := hxa.trans hza.symm
      have hyz : y.abs = z.abs := hya.trans hza.symm
      have hal : a.h.c.ms.length = a.h.c.mn := MRow.len hma
      have hs1' := same_ensemble_c (e := x) (e' := z) hm.all (by unfold maxLen; omega) (hox.row (hm.plus_mem (.tail _ (.tail _ (.tail _ (.tail _ (.tail _ (.head _))))))))  (hoz.row (hm.plus_mem (.tail _ (.head _))))
      have hcode : makeCode o.ver ao.h.c.from_ ver ao.h.c.ms = makeCode e.ver a.h.c.from_ ver a.h.c.ms := by rw [hms, hfr, hov]
      repeat (first | refine VC.seq ?_ | refine VC.block ?_ | refine VC.skip ?_)
      refine VC.region ?_
      refine VR.val rfl rfl (r_loadAgg (vs := [.int _ _, .slice _ _ _]) Try.isAgg25 Try.sizeOf25 rfl (hm.at_ 4 0 rfl) rfl (agg_at rfl)) ?_
      refine VR.val rfl rfl (r_loadAgg (vs := [.int _ _, .slice _ _ _]) Try.isAgg25 Try.sizeOf25 rfl (hm.at_ 0 0 rfl) rfl (agg_at rfl)) ?_
      refine VR.call rfl rfl (r_call2 Try.call18 rfl rfl) (hs1') ?_
      rintro _ w ⟨rfl, hm'⟩
      replace hm := hm.back0 hm'
      refine VR.pure rfl rfl (p_moveB rfl) ?_
      refine VR.knownT 79 rfl (decide_eq_true hxz) ?_
      refine VR.valG rfl rfl (r_loadAgg (vs := [.int _ _, .slice _ _ _]) Try.isAgg25 Try.sizeOf25 rfl (hm.at_ 2 0 rfl) rfl (agg_at rfl)) ?_
      refine VR.valG rfl rfl (r_loadAgg (vs := [.int _ _, .slice _ _ _]) Try.isAgg25 Try.sizeOf25 rfl (hm.at_ 0 0 rfl) rfl (agg_at rfl)) ?_
      have hs2' := same_ensemble_c (e := y) (e' := z) hm.all (by unfold maxLen; omega) (hoy.row (hm.plus_mem (.tail _ (.tail _ (.tail _ (.head _)))))) (hoz.row (hm.plus_mem (.tail _ (.head _))))
      refine VR.callG rfl rfl (r_call2 Try.call18 rfl rfl) (hs2') ?_
      rintro _ w ⟨rfl, hm'⟩
      replace hm := hm.back0 hm'
      refine VR.pure rfl rfl (p_pickT rfl rfl) ?_
      refine VR.pure rfl rfl (p_moveB rfl) ?_
      refine VR.knownT 84 rfl (decide_eq_true hyz) ?_
      refine VR.pureG rfl rfl (p_moveI rfl) ?_
      refine VR.pureG rfl rfl (p_moveI rfl) ?_
      refine VR.pureG rfl rfl (p_eq rfl rfl) ?_
      refine VR.pure rfl rfl (p_pickT rfl rfl) ?_
      refine VR.pure rfl rfl (p_moveB rfl) ?_
      refine VR.knownT 89 rfl (decide_eq_true hcode) ?_
      refine VR.pureG rfl rfl (p_moveI rfl) ?_
      refine VR.pureG rfl rfl (p_moveI rfl) ?_
      refine VR.pureG rfl rfl (p_eq rfl rfl) ?_
      refine VR.pure rfl rfl (p_pickT rfl rfl) ?_
      refine VR.pure rfl rfl (p_moveB rfl) ?_
      refine VR.knownT 94 rfl (decide_eq_true hcode) ?_
      refine VR.valG rfl rfl (r_loadAgg (vs := [.int _ _, .slice _ _ _]) Try.isAgg25 Try.sizeOf25 rfl (hm.at_ 4 0 rfl) rfl (agg_at rfl)) ?_
      refine VR.newG hm rfl rfl (n_buildSlice (vs := [.agg _]) Try.underlying33 inf25 rfl rfl rfl rfl rfl rfl) ?_
      intro b20 w hm
      refine VR.valG rfl rfl (r_loadAgg (vs := [.int _ _, .slice _ _ _]) Try.isAgg25 Try.sizeOf25 rfl (hm.at_ 3 0 rfl) rfl (agg_at rfl)) ?_
      refine VR.newG hm rfl rfl (n_buildSlice (vs := [.agg _]) Try.underlying33 inf25 rfl rfl rfl rfl rfl rfl) ?_
      intro b22 w hm
      refine VR.newG hm rfl rfl (n_buildSlice1 (vs := [.slice _ _ _, .slice _ _ _]) Try.underlying45 inf33 rfl rfl rfl rfl rfl rfl rfl) ?_
      intro b23 w hm
      obtain ⟨G3, hu3, hm3, hG3⟩ := hm.freeze
      replace hm3 := ((((hm3.pull 1 rfl).pull 5 rfl).pull 7 rfl))
      have hap := apart_ens_c (d := 2) (its := [⟨some ⟨b20, 0, none⟩, 1, 1⟩, ⟨some ⟨b22, 0, none⟩, 1, 1⟩]) (ess := [[x], [y]]) (Bs := [Lx, Ly]) hm3 (O := some ⟨b23, 0, none⟩) (m := 2) (Row.lit (cs := [.slice (some ⟨b20, 0, none⟩) 1 1, .slice (some ⟨b22, 0, none⟩) 1 1]) (hG3 _ (.head _))) (by omega) rfl (m_sz2 (show (1 : Nat) ≤ 1000 by omega) (show (1 : Nat) ≤ 1000 by omega)) (m_ens2 (xs := [x]) (ys := [y]) (OwnS.whole (show (1 : Nat) ≤ maxLen by unfold maxLen; omega) rfl) (OwnS.whole (show (1 : Nat) ≤ maxLen by unfold maxLen; omega) rfl)) (m_mem2 ⟨by show x.n ≤ _; omega, _, hox⟩ ⟨by show y.n ≤ _; omega, _, hoy⟩)
      refine VR.callG rfl rfl (r_call1 Try.call19 rfl) (hap) ?_
      rintro _ w ⟨rfl, hm3⟩
      refine VR.pure rfl rfl (p_pickT rfl rfl) ?_
      refine VR.pure rfl rfl (p_moveB rfl) ?_
      refine VR.knownT 102 rfl rfl ?_
      refine VR.callG rfl rfl (r_call0 Try.call9) (awake_c hm3) ?_
      rintro _ w ⟨rfl, hm3⟩
      refine VR.pure rfl rfl (p_pickT rfl rfl) ?_
      refine VR.pure rfl rfl (p_assignB rfl) ?_
      refine VR.nil ?_
      repeat (first | refine VC.seq ?_ | refine VC.block ?_ | refine VC.skip ?_)
      refine VC.ret ⟨_, ResOf.r1 (v := .bool _) rfl rfl, ?_⟩
      exact ⟨rfl, done ((hm3.subF (by simp)).shrink hu3)⟩
end Go.Bd
namespace Go.Proofs.Ytinddgigjecofaa
open Go.Bd Go.ChangeShapes Go.WideShapes

set_option maxRecDepth 100000 in
theorem makes_lifted (os : Os) (started : os.Started) (H : Type) (enc : TypeId × Value → H) :
    ReturnsInHanded {} Try.checked os 3 .any (Rows.reformMakesSpec.pre6 enc Try.prog Try.f3 Rows.reformMakesRow.domain false) (Rows.reformMakesSpec.post enc Try.prog Try.f3 false true false false) := by
  refine law_frame (C := Try.checked) (tb := 4) (by kernel_rfl) (by kernel_rfl) started (by kernel_rfl) Try.func3 rfl rfl Try.underlying4 (by kernel_rfl) ?_
    (ChangeSpec.witness6 (enc := enc) (C := Try.checked) false ⟨#[], #[.agg #[.int .i64 0, .slice none 0 0], .agg #[.int .u8 0, .int .i64 0, .int .i64 0, .int .i64 0, .string ⟨#[]⟩, .slice none 0 0, .int .i64 0, .int .i64 0, .bool false, .int .u8 0, .int .i64 0, .int .i64 0, .int .i64 0, .slice none 0 0, .slice none 0 0], .int .i64 0], []⟩ 8 (by kernel_rfl) (by kernel_rfl) (by kernel_rfl) (by kernel_rfl)) ?_
  · intro ds hl
    match ds, hl with
    | [d1, d2, d3], _ => rfl
  · intro W base args ds p hval hA hwt
    replace hA : DataW.TrodAll enc Try.prog W 0 (fun _ => true) true Try.f3.params.toList args.toList ds p := hA
    rw [Try.params3] at hA hval
    replace hwt : (DataW.weightsEach Try.prog [25, 31, 22] ds).all (· ≤ reachBytes) = true := hwt
    obtain ⟨v0, vs0, d0, ds0, p0, q0, hargs, rfl, rfl, h0, r0⟩ := trodAll_cons hA
    obtain ⟨v1, vs1, d1, ds1, p1, q1, rfl, rfl, rfl, h1, r1⟩ := trodAll_cons r0
    obtain ⟨v2, vs2, d2, ds2, p2, q2, rfl, rfl, rfl, h2, r2⟩ := trodAll_cons r1
    obtain ⟨rfl, rfl, rfl⟩ := trodAll_nil r2
    obtain rfl : args = #[v0, v1, v2] := by cases args; simp_all
    obtain ⟨a2, rfl, _, _, w2⟩ := open_int Try.underlying22 (hval 2 22 v2 rfl rfl) h2
    obtain ⟨e, rfl, he, hc⟩ := open_ens1 (hval 0 25 v0 rfl rfl) h0 (LightAll.cons hwt).1
    obtain ⟨k, a, rfl, ht⟩ := open_ask1 (hval 1 31 v1 rfl rfl) h1 (LightAll.cons (LightAll.cons hwt).2).1
    exact reform_makes_c (Mem.of W) he hc ht

theorem makes : Rows.ReformMakesSaid :=
  OpenClaim.holds_of_wide 3 Try.f3 rfl rfl rfl rfl rfl rfl rfl ⟨rfl, rfl, rfl, rfl, rfl⟩ rfl rfl rfl rfl rfl (by kernel_rfl) Try.func3 (by kernel_rfl)
    (of_decide_eq_true (by kernel_rfl)) (by unfold Func.isWrapper; rw [if_neg (of_decide_eq_false (by kernel_rfl))]; exact ⟨rfl, rfl⟩)
    (fun os started H enc _ => makes_lifted os started H enc)
end Go.Proofs.Ytinddgigjecofaa
