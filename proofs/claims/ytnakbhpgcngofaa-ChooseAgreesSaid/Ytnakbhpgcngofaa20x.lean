/- Contracts of layer 20: the document's voters and quorums; configs copied by the kit. Conditions: as each states. -/
import Derived.Test.Ytnakbhpgcngofaa20r
import Derived.Test.Ytnakbhpgcngofaa20t
namespace Go.Bd
open Go.Proofs
set_option linter.unusedVariables false
set_option maxRecDepth 20000

section
variable {F : Env} {w : World} {Ls : List Blks}
theorem rfind_c {e : En} {id : Int} (hm : Mem F w Ls) (hn : e.n ≤ maxLen) (hr : MRow F.heap e.A e.n e.ms) :
    Calls Try.prog 69 #[.agg #[.int .i64 e.ver, .slice e.A e.n e.c], .int .i64 id] w
      (Ret fun v w' => v = .tuple #[.agg #[.int .i64 ((findE e.ms id).getD mb0).id, .int .u8 ((findE e.ms id).getD mb0).role, .int .i64 ((findE e.ms id).getD mb0).weight, .int .i64 ((findE e.ms id).getD mb0).group], .bool (findE e.ms id).isSome] ∧ Mem F w' Ls) := by
  obtain ⟨ver, A, n, c, ms⟩ := e
  dsimp only at hn hr ⊢
  have hl := hr.len
  unfold maxLen at hn
  refine Calls.of_vc Try.func69 rfl Try.ntmps69 rfl ?_
  repeat (first | refine VC.seq ?_ | refine VC.block ?_ | refine VC.skip ?_)
  refine VC.region ?_
  refine VR.new hm rfl rfl (n_boxG rfl) ?_
  intro b2 w hm
  refine VR.new hm rfl rfl (n_allocG Try.zeroValue99) ?_
  intro b4 w hm
  refine VR.pure rfl rfl (p_assignB rfl) ?_
  refine VR.nil ?_
  repeat (first | refine VC.seq ?_ | refine VC.block ?_ | refine VC.skip ?_)
  refine VC.region ?_
  refine VR.pure rfl rfl (p_assignI rfl) ?_
  refine VR.nil ?_
  repeat (first | refine VC.seq ?_ | refine VC.block ?_ | refine VC.skip ?_)
  refine VC.loop (σ := Nat) (fun k => [(1, .int .i64 id), (2, .pointer (some ⟨b2, 0, none⟩)), (4, .pointer (some ⟨b4, 0, none⟩)), (6, .int .i64 k)])
    (fun k w => Mem F w ([(b4, .cells #[.int .i64 0, .int .u8 0, .int .i64 0, .int .i64 0] 99 (0, 0))] :: [(b2, .cells #[.int .i64 ver, .slice A n c] 42 (0, 0))] :: Ls) ∧ k ≤ n ∧ ∀ j x, j < k → ms[j]? = some x → x.id ≠ id) (fun k => n - k) 0 ⟨rfl, rfl, rfl, rfl, trivial⟩ ⟨hm, by omega, by omega⟩ ?_
  clear hm
  rintro k A' w ⟨hm, hk, hno⟩
  repeat (first | refine VC.seq ?_ | refine VC.block ?_ | refine VC.skip ?_)
  refine VC.region ?_
  refine VR.pure rfl rfl (p_moveI rfl) ?_
  refine VR.pure rfl rfl (p_field (fo := 1) Try.underlying42 rfl Try.sizeOf40 rfl rfl rfl) ?_
  refine VR.val rfl rfl (r_load (v := .slice _ _ _) Try.isAgg40 rfl (hm.at_ 1 0 rfl) rfl) ?_
  refine VR.pure rfl rfl (p_len Try.underlying40 rfl) ?_
  refine VR.pure rfl rfl (p_lt rfl rfl) ?_
  refine VR.nil ?_
  repeat (first | refine VC.seq ?_ | refine VC.block ?_ | refine VC.skip ?_)
  refine VC.condD rfl (fun h => ?_) (fun h => ?_)
  · have hk' : k < n := by omega
    obtain ⟨m, hmk, _⟩ := drop_mb (ms := ms) (k := k) (by omega)
    obtain ⟨b', off, blk, T, fr, rfl, hb', hcc⟩ := hr.elem Mb.len (by decide) (by omega)
    repeat (first | refine VC.seq ?_ | refine VC.block ?_ | refine VC.skip ?_)
    refine VC.region ?_
    refine VR.pure rfl rfl (p_field (fo := 1) Try.underlying42 rfl Try.sizeOf40 rfl rfl rfl) ?_
    refine VR.val rfl rfl (r_load (v := .slice _ _ _) Try.isAgg40 rfl (hm.at_ 1 0 rfl) rfl) ?_
    refine VR.pure rfl rfl (p_moveI rfl) ?_
    refine VR.pure rfl rfl (p_idxN Try.underlying40 Try.sizeOf99 rfl rfl hk') ?_
    refine VR.pure rfl rfl (p_field (fo := 0) Try.underlying99 rfl Try.sizeOf3 rfl rfl rfl) ?_
    refine VR.val rfl rfl (r_load (v := .int _ _) Try.isAgg3 rfl (hm.fix _ _ hb') (hcc k m hmk 0 (by decide))) ?_
    refine VR.pure rfl rfl (p_moveI rfl) ?_
    refine VR.pure rfl rfl (p_eq rfl rfl) ?_
    refine VR.nil ?_
    repeat (first | refine VC.seq ?_ | refine VC.block ?_ | refine VC.skip ?_)
    refine VC.condD rfl (fun h4 => ?_) (fun h4 => ?_)
    · repeat (first | refine VC.seq ?_ | refine VC.block ?_ | refine VC.skip ?_)
      refine VC.region ?_
      refine VR.pure rfl rfl (p_field (fo := 1) Try.underlying42 rfl Try.sizeOf40 rfl rfl rfl) ?_
      refine VR.val rfl rfl (r_load (v := .slice _ _ _) Try.isAgg40 rfl (hm.at_ 1 0 rfl) rfl) ?_
      refine VR.pure rfl rfl (p_moveI rfl) ?_
      refine VR.pure rfl rfl (p_idxN Try.underlying40 Try.sizeOf99 rfl rfl hk') ?_
      refine VR.val rfl rfl (r_loadAgg (vs := [.int .i64 m.id, .int .u8 m.role, .int .i64 m.weight, .int .i64 m.group]) Try.isAgg99 Try.sizeOf99 rfl (hm.fix _ _ hb') rfl (hcc k m hmk)) ?_
      refine VR.store (cs' := #[.int .i64 m.id, .int .u8 m.role, .int .i64 m.weight, .int .i64 m.group]) (v := .agg _) Try.sizeOf99 rfl rfl rfl rfl rfl hm 0 0 rfl (Nat.ble_eq.mp rfl) rfl ?_
      intro w hm
      refine VR.pure rfl rfl (p_assignB rfl) ?_
      refine VR.nil ?_
      repeat (first | refine VC.seq ?_ | refine VC.block ?_ | refine VC.skip ?_)
      refine VC.ret ⟨_, ResOf.r2 (v := .agg _) (u := .bool _) rfl ⟨_, rfl, run_loadVarAgg Try.isAgg99 Try.sizeOf99 (hm.at_ 0 0 rfl) (vs := [.int .i64 m.id, .int .u8 m.role, .int .i64 m.weight, .int .i64 m.group]) rfl (agg_at rfl)⟩ rfl, ?_⟩
      rw [find_first hmk h4 hno]
      exact ⟨rfl, hm.pop.pop⟩
    · repeat (first | refine VC.seq ?_ | refine VC.block ?_ | refine VC.skip ?_)
      refine VC.region ?_
      refine VR.pure rfl rfl (p_moveI rfl) ?_
      refine VR.pure rfl rfl (p_add64 rfl rfl (by omega)) ?_
      refine VR.pure rfl rfl (p_assignI rfl) ?_
      refine VR.nil ?_
      refine ⟨k + 1, ⟨rfl, rfl, rfl, rfl, trivial⟩, ⟨hm, by omega, fun j x hj hx => ?_⟩, by omega⟩
      rcases Nat.lt_or_eq_of_le (Nat.le_of_lt_succ hj) with hj | rfl
      · exact hno j x hj hx
      · rw [hmk] at hx
        obtain rfl := Option.some.inj hx
        exact h4
  · repeat (first | refine VC.seq ?_ | refine VC.block ?_ | refine VC.skip ?_)
    refine VC.exit ?_
    repeat (first | refine VC.seq ?_ | refine VC.block ?_ | refine VC.skip ?_)
    refine VC.region ?_
    refine VR.pure rfl rfl (p_build (vs := []) bld99_0x rfl) ?_
    refine VR.store (cs' := #[.int .i64 0, .int .u8 0, .int .i64 0, .int .i64 0]) (v := .agg _) Try.sizeOf99 rfl rfl rfl rfl rfl hm 0 0 rfl (Nat.ble_eq.mp rfl) rfl ?_
    intro w hm
    refine VR.pure rfl rfl (p_assignB rfl) ?_
    refine VR.nil ?_
    repeat (first | refine VC.seq ?_ | refine VC.block ?_ | refine VC.skip ?_)
    refine VC.ret ⟨_, ResOf.r2 (v := .agg _) (u := .bool _) rfl ⟨_, rfl, run_loadVarAgg Try.isAgg99 Try.sizeOf99 (hm.at_ 0 0 rfl) (vs := [.int .i64 0, .int .u8 0, .int .i64 0, .int .i64 0]) rfl (agg_at rfl)⟩ rfl, ?_⟩
    rw [find_none fun j x hj hx => hno j x (by omega) hx]
    exact ⟨rfl, hm.pop.pop⟩
theorem rvoter_c {e : En} {id : Int} (hm : Mem F w Ls) (hn : e.n ≤ maxLen) (hr : MRow F.heap e.A e.n e.ms) :
    Calls Try.prog 50 #[.agg #[.int .i64 e.ver, .slice e.A e.n e.c], .int .i64 id] w (Ret fun v w' => v = .bool (voterE e.ms id) ∧ Mem F w' Ls) := by
  refine Calls.of_vc Try.func50 rfl Try.ntmps50 rfl ?_
  repeat (first | refine VC.seq ?_ | refine VC.block ?_ | refine VC.skip ?_)
  refine VC.region ?_
  refine VR.new hm rfl rfl (n_boxG rfl) ?_
  intro b2 w hm
  refine VR.pure rfl rfl (p_assignB rfl) ?_
  refine VR.nil ?_
  repeat (first | refine VC.seq ?_ | refine VC.block ?_ | refine VC.skip ?_)
  refine VC.region ?_
  refine VR.val rfl rfl (r_loadAgg (vs := [.int _ _, .slice _ _ _]) Try.isAgg42 Try.sizeOf42 rfl (hm.at_ 0 0 rfl) rfl (agg_at rfl)) ?_
  refine VR.pure rfl rfl (p_moveI rfl) ?_
  refine VR.call rfl rfl (r_call2 Try.call69 rfl rfl) (rfind_c (e := e) (id := id) hm hn hr) ?_
  rintro _ w ⟨rfl, hm⟩
  refine VR.pure rfl rfl (p_moveT rfl) ?_
  refine VR.pure rfl rfl (p_extract rfl rfl) ?_
  refine VR.pure rfl rfl (p_extract rfl rfl) ?_
  refine VR.new hm rfl rfl (n_allocG Try.zeroValue99) ?_
  intro b5 w hm
  refine VR.store (cs' := #[.int .i64 ((findE e.ms id).getD mb0).id, .int .u8 ((findE e.ms id).getD mb0).role, .int .i64 ((findE e.ms id).getD mb0).weight, .int .i64 ((findE e.ms id).getD mb0).group]) (v := .agg _) Try.sizeOf99 rfl rfl rfl rfl rfl hm 0 0 rfl (Nat.ble_eq.mp rfl) rfl ?_
  intro w hm
  refine VR.pure rfl rfl (p_assignB rfl) ?_
  refine VR.nil ?_
  unfold voterE
  cases hf : findE e.ms id with
  | none =>
    repeat (first | refine VC.seq ?_ | refine VC.block ?_ | refine VC.skip ?_)
    refine VC.region ?_
    refine VR.pure rfl rfl (p_moveB rfl) ?_
    refine VR.pure rfl rfl (p_moveB rfl) ?_
    refine VR.knownF 14 rfl rfl ?_
    refine VR.pass rfl rfl ?_
    refine VR.pass rfl rfl ?_
    refine VR.pass rfl rfl ?_
    refine VR.pure rfl rfl (p_pickF rfl rfl) ?_
    refine VR.pure rfl rfl (p_assignB rfl) ?_
    refine VR.nil ?_
    repeat (first | refine VC.seq ?_ | refine VC.block ?_ | refine VC.skip ?_)
    refine VC.ret ⟨_, ResOf.r1 (v := .bool _) rfl rfl, ?_⟩
    exact ⟨rfl, hm.pop.pop⟩
  | some m =>
    repeat (first | refine VC.seq ?_ | refine VC.block ?_ | refine VC.skip ?_)
    refine VC.region ?_
    refine VR.pure rfl rfl (p_moveB rfl) ?_
    refine VR.pure rfl rfl (p_moveB rfl) ?_
    refine VR.knownT 14 rfl rfl ?_
    refine VR.pureG rfl rfl (p_field (fo := 1) Try.underlying99 rfl Try.sizeOf97 rfl rfl rfl) ?_
    refine VR.valG rfl rfl (r_load (v := .int _ _) Try.isAgg97 rfl (hm.at_ 0 0 rfl) rfl) ?_
    refine VR.pureG rfl rfl (p_eq rfl rfl) ?_
    refine VR.pure rfl rfl (p_pickT rfl rfl) ?_
    refine VR.pure rfl rfl (p_assignB rfl) ?_
    refine VR.nil ?_
    repeat (first | refine VC.seq ?_ | refine VC.block ?_ | refine VC.skip ?_)
    refine VC.ret ⟨_, ResOf.r1 (v := .bool _) rfl rfl, ?_⟩
    exact ⟨congrArg Value.bool (by rw [hf]; rfl), hm.pop.pop⟩
theorem rhas_c {A : Option Addr} {n c : Nat} {xs : List Int} {z : Int} (hm : Mem F w Ls) (hn : n ≤ maxLen) (hr : Row F.heap A n (xs.map (Value.int .i64))) :
    Calls Try.prog 74 #[.slice A n c, .int .i64 z] w (Ret fun v w' => v = .bool (decide (z ∈ xs)) ∧ Mem F w' Ls) := by
  have hl : xs.length = n := by have := hr.len; rwa [List.length_map] at this
  unfold maxLen at hn
  refine Calls.of_vc Try.func74 rfl Try.ntmps74 rfl ?_
  repeat (first | refine VC.seq ?_ | refine VC.block ?_ | refine VC.skip ?_)
  refine VC.region ?_
  refine VR.pure rfl rfl (p_assignB rfl) ?_
  refine VR.nil ?_
  repeat (first | refine VC.seq ?_ | refine VC.block ?_ | refine VC.skip ?_)
  refine VC.region ?_
  refine VR.pure rfl rfl (p_assignI rfl) ?_
  refine VR.nil ?_
  repeat (first | refine VC.seq ?_ | refine VC.block ?_ | refine VC.skip ?_)
  refine VC.loop (σ := Nat) (fun k => [(0, .slice A n c), (1, .int .i64 z), (5, .int .i64 k)]) (fun k w => Mem F w Ls ∧ k ≤ n ∧ ∀ j, j < k → xs.getD j 0 ≠ z) (fun k => n - k) 0 ⟨rfl, rfl, rfl, trivial⟩ ⟨hm, by omega, by omega⟩ ?_
  clear hm
  rintro k A' w ⟨hm, hk, hno⟩
  repeat (first | refine VC.seq ?_ | refine VC.block ?_ | refine VC.skip ?_)
  refine VC.region ?_
  refine VR.pure rfl rfl (p_moveI rfl) ?_
  refine VR.pure rfl rfl (p_moveL rfl) ?_
  refine VR.pure rfl rfl (p_len Try.underlying70 rfl) ?_
  refine VR.pure rfl rfl (p_lt rfl rfl) ?_
  refine VR.nil ?_
  repeat (first | refine VC.seq ?_ | refine VC.block ?_ | refine VC.skip ?_)
  refine VC.condD rfl (fun h => ?_) (fun h => ?_)
  · have hk' : k < n := by omega
    obtain ⟨b, off, blk, T, fr, rfl, hb, hc⟩ := hr.get (by omega)
    repeat (first | refine VC.seq ?_ | refine VC.block ?_ | refine VC.skip ?_)
    refine VC.region ?_
    refine VR.pure rfl rfl (p_moveL rfl) ?_
    refine VR.pure rfl rfl (p_moveI rfl) ?_
    refine VR.pure rfl rfl (p_idx1 Try.underlying70 Try.sizeOf3 rfl rfl hk') ?_
    refine VR.val rfl rfl (r_load (v := .int _ _) Try.isAgg3 rfl (hm.fix _ _ hb) ((hc k hk').trans (cell_getD (by omega)))) ?_
    refine VR.pure rfl rfl (p_moveI rfl) ?_
    refine VR.pure rfl rfl (p_eq rfl rfl) ?_
    refine VR.nil ?_
    repeat (first | refine VC.seq ?_ | refine VC.block ?_ | refine VC.skip ?_)
    refine VC.condD rfl (fun h2 => ?_) (fun h2 => ?_)
    · repeat (first | refine VC.seq ?_ | refine VC.block ?_ | refine VC.skip ?_)
      refine VC.region ?_
      refine VR.pure rfl rfl (p_assignB rfl) ?_
      refine VR.nil ?_
      repeat (first | refine VC.seq ?_ | refine VC.block ?_ | refine VC.skip ?_)
      refine VC.ret ⟨_, ResOf.r1 (v := .bool _) rfl rfl, ?_⟩
      exact ⟨congrArg Value.bool (decide_eq_true (getD_mem (by omega) h2)).symm, hm⟩
    · repeat (first | refine VC.seq ?_ | refine VC.block ?_ | refine VC.skip ?_)
      refine VC.region ?_
      refine VR.pure rfl rfl (p_moveI rfl) ?_
      refine VR.pure rfl rfl (p_add64 rfl rfl (by omega)) ?_
      refine VR.pure rfl rfl (p_assignI rfl) ?_
      refine VR.nil ?_
      exact ⟨k + 1, ⟨rfl, rfl, rfl, trivial⟩, ⟨hm, by omega, getD_step hno h2⟩, by omega⟩
  · repeat (first | refine VC.seq ?_ | refine VC.block ?_ | refine VC.skip ?_)
    refine VC.exit ?_
    repeat (first | refine VC.seq ?_ | refine VC.block ?_ | refine VC.skip ?_)
    refine VC.region ?_
    refine VR.pure rfl rfl (p_assignB rfl) ?_
    refine VR.nil ?_
    repeat (first | refine VC.seq ?_ | refine VC.block ?_ | refine VC.skip ?_)
    refine VC.ret ⟨_, ResOf.r1 (v := .bool _) rfl rfl, ?_⟩
    exact ⟨congrArg Value.bool (decide_eq_false (getD_not_mem fun j hj => hno j (by omega))).symm, hm⟩
theorem chk_role : ∀ (ms : List Mb) (last wt r : Int), chkGo last wt ms = some r → ∀ m ∈ ms, m.role ≠ 1 → m.weight = 0
  | [], _, _, _, _, _, h => by simp at h
  | m :: t, last, wt, r, h, x, hx => by
    rw [chkGo_cons] at h
    by_cases h1 : mbOk last m
    · rw [if_pos h1] at h
      rcases List.mem_cons.1 hx with rfl | hx
      · intro hne
        unfold mbOk at h1
        omega
      · exact chk_role t _ _ _ h x hx
    · rw [if_neg h1] at h
      cases h
theorem check_role {ver : Int} {ms : List Mb} (h : checkE ver ms = 0) : ∀ m ∈ ms, m.role ≠ 1 → m.weight = 0 := by
  unfold checkE at h
  by_cases h7 : 7 < ms.length
  · rw [if_pos h7] at h
    omega
  · rw [if_neg h7] at h
    cases hc : chkGo 0 0 ms with
    | none =>
      rw [hc] at h
      exact absurd (show (140 : Int) = 0 from h) (by decide)
    | some r => exact chk_role ms 0 0 r hc
theorem wsum_role (p : Mb → Bool) (g : Int) : ∀ (ms : List Mb), (∀ m ∈ ms, m.role ≠ 1 → m.weight = 0) → wsum (fun m => decide (m.role = 1) && p m) g ms = wsum p g ms
  | [], _ => rfl
  | m :: r, h => by
    have h1 := wsum_role p g r fun x hx => h x (.tail _ hx)
    have h2 := h m (.head _)
    show (if m.group = g ∧ (decide (m.role = 1) && p m) = true then m.weight else 0) + wsum (fun m => decide (m.role = 1) && p m) g r = (if m.group = g ∧ p m = true then m.weight else 0) + wsum p g r
    rw [h1]
    by_cases e : m.role = 1
    · rw [decide_eq_true e, Bool.true_and]
    · have := h2 e
      rw [this]
      split <;> split <;> rfl
theorem wsum_snoc {p : Mb → Bool} {g : Int} {ms : List Mb} {m : Mb} : wsum p g (ms ++ [m]) = wsum p g ms + (if m.group = g ∧ p m = true then m.weight else 0) := by
  rw [wsum_app]
  show _ + ((if m.group = g ∧ p m = true then m.weight else 0) + 0) = _
  omega
theorem wsum_le (p : Mb → Bool) (g : Int) : ∀ (ms : List Mb), (∀ m ∈ ms, MbFit m) → wsum p g ms ≤ wsum (fun _ => true) g ms
  | [], _ => Int.le_refl _
  | m :: r, hf => by
    have h1 := wsum_le p g r fun x hx => hf x (.tail _ hx)
    have h2 := (hf m (.head _)).1
    show (if m.group = g ∧ p m = true then m.weight else 0) + wsum p g r ≤ (if m.group = g ∧ true = true then m.weight else 0) + wsum (fun _ => true) g r
    by_cases e : m.group = g
    · rw [if_pos (show m.group = g ∧ true = true from ⟨e, rfl⟩)]
      split <;> omega
    · rw [if_neg (fun h => e h.1), if_neg (fun h => e h.1)]
      omega
set_option maxHeartbeats 4000000 in
theorem rquorum_c {e : En} {A : Option Addr} {n c : Nat} {ids : List Int} (hm : Mem F w Ls) (hen : e.n ≤ maxLen) (he : MRow F.heap e.A e.n e.ms) (hn : n ≤ maxLen) (hr : Row F.heap A n (ids.map (Value.int .i64))) :
    Calls Try.prog 60 #[.agg #[.int .i64 e.ver, .slice e.A e.n e.c], .slice A n c] w (Ret fun v w' => v = .bool (quorumE e.ver e.ms ids) ∧ Mem F w' Ls) := by
  obtain ⟨ver, eA, en, ec, ems⟩ := e
  dsimp only at hen he ⊢
  have hl := MRow.len he
  refine Calls.of_vc Try.func60 rfl Try.ntmps60 rfl ?_
  repeat (first | refine VC.seq ?_ | refine VC.block ?_ | refine VC.skip ?_)
  refine VC.region ?_
  refine VR.new hm rfl rfl (n_boxG rfl) ?_
  intro b2 w hm
  refine VR.pure rfl rfl (p_assignB rfl) ?_
  refine VR.nil ?_
  repeat (first | refine VC.seq ?_ | refine VC.block ?_ | refine VC.skip ?_)
  refine VC.region ?_
  refine VR.val rfl rfl (r_loadAgg (vs := [.int _ _, .slice _ _ _]) Try.isAgg42 Try.sizeOf42 rfl (hm.at_ 0 0 rfl) rfl (agg_at rfl)) ?_
  refine VR.call rfl rfl (r_call1 Try.call73 rfl) (ref_check_c hm hen he) ?_
  rintro _ w ⟨rfl, hm⟩
  refine VR.pure rfl rfl (p_ne rfl rfl) ?_
  refine VR.nil ?_
  repeat (first | refine VC.seq ?_ | refine VC.block ?_ | refine VC.skip ?_)
  refine VC.condD rfl (fun h => ?_) (fun h => ?_)
  · repeat (first | refine VC.seq ?_ | refine VC.block ?_ | refine VC.skip ?_)
    refine VC.region ?_
    refine VR.pure rfl rfl (p_assignB rfl) ?_
    refine VR.nil ?_
    repeat (first | refine VC.seq ?_ | refine VC.block ?_ | refine VC.skip ?_)
    refine VC.ret ⟨_, ResOf.r1 (v := .bool _) rfl rfl, ?_⟩
    refine ⟨?_, hm.pop⟩
    unfold quorumE
    rw [decide_eq_false h]
    rfl
  · have hck : checkE ver ems = 0 := Classical.not_not.1 h
    obtain ⟨h7, hfit⟩ := check_fit hck
    have hrole := check_role hck
    have hw1 : ∀ g : Int, wsum (fun m => decide (m.role = 1) && (fun _ => true) m) g ems = wsum (fun _ => true) g ems := fun g => wsum_role _ g ems hrole
    have hw2 : ∀ g : Int, wsum (fun m => decide (m.role = 1) && (fun m => decide (m.id ∈ ids)) m) g ems = wsum (fun m => decide (m.id ∈ ids)) g ems := fun g => wsum_role _ g ems hrole
    repeat (first | refine VC.seq ?_ | refine VC.block ?_ | refine VC.skip ?_)
    refine VC.region ?_
    refine VR.pure rfl rfl (p_assignI rfl) ?_
    refine VR.pure rfl rfl (p_assignI rfl) ?_
    refine VR.nil ?_
    repeat (first | refine VC.seq ?_ | refine VC.block ?_ | refine VC.skip ?_)
    refine VC.region ?_
    refine VR.pure rfl rfl (p_assignI rfl) ?_
    refine VR.nil ?_
    repeat (first | refine VC.seq ?_ | refine VC.block ?_ | refine VC.skip ?_)
    refine VC.loop (σ := Nat) (fun q => [(1, .slice A n c), (2, .pointer (some ⟨b2, 0, none⟩)), (5, .int .i64 (cnt (fun g => decide (0 < wsum (fun _ => true) g ems)) q)), (6, .int .i64 (cnt (fun g => decide (wsum (fun _ => true) g ems < 2 * wsum (fun m => decide (m.id ∈ ids)) g ems)) q)), (7, .int .i64 q)])
      (fun q w => Mem F w ([(b2, .cells #[.int .i64 ver, .slice eA en ec] 42 (0, 0))] :: Ls) ∧ q ≤ 7) (fun q => 7 - q) 0 ⟨rfl, rfl, rfl, rfl, rfl, trivial⟩ ⟨hm, by omega⟩ ?_
    clear hm
    rintro q A' w ⟨hm, hq⟩
    have hq1 := cnt_bound (fun g => decide (0 < wsum (fun _ => true) g ems)) q
    have hq2 := cnt_bound (fun g => decide (wsum (fun _ => true) g ems < 2 * wsum (fun m => decide (m.id ∈ ids)) g ems)) q
    repeat (first | refine VC.seq ?_ | refine VC.block ?_ | refine VC.skip ?_)
    refine VC.region ?_
    refine VR.pure rfl rfl (p_moveI rfl) ?_
    refine VR.pure rfl rfl (p_lt rfl rfl) ?_
    refine VR.nil ?_
    repeat (first | refine VC.seq ?_ | refine VC.block ?_ | refine VC.skip ?_)
    refine VC.condD rfl (fun hq7 => ?_) (fun hq7 => ?_)
    · have hq' : q < 7 := by omega
      repeat (first | refine VC.seq ?_ | refine VC.block ?_ | refine VC.skip ?_)
      repeat (first | refine VC.seq ?_ | refine VC.block ?_ | refine VC.skip ?_)
      refine VC.region ?_
      refine VR.pure rfl rfl (p_assignI rfl) ?_
      refine VR.pure rfl rfl (p_assignI rfl) ?_
      refine VR.nil ?_
      repeat (first | refine VC.seq ?_ | refine VC.block ?_ | refine VC.skip ?_)
      refine VC.region ?_
      refine VR.pure rfl rfl (p_assignI rfl) ?_
      refine VR.nil ?_
      repeat (first | refine VC.seq ?_ | refine VC.block ?_ | refine VC.skip ?_)
      refine VC.loop (σ := Nat) (fun k => [(1, .slice A n c), (2, .pointer (some ⟨b2, 0, none⟩)), (5, .int .i64 (cnt (fun g => decide (0 < wsum (fun _ => true) g ems)) q)), (6, .int .i64 (cnt (fun g => decide (wsum (fun _ => true) g ems < 2 * wsum (fun m => decide (m.id ∈ ids)) g ems)) q)), (7, .int .i64 q),
          (8, .int .i64 (wsum (fun m => decide (m.role = 1) && (fun _ => true) m) q (ems.take k))), (9, .int .i64 (wsum (fun m => decide (m.role = 1) && (fun m => decide (m.id ∈ ids)) m) q (ems.take k))), (10, .int .i64 k)])
        (fun k w => Mem F w ([(b2, .cells #[.int .i64 ver, .slice eA en ec] 42 (0, 0))] :: Ls) ∧ k ≤ en) (fun k => en - k) 0 ⟨rfl, rfl, rfl, rfl, rfl, rfl, rfl, rfl, trivial⟩ ⟨hm, by omega⟩ ?_
      clear hm
      rintro k A2 w ⟨hm, hk⟩
      have hsub : ∀ x ∈ ems.take k, MbFit x := fun x hx => hfit x (List.mem_of_mem_take hx)
      have hlt : (ems.take k).length ≤ 7 := by rw [List.length_take]; omega
      have hba := wsum_bound (fun m => decide (m.role = 1) && (fun _ => true) m) q _ hsub
      have hbb := wsum_bound (fun m => decide (m.role = 1) && (fun m => decide (m.id ∈ ids)) m) q _ hsub
      repeat (first | refine VC.seq ?_ | refine VC.block ?_ | refine VC.skip ?_)
      refine VC.region ?_
      refine VR.pure rfl rfl (p_moveI rfl) ?_
      refine VR.pure rfl rfl (p_field (fo := 1) Try.underlying42 rfl Try.sizeOf40 rfl rfl rfl) ?_
      refine VR.val rfl rfl (r_load (v := .slice _ _ _) Try.isAgg40 rfl (hm.at_ 0 0 rfl) rfl) ?_
      refine VR.pure rfl rfl (p_len Try.underlying40 rfl) ?_
      refine VR.pure rfl rfl (p_lt rfl rfl) ?_
      refine VR.nil ?_
      repeat (first | refine VC.seq ?_ | refine VC.block ?_ | refine VC.skip ?_)
      refine VC.condD rfl (fun hk2 => ?_) (fun hk2 => ?_)
      · have hk' : k < en := by omega
        obtain ⟨m, hmk, hmm⟩ := get_of (xs := ems) (k := k) (by omega)
        obtain ⟨b, off, blk, T, fr, rfl, hb, hcc⟩ := Row.elem Mb.len he (by decide) (by omega)
        obtain ⟨f1, f2, f3, f4⟩ := hfit m hmm
        have htk : ems.take (k + 1) = ems.take k ++ [m] := by rw [List.take_add_one, hmk]; rfl
        repeat (first | refine VC.seq ?_ | refine VC.block ?_ | refine VC.skip ?_)
        refine VC.region ?_
        refine VR.pure rfl rfl (p_field (fo := 1) Try.underlying42 rfl Try.sizeOf40 rfl rfl rfl) ?_
        refine VR.val rfl rfl (r_load (v := .slice _ _ _) Try.isAgg40 rfl (hm.at_ 0 0 rfl) rfl) ?_
        refine VR.pure rfl rfl (p_moveI rfl) ?_
        refine VR.pure rfl rfl (p_idxN Try.underlying40 Try.sizeOf99 rfl rfl hk') ?_
        refine VR.val rfl rfl (r_loadAgg (vs := [.int .i64 m.id, .int .u8 m.role, .int .i64 m.weight, .int .i64 m.group]) Try.isAgg99 Try.sizeOf99 rfl (hm.fix _ _ hb) rfl (hcc k m hmk)) ?_
        refine VR.new hm rfl rfl (n_allocG Try.zeroValue99) ?_
        intro b11 w hm
        refine VR.store (cs' := #[.int .i64 m.id, .int .u8 m.role, .int .i64 m.weight, .int .i64 m.group]) (v := .agg _) Try.sizeOf99 rfl rfl rfl rfl rfl hm 0 0 rfl (Nat.ble_eq.mp rfl) rfl ?_
        intro w hm
        refine VR.nil ?_
        repeat (first | refine VC.seq ?_ | refine VC.block ?_ | refine VC.skip ?_)
        refine VC.region ?_
        refine VR.pure rfl rfl (p_field (fo := 1) Try.underlying99 rfl Try.sizeOf97 rfl rfl rfl) ?_
        refine VR.val rfl rfl (r_load (v := .int _ _) Try.isAgg97 rfl (hm.at_ 0 0 rfl) rfl) ?_
        refine VR.pure rfl rfl (p_eq rfl rfl) ?_
        refine VR.pure rfl rfl (p_moveB rfl) ?_
        refine VR.splitD 34 rfl (fun q3 => ?_) (fun q3 => ?_)
        refine VR.pureG rfl rfl (p_field (fo := 3) Try.underlying99 rfl Try.sizeOf3 rfl rfl rfl) ?_
        refine VR.valG rfl rfl (r_load (v := .int _ _) Try.isAgg3 rfl (hm.at_ 0 0 rfl) rfl) ?_
        refine VR.pureG rfl rfl (p_moveI rfl) ?_
        refine VR.pureG rfl rfl (p_eq rfl rfl) ?_
        refine VR.pure rfl rfl (p_pickT rfl rfl) ?_
        refine VR.nil ?_
        rotate_left 1
        refine VR.pass rfl rfl ?_
        refine VR.pass rfl rfl ?_
        refine VR.pass rfl rfl ?_
        refine VR.pass rfl rfl ?_
        refine VR.pure rfl rfl (p_pickF rfl rfl) ?_
        refine VR.nil ?_
        rotate_left 1
        · repeat (first | refine VC.seq ?_ | refine VC.block ?_ | refine VC.skip ?_)
          refine VC.condD rfl (fun q8 => ?_) (fun q8 => ?_)
          · repeat (first | refine VC.seq ?_ | refine VC.block ?_ | refine VC.skip ?_)
            refine VC.region ?_
            refine VR.pure rfl rfl (p_moveI rfl) ?_
            refine VR.pure rfl rfl (p_field (fo := 2) Try.underlying99 rfl Try.sizeOf3 rfl rfl rfl) ?_
            refine VR.val rfl rfl (r_load (v := .int _ _) Try.isAgg3 rfl (hm.at_ 0 0 rfl) rfl) ?_
            refine VR.pure rfl rfl (p_add64 rfl rfl (by omega)) ?_
            refine VR.pure rfl rfl (p_assignI rfl) ?_
            refine VR.nil ?_
            repeat (first | refine VC.seq ?_ | refine VC.block ?_ | refine VC.skip ?_)
            refine VC.region ?_
            refine VR.pure rfl rfl (p_moveL rfl) ?_
            refine VR.pure rfl rfl (p_field (fo := 0) Try.underlying99 rfl Try.sizeOf3 rfl rfl rfl) ?_
            refine VR.val rfl rfl (r_load (v := .int _ _) Try.isAgg3 rfl (hm.at_ 0 0 rfl) rfl) ?_
            refine VR.call rfl rfl (r_call2 Try.call74 rfl rfl) (rhas_c (z := m.id) hm hn hr) ?_
            rintro _ w ⟨rfl, hm⟩
            refine VR.nil ?_
            repeat (first | refine VC.seq ?_ | refine VC.block ?_ | refine VC.skip ?_)
            refine VC.condD rfl (fun q14 => ?_) (fun q14 => ?_)
            · repeat (first | refine VC.seq ?_ | refine VC.block ?_ | refine VC.skip ?_)
              refine VC.region ?_
              refine VR.pure rfl rfl (p_moveI rfl) ?_
              refine VR.pure rfl rfl (p_field (fo := 2) Try.underlying99 rfl Try.sizeOf3 rfl rfl rfl) ?_
              refine VR.val rfl rfl (r_load (v := .int _ _) Try.isAgg3 rfl (hm.at_ 0 0 rfl) rfl) ?_
              refine VR.pure rfl rfl (p_add64 rfl rfl (by omega)) ?_
              refine VR.pure rfl rfl (p_assignI rfl) ?_
              refine VR.nil ?_
              repeat (first | refine VC.seq ?_ | refine VC.block ?_ | refine VC.skip ?_)
              refine VC.region ?_
              refine VR.pure rfl rfl (p_moveI rfl) ?_
              refine VR.pure rfl rfl (p_add64 rfl rfl (by omega)) ?_
              refine VR.pure rfl rfl (p_assignI rfl) ?_
              refine VR.nil ?_
              refine ⟨k + 1, ⟨rfl, rfl, rfl, rfl, rfl, congrArg (Value.int .i64) ?_, congrArg (Value.int .i64) ?_, rfl, trivial⟩, ⟨hm.pop, by omega⟩, by omega⟩
              · rw [htk, wsum_snoc, if_pos ⟨q8, by rw [decide_eq_true q3]; rfl⟩]
              · rw [htk, wsum_snoc, if_pos ⟨q8, by rw [decide_eq_true q3, Bool.true_and]; exact decide_eq_true q14⟩]
            · repeat (first | refine VC.seq ?_ | refine VC.block ?_ | refine VC.skip ?_)
              repeat (first | refine VC.seq ?_ | refine VC.block ?_ | refine VC.skip ?_)
              refine VC.region ?_
              refine VR.pure rfl rfl (p_moveI rfl) ?_
              refine VR.pure rfl rfl (p_add64 rfl rfl (by omega)) ?_
              refine VR.pure rfl rfl (p_assignI rfl) ?_
              refine VR.nil ?_
              refine ⟨k + 1, ⟨rfl, rfl, rfl, rfl, rfl, congrArg (Value.int .i64) ?_, congrArg (Value.int .i64) ?_, rfl, trivial⟩, ⟨hm.pop, by omega⟩, by omega⟩
              · rw [htk, wsum_snoc, if_pos ⟨q8, by rw [decide_eq_true q3]; rfl⟩]
              · rw [htk, wsum_snoc, if_neg (fun h => by rw [decide_eq_true q3, Bool.true_and] at h; exact q14 (of_decide_eq_true h.2)), Int.add_zero]
          · repeat (first | refine VC.seq ?_ | refine VC.block ?_ | refine VC.skip ?_)
            repeat (first | refine VC.seq ?_ | refine VC.block ?_ | refine VC.skip ?_)
            refine VC.region ?_
            refine VR.pure rfl rfl (p_moveI rfl) ?_
            refine VR.pure rfl rfl (p_add64 rfl rfl (by omega)) ?_
            refine VR.pure rfl rfl (p_assignI rfl) ?_
            refine VR.nil ?_
            refine ⟨k + 1, ⟨rfl, rfl, rfl, rfl, rfl, congrArg (Value.int .i64) ?_, congrArg (Value.int .i64) ?_, rfl, trivial⟩, ⟨hm.pop, by omega⟩, by omega⟩
            · rw [htk, wsum_snoc, if_neg (fun h => q8 h.1), Int.add_zero]
            · rw [htk, wsum_snoc, if_neg (fun h => q8 h.1), Int.add_zero]
        · repeat (first | refine VC.seq ?_ | refine VC.block ?_ | refine VC.skip ?_)
          refine VC.condF rfl rfl ?_
          repeat (first | refine VC.seq ?_ | refine VC.block ?_ | refine VC.skip ?_)
          repeat (first | refine VC.seq ?_ | refine VC.block ?_ | refine VC.skip ?_)
          refine VC.region ?_
          refine VR.pure rfl rfl (p_moveI rfl) ?_
          refine VR.pure rfl rfl (p_add64 rfl rfl (by omega)) ?_
          refine VR.pure rfl rfl (p_assignI rfl) ?_
          refine VR.nil ?_
          refine ⟨k + 1, ⟨rfl, rfl, rfl, rfl, rfl, congrArg (Value.int .i64) ?_, congrArg (Value.int .i64) ?_, rfl, trivial⟩, ⟨hm.pop, by omega⟩, by omega⟩
          · rw [htk, wsum_snoc, if_neg (fun h => by rw [decide_eq_false q3] at h; exact absurd h.2 (by simp)), Int.add_zero]
          · rw [htk, wsum_snoc, if_neg (fun h => by rw [decide_eq_false q3] at h; exact absurd h.2 (by simp)), Int.add_zero]
      · repeat (first | refine VC.seq ?_ | refine VC.block ?_ | refine VC.skip ?_)
        refine VC.exit ?_
        have hkn : k = en := by omega
        rw [hkn, List.take_of_length_le (by omega), hw1, hw2]
        rw [hkn, List.take_of_length_le (by omega), hw1] at hba
        rw [hkn, List.take_of_length_le (by omega), hw2] at hbb
        repeat (first | refine VC.seq ?_ | refine VC.block ?_ | refine VC.skip ?_)
        refine VC.region ?_
        refine VR.pure rfl rfl (p_moveI rfl) ?_
        refine VR.pure rfl rfl (p_gt rfl rfl) ?_
        refine VR.nil ?_
        repeat (first | refine VC.seq ?_ | refine VC.block ?_ | refine VC.skip ?_)
        refine VC.condD rfl (fun q16 => ?_) (fun q16 => ?_)
        · repeat (first | refine VC.seq ?_ | refine VC.block ?_ | refine VC.skip ?_)
          refine VC.region ?_
          refine VR.pure rfl rfl (p_moveI rfl) ?_
          refine VR.pure rfl rfl (p_add64 rfl rfl (by omega)) ?_
          refine VR.pure rfl rfl (p_assignI rfl) ?_
          refine VR.nil ?_
          repeat (first | refine VC.seq ?_ | refine VC.block ?_ | refine VC.skip ?_)
          refine VC.region ?_
          refine VR.pure rfl rfl (p_moveI rfl) ?_
          refine VR.pure rfl rfl (p_mul64 rfl rfl (by omega)) ?_
          refine VR.pure rfl rfl (p_moveI rfl) ?_
          refine VR.pure rfl rfl (p_gt rfl rfl) ?_
          refine VR.nil ?_
          repeat (first | refine VC.seq ?_ | refine VC.block ?_ | refine VC.skip ?_)
          refine VC.condD rfl (fun q18 => ?_) (fun q18 => ?_)
          · repeat (first | refine VC.seq ?_ | refine VC.block ?_ | refine VC.skip ?_)
            refine VC.region ?_
            refine VR.pure rfl rfl (p_moveI rfl) ?_
            refine VR.pure rfl rfl (p_add64 rfl rfl (by omega)) ?_
            refine VR.pure rfl rfl (p_assignI rfl) ?_
            refine VR.nil ?_
            repeat (first | refine VC.seq ?_ | refine VC.block ?_ | refine VC.skip ?_)
            refine VC.region ?_
            refine VR.pure rfl rfl (p_moveI rfl) ?_
            refine VR.pure rfl rfl (p_add64 rfl rfl (by omega)) ?_
            refine VR.pure rfl rfl (p_assignI rfl) ?_
            refine VR.nil ?_
            refine ⟨q + 1, ⟨rfl, rfl, congrArg (Value.int .i64) ?_, congrArg (Value.int .i64) ?_, rfl, trivial⟩, ⟨hm, by omega⟩, by omega⟩
            · rw [cnt_t (P := fun g => decide (0 < wsum (fun _ => true) g ems)) (decide_eq_true q16)]
            · rw [cnt_t (P := fun g => decide (wsum (fun _ => true) g ems < 2 * wsum (fun m => decide (m.id ∈ ids)) g ems)) (decide_eq_true (by omega))]
          · repeat (first | refine VC.seq ?_ | refine VC.block ?_ | refine VC.skip ?_)
            repeat (first | refine VC.seq ?_ | refine VC.block ?_ | refine VC.skip ?_)
            refine VC.region ?_
            refine VR.pure rfl rfl (p_moveI rfl) ?_
            refine VR.pure rfl rfl (p_add64 rfl rfl (by omega)) ?_
            refine VR.pure rfl rfl (p_assignI rfl) ?_
            refine VR.nil ?_
            refine ⟨q + 1, ⟨rfl, rfl, congrArg (Value.int .i64) ?_, congrArg (Value.int .i64) ?_, rfl, trivial⟩, ⟨hm, by omega⟩, by omega⟩
            · rw [cnt_t (P := fun g => decide (0 < wsum (fun _ => true) g ems)) (decide_eq_true q16)]
            · rw [cnt_f (P := fun g => decide (wsum (fun _ => true) g ems < 2 * wsum (fun m => decide (m.id ∈ ids)) g ems)) (fun x => q18 (of_decide_eq_true x))]
        · have hmono : wsum (fun m => decide (m.id ∈ ids)) q ems ≤ wsum (fun _ => true) q ems := wsum_le _ q ems hfit
          repeat (first | refine VC.seq ?_ | refine VC.block ?_ | refine VC.skip ?_)
          repeat (first | refine VC.seq ?_ | refine VC.block ?_ | refine VC.skip ?_)
          refine VC.region ?_
          refine VR.pure rfl rfl (p_moveI rfl) ?_
          refine VR.pure rfl rfl (p_add64 rfl rfl (by omega)) ?_
          refine VR.pure rfl rfl (p_assignI rfl) ?_
          refine VR.nil ?_
          refine ⟨q + 1, ⟨rfl, rfl, congrArg (Value.int .i64) ?_, congrArg (Value.int .i64) ?_, rfl, trivial⟩, ⟨hm, by omega⟩, by omega⟩
          · rw [cnt_f (P := fun g => decide (0 < wsum (fun _ => true) g ems)) (fun x => q16 (of_decide_eq_true x))]
          · rw [cnt_f (P := fun g => decide (wsum (fun _ => true) g ems < 2 * wsum (fun m => decide (m.id ∈ ids)) g ems)) (fun x => by have := of_decide_eq_true x; omega)]
    · repeat (first | refine VC.seq ?_ | refine VC.block ?_ | refine VC.skip ?_)
      refine VC.exit ?_
      obtain rfl : q = 7 := by omega
      repeat (first | refine VC.seq ?_ | refine VC.block ?_ | refine VC.skip ?_)
      refine VC.region ?_
      refine VR.pure rfl rfl (p_moveI rfl) ?_
      refine VR.pure rfl rfl (p_mul64 rfl rfl (by omega)) ?_
      refine VR.pure rfl rfl (p_moveI rfl) ?_
      refine VR.pure rfl rfl (p_gt rfl rfl) ?_
      refine VR.pure rfl rfl (p_assignB rfl) ?_
      refine VR.nil ?_
      repeat (first | refine VC.seq ?_ | refine VC.block ?_ | refine VC.skip ?_)
      refine VC.ret ⟨_, ResOf.r1 (v := .bool _) rfl rfl, ?_⟩
      refine ⟨?_, hm.pop⟩
      unfold quorumE
      rw [decide_eq_true hck]
      rfl
set_option maxHeartbeats 1000000 in
theorem rall_c {B A : Option Addr} {m d n c : Nat} {es : List En} {ids : List Int} (hm : Mem F w Ls) (hmm : m ≤ maxLen) (hes : ERow F.heap B m es) (hn : n ≤ maxLen) (hr : Row F.heap A n (ids.map (Value.int .i64))) :
    Calls Try.prog 39 #[.slice B m d, .slice A n c] w (Ret fun v w' => v = .bool (allA (es.map En.abs) ids) ∧ Mem F w' Ls) := by
  have hl := hes.len
  unfold maxLen at hmm
  have hall : allA (es.map En.abs) ids = (decide (0 < es.length) && es.all fun e => quorumE e.ver e.ms ids) := by
    unfold allA
    rw [List.length_map, List.all_map]
    rfl
  rw [hall]
  refine Calls.of_vc Try.func39 rfl Try.ntmps39 rfl ?_
  repeat (first | refine VC.seq ?_ | refine VC.block ?_ | refine VC.skip ?_)
  refine VC.region ?_
  refine VR.pure rfl rfl (p_assignB rfl) ?_
  refine VR.nil ?_
  repeat (first | refine VC.seq ?_ | refine VC.block ?_ | refine VC.skip ?_)
  refine VC.region ?_
  refine VR.pure rfl rfl (p_assignI rfl) ?_
  refine VR.nil ?_
  repeat (first | refine VC.seq ?_ | refine VC.block ?_ | refine VC.skip ?_)
  refine VC.loop (σ := Nat) (fun k => [(0, .slice B m d), (1, .slice A n c), (5, .int .i64 k)]) (fun k w => Mem F w Ls ∧ k ≤ m ∧ ∀ e ∈ es.take k, quorumE e.ver e.ms ids = true) (fun k => m - k) 0 ⟨rfl, rfl, rfl, trivial⟩ ⟨hm, by omega, by simp⟩ ?_
  clear hm
  rintro k A' w ⟨hm, hk, hq⟩
  repeat (first | refine VC.seq ?_ | refine VC.block ?_ | refine VC.skip ?_)
  refine VC.region ?_
  refine VR.pure rfl rfl (p_moveI rfl) ?_
  refine VR.pure rfl rfl (p_moveL rfl) ?_
  refine VR.pure rfl rfl (p_len Try.underlying23 rfl) ?_
  refine VR.pure rfl rfl (p_lt rfl rfl) ?_
  refine VR.nil ?_
  repeat (first | refine VC.seq ?_ | refine VC.block ?_ | refine VC.skip ?_)
  refine VC.condD rfl (fun h => ?_) (fun h => ?_)
  · have hk' : k < m := by omega
    obtain ⟨e, he, hem⟩ := get_of (xs := es) (k := k) (by omega)
    obtain ⟨b, off, blk, T, fr, rfl, hb, hcc⟩ := hes.row.elem En.len (by decide) (by omega)
    have hok := hes.each e hem
    repeat (first | refine VC.seq ?_ | refine VC.block ?_ | refine VC.skip ?_)
    refine VC.region ?_
    refine VR.pure rfl rfl (p_moveL rfl) ?_
    refine VR.pure rfl rfl (p_moveI rfl) ?_
    refine VR.pure rfl rfl (p_idxN Try.underlying23 Try.sizeOf42 rfl rfl hk') ?_
    refine VR.val rfl rfl (r_loadAgg (vs := [.int .i64 e.ver, .slice e.A e.n e.c]) Try.isAgg42 Try.sizeOf42 rfl (hm.fix _ _ hb) rfl (hcc k e he)) ?_
    refine VR.pure rfl rfl (p_moveL rfl) ?_
    refine VR.call rfl rfl (r_call2 Try.call60 rfl rfl) (rquorum_c (e := e) hm (Nat.le_trans hok.2.1 hok.2.2) hok.1 hn hr) ?_
    rintro _ w ⟨rfl, hm⟩
    refine VR.pure rfl rfl (p_not rfl) ?_
    refine VR.nil ?_
    by_cases hqe : quorumE e.ver e.ms ids = true
    · repeat (first | refine VC.seq ?_ | refine VC.block ?_ | refine VC.skip ?_)
      refine VC.condF rfl (by rw [hqe]; rfl) ?_
      repeat (first | refine VC.seq ?_ | refine VC.block ?_ | refine VC.skip ?_)
      refine VC.region ?_
      refine VR.pure rfl rfl (p_moveI rfl) ?_
      refine VR.pure rfl rfl (p_add64 rfl rfl (by omega)) ?_
      refine VR.pure rfl rfl (p_assignI rfl) ?_
      refine VR.nil ?_
      refine ⟨k + 1, ⟨rfl, rfl, rfl, trivial⟩, ⟨hm, by omega, fun x hx => ?_⟩, by omega⟩
      rw [List.take_add_one, he] at hx
      rcases List.mem_append.1 hx with hx | hx
      · exact hq x hx
      · have : x = e := by simpa using hx
        rw [this]
        exact hqe
    · repeat (first | refine VC.seq ?_ | refine VC.block ?_ | refine VC.skip ?_)
      refine VC.condT rfl (by rw [Bool.not_eq_true _ |>.mp hqe]; rfl) ?_
      repeat (first | refine VC.seq ?_ | refine VC.block ?_ | refine VC.skip ?_)
      refine VC.region ?_
      refine VR.pure rfl rfl (p_assignB rfl) ?_
      refine VR.nil ?_
      repeat (first | refine VC.seq ?_ | refine VC.block ?_ | refine VC.skip ?_)
      refine VC.ret ⟨_, ResOf.r1 (v := .bool _) rfl rfl, ?_⟩
      refine ⟨congrArg Value.bool ?_, hm⟩
      have h0 : (es.all fun e => quorumE e.ver e.ms ids) = false := by
        rw [List.all_eq_false]
        exact ⟨e, hem, hqe⟩
      rw [h0, Bool.and_false]
  · repeat (first | refine VC.seq ?_ | refine VC.block ?_ | refine VC.skip ?_)
    refine VC.exit ?_
    rw [List.take_of_length_le (by omega)] at hq
    repeat (first | refine VC.seq ?_ | refine VC.block ?_ | refine VC.skip ?_)
    refine VC.region ?_
    refine VR.pure rfl rfl (p_moveL rfl) ?_
    refine VR.pure rfl rfl (p_len Try.underlying23 rfl) ?_
    refine VR.pure rfl rfl (p_gt rfl rfl) ?_
    refine VR.pure rfl rfl (p_assignB rfl) ?_
    refine VR.nil ?_
    repeat (first | refine VC.seq ?_ | refine VC.block ?_ | refine VC.skip ?_)
    refine VC.ret ⟨_, ResOf.r1 (v := .bool _) rfl rfl, ?_⟩
    refine ⟨congrArg Value.bool ?_, hm⟩
    rw [List.all_eq_true.2 hq, Bool.and_true]
    exact decide_eq_decide.2 (by rw [hl]; omega)
theorem cmp_pos {a b : Int} : (cmpI a b = 0 ↔ a = b) ∧ (0 < cmpI a b ↔ b < a) := by
  unfold cmpI
  by_cases h : a < b
  · rw [if_pos h]
    constructor
    · constructor <;> intro <;> omega
    · constructor <;> intro <;> omega
  · rw [if_neg h]
    by_cases h2 : b < a
    · rw [if_pos h2]
      constructor
      · constructor <;> intro <;> omega
      · constructor <;> intro <;> omega
    · rw [if_neg h2]
      constructor
      · constructor <;> intro <;> omega
      · constructor <;> intro <;> omega
theorem better_eq (u v : Vt) : betterV u v = (if u.e ≠ v.e then decide (v.e < u.e) else if u.z ≠ v.z then decide (v.z < u.z) else decide (v.l < u.l)) := by
  unfold betterV
  show decide (0 < if cmpI u.e v.e ≠ 0 then cmpI u.e v.e else if cmpI u.z v.z ≠ 0 then cmpI u.z v.z else if cmpI u.l v.l ≠ 0 then cmpI u.l v.l else 0) = _
  by_cases h1 : u.e = v.e
  · rw [if_neg (not_not_intro ((cmp_pos (a := u.e) (b := v.e)).1.2 h1)), if_neg (not_not_intro h1)]
    by_cases h2 : u.z = v.z
    · rw [if_neg (not_not_intro ((cmp_pos (a := u.z) (b := v.z)).1.2 h2)), if_neg (not_not_intro h2)]
      by_cases h3 : u.l = v.l
      · rw [if_neg (not_not_intro ((cmp_pos (a := u.l) (b := v.l)).1.2 h3))]
        exact decide_eq_decide.2 (by omega)
      · rw [if_pos (fun e => h3 ((cmp_pos (a := u.l) (b := v.l)).1.1 e))]
        exact decide_eq_decide.2 (cmp_pos (a := u.l) (b := v.l)).2
    · rw [if_pos (fun e => h2 ((cmp_pos (a := u.z) (b := v.z)).1.1 e)), if_pos h2]
      exact decide_eq_decide.2 (cmp_pos (a := u.z) (b := v.z)).2
  · rw [if_pos (fun e => h1 ((cmp_pos (a := u.e) (b := v.e)).1.1 e)), if_pos h1]
    exact decide_eq_decide.2 (cmp_pos (a := u.e) (b := v.e)).2
theorem rbetter_c {v u : Vt} (hm : Mem F w Ls) : Calls Try.prog 38 #[.agg #[.int .i64 v.l, .int .i64 v.e, .int .i64 v.z], .agg #[.int .i64 u.l, .int .i64 u.e, .int .i64 u.z]] w (Ret fun r w' => r = .bool (betterV v u) ∧ Mem F w' Ls) := by
  rw [better_eq]
  refine Calls.of_vc Try.func38 rfl Try.ntmps38 rfl ?_
  repeat (first | refine VC.seq ?_ | refine VC.block ?_ | refine VC.skip ?_)
  refine VC.region ?_
  refine VR.new hm rfl rfl (n_boxG rfl) ?_
  intro b2 w hm
  refine VR.new hm rfl rfl (n_boxG rfl) ?_
  intro b3 w hm
  refine VR.pure rfl rfl (p_assignB rfl) ?_
  refine VR.nil ?_
  repeat (first | refine VC.seq ?_ | refine VC.block ?_ | refine VC.skip ?_)
  refine VC.region ?_
  refine VR.pure rfl rfl (p_field (fo := 1) Try.underlying83 rfl Try.sizeOf3 rfl rfl rfl) ?_
  refine VR.val rfl rfl (r_load (v := .int _ _) Try.isAgg3 rfl (hm.at_ 1 0 rfl) rfl) ?_
  refine VR.pure rfl rfl (p_field (fo := 1) Try.underlying83 rfl Try.sizeOf3 rfl rfl rfl) ?_
  refine VR.val rfl rfl (r_load (v := .int _ _) Try.isAgg3 rfl (hm.at_ 0 0 rfl) rfl) ?_
  refine VR.pure rfl rfl (p_ne rfl rfl) ?_
  refine VR.nil ?_
  repeat (first | refine VC.seq ?_ | refine VC.block ?_ | refine VC.skip ?_)
  refine VC.condD rfl (fun h1 => ?_) (fun h1 => ?_)
  · repeat (first | refine VC.seq ?_ | refine VC.block ?_ | refine VC.skip ?_)
    refine VC.region ?_
    refine VR.pure rfl rfl (p_field (fo := 1) Try.underlying83 rfl Try.sizeOf3 rfl rfl rfl) ?_
    refine VR.val rfl rfl (r_load (v := .int _ _) Try.isAgg3 rfl (hm.at_ 1 0 rfl) rfl) ?_
    refine VR.pure rfl rfl (p_field (fo := 1) Try.underlying83 rfl Try.sizeOf3 rfl rfl rfl) ?_
    refine VR.val rfl rfl (r_load (v := .int _ _) Try.isAgg3 rfl (hm.at_ 0 0 rfl) rfl) ?_
    refine VR.pure rfl rfl (p_gt rfl rfl) ?_
    refine VR.pure rfl rfl (p_assignB rfl) ?_
    refine VR.nil ?_
    repeat (first | refine VC.seq ?_ | refine VC.block ?_ | refine VC.skip ?_)
    refine VC.ret ⟨_, ResOf.r1 (v := .bool _) rfl rfl, ?_⟩
    rw [if_pos h1]
    exact ⟨rfl, hm.pop.pop⟩
  · repeat (first | refine VC.seq ?_ | refine VC.block ?_ | refine VC.skip ?_)
    refine VC.region ?_
    refine VR.pure rfl rfl (p_field (fo := 2) Try.underlying83 rfl Try.sizeOf22 rfl rfl rfl) ?_
    refine VR.val rfl rfl (r_load (v := .int _ _) Try.isAgg22 rfl (hm.at_ 1 0 rfl) rfl) ?_
    refine VR.pure rfl rfl (p_field (fo := 2) Try.underlying83 rfl Try.sizeOf22 rfl rfl rfl) ?_
    refine VR.val rfl rfl (r_load (v := .int _ _) Try.isAgg22 rfl (hm.at_ 0 0 rfl) rfl) ?_
    refine VR.pure rfl rfl (p_ne rfl rfl) ?_
    refine VR.nil ?_
    repeat (first | refine VC.seq ?_ | refine VC.block ?_ | refine VC.skip ?_)
    refine VC.condD rfl (fun h3 => ?_) (fun h3 => ?_)
    · repeat (first | refine VC.seq ?_ | refine VC.block ?_ | refine VC.skip ?_)
      refine VC.region ?_
      refine VR.pure rfl rfl (p_field (fo := 2) Try.underlying83 rfl Try.sizeOf22 rfl rfl rfl) ?_
      refine VR.val rfl rfl (r_load (v := .int _ _) Try.isAgg22 rfl (hm.at_ 1 0 rfl) rfl) ?_
      refine VR.pure rfl rfl (p_field (fo := 2) Try.underlying83 rfl Try.sizeOf22 rfl rfl rfl) ?_
      refine VR.val rfl rfl (r_load (v := .int _ _) Try.isAgg22 rfl (hm.at_ 0 0 rfl) rfl) ?_
      refine VR.pure rfl rfl (p_gt rfl rfl) ?_
      refine VR.pure rfl rfl (p_assignB rfl) ?_
      refine VR.nil ?_
      repeat (first | refine VC.seq ?_ | refine VC.block ?_ | refine VC.skip ?_)
      refine VC.ret ⟨_, ResOf.r1 (v := .bool _) rfl rfl, ?_⟩
      rw [if_neg h1, if_pos h3]
      exact ⟨rfl, hm.pop.pop⟩
    · repeat (first | refine VC.seq ?_ | refine VC.block ?_ | refine VC.skip ?_)
      refine VC.region ?_
      refine VR.pure rfl rfl (p_field (fo := 0) Try.underlying83 rfl Try.sizeOf3 rfl rfl rfl) ?_
      refine VR.val rfl rfl (r_load (v := .int _ _) Try.isAgg3 rfl (hm.at_ 1 0 rfl) rfl) ?_
      refine VR.pure rfl rfl (p_field (fo := 0) Try.underlying83 rfl Try.sizeOf3 rfl rfl rfl) ?_
      refine VR.val rfl rfl (r_load (v := .int _ _) Try.isAgg3 rfl (hm.at_ 0 0 rfl) rfl) ?_
      refine VR.pure rfl rfl (p_gt rfl rfl) ?_
      refine VR.pure rfl rfl (p_assignB rfl) ?_
      refine VR.nil ?_
      repeat (first | refine VC.seq ?_ | refine VC.block ?_ | refine VC.skip ?_)
      refine VC.ret ⟨_, ResOf.r1 (v := .bool _) rfl rfl, ?_⟩
      rw [if_neg h1, if_neg h3]
      exact ⟨rfl, hm.pop.pop⟩
end
end Go.Bd
